import Derived.Test.YtmemomfffehnkaaPK
import Derived.Test.YtmemomfffehnkaaPJ
import Derived.Test.YtmemomfffehnkaaPL
import Derived.Test.YtmemomfffehnkaaPG
import Derived.Test.YtmemomfffehnkaaPF
import Derived.Test.YtmemomfffehnkaaPE
import Derived.Test.YtmemomfffehnkaaPI
namespace Go.Proofs.Ytmemomfffehnkaa
open Go Go.RowKit
set_option maxRecDepth 1000000
set_option linter.unusedSimpArgs false
set_option linter.unusedVariables false
set_option maxHeartbeats 1000000
/-- The rank of a matrix modulo p. -/
noncomputable def rnk (p : Int) (M : List (List Int)) : Nat := (redS p (modM p M) (atR M 0).length).2.length
theorem rnk_nil (p : Int) : rnk p [] = 0 := by
  have e : modM p [] = [] := List.length_eq_zero_iff.1 (by simp)
  unfold rnk
  rw [e, redS_nil]
  rfl
theorem rnk_le {p : Int} {M : List (List Int)} (hp : fpP p) (h : ∀ i, i < M.length → (atR M i).length = (atR M 0).length) : rnk p M ≤ M.length := by
  have := (redI_all hp (okM_mod (p := p) hp h) (atR M 0).length)
  have h1 := this.hp
  have h2 := this.hl
  rw [modM_len] at h2
  unfold rnk
  omega
theorem rnk_wide {p : Int} {M : List (List Int)} (h : (atR M 0).length = 0) : rnk p M = 0 := by
  unfold rnk
  rw [h]
  rfl
noncomputable def F_i_rankOf : List V → Option V := F2 dLL dI fun M p => @ite _ (fpP p ∧ recM M) (Classical.propDecidable _) (some (.int .i64 (rnk p M : Nat))) none
/-- The rank of the border from size k to size k - 1. -/
noncomputable def rkZ (p : Int) (q : Int → Prop) (k : Int) : Int := (rnk p (sgnM (szS q (k - 1)) (szS q k)) : Nat)
theorem rec_sgn (R C : List Int) (hR : R.length ≤ 64) (hC : C.length ≤ 64) : recM (sgnM R C) := by
  have h : ∀ i, i < (sgnM R C).length → (atR (sgnM R C) i).length = C.length := fun i hi => by
    rw [sgnM_len] at hi
    rw [sgnM_at hi]
    simp
  refine ⟨⟨by rw [sgnM_len]; exact hR, fun i hi => by rw [h i hi]; omega⟩, fun i hi => ?_⟩
  rw [h i hi, h 0 (by omega)]
theorem rkZ_bnd {p : Int} (hp : fpP p) (q : Int → Prop) (k : Int) : 0 ≤ rkZ p q k ∧ rkZ p q k ≤ 64 := by
  have h := (rec_sgn (szS q (k - 1)) (szS q k) (szS_len _ _) (szS_len _ _)).2
  have h1 := rnk_le hp h
  rw [sgnM_len] at h1
  have h2 := szS_len q (k - 1)
  unfold rkZ
  omega
theorem rkZ_low (p : Int) (q : Int → Prop) : rkZ p q 0 = 0 := by
  have e : szS q (0 - 1) = [] := szS_none (by omega)
  unfold rkZ
  rw [e]
  show ((rnk p [] : Nat) : Int) = 0
  rw [rnk_nil]
  rfl
theorem rkZ_high (p : Int) (q : Int → Prop) {k : Int} (h : topZ q < k) : rkZ p q k = 0 := by
  have e : szS q k = [] := szS_none (by omega)
  unfold rkZ
  rw [e]
  rw [rnk_wide]
  · rfl
  · by_cases h0 : 0 < (szS q (k - 1)).length
    · rw [sgnM_at h0]; rfl
    · have : szS q (k - 1) = [] := List.length_eq_zero_iff.1 (by omega)
      rw [this]; rfl
theorem rkZ_congr {p : Int} {q q2 : Int → Prop} (h : ∀ s, isS s → (q s ↔ q2 s)) (k : Int) : rkZ p q k = rkZ p q2 k := by
  unfold rkZ
  rw [szS_congr h, szS_congr h]
noncomputable def holV (p : Int) (q : Int → Prop) (k : Nat) : Int := ((szS q k).length : Nat) - rkZ p q k - rkZ p q (k + 1)
/-- The holes of a family modulo p. -/
noncomputable def holL (p : Int) (q : Int → Prop) : List Int := rowF (topZ q + 1).toNat (holV p q)
theorem holL_congr {p : Int} {q q2 : Int → Prop} (h : ∀ s, isS s → (q s ↔ q2 s)) : holL p q = holL p q2 := by
  unfold holL
  rw [topZ_congr h]
  refine rowF_congr fun k _ => ?_
  unfold holV
  rw [szS_congr h, rkZ_congr h, rkZ_congr h]
theorem holL_len (p : Int) (q : Int → Prop) : (holL p q).length = (topZ q + 1).toNat ∧ (holL p q).length ≤ 7 := by
  have := topZ_bnd q
  unfold holL
  rw [rowF_len]
  omega
open Classical in
noncomputable def hmL (n : Int) (l : List Int) (p : Int) : List Int := if cplx n l ∧ fpP p then holL p (faceS l) else []
noncomputable def F_s_HolesMod : List V → Option V := F2 dC dI fun c p => some (.own 1 (ints (hmL c.1 c.2 p)))
end Go.Proofs.Ytmemomfffehnkaa
namespace Go.Proofs.Ytmemomfffehnkaa
open Go Go.RowKit
set_option maxRecDepth 1000000
set_option linter.unusedSimpArgs false
set_option linter.unusedVariables false
set_option maxHeartbeats 1000000
def sc_s_l13Rank : SC := (.seq (.reg [⟨(some 4), none, (.mov (.c (.int .i64 0)))⟩]) (.seq (.reg [⟨(some 8), none, (.mov (.t 0))⟩, ⟨(some 9), none, (.mov (.t 1))⟩, ⟨(some 10), none, (.call 133 [(.t 8), (.t 9)])⟩, ⟨(some 7), none, (.mov (.t 10))⟩, ⟨(some 11), none, (.ext 0 (.t 7))⟩, ⟨(some 12), none, (.ext 1 (.t 7))⟩, ⟨(some 5), none, (.mov (.t 11))⟩, ⟨(some 6), none, (.mov (.t 12))⟩]) (.seq (.reg [⟨(some 13), none, (.mov (.t 6))⟩, ⟨(some 14), none, (.len (.t 13))⟩, ⟨(some 4), none, (.mov (.t 14))⟩]) .ret)))
theorem code_s_l13Rank : fnCode Try.prog [] 142 = some (15, sc_s_l13Rank, [(4, none)]) := by kernel_rfl
theorem fn_s_l13Rank : FnOk Try.prog 142 F_i_rankOf := by
  have env := (envNil_ok (P := Try.prog)).add fn_s_l13Reduce
  refine fn_ok code_s_l13Rank mixed env ?_
  intro args r h hb
  obtain ⟨_, _, M, p, rfl, h1, h2, h4⟩ := F2_inv h
  cases dLL_inv h1
  cases dI_inv h2
  simp only [Option.ite_none_right_eq_some, Option.some.injEq] at h4
  obtain ⟨⟨hp, hrec⟩, rfl⟩ := h4
  clear h
  refine ⟨by simp, fun w0 U0 L0 N0 => ?_⟩
  clear hb
  have hF : F_s_l13Reduce [.list 1 (rowsL M), .int .i64 p] = some (.tup [.own 1 (rowsV (redS p (modM p M) (atR M 0).length).1), .own 1 (ints (redS p (modM p M) (atR M 0).length).2)]) := by
    simp only [F_s_l13Reduce, F2_mk, dLL_list, dI_int, Option.bind_some]
    rw [if_pos ⟨hp, hrec⟩]
  have hr : rnk p M = (redS p (modM p M) (atR M 0).length).2.length := rfl
  rw [hr]
  generalize redS p (modM p M) (atR M 0).length = x at *
  simp -implicitDefEqProofs [sc_s_l13Rank, hF]
end Go.Proofs.Ytmemomfffehnkaa
namespace Go.Proofs.Ytmemomfffehnkaa
open Go Go.RowKit
set_option maxRecDepth 1000000
set_option linter.unusedSimpArgs false
set_option linter.unusedVariables false
set_option maxHeartbeats 1000000
def sc_s_FaceCounts_L2 : SC := (.seq (.seq (.reg [⟨(some 15), none, (.mov (.t 3))⟩, ⟨(some 16), none, (.len (.t 15))⟩, ⟨(some 17), none, (.mov (.t 4))⟩, ⟨(some 18), none, (.mov (.t 5))⟩, ⟨(some 19), none, (.idx 1 (.t 17) (.t 18))⟩, ⟨(some 20), none, (.ld none (.int .i64 0) (.t 19))⟩, ⟨(some 21), none, (.call 156 [(.t 20)])⟩, ⟨(some 22), none, (.bin false .leq (.t 16) (.t 21))⟩]) (.cond (.t 22) .skip (.exit 2))) (.block 3 (.reg [⟨(some 23), none, (.mov (.t 3))⟩, ⟨(some 24), none, (.mks 1 1 [(.int .i64 0)] [(0, (1, (.c (.int .i64 0))))])⟩, ⟨(some 25), none, (.app 1 8 (.t 23) (.t 24))⟩, ⟨(some 3), none, (.mov (.t 25))⟩])))
def sc_s_FaceCounts_L0 : SC := (.seq (.seq (.reg [⟨(some 9), none, (.mov (.t 5))⟩, ⟨(some 10), none, (.mov (.t 4))⟩, ⟨(some 11), none, (.len (.t 10))⟩, ⟨(some 12), none, (.bin false .lss (.t 9) (.t 11))⟩]) (.cond (.t 12) .skip (.exit 0))) (.seq (.block 1 (.seq (.block 2 (.loop sc_s_FaceCounts_L2)) (.dreg [⟨⟨(some 26), none, (.mov (.t 3))⟩, false, false⟩, ⟨⟨(some 27), none, (.mov (.t 4))⟩, false, false⟩, ⟨⟨(some 28), none, (.mov (.t 5))⟩, false, false⟩, ⟨⟨(some 29), none, (.idx 1 (.t 27) (.t 28))⟩, false, false⟩, ⟨⟨(some 30), none, (.ld none (.int .i64 0) (.t 29))⟩, false, false⟩, ⟨⟨(some 31), none, (.call 156 [(.t 30)])⟩, false, false⟩, ⟨⟨(some 32), none, (.mov (.t 3))⟩, false, false⟩, ⟨⟨(some 33), none, (.mov (.t 4))⟩, false, false⟩, ⟨⟨(some 34), none, (.mov (.t 5))⟩, false, false⟩, ⟨⟨(some 35), none, (.idx 1 (.t 33) (.t 34))⟩, false, false⟩, ⟨⟨(some 36), none, (.ld none (.int .i64 0) (.t 35))⟩, false, false⟩, ⟨⟨(some 37), none, (.call 156 [(.t 36)])⟩, false, false⟩, ⟨⟨(some 38), none, (.idx 1 (.t 32) (.t 37))⟩, false, false⟩, ⟨⟨(some 39), none, (.ld none (.int .i64 0) (.t 38))⟩, false, false⟩, ⟨⟨(some 40), none, (.bin false .add (.t 39) (.c (.int .i64 1)))⟩, false, false⟩, ⟨⟨(some 41), none, (.idx 1 (.t 26) (.t 31))⟩, false, false⟩, ⟨⟨none, none, (.st 1 (.t 41) (.t 40))⟩, true, false⟩]))) (.reg [⟨(some 13), none, (.mov (.t 5))⟩, ⟨(some 14), none, (.bin false .add (.t 13) (.c (.int .i64 1)))⟩, ⟨(some 5), none, (.mov (.t 14))⟩])))
def sc_s_FaceCounts : SC := (.seq (.reg [⟨(some 1), none, (.box (.t 0))⟩, ⟨(some 2), none, (.mov (.c .nil))⟩]) (.seq (.reg [⟨(some 6), none, (.mks 0 1 [] [])⟩, ⟨(some 3), none, (.mov (.t 6))⟩]) (.seq (.reg [⟨(some 7), none, (.ld (some 2) .undef (.t 1))⟩, ⟨(some 8), none, (.call 43 [(.t 7)])⟩, ⟨(some 4), none, (.mov (.t 8))⟩]) (.seq (.seq (.reg [⟨(some 5), none, (.mov (.c (.int .i64 0)))⟩]) (.block 0 (.loop sc_s_FaceCounts_L0))) (.seq (.reg [⟨(some 42), none, (.mov (.t 3))⟩, ⟨(some 2), none, (.mov (.t 42))⟩]) .ret)))))
theorem code_s_FaceCounts : fnCode Try.prog [] 141 = some (43, sc_s_FaceCounts, [(2, none)]) := by kernel_rfl
open Classical in
/-- How many faces of each size. -/
noncomputable def fctL (n : Int) (l : List Int) : List Int := if cplx n l then rowF (topZ (faceS l) + 1).toNat (fun z => ((szS (faceS l) z).length : Nat)) else []
noncomputable def F_s_FaceCounts : List V → Option V := F1 dC fun c => some (.own 1 (ints (fctL c.1 c.2)))
theorem at0_takeq {l : List Int} {k q : Nat} (h : q < k) : at0 (l.take k) q = at0 l q := by simp [at0, List.getElem?_take, h]
theorem szRow_grow {m : Nat} {l : List Int} (h : ∀ s ∈ l, sz s < m) : szRow (m + 1) l = szRow m l ++ [0] := by
  unfold szRow
  rw [List.range_succ, List.map_append]
  congr 1
  simp only [List.map_cons, List.map_nil]
  congr 1
  unfold cntZ
  have : l.filter (fun s => dec (sz s = (m : Int))) = [] := List.filter_eq_nil_iff.2 fun s hs => by
    have := h s hs
    rw [dec_false (by omega)]
    simp
  rw [this]
  rfl
theorem fn_s_FaceCounts : FnOk Try.prog 141 F_s_FaceCounts := by
  have env := ((envNil_ok (P := Try.prog)).add fn_s_FacesOf).add fn_s_l2Size
  refine fn_ok code_s_FaceCounts mixed env ?_
  intro args r h hb
  obtain ⟨_, ⟨n, l⟩, rfl, h1, h4⟩ := F1_inv h
  cases dC_inv h1
  cases h4
  clear h
  refine ⟨by simp, fun w0 U0 L0 N0 => ?_⟩
  clear hb
  simp only
  have hL : allS (facesL n l) := allS_setsOf _
  have hLl : (facesL n l).length ≤ 64 := setsOf_len _
  have hso : (facesL n l).Pairwise fun a b => before a b = true := setsOf_sorted _
  have hres : ∀ m : Nat, (facesL n l = [] → m = 0) → (facesL n l ≠ [] → sz (at0 (facesL n l) ((facesL n l).length - 1)) + 1 = m) → (∀ q, q < (facesL n l).length → sz (at0 (facesL n l) q) < m) → fctL n l = szRow m (facesL n l) := by
    intro m h1 h2 h3
    unfold fctL
    by_cases hc : cplx n l
    · rw [if_pos hc]
      have hm : (topZ (faceS l) + 1).toNat = m := by
        have hf := facesL_of hc
        have htb := topZ_bnd (faceS l)
        by_cases he : facesL n l = []
        · rw [h1 he]
          rcases topZ_hit (faceS l) with e | ⟨s, hs, hp, _⟩
          · omega
          · have : s ∈ facesL n l := by rw [hf]; exact mem_setsOf.2 ⟨hs, hp⟩
            rw [he] at this
            simp at this
        · have hpos := List.length_pos_iff.2 he
          have hlast := getD_mem' (l := facesL n l) (j := (facesL n l).length - 1) (by omega)
          have hlast2 := hlast
          rw [hf] at hlast2
          obtain ⟨e1, e2⟩ := mem_setsOf.1 hlast2
          have h4 := topZ_ge e1 e2
          have h5 := h2 he
          rw [← hf] at h4
          rcases topZ_hit (faceS l) with e | ⟨s, hs, hp, e⟩
          · have := sz_nn (at0 (facesL n l) ((facesL n l).length - 1))
            omega
          · have hms : s ∈ facesL n l := by rw [hf]; exact mem_setsOf.2 ⟨hs, hp⟩
            obtain ⟨q, hq, rfl⟩ := getD_mem_iff.1 hms
            have := h3 q hq
            omega
      rw [hm]
      unfold rowF szRow
      refine List.map_congr_left fun z _ => ?_
      unfold cntZ
      rw [facesL_of hc, filt_setsOf]
      rfl
    · rw [if_neg hc]
      have he := facesL_not hc
      rw [h1 he, he]
      rfl
  have hFF : F_s_FacesOf [.agg [.int .i64 n, .list 1 (ints l)]] = some (.own 1 (ints (facesL n l))) := by simp [F_s_FacesOf]
  generalize facesL n l = L at *
  generalize fctL n l = F at *
  simp -implicitDefEqProofs [sc_s_FaceCounts, hFF]
  have inner : ∀ (i m0 z M1 : Nat) (Q : Post) (T0 : Tm), M1 = z + 1 → i < L.length → sz (at0 L i) = z → m0 ≤ z + 1 → (∀ s ∈ L.take i, sz s < m0) → subE T0 [(3, .sl 1 1 0 m0), (4, .sl 2 1 0 L.length), (5, .int .i64 (i : Int))] →
      Q (.exit 2) [(3, .sl 1 1 0 M1), (4, .sl 2 1 0 L.length), (5, .int .i64 (i : Int))] ([(2, ints L), (1, ints (szRow M1 (L.take i))), (0, [.int .i64 n, .list 1 (ints l)])], 3) →
      LoopI ⟨Try.prog, w0, U0, L0, N0, 0, 43⟩ [] sc_s_FaceCounts_L2 Q T0 ([(2, ints L), (1, ints (szRow m0 (L.take i))), (0, [.int .i64 n, .list 1 (ints l)])], 3) := by
    intro i m0 z M1 Q T0 hM1 hi hz hm hlow hsub q1
    subst hM1
    have hf := allS_at hL hi
    have h6 := sz_six hf
    have r1 : at0 L i < 9223372036854775808 := by have := hf.2; omega
    refine loopQ env mixed (fun j : Nat => [(3, .sl 1 1 0 j), (4, .sl 2 1 0 L.length), (5, .int .i64 (i : Int))]) (fun j => ([(2, ints L), (1, ints (szRow j (L.take i))), (0, [.int .i64 n, .list 1 (ints l)])], 3)) (fun j => m0 ≤ j ∧ j ≤ z + 1) (fun j => z + 1 - j) m0 ⟨by omega, hm⟩ (SubI.slots (by simp) (by simpa using hsub)) ?_
    rintro j ⟨hj1, hj2⟩
    by_cases hlt : j ≤ z
    · have hlt' : (j : Int) ≤ (z : Int) := by omega
      have hgr := szRow_grow (m := j) (l := L.take i) fun s hs => by have := hlow s hs; omega
      have hgl := szRow_len j (L.take i)
      generalize szRow j (L.take i) = g at *
      simp -implicitDefEqProofs [sc_s_FaceCounts_L2, F_s_l2Size, hi, r1, hz, hlt, hlt', hgl]
      repeat' (first | omega | apply And.intro)
      refine Again.of (j + 1) ⟨by omega, by omega⟩ (by omega) (SubI.ren (fun m => if m = 0 then some 0 else if m = 1 then some 4 else if m = 2 then some 2 else none) ?_ ?_ ?_ (by simp) (by simp))
      · simp (disch := omega) [subT, renV, ren1, wrapI]
      · have htk : g.take j = g := List.take_of_length_le (by omega)
        simp [subH, hgr, renL, ren1, htk]
        rw [← ints_app]
        rfl
      · intro m hm
        simp only at hm
        rw [if_neg (by omega), if_neg (by omega), if_neg (by omega)]
    · have : j = z + 1 := by omega
      subst this
      have hlt' : ¬ ((z : Int) + 1 ≤ (z : Int)) := by omega
      simp -implicitDefEqProofs [sc_s_FaceCounts_L2, F_s_l2Size, hi, r1, hz, hlt']
      exact SubQ.of (SubI.slots rfl (by simp)) q1
  refine loopI env mixed (fun x : Nat × Nat => [(3, .sl 1 1 0 x.2), (4, .sl 2 1 0 L.length), (5, .int .i64 (x.1 : Int))]) (fun x => ([(2, ints L), (1, ints (szRow x.2 (L.take x.1))), (0, [.int .i64 n, .list 1 (ints l)])], 3))
    (fun x => x.1 ≤ L.length ∧ (x.1 = 0 → x.2 = 0) ∧ (0 < x.1 → sz (at0 L (x.1 - 1)) + 1 = x.2) ∧ ∀ q, q < x.1 → sz (at0 L q) < x.2) (fun x => L.length - x.1) (0, 0) ⟨by simp, by simp, by simp, by simp⟩ (SubI.slots (by simp [szRow]) (by simp)) ?_
  rintro ⟨i, m⟩ ⟨hi, hm0, hm1, hq⟩
  simp only at hi hm0 hm1 hq
  by_cases hlt : i < L.length
  · have hf := allS_at hL hlt
    have h6 := sz_six hf
    have r1 : at0 L i < 9223372036854775808 := by have := hf.2; omega
    obtain ⟨z, hz⟩ : ∃ z : Nat, sz (at0 L i) = z := ⟨(sz (at0 L i)).toNat, by have := sz_nn (at0 L i); omega⟩
    have hmz : m ≤ z + 1 := by
      by_cases h0 : i = 0
      · rw [hm0 h0]; omega
      · have h1 := hm1 (by omega)
        have h2 := before_at hso (show i - 1 < i by omega) hlt
        simp only [before, decide_eq_true_eq] at h2
        omega
    have hlow : ∀ s ∈ L.take i, sz s < m := fun s hs => by
      obtain ⟨q, hq1, rfl⟩ := getD_mem_iff.1 hs
      rw [List.length_take] at hq1
      rw [at0_takeq (by omega)]
      exact hq q (by omega)
    have hcb := cntZ_bnd L i z
    have hw2 : IntKind.i64.wrap (cntZ (L.take i) z + 1) = cntZ (L.take i) z + 1 := wrapI _ (by omega) (by omega)
    have hF2 : F_s_l2Size [.int .i64 (at0 L i)] = some (.int .i64 (z : Int)) := by
      simp only [F_s_l2Size, F1_mk, dI_int, Option.bind_some]
      rw [if_pos r1, hz]
    obtain ⟨M1, hM1⟩ : ∃ M1, M1 = z + 1 := ⟨_, rfl⟩
    have hzM : z < M1 := by omega
    have hst := szRow_step (m := M1) hlt hz hzM
    have ha := at0_szRow (m := M1) (z := z) (L.take i) hzM
    have hgl := szRow_len M1 (L.take i)
    have hin := inner i m z M1
    simp -implicitDefEqProofs [sc_s_FaceCounts_L0, hlt]
    refine hin _ _ hM1 hlt hz hmz hlow (by simp) ?_
    simp -implicitDefEqProofs [hF2, hlt, hzM, ha, hw2, hst]
    repeat' (first | omega | apply And.intro)
    refine Again.of (i + 1, M1) ⟨by simp only; omega, by simp, fun _ => by simp only [Nat.add_sub_cancel]; omega, fun q h => ?_⟩ (by simp only; omega) (SubI.slots (by simp) (by simp (disch := omega) [wrapI]))
    simp only at h ⊢
    rcases Nat.lt_succ_iff_lt_or_eq.1 h with h1 | rfl
    · have := hq q h1; omega
    · omega
  · have : i = L.length := by omega
    subst this
    rw [hres m (fun e => hm0 (by rw [e]; rfl)) (fun e => hm1 (List.length_pos_iff.2 e)) hq]
    have htk : (szRow m L).take m = szRow m L := szRow_take m L
    simp -implicitDefEqProofs [sc_s_FaceCounts_L0]
end Go.Proofs.Ytmemomfffehnkaa
namespace Go.Proofs.Ytmemomfffehnkaa
open Go Go.RowKit
set_option maxRecDepth 1000000
set_option linter.unusedSimpArgs false
set_option linter.unusedVariables false
set_option maxHeartbeats 1000000
def sc_s_HolesMod_L0 : SC := (.seq (.seq (.reg [⟨(some 17), none, (.mov (.t 8))⟩, ⟨(some 18), none, (.mov (.t 6))⟩, ⟨(some 19), none, (.len (.t 18))⟩, ⟨(some 20), none, (.bin false .lss (.t 17) (.t 19))⟩]) (.cond (.t 20) .skip (.exit 0))) (.seq (.block 1 (.seq (.reg [⟨(some 9), none, (.mov (.c (.int .i64 0)))⟩]) (.seq (.seq (.reg [⟨(some 23), none, (.mov (.t 8))⟩, ⟨(some 24), none, (.bin false .add (.t 23) (.c (.int .i64 1)))⟩, ⟨(some 25), none, (.mov (.t 6))⟩, ⟨(some 26), none, (.len (.t 25))⟩, ⟨(some 27), none, (.bin false .lss (.t 24) (.t 26))⟩]) (.cond (.t 27) (.reg [⟨(some 28), none, (.ld (some 2) .undef (.t 2))⟩, ⟨(some 29), none, (.mov (.t 8))⟩, ⟨(some 30), none, (.bin false .add (.t 29) (.c (.int .i64 1)))⟩, ⟨(some 31), none, (.call 123 [(.t 28), (.t 30)])⟩, ⟨(some 32), none, (.mov (.t 1))⟩, ⟨(some 33), none, (.call 142 [(.t 31), (.t 32)])⟩, ⟨(some 9), none, (.mov (.t 33))⟩]) .skip)) (.seq (.reg [⟨(some 34), none, (.mov (.t 5))⟩, ⟨(some 35), none, (.mov (.t 6))⟩, ⟨(some 36), none, (.mov (.t 8))⟩, ⟨(some 37), none, (.idx 1 (.t 35) (.t 36))⟩, ⟨(some 38), none, (.ld none (.int .i64 0) (.t 37))⟩, ⟨(some 39), none, (.mov (.t 7))⟩, ⟨(some 40), none, (.bin false .sub (.t 38) (.t 39))⟩, ⟨(some 41), none, (.mov (.t 9))⟩, ⟨(some 42), none, (.bin false .sub (.t 40) (.t 41))⟩, ⟨(some 43), none, (.mks 1 1 [(.int .i64 0)] [(0, (1, (.t 42)))])⟩, ⟨(some 44), none, (.app 1 8 (.t 34) (.t 43))⟩, ⟨(some 5), none, (.mov (.t 44))⟩]) (.reg [⟨(some 45), none, (.mov (.t 9))⟩, ⟨(some 7), none, (.mov (.t 45))⟩]))))) (.reg [⟨(some 21), none, (.mov (.t 8))⟩, ⟨(some 22), none, (.bin false .add (.t 21) (.c (.int .i64 1)))⟩, ⟨(some 8), none, (.mov (.t 22))⟩])))
def sc_s_HolesMod : SC := (.seq (.reg [⟨(some 2), none, (.box (.t 0))⟩, ⟨(some 4), none, (.mov (.c .nil))⟩]) (.seq (.reg [⟨(some 10), none, (.mks 0 1 [] [])⟩, ⟨(some 5), none, (.mov (.t 10))⟩]) (.seq (.reg [⟨(some 11), none, (.ld (some 2) .undef (.t 2))⟩, ⟨(some 12), none, (.call 141 [(.t 11)])⟩, ⟨(some 6), none, (.mov (.t 12))⟩]) (.seq (.seq (.reg [⟨(some 13), none, (.mov (.t 1))⟩, ⟨(some 14), none, (.call 25 [(.t 13)])⟩, ⟨(some 15), none, (.un .not (.t 14))⟩]) (.cond (.t 15) (.seq (.reg [⟨(some 16), none, (.mov (.t 5))⟩, ⟨(some 4), none, (.mov (.t 16))⟩]) .ret) .skip)) (.seq (.reg [⟨(some 7), none, (.mov (.c (.int .i64 0)))⟩]) (.seq (.seq (.reg [⟨(some 8), none, (.mov (.c (.int .i64 0)))⟩]) (.block 0 (.loop sc_s_HolesMod_L0))) (.seq (.reg [⟨(some 46), none, (.mov (.t 5))⟩, ⟨(some 4), none, (.mov (.t 46))⟩]) .ret)))))))
theorem code_s_HolesMod : fnCode Try.prog [] 27 = some (47, sc_s_HolesMod, [(4, none)]) := by kernel_rfl
theorem fn_s_HolesMod : FnOk Try.prog 27 F_s_HolesMod := by
  have env := ((((envNil_ok (P := Try.prog)).add fn_s_FaceCounts).add fn_s_IsFieldPrime).add fn_s_l13Border).add fn_s_l13Rank
  refine fn_ok code_s_HolesMod mixed env ?_
  intro args r h hb
  obtain ⟨_, _, ⟨n, l⟩, p, rfl, h1, h2, h4⟩ := F2_inv h
  cases dC_inv h1
  cases dI_inv h2
  cases h4
  clear h
  refine ⟨by simp, fun w0 U0 L0 N0 => ?_⟩
  clear hb
  simp only
  have hFF : F_s_FaceCounts [.agg [.int .i64 n, .list 1 (ints l)]] = some (.own 1 (ints (fctL n l))) := by simp [F_s_FaceCounts]
  by_cases hp : fpP p
  rotate_left
  · have e : hmL n l p = [] := if_neg fun h => hp h.2
    have hd := dec_false hp
    rw [e]
    generalize fctL n l = F at *
    simp -implicitDefEqProofs [sc_s_HolesMod, hFF, F_s_IsFieldPrime, hd]
  have hd := dec_true hp
  have hdef : ∃ m : Nat, m ≤ 7 ∧ (fctL n l).length = m ∧ (hmL n l p).length = m ∧ ∀ k, k < m → cplx n l ∧ topZ (faceS l) + 1 = m ∧ at0 (fctL n l) k = ((szS (faceS l) k).length : Nat) ∧ at0 (hmL n l p) k = holV p (faceS l) k := by
    by_cases hc : cplx n l
    · have htb := topZ_bnd (faceS l)
      have e1 : fctL n l = rowF (topZ (faceS l) + 1).toNat (fun z => ((szS (faceS l) z).length : Nat)) := if_pos hc
      have e2 : hmL n l p = holL p (faceS l) := if_pos ⟨hc, hp⟩
      refine ⟨(topZ (faceS l) + 1).toNat, by omega, by rw [e1, rowF_len], by rw [e2]; exact (holL_len p _).1, fun k hk => ⟨hc, by omega, by rw [e1, rowF_at hk], ?_⟩⟩
      rw [e2]
      exact rowF_at hk
    · have e1 : fctL n l = [] := if_neg hc
      have e2 : hmL n l p = [] := if_neg fun h => hc h.1
      exact ⟨0, by omega, by rw [e1]; rfl, by rw [e2]; rfl, fun k hk => by omega⟩
  obtain ⟨m, hm7, hFl, hOl, hk⟩ := hdef
  generalize fctL n l = F at *
  generalize hmL n l p = O at *
  simp -implicitDefEqProofs [sc_s_HolesMod, hFF, F_s_IsFieldPrime, hd]
  refine loopI env mixed (fun k : Nat => [(1, .int .i64 p), (2, .pt 0 0), (5, .sl 1 1 0 k), (6, .sl 2 1 0 F.length), (7, .int .i64 (rkZ p (faceS l) k)), (8, .int .i64 (k : Int))]) (fun k => ([(2, ints F), (1, ints (O.take k)), (0, [.int .i64 n, .list 1 (ints l)])], 3)) (fun k => k ≤ m) (fun k => m - k) 0 (by simp) (SubI.slots (by simp) (by simp [rkZ_low])) ?_
  intro k hkm
  by_cases hlt : k < m
  · obtain ⟨hc, ht, hf, ho⟩ := hk k hlt
    have hltF : k < F.length := by omega
    have b1 := rkZ_bnd hp (faceS l) k
    have b2 := rkZ_bnd hp (faceS l) ((k : Int) + 1)
    have b3 := szS_len (faceS l) k
    have hv : holV p (faceS l) k = ((szS (faceS l) k).length : Nat) - rkZ p (faceS l) k - rkZ p (faceS l) (k + 1) := rfl
    have hw1 : IntKind.i64.wrap ((k : Int) + 1) = (k : Int) + 1 := wrapI _ (by omega) (by omega)
    have e : O.take (k + 1) = O.take k ++ [((szS (faceS l) k).length : Nat) - rkZ p (faceS l) k - rkZ p (faceS l) (k + 1)] := by rw [take_at (by omega), ho, hv]
    have gl : (O.take k).length = k := by simp; omega
    have hkk : ((k + 1 : Nat) : Int) = (k : Int) + 1 := by omega
    have fin : ∀ T : Tm, subE T [(1, .int .i64 p), (2, .pt 0 0), (5, .sl 1 1 0 (k + 1)), (6, .sl 2 1 0 F.length), (7, .int .i64 (rkZ p (faceS l) ((k : Int) + 1))), (8, .int .i64 ((k : Int) + 1))] → True := fun _ _ => trivial
    by_cases hnx : k + 1 < m
    · have hF1 : F_i_BorderMatrix [.agg [.int .i64 n, .list 1 (ints l)], .int .i64 ((k : Int) + 1)] = some (.own 1 (rowsV (borM n l ((k : Int) + 1)))) := by
        simp only [F_i_BorderMatrix, F2_mk, dC_agg, dI_int, Option.bind_some]
        rw [if_pos ⟨hc, by omega, by omega⟩]
      have hbm : borM n l ((k : Int) + 1) = sgnM (szS (faceS l) ((k : Int) + 1 - 1)) (szS (faceS l) ((k : Int) + 1)) := by
        unfold borM
        rw [szS_fos hc, szS_fos hc]
      have hF2 : F_i_rankOf [.list 1 (rowsL (borM n l ((k : Int) + 1))), .int .i64 p] = some (.int .i64 (rkZ p (faceS l) ((k : Int) + 1))) := by
        rw [hbm]
        simp only [F_i_rankOf, F2_mk, dLL_list, dI_int, Option.bind_some]
        rw [if_pos ⟨hp, rec_sgn _ _ (szS_len _ _) (szS_len _ _)⟩]
        rfl
      have hnI : (k : Int) + 1 < (F.length : Int) := by omega
      generalize borM n l ((k : Int) + 1) = B at *
      generalize szS (faceS l) k = s0 at *
      generalize hr2 : rkZ p (faceS l) ((k : Int) + 1) = r2 at *
      generalize hr1 : rkZ p (faceS l) k = r1 at *
      generalize O.take k = g at *
      have hw2 : IntKind.i64.wrap ((s0.length : Int) - r1) = s0.length - r1 := wrapI _ (by omega) (by omega)
      have hw3 : IntKind.i64.wrap ((s0.length : Int) - r1 - r2) = s0.length - r1 - r2 := wrapI _ (by omega) (by omega)
      simp -implicitDefEqProofs [sc_s_HolesMod_L0, hltF, hw1, hnI, hF1, hF2, hf, hw2, hw3, gl]
      refine ⟨by omega, ?_⟩
      refine Again.of (k + 1) (by omega) (by omega) (SubI.ren (fun m => if m = 0 then some 0 else if m = 1 then some 5 else if m = 2 then some 2 else none) ?_ ?_ ?_ (by simp) (by simp))
      · simp [subT, renV, ren1, hr2]
      · have htk : g.take k = g := List.take_of_length_le (by omega)
        simp [subH, e, renL, ren1, htk]
        rw [← ints_app]
        rfl
      · intro m hm
        simp only at hm
        rw [if_neg (by omega), if_neg (by omega), if_neg (by omega)]
    · have hr0 : rkZ p (faceS l) ((k : Int) + 1) = 0 := rkZ_high p _ (by omega)
      have hnI : ¬ ((k : Int) + 1 < (F.length : Int)) := by omega
      rw [hr0, Int.sub_zero] at e
      generalize szS (faceS l) k = s0 at *
      generalize hr1 : rkZ p (faceS l) k = r1 at *
      generalize O.take k = g at *
      have hw2 : IntKind.i64.wrap ((s0.length : Int) - r1) = s0.length - r1 := wrapI _ (by omega) (by omega)
      simp -implicitDefEqProofs [sc_s_HolesMod_L0, hltF, hw1, hnI, hf, hw2, gl]
      refine ⟨by omega, ?_⟩
      refine Again.of (k + 1) (by omega) (by omega) (SubI.ren (fun m => if m = 0 then some 0 else if m = 1 then some 4 else if m = 2 then some 2 else none) ?_ ?_ ?_ (by simp) (by simp))
      · simp [subT, renV, ren1, hr0]
      · have htk : g.take k = g := List.take_of_length_le (by omega)
        simp [subH, e, renL, ren1, htk]
        rw [← ints_app]
        rfl
      · intro m hm
        simp only at hm
        rw [if_neg (by omega), if_neg (by omega), if_neg (by omega)]
  · have : k = m := by omega
    subst this
    have htk : O.take k = O := List.take_of_length_le (by omega)
    have hltF : ¬ k < F.length := by omega
    simp -implicitDefEqProofs [sc_s_HolesMod_L0, hltF, hFl, htk]
    try omega
end Go.Proofs.Ytmemomfffehnkaa
namespace Go.Proofs.Ytmemomfffehnkaa
open Go Go.RowKit
set_option maxRecDepth 1000000
set_option linter.unusedSimpArgs false
set_option linter.unusedVariables false
set_option maxHeartbeats 1000000
theorem rkZ_W {p : Int} {q : Int → Prop} {k : Int} (h : 0 < (szS q (k - 1)).length) : rkZ p q k = (rkW p (szS q k).length (modM p (sgnM (szS q (k - 1)) (szS q k))) : Nat) := by
  unfold rkZ rnk rkW
  rw [sgnM_at h]
  simp
theorem sgnZ_unit {r s : Int} (h : subS r s) : sgnZ r s = 1 ∨ sgnZ r s = -1 := by
  rw [sgnZ_yes h]
  have := Int.emod_two_eq (sz (band s (bnot s r - 1)))
  omega
theorem rkZ_M {p : Int} {q : Int → Prop} (z : Int) : rkZ p q z = (rkM p (szS q z).length (sgnM (szS q (z - 1)) (szS q z)) : Nat) := by
  by_cases h : 0 < (szS q (z - 1)).length
  · rw [rkZ_W h]; rfl
  · have e : szS q (z - 1) = [] := List.length_eq_zero_iff.1 (by omega)
    have e2 : sgnM (szS q (z - 1)) (szS q z) = [] := by rw [e]; rfl
    unfold rkZ rkM rX
    rw [e2, rnk_nil]
    have e3 : modM p [] = [] := List.length_eq_zero_iff.1 (by simp)
    rw [e3, redS_nil]
    rfl
end Go.Proofs.Ytmemomfffehnkaa
namespace Go.Proofs.Ytmemomfffehnkaa
open Go Go.RowKit
set_option maxRecDepth 1000000
set_option linter.unusedSimpArgs false
set_option linter.unusedVariables false
set_option maxHeartbeats 1000000
theorem band_tb {a : Int} (ha : isS a) {i : Nat} (hi : i < 6) : band a (2 ^ i) = 0 ↔ ¬ tb a i := by
  rw [band_none ha (isS_pow hi)]
  constructor
  · intro h ht
    exact h i hi ⟨ht, (tb_pow hi hi).2 rfl⟩
  · intro h j hj hh
    have := (tb_pow hi hj).1 hh.2
    subst this
    exact h hh.1
theorem bor_tb {a : Int} (ha : isS a) {i : Nat} (hi : i < 6) {j : Nat} (hj : j < 6) : tb (bor a (2 ^ i)) j ↔ tb a j ∨ j = i := by
  rw [tb_bor ha (isS_pow hi) hj, tb_pow hi hj]
  constructor
  · rintro (h | h)
    · exact .inl h
    · exact .inr h.symm
  · rintro (h | h)
    · exact .inl h
    · exact .inr h.symm
theorem addsz_key : ∀ x : Nat, x < 64 → ∀ i : Nat, i < 6 → (x.testBit i || pcF 6 (x ||| 2 ^ i) == pcF 6 x + 1) = true := by decide +kernel
theorem sz_addP {a : Int} (ha : isS a) {i : Nat} (hi : i < 6) (h : ¬ tb a i) : sz (bor a (2 ^ i)) = sz a + 1 := by
  obtain ⟨x, hx, rfl⟩ := isS_nat0 ha
  rw [tb_nat x i hx hi] at h
  have k := addsz_key x hx i hi
  have hp : 2 ^ i < 64 := by
    have : ∀ i : Nat, i < 6 → 2 ^ i < 64 := by decide
    exact this i hi
  have e : bor (x : Int) (2 ^ i) = ((x ||| 2 ^ i : Nat) : Int) := by
    show bitop .or .i64 (x : Int) (2 ^ i) = _
    rw [pow_nat i, bits_or x (2 ^ i) (by omega) (by omega)]
  have hlt : x ||| 2 ^ i < 64 := Nat.or_lt_two_pow (n := 6) (by omega) (by omega)
  rw [e, sz_nat hlt, sz_nat hx]
  simp [h] at k
  omega
end Go.Proofs.Ytmemomfffehnkaa
namespace Go.Proofs.Ytmemomfffehnkaa
open Go Go.RowKit
set_option maxRecDepth 1000000
set_option linter.unusedSimpArgs false
set_option linter.unusedVariables false
set_option maxHeartbeats 1000000
/-- The ranks of two matrices whose product is 0. -/
theorem rk_sum {p : Int} {f w : Nat} {M N : List (List Int)} (hp : fpP p) (hM : ∀ i, i < M.length → (atR M i).length = f) (hN : ∀ i, i < N.length → (atR N i).length = w) (hf : N.length = f) (hc : ∀ j, j < w → sol p f M fun i => at0 (atR N i) j) : rkM p f M + rkM p w N ≤ f := by
  refine Nat.le_of_not_lt fun hlt => ?_
  have hlen := npL_len (p := p) (w := f) (M := M)
  obtain ⟨x, ⟨j0, hj0, hx0⟩, hx⟩ := homog (field_fp hp) (npL p f M).length (rkM p w N) (fun i j => at0 (atR N ((npL p f M)[i]?.getD 0)) (pvJ p w N j)) (by omega)
  have hsol : sol p f M fun i => sumN (rkM p w N) fun j => x j * at0 (atR N i) (pvJ p w N j) := fun i hi => by
    rw [rv_sum]
    refine sumN_dvd fun j hj => ?_
    rw [rv_smul]
    exact Int.dvd_mul_of_dvd_right (hc _ (pvJ_lt hj) i hi)
  have heq : ∀ i : Nat, (sumN (rkM p w N) fun j => x j * at0 (atR N i) (pvJ p w N j)) = sumN (rkM p w N) fun j => at0 (atR N i) (pvJ p w N j) * x j := fun i => sumN_congr fun j _ => Int.mul_comm _ _
  have hall := sol_zero hp hM hsol fun c hcf hnp => by
    have hm : c ∈ npL p f M := by
      unfold npL
      rw [List.mem_filter, List.mem_range, dec_iff]
      exact ⟨hcf, hnp⟩
    obtain ⟨t, ht, e⟩ := List.getElem_of_mem hm
    have h1 := hx t ht
    rw [List.getElem?_eq_getElem ht, Option.getD_some, e] at h1
    rw [heq c]
    exact h1
  have hker : sol p w N fun k => sumN (rkM p w N) fun j => bI (pvJ p w N j = k) * x j := fun i hi => by
    rw [rv_pick _ (pvJ p w N) (fun j hj => pvJ_lt hj) x, ← heq i]
    exact hall i (by omega)
  have hz2 := sol_zero hp hN hker fun c _ hnp => by
    refine sumN_dvd fun j hj => ?_
    rw [bI_no fun e => hnp (pvP_iff.2 ⟨j, hj, e⟩), Int.zero_mul]
    exact Int.dvd_zero p
  have h3 := hz2 _ (pvJ_lt hj0)
  have e : (sumN (rkM p w N) fun j => bI (pvJ p w N j = pvJ p w N j0) * x j) = x j0 := by
    have : (sumN (rkM p w N) fun j => bI (pvJ p w N j = pvJ p w N j0) * x j) = sumN (rkM p w N) fun t => bI ((t : Int) = (j0 : Int)) * (fun u : Int => x u.toNat) (t : Int) := sumN_congr fun t ht => by
      simp only [Int.toNat_natCast]
      congr 1
      exact bI_congr ⟨fun e => by rw [pvJ_inj ht hj0 e], fun e => by rw [show t = j0 by omega]⟩
    rw [this, sumN_one (w := fun u : Int => x u.toNat) (a := j0), if_pos hj0]
    simp
  rw [e] at h3
  exact hx0 h3
/-- Every solution at a size is led to from the next size. -/
def exF (p : Int) (q : Int → Prop) (k : Int) : Prop := ∀ X : Int → Int, solF p (szS q (k - 1)) (szS q k) X → ∃ Y : Int → Int, ∀ u ∈ szS q k, p ∣ (sumL (szS q (k + 1)) fun w => sgnZ u w * Y w) - X u
section exf
variable {p : Int} {q : Int → Prop} (hp : fpP p) (hq : ∀ s t, isS s → isS t → subS s t → q t → q s)
omit hp hq in
theorem sgnM_rows {R C : List Int} : ∀ i, i < (sgnM R C).length → (atR (sgnM R C) i).length = C.length := fun i hi => by
  rw [sgnM_len] at hi
  rw [sgnM_at hi]
  simp
include hq in
theorem dd_rows {k : Int} {r s : Int} (hr : r ∈ szS q (k - 1)) (hs : s ∈ szS q (k + 1)) : sumL (szS q k) (fun u => sgnZ r u * sgnZ u s) = 0 := by
  obtain ⟨a, b, c⟩ := mem_szS.1 hr
  obtain ⟨a2, b2, c2⟩ := mem_szS.1 hs
  have := dd_zero hq a a2 b2 (by omega)
  rwa [show sz r + 1 = k by omega] at this
include hq in
theorem dd_sol (k : Int) : ∀ j, j < (szS q (k + 1)).length → sol p (szS q k).length (sgnM (szS q (k - 1)) (szS q k)) fun i => at0 (atR (sgnM (szS q k) (szS q (k + 1))) i) j := fun j hj i hi => by
  rw [sgnM_len] at hi
  rw [rv_sgn hi (fun u => sgnZ u (at0 (szS q (k + 1)) j)) _ fun t ht => sgn_row ht hj, dd_rows hq (getD_mem' hi) (getD_mem' hj)]
  exact Int.dvd_zero p
include hp hq in
theorem exF_hol (k : Nat) : exF p q k ↔ holV p q k = 0 := by
  have hle := rk_sum (M := sgnM (szS q ((k : Int) - 1)) (szS q k)) (N := sgnM (szS q k) (szS q ((k : Int) + 1))) hp sgnM_rows sgnM_rows (sgnM_len _ _) (dd_sol hq k)
  have e : holV p q k = ((szS q k).length : Int) - (rkM p (szS q k).length (sgnM (szS q ((k : Int) - 1)) (szS q k)) : Nat) - (rkM p (szS q ((k : Int) + 1)).length (sgnM (szS q k) (szS q ((k : Int) + 1))) : Nat) := by
    unfold holV
    rw [rkZ_M, rkZ_M, show (k : Int) + 1 - 1 = k by omega]
  have hnd : (szS q k).Nodup := setsOf_nodup _
  have hnd2 : (szS q ((k : Int) + 1)).Nodup := setsOf_nodup _
  constructor
  · intro h
    rw [e]
    have : ¬ rkM p (szS q k).length (sgnM (szS q ((k : Int) - 1)) (szS q k)) + rkM p (szS q ((k : Int) + 1)).length (sgnM (szS q k) (szS q ((k : Int) + 1))) < (szS q k).length := fun hlt => by
      obtain ⟨c, hc, h1, h2⟩ := ex_hole hp sgnM_rows (sgnM_len _ _) hlt
      refine h2 ?_
      obtain ⟨Y, hY⟩ := h (onS (szS q k) (xK p (szS q k).length (sgnM (szS q ((k : Int) - 1)) (szS q k)) c)) fun r hr => by
        obtain ⟨i, hi, rfl⟩ := getD_mem_iff.1 hr
        have := xK_sol hp sgnM_rows hc h1 i (by rw [sgnM_len]; exact hi)
        rwa [rv_sgn hi _ _ fun j hj => (onS_at hnd _ hj).symm] at this
      refine ⟨fun j => Y (at0 (szS q ((k : Int) + 1)) j), fun i hi => ?_⟩
      rw [sgnM_len] at hi
      have := hY _ (getD_mem' hi)
      rw [onS_at hnd _ hi] at this
      rwa [rv_sgn hi Y _ fun _ _ => rfl]
    omega
  · intro h X hX
    refine Classical.byContradiction fun hno => ?_
    have hsol : sol p (szS q k).length (sgnM (szS q ((k : Int) - 1)) (szS q k)) fun j => X (at0 (szS q k) j) := fun i hi => by
      rw [sgnM_len] at hi
      rw [rv_sgn hi X _ fun _ _ => rfl]
      exact hX _ (getD_mem' hi)
    have hlt := no_hole hp sgnM_rows sgnM_rows (sgnM_len _ _) (dd_sol hq k) hsol fun ⟨y, hy⟩ => hno ⟨onS (szS q ((k : Int) + 1)) y, fun u hu => by
      obtain ⟨i, hi, rfl⟩ := getD_mem_iff.1 hu
      have := hy i (by rw [sgnM_len]; exact hi)
      rwa [rv_sgn hi (onS (szS q ((k : Int) + 1)) y) y fun j hj => (onS_at hnd2 y hj).symm] at this⟩
    omega
end exf
theorem sumL_map (U : List Int) (f g : Int → Int) : sumL (U.map f) g = sumL U fun x => g (f x) := by
  induction U with
  | nil => rfl
  | cons a U ih => rw [List.map_cons, sumL_cons, sumL_cons, ih]
theorem sumL_add (U : List Int) (f g : Int → Int) : sumL U (fun x => f x + g x) = sumL U f + sumL U g := sumN_add _ _ _
theorem sumL_mul (U : List Int) (a : Int) (f : Int → Int) : sumL U (fun x => a * f x) = a * sumL U f := sumN_mul _ _ _
theorem sumL_zero {U : List Int} {f : Int → Int} (h : ∀ u ∈ U, f u = 0) : sumL U f = 0 := sumN_zero fun k hk => h _ (getD_mem' hk)
theorem sumL_dvd {p : Int} {U : List Int} {f : Int → Int} (h : ∀ u ∈ U, p ∣ f u) : p ∣ sumL U f := sumN_dvd fun k hk => h _ (getD_mem' hk)
theorem sumL_sub (U : List Int) (f g : Int → Int) : sumL U (fun x => f x - g x) = sumL U f - sumL U g := sumN_sub _ _ _
theorem sumL_swap (U W : List Int) (f : Int → Int → Int) : sumL U (fun u => sumL W (f u)) = sumL W fun w => sumL U fun u => f u w := sumN_swap _ _ _
def upKey (x y i : Nat) : Bool := x.testBit i || y.testBit i || (pcF 6 y != pcF 6 x + 1) || (sgF (x ||| 2 ^ i) (y ||| 2 ^ i) == -(sgF x (x ||| 2 ^ i) * sgF y (y ||| 2 ^ i) * sgF x y))
theorem up_key : ∀ i : Nat, i < 6 → ∀ x : Nat, x < 64 → ∀ y : Nat, y < 64 → upKey x y i = true := by decide +kernel
section up
variable {i : Nat} (hi : i < 6)
include hi
theorem up_nat {x : Nat} (hx : x < 64) : bor (x : Int) (2 ^ i) = ((x ||| 2 ^ i : Nat) : Int) ∧ x ||| 2 ^ i < 64 := by
  have hp : 2 ^ i < 64 := by
    have : ∀ i : Nat, i < 6 → 2 ^ i < 64 := by decide
    exact this i hi
  have e : bor (x : Int) (2 ^ i) = ((x ||| 2 ^ i : Nat) : Int) := by
    show bitop .or .i64 (x : Int) (2 ^ i) = _
    rw [pow_nat i, bits_or x (2 ^ i) (by omega) (by omega)]
  exact ⟨e, Nat.or_lt_two_pow (n := 6) (by omega) (by omega)⟩
/-- The sign of a set with a point more. -/
theorem sg_up {A B : Int} (hA : isS A) (hB : isS B) (hAi : ¬ tb A i) (hBi : ¬ tb B i) (hz : sz B = sz A + 1) : sgnZ (bor A (2 ^ i)) (bor B (2 ^ i)) = -(sgnZ A (bor A (2 ^ i)) * sgnZ B (bor B (2 ^ i)) * sgnZ A B) := by
  have zA := sz_addP hA hi hAi
  have zB := sz_addP hB hi hBi
  obtain ⟨x, hx, rfl⟩ := isS_nat0 hA
  obtain ⟨y, hy, rfl⟩ := isS_nat0 hB
  obtain ⟨ex, lx⟩ := up_nat hi hx
  obtain ⟨ey, ly⟩ := up_nat hi hy
  rw [ex] at zA ⊢
  rw [ey] at zB ⊢
  rw [tb_nat x i hx hi] at hAi
  rw [tb_nat y i hy hi] at hBi
  rw [sz_nat lx, sz_nat hx] at zA
  rw [sz_nat ly, sz_nat hy] at zB
  rw [sz_nat hx, sz_nat hy] at hz
  have key := up_key i hi x hx y hy
  unfold upKey at key
  have h1 : x.testBit i = false := by simpa using hAi
  have h2 : y.testBit i = false := by simpa using hBi
  have h3 : pcF 6 y = pcF 6 x + 1 := by omega
  simp only [h1, h2, h3, bne_self_eq_false, Bool.or_false, Bool.false_or, beq_iff_eq] at key
  rw [sgnZ_nat lx ly (by omega), sgnZ_nat hx lx (by omega), sgnZ_nat hy ly (by omega), sgnZ_nat hx hy h3]
  exact key
end up
end Go.Proofs.Ytmemomfffehnkaa
namespace Go.Proofs.Ytmemomfffehnkaa
open Go Go.RowKit
set_option maxRecDepth 1000000
set_option linter.unusedSimpArgs false
set_option linter.unusedVariables false
set_option maxHeartbeats 1000000
/-- The free faces of a complex, in order. -/
noncomputable def freeL (n : Int) (l : List Int) : List Int := setsOf fun s => cplx n l ∧ faceS l s ∧ ∃ t, freeOf (faceS l) s t
end Go.Proofs.Ytmemomfffehnkaa
namespace Go.Proofs.Ytmemomfffehnkaa
open Go Go.RowKit
set_option maxRecDepth 1000000
set_option linter.unusedSimpArgs false
set_option linter.unusedVariables false
set_option maxHeartbeats 1000000
/-- The last free face of a complex. -/
noncomputable def lastF (n : Int) (l : List Int) : Int := at0 (freeL n l) ((freeL n l).length - 1)
def stuckP (n : Int) (l : List Int) : Prop := freeL n l = [] ∨ lastF n l = 0
open Classical in
/-- At most k steps, the last free face first. -/
noncomputable def caS (n : Int) : Nat → List Int → List Int → List Int × List Int
  | 0, l, st => (l, st)
  | k + 1, l, st => if stuckP n l then (l, st) else caS n k (delL l (lastF n l)) (st ++ [lastF n l])
theorem caS_step {n : Int} {l : List Int} (h : ¬ stuckP n l) (st : List Int) (k : Nat) : caS n (k + 1) l st = caS n k (delL l (lastF n l)) (st ++ [lastF n l]) := by
  rw [caS, if_neg h]
structure caI (n : Int) (R : List Int × List Int) (x : Nat × List Int × List Int) : Prop where
  hc : cplx n x.2.1
  hm : (setsOf (faceS x.2.1)).length ≤ x.1
  hl : x.2.2.length + x.1 ≤ 64
  hr : caS n x.1 x.2.1 x.2.2 = R
theorem lastF_spec {n : Int} {l : List Int} (hc : cplx n l) (h : ¬ stuckP n l) : isS (lastF n l) ∧ faceS l (lastF n l) ∧ ∃ t, freeOf (faceS l) (lastF n l) t := by
  have hp : freeL n l ≠ [] := fun e => h (.inl e)
  have := List.length_pos_iff.2 hp
  have hm := mem_setsOf.1 (getD_mem' (l := freeL n l) (j := (freeL n l).length - 1) (by omega))
  exact ⟨hm.1, hm.2.2⟩
theorem caI.step {n : Int} {R : List Int × List Int} {k : Nat} {l st : List Int} (h : caI n R (k, l, st)) (hs : ¬ stuckP n l) : ∃ j, k = j + 1 ∧ caI n R (j, delL l (lastF n l), st ++ [lastF n l]) := by
  have h0 : cplx n l := h.hc
  obtain ⟨h1, h2, _⟩ := lastF_spec h0 hs
  have hm := h.hm
  have hd := delL_less h0 h1 h2
  have hl := h.hl
  simp only at hm hl
  obtain ⟨j, rfl⟩ : ∃ j, k = j + 1 := ⟨k - 1, by omega⟩
  refine ⟨j, rfl, cplx_wto h0 h1, by simp only; omega, by simp only [List.length_append, List.length_singleton]; omega, ?_⟩
  have := h.hr
  simp only at this
  rw [caS_step hs] at this
  exact this
end Go.Proofs.Ytmemomfffehnkaa
namespace Go.Proofs.Ytmemomfffehnkaa
open Go Go.RowKit
set_option maxRecDepth 1000000
set_option linter.unusedSimpArgs false
set_option linter.unusedVariables false
set_option maxHeartbeats 1000000
/-- A list with one set more. -/
theorem sumL_one {C C' : List Int} {t : Int} (hC : C.Nodup ∧ allS C) (hC' : C'.Nodup ∧ allS C') (ht : isS t) (h : ∀ u, u ∈ C ↔ u ∈ C' ∨ u = t) (hn : t ∉ C') (w : Int → Int) : sumL C w = sumL C' w + w t := by
  have := sumL_split (F := C) (N := C') (U := [t]) hC hC' ⟨by simp, fun x hx => by rw [List.mem_singleton.1 hx]; exact ht⟩ (fun s => by rw [h s, List.mem_singleton]) (fun s h1 h2 => hn (List.mem_singleton.1 h2 ▸ h1)) w
  rw [this, sumL_cons, sumL_nil, Int.add_zero]
theorem len_one {C C' : List Int} {t : Int} (hC : C.Nodup ∧ allS C) (hC' : C'.Nodup ∧ allS C') (ht : isS t) (h : ∀ u, u ∈ C ↔ u ∈ C' ∨ u = t) (hn : t ∉ C') : (C.length : Int) = C'.length + 1 := by
  have := sumL_one hC hC' ht h hn fun _ => 1
  rwa [sumL_len, sumL_len] at this
structure colI (q q' : Int → Prop) (s t : Int) : Prop where
  hs : isS s
  ht : isS t
  qs : q s
  qt : q t
  hst : subS s t
  hz : sz t = sz s + 1
  only : ∀ u, isS u → q u → subS s u → u = s ∨ u = t
  q' : ∀ u, isS u → (q' u ↔ q u ∧ ¬ subS s u)
  dn : ∀ a b, isS a → isS b → subS a b → q b → q a
theorem sz_ne {s t : Int} (h : sz t = sz s + 1) : s ≠ t := fun e => by rw [e] at h; omega
section col
variable {q q' : Int → Prop} {s t : Int} (h : colI q q' s t)
include h
theorem colI.top {u : Int} (hu : isS u) (hq : q u) (hsub : subS t u) : u = t := by
  rcases h.only u hu hq (subS_trans h.hs h.ht hu h.hst hsub) with e | e
  · have := subS_le h.ht hu hsub
    have h2 := subS_le h.hs h.ht h.hst
    exact absurd (show s = t by omega) (sz_ne h.hz)
  · exact e
theorem colI.q2 {u : Int} (hu : isS u) : q' u ↔ q u ∧ u ≠ s ∧ u ≠ t := by
  rw [h.q' u hu]
  constructor
  · rintro ⟨a, b⟩
    exact ⟨a, fun e => b (by rw [e]; exact subS_refl h.hs), fun e => b (by rw [e]; exact h.hst)⟩
  · rintro ⟨a, b, c⟩
    exact ⟨a, fun hh => (h.only u hu a hh).elim b c⟩
theorem colI.same {z : Int} (h1 : z ≠ sz s) (h2 : z ≠ sz s + 1) : szS q' z = szS q z := by
  refine setsOf_congr fun u hu => ?_
  rw [h.q2 hu]
  constructor
  · rintro ⟨⟨a, _⟩, b⟩; exact ⟨a, b⟩
  · rintro ⟨a, b⟩
    exact ⟨⟨a, fun e => h1 (by rw [← b, e]), fun e => h2 (by rw [← b, e, h.hz])⟩, b⟩
theorem colI.low (u : Int) : u ∈ szS q (sz s) ↔ u ∈ szS q' (sz s) ∨ u = s := by
  rw [mem_szS, mem_szS]
  constructor
  · rintro ⟨a, b, c⟩
    by_cases e : u = s
    · exact .inr e
    · exact .inl ⟨a, (h.q2 a).2 ⟨b, e, fun e2 => by rw [e2, h.hz] at c; omega⟩, c⟩
  · rintro (⟨a, b, c⟩ | rfl)
    · exact ⟨a, ((h.q2 a).1 b).1, c⟩
    · exact ⟨h.hs, h.qs, rfl⟩
theorem colI.high (u : Int) : u ∈ szS q (sz s + 1) ↔ u ∈ szS q' (sz s + 1) ∨ u = t := by
  rw [mem_szS, mem_szS]
  constructor
  · rintro ⟨a, b, c⟩
    by_cases e : u = t
    · exact .inr e
    · exact .inl ⟨a, (h.q2 a).2 ⟨b, fun e2 => by rw [e2] at c; omega, e⟩, c⟩
  · rintro (⟨a, b, c⟩ | rfl)
    · exact ⟨a, ((h.q2 a).1 b).1, c⟩
    · exact ⟨h.ht, h.qt, h.hz⟩
theorem colI.nlow : s ∉ szS q' (sz s) := fun hh => ((h.q2 h.hs).1 (mem_szS.1 hh).2.1).2.1 rfl
theorem colI.nhigh : t ∉ szS q' (sz s + 1) := fun hh => ((h.q2 h.ht).1 (mem_szS.1 hh).2.1).2.2 rfl
omit h in
theorem szS_ok2 (q : Int → Prop) (z : Int) : (szS q z).Nodup ∧ allS (szS q z) := ⟨setsOf_nodup _, allS_setsOf _⟩
theorem colI.len_low : ((szS q (sz s)).length : Int) = (szS q' (sz s)).length + 1 := len_one (szS_ok2 _ _) (szS_ok2 _ _) h.hs h.low h.nlow
theorem colI.len_high : ((szS q (sz s + 1)).length : Int) = (szS q' (sz s + 1)).length + 1 := len_one (szS_ok2 _ _) (szS_ok2 _ _) h.ht h.high h.nhigh
variable {p : Int} (hp : fpP p)
include hp
/-- Above both sets nothing changes. -/
theorem colI.rk_up : rkZ p q' (sz s + 2) = rkZ p q (sz s + 2) := by
  have eC : szS q' (sz s + 2) = szS q (sz s + 2) := h.same (by omega) (by omega)
  have e1 : sz s + 2 - 1 = sz s + 1 := by omega
  rw [rkZ_M, rkZ_M, eC, e1]
  have hz : ∀ u ∈ szS q (sz s + 2), sgnZ t u = 0 := fun u hu => by
    obtain ⟨a, b, c⟩ := mem_szS.1 hu
    refine sgnZ_no fun hh => ?_
    have := h.top a b hh
    rw [this, h.hz] at c
    omega
  have k1 := ker_sets (p := p) (R := szS q (sz s + 1)) (C := szS q (sz s + 2)) (R' := szS q' (sz s + 1)) (C' := szS q (sz s + 2)) hp (setsOf_nodup _) (setsOf_nodup _) (fun X _ hX r hr => hX r ((h.high r).2 (.inl hr))) (fun X _ _ hz => hz)
  have k2 := ker_sets (p := p) (R := szS q' (sz s + 1)) (C := szS q (sz s + 2)) (R' := szS q (sz s + 1)) (C' := szS q (sz s + 2)) hp (setsOf_nodup _) (setsOf_nodup _) (fun X _ hX r hr => by
    rcases (h.high r).1 hr with hr | rfl
    · exact hX r hr
    · rw [sumL_congr (v := fun _ => 0) fun u hu => by rw [hz u hu, Int.zero_mul]]
      unfold sumL
      rw [sumN_zero fun _ _ => rfl]
      exact Int.dvd_zero p) (fun X _ _ hz => hz)
  omega
/-- Between the two sets the rank falls by one. -/
theorem colI.rk_mid : rkZ p q' (sz s + 1) = rkZ p q (sz s + 1) - 1 := by
  have e1 : sz s + 1 - 1 = sz s := by omega
  rw [rkZ_M, rkZ_M, e1]
  have hl := h.len_high
  have hsgn : ∀ u ∈ szS q' (sz s + 1), sgnZ s u = 0 := fun u hu => by
    obtain ⟨a, b, c⟩ := mem_szS.1 hu
    exact sgnZ_no fun hh => ((h.q' u a).1 b).2 hh
  have hsum : ∀ f : Int → Int, sumL (szS q (sz s + 1)) f = sumL (szS q' (sz s + 1)) f + f t := sumL_one (szS_ok2 _ _) (szS_ok2 _ _) h.ht h.high h.nhigh
  have hrow : ∀ X : Int → Int, sumL (szS q (sz s + 1)) (fun u => sgnZ s u * X u) = sgnZ s t * X t := fun X => by
    rw [hsum, sumL_congr (v := fun _ => 0) fun u hu => by rw [hsgn u hu, Int.zero_mul]]
    unfold sumL
    rw [sumN_zero fun _ _ => rfl, Int.zero_add]
  have k1 := ker_sets (p := p) (R := szS q (sz s)) (C := szS q (sz s + 1)) (R' := szS q' (sz s)) (C' := szS q' (sz s + 1)) hp (setsOf_nodup _) (setsOf_nodup _) (fun X _ hX r hr => by
    have h1 := hX s ((h.low s).2 (.inr rfl))
    rw [hrow] at h1
    have h2 : p ∣ X t := by
      rcases sgnZ_unit h.hst with e | e
      · rwa [e, Int.one_mul] at h1
      · rw [e, Int.neg_one_mul] at h1
        exact Int.dvd_neg.1 h1
    have h3 := hX r ((h.low r).2 (.inl hr))
    rw [hsum] at h3
    exact (Int.dvd_add_left (Int.dvd_mul_of_dvd_right h2)).1 h3) (fun X _ hX hz u hu => by
    rcases (h.high u).1 hu with hu | rfl
    · exact hz u hu
    · have h1 := hX s ((h.low s).2 (.inr rfl))
      rw [hrow] at h1
      rcases sgnZ_unit h.hst with e | e
      · rwa [e, Int.one_mul] at h1
      · rw [e, Int.neg_one_mul] at h1
        exact Int.dvd_neg.1 h1)
  have k2 := ker_sets (p := p) (R := szS q' (sz s)) (C := szS q' (sz s + 1)) (R' := szS q (sz s)) (C' := szS q (sz s + 1)) hp (setsOf_nodup _) (setsOf_nodup _) (fun X h0 hX r hr => by
    have ht0 : X t = 0 := h0 t h.nhigh
    rcases (h.low r).1 hr with hr | rfl
    · rw [hsum, ht0, Int.mul_zero, Int.add_zero]
      exact hX r hr
    · rw [hrow, ht0, Int.mul_zero]
      exact Int.dvd_zero p) (fun X _ _ hz u hu => hz u ((h.high u).2 (.inl hu)))
  omega
/-- Below both sets the rank stays. -/
theorem colI.rk_low : rkZ p q' (sz s) = rkZ p q (sz s) := by
  have eR : szS q' (sz s - 1) = szS q (sz s - 1) := h.same (by omega) (by omega)
  rw [rkZ_M, rkZ_M, eR]
  have hsum : ∀ f : Int → Int, sumL (szS q (sz s)) f = sumL (szS q' (sz s)) f + f s := sumL_one (szS_ok2 _ _) (szS_ok2 _ _) h.hs h.low h.nlow
  have unit : ∀ (C : List Int), C.Nodup ∧ allS C → ∀ u ∈ C, ∀ r, (sumL C fun v => sgnZ r v * bI (v = u)) = sgnZ r u := fun C hC u hu r => by
    obtain ⟨j, hj, rfl⟩ := getD_mem_iff.1 hu
    unfold sumL
    have : (sumN C.length fun k => sgnZ r (at0 C k) * bI (at0 C k = at0 C j)) = sumN C.length fun t => bI ((t : Int) = (j : Int)) * (fun u : Int => sgnZ r (at0 C u.toNat)) (t : Int) := sumN_congr fun t ht => by
      rw [Int.mul_comm]
      simp only [Int.toNat_natCast]
      congr 1
      refine bI_congr ⟨fun e => ?_, fun e => by rw [show t = j by omega]⟩
      rw [at0_eq ht, at0_eq hj] at e
      have := (List.getElem_inj hC.1).1 e
      omega
    rw [this, sumN_one (w := fun u : Int => sgnZ r (at0 C u.toNat)) (a := j), if_pos hj]
    simp
  have k1 := im_sets (p := p) (R := szS q (sz s - 1)) (C := szS q' (sz s)) (C' := szS q (sz s)) hp (setsOf_nodup _) fun u hu => ⟨fun v => bI (v = u), fun r _ => by
    rw [unit _ (szS_ok2 _ _) u ((h.low u).2 (.inl hu)) r, Int.sub_self]
    exact Int.dvd_zero p⟩
  have k2 := im_sets (p := p) (R := szS q (sz s - 1)) (C := szS q (sz s)) (C' := szS q' (sz s)) hp (setsOf_nodup _) fun u hu => by
    rcases (h.low u).1 hu with hu | rfl
    · exact ⟨fun v => bI (v = u), fun r _ => by
        rw [unit _ (szS_ok2 _ _) u hu r, Int.sub_self]
        exact Int.dvd_zero p⟩
    · refine ⟨fun v => -(sgnZ u t) * sgnZ v t, fun r hr => ?_⟩
      obtain ⟨a, b, c⟩ := mem_szS.1 hr
      have hd := dd_zero (q := q) h.dn a h.ht h.qt (by rw [h.hz]; omega)
      have e2 : sz r + 1 = sz u := by omega
      rw [e2, hsum] at hd
      have e3 : (sumL (szS q' (sz u)) fun v => sgnZ r v * (-(sgnZ u t) * sgnZ v t)) = -(sgnZ u t) * sumL (szS q' (sz u)) fun v => sgnZ r v * sgnZ v t := by
        unfold sumL
        rw [← sumN_mul]
        exact sumN_congr fun k _ => Int.mul_left_comm _ _ _
      rw [e3]
      have e4 : (sumL (szS q' (sz u)) fun v => sgnZ r v * sgnZ v t) = -(sgnZ r u * sgnZ u t) := by omega
      rw [e4]
      have e5 : -(sgnZ u t) * -(sgnZ r u * sgnZ u t) - sgnZ r u = 0 := by
        rcases sgnZ_unit h.hst with e | e <;> rw [e] <;> omega
      rw [e5]
      exact Int.dvd_zero p
  omega
omit hp in
theorem colI.rk_else {z : Int} (h1 : z ≠ sz s) (h2 : z ≠ sz s + 1) (h3 : z ≠ sz s + 2) : rkZ p q' z = rkZ p q z := by
  rw [rkZ_M, rkZ_M, h.same h1 h2, h.same (z := z - 1)]
  · omega
  · omega
/-- A collapse keeps the holes. -/
theorem colI.hol (k : Nat) : holV p q' k = holV p q k := by
  have l1 := h.len_low
  have l2 := h.len_high
  have r0 := h.rk_low hp
  have r1 := h.rk_mid hp
  have r2 := h.rk_up hp
  have hrest : ∀ z : Int, z ≠ sz s → z ≠ sz s + 1 → ((szS q' z).length : Int) = (szS q z).length := fun z a b => by rw [h.same a b]
  have hrk : ∀ z : Int, z ≠ sz s → z ≠ sz s + 1 → z ≠ sz s + 2 → rkZ p q' z = rkZ p q z := fun z a b c => h.rk_else a b c
  unfold holV
  by_cases e0 : (k : Int) = sz s
  · rw [e0, r0, r1]; omega
  · by_cases e1 : (k : Int) = sz s + 1
    · rw [e1, r1, show sz s + 1 + 1 = sz s + 2 by omega, r2]; omega
    · rw [hrest k e0 e1]
      by_cases e2 : (k : Int) = sz s + 2
      · rw [e2, r2, hrk (sz s + 2 + 1) (by omega) (by omega) (by omega)]
      · rw [hrk k e0 e1 e2]
        by_cases e3 : (k : Int) + 1 = sz s
        · rw [e3, r0]
        · rw [hrk (k + 1) e3 (by omega) (by omega)]
end col
end Go.Proofs.Ytmemomfffehnkaa
namespace Go.Proofs.Ytmemomfffehnkaa
open Go Go.RowKit
set_option maxRecDepth 1000000
set_option linter.unusedSimpArgs false
set_option linter.unusedVariables false
set_option maxHeartbeats 1000000
section mv
variable {p : Int} {q : Int → Prop} {i : Nat} (hi : i < 6) (hq : ∀ s t, isS s → isS t → subS s t → q t → q s)
include hi
theorem pow_sub {f : Int} (hf : isS f) : subS (2 ^ i) f ↔ tb f i := by
  rw [subS_tb (isS_pow hi) hf]
  constructor
  · intro h; exact h i hi ((tb_pow hi hi).2 rfl)
  · intro h j hj hb; rw [← (tb_pow hi hj).1 hb]; exact h
theorem mem_lnk {A : Int} {m : Int} : A ∈ szS (lnkP q (2 ^ i)) m ↔ isS A ∧ ¬ tb A i ∧ q (bor A (2 ^ i)) ∧ sz A = m := by
  rw [mem_szS]
  unfold lnkP
  constructor
  · rintro ⟨a, ⟨b, c⟩, d⟩; exact ⟨a, (band_tb a hi).1 b, c, d⟩
  · rintro ⟨a, b, c, d⟩; exact ⟨a, ⟨(band_tb a hi).2 b, c⟩, d⟩
theorem mem_wto {A : Int} {m : Int} : A ∈ szS (wtoP q (2 ^ i)) m ↔ isS A ∧ ¬ tb A i ∧ q A ∧ sz A = m := by
  rw [mem_szS]
  unfold wtoP
  constructor
  · rintro ⟨a, ⟨b, c⟩, d⟩; exact ⟨a, fun h => c ((pow_sub hi a).2 h), b, d⟩
  · rintro ⟨a, b, c, d⟩; exact ⟨a, ⟨c, fun h => b ((pow_sub hi a).1 h)⟩, d⟩
theorem up_mem {A m : Int} (h : A ∈ szS (lnkP q (2 ^ i)) m) : bor A (2 ^ i) ∈ szS q (m + 1) := by
  obtain ⟨a, b, c, d⟩ := (mem_lnk hi).1 h
  exact mem_szS.2 ⟨isS_bor a (isS_pow hi), c, by rw [sz_addP a hi b, d]⟩
theorem up_inj {A B : Int} (hA : isS A) (hB : isS B) (hAi : ¬ tb A i) (hBi : ¬ tb B i) (h : bor A (2 ^ i) = bor B (2 ^ i)) : A = B := tb_ext hA hB fun k hk => by
  have h1 := bor_tb hA hi hk
  have h2 := bor_tb hB hi hk
  rw [h] at h1
  constructor
  · intro ht
    exact (h2.1 (h1.2 (.inl ht))).resolve_right fun e => hAi (e ▸ ht)
  · intro ht
    exact (h1.1 (h2.2 (.inl ht))).resolve_right fun e => hBi (e ▸ ht)
/-- The sets of a size: those without the point, and those of the link with it. -/
theorem sum_pt (k : Int) (g : Int → Int) : sumL (szS q k) g = sumL (szS (wtoP q (2 ^ i)) k) g + sumL (szS (lnkP q (2 ^ i)) (k - 1)) fun A => g (bor A (2 ^ i)) := by
  have hpS := isS_pow hi
  have em := sumL_map (szS (lnkP q (2 ^ i)) (k - 1)) (fun A => bor A (2 ^ i)) g
  rw [← em]
  refine sumL_split (szS_ok2 _ _) (szS_ok2 _ _) ⟨?_, ?_⟩ (fun s => ?_) (fun s h1 h2 => ?_) g
  · refine List.pairwise_map.2 (List.Pairwise.imp_of_mem (fun ha hb hne e => hne ?_) (setsOf_nodup _))
    obtain ⟨a1, a2, _, _⟩ := (mem_lnk hi).1 ha
    obtain ⟨b1, b2, _, _⟩ := (mem_lnk hi).1 hb
    exact up_inj hi a1 b1 a2 b2 e
  · intro x hx
    obtain ⟨A, hA, rfl⟩ := List.mem_map.1 hx
    exact isS_bor ((mem_lnk hi).1 hA).1 hpS
  · constructor
    · intro h
      obtain ⟨a, b, c⟩ := mem_szS.1 h
      by_cases ht : tb s i
      · right
        have hb := isS_bnot a hpS
        have e : bor (bnot s (2 ^ i)) (2 ^ i) = s := tb_ext (isS_bor hb hpS) a fun j hj => by
          rw [bor_tb hb hi hj, tb_bnot_iff a hpS hj, tb_pow hi hj]
          constructor
          · rintro (h | rfl)
            · exact h.1
            · exact ht
          · intro h
            by_cases e : j = i
            · exact .inr e
            · exact .inl ⟨h, fun h2 => e h2.symm⟩
        have hn : ¬ tb (bnot s (2 ^ i)) i := fun h => ((tb_bnot_iff a hpS hi).1 h).2 ((tb_pow hi hi).2 rfl)
        refine List.mem_map.2 ⟨bnot s (2 ^ i), (mem_lnk hi).2 ⟨hb, hn, by rw [e]; exact b, ?_⟩, e⟩
        have := sz_addP hb hi hn
        rw [e] at this
        omega
      · exact .inl ((mem_wto hi).2 ⟨a, ht, b, c⟩)
    · rintro (h | h)
      · obtain ⟨a, b, c, d⟩ := (mem_wto hi).1 h
        exact mem_szS.2 ⟨a, c, d⟩
      · obtain ⟨A, hA, rfl⟩ := List.mem_map.1 h
        have := up_mem hi hA
        rwa [show k - 1 + 1 = k by omega] at this
  · obtain ⟨A, hA, rfl⟩ := List.mem_map.1 h2
    have h3 := ((mem_wto hi).1 h1).2.1
    exact h3 ((bor_tb ((mem_lnk hi).1 hA).1 hi hi).2 (.inr rfl))
omit hi in
theorem eps_sq {A B : Int} (h : subS A B) (x : Int) : sgnZ A B * (sgnZ A B * x) = x := by
  rcases sgnZ_unit h with e | e <;> rw [e] <;> omega
theorem up_sub {A : Int} (hA : isS A) : subS A (bor A (2 ^ i)) := (subS_tb hA (isS_bor hA (isS_pow hi))).2 fun j hj h => (bor_tb hA hi hj).2 (.inl h)
theorem sg_no {A u : Int} (hA : isS A) (hu : isS u) (h : tb A i) (hn : ¬ tb u i) : sgnZ A u = 0 := sgnZ_no fun hh => hn ((subS_tb hA hu).1 hh i hi h)
include hq
/-- Holes of a family, from those without a point and those of its link. -/
theorem mv {k : Int} (h1 : exF p (wtoP q (2 ^ i)) k) (h2 : exF p (lnkP q (2 ^ i)) (k - 1)) : exF p q k := by
  intro X hX
  have hpS := isS_pow hi
  let ep : Int → Int := fun A => sgnZ A (bor A (2 ^ i))
  have upS : ∀ A, isS A → isS (bor A (2 ^ i)) := fun A hA => isS_bor hA hpS
  have uptb : ∀ A, isS A → tb (bor A (2 ^ i)) i := fun A hA => (bor_tb hA hi hi).2 (.inr rfl)
  -- rows with the point, of a sum over all sets
  have row : ∀ (m : Int) (A : Int) (g : Int → Int), A ∈ szS (lnkP q (2 ^ i)) (m - 1 - 1) → sumL (szS q m) (fun u => sgnZ (bor A (2 ^ i)) u * g u) = -(ep A) * sumL (szS (lnkP q (2 ^ i)) (m - 1)) fun F => sgnZ A F * (ep F * g (bor F (2 ^ i))) := fun m A g hA => by
    obtain ⟨a, b, c, d⟩ := (mem_lnk hi).1 hA
    rw [sum_pt hi, sumL_zero (U := szS (wtoP q (2 ^ i)) m), Int.zero_add, ← sumL_mul]
    · refine sumL_congr fun F hF => ?_
      obtain ⟨a2, b2, c2, d2⟩ := (mem_lnk hi).1 hF
      rw [sg_up hi a a2 b b2 (by omega)]
      show -(ep A * ep F * sgnZ A F) * g (bor F (2 ^ i)) = -(ep A) * (sgnZ A F * (ep F * g (bor F (2 ^ i))))
      rw [Int.neg_mul, Int.neg_mul, Int.mul_assoc, Int.mul_assoc, Int.mul_left_comm (ep F)]
    · intro u hu
      obtain ⟨a2, b2, _, _⟩ := (mem_wto hi).1 hu
      rw [sg_no hi (upS A a) a2 (uptb A a) b2, Int.zero_mul]
  have unit : ∀ A, isS A → ∀ x, p ∣ -(ep A) * x → p ∣ x := fun A hA x h => by
    rcases sgnZ_unit (up_sub hi hA) with e | e
    · have e' : ep A = 1 := e
      rw [e', Int.neg_mul, Int.one_mul] at h
      exact Int.dvd_neg.1 h
    · have e' : ep A = -1 := e
      rw [e', Int.neg_neg, Int.one_mul] at h
      exact h
  -- the part with the point is a solution of the link
  obtain ⟨y, hy⟩ := h2 (fun F => ep F * X (bor F (2 ^ i))) fun A hA => by
    have hA2 := up_mem hi hA
    have := hX _ (by rwa [show k - 1 - 1 + 1 = k - 1 by omega] at hA2)
    rw [row k A X hA] at this
    exact unit A ((mem_lnk hi).1 hA).1 _ this
  rw [show k - 1 + 1 = k by omega] at hy
  let Y1 : Int → Int := fun w => bI (tb w i) * (-(ep (bnot w (2 ^ i))) * y (bnot w (2 ^ i)))
  have down : ∀ B, isS B → ¬ tb B i → bnot (bor B (2 ^ i)) (2 ^ i) = B := fun B hB hn => tb_ext (isS_bnot (upS B hB) hpS) hB fun j hj => by
    rw [tb_bnot_iff (upS B hB) hpS hj, bor_tb hB hi hj, tb_pow hi hj]
    constructor
    · rintro ⟨h | h, h2⟩
      · exact h
      · exact absurd h.symm h2
    · intro h
      exact ⟨.inl h, fun e => hn (e ▸ h)⟩
  have Y1up : ∀ B, isS B → ¬ tb B i → Y1 (bor B (2 ^ i)) = -(ep B) * y B := fun B hB hn => by
    show bI (tb (bor B (2 ^ i)) i) * (-(ep (bnot (bor B (2 ^ i)) (2 ^ i))) * y (bnot (bor B (2 ^ i)) (2 ^ i))) = _
    rw [bI_yes (uptb B hB), Int.one_mul, down B hB hn]
  let T : Int → Int := fun u => sumL (szS q (k + 1)) fun w => sgnZ u w * Y1 w
  have hT : ∀ F ∈ szS (lnkP q (2 ^ i)) (k - 1), p ∣ T (bor F (2 ^ i)) - X (bor F (2 ^ i)) := fun F hF => by
    obtain ⟨a, b, c, d⟩ := (mem_lnk hi).1 hF
    have e1 : T (bor F (2 ^ i)) = ep F * sumL (szS (lnkP q (2 ^ i)) k) fun B => sgnZ F B * y B := by
      show (sumL (szS q (k + 1)) fun w => sgnZ (bor F (2 ^ i)) w * Y1 w) = _
      rw [row (k + 1) F Y1 (by rw [show k + 1 - 1 - 1 = k - 1 by omega]; exact hF), show k + 1 - 1 = k by omega, Int.neg_mul, ← Int.mul_neg]
      congr 1
      rw [← Int.neg_one_mul, ← sumL_mul]
      refine sumL_congr fun B hB => ?_
      obtain ⟨a2, b2, _, _⟩ := (mem_lnk hi).1 hB
      rw [Y1up B a2 b2]
      have := eps_sq (up_sub hi a2) (y B)
      have e2 : ep B * (-(ep B) * y B) = -(y B) := by
        rw [Int.neg_mul, Int.mul_neg]
        exact congrArg (fun z => -z) this
      rw [e2, Int.mul_neg, Int.neg_one_mul, Int.neg_neg]
    have h3 := Int.dvd_mul_of_dvd_right (a := p) (b := ep F) (hy F hF)
    have e3 : ep F * (ep F * X (bor F (2 ^ i))) = X (bor F (2 ^ i)) := eps_sq (up_sub hi a) _
    have e4 : ep F * ((sumL (szS (lnkP q (2 ^ i)) k) fun B => sgnZ F B * y B) - ep F * X (bor F (2 ^ i))) = T (bor F (2 ^ i)) - X (bor F (2 ^ i)) := by rw [Int.mul_sub, e3, e1]
    rwa [e4] at h3
  -- what is left lives on the sets without the point
  have hcyc : ∀ r ∈ szS q (k - 1), p ∣ sumL (szS q k) fun u => sgnZ r u * (X u - T u) := fun r hr => by
    have e1 : (sumL (szS q k) fun u => sgnZ r u * (X u - T u)) = (sumL (szS q k) fun u => sgnZ r u * X u) - sumL (szS q k) fun u => sgnZ r u * T u := by
      rw [← sumL_sub]
      exact sumL_congr fun u _ => Int.mul_sub _ _ _
    have e2 : (sumL (szS q k) fun u => sgnZ r u * T u) = 0 := by
      have e3 : (sumL (szS q k) fun u => sgnZ r u * T u) = sumL (szS q k) fun u => sumL (szS q (k + 1)) fun w => Y1 w * (sgnZ r u * sgnZ u w) := sumL_congr fun u _ => by
        show sgnZ r u * (sumL (szS q (k + 1)) fun w => sgnZ u w * Y1 w) = _
        rw [← sumL_mul]
        refine sumL_congr fun w _ => ?_
        rw [← Int.mul_assoc, Int.mul_comm]
      rw [e3, sumL_swap, sumL_zero]
      intro w hw
      rw [sumL_mul, dd_rows hq hr hw, Int.mul_zero]
    rw [e1, e2, Int.sub_zero]
    exact hX r hr
  obtain ⟨W, hW⟩ := h1 (fun u => X u - T u) fun r hr => by
    obtain ⟨a, b, c, d⟩ := (mem_wto hi).1 hr
    have h4 := hcyc r (mem_szS.2 ⟨a, c, d⟩)
    rw [sum_pt hi] at h4
    refine (Int.dvd_add_left (sumL_dvd fun F hF => ?_)).1 h4
    have h5 := Int.dvd_neg.2 (hT F hF)
    rw [show -(T (bor F (2 ^ i)) - X (bor F (2 ^ i))) = X (bor F (2 ^ i)) - T (bor F (2 ^ i)) by omega] at h5
    exact Int.dvd_mul_of_dvd_right h5
  refine ⟨fun w => Y1 w + bI (¬ tb w i) * W w, fun u hu => ?_⟩
  obtain ⟨a, b, c⟩ := mem_szS.1 hu
  have e1 : (sumL (szS q (k + 1)) fun w => sgnZ u w * (Y1 w + bI (¬ tb w i) * W w)) = T u + sumL (szS (wtoP q (2 ^ i)) (k + 1)) fun w => sgnZ u w * W w := by
    have e2 : (sumL (szS q (k + 1)) fun w => sgnZ u w * (Y1 w + bI (¬ tb w i) * W w)) = T u + sumL (szS q (k + 1)) fun w => sgnZ u w * (bI (¬ tb w i) * W w) := by
      show _ = (sumL (szS q (k + 1)) fun w => sgnZ u w * Y1 w) + _
      rw [← sumL_add]
      exact sumL_congr fun w _ => Int.mul_add _ _ _
    have e3 : (sumL (szS (lnkP q (2 ^ i)) (k + 1 - 1)) fun A => sgnZ u (bor A (2 ^ i)) * (bI (¬ tb (bor A (2 ^ i)) i) * W (bor A (2 ^ i)))) = 0 := sumL_zero fun A hA => by
      rw [bI_no fun h => h (uptb A ((mem_lnk hi).1 hA).1), Int.zero_mul, Int.mul_zero]
    rw [e2, sum_pt hi (q := q) (k + 1), e3, Int.add_zero]
    congr 1
    refine sumL_congr fun w hw => ?_
    rw [bI_yes ((mem_wto hi).1 hw).2.1, Int.one_mul]
  rw [e1]
  by_cases ht : tb u i
  · have e2 : (sumL (szS (wtoP q (2 ^ i)) (k + 1)) fun w => sgnZ u w * W w) = 0 := sumL_zero fun w hw => by
      obtain ⟨a2, b2, _, _⟩ := (mem_wto hi).1 hw
      rw [sg_no hi a a2 ht b2, Int.zero_mul]
    rw [e2, Int.add_zero]
    have hb := isS_bnot a hpS
    have hn : ¬ tb (bnot u (2 ^ i)) i := fun h => ((tb_bnot_iff a hpS hi).1 h).2 ((tb_pow hi hi).2 rfl)
    have e : bor (bnot u (2 ^ i)) (2 ^ i) = u := tb_ext (isS_bor hb hpS) a fun j hj => by
      rw [bor_tb hb hi hj, tb_bnot_iff a hpS hj, tb_pow hi hj]
      constructor
      · rintro (h | rfl)
        · exact h.1
        · exact ht
      · intro h
        by_cases e : j = i
        · exact .inr e
        · exact .inl ⟨h, fun h2 => e h2.symm⟩
    have hz := sz_addP hb hi hn
    rw [e] at hz
    have := hT (bnot u (2 ^ i)) ((mem_lnk hi).2 ⟨hb, hn, by rw [e]; exact b, by omega⟩)
    rwa [e] at this
  · have := hW u ((mem_wto hi).2 ⟨a, ht, b, c⟩)
    rwa [show (sumL (szS (wtoP q (2 ^ i)) (k + 1)) fun w => sgnZ u w * W w) - (X u - T u) = T u + (sumL (szS (wtoP q (2 ^ i)) (k + 1)) fun w => sgnZ u w * W w) - X u by omega] at this
end mv
end Go.Proofs.Ytmemomfffehnkaa
namespace Go.Proofs.Ytmemomfffehnkaa
open Go Go.RowKit
set_option maxRecDepth 1000000
set_option linter.unusedSimpArgs false
set_option linter.unusedVariables false
set_option maxHeartbeats 1000000
theorem exF_congr {p : Int} {q r : Int → Prop} (h : ∀ s, isS s → (q s ↔ r s)) {k : Int} (he : exF p q k) : exF p r k := by
  unfold exF at *
  rw [szS_congr h, szS_congr h, szS_congr h] at he
  exact he
theorem exF_low (p : Int) (q : Int → Prop) {k : Int} (h : k < 0) : exF p q k := fun X _ => ⟨X, fun u hu => by
  obtain ⟨a, _, c⟩ := mem_szS.1 hu
  have := sz_nn u
  omega⟩
/-- A cone has no holes. -/
theorem exF_cone {p : Int} {q : Int → Prop} {i : Nat} (hi : i < 6) (hq : ∀ s t, isS s → isS t → subS s t → q t → q s) (hc : ∀ u, isS u → ¬ tb u i → q u → q (bor u (2 ^ i))) (k : Int) : exF p q k := by
  intro X hX
  have hpS := isS_pow hi
  have upS : ∀ A, isS A → isS (bor A (2 ^ i)) := fun A hA => isS_bor hA hpS
  have uptb : ∀ A, isS A → tb (bor A (2 ^ i)) i := fun A hA => (bor_tb hA hi hi).2 (.inr rfl)
  have dn : ∀ B, isS B → ¬ tb B i → bnot (bor B (2 ^ i)) (2 ^ i) = B := fun B hB hn => tb_ext (isS_bnot (upS B hB) hpS) hB fun j hj => by
    rw [tb_bnot_iff (upS B hB) hpS hj, bor_tb hB hi hj, tb_pow hi hj]
    constructor
    · rintro ⟨h | h, h2⟩
      · exact h
      · exact absurd h.symm h2
    · intro h
      exact ⟨.inl h, fun e => hn (e ▸ h)⟩
  have same : ∀ m, szS (lnkP q (2 ^ i)) m = szS (wtoP q (2 ^ i)) m := fun m => sorted_ext (setsOf_sorted _) (setsOf_sorted _) fun A => by
    have h1 := mem_lnk (q := q) hi (A := A) (m := m)
    have h2 := mem_wto (q := q) hi (A := A) (m := m)
    rw [h1, h2]
    constructor
    · rintro ⟨a, b, c, d⟩
      exact ⟨a, b, hq _ _ a (upS A a) (up_sub hi a) c, d⟩
    · rintro ⟨a, b, c, d⟩
      exact ⟨a, b, hc A a b c, d⟩
  refine ⟨fun w => bI (tb w i) * (sgnZ (bnot w (2 ^ i)) w * X (bnot w (2 ^ i))), fun u hu => ?_⟩
  obtain ⟨a, b, c⟩ := mem_szS.1 hu
  have e1 : (sumL (szS q (k + 1)) fun w => sgnZ u w * (bI (tb w i) * (sgnZ (bnot w (2 ^ i)) w * X (bnot w (2 ^ i))))) = sumL (szS (wtoP q (2 ^ i)) k) fun B => sgnZ u (bor B (2 ^ i)) * (sgnZ B (bor B (2 ^ i)) * X B) := by
    rw [sum_pt hi (q := q) (k + 1), show k + 1 - 1 = k by omega, same, sumL_zero (U := szS (wtoP q (2 ^ i)) (k + 1)), Int.zero_add]
    · refine sumL_congr fun B hB => ?_
      obtain ⟨a2, b2, _, _⟩ := (mem_wto hi).1 hB
      rw [bI_yes (uptb B a2), Int.one_mul, dn B a2 b2]
    · intro w hw
      rw [bI_no ((mem_wto hi).1 hw).2.1, Int.zero_mul, Int.mul_zero]
  rw [e1]
  by_cases ht : tb u i
  · have hb := isS_bnot a hpS
    have hn : ¬ tb (bnot u (2 ^ i)) i := fun h => ((tb_bnot_iff a hpS hi).1 h).2 ((tb_pow hi hi).2 rfl)
    have e : bor (bnot u (2 ^ i)) (2 ^ i) = u := tb_ext (isS_bor hb hpS) a fun j hj => by
      rw [bor_tb hb hi hj, tb_bnot_iff a hpS hj, tb_pow hi hj]
      constructor
      · rintro (h | rfl)
        · exact h.1
        · exact ht
      · intro h
        by_cases e : j = i
        · exact .inr e
        · exact .inl ⟨h, fun h2 => e h2.symm⟩
    have hz := sz_addP hb hi hn
    rw [e] at hz
    obtain ⟨F, hF⟩ : ∃ F, bnot u (2 ^ i) = F := ⟨_, rfl⟩
    rw [hF] at hb hn e hz
    have hFq : q F := hq F u hb a (by rw [← e]; exact up_sub hi hb) b
    have hrow := hX F (mem_szS.2 ⟨hb, hFq, by omega⟩)
    rw [sum_pt hi (q := q) k, same] at hrow
    -- the only set with the point above F is u
    have e2 : (sumL (szS (wtoP q (2 ^ i)) (k - 1)) fun A => sgnZ F (bor A (2 ^ i)) * X (bor A (2 ^ i))) = sgnZ F u * X u := by
      have hFm : F ∈ szS (wtoP q (2 ^ i)) (k - 1) := (mem_wto hi).2 ⟨hb, hn, hFq, by omega⟩
      have hz2 : ∀ A ∈ szS (wtoP q (2 ^ i)) (k - 1), sgnZ F (bor A (2 ^ i)) * X (bor A (2 ^ i)) = bI (A = F) * (sgnZ F u * X u) := fun A hA => by
        obtain ⟨a2, b2, c2, d2⟩ := (mem_wto hi).1 hA
        by_cases e3 : A = F
        · rw [bI_yes e3, Int.one_mul, e3, e]
        · rw [bI_no e3, Int.zero_mul, sgnZ_no fun hh => e3 ?_, Int.zero_mul]
          have hs : subS F A := (subS_tb hb a2).2 fun j hj h => (((bor_tb a2 hi hj).1 ((subS_tb hb (upS A a2)).1 hh j hj h))).resolve_right fun e4 => hn (e4 ▸ h)
          exact Classical.byContradiction fun hne => by
            have := (sz_sub hb a2 hs).2 fun e5 => hne e5.symm
            omega
      rw [sumL_congr hz2]
      have : (sumL (szS (wtoP q (2 ^ i)) (k - 1)) fun A => bI (A = F) * (sgnZ F u * X u)) = (sumL (szS (wtoP q (2 ^ i)) (k - 1)) fun A => bI (A = F)) * (sgnZ F u * X u) := sumN_mulR _ _ _
      rw [this]
      have e6 : (sumL (szS (wtoP q (2 ^ i)) (k - 1)) fun A => bI (A = F)) = 1 := by
        obtain ⟨j, hj, ej⟩ := getD_mem_iff.1 hFm
        unfold sumL
        have : (sumN (szS (wtoP q (2 ^ i)) (k - 1)).length fun t => bI (at0 (szS (wtoP q (2 ^ i)) (k - 1)) t = F)) = sumN (szS (wtoP q (2 ^ i)) (k - 1)).length fun t => bI ((t : Int) = (j : Int)) * (fun _ : Int => (1 : Int)) (t : Int) := sumN_congr fun t ht => by
          rw [Int.mul_one]
          refine bI_congr ⟨fun e7 => ?_, fun e7 => by rw [show t = j by omega, ej]⟩
          rw [← ej, at0_eq ht, at0_eq hj] at e7
          have := (List.getElem_inj (setsOf_nodup _)).1 e7
          omega
        rw [this, sumN_one (w := fun _ => 1) (a := j), if_pos hj]
      rw [e6, Int.one_mul]
    rw [e2] at hrow
    -- the sum above u
    have e3 : (sumL (szS (wtoP q (2 ^ i)) k) fun B => sgnZ u (bor B (2 ^ i)) * (sgnZ B (bor B (2 ^ i)) * X B)) = -(sgnZ F u) * sumL (szS (wtoP q (2 ^ i)) k) fun B => sgnZ F B * X B := by
      rw [← sumL_mul]
      refine sumL_congr fun B hB => ?_
      obtain ⟨a2, b2, _, d2⟩ := (mem_wto hi).1 hB
      have h1 := sg_up hi hb a2 hn b2 (by omega)
      rw [e] at h1
      rw [h1]
      have h2 := eps_sq (up_sub hi a2) (sgnZ F B * X B)
      generalize sgnZ B (bor B (2 ^ i)) = z at *
      generalize sgnZ F u = y at *
      have : -(y * z * sgnZ F B) * (z * X B) = -y * (z * (z * (sgnZ F B * X B))) := by
        rw [Int.neg_mul, Int.neg_mul, Int.mul_assoc, Int.mul_assoc, Int.mul_left_comm (sgnZ F B)]
      rw [this, h2]
    rw [e3]
    have hs : subS F u := by rw [← e]; exact up_sub hi hb
    generalize (sumL (szS (wtoP q (2 ^ i)) k) fun B => sgnZ F B * X B) = S at *
    rcases sgnZ_unit hs with e4 | e4
    · rw [e4] at hrow ⊢
      have := Int.dvd_neg.2 hrow
      rwa [show -(S + 1 * X u) = -1 * S - X u by omega] at this
    · rw [e4] at hrow ⊢
      rwa [show S + -1 * X u = - -1 * S - X u by omega] at hrow
  · have hz2 : ∀ B ∈ szS (wtoP q (2 ^ i)) k, sgnZ u (bor B (2 ^ i)) * (sgnZ B (bor B (2 ^ i)) * X B) = bI (B = u) * X u := fun B hB => by
      obtain ⟨a2, b2, c2, d2⟩ := (mem_wto hi).1 hB
      by_cases e3 : B = u
      · rw [bI_yes e3, Int.one_mul, e3, eps_sq (up_sub hi a)]
      · rw [bI_no e3, Int.zero_mul, sgnZ_no fun hh => e3 ?_, Int.zero_mul]
        have hs : subS u B := (subS_tb a a2).2 fun j hj h => (((bor_tb a2 hi hj).1 ((subS_tb a (upS B a2)).1 hh j hj h))).resolve_right fun e4 => ht (e4 ▸ h)
        exact Classical.byContradiction fun hne => by
          have := (sz_sub a a2 hs).2 fun e5 => hne e5.symm
          omega
    have hum : u ∈ szS (wtoP q (2 ^ i)) k := (mem_wto hi).2 ⟨a, ht, b, c⟩
    rw [sumL_congr hz2]
    have : (sumL (szS (wtoP q (2 ^ i)) k) fun A => bI (A = u) * X u) = (sumL (szS (wtoP q (2 ^ i)) k) fun A => bI (A = u)) * X u := sumN_mulR _ _ _
    rw [this]
    have e6 : (sumL (szS (wtoP q (2 ^ i)) k) fun A => bI (A = u)) = 1 := by
      obtain ⟨j, hj, ej⟩ := getD_mem_iff.1 hum
      unfold sumL
      have : (sumN (szS (wtoP q (2 ^ i)) k).length fun t => bI (at0 (szS (wtoP q (2 ^ i)) k) t = u)) = sumN (szS (wtoP q (2 ^ i)) k).length fun t => bI ((t : Int) = (j : Int)) * (fun _ : Int => (1 : Int)) (t : Int) := sumN_congr fun t ht => by
        rw [Int.mul_one]
        refine bI_congr ⟨fun e7 => ?_, fun e7 => by rw [show t = j by omega, ej]⟩
        rw [← ej, at0_eq ht, at0_eq hj] at e7
        have := (List.getElem_inj (setsOf_nodup _)).1 e7
        omega
      rw [this, sumN_one (w := fun _ => 1) (a := j), if_pos hj]
    rw [e6, Int.one_mul, Int.sub_self]
    exact Int.dvd_zero p
end Go.Proofs.Ytmemomfffehnkaa
