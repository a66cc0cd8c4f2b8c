import Derived.Test.YtncnohompmcddaaGcC
import Derived.Test.YtncnohompmcddaaGcE
import Derived.Test.YtncnohompmcddaaKJ
namespace Go.Proofs.Ytncnohompmcddaa
open Go Go.RowKit
set_option maxRecDepth 1000000
set_option linter.unusedSimpArgs false
set_option linter.unusedVariables false
set_option maxHeartbeats 1000000
def sc_s_l1Bit : SC := (.seq (.reg [⟨(some 2), none, (.mov (.c (.int .i64 0)))⟩]) (.seq (.seq (.reg [⟨(some 3), none, (.mov (.t 0))⟩]) (.cond (.t 3) (.seq (.reg [⟨(some 2), none, (.mov (.c (.int .i64 1)))⟩]) .ret) .skip)) (.seq (.reg [⟨(some 2), none, (.mov (.c (.int .i64 0)))⟩]) .ret)))
theorem code_s_l1Bit : fnCode Try.prog [] 113 = some (4, sc_s_l1Bit, [(2, none)]) := by kernel_rfl
def F_s_l1Bit : List V → Option V := F1 dB fun b => some (.int .i64 (if b = true then 1 else 0))
theorem fn_s_l1Bit : FnOk Try.prog 113 F_s_l1Bit := by
  refine fn_ok code_s_l1Bit mixed envNil_ok ?_
  intro args r h hb
  obtain ⟨_, b, rfl, h1, h4⟩ := F1_inv h
  cases dB_inv h1
  cases h4
  refine ⟨by simp, fun w0 U0 L0 N0 => ?_⟩
  cases b <;> simp -implicitDefEqProofs [sc_s_l1Bit]
/-- A row by its places. -/
def rowF (m : Nat) (g : Nat → Int) : List Int := (List.range m).map g
@[simp] theorem rowF_len (m : Nat) (g : Nat → Int) : (rowF m g).length = m := by simp [rowF]
theorem rowF_at {m j : Nat} {g : Nat → Int} (h : j < m) : at0 (rowF m g) j = g j := by simp [rowF, at0, h]
theorem rowF_congr {m : Nat} {g h : Nat → Int} (e : ∀ j, j < m → g j = h j) : rowF m g = rowF m h := List.map_congr_left fun j hj => e j (List.mem_range.1 hj)
theorem rowF_set {m j : Nat} {g : Nat → Int} (h : j < m) (v : Int) : (rowF m g).set j v = rowF m fun i => if i = j then v else g i := by
  apply at0_ext (by simp)
  intro i hi
  simp only [List.length_set, rowF_len] at hi
  rw [at0_set, rowF_at hi, rowF_at hi]
  by_cases e : j = i
  · subst e
    rw [if_pos ⟨rfl, by simpa using hi⟩, if_pos rfl]
  · rw [if_neg fun h => e h.1, if_neg fun h => e h.symm]
theorem rowF_map (L : List Int) (f : Int → Int) : rowF L.length (fun j => f (at0 L j)) = L.map f := by
  apply List.ext_getElem (by simp)
  intro j h1 h2
  simp only [rowF_len] at h1
  simp [rowF, at0_eq h1]
theorem rowF_zero (m : Nat) : List.replicate m 0 = rowF m fun _ => 0 := by
  apply List.ext_getElem (by simp)
  intro j h1 h2
  simp [rowF]
/-- The faces of one point less than the greatest. -/
noncomputable def rdgL (n : Int) (l : List Int) : List Int := @ite _ (dimZ n l < 0) (Classical.propDecidable _) [] (fosL n l (dimZ n l))
/-- How many greatest facets hold s. -/
noncomputable def cntR (d : Int) (l : List Int) (s : Int) : Int := ((l.filter fun f => dec (subS s f ∧ sz f = d + 1)).length : Nat)
theorem cntR_nil (d s : Int) : cntR d [] s = 0 := rfl
theorem cntR_yes {d s : Int} {l : List Int} {i : Nat} (hi : i < l.length) (h : subS s (at0 l i) ∧ sz (at0 l i) = d + 1) : cntR d (l.take (i + 1)) s = cntR d (l.take i) s + 1 := by
  unfold cntR
  rw [filt_pos hi (dec_true h), List.length_append]
  simp
theorem cntR_no {d s : Int} {l : List Int} {i : Nat} (hi : i < l.length) (h : ¬ (subS s (at0 l i) ∧ sz (at0 l i) = d + 1)) : cntR d (l.take (i + 1)) s = cntR d (l.take i) s := by
  unfold cntR
  rw [filt_neg hi (dec_false h)]
theorem cntR_bnd (d s : Int) (l : List Int) (i : Nat) : 0 ≤ cntR d (l.take i) s ∧ cntR d (l.take i) s ≤ i := by
  unfold cntR
  have h2 : (l.take i).length ≤ i := by simp; omega
  have h3 := List.length_filter_le (fun f => dec (subS s f ∧ sz f = d + 1)) (l.take i)
  omega
noncomputable def rcL (n : Int) (l : List Int) : List Int := (rdgL n l).map fun s => cntR (dimZ n l) l s
theorem rdgL_neg {n : Int} {l : List Int} (h : dimZ n l < 0) : rdgL n l = [] := by unfold rdgL; rw [if_pos h]
theorem rdgL_nn {n : Int} {l : List Int} (h : ¬ dimZ n l < 0) : rdgL n l = fosL n l (dimZ n l) := by unfold rdgL; rw [if_neg h]
theorem rcL_neg {n : Int} {l : List Int} (h : dimZ n l < 0) : rcL n l = [] := by unfold rcL; rw [rdgL_neg h]; rfl
theorem rdgL_ok (n : Int) (l : List Int) : allS (rdgL n l) ∧ (rdgL n l).length ≤ 64 := by
  by_cases h : dimZ n l < 0
  · rw [rdgL_neg h]; exact ⟨by simp [allS], by simp⟩
  · rw [rdgL_nn h]; exact ⟨allS_setsOf _, setsOf_len _⟩
theorem dimZ_cplx {n : Int} {l : List Int} (h : ¬ dimZ n l < 0) : cplx n l := Classical.byContradiction fun hc => h (by unfold dimZ; rw [if_neg hc]; omega)
theorem dimZ_bnd (n : Int) (l : List Int) : -2 ≤ dimZ n l ∧ dimZ n l ≤ 5 := by
  unfold dimZ
  have := topZ_bnd (faceS l)
  split <;> omega
noncomputable def F_s_RidgeCounts : List V → Option V := F1 dC fun c => some (.own 1 (ints (rcL c.1 c.2)))
noncomputable def F_i_ridgesOf : List V → Option V := F1 dC fun c => some (.tup [.own 1 (ints (rdgL c.1 c.2)), .own 1 (ints (rcL c.1 c.2))])
/-- The counts of the first k sets; of the set at k as far as the facet at i. -/
noncomputable def rcK (d : Int) (l L : List Int) (k : Nat) : List Int := rowF L.length fun j => if j < k then cntR d l (at0 L j) else 0
noncomputable def rcI (d : Int) (l L : List Int) (k i : Nat) : List Int := rowF L.length fun j => if j < k then cntR d l (at0 L j) else if j = k then cntR d (l.take i) (at0 L k) else 0
@[simp] theorem rcK_len (d : Int) (l L : List Int) (k : Nat) : (rcK d l L k).length = L.length := by simp [rcK]
@[simp] theorem rcI_len (d : Int) (l L : List Int) (k i : Nat) : (rcI d l L k i).length = L.length := by simp [rcI]
theorem rcK_zero (d : Int) (l L : List Int) : rcK d l L 0 = List.replicate L.length 0 := by
  rw [rowF_zero]
  exact rowF_congr fun j _ => by simp
theorem rcK_full (d : Int) (l L : List Int) : rcK d l L L.length = L.map fun s => cntR d l s := by
  rw [← rowF_map]
  exact rowF_congr fun j hj => by simp [hj]
theorem rcI_zero (d : Int) (l L : List Int) (k : Nat) : rcI d l L k 0 = rcK d l L k := rowF_congr fun j hj => by
  by_cases h1 : j < k
  · simp [h1]
  · by_cases h2 : j = k
    · simp [h2, cntR_nil]
    · simp [h1, h2]
theorem rcI_full (d : Int) (l L : List Int) (k : Nat) : rcI d l L k l.length = rcK d l L (k + 1) := rowF_congr fun j hj => by
  by_cases h1 : j < k
  · simp [h1, show j < k + 1 by omega]
  · by_cases h2 : j = k
    · simp [h2]
    · simp [h1, h2, show ¬ j < k + 1 by omega]
theorem rcI_at (d : Int) (l : List Int) {L : List Int} {k : Nat} (i : Nat) (hk : k < L.length) : at0 (rcI d l L k i) k = cntR d (l.take i) (at0 L k) := by
  unfold rcI
  rw [rowF_at hk]
  simp
theorem rcI_yes {d : Int} {l L : List Int} {k i : Nat} (hk : k < L.length) (hi : i < l.length) (h : subS (at0 L k) (at0 l i) ∧ sz (at0 l i) = d + 1) : (rcI d l L k i).set k (cntR d (l.take i) (at0 L k) + 1) = rcI d l L k (i + 1) := by
  unfold rcI
  rw [rowF_set hk]
  refine rowF_congr fun j hj => ?_
  by_cases h2 : j = k
  · simp only [h2, if_true, Nat.lt_irrefl, if_false]
    rw [cntR_yes hi h]
  · simp only [h2, if_false]
theorem rcI_no {d : Int} {l L : List Int} {k i : Nat} (hi : i < l.length) (h : ¬ (subS (at0 L k) (at0 l i) ∧ sz (at0 l i) = d + 1)) : rcI d l L k (i + 1) = rcI d l L k i := by
  unfold rcI
  rw [cntR_no hi h]
theorem rcL_at {n : Int} {l : List Int} {k : Nat} (h : k < (rdgL n l).length) : at0 (rcL n l) k = cntR (dimZ n l) l (at0 (rdgL n l) k) := by
  unfold rcL
  rw [← rowF_map, rowF_at h]
def sc_s_RidgeCounts_L2 : SC := (.seq (.seq (.reg [⟨(some 21), none, (.mov (.t 7))⟩, ⟨(some 22), none, (.fad 1 (.t 1))⟩, ⟨(some 23), none, (.ld none .nil (.t 22))⟩, ⟨(some 24), none, (.len (.t 23))⟩, ⟨(some 25), none, (.bin false .lss (.t 21) (.t 24))⟩]) (.cond (.t 25) .skip (.exit 2))) (.seq (.block 3 (.dreg [⟨⟨(some 28), none, (.mov (.t 6))⟩, false, false⟩, ⟨⟨(some 29), none, (.fad 1 (.t 1))⟩, false, false⟩, ⟨⟨(some 30), none, (.ld none .nil (.t 29))⟩, false, false⟩, ⟨⟨(some 31), none, (.mov (.t 7))⟩, false, false⟩, ⟨⟨(some 32), none, (.idx 1 (.t 30) (.t 31))⟩, false, false⟩, ⟨⟨(some 33), none, (.ld none (.int .i64 0) (.t 32))⟩, false, false⟩, ⟨⟨(some 34), none, (.mov (.t 4))⟩, false, false⟩, ⟨⟨(some 35), none, (.mov (.t 5))⟩, false, false⟩, ⟨⟨(some 36), none, (.idx 1 (.t 34) (.t 35))⟩, false, false⟩, ⟨⟨(some 37), none, (.ld none (.int .i64 0) (.t 36))⟩, false, false⟩, ⟨⟨(some 38), none, (.bin false .and (.t 33) (.t 37))⟩, false, false⟩, ⟨⟨(some 39), none, (.mov (.t 4))⟩, false, false⟩, ⟨⟨(some 40), none, (.mov (.t 5))⟩, false, false⟩, ⟨⟨(some 41), none, (.idx 1 (.t 39) (.t 40))⟩, false, false⟩, ⟨⟨(some 42), none, (.ld none (.int .i64 0) (.t 41))⟩, false, false⟩, ⟨⟨(some 43), none, (.bin false .eql (.t 38) (.t 42))⟩, false, false⟩, ⟨⟨(some 44), none, (.mov (.t 43))⟩, false, false⟩, ⟨⟨(some 45), (some (44, true)), (.fad 1 (.t 1))⟩, false, false⟩, ⟨⟨(some 46), (some (44, true)), (.ld none .nil (.t 45))⟩, false, false⟩, ⟨⟨(some 47), (some (44, true)), (.mov (.t 7))⟩, false, false⟩, ⟨⟨(some 48), (some (44, true)), (.idx 1 (.t 46) (.t 47))⟩, false, false⟩, ⟨⟨(some 49), (some (44, true)), (.ld none (.int .i64 0) (.t 48))⟩, false, false⟩, ⟨⟨(some 50), (some (44, true)), (.call 36 [(.t 49)])⟩, false, false⟩, ⟨⟨(some 51), (some (44, true)), (.ld (some 2) .undef (.t 1))⟩, false, false⟩, ⟨⟨(some 52), (some (44, true)), (.call 42 [(.t 51)])⟩, false, false⟩, ⟨⟨(some 53), (some (44, true)), (.bin false .add (.t 52) (.c (.int .i64 1)))⟩, false, false⟩, ⟨⟨(some 54), (some (44, true)), (.bin false .eql (.t 50) (.t 53))⟩, false, false⟩, ⟨⟨(some 55), none, (.pick (.t 44) (.t 54) (.c (.bool false)))⟩, false, false⟩, ⟨⟨(some 56), none, (.call 113 [(.t 55)])⟩, false, false⟩, ⟨⟨(some 57), none, (.bin false .add (.t 28) (.t 56))⟩, false, false⟩, ⟨⟨(some 6), none, (.mov (.t 57))⟩, false, false⟩])) (.reg [⟨(some 26), none, (.mov (.t 7))⟩, ⟨(some 27), none, (.bin false .add (.t 26) (.c (.int .i64 1)))⟩, ⟨(some 7), none, (.mov (.t 27))⟩])))
def sc_s_RidgeCounts_L0 : SC := (.seq (.seq (.reg [⟨(some 15), none, (.mov (.t 5))⟩, ⟨(some 16), none, (.mov (.t 4))⟩, ⟨(some 17), none, (.len (.t 16))⟩, ⟨(some 18), none, (.bin false .lss (.t 15) (.t 17))⟩]) (.cond (.t 18) .skip (.exit 0))) (.seq (.block 1 (.seq (.reg [⟨(some 6), none, (.mov (.c (.int .i64 0)))⟩]) (.seq (.seq (.reg [⟨(some 7), none, (.mov (.c (.int .i64 0)))⟩]) (.block 2 (.loop sc_s_RidgeCounts_L2))) (.reg [⟨(some 58), none, (.mov (.t 3))⟩, ⟨(some 59), none, (.mov (.t 6))⟩, ⟨(some 60), none, (.mks 1 1 [(.int .i64 0)] [(0, (1, (.t 59)))])⟩, ⟨(some 61), none, (.app 1 8 (.t 58) (.t 60))⟩, ⟨(some 3), none, (.mov (.t 61))⟩])))) (.reg [⟨(some 19), none, (.mov (.t 5))⟩, ⟨(some 20), none, (.bin false .add (.t 19) (.c (.int .i64 1)))⟩, ⟨(some 5), none, (.mov (.t 20))⟩])))
def sc_s_RidgeCounts : SC := (.seq (.reg [⟨(some 1), none, (.box (.t 0))⟩, ⟨(some 2), none, (.mov (.c .nil))⟩]) (.seq (.reg [⟨(some 8), none, (.mks 0 1 [] [])⟩, ⟨(some 3), none, (.mov (.t 8))⟩]) (.seq (.seq (.reg [⟨(some 9), none, (.ld (some 2) .undef (.t 1))⟩, ⟨(some 10), none, (.call 42 [(.t 9)])⟩, ⟨(some 11), none, (.bin false .lss (.t 10) (.c (.int .i64 0)))⟩]) (.cond (.t 11) (.seq (.reg [⟨(some 12), none, (.mov (.t 3))⟩, ⟨(some 2), none, (.mov (.t 12))⟩]) .ret) .skip)) (.seq (.reg [⟨(some 13), none, (.ld (some 2) .undef (.t 1))⟩, ⟨(some 14), none, (.call 112 [(.t 13)])⟩, ⟨(some 4), none, (.mov (.t 14))⟩]) (.seq (.seq (.reg [⟨(some 5), none, (.mov (.c (.int .i64 0)))⟩]) (.block 0 (.loop sc_s_RidgeCounts_L0))) (.seq (.reg [⟨(some 62), none, (.mov (.t 3))⟩, ⟨(some 2), none, (.mov (.t 62))⟩]) .ret))))))
theorem code_s_RidgeCounts : fnCode Try.prog [] 109 = some (63, sc_s_RidgeCounts, [(2, none)]) := by kernel_rfl
theorem fn_s_RidgeCounts : FnOk Try.prog 109 F_s_RidgeCounts := by
  have env := ((((envNil_ok (P := Try.prog)).add fn_s_DimOf).add fn_s_l23Ridges).add fn_s_l2Size).add fn_s_l1Bit
  refine fn_ok code_s_RidgeCounts mixed env ?_
  intro args r h hb
  obtain ⟨_, ⟨n, l⟩, rfl, h1, h4⟩ := F1_inv h
  cases dC_inv h1
  cases h4
  clear h
  refine ⟨by simp, fun w0 U0 L0 N0 => ?_⟩
  clear hb
  by_cases hd : dimZ n l < 0
  · rw [rcL_neg hd]
    simp -implicitDefEqProofs [sc_s_RidgeCounts, F_s_DimOf, hd]
  have hc := dimZ_cplx hd
  have hS := cplx_isS hc
  have hl64 := cplx_len64 hc
  have hdb := dimZ_bnd n l
  obtain ⟨hL, hLl⟩ := rdgL_ok n l
  have hFL : F_s_l23Ridges [.agg [.int .i64 n, .list 1 (ints l)]] = some (.own 1 (ints (rdgL n l))) := by
    rw [rdgL_nn hd]
    simp [F_s_l23Ridges]
  have hFD : F_s_DimOf [.agg [.int .i64 n, .list 1 (ints l)]] = some (.int .i64 (dimZ n l)) := by simp [F_s_DimOf]
  have hrl : (rcL n l).length = (rdgL n l).length := by unfold rcL; simp
  have hat := fun (k : Nat) (hk : k < (rdgL n l).length) => rcL_at (n := n) (l := l) hk
  generalize rcL n l = M at *
  have hw : IntKind.i64.wrap (dimZ n l + 1) = dimZ n l + 1 := wrapI _ (by omega) (by omega)
  generalize rdgL n l = L at *
  generalize dimZ n l = d at *
  simp -implicitDefEqProofs [sc_s_RidgeCounts, hFD, hFL, hd]
  have inner : ∀ (k : Nat) (Q : Post) (T0 : Tm), k < L.length → subE T0 [(1, .pt 0 0), (3, .sl 1 1 0 k), (4, .sl 2 1 0 L.length), (5, .int .i64 (k : Int)), (6, .int .i64 0), (7, .int .i64 0)] →
      Q (.exit 2) [(1, .pt 0 0), (3, .sl 1 1 0 k), (4, .sl 2 1 0 L.length), (5, .int .i64 (k : Int)), (6, .int .i64 (cntR d l (at0 L k)))] ([(2, ints L), (1, ints (M.take k)), (0, [.int .i64 n, .list 1 (ints l)])], 3) →
      LoopI ⟨Try.prog, w0, U0, L0, N0, 0, 63⟩ [] sc_s_RidgeCounts_L2 Q T0 ([(2, ints L), (1, ints (M.take k)), (0, [.int .i64 n, .list 1 (ints l)])], 3) := by
    intro k Q T0 hk hsub q1
    have hs := allS_at hL hk
    refine loopQ env mixed (fun i : Nat => [(1, .pt 0 0), (3, .sl 1 1 0 k), (4, .sl 2 1 0 L.length), (5, .int .i64 (k : Int)), (6, .int .i64 (cntR d (l.take i) (at0 L k))), (7, .int .i64 (i : Int))]) (fun _ => ([(2, ints L), (1, ints (M.take k)), (0, [.int .i64 n, .list 1 (ints l)])], 3)) (fun i => i ≤ l.length) (fun i => l.length - i) 0 (by simp) (SubI.slots (by simp) (by simpa [cntR_nil] using hsub)) ?_
    intro i hi
    by_cases hlt : i < l.length
    · have hf := allS_at hS hlt
      have r1 : at0 l i < 9223372036854775808 := by have := hf.2; omega
      have hcb := cntR_bnd d (at0 L k) l i
      have hy := cntR_yes (d := d) (s := at0 L k) hlt
      have hn := cntR_no (d := d) (s := at0 L k) hlt
      have hw2 : IntKind.i64.wrap (cntR d (l.take i) (at0 L k) + 1) = cntR d (l.take i) (at0 L k) + 1 := wrapI _ (by omega) (by omega)
      have hw3 : IntKind.i64.wrap (cntR d (l.take i) (at0 L k)) = cntR d (l.take i) (at0 L k) := wrapI _ (by omega) (by omega)
      by_cases c1 : band (at0 l i) (at0 L k) = at0 L k
      rotate_left
      · have e := hn fun h => c1 ((subS_iff' hs hf).1 h.1)
        simp -implicitDefEqProofs [sc_s_RidgeCounts_L2, F_s_l1Bit, hlt, hk, c1, hw3]
        repeat' (first | omega | apply And.intro)
        exact Again.of (i + 1) (by omega) (by omega) (SubI.slots (by simp) (by simp (disch := omega) [wrapI, e]))
      by_cases c2 : sz (at0 l i) = d + 1
      rotate_left
      · have e := hn fun h => c2 h.2
        have c2' : (sz (at0 l i) == d + 1) = false := by simpa using c2
        simp -implicitDefEqProofs [sc_s_RidgeCounts_L2, F_s_l1Bit, F_s_l2Size, hFD, hlt, hk, c1, c2, c2', r1, hw, hw3]
        repeat' (first | omega | apply And.intro)
        exact Again.of (i + 1) (by omega) (by omega) (SubI.slots (by simp) (by simp (disch := omega) [wrapI, e]))
      have e := hy ⟨(subS_iff' hs hf).2 c1, c2⟩
      simp -implicitDefEqProofs [sc_s_RidgeCounts_L2, F_s_l1Bit, F_s_l2Size, hFD, hlt, hk, c1, c2, r1, hw, hw2]
      repeat' (first | omega | apply And.intro)
      exact Again.of (i + 1) (by omega) (by omega) (SubI.slots (by simp) (by simp (disch := omega) [wrapI, e]))
    · have : i = l.length := by omega
      subst this
      simp -implicitDefEqProofs [sc_s_RidgeCounts_L2]
      exact SubQ.of (SubI.slots rfl (by simp)) q1
  refine loopI env mixed (fun k : Nat => [(1, .pt 0 0), (3, .sl 1 1 0 k), (4, .sl 2 1 0 L.length), (5, .int .i64 (k : Int))]) (fun k => ([(2, ints L), (1, ints (M.take k)), (0, [.int .i64 n, .list 1 (ints l)])], 3)) (fun k => k ≤ L.length) (fun k => L.length - k) 0 (by simp) (SubI.slots (by simp) (by simp)) ?_
  intro k hk
  by_cases hlt : k < L.length
  · have e : M.take (k + 1) = M.take k ++ [cntR d l (at0 L k)] := by rw [take_at (by omega), hat k hlt]
    have gl : (M.take k).length = k := by simp; omega
    have hin := inner k
    generalize M.take k = g at *
    simp -implicitDefEqProofs [sc_s_RidgeCounts_L0, hlt]
    refine hin _ _ hlt (by simp) ?_
    simp -implicitDefEqProofs [gl]
    repeat' (first | omega | apply And.intro)
    refine Again.of (k + 1) (by omega) (by omega) (SubI.ren (fun m => if m = 0 then some 0 else if m = 1 then some 4 else if m = 2 then some 2 else none) ?_ ?_ ?_ (by simp) (by simp))
    · simp (disch := omega) [subT, renV, ren1, wrapI]
    · have ht : g.take k = g := List.take_of_length_le (by omega)
      simp [subH, e, renL, ren1, ht]
      rw [← ints_app]
      rfl
    · intro m hm
      simp only at hm
      rw [if_neg (by omega), if_neg (by omega), if_neg (by omega)]
  · have : k = L.length := by omega
    subst this
    have ht : M.take L.length = M := List.take_of_length_le (by omega)
    simp -implicitDefEqProofs [sc_s_RidgeCounts_L0, ht]
    try omega
def sc_i_ridgesOf_L2 : SC := (.seq (.reg [⟨(some 32), none, (.bin false .lss (.t 31) (.t 30))⟩]) (.seq (.cond (.t 32) .skip (.exit 2)) (.seq (.block 3 (.seq (.reg [⟨(some 33), none, (.idx 1 (.t 29) (.t 31))⟩, ⟨(some 34), none, (.ld none (.int .i64 0) (.t 33))⟩, ⟨(some 10), none, (.mov (.t 34))⟩]) (.seq (.reg [⟨(some 35), none, (.mov (.t 10))⟩, ⟨(some 36), none, (.call 47 [(.t 35)])⟩, ⟨(some 37), none, (.mov (.t 4))⟩, ⟨(some 38), none, (.bin false .add (.t 37) (.c (.int .i64 1)))⟩, ⟨(some 39), none, (.bin false .eql (.t 36) (.t 38))⟩, ⟨(some 40), none, (.mov (.t 39))⟩, ⟨(some 41), (some (40, true)), (.mov (.t 8))⟩, ⟨(some 42), (some (40, true)), (.mov (.t 10))⟩, ⟨(some 43), (some (40, true)), (.bin false .andNot (.t 41) (.t 42))⟩, ⟨(some 44), (some (40, true)), (.bin false .eql (.t 43) (.c (.int .i64 0)))⟩, ⟨(some 45), none, (.pick (.t 40) (.t 44) (.c (.bool false)))⟩]) (.cond (.t 45) (.reg [⟨(some 46), none, (.mov (.t 6))⟩, ⟨(some 47), none, (.mov (.t 7))⟩, ⟨(some 48), none, (.idx 1 (.t 46) (.t 47))⟩, ⟨(some 49), none, (.ld none (.int .i64 0) (.t 48))⟩, ⟨(some 50), none, (.bin false .add (.t 49) (.c (.int .i64 1)))⟩, ⟨(some 51), none, (.idx 1 (.t 46) (.t 47))⟩, ⟨none, none, (.st 1 (.t 51) (.t 50))⟩]) .skip)))) (.reg [⟨(some 52), none, (.bin false .add (.t 31) (.c (.int .i64 1)))⟩, ⟨(some 31), none, (.mov (.t 52))⟩]))))
def sc_i_ridgesOf_L0 : SC := (.seq (.reg [⟨(some 24), none, (.bin false .lss (.t 23) (.t 22))⟩]) (.seq (.cond (.t 24) .skip (.exit 0)) (.seq (.block 1 (.seq (.reg [⟨(some 25), none, (.mov (.t 23))⟩, ⟨(some 26), none, (.idx 1 (.t 21) (.t 23))⟩, ⟨(some 27), none, (.ld none (.int .i64 0) (.t 26))⟩, ⟨(some 7), none, (.mov (.t 25))⟩, ⟨(some 8), none, (.mov (.t 27))⟩]) (.seq (.reg [⟨(some 28), none, (.fad 1 (.t 1))⟩, ⟨(some 29), none, (.ld none .nil (.t 28))⟩, ⟨(some 30), none, (.len (.t 29))⟩, ⟨(some 31), none, (.mov (.c (.int .i64 0)))⟩]) (.block 2 (.loop sc_i_ridgesOf_L2))))) (.reg [⟨(some 53), none, (.bin false .add (.t 23) (.c (.int .i64 1)))⟩, ⟨(some 23), none, (.mov (.t 53))⟩]))))
def sc_i_ridgesOf : SC := (.seq (.reg [⟨(some 1), none, (.box (.t 0))⟩, ⟨(some 2), none, (.mov (.c .nil))⟩, ⟨(some 3), none, (.mov (.c .nil))⟩]) (.seq (.reg [⟨(some 11), none, (.ld (some 2) .undef (.t 1))⟩, ⟨(some 12), none, (.call 96 [(.t 11)])⟩, ⟨(some 4), none, (.mov (.t 12))⟩]) (.seq (.seq (.reg [⟨(some 13), none, (.mov (.t 4))⟩, ⟨(some 14), none, (.bin false .lss (.t 13) (.c (.int .i64 0)))⟩]) (.cond (.t 14) (.seq (.reg [⟨(some 2), none, (.mov (.c .nil))⟩, ⟨(some 3), none, (.mov (.c .nil))⟩]) .ret) .skip)) (.seq (.reg [⟨(some 15), none, (.ld (some 2) .undef (.t 1))⟩, ⟨(some 16), none, (.mov (.t 4))⟩, ⟨(some 17), none, (.call 57 [(.t 15), (.t 16)])⟩, ⟨(some 5), none, (.mov (.t 17))⟩]) (.seq (.reg [⟨(some 18), none, (.mov (.t 5))⟩, ⟨(some 19), none, (.len (.t 18))⟩, ⟨(some 20), none, (.mk 1 8 [(.int .i64 0)] (.t 19) (.t 19))⟩, ⟨(some 6), none, (.mov (.t 20))⟩]) (.seq (.seq (.reg [⟨(some 21), none, (.mov (.t 5))⟩, ⟨(some 22), none, (.len (.t 21))⟩, ⟨(some 23), none, (.mov (.c (.int .i64 0)))⟩]) (.block 0 (.loop sc_i_ridgesOf_L0))) (.seq (.reg [⟨(some 54), none, (.mov (.t 5))⟩, ⟨(some 55), none, (.mov (.t 6))⟩, ⟨(some 2), none, (.mov (.t 54))⟩, ⟨(some 3), none, (.mov (.t 55))⟩]) .ret)))))))
theorem code_i_ridgesOf : fnCode Try.prog [] 114 = some (56, sc_i_ridgesOf, [(2, none), (3, none)]) := by kernel_rfl
theorem fn_i_ridgesOf : FnOk Try.prog 114 F_i_ridgesOf := by
  have env := (((envNil_ok (P := Try.prog)).add fn_i_DimOf).add fn_i_FacesOfSize).add fn_i_SizeOf
  refine fn_ok code_i_ridgesOf mixed env ?_
  intro args r h hb
  obtain ⟨_, ⟨n, l⟩, rfl, h1, h4⟩ := F1_inv h
  cases dC_inv h1
  cases h4
  clear h
  refine ⟨by simp, fun w0 U0 L0 N0 => ?_⟩
  clear hb
  have hFD : F_s_DimOf [.agg [.int .i64 n, .list 1 (ints l)]] = some (.int .i64 (dimZ n l)) := by simp [F_s_DimOf]
  by_cases hd : dimZ n l < 0
  · rw [rcL_neg hd, rdgL_neg hd]
    simp -implicitDefEqProofs [sc_i_ridgesOf, hFD, hd]
  have hc := dimZ_cplx hd
  have hS := cplx_isS hc
  have hl64 := cplx_len64 hc
  have hdb := dimZ_bnd n l
  obtain ⟨hL, hLl⟩ := rdgL_ok n l
  have hFL : F_s_FacesOfSize [.agg [.int .i64 n, .list 1 (ints l)], .int .i64 (dimZ n l)] = some (.own 1 (ints (rdgL n l))) := by
    rw [rdgL_nn hd]
    simp [F_s_FacesOfSize]
  unfold rcL
  rw [← rcK_full]
  have hw : IntKind.i64.wrap (dimZ n l + 1) = dimZ n l + 1 := wrapI _ (by omega) (by omega)
  generalize rdgL n l = L at *
  generalize dimZ n l = d at *
  simp -implicitDefEqProofs [sc_i_ridgesOf, hFD, hFL, hd]
  repeat' (first | omega | apply And.intro)
  have inner : ∀ (k : Nat) (Q : Post) (T0 : Tm), k < L.length → subE T0 [(1, .pt 0 0), (4, .int .i64 d), (5, .sl 1 1 0 L.length), (6, .sl 2 1 0 L.length), (7, .int .i64 (k : Int)), (8, .int .i64 (at0 L k)), (21, .sl 1 1 0 L.length), (22, .int .i64 (L.length : Int)), (23, .int .i64 (k : Int)), (29, .list 1 (ints l)), (30, .int .i64 (l.length : Int)), (31, .int .i64 0)] →
      Q (.exit 2) [(1, .pt 0 0), (4, .int .i64 d), (5, .sl 1 1 0 L.length), (6, .sl 2 1 0 L.length), (21, .sl 1 1 0 L.length), (22, .int .i64 (L.length : Int)), (23, .int .i64 (k : Int))] ([(2, ints (rcK d l L (k + 1))), (1, ints L), (0, [.int .i64 n, .list 1 (ints l)])], 3) →
      LoopI ⟨Try.prog, w0, U0, L0, N0, 0, 56⟩ [] sc_i_ridgesOf_L2 Q T0 ([(2, ints (rcK d l L k)), (1, ints L), (0, [.int .i64 n, .list 1 (ints l)])], 3) := by
    intro k Q T0 hk hsub q1
    have hs := allS_at hL hk
    rw [← rcI_zero]
    rw [← rcI_full] at q1
    refine loopQ env mixed (fun i : Nat => [(1, .pt 0 0), (4, .int .i64 d), (5, .sl 1 1 0 L.length), (6, .sl 2 1 0 L.length), (7, .int .i64 (k : Int)), (8, .int .i64 (at0 L k)), (21, .sl 1 1 0 L.length), (22, .int .i64 (L.length : Int)), (23, .int .i64 (k : Int)), (29, .list 1 (ints l)), (30, .int .i64 (l.length : Int)), (31, .int .i64 (i : Int))]) (fun i => ([(2, ints (rcI d l L k i)), (1, ints L), (0, [.int .i64 n, .list 1 (ints l)])], 3)) (fun i => i ≤ l.length) (fun i => l.length - i) 0 (by simp) (SubI.slots rfl (by simpa using hsub)) ?_
    intro i hi
    by_cases hlt : i < l.length
    · have hf := allS_at hS hlt
      have r1 := sizeOf1_set hf.1 hf.2
      have hcb := cntR_bnd d (at0 L k) l i
      have hy := rcI_yes (d := d) hk hlt
      have hn := rcI_no (d := d) (L := L) (k := k) hlt
      have hat := rcI_at d l i hk
      have hrl := rcI_len d l L k i
      have hw2 : IntKind.i64.wrap (cntR d (l.take i) (at0 L k) + 1) = cntR d (l.take i) (at0 L k) + 1 := wrapI _ (by omega) (by omega)
      generalize rcI d l L k i = g at *
      by_cases c2 : sz (at0 l i) = d + 1
      rotate_left
      · have e := hn fun h => c2 h.2
        simp -implicitDefEqProofs [sc_i_ridgesOf_L2, F_i_SizeOf, hlt, hk, r1, hw, c2]
        repeat' (first | omega | apply And.intro)
        exact Again.of (i + 1) (by omega) (by omega) (SubI.slots (by simp [e]) (by simp (disch := omega) [wrapI]))
      by_cases c1 : bnot (at0 L k) (at0 l i) = 0
      rotate_left
      · have e := hn fun h => c1 h.1
        simp -implicitDefEqProofs [sc_i_ridgesOf_L2, F_i_SizeOf, hlt, hk, r1, hw, c2, c1]
        repeat' (first | omega | apply And.intro)
        exact Again.of (i + 1) (by omega) (by omega) (SubI.slots (by simp [e]) (by simp (disch := omega) [wrapI]))
      have e := hy ⟨c1, c2⟩
      simp -implicitDefEqProofs [sc_i_ridgesOf_L2, F_i_SizeOf, hlt, hk, r1, hw, c2, c1, hat, hrl, hw2, e]
      repeat' (first | omega | apply And.intro)
      exact Again.of (i + 1) (by omega) (by omega) (SubI.slots (by simp) (by simp (disch := omega) [wrapI]))
    · have : i = l.length := by omega
      subst this
      simp -implicitDefEqProofs [sc_i_ridgesOf_L2]
      exact SubQ.of (SubI.slots rfl (by simp)) q1
  refine loopI env mixed (fun k : Nat => [(1, .pt 0 0), (4, .int .i64 d), (5, .sl 1 1 0 L.length), (6, .sl 2 1 0 L.length), (21, .sl 1 1 0 L.length), (22, .int .i64 (L.length : Int)), (23, .int .i64 (k : Int))]) (fun k => ([(2, ints (rcK d l L k)), (1, ints L), (0, [.int .i64 n, .list 1 (ints l)])], 3)) (fun k => k ≤ L.length) (fun k => L.length - k) 0 (by simp) (SubI.slots (by simp [rcK_zero]) (by simp)) ?_
  intro k hk
  by_cases hlt : k < L.length
  · have hin := inner k
    simp -implicitDefEqProofs [sc_i_ridgesOf_L0, hlt]
    refine hin _ _ hlt (by simp) ?_
    simp -implicitDefEqProofs
    exact Again.of (k + 1) (by omega) (by omega) (SubI.slots (by simp) (by simp (disch := omega) [wrapI]))
  · have : k = L.length := by omega
    subst this
    have ht : (rcK d l L L.length).take L.length = rcK d l L L.length := List.take_of_length_le (by simp)
    simp -implicitDefEqProofs [sc_i_ridgesOf_L0, ht]
def sc_i_RidgeCounts : SC := (.seq (.reg [⟨(some 1), none, (.box (.t 0))⟩, ⟨(some 2), none, (.mov (.c .nil))⟩]) (.seq (.reg [⟨(some 6), none, (.ld (some 2) .undef (.t 1))⟩, ⟨(some 7), none, (.call 114 [(.t 6)])⟩, ⟨(some 5), none, (.mov (.t 7))⟩, ⟨(some 8), none, (.ext 0 (.t 5))⟩, ⟨(some 9), none, (.ext 1 (.t 5))⟩, ⟨(some 3), none, (.mov (.t 8))⟩, ⟨(some 4), none, (.mov (.t 9))⟩]) (.seq (.reg [⟨(some 10), none, (.mov (.t 4))⟩, ⟨(some 2), none, (.mov (.t 10))⟩]) .ret)))
theorem code_i_RidgeCounts : fnCode Try.prog [] 110 = some (11, sc_i_RidgeCounts, [(2, none)]) := by kernel_rfl
theorem fn_i_RidgeCounts : FnOk Try.prog 110 F_s_RidgeCounts := by
  have env := (envNil_ok (P := Try.prog)).add fn_i_ridgesOf
  refine fn_ok code_i_RidgeCounts mixed env ?_
  intro args r h hb
  obtain ⟨_, ⟨n, l⟩, rfl, h1, h4⟩ := F1_inv h
  cases dC_inv h1
  cases h4
  clear h
  refine ⟨by simp, fun w0 U0 L0 N0 => ?_⟩
  clear hb
  simp -implicitDefEqProofs [sc_i_RidgeCounts, F_i_ridgesOf]
end Go.Proofs.Ytncnohompmcddaa
