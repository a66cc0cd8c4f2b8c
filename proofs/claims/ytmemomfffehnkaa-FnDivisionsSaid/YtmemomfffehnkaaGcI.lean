import Derived.Test.YtmemomfffehnkaaGcC
import Derived.Test.YtmemomfffehnkaaGcE
import Derived.Test.YtmemomfffehnkaaKJ
import Derived.Test.YtmemomfffehnkaaFnZ
namespace Go.Proofs.Ytmemomfffehnkaa
open Go Go.RowKit
set_option maxRecDepth 1000000
set_option linter.unusedSimpArgs false
set_option linter.unusedVariables false
set_option maxHeartbeats 1000000
/-- A row by its places. -/
def rowF (m : Nat) (g : Nat → Int) : List Int := (List.range m).map g
@[simp] theorem rowF_len (m : Nat) (g : Nat → Int) : (rowF m g).length = m := by simp [rowF]
theorem rowF_at {m j : Nat} {g : Nat → Int} (h : j < m) : at0 (rowF m g) j = g j := by simp [rowF, at0, h]
theorem rowF_congr {m : Nat} {g h : Nat → Int} (e : ∀ j, j < m → g j = h j) : rowF m g = rowF m h := List.map_congr_left fun j hj => e j (List.mem_range.1 hj)
theorem rowF_set {m j : Nat} {g : Nat → Int} (h : j < m) (v : Int) : (rowF m g).set j v = rowF m fun i => if i = j then v else g i := by
  apply at0_ext (by simp)
  intro i hi
  simp only [List.length_set, rowF_len] at hi
  rw [at0_set, rowF_at hi, rowF_at hi]
  by_cases e : j = i
  · subst e
    rw [if_pos ⟨rfl, by simpa using hi⟩, if_pos rfl]
  · rw [if_neg fun h => e h.1, if_neg fun h => e h.symm]
theorem rowF_map (L : List Int) (f : Int → Int) : rowF L.length (fun j => f (at0 L j)) = L.map f := by
  apply List.ext_getElem (by simp)
  intro j h1 h2
  simp only [rowF_len] at h1
  simp [rowF, at0_eq h1]
theorem rowF_zero (m : Nat) : List.replicate m 0 = rowF m fun _ => 0 := by
  apply List.ext_getElem (by simp)
  intro j h1 h2
  simp [rowF]
/-- The faces of one point less than the greatest. -/
noncomputable def rdgL (n : Int) (l : List Int) : List Int := @ite _ (dimZ n l < 0) (Classical.propDecidable _) [] (fosL n l (dimZ n l))
/-- How many greatest facets hold s. -/
noncomputable def cntR (d : Int) (l : List Int) (s : Int) : Int := ((l.filter fun f => dec (subS s f ∧ sz f = d + 1)).length : Nat)
theorem cntR_nil (d s : Int) : cntR d [] s = 0 := rfl
theorem cntR_yes {d s : Int} {l : List Int} {i : Nat} (hi : i < l.length) (h : subS s (at0 l i) ∧ sz (at0 l i) = d + 1) : cntR d (l.take (i + 1)) s = cntR d (l.take i) s + 1 := by
  unfold cntR
  rw [filt_pos hi (dec_true h), List.length_append]
  simp
theorem cntR_no {d s : Int} {l : List Int} {i : Nat} (hi : i < l.length) (h : ¬ (subS s (at0 l i) ∧ sz (at0 l i) = d + 1)) : cntR d (l.take (i + 1)) s = cntR d (l.take i) s := by
  unfold cntR
  rw [filt_neg hi (dec_false h)]
theorem cntR_bnd (d s : Int) (l : List Int) (i : Nat) : 0 ≤ cntR d (l.take i) s ∧ cntR d (l.take i) s ≤ i := by
  unfold cntR
  have h2 : (l.take i).length ≤ i := by simp; omega
  have h3 := List.length_filter_le (fun f => dec (subS s f ∧ sz f = d + 1)) (l.take i)
  omega
noncomputable def rcL (n : Int) (l : List Int) : List Int := (rdgL n l).map fun s => cntR (dimZ n l) l s
theorem rdgL_neg {n : Int} {l : List Int} (h : dimZ n l < 0) : rdgL n l = [] := by unfold rdgL; rw [if_pos h]
theorem rdgL_nn {n : Int} {l : List Int} (h : ¬ dimZ n l < 0) : rdgL n l = fosL n l (dimZ n l) := by unfold rdgL; rw [if_neg h]
theorem rcL_neg {n : Int} {l : List Int} (h : dimZ n l < 0) : rcL n l = [] := by unfold rcL; rw [rdgL_neg h]; rfl
theorem rdgL_ok (n : Int) (l : List Int) : allS (rdgL n l) ∧ (rdgL n l).length ≤ 64 := by
  by_cases h : dimZ n l < 0
  · rw [rdgL_neg h]; exact ⟨by simp [allS], by simp⟩
  · rw [rdgL_nn h]; exact ⟨allS_setsOf _, setsOf_len _⟩
theorem dimZ_cplx {n : Int} {l : List Int} (h : ¬ dimZ n l < 0) : cplx n l := Classical.byContradiction fun hc => h (by unfold dimZ; rw [if_neg hc]; omega)
theorem dimZ_bnd (n : Int) (l : List Int) : -2 ≤ dimZ n l ∧ dimZ n l ≤ 5 := by
  unfold dimZ
  have := topZ_bnd (faceS l)
  split <;> omega
noncomputable def F_s_RidgeCounts : List V → Option V := F1 dC fun c => some (.own 1 (ints (rcL c.1 c.2)))
noncomputable def F_i_ridgesOf : List V → Option V := F1 dC fun c => some (.tup [.own 1 (ints (rdgL c.1 c.2)), .own 1 (ints (rcL c.1 c.2))])
/-- The counts of the first k sets; of the set at k as far as the facet at i. -/
noncomputable def rcK (d : Int) (l L : List Int) (k : Nat) : List Int := rowF L.length fun j => if j < k then cntR d l (at0 L j) else 0
noncomputable def rcI (d : Int) (l L : List Int) (k i : Nat) : List Int := rowF L.length fun j => if j < k then cntR d l (at0 L j) else if j = k then cntR d (l.take i) (at0 L k) else 0
@[simp] theorem rcK_len (d : Int) (l L : List Int) (k : Nat) : (rcK d l L k).length = L.length := by simp [rcK]
@[simp] theorem rcI_len (d : Int) (l L : List Int) (k i : Nat) : (rcI d l L k i).length = L.length := by simp [rcI]
theorem rcK_zero (d : Int) (l L : List Int) : rcK d l L 0 = List.replicate L.length 0 := by
  rw [rowF_zero]
  exact rowF_congr fun j _ => by simp
theorem rcK_full (d : Int) (l L : List Int) : rcK d l L L.length = L.map fun s => cntR d l s := by
  rw [← rowF_map]
  exact rowF_congr fun j hj => by simp [hj]
theorem rcI_zero (d : Int) (l L : List Int) (k : Nat) : rcI d l L k 0 = rcK d l L k := rowF_congr fun j hj => by
  by_cases h1 : j < k
  · simp [h1]
  · by_cases h2 : j = k
    · simp [h2, cntR_nil]
    · simp [h1, h2]
theorem rcI_full (d : Int) (l L : List Int) (k : Nat) : rcI d l L k l.length = rcK d l L (k + 1) := rowF_congr fun j hj => by
  by_cases h1 : j < k
  · simp [h1, show j < k + 1 by omega]
  · by_cases h2 : j = k
    · simp [h2]
    · simp [h1, h2, show ¬ j < k + 1 by omega]
theorem rcI_at (d : Int) (l : List Int) {L : List Int} {k : Nat} (i : Nat) (hk : k < L.length) : at0 (rcI d l L k i) k = cntR d (l.take i) (at0 L k) := by
  unfold rcI
  rw [rowF_at hk]
  simp
theorem rcI_yes {d : Int} {l L : List Int} {k i : Nat} (hk : k < L.length) (hi : i < l.length) (h : subS (at0 L k) (at0 l i) ∧ sz (at0 l i) = d + 1) : (rcI d l L k i).set k (cntR d (l.take i) (at0 L k) + 1) = rcI d l L k (i + 1) := by
  unfold rcI
  rw [rowF_set hk]
  refine rowF_congr fun j hj => ?_
  by_cases h2 : j = k
  · simp only [h2, if_true, Nat.lt_irrefl, if_false]
    rw [cntR_yes hi h]
  · simp only [h2, if_false]
theorem rcI_no {d : Int} {l L : List Int} {k i : Nat} (hi : i < l.length) (h : ¬ (subS (at0 L k) (at0 l i) ∧ sz (at0 l i) = d + 1)) : rcI d l L k (i + 1) = rcI d l L k i := by
  unfold rcI
  rw [cntR_no hi h]
theorem rcL_at {n : Int} {l : List Int} {k : Nat} (h : k < (rdgL n l).length) : at0 (rcL n l) k = cntR (dimZ n l) l (at0 (rdgL n l) k) := by
  unfold rcL
  rw [← rowF_map, rowF_at h]
def sc_s_RidgeCounts_L2 : SC := (.seq (.seq (.reg [⟨(some 21), none, (.mov (.t 7))⟩, ⟨(some 22), none, (.fad 1 (.t 1))⟩, ⟨(some 23), none, (.ld none .nil (.t 22))⟩, ⟨(some 24), none, (.len (.t 23))⟩, ⟨(some 25), none, (.bin false .lss (.t 21) (.t 24))⟩]) (.cond (.t 25) .skip (.exit 2))) (.seq (.block 3 (.dreg [⟨⟨(some 28), none, (.mov (.t 6))⟩, false, false⟩, ⟨⟨(some 29), none, (.fad 1 (.t 1))⟩, false, false⟩, ⟨⟨(some 30), none, (.ld none .nil (.t 29))⟩, false, false⟩, ⟨⟨(some 31), none, (.mov (.t 7))⟩, false, false⟩, ⟨⟨(some 32), none, (.idx 1 (.t 30) (.t 31))⟩, false, false⟩, ⟨⟨(some 33), none, (.ld none (.int .i64 0) (.t 32))⟩, false, false⟩, ⟨⟨(some 34), none, (.mov (.t 4))⟩, false, false⟩, ⟨⟨(some 35), none, (.mov (.t 5))⟩, false, false⟩, ⟨⟨(some 36), none, (.idx 1 (.t 34) (.t 35))⟩, false, false⟩, ⟨⟨(some 37), none, (.ld none (.int .i64 0) (.t 36))⟩, false, false⟩, ⟨⟨(some 38), none, (.bin false .and (.t 33) (.t 37))⟩, false, false⟩, ⟨⟨(some 39), none, (.mov (.t 4))⟩, false, false⟩, ⟨⟨(some 40), none, (.mov (.t 5))⟩, false, false⟩, ⟨⟨(some 41), none, (.idx 1 (.t 39) (.t 40))⟩, false, false⟩, ⟨⟨(some 42), none, (.ld none (.int .i64 0) (.t 41))⟩, false, false⟩, ⟨⟨(some 43), none, (.bin false .eql (.t 38) (.t 42))⟩, false, false⟩, ⟨⟨(some 44), none, (.mov (.t 43))⟩, false, false⟩, ⟨⟨(some 45), (some (44, true)), (.fad 1 (.t 1))⟩, false, false⟩, ⟨⟨(some 46), (some (44, true)), (.ld none .nil (.t 45))⟩, false, false⟩, ⟨⟨(some 47), (some (44, true)), (.mov (.t 7))⟩, false, false⟩, ⟨⟨(some 48), (some (44, true)), (.idx 1 (.t 46) (.t 47))⟩, false, false⟩, ⟨⟨(some 49), (some (44, true)), (.ld none (.int .i64 0) (.t 48))⟩, false, false⟩, ⟨⟨(some 50), (some (44, true)), (.call 156 [(.t 49)])⟩, false, false⟩, ⟨⟨(some 51), (some (44, true)), (.ld (some 2) .undef (.t 1))⟩, false, false⟩, ⟨⟨(some 52), (some (44, true)), (.call 155 [(.t 51)])⟩, false, false⟩, ⟨⟨(some 53), (some (44, true)), (.bin false .add (.t 52) (.c (.int .i64 1)))⟩, false, false⟩, ⟨⟨(some 54), (some (44, true)), (.bin false .eql (.t 50) (.t 53))⟩, false, false⟩, ⟨⟨(some 55), none, (.pick (.t 44) (.t 54) (.c (.bool false)))⟩, false, false⟩, ⟨⟨(some 56), none, (.call 164 [(.t 55)])⟩, false, false⟩, ⟨⟨(some 57), none, (.bin false .add (.t 28) (.t 56))⟩, false, false⟩, ⟨⟨(some 6), none, (.mov (.t 57))⟩, false, false⟩])) (.reg [⟨(some 26), none, (.mov (.t 7))⟩, ⟨(some 27), none, (.bin false .add (.t 26) (.c (.int .i64 1)))⟩, ⟨(some 7), none, (.mov (.t 27))⟩])))
def sc_s_RidgeCounts_L0 : SC := (.seq (.seq (.reg [⟨(some 15), none, (.mov (.t 5))⟩, ⟨(some 16), none, (.mov (.t 4))⟩, ⟨(some 17), none, (.len (.t 16))⟩, ⟨(some 18), none, (.bin false .lss (.t 15) (.t 17))⟩]) (.cond (.t 18) .skip (.exit 0))) (.seq (.block 1 (.seq (.reg [⟨(some 6), none, (.mov (.c (.int .i64 0)))⟩]) (.seq (.seq (.reg [⟨(some 7), none, (.mov (.c (.int .i64 0)))⟩]) (.block 2 (.loop sc_s_RidgeCounts_L2))) (.reg [⟨(some 58), none, (.mov (.t 3))⟩, ⟨(some 59), none, (.mov (.t 6))⟩, ⟨(some 60), none, (.mks 1 1 [(.int .i64 0)] [(0, (1, (.t 59)))])⟩, ⟨(some 61), none, (.app 1 8 (.t 58) (.t 60))⟩, ⟨(some 3), none, (.mov (.t 61))⟩])))) (.reg [⟨(some 19), none, (.mov (.t 5))⟩, ⟨(some 20), none, (.bin false .add (.t 19) (.c (.int .i64 1)))⟩, ⟨(some 5), none, (.mov (.t 20))⟩])))
def sc_i_ridgesOf_L2 : SC := (.seq (.reg [⟨(some 32), none, (.bin false .lss (.t 31) (.t 30))⟩]) (.seq (.cond (.t 32) .skip (.exit 2)) (.seq (.block 3 (.seq (.reg [⟨(some 33), none, (.idx 1 (.t 29) (.t 31))⟩, ⟨(some 34), none, (.ld none (.int .i64 0) (.t 33))⟩, ⟨(some 10), none, (.mov (.t 34))⟩]) (.seq (.reg [⟨(some 35), none, (.mov (.t 10))⟩, ⟨(some 36), none, (.call 181 [(.t 35)])⟩, ⟨(some 37), none, (.mov (.t 4))⟩, ⟨(some 38), none, (.bin false .add (.t 37) (.c (.int .i64 1)))⟩, ⟨(some 39), none, (.bin false .eql (.t 36) (.t 38))⟩, ⟨(some 40), none, (.mov (.t 39))⟩, ⟨(some 41), (some (40, true)), (.mov (.t 8))⟩, ⟨(some 42), (some (40, true)), (.mov (.t 10))⟩, ⟨(some 43), (some (40, true)), (.bin false .andNot (.t 41) (.t 42))⟩, ⟨(some 44), (some (40, true)), (.bin false .eql (.t 43) (.c (.int .i64 0)))⟩, ⟨(some 45), none, (.pick (.t 40) (.t 44) (.c (.bool false)))⟩]) (.cond (.t 45) (.reg [⟨(some 46), none, (.mov (.t 6))⟩, ⟨(some 47), none, (.mov (.t 7))⟩, ⟨(some 48), none, (.idx 1 (.t 46) (.t 47))⟩, ⟨(some 49), none, (.ld none (.int .i64 0) (.t 48))⟩, ⟨(some 50), none, (.bin false .add (.t 49) (.c (.int .i64 1)))⟩, ⟨(some 51), none, (.idx 1 (.t 46) (.t 47))⟩, ⟨none, none, (.st 1 (.t 51) (.t 50))⟩]) .skip)))) (.reg [⟨(some 52), none, (.bin false .add (.t 31) (.c (.int .i64 1)))⟩, ⟨(some 31), none, (.mov (.t 52))⟩]))))
def sc_i_ridgesOf_L0 : SC := (.seq (.reg [⟨(some 24), none, (.bin false .lss (.t 23) (.t 22))⟩]) (.seq (.cond (.t 24) .skip (.exit 0)) (.seq (.block 1 (.seq (.reg [⟨(some 25), none, (.mov (.t 23))⟩, ⟨(some 26), none, (.idx 1 (.t 21) (.t 23))⟩, ⟨(some 27), none, (.ld none (.int .i64 0) (.t 26))⟩, ⟨(some 7), none, (.mov (.t 25))⟩, ⟨(some 8), none, (.mov (.t 27))⟩]) (.seq (.reg [⟨(some 28), none, (.fad 1 (.t 1))⟩, ⟨(some 29), none, (.ld none .nil (.t 28))⟩, ⟨(some 30), none, (.len (.t 29))⟩, ⟨(some 31), none, (.mov (.c (.int .i64 0)))⟩]) (.block 2 (.loop sc_i_ridgesOf_L2))))) (.reg [⟨(some 53), none, (.bin false .add (.t 23) (.c (.int .i64 1)))⟩, ⟨(some 23), none, (.mov (.t 53))⟩]))))
end Go.Proofs.Ytmemomfffehnkaa
