import Derived.Test.YtmemomfffehnkaaHuB
import Derived.Test.YtmemomfffehnkaaJaA
import Derived.Test.YtmemomfffehnkaaFqG
import Derived.Test.YtmemomfffehnkaaFqF
import Derived.Test.YtmemomfffehnkaaFmC
namespace Go.Proofs.Ytmemomfffehnkaa
open Go Go.RowKit
set_option maxRecDepth 1000000
set_option linter.unusedSimpArgs false
set_option linter.unusedVariables false
set_option maxHeartbeats 1000000
theorem szRow_sum (l : List Int) : ∀ m, (szRow m l).sum = sumN m fun z => cntZ l z
  | 0 => rfl
  | m + 1 => by
    have e : szRow (m + 1) l = szRow m l ++ [cntZ l m] := by simp [szRow, List.range_succ]
    rw [e, List.sum_append, szRow_sum l m, sumN]
    simp
theorem one_hit {m : Nat} {z : Int} (h0 : 0 ≤ z) : ∀ {m : Nat}, (sumN m fun k => bI (z = (k : Int))) = bI (z < (m : Int))
  | 0 => by rw [bI_no (by omega)]; rfl
  | m + 1 => by
    rw [sumN, one_hit (m := m) h0]
    by_cases h1 : z < (m : Int)
    · rw [bI_yes h1, bI_no (by omega), bI_yes (by omega)]; rfl
    · by_cases h2 : z = (m : Int)
      · rw [bI_no h1, bI_yes h2, bI_yes (by omega)]; rfl
      · rw [bI_no h1, bI_no h2, bI_no (by omega)]; rfl
/-- The counts by size sum up to the number of sets. -/
theorem szRow_total {l : List Int} {m : Nat} (h : ∀ k, k < l.length → sz (at0 l k) < (m : Int)) : (szRow m l).sum = l.length := by
  rw [szRow_sum]
  have e : (sumN m fun z => cntZ l z) = sumN m fun z => sumN l.length fun k => bI (sz (at0 l k) = (z : Int)) := sumN_congr fun z _ => cntZ_sum l z
  rw [e, sumN_swap]
  have e2 : (sumN l.length fun k => sumN m fun z => bI (sz (at0 l k) = (z : Int))) = sumN l.length fun _ => 1 := by
    refine sumN_congr fun k hk => ?_
    have h0 : 0 ≤ sz (at0 l k) := by unfold sz; omega
    rw [one_hit (m := m) h0, bI_yes (h k hk)]
  rw [e2]
  have : ∀ n : Nat, (sumN n fun _ => 1) = (n : Int) := fun n => by
    induction n with
    | zero => rfl
    | succ n ih => rw [sumN, ih]; omega
  exact this _
theorem cntZ_rng (l : List Int) (z : Nat) : 0 ≤ cntZ l z ∧ cntZ l z ≤ l.length := by
  unfold cntZ
  have := List.length_filter_le (fun s => dec (sz s = (z : Int))) l
  omega
theorem szRow_mem {m : Nat} {l : List Int} {x : Int} (h : x ∈ szRow m l) : 0 ≤ x ∧ x ≤ l.length := by
  obtain ⟨z, _, rfl⟩ := List.mem_map.1 h
  exact cntZ_rng l z
theorem faceS_at {l : List Int} (hl : allS l) {k : Nat} (hk : k < l.length) {s : Int} (hs : isS s) (h : subS s (at0 l k)) : faceS l s := ⟨at0 l k, getD_mem' hk, h⟩
/-- The h numbers, given the lows of intervals that divide the faces. -/
theorem hnL_div {n : Int} {l F lows : List Int} (hc : cplx n l) (hne : l ≠ []) (hpure : pureB n l = true) (hFl : ∀ x, x ∈ F ↔ x ∈ l) (hlen : lows.length = F.length)
    (hlow : ∀ k, k < lows.length → isS (at0 lows k) ∧ subS (at0 lows k) (at0 F k)) (hone : ∀ u, isS u → faceS l u → cntIv F lows u lows.length = 1) : hnL n l = szRow (topZ (faceS l) + 1).toNat lows := by
  have hS := cplx_isS hc
  have hFS : allS F := fun x hx => hS x ((hFl x).1 hx)
  have hff : ∀ s, faceS F s ↔ faceS l s := fun s => ⟨fun ⟨f, a, b⟩ => ⟨f, (hFl f).1 a, b⟩, fun ⟨f, a, b⟩ => ⟨f, (hFl f).2 a, b⟩⟩
  have htop := topZ_facets hc hne
  have htb := topZ_bnd (faceS l)
  have hl0 : 0 < l.length := List.length_pos_iff.2 hne
  have hpa : ∀ x ∈ l, sz x = sz (at0 l (l.length - 1)) := fun x hx => by
    obtain ⟨k, hk, rfl⟩ := getD_mem_iff.1 hx
    have h2 := (dec_iff.1 hpure).2
    rw [h2 k hk, h2 (l.length - 1) (by omega)]
  have h0 : 0 ≤ sz (at0 l (l.length - 1)) := by unfold sz; omega
  obtain ⟨d, hd⟩ := Int.eq_ofNat_of_zero_le (show 0 ≤ topZ (faceS l) by omega)
  have hm : (topZ (faceS l) + 1).toNat = d + 1 := by omega
  have hp : ∀ k, k < F.length → sz (at0 F k) = (d : Int) := fun k hk => by
    rw [hpa _ ((hFl _).1 (getD_mem' hk)), ← htop, hd]
  have ef : fctL n l = rowF (d + 1) fun z => ((szS (faceS l) z).length : Nat) := by
    unfold fctL
    rw [if_pos hc, hm]
  have efl : (fctL n l).length = d + 1 := by rw [ef, rowF_len]
  unfold hnL
  rw [efl, hm]
  unfold szRow
  refine List.map_congr_left fun k hk => ?_
  rw [List.mem_range] at hk
  have key := hnum_div (F := F) (lows := lows) (d := d) hFS hlen hlow hp (by omega) (fun u hu hfu => hone u hu ((hff u).1 hfu)) (j := k) (by omega)
  rw [← key]
  refine sumN_congr fun i hi => ?_
  have hik : i ≤ k := by omega
  obtain ⟨e1, _⟩ := hSum_term (n := n) (l := l) (k := k) (i := i) (by omega) hik
  rw [e1, efl]
  have e2 : at0 (fctL n l) i = ((szS (faceS F) (i : Nat)).length : Int) := by
    rw [ef, rowF_at (by omega)]
    rw [szS_congr (fun s _ => (hff s))]
  rw [e2]
  have e3 : d + 1 - 1 - i = d - i := by omega
  rw [e3]
theorem divP_low {n : Int} {l lows : List Int} (h : divP n l lows) (hne : lows.length ≠ 0) : (divcL n l lows).length = (topZ (faceS l) + 1).toNat ∧ (divcL n l lows).sum = l.length ∧ ∀ x ∈ divcL n l lows, 0 ≤ x ∧ x ≤ l.length := by
  have hc := h.1
  have hS := cplx_isS hc
  have e : divcL n l lows = szRow (topZ (faceS l) + 1).toNat lows := if_pos h
  have htb := topZ_bnd (faceS l)
  rw [e]
  refine ⟨szRow_len _ _, ?_, fun x hx => by have := szRow_mem hx; rw [h.2.1] at this; exact this⟩
  rw [← h.2.1]
  refine szRow_total fun k hk => ?_
  obtain ⟨a, b⟩ := h.2.2.1 k hk
  have hkl : k < l.length := by rw [← h.2.1]; exact hk
  have := topZ_ge a (faceS_at hS hkl a b)
  omega
theorem divP_h {n : Int} {l lows : List Int} (h : divP n l lows) (hne : l ≠ []) (hp : pureB n l = true) : hnL n l = divcL n l lows := by
  have e : divcL n l lows = szRow (topZ (faceS l) + 1).toNat lows := if_pos h
  rw [e]
  exact hnL_div h.1 hne hp (F := l) (fun _ => Iff.rfl) h.2.1 h.2.2.1 fun u hu hf => (h.2.2.2 u (mem_setsOf.2 ⟨hu, hf⟩)).2 rfl
theorem divcL_nil {n : Int} {lows : List Int} (h : divP n [] lows) : divcL n [] lows = [] := by
  have e : divcL n [] lows = szRow (topZ (faceS []) + 1).toNat lows := if_pos h
  rw [e, topZ_nil]
  rfl
end Go.Proofs.Ytmemomfffehnkaa
