import Derived.Test.YtmemomfffehnkaaHaF
import Derived.Test.YtmemomfffehnkaaFnZ
import Derived.Test.YtmemomfffehnkaaJaA
namespace Go.Proofs.Ytmemomfffehnkaa
open Go Go.RowKit
set_option maxRecDepth 1000000
set_option linter.unusedSimpArgs false
set_option linter.unusedVariables false
set_option maxHeartbeats 1000000
open Classical in
noncomputable def bI (p : Prop) : Int := if p then 1 else 0
theorem bI_yes {p : Prop} (h : p) : bI p = 1 := if_pos h
theorem bI_no {p : Prop} (h : ¬ p) : bI p = 0 := if_neg h
theorem bI_congr {p q : Prop} (h : p ↔ q) : bI p = bI q := by rw [propext h]
def sumN : Nat → (Nat → Int) → Int
  | 0, _ => 0
  | n + 1, f => sumN n f + f n
theorem sumN_congr {f g : Nat → Int} : ∀ {n : Nat}, (∀ k, k < n → f k = g k) → sumN n f = sumN n g
  | 0, _ => rfl
  | n + 1, h => by rw [sumN, sumN, sumN_congr fun k hk => h k (by omega), h n (by omega)]
theorem sumN_zero {f : Nat → Int} {n : Nat} (h : ∀ k, k < n → f k = 0) : sumN n f = 0 := by
  induction n with
  | zero => rfl
  | succ n ih => rw [sumN, ih fun k hk => h k (by omega), h n (by omega)]; rfl
theorem sumN_add (f g : Nat → Int) : ∀ n, sumN n (fun k => f k + g k) = sumN n f + sumN n g
  | 0 => rfl
  | n + 1 => by rw [sumN, sumN, sumN, sumN_add f g n]; omega
theorem sumN_mul (a : Int) (f : Nat → Int) : ∀ n, sumN n (fun k => a * f k) = a * sumN n f
  | 0 => by simp [sumN]
  | n + 1 => by rw [sumN, sumN, sumN_mul a f n, Int.mul_add]
theorem sumN_mulR (a : Int) (f : Nat → Int) (n : Nat) : sumN n (fun k => f k * a) = sumN n f * a := by
  rw [Int.mul_comm, ← sumN_mul]
  exact sumN_congr fun k _ => Int.mul_comm _ _
theorem sumN_swap (f : Nat → Nat → Int) (m : Nat) : ∀ n, sumN n (fun i => sumN m (f i)) = sumN m fun j => sumN n fun i => f i j
  | 0 => (sumN_zero fun _ _ => rfl).symm
  | n + 1 => by
    rw [sumN, sumN_swap f m n]
    have : (fun j => sumN (n + 1) fun i => f i j) = fun j => (sumN n fun i => f i j) + f n j := rfl
    rw [this, sumN_add]
theorem upS_cnt (p : Int → Prop) : ∀ k, ((upS p k).length : Int) = sumN k fun u => bI (p u)
  | 0 => rfl
  | k + 1 => by
    rw [sumN, ← upS_cnt p k]
    by_cases h : p k
    · rw [upS_pos h, bI_yes h, List.length_append]
      simp
    · rw [upS_neg h, bI_no h]
      simp
theorem szS_cnt (q : Int → Prop) (z : Int) : ((szS q z).length : Int) = sumN 64 fun u => bI (q u ∧ sz (u : Int) = z) := by
  unfold szS
  rw [← upS_sets, upS_cnt]
theorem cntIv_sum (F lows : List Int) (u : Int) : ∀ m, cntIv F lows u m = sumN m fun k => bI (inIv F lows u k)
  | 0 => rfl
  | m + 1 => by
    rw [sumN, ← cntIv_sum F lows u m]
    by_cases h : inIv F lows u m
    · rw [cntIv_pos h, bI_yes h]
    · rw [cntIv_neg h, bI_no h]
      omega
/-- Binomial numbers. -/
def chP : Nat → Nat → Nat
  | _, 0 => 1
  | 0, _ + 1 => 0
  | n + 1, k + 1 => chP n k + chP n (k + 1)
def chT (d a i : Nat) : Nat := if a ≤ i then chP (d - a) (i - a) else 0
def cU (x y i : Nat) : Nat := ((List.range 64).filter fun u => (x &&& u == x) && (u &&& y == u) && pcF 6 u == i).length
theorem key1 : ∀ x : Nat, x < 64 → ∀ y : Nat, y < 64 → (!(x &&& y == x) || (List.range 7).all fun i => cU x y i == chT (pcF 6 y) (pcF 6 x) i) = true := by decide +kernel
def sgI (k : Nat) : Int := 1 - 2 * ((k % 2 : Nat) : Int)
def altC (d a j : Nat) : Nat → Int
  | 0 => 0
  | i + 1 => altC d a j i + sgI (j - i) * (chT d a i : Nat) * (chP (d - i) (j - i) : Nat)
theorem key2 : ∀ d : Nat, d < 7 → ∀ a : Nat, a < d + 1 → ∀ j : Nat, j < d + 1 → altC d a j (j + 1) = if a = j then 1 else 0 := by decide +kernel
theorem altC_sum (d a j : Nat) : ∀ m, altC d a j m = sumN m fun i => sgI (j - i) * (chT d a i : Nat) * (chP (d - i) (j - i) : Nat)
  | 0 => rfl
  | m + 1 => by rw [altC, sumN, altC_sum d a j m]
theorem sumN_filter (p : Nat → Bool) : ∀ n, (((List.range n).filter p).length : Int) = sumN n fun u => bI (p u = true)
  | 0 => rfl
  | n + 1 => by
    rw [List.range_succ, List.filter_append, List.length_append, sumN, ← sumN_filter p n]
    by_cases h : p n = true
    · rw [bI_yes h]; simp [h]
    · rw [bI_no h]; simp [h]
theorem subS_natI {x y : Nat} (hx : x < 64) (hy : y < 64) : subS (x : Int) (y : Int) ↔ x &&& y = x := by
  have h1 := subS_iff' (a := (x : Int)) (b := (y : Int)) ⟨by omega, by omega⟩ ⟨by omega, by omega⟩
  rw [h1]
  show bitop .and .i64 (y : Int) (x : Int) = (x : Int) ↔ _
  rw [bits_and y x (by omega) (by omega), Nat.and_comm]
  omega
theorem sz_nat {x : Nat} (hx : x < 64) : sz (x : Int) = (pcF 6 x : Nat) := by
  rw [sz, Int.toNat_natCast, pc6 x hx]
/-- How many sets of a size lie between two sets. -/
theorem cnt_between {x y : Nat} (hx : x < 64) (hy : y < 64) (h : subS (x : Int) (y : Int)) {i : Nat} (hi : i < 7) : (sumN 64 fun u => bI ((subS (x : Int) (u : Int) ∧ subS (u : Int) (y : Int)) ∧ sz (u : Int) = (i : Int))) = (chT (pcF 6 y) (pcF 6 x) i : Nat) := by
  have e := key1 x hx y hy
  have h' := (subS_natI hx hy).1 h
  simp only [h', beq_self_eq_true, Bool.not_true, Bool.false_or, List.all_eq_true, List.mem_range, beq_iff_eq] at e
  rw [← e i hi]
  unfold cU
  rw [sumN_filter]
  refine sumN_congr fun u hu => bI_congr ?_
  rw [subS_natI hx hu, subS_natI hu hy, sz_nat hu]
  simp only [Bool.and_eq_true, beq_iff_eq]
  constructor
  · rintro ⟨⟨a, b⟩, c⟩; exact ⟨⟨a, b⟩, by omega⟩
  · rintro ⟨⟨a, b⟩, c⟩; exact ⟨⟨a, b⟩, by omega⟩
theorem filt_sum (p : Int → Bool) (l : List Int) : ∀ m, m ≤ l.length → (((l.take m).filter p).length : Int) = sumN m fun k => bI (p (at0 l k) = true)
  | 0, _ => by simp [sumN]
  | m + 1, h => by
    have hm : m < l.length := by omega
    rw [List.take_succ_eq_append_getElem hm, List.filter_append, List.length_append, sumN, ← filt_sum p l m (by omega), at0_eq hm]
    by_cases e : p l[m] = true
    · rw [bI_yes e]; simp [e]
    · rw [bI_no e]; simp [e]
theorem cntZ_sum (l : List Int) (z : Nat) : cntZ l z = sumN l.length fun k => bI (sz (at0 l k) = (z : Int)) := by
  unfold cntZ
  have := filt_sum (fun s => dec (sz s = (z : Int))) l l.length (Nat.le_refl _)
  rw [List.take_length] at this
  rw [this]
  exact sumN_congr fun k _ => bI_congr dec_iff
/-- The h numbers of a divided pure complex count the lows by size. -/
theorem hnum_div {F lows : List Int} {d : Nat} (hF : allS F) (hlen : lows.length = F.length) (hlow : ∀ k, k < lows.length → isS (at0 lows k) ∧ subS (at0 lows k) (at0 F k)) (hp : ∀ k, k < F.length → sz (at0 F k) = (d : Int)) (hd : d < 7)
    (hone : ∀ u, isS u → faceS F u → cntIv F lows u lows.length = 1) {j : Nat} (hj : j ≤ d) :
    (sumN (j + 1) fun i => sgI (j - i) * ((szS (faceS F) (i : Nat)).length : Int) * (chP (d - i) (j - i) : Nat)) = cntZ lows j := by
  have hf : ∀ i : Nat, i < 7 → ((szS (faceS F) (i : Nat)).length : Int) = sumN lows.length fun k => (chT d (sz (at0 lows k)).toNat i : Nat) := by
    intro i hi
    rw [szS_cnt]
    have e1 : (sumN 64 fun u => bI (faceS F (u : Int) ∧ sz (u : Int) = (i : Int))) = sumN 64 fun u => sumN lows.length fun k => bI (inIv F lows (u : Int) k ∧ sz (u : Int) = (i : Int)) := by
      refine sumN_congr fun u hu => ?_
      have hus : isS (u : Int) := ⟨by omega, by omega⟩
      by_cases hz : sz (u : Int) = (i : Int)
      · have e2 : (sumN lows.length fun k => bI (inIv F lows (u : Int) k ∧ sz (u : Int) = (i : Int))) = cntIv F lows u lows.length := by
          rw [cntIv_sum]
          exact sumN_congr fun k _ => bI_congr ⟨fun h => h.1, fun h => ⟨h, hz⟩⟩
        rw [e2]
        by_cases hfu : faceS F (u : Int)
        · rw [bI_yes ⟨hfu, hz⟩, hone _ hus hfu]
        · rw [bI_no fun h => hfu h.1, cntIv_sum, sumN_zero]
          intro k hk
          refine bI_no fun h => hfu ⟨at0 F k, getD_mem' (by omega), h.2⟩
      · rw [bI_no fun h => hz h.2, sumN_zero]
        intro k _
        exact bI_no fun h => hz h.2
    rw [e1, sumN_swap]
    refine sumN_congr fun k hk => ?_
    obtain ⟨hl1, hl2⟩ := hlow k hk
    have hfk := allS_at hF (j := k) (by omega)
    obtain ⟨x, hx, ex⟩ := isS_nat0 hl1
    obtain ⟨y, hy, ey⟩ := isS_nat0 hfk
    have hd2 := hp k (by omega)
    rw [ey, sz_nat hy] at hd2
    have hd3 : pcF 6 y = d := by omega
    have e3 : (sz (at0 lows k)).toNat = pcF 6 x := by rw [ex, sz_nat hx, Int.toNat_natCast]
    rw [e3]
    have := cnt_between hx hy (by rw [← ex, ← ey]; exact hl2) hi
    rw [hd3] at this
    rw [← this]
    refine sumN_congr fun u _ => bI_congr ?_
    unfold inIv
    rw [ex, ey]
  have e4 : (sumN (j + 1) fun i => sgI (j - i) * ((szS (faceS F) (i : Nat)).length : Int) * (chP (d - i) (j - i) : Nat)) = sumN (j + 1) fun i => sumN lows.length fun k => sgI (j - i) * (chT d (sz (at0 lows k)).toNat i : Nat) * (chP (d - i) (j - i) : Nat) := by
    refine sumN_congr fun i hi => ?_
    rw [hf i (by omega), ← sumN_mul, ← sumN_mulR]
  rw [e4, sumN_swap]
  have e5 : (sumN lows.length fun k => sumN (j + 1) fun i => sgI (j - i) * (chT d (sz (at0 lows k)).toNat i : Nat) * (chP (d - i) (j - i) : Nat)) = sumN lows.length fun k => bI (sz (at0 lows k) = (j : Int)) := by
    refine sumN_congr fun k hk => ?_
    obtain ⟨hl1, hl2⟩ := hlow k hk
    have hfk := allS_at hF (j := k) (by omega)
    have hle := (sz_sub hl1 hfk hl2).1
    rw [hp k (by omega)] at hle
    have h0 : 0 ≤ sz (at0 lows k) := by unfold sz; omega
    rw [← altC_sum, key2 d hd _ (by omega) j (by omega)]
    by_cases e : sz (at0 lows k) = (j : Int)
    · rw [bI_yes e, if_pos (by omega)]
    · rw [bI_no e, if_neg (by omega)]
  rw [e5]
  exact (cntZ_sum lows j).symm
end Go.Proofs.Ytmemomfffehnkaa
