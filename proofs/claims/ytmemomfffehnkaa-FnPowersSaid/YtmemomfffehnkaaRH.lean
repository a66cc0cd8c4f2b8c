import Derived.Test.YtmemomfffehnkaaRG
import Derived.Test.YtmemomfffehnkaaRF
import Derived.Test.YtmemomfffehnkaaRE
namespace Go.Proofs.Ytmemomfffehnkaa
open Go Go.RowKit
set_option maxRecDepth 1000000
set_option linter.unusedSimpArgs false
set_option linter.unusedVariables false
set_option maxHeartbeats 1000000
open Classical in
noncomputable def bI (p : Prop) : Int := if p then 1 else 0
theorem bI_yes {p : Prop} (h : p) : bI p = 1 := if_pos h
theorem bI_no {p : Prop} (h : ¬ p) : bI p = 0 := if_neg h
theorem bI_congr {p q : Prop} (h : p ↔ q) : bI p = bI q := by rw [propext h]
def sumN : Nat → (Nat → Int) → Int
  | 0, _ => 0
  | n + 1, f => sumN n f + f n
theorem sumN_congr {f g : Nat → Int} : ∀ {n : Nat}, (∀ k, k < n → f k = g k) → sumN n f = sumN n g
  | 0, _ => rfl
  | n + 1, h => by rw [sumN, sumN, sumN_congr fun k hk => h k (by omega), h n (by omega)]
theorem sumN_zero {f : Nat → Int} {n : Nat} (h : ∀ k, k < n → f k = 0) : sumN n f = 0 := by
  induction n with
  | zero => rfl
  | succ n ih => rw [sumN, ih fun k hk => h k (by omega), h n (by omega)]; rfl
theorem sumN_add (f g : Nat → Int) : ∀ n, sumN n (fun k => f k + g k) = sumN n f + sumN n g
  | 0 => rfl
  | n + 1 => by rw [sumN, sumN, sumN, sumN_add f g n]; omega
theorem sumN_mul (a : Int) (f : Nat → Int) : ∀ n, sumN n (fun k => a * f k) = a * sumN n f
  | 0 => by simp [sumN]
  | n + 1 => by rw [sumN, sumN, sumN_mul a f n, Int.mul_add]
theorem sumN_mulR (a : Int) (f : Nat → Int) (n : Nat) : sumN n (fun k => f k * a) = sumN n f * a := by
  rw [Int.mul_comm, ← sumN_mul]
  exact sumN_congr fun k _ => Int.mul_comm _ _
theorem sumN_swap (f : Nat → Nat → Int) (m : Nat) : ∀ n, sumN n (fun i => sumN m (f i)) = sumN m fun j => sumN n fun i => f i j
  | 0 => (sumN_zero fun _ _ => rfl).symm
  | n + 1 => by
    rw [sumN, sumN_swap f m n]
    have : (fun j => sumN (n + 1) fun i => f i j) = fun j => (sumN n fun i => f i j) + f n j := rfl
    rw [this, sumN_add]
theorem upS_cnt (p : Int → Prop) : ∀ k, ((upS p k).length : Int) = sumN k fun u => bI (p u)
  | 0 => rfl
  | k + 1 => by
    rw [sumN, ← upS_cnt p k]
    by_cases h : p k
    · rw [upS_pos h, bI_yes h, List.length_append]
      simp
    · rw [upS_neg h, bI_no h]
      simp
theorem szS_cnt (q : Int → Prop) (z : Int) : ((szS q z).length : Int) = sumN 64 fun u => bI (q u ∧ sz (u : Int) = z) := by
  unfold szS
  rw [← upS_sets, upS_cnt]
theorem sumN_filter (p : Nat → Bool) : ∀ n, (((List.range n).filter p).length : Int) = sumN n fun u => bI (p u = true)
  | 0 => rfl
  | n + 1 => by
    rw [List.range_succ, List.filter_append, List.length_append, sumN, ← sumN_filter p n]
    by_cases h : p n = true
    · rw [bI_yes h]; simp [h]
    · rw [bI_no h]; simp [h]
theorem subS_natI {x y : Nat} (hx : x < 64) (hy : y < 64) : subS (x : Int) (y : Int) ↔ x &&& y = x := by
  have h1 := subS_iff' (a := (x : Int)) (b := (y : Int)) ⟨by omega, by omega⟩ ⟨by omega, by omega⟩
  rw [h1]
  show bitop .and .i64 (y : Int) (x : Int) = (x : Int) ↔ _
  rw [bits_and y x (by omega) (by omega), Nat.and_comm]
  omega
theorem sz_nat {x : Nat} (hx : x < 64) : sz (x : Int) = (pcF 6 x : Nat) := by
  rw [sz, Int.toNat_natCast, pc6 x hx]
theorem filt_sum (p : Int → Bool) (l : List Int) : ∀ m, m ≤ l.length → (((l.take m).filter p).length : Int) = sumN m fun k => bI (p (at0 l k) = true)
  | 0, _ => by simp [sumN]
  | m + 1, h => by
    have hm : m < l.length := by omega
    rw [List.take_succ_eq_append_getElem hm, List.filter_append, List.length_append, sumN, ← filt_sum p l m (by omega), at0_eq hm]
    by_cases e : p l[m] = true
    · rw [bI_yes e]; simp [e]
    · rw [bI_no e]; simp [e]
theorem cntZ_sum (l : List Int) (z : Nat) : cntZ l z = sumN l.length fun k => bI (sz (at0 l k) = (z : Int)) := by
  unfold cntZ
  have := filt_sum (fun s => dec (sz s = (z : Int))) l l.length (Nat.le_refl _)
  rw [List.take_length] at this
  rw [this]
  exact sumN_congr fun k _ => bI_congr dec_iff
end Go.Proofs.Ytmemomfffehnkaa
namespace Go.Proofs.Ytmemomfffehnkaa
open Go Go.RowKit
set_option maxRecDepth 1000000
set_option linter.unusedSimpArgs false
set_option linter.unusedVariables false
set_option maxHeartbeats 1000000
end Go.Proofs.Ytmemomfffehnkaa
namespace Go.Proofs.Ytmemomfffehnkaa
open Go Go.RowKit
set_option maxRecDepth 1000000
set_option linter.unusedSimpArgs false
set_option linter.unusedVariables false
set_option maxHeartbeats 1000000
end Go.Proofs.Ytmemomfffehnkaa
namespace Go.Proofs.Ytmemomfffehnkaa
open Go Go.RowKit
set_option maxRecDepth 1000000
set_option linter.unusedSimpArgs false
set_option linter.unusedVariables false
set_option maxHeartbeats 1000000
/-- A row, applied to numbers. -/
def rv (w : Nat) (r : List Int) (x : Nat → Int) : Int := sumN w fun j => at0 r j * x j
def sol (p : Int) (w : Nat) (M : List (List Int)) (x : Nat → Int) : Prop := ∀ i, i < M.length → p ∣ rv w (atR M i) x
section piv
variable {p : Int} {w : Nat} {M : List (List Int)} {d a j : Nat}
end piv
structure rrI (p : Int) (w : Nat) (M0 : List (List Int)) (j : Nat) (x : List (List Int) × List Int) : Prop where
  base : redI p w M0 j x
  sl : ∀ y, sol p w x.1 y ↔ sol p w M0 y
  one : ∀ q, q < x.2.length → at0 (atR x.1 q) (at0 x.2 q).toNat = 1
  zer : ∀ q, q < x.2.length → ∀ i, i < x.1.length → i ≠ q → at0 (atR x.1 i) (at0 x.2 q).toNat = 0
  low : ∀ i, x.2.length ≤ i → i < x.1.length → ∀ k, k < j → at0 (atR x.1 i) k = 0
end Go.Proofs.Ytmemomfffehnkaa
namespace Go.Proofs.Ytmemomfffehnkaa
open Go Go.RowKit
set_option maxRecDepth 1000000
set_option linter.unusedSimpArgs false
set_option linter.unusedVariables false
set_option maxHeartbeats 1000000
end Go.Proofs.Ytmemomfffehnkaa
namespace Go.Proofs.Ytmemomfffehnkaa
open Go Go.RowKit
set_option maxRecDepth 1000000
set_option linter.unusedSimpArgs false
set_option linter.unusedVariables false
set_option maxHeartbeats 1000000
end Go.Proofs.Ytmemomfffehnkaa
namespace Go.Proofs.Ytmemomfffehnkaa
open Go Go.RowKit
set_option maxRecDepth 1000000
set_option linter.unusedSimpArgs false
set_option linter.unusedVariables false
set_option maxHeartbeats 1000000
end Go.Proofs.Ytmemomfffehnkaa
namespace Go.Proofs.Ytmemomfffehnkaa
open Go Go.RowKit
set_option maxRecDepth 1000000
set_option linter.unusedSimpArgs false
set_option linter.unusedVariables false
set_option maxHeartbeats 1000000
def sc_s_FaceCounts_L2 : SC := (.seq (.seq (.reg [⟨(some 15), none, (.mov (.t 3))⟩, ⟨(some 16), none, (.len (.t 15))⟩, ⟨(some 17), none, (.mov (.t 4))⟩, ⟨(some 18), none, (.mov (.t 5))⟩, ⟨(some 19), none, (.idx 1 (.t 17) (.t 18))⟩, ⟨(some 20), none, (.ld none (.int .i64 0) (.t 19))⟩, ⟨(some 21), none, (.call 156 [(.t 20)])⟩, ⟨(some 22), none, (.bin false .leq (.t 16) (.t 21))⟩]) (.cond (.t 22) .skip (.exit 2))) (.block 3 (.reg [⟨(some 23), none, (.mov (.t 3))⟩, ⟨(some 24), none, (.mks 1 1 [(.int .i64 0)] [(0, (1, (.c (.int .i64 0))))])⟩, ⟨(some 25), none, (.app 1 8 (.t 23) (.t 24))⟩, ⟨(some 3), none, (.mov (.t 25))⟩])))
def sc_s_FaceCounts_L0 : SC := (.seq (.seq (.reg [⟨(some 9), none, (.mov (.t 5))⟩, ⟨(some 10), none, (.mov (.t 4))⟩, ⟨(some 11), none, (.len (.t 10))⟩, ⟨(some 12), none, (.bin false .lss (.t 9) (.t 11))⟩]) (.cond (.t 12) .skip (.exit 0))) (.seq (.block 1 (.seq (.block 2 (.loop sc_s_FaceCounts_L2)) (.dreg [⟨⟨(some 26), none, (.mov (.t 3))⟩, false, false⟩, ⟨⟨(some 27), none, (.mov (.t 4))⟩, false, false⟩, ⟨⟨(some 28), none, (.mov (.t 5))⟩, false, false⟩, ⟨⟨(some 29), none, (.idx 1 (.t 27) (.t 28))⟩, false, false⟩, ⟨⟨(some 30), none, (.ld none (.int .i64 0) (.t 29))⟩, false, false⟩, ⟨⟨(some 31), none, (.call 156 [(.t 30)])⟩, false, false⟩, ⟨⟨(some 32), none, (.mov (.t 3))⟩, false, false⟩, ⟨⟨(some 33), none, (.mov (.t 4))⟩, false, false⟩, ⟨⟨(some 34), none, (.mov (.t 5))⟩, false, false⟩, ⟨⟨(some 35), none, (.idx 1 (.t 33) (.t 34))⟩, false, false⟩, ⟨⟨(some 36), none, (.ld none (.int .i64 0) (.t 35))⟩, false, false⟩, ⟨⟨(some 37), none, (.call 156 [(.t 36)])⟩, false, false⟩, ⟨⟨(some 38), none, (.idx 1 (.t 32) (.t 37))⟩, false, false⟩, ⟨⟨(some 39), none, (.ld none (.int .i64 0) (.t 38))⟩, false, false⟩, ⟨⟨(some 40), none, (.bin false .add (.t 39) (.c (.int .i64 1)))⟩, false, false⟩, ⟨⟨(some 41), none, (.idx 1 (.t 26) (.t 31))⟩, false, false⟩, ⟨⟨none, none, (.st 1 (.t 41) (.t 40))⟩, true, false⟩]))) (.reg [⟨(some 13), none, (.mov (.t 5))⟩, ⟨(some 14), none, (.bin false .add (.t 13) (.c (.int .i64 1)))⟩, ⟨(some 5), none, (.mov (.t 14))⟩])))
def sc_s_FaceCounts : SC := (.seq (.reg [⟨(some 1), none, (.box (.t 0))⟩, ⟨(some 2), none, (.mov (.c .nil))⟩]) (.seq (.reg [⟨(some 6), none, (.mks 0 1 [] [])⟩, ⟨(some 3), none, (.mov (.t 6))⟩]) (.seq (.reg [⟨(some 7), none, (.ld (some 2) .undef (.t 1))⟩, ⟨(some 8), none, (.call 43 [(.t 7)])⟩, ⟨(some 4), none, (.mov (.t 8))⟩]) (.seq (.seq (.reg [⟨(some 5), none, (.mov (.c (.int .i64 0)))⟩]) (.block 0 (.loop sc_s_FaceCounts_L0))) (.seq (.reg [⟨(some 42), none, (.mov (.t 3))⟩, ⟨(some 2), none, (.mov (.t 42))⟩]) .ret)))))
theorem code_s_FaceCounts : fnCode Try.prog [] 141 = some (43, sc_s_FaceCounts, [(2, none)]) := by kernel_rfl
open Classical in
/-- How many faces of each size. -/
noncomputable def fctL (n : Int) (l : List Int) : List Int := if cplx n l then rowF (topZ (faceS l) + 1).toNat (fun z => ((szS (faceS l) z).length : Nat)) else []
noncomputable def F_s_FaceCounts : List V → Option V := F1 dC fun c => some (.own 1 (ints (fctL c.1 c.2)))
theorem at0_takeq {l : List Int} {k q : Nat} (h : q < k) : at0 (l.take k) q = at0 l q := by simp [at0, List.getElem?_take, h]
theorem szRow_grow {m : Nat} {l : List Int} (h : ∀ s ∈ l, sz s < m) : szRow (m + 1) l = szRow m l ++ [0] := by
  unfold szRow
  rw [List.range_succ, List.map_append]
  congr 1
  simp only [List.map_cons, List.map_nil]
  congr 1
  unfold cntZ
  have : l.filter (fun s => dec (sz s = (m : Int))) = [] := List.filter_eq_nil_iff.2 fun s hs => by
    have := h s hs
    rw [dec_false (by omega)]
    simp
  rw [this]
  rfl
theorem fn_s_FaceCounts : FnOk Try.prog 141 F_s_FaceCounts := by
  have env := ((envNil_ok (P := Try.prog)).add fn_s_FacesOf).add fn_s_l2Size
  refine fn_ok code_s_FaceCounts mixed env ?_
  intro args r h hb
  obtain ⟨_, ⟨n, l⟩, rfl, h1, h4⟩ := F1_inv h
  cases dC_inv h1
  cases h4
  clear h
  refine ⟨by simp, fun w0 U0 L0 N0 => ?_⟩
  clear hb
  simp only
  have hL : allS (facesL n l) := allS_setsOf _
  have hLl : (facesL n l).length ≤ 64 := setsOf_len _
  have hso : (facesL n l).Pairwise fun a b => before a b = true := setsOf_sorted _
  have hres : ∀ m : Nat, (facesL n l = [] → m = 0) → (facesL n l ≠ [] → sz (at0 (facesL n l) ((facesL n l).length - 1)) + 1 = m) → (∀ q, q < (facesL n l).length → sz (at0 (facesL n l) q) < m) → fctL n l = szRow m (facesL n l) := by
    intro m h1 h2 h3
    unfold fctL
    by_cases hc : cplx n l
    · rw [if_pos hc]
      have hm : (topZ (faceS l) + 1).toNat = m := by
        have hf := facesL_of hc
        have htb := topZ_bnd (faceS l)
        by_cases he : facesL n l = []
        · rw [h1 he]
          rcases topZ_hit (faceS l) with e | ⟨s, hs, hp, _⟩
          · omega
          · have : s ∈ facesL n l := by rw [hf]; exact mem_setsOf.2 ⟨hs, hp⟩
            rw [he] at this
            simp at this
        · have hpos := List.length_pos_iff.2 he
          have hlast := getD_mem' (l := facesL n l) (j := (facesL n l).length - 1) (by omega)
          have hlast2 := hlast
          rw [hf] at hlast2
          obtain ⟨e1, e2⟩ := mem_setsOf.1 hlast2
          have h4 := topZ_ge e1 e2
          have h5 := h2 he
          rw [← hf] at h4
          rcases topZ_hit (faceS l) with e | ⟨s, hs, hp, e⟩
          · have := sz_nn (at0 (facesL n l) ((facesL n l).length - 1))
            omega
          · have hms : s ∈ facesL n l := by rw [hf]; exact mem_setsOf.2 ⟨hs, hp⟩
            obtain ⟨q, hq, rfl⟩ := getD_mem_iff.1 hms
            have := h3 q hq
            omega
      rw [hm]
      unfold rowF szRow
      refine List.map_congr_left fun z _ => ?_
      unfold cntZ
      rw [facesL_of hc, filt_setsOf]
      rfl
    · rw [if_neg hc]
      have he := facesL_not hc
      rw [h1 he, he]
      rfl
  have hFF : F_s_FacesOf [.agg [.int .i64 n, .list 1 (ints l)]] = some (.own 1 (ints (facesL n l))) := by simp [F_s_FacesOf]
  generalize facesL n l = L at *
  generalize fctL n l = F at *
  simp -implicitDefEqProofs [sc_s_FaceCounts, hFF]
  have inner : ∀ (i m0 z M1 : Nat) (Q : Post) (T0 : Tm), M1 = z + 1 → i < L.length → sz (at0 L i) = z → m0 ≤ z + 1 → (∀ s ∈ L.take i, sz s < m0) → subE T0 [(3, .sl 1 1 0 m0), (4, .sl 2 1 0 L.length), (5, .int .i64 (i : Int))] →
      Q (.exit 2) [(3, .sl 1 1 0 M1), (4, .sl 2 1 0 L.length), (5, .int .i64 (i : Int))] ([(2, ints L), (1, ints (szRow M1 (L.take i))), (0, [.int .i64 n, .list 1 (ints l)])], 3) →
      LoopI ⟨Try.prog, w0, U0, L0, N0, 0, 43⟩ [] sc_s_FaceCounts_L2 Q T0 ([(2, ints L), (1, ints (szRow m0 (L.take i))), (0, [.int .i64 n, .list 1 (ints l)])], 3) := by
    intro i m0 z M1 Q T0 hM1 hi hz hm hlow hsub q1
    subst hM1
    have hf := allS_at hL hi
    have h6 := sz_six hf
    have r1 : at0 L i < 9223372036854775808 := by have := hf.2; omega
    refine loopQ env mixed (fun j : Nat => [(3, .sl 1 1 0 j), (4, .sl 2 1 0 L.length), (5, .int .i64 (i : Int))]) (fun j => ([(2, ints L), (1, ints (szRow j (L.take i))), (0, [.int .i64 n, .list 1 (ints l)])], 3)) (fun j => m0 ≤ j ∧ j ≤ z + 1) (fun j => z + 1 - j) m0 ⟨by omega, hm⟩ (SubI.slots (by simp) (by simpa using hsub)) ?_
    rintro j ⟨hj1, hj2⟩
    by_cases hlt : j ≤ z
    · have hlt' : (j : Int) ≤ (z : Int) := by omega
      have hgr := szRow_grow (m := j) (l := L.take i) fun s hs => by have := hlow s hs; omega
      have hgl := szRow_len j (L.take i)
      generalize szRow j (L.take i) = g at *
      simp -implicitDefEqProofs [sc_s_FaceCounts_L2, F_s_l2Size, hi, r1, hz, hlt, hlt', hgl]
      repeat' (first | omega | apply And.intro)
      refine Again.of (j + 1) ⟨by omega, by omega⟩ (by omega) (SubI.ren (fun m => if m = 0 then some 0 else if m = 1 then some 4 else if m = 2 then some 2 else none) ?_ ?_ ?_ (by simp) (by simp))
      · simp (disch := omega) [subT, renV, ren1, wrapI]
      · have htk : g.take j = g := List.take_of_length_le (by omega)
        simp [subH, hgr, renL, ren1, htk]
        rw [← ints_app]
        rfl
      · intro m hm
        simp only at hm
        rw [if_neg (by omega), if_neg (by omega), if_neg (by omega)]
    · have : j = z + 1 := by omega
      subst this
      have hlt' : ¬ ((z : Int) + 1 ≤ (z : Int)) := by omega
      simp -implicitDefEqProofs [sc_s_FaceCounts_L2, F_s_l2Size, hi, r1, hz, hlt']
      exact SubQ.of (SubI.slots rfl (by simp)) q1
  refine loopI env mixed (fun x : Nat × Nat => [(3, .sl 1 1 0 x.2), (4, .sl 2 1 0 L.length), (5, .int .i64 (x.1 : Int))]) (fun x => ([(2, ints L), (1, ints (szRow x.2 (L.take x.1))), (0, [.int .i64 n, .list 1 (ints l)])], 3))
    (fun x => x.1 ≤ L.length ∧ (x.1 = 0 → x.2 = 0) ∧ (0 < x.1 → sz (at0 L (x.1 - 1)) + 1 = x.2) ∧ ∀ q, q < x.1 → sz (at0 L q) < x.2) (fun x => L.length - x.1) (0, 0) ⟨by simp, by simp, by simp, by simp⟩ (SubI.slots (by simp [szRow]) (by simp)) ?_
  rintro ⟨i, m⟩ ⟨hi, hm0, hm1, hq⟩
  simp only at hi hm0 hm1 hq
  by_cases hlt : i < L.length
  · have hf := allS_at hL hlt
    have h6 := sz_six hf
    have r1 : at0 L i < 9223372036854775808 := by have := hf.2; omega
    obtain ⟨z, hz⟩ : ∃ z : Nat, sz (at0 L i) = z := ⟨(sz (at0 L i)).toNat, by have := sz_nn (at0 L i); omega⟩
    have hmz : m ≤ z + 1 := by
      by_cases h0 : i = 0
      · rw [hm0 h0]; omega
      · have h1 := hm1 (by omega)
        have h2 := before_at hso (show i - 1 < i by omega) hlt
        simp only [before, decide_eq_true_eq] at h2
        omega
    have hlow : ∀ s ∈ L.take i, sz s < m := fun s hs => by
      obtain ⟨q, hq1, rfl⟩ := getD_mem_iff.1 hs
      rw [List.length_take] at hq1
      rw [at0_takeq (by omega)]
      exact hq q (by omega)
    have hcb := cntZ_bnd L i z
    have hw2 : IntKind.i64.wrap (cntZ (L.take i) z + 1) = cntZ (L.take i) z + 1 := wrapI _ (by omega) (by omega)
    have hF2 : F_s_l2Size [.int .i64 (at0 L i)] = some (.int .i64 (z : Int)) := by
      simp only [F_s_l2Size, F1_mk, dI_int, Option.bind_some]
      rw [if_pos r1, hz]
    obtain ⟨M1, hM1⟩ : ∃ M1, M1 = z + 1 := ⟨_, rfl⟩
    have hzM : z < M1 := by omega
    have hst := szRow_step (m := M1) hlt hz hzM
    have ha := at0_szRow (m := M1) (z := z) (L.take i) hzM
    have hgl := szRow_len M1 (L.take i)
    have hin := inner i m z M1
    simp -implicitDefEqProofs [sc_s_FaceCounts_L0, hlt]
    refine hin _ _ hM1 hlt hz hmz hlow (by simp) ?_
    simp -implicitDefEqProofs [hF2, hlt, hzM, ha, hw2, hst]
    repeat' (first | omega | apply And.intro)
    refine Again.of (i + 1, M1) ⟨by simp only; omega, by simp, fun _ => by simp only [Nat.add_sub_cancel]; omega, fun q h => ?_⟩ (by simp only; omega) (SubI.slots (by simp) (by simp (disch := omega) [wrapI]))
    simp only at h ⊢
    rcases Nat.lt_succ_iff_lt_or_eq.1 h with h1 | rfl
    · have := hq q h1; omega
    · omega
  · have : i = L.length := by omega
    subst this
    rw [hres m (fun e => hm0 (by rw [e]; rfl)) (fun e => hm1 (List.length_pos_iff.2 e)) hq]
    have htk : (szRow m L).take m = szRow m L := szRow_take m L
    simp -implicitDefEqProofs [sc_s_FaceCounts_L0]
end Go.Proofs.Ytmemomfffehnkaa
namespace Go.Proofs.Ytmemomfffehnkaa
open Go Go.RowKit
set_option maxRecDepth 1000000
set_option linter.unusedSimpArgs false
set_option linter.unusedVariables false
set_option maxHeartbeats 1000000
end Go.Proofs.Ytmemomfffehnkaa
namespace Go.Proofs.Ytmemomfffehnkaa
open Go Go.RowKit
set_option maxRecDepth 1000000
set_option linter.unusedSimpArgs false
set_option linter.unusedVariables false
set_option maxHeartbeats 1000000
/-- Facets in ascending order, none within another. -/
structure sfP (F : List Int) : Prop where
  s : allS F
  l : F.length ≤ 8
  o : ∀ i j, i < j → j < F.length → at0 F i < at0 F j
  a : ∀ x ∈ F, ∀ y ∈ F, x ≠ y → bnot x y ≠ 0
def shOk (F head : List Int) : Prop := head.length ≤ F.length ∧ ∀ k, k < head.length → at0 head k ∈ F ∧ at0 head k ∉ head.take k ∧ fitsI (head.take k) (at0 head k)
/-- A shelling of the facets. -/
def shD (F list : List Int) : Prop := list.length = F.length ∧ shOk F list
theorem at0_appL2 {a b : List Int} {k : Nat} (h : k < a.length) : at0 (a ++ b) k = at0 a k := by rw [at0_app, if_pos h]
theorem at0_snoc2 (a : List Int) (x : Int) : at0 (a ++ [x]) a.length = x := by
  rw [at0_app, if_neg (by omega), Nat.sub_self]
  rfl
theorem take_appL {a b : List Int} {k : Nat} (h : k ≤ a.length) : (a ++ b).take k = a.take k := by
  rw [List.take_append_of_le_length h]
theorem shOk_snoc {F head : List Int} {s : Int} (h : shOk F head) (hlt : head.length < F.length) (h1 : s ∈ F) (h2 : s ∉ head) (h3 : fitsI head s) : shOk F (head ++ [s]) := by
  obtain ⟨_, h4⟩ := h
  refine ⟨by simp; omega, fun k hk => ?_⟩
  rw [List.length_append, List.length_singleton] at hk
  by_cases e : k = head.length
  · subst e
    rw [at0_snoc2, take_appL (Nat.le_refl _), List.take_length]
    exact ⟨h1, h2, h3⟩
  · rw [at0_appL2 (by omega), take_appL (by omega)]
    exact h4 k (by omega)
theorem sh_set {F head : List Int} {s : Int} (h : exD (shD F) (head ++ [s])) : head.length < F.length ∧ s ∈ F ∧ s ∉ head ∧ fitsI head s := by
  obtain ⟨t, h1, h2⟩ := h
  have h3 := h2.2 head.length (by simp)
  have e1 : at0 (head ++ [s] ++ t) head.length = s := by rw [at0_appL2 (by simp), at0_snoc2]
  have e2 : (head ++ [s] ++ t).take head.length = head := by rw [List.append_assoc, take_appL (Nat.le_refl _), List.take_length]
  rw [e1, e2] at h3
  rw [List.length_append, List.length_append, List.length_singleton] at h1
  exact ⟨by omega, h3⟩
theorem sh_full {F head : List Int} (h : head.length = F.length) (ho : shOk F head) : exD (shD F) head := ⟨[], by rw [List.append_nil]; exact ⟨h, ho⟩⟩
theorem sh_next {F head : List Int} (hF : allS F) (h : exD (shD F) head) (hlt : head.length < F.length) : ∃ u, isS u ∧ u ∈ F ∧ exD (shD F) (head ++ [u]) := by
  obtain ⟨t, ht⟩ := h
  cases t with
  | nil =>
    have := ht.1
    rw [List.append_nil] at this
    omega
  | cons u t =>
    have he : exD (shD F) (head ++ [u]) := ⟨t, by simpa using ht⟩
    have hu := (sh_set he).2.1
    exact ⟨u, hF u hu, hu, he⟩
theorem sh_none {F head : List Int} (hF : allS F) (hlt : head.length < F.length) (h : ∀ j, j < F.length → ¬ exD (shD F) (head ++ [at0 F j])) : ¬ exD (shD F) head := fun he => by
  obtain ⟨u, _, hu, h2⟩ := sh_next hF he hlt
  obtain ⟨j, hj, e⟩ := getD_mem_iff.1 hu
  rw [← e] at h2
  exact h j hj h2
open Classical in
noncomputable def shO (F head : List Int) : List Int := if exD (shD F) head then exL (shD F) (F.length - head.length) head else []
theorem shO_yes {F head : List Int} (h : exD (shD F) head) : shO F head = exL (shD F) (F.length - head.length) head := if_pos h
theorem shO_no {F head : List Int} (h : ¬ exD (shD F) head) : shO F head = [] := if_neg h
theorem shO_step {F head : List Int} {k : Nat} (hF : sfP F) (hk : k < F.length) (he : exD (shD F) (head ++ [at0 F k])) (hm : ∀ j, j < k → ¬ exD (shD F) (head ++ [at0 F j])) : exD (shD F) head ∧ shO F head = shO F (head ++ [at0 F k]) := by
  have h1 := exD_of _ he
  have h2 := (sh_set he).1
  refine ⟨h1, ?_⟩
  rw [shO_yes h1, shO_yes he, List.length_append, List.length_singleton]
  obtain ⟨d, hd⟩ : ∃ d, F.length - head.length = d + 1 := ⟨F.length - head.length - 1, by omega⟩
  rw [show F.length - (head.length + 1) = d by omega, hd]
  refine exL_step d (allS_at hF.s hk) he fun u hu hlt hx => ?_
  obtain ⟨j, hj, e⟩ := getD_mem_iff.1 (sh_set hx).2.1
  rw [← e] at hlt hx
  have : j < k := by
    rcases Nat.lt_trichotomy j k with h | h | h
    · exact h
    · subst h; omega
    · have := hF.o k j h hj
      omega
  exact hm j this hx
theorem shO_full {F head : List Int} (h : head.length = F.length) (he : exD (shD F) head) : shO F head = head := by
  rw [shO_yes he, h, Nat.sub_self]
  rfl
theorem shOk_allS {F head : List Int} (hF : allS F) (h : shOk F head) : allS head := fun x hx => by
  obtain ⟨k, hk, e⟩ := getD_mem_iff.1 hx
  rw [← e]
  exact hF _ (h.2 k hk).1
theorem sh_fits {F head : List Int} {s : Int} (hF : sfP F) (h : shOk F head) (hs : s ∈ F) (hn : s ∉ head) : fitsS head s ↔ fitsI head s :=
  fits_same (shOk_allS hF.s h) (hF.s s hs) fun g hg => hF.a s hs g (by
    obtain ⟨k, hk, e⟩ := getD_mem_iff.1 hg
    rw [← e]
    exact (h.2 k hk).1) fun e => hn (e ▸ hg)
theorem shn_lt {F head : List Int} {k : Nat} (h : ∀ j, j < k → ¬ exD (shD F) (head ++ [at0 F j])) (hn : ¬ exD (shD F) (head ++ [at0 F k])) : ∀ j, j < k + 1 → ¬ exD (shD F) (head ++ [at0 F j]) := fun j hj => by
  rcases Nat.lt_succ_iff_lt_or_eq.1 hj with h1 | rfl
  · exact h j h1
  · exact hn
end Go.Proofs.Ytmemomfffehnkaa
namespace Go.Proofs.Ytmemomfffehnkaa
open Go Go.RowKit
set_option maxRecDepth 1000000
set_option linter.unusedSimpArgs false
set_option linter.unusedVariables false
set_option maxHeartbeats 1000000
def sc_s_l19Find_L0 : SC := (.seq (.seq (.reg [⟨(some 15), none, (.mov (.t 6))⟩, ⟨(some 16), none, (.mov (.t 0))⟩, ⟨(some 17), none, (.len (.t 16))⟩, ⟨(some 18), none, (.bin false .lss (.t 15) (.t 17))⟩]) (.cond (.t 18) .skip (.exit 0))) (.seq (.block 1 (.seq (.seq (.reg [⟨(some 21), none, (.mov (.t 1))⟩, ⟨(some 22), none, (.mov (.t 0))⟩, ⟨(some 23), none, (.mov (.t 6))⟩, ⟨(some 24), none, (.idx 1 (.t 22) (.t 23))⟩, ⟨(some 25), none, (.ld none (.int .i64 0) (.t 24))⟩, ⟨(some 26), none, (.call 134 [(.t 21), (.t 25)])⟩, ⟨(some 27), none, (.mov (.t 26))⟩, ⟨(some 28), (some (27, false)), (.mov (.t 1))⟩, ⟨(some 29), (some (27, false)), (.mov (.t 0))⟩, ⟨(some 30), (some (27, false)), (.mov (.t 6))⟩, ⟨(some 31), (some (27, false)), (.idx 1 (.t 29) (.t 30))⟩, ⟨(some 32), (some (27, false)), (.ld none (.int .i64 0) (.t 31))⟩, ⟨(some 33), (some (27, false)), (.call 153 [(.t 28), (.t 32)])⟩, ⟨(some 34), (some (27, false)), (.un .not (.t 33))⟩, ⟨(some 35), none, (.pick (.t 27) (.c (.bool true)) (.t 34))⟩]) (.cond (.t 35) (.exit 1) .skip)) (.seq (.treg (.fst ⟨(some 37), none, (.mov (.t 0))⟩ true (.fst ⟨(some 39), none, (.mov (.t 1))⟩ true (.fst ⟨(some 41), none, (.mov (.t 0))⟩ true (.fst ⟨(some 42), none, (.mov (.t 6))⟩ true (.fst ⟨(some 43), none, (.idx 1 (.t 41) (.t 42))⟩ true (.alt ⟨(some 38), none, (.mks 0 1 [] [])⟩ true (.alt ⟨(some 40), none, (.app 1 8 (.t 38) (.t 39))⟩ true (.fst ⟨(some 44), none, (.ld none (.int .i64 0) (.t 43))⟩ false (.alt ⟨(some 45), none, (.mks 1 1 [(.int .i64 0)] [(0, (1, (.t 44)))])⟩ true (.alt ⟨(some 46), none, (.app 1 8 (.t 40) (.t 45))⟩ true (.alt ⟨(some 47), none, (.call 147 [(.t 37), (.t 46)])⟩ true (.fst ⟨(some 36), none, (.mov (.t 47))⟩ false (.fst ⟨(some 48), none, (.ext 0 (.t 36))⟩ false (.fst ⟨(some 49), none, (.ext 1 (.t 36))⟩ false (.fst ⟨(some 7), none, (.mov (.t 48))⟩ false (.fst ⟨(some 8), none, (.mov (.t 49))⟩ false .done))))) .stop) .stop) .stop)) (.alt ⟨(some 44), none, (.ld none (.int .i64 0) (.t 43))⟩ false (.alt ⟨(some 40), none, (.app 1 8 (.t 38) (.t 39))⟩ true (.alt ⟨(some 45), none, (.mks 1 1 [(.int .i64 0)] [(0, (1, (.t 44)))])⟩ true (.alt ⟨(some 46), none, (.app 1 8 (.t 40) (.t 45))⟩ true (.alt ⟨(some 47), none, (.call 147 [(.t 37), (.t 46)])⟩ true (.fst ⟨(some 36), none, (.mov (.t 47))⟩ false (.fst ⟨(some 48), none, (.ext 0 (.t 36))⟩ false (.fst ⟨(some 49), none, (.ext 1 (.t 36))⟩ false (.fst ⟨(some 7), none, (.mov (.t 48))⟩ false (.fst ⟨(some 8), none, (.mov (.t 49))⟩ false .done))))) .stop) .stop) .stop) (.alt ⟨(some 45), none, (.mks 1 1 [(.int .i64 0)] [(0, (1, (.t 44)))])⟩ true (.alt ⟨(some 40), none, (.app 1 8 (.t 38) (.t 39))⟩ true (.alt ⟨(some 46), none, (.app 1 8 (.t 40) (.t 45))⟩ true (.alt ⟨(some 47), none, (.call 147 [(.t 37), (.t 46)])⟩ true (.fst ⟨(some 36), none, (.mov (.t 47))⟩ false (.fst ⟨(some 48), none, (.ext 0 (.t 36))⟩ false (.fst ⟨(some 49), none, (.ext 1 (.t 36))⟩ false (.fst ⟨(some 7), none, (.mov (.t 48))⟩ false (.fst ⟨(some 8), none, (.mov (.t 49))⟩ false .done))))) .stop) .stop) .stop) .stop)) .stop)) (.alt ⟨(some 44), none, (.ld none (.int .i64 0) (.t 43))⟩ false (.alt ⟨(some 38), none, (.mks 0 1 [] [])⟩ true (.alt ⟨(some 40), none, (.app 1 8 (.t 38) (.t 39))⟩ true (.alt ⟨(some 45), none, (.mks 1 1 [(.int .i64 0)] [(0, (1, (.t 44)))])⟩ true (.alt ⟨(some 46), none, (.app 1 8 (.t 40) (.t 45))⟩ true (.alt ⟨(some 47), none, (.call 147 [(.t 37), (.t 46)])⟩ true (.fst ⟨(some 36), none, (.mov (.t 47))⟩ false (.fst ⟨(some 48), none, (.ext 0 (.t 36))⟩ false (.fst ⟨(some 49), none, (.ext 1 (.t 36))⟩ false (.fst ⟨(some 7), none, (.mov (.t 48))⟩ false (.fst ⟨(some 8), none, (.mov (.t 49))⟩ false .done))))) .stop) .stop) .stop) (.alt ⟨(some 45), none, (.mks 1 1 [(.int .i64 0)] [(0, (1, (.t 44)))])⟩ true (.alt ⟨(some 40), none, (.app 1 8 (.t 38) (.t 39))⟩ true (.alt ⟨(some 46), none, (.app 1 8 (.t 40) (.t 45))⟩ true (.alt ⟨(some 47), none, (.call 147 [(.t 37), (.t 46)])⟩ true (.fst ⟨(some 36), none, (.mov (.t 47))⟩ false (.fst ⟨(some 48), none, (.ext 0 (.t 36))⟩ false (.fst ⟨(some 49), none, (.ext 1 (.t 36))⟩ false (.fst ⟨(some 7), none, (.mov (.t 48))⟩ false (.fst ⟨(some 8), none, (.mov (.t 49))⟩ false .done))))) .stop) .stop) .stop) .stop)) (.alt ⟨(some 45), none, (.mks 1 1 [(.int .i64 0)] [(0, (1, (.t 44)))])⟩ true (.alt ⟨(some 38), none, (.mks 0 1 [] [])⟩ true (.alt ⟨(some 40), none, (.app 1 8 (.t 38) (.t 39))⟩ true (.alt ⟨(some 46), none, (.app 1 8 (.t 40) (.t 45))⟩ true (.alt ⟨(some 47), none, (.call 147 [(.t 37), (.t 46)])⟩ true (.fst ⟨(some 36), none, (.mov (.t 47))⟩ false (.fst ⟨(some 48), none, (.ext 0 (.t 36))⟩ false (.fst ⟨(some 49), none, (.ext 1 (.t 36))⟩ false (.fst ⟨(some 7), none, (.mov (.t 48))⟩ false (.fst ⟨(some 8), none, (.mov (.t 49))⟩ false .done))))) .stop) .stop) .stop) .stop) .stop)) .stop)))))))) (.seq (.reg [⟨(some 50), none, (.mov (.t 8))⟩]) (.cond (.t 50) (.seq (.reg [⟨(some 51), none, (.mov (.t 7))⟩, ⟨(some 4), none, (.mov (.t 51))⟩, ⟨(some 5), none, (.mov (.c (.bool true)))⟩]) .ret) .skip))))) (.reg [⟨(some 19), none, (.mov (.t 6))⟩, ⟨(some 20), none, (.bin false .add (.t 19) (.c (.int .i64 1)))⟩, ⟨(some 6), none, (.mov (.t 20))⟩])))
def sc_s_l19Find : SC := (.seq (.reg [⟨(some 4), none, (.mov (.c .nil))⟩, ⟨(some 5), none, (.mov (.c (.bool false)))⟩]) (.seq (.seq (.reg [⟨(some 9), none, (.mov (.t 1))⟩, ⟨(some 10), none, (.len (.t 9))⟩, ⟨(some 11), none, (.mov (.t 0))⟩, ⟨(some 12), none, (.len (.t 11))⟩, ⟨(some 13), none, (.bin false .eql (.t 10) (.t 12))⟩]) (.cond (.t 13) (.seq (.reg [⟨(some 14), none, (.mov (.t 1))⟩, ⟨(some 4), none, (.mov (.t 14))⟩, ⟨(some 5), none, (.mov (.c (.bool true)))⟩]) .ret) .skip)) (.seq (.seq (.reg [⟨(some 6), none, (.mov (.c (.int .i64 0)))⟩]) (.block 0 (.loop sc_s_l19Find_L0))) (.seq (.reg [⟨(some 52), none, (.mks 0 1 [] [])⟩, ⟨(some 4), none, (.mov (.t 52))⟩, ⟨(some 5), none, (.mov (.c (.bool false)))⟩]) .ret))))
theorem code_s_l19Find : fnCode Try.prog [147] 147 = some (53, sc_s_l19Find, [(4, none), (5, none)]) := by kernel_rfl
open Classical in
noncomputable def shRes (F head : List Int) (m : Nat) : V := if m = F.length then .tup [.sl 0 1 0 m, .bool true] else .tup [.own 1 (ints (shO F head)), .bool (dec (exD (shD F) head))]
theorem shRes_full {F head : List Int} {m : Nat} (h : m = F.length) : shRes F head m = .tup [.sl 0 1 0 m, .bool true] := if_pos h
theorem shRes_part {F head : List Int} {m : Nat} (h : ¬ m = F.length) : shRes F head m = .tup [.own 1 (ints (shO F head)), .bool (dec (exD (shD F) head))] := if_neg h
noncomputable def G_s_l19Find (n : Nat) : List V → List V → Option (V × List V)
  | [a, .sl 0 1 0 m], cells => (dL a).bind fun F => (dInts cells).bind fun head =>
      @ite _ (sfP F ∧ head.length = m ∧ shOk F head ∧ F.length - m < n) (Classical.propDecidable _) (some (shRes F head m, ints head)) none
  | _, _ => none
theorem G_s_l19Find_at {n : Nat} {F head : List Int} {m : Nat} (hF : sfP F) (hm : head.length = m) (hh : shOk F head) (hn : F.length - m < n) :
    G_s_l19Find n [.list 1 (ints F), .sl 0 1 0 m] (ints head) = some (shRes F head m, ints head) := by
  simp only [G_s_l19Find, dL_list, dInts_ints, Option.bind_some]
  rw [if_pos ⟨hF, hm, hh, hn⟩]
theorem ln_s_l19Find (n : Nat) : LendOk Try.prog 147 1 (G_s_l19Find n) := by
  induction n with
  | zero =>
    refine ⟨callable_of code_s_l19Find, fun args cells r cells' hG => ?_⟩
    unfold G_s_l19Find at hG
    split at hG
    · obtain ⟨F, _, hG⟩ := Option.bind_eq_some_iff.1 hG
      obtain ⟨head, _, hG⟩ := Option.bind_eq_some_iff.1 hG
      simp only [Option.ite_none_right_eq_some] at hG
      exact absurd hG.1.2.2.2 (Nat.not_lt_zero _)
    · simp at hG
  | succ n ih =>
  have env := (((envNil_ok (P := Try.prog)).add fn_s_l2Has).add fn_s_l19Fits).addl ih
  refine fn_lend code_s_l19Find mixed env ?_
  intro args cells r cells' hG hb
  unfold G_s_l19Find at hG
  split at hG
  case h_2 => simp at hG
  rename_i a m
  obtain ⟨F, h1, hG1⟩ := Option.bind_eq_some_iff.1 hG
  obtain ⟨head, h3, hG2⟩ := Option.bind_eq_some_iff.1 hG1
  clear hG hG1
  have hc := dInts_inv h3
  cases dL_inv h1
  subst hc
  simp only [Option.ite_none_right_eq_some, Option.some.injEq, Prod.mk.injEq] at hG2
  obtain ⟨⟨hF, rfl, hh, hn⟩, rfl, rfl⟩ := hG2
  clear h1 h3 hb
  refine ⟨by simp, fun w0 U0 L0 N0 => ?_⟩
  have hhS := shOk_allS hF.s hh
  have hml : head.length ≤ F.length := hh.1
  have h8 := hF.l
  by_cases hf : head.length = F.length
  · rw [shRes_full hf]
    have htk : head.take F.length = head := List.take_of_length_le (by omega)
    simp -implicitDefEqProofs [sc_s_l19Find, hf, htk]
  have hlt : head.length < F.length := by omega
  rw [shRes_part hf]
  have hne : ¬ ((head.length : Int) = (F.length : Int)) := by omega
  have hOs := fun (k : Nat) h1 h2 h3 => shO_step (F := F) (head := head) (k := k) hF h1 h2 h3
  have hOn : ¬ exD (shD F) head → shO F head = [] := shO_no
  have hEn := fun h => sh_none (F := F) (head := head) hF.s hlt h
  generalize shO F head = O at *
  simp -implicitDefEqProofs [sc_s_l19Find, hne]
  refine loopI env mixed (fun k : Nat => [(0, .list 1 (ints F)), (1, .sl 0 1 0 head.length), (6, .int .i64 (k : Int))]) (fun _ => ([(0, ints head)], 1)) (fun k => k ≤ F.length ∧ ∀ j, j < k → ¬ exD (shD F) (head ++ [at0 F j])) (fun k => F.length - k) 0 ⟨by omega, fun u hu => by omega⟩ (SubI.slots (by simp) (by simp)) ?_
  rintro k ⟨hk, hI⟩
  by_cases hkF : k < F.length
  rotate_left
  · have hkF : k = F.length := by omega
    subst hkF
    have hno := hEn hI
    have e := hOn hno
    have hd := dec_false hno
    subst e
    simp -implicitDefEqProofs [sc_s_l19Find_L0, hd]
  have hsF : at0 F k ∈ F := getD_mem' hkF
  have hsS := hF.s _ hsF
  by_cases hmem : at0 F k ∈ head
  · have hno : ¬ exD (shD F) (head ++ [at0 F k]) := fun h => (sh_set h).2.2.1 hmem
    have hnx := shn_lt hI hno
    simp -implicitDefEqProofs [sc_s_l19Find_L0, F_s_l2Has, hkF, hmem]
    repeat' (first | omega | apply And.intro)
    exact Again.of (k + 1) ⟨by omega, hnx⟩ (by omega) (SubI.slots (by simp) (by simp (disch := omega) [wrapI]))
  have hF1 : F_s_l19Fits [.list 1 (ints head), .int .i64 (at0 F k)] = some (.bool (dec (fitsS head (at0 F k)))) := by
    simp only [F_s_l19Fits, F2_mk, dL_list, dI_int, Option.bind_some]
    rw [if_pos ⟨hhS, hsS⟩]
  have hfi := sh_fits hF hh hsF hmem
  by_cases hfit : fitsS head (at0 F k)
  rotate_left
  · have hno : ¬ exD (shD F) (head ++ [at0 F k]) := fun h => hfit (hfi.2 (sh_set h).2.2.2)
    have hnx := shn_lt hI hno
    rw [dec_false hfit] at hF1
    simp -implicitDefEqProofs [sc_s_l19Find_L0, F_s_l2Has, hF1, hkF, hmem]
    repeat' (first | omega | apply And.intro)
    exact Again.of (k + 1) ⟨by omega, hnx⟩ (by omega) (SubI.slots (by simp) (by simp (disch := omega) [wrapI]))
  rw [dec_true hfit] at hF1
  have hh2 : shOk F (head ++ [at0 F k]) := shOk_snoc hh hlt hsF hmem (hfi.1 hfit)
  have hsn : ints head ++ [V.int .i64 (at0 F k)] = ints (head ++ [at0 F k]) := by rw [← ints_app]; rfl
  have hnl : (head ++ [at0 F k]).length = head.length + 1 := by simp
  have hgl : (head ++ [at0 F k]).take (head.length + 1) = head ++ [at0 F k] := List.take_of_length_le (by simp)
  have hG := G_s_l19Find_at (n := n) hF hnl hh2 (by omega)
  have hnx := shn_lt (k := k) hI
  have hst := fun he => hOs k hkF he hI
  have back : ∀ (T : Tm) (H : List (Nat × List V)) (q : Nat), ¬ exD (shD F) (head ++ [at0 F k]) → subE T [(0, .list 1 (ints F)), (1, .sl 0 1 0 head.length), (6, .int .i64 ((k + 1 : Nat) : Int))] → subH (fun qq => if qq = 0 then some 0 else none) H [(0, ints head)] →
      Again 1 (fun k : Nat => [(0, .list 1 (ints F)), (1, .sl 0 1 0 head.length), (6, .int .i64 (k : Int))]) (fun _ => ([(0, ints head)], 1)) (fun k => k ≤ F.length ∧ ∀ j, j < k → ¬ exD (shD F) (head ++ [at0 F j])) (fun k => F.length - k) k T (H, q) := fun T H q hno hT hH => by
    refine Again.of (k + 1) ⟨by omega, hnx hno⟩ (by omega) (SubI.ren (fun qq => if qq = 0 then some 0 else none) ?_ hH ?_ (by simp) (by simp))
    · simp only [subE_cons, subE_nil, and_true] at hT
      obtain ⟨t1, t2, t3⟩ := hT
      simp [subT, renV, ren1, ← t1, ← t2, ← t3]
    · intro qq hm
      simp only at hm
      rw [if_neg (by omega)]
  clear hI hOs hOn hEn hnx
  have hnlx : ∀ a b c d, nolist 5 (.sl a b c d) = true := fun _ _ _ _ => rfl
  have hrn : ∀ (x : List Int) a, List.map (ren0 a 4) (ints x) = ints x := fun x a => by simp [ints, ren0]
  by_cases hf2 : head.length + 1 = F.length
  · rw [shRes_full hf2] at hG
    have he := sh_full (F := F) (head := head ++ [at0 F k]) (by omega) hh2
    obtain ⟨e1, e2⟩ := hst he
    rw [shO_full (by omega) he] at e2
    have e4 := dec_true e1
    generalize head ++ [at0 F k] = nx at *
    subst e2
    simp -implicitDefEqProofs [sc_s_l19Find_L0, F_s_l2Has, freeOk, ren0, hF1, hkF, hmem, hsn, hG, e4, hnl, hgl, hnlx, hrn]
    repeat' (first | omega | apply And.intro)
  · rw [shRes_part hf2] at hG
    by_cases he : exD (shD F) (head ++ [at0 F k])
    · rw [dec_true he] at hG
      obtain ⟨e1, e2⟩ := hst he
      have e4 := dec_true e1
      generalize head ++ [at0 F k] = nx at *
      rw [← e2] at hG
      simp -implicitDefEqProofs [sc_s_l19Find_L0, F_s_l2Has, freeOk, ren0, hF1, hkF, hmem, hsn, hG, e4, hnl, hgl, hnlx, hrn]
      repeat' (first | omega | apply And.intro)
    · rw [dec_false he] at hG
      generalize head ++ [at0 F k] = nx at *
      generalize shO F nx = Z at *
      simp -implicitDefEqProofs [sc_s_l19Find_L0, F_s_l2Has, freeOk, ren0, hF1, hkF, hmem, hsn, hG, hnl, hgl, hnlx, hrn]
      repeat' (first | omega | apply And.intro)
      all_goals exact back _ _ _ he (by simp (disch := omega) [wrapI]) (by simp [subH, renL, ren1])
end Go.Proofs.Ytmemomfffehnkaa
namespace Go.Proofs.Ytmemomfffehnkaa
open Go Go.RowKit
set_option maxRecDepth 1000000
set_option linter.unusedSimpArgs false
set_option linter.unusedVariables false
set_option maxHeartbeats 1000000
/-- All sets, as numbers. -/
def n64 : List Int := (List.range 64).map Int.ofNat
@[simp] theorem n64_len : n64.length = 64 := by simp [n64]
theorem n64_at {k : Nat} (h : k < 64) : at0 n64 k = k := by
  unfold n64 at0
  rw [List.getElem?_map, List.getElem?_range h]
  rfl
theorem n64_mem {s : Int} : s ∈ n64 ↔ isS s := by
  unfold n64 isS
  rw [List.mem_map]
  constructor
  · rintro ⟨k, hk, rfl⟩
    have := List.mem_range.1 hk
    exact ⟨Int.natCast_nonneg k, by show (k : Int) < 64; omega⟩
  · intro h
    exact ⟨s.toNat, List.mem_range.2 (by omega), Int.toNat_of_nonneg h.1⟩
theorem n64_lt : n64.Pairwise (· < ·) := by
  unfold n64
  rw [List.pairwise_map]
  exact List.pairwise_lt_range.imp fun h => Int.ofNat_lt.2 h
/-- The facets by their numbers. -/
noncomputable def srt (l : List Int) : List Int := n64.filter fun s => dec (s ∈ l)
theorem srt_mem {l : List Int} (hl : allS l) {s : Int} : s ∈ srt l ↔ s ∈ l := by
  unfold srt
  rw [List.mem_filter, n64_mem, dec_iff]
  exact ⟨fun h => h.2, fun h => ⟨hl s h, h⟩⟩
theorem srt_lt (l : List Int) : (srt l).Pairwise (· < ·) := n64_lt.filter _
theorem len_sub {a : List Int} : ∀ {b : List Int}, a.Nodup → (∀ x ∈ a, x ∈ b) → a.length ≤ b.length := by
  induction a with
  | nil => intro b _ _; exact Nat.zero_le _
  | cons x a ih =>
    intro b hn hs
    obtain ⟨h1, h2⟩ := List.nodup_cons.1 hn
    have hx := hs x (by simp)
    have h3 := ih (b := b.erase x) h2 fun y hy => (List.mem_erase_of_ne (fun e : y = x => h1 (by rw [← e]; exact hy))).2 (hs y (by simp [hy]))
    rw [List.length_erase_of_mem hx] at h3
    have := List.length_pos_of_mem hx
    simp only [List.length_cons]
    omega
theorem srt_nodup (l : List Int) : (srt l).Nodup := (srt_lt l).imp fun h e => by omega
theorem srt_len {l : List Int} (hl : allS l) : (srt l).length ≤ l.length := len_sub (srt_nodup l) fun x hx => (srt_mem hl).1 hx
theorem srt_len2 {l : List Int} (hl : allS l) (hn : l.Nodup) : (srt l).length = l.length := by
  have h1 := srt_len hl
  have h2 := len_sub hn fun x hx => (srt_mem hl).2 hx
  omega
theorem srt_sf {n : Int} {l : List Int} (hc : cplx n l) (h8 : l.length ≤ 8) : sfP (srt l) := by
  have hS := cplx_isS hc
  refine ⟨fun x hx => hS x ((srt_mem hS).1 hx), by have := srt_len hS; omega, fun i j hij hj => ?_, fun x hx y hy hn => cplx_apart hc ((srt_mem hS).1 hx) ((srt_mem hS).1 hy) hn⟩
  have := List.pairwise_iff_getElem.1 (srt_lt l) i j (by omega) hj hij
  rwa [at0_eq (by omega), at0_eq hj]
/-- Shellable, with few facets. -/
def fshP (n : Int) (l : List Int) : Prop := cplx n l ∧ l.length ≤ 8 ∧ exD (shD (srt l)) []
open Classical in
noncomputable def fshL (n : Int) (l : List Int) : List Int := if fshP n l then shO (srt l) [] else []
theorem fshL_yes {n : Int} {l : List Int} (h : fshP n l) : fshL n l = shO (srt l) [] := if_pos h
theorem fshL_no {n : Int} {l : List Int} (h : ¬ fshP n l) : fshL n l = [] := if_neg h
noncomputable def F_s_FindShelling : List V → Option V := F1 dC fun c => some (.tup [.own 1 (ints (fshL c.1 c.2)), .bool (dec (fshP c.1 c.2))])
def sc_s_FindShelling_L0 : SC := (.seq (.seq (.reg [⟨(some 19), none, (.mov (.t 5))⟩, ⟨(some 20), none, (.bin false .lss (.t 19) (.c (.int .i64 64)))⟩]) (.cond (.t 20) .skip (.exit 0))) (.seq (.block 1 (.seq (.reg [⟨(some 23), none, (.fad 1 (.t 1))⟩, ⟨(some 24), none, (.ld none .nil (.t 23))⟩, ⟨(some 25), none, (.mov (.t 5))⟩, ⟨(some 26), none, (.call 134 [(.t 24), (.t 25)])⟩]) (.cond (.t 26) (.reg [⟨(some 27), none, (.mov (.t 4))⟩, ⟨(some 28), none, (.mov (.t 5))⟩, ⟨(some 29), none, (.mks 1 1 [(.int .i64 0)] [(0, (1, (.t 28)))])⟩, ⟨(some 30), none, (.app 1 8 (.t 27) (.t 29))⟩, ⟨(some 4), none, (.mov (.t 30))⟩]) .skip))) (.reg [⟨(some 21), none, (.mov (.t 5))⟩, ⟨(some 22), none, (.bin false .add (.t 21) (.c (.int .i64 1)))⟩, ⟨(some 5), none, (.mov (.t 22))⟩])))
def sc_s_FindShelling : SC := (.seq (.reg [⟨(some 1), none, (.box (.t 0))⟩, ⟨(some 2), none, (.mov (.c .nil))⟩, ⟨(some 3), none, (.mov (.c (.bool false)))⟩]) (.seq (.seq (.reg [⟨(some 8), none, (.ld (some 2) .undef (.t 1))⟩, ⟨(some 9), none, (.call 24 [(.t 8)])⟩, ⟨(some 10), none, (.un .not (.t 9))⟩, ⟨(some 11), none, (.mov (.t 10))⟩, ⟨(some 12), (some (11, false)), (.fad 1 (.t 1))⟩, ⟨(some 13), (some (11, false)), (.ld none .nil (.t 12))⟩, ⟨(some 14), (some (11, false)), (.len (.t 13))⟩, ⟨(some 15), (some (11, false)), (.bin false .gtr (.t 14) (.c (.int .i64 8)))⟩, ⟨(some 16), none, (.pick (.t 11) (.c (.bool true)) (.t 15))⟩]) (.cond (.t 16) (.seq (.reg [⟨(some 17), none, (.mks 0 1 [] [])⟩, ⟨(some 2), none, (.mov (.t 17))⟩, ⟨(some 3), none, (.mov (.c (.bool false)))⟩]) .ret) .skip)) (.seq (.reg [⟨(some 18), none, (.mks 0 1 [] [])⟩, ⟨(some 4), none, (.mov (.t 18))⟩]) (.seq (.seq (.reg [⟨(some 5), none, (.mov (.c (.int .i64 0)))⟩]) (.block 0 (.loop sc_s_FindShelling_L0))) (.seq (.reg [⟨(some 32), none, (.mov (.t 4))⟩, ⟨(some 33), none, (.mks 0 1 [] [])⟩, ⟨(some 34), none, (.call 147 [(.t 32), (.t 33)])⟩, ⟨(some 31), none, (.mov (.t 34))⟩, ⟨(some 35), none, (.ext 0 (.t 31))⟩, ⟨(some 36), none, (.ext 1 (.t 31))⟩, ⟨(some 6), none, (.mov (.t 35))⟩, ⟨(some 7), none, (.mov (.t 36))⟩]) (.seq (.reg [⟨(some 37), none, (.mov (.t 6))⟩, ⟨(some 38), none, (.mov (.t 7))⟩, ⟨(some 2), none, (.mov (.t 37))⟩, ⟨(some 3), none, (.mov (.t 38))⟩]) .ret))))))
theorem code_s_FindShelling : fnCode Try.prog [147] 31 = some (39, sc_s_FindShelling, [(2, none), (3, none)]) := by kernel_rfl
theorem fn_s_FindShelling : FnOk Try.prog 31 F_s_FindShelling := by
  have env := ((envNil_ok (P := Try.prog)).add fn_s_IsComplex).add fn_s_l2Has |>.addl (ln_s_l19Find 9)
  refine fn_ok code_s_FindShelling mixed env ?_
  intro args r h hb
  obtain ⟨_, ⟨n, l⟩, rfl, h1, h4⟩ := F1_inv h
  cases dC_inv h1
  cases h4
  clear h
  refine ⟨by simp, fun w0 U0 L0 N0 => ?_⟩
  clear hb
  simp only
  cases e0 : cplxB n l with
  | false =>
    have hP : ¬ fshP n l := fun h => by simp [cplxB_iff.2 h.1] at e0
    rw [fshL_no hP, dec_false hP]
    simp -implicitDefEqProofs [sc_s_FindShelling, F_s_IsComplex, e0]
  | true =>
  have hc := cplxB_iff.1 e0
  by_cases h6 : 8 < (l.length : Int)
  · have hP : ¬ fshP n l := fun h => by have := h.2.1; omega
    rw [fshL_no hP, dec_false hP]
    simp -implicitDefEqProofs [sc_s_FindShelling, F_s_IsComplex, e0, h6]
  have hl8 : l.length ≤ 8 := by omega
  have hF := srt_sf hc hl8
  have hF8 := hF.l
  have hh : shOk (srt l) [] := ⟨Nat.zero_le _, fun k hk => absurd hk (Nat.not_lt_zero _)⟩
  have hG : G_s_l19Find 9 [.list 1 (ints (srt l)), .sl 0 1 0 0] [] = some (shRes (srt l) [] 0, []) := G_s_l19Find_at (n := 9) (m := 0) hF rfl hh (by omega)
  have hPi : fshP n l ↔ exD (shD (srt l)) [] := ⟨fun h => h.2.2, fun h => ⟨hc, hl8, h⟩⟩
  have hst : srt l = n64.filter (fun s => dec (s ∈ l)) := rfl
  have hnlx : ∀ a b c d, nolist 5 (.sl a b c d) = true := fun _ _ _ _ => rfl
  have hrn : ∀ (x : List Int) a, List.map (ren0 a 4) (ints x) = ints x := fun x a => by simp [ints, ren0]
  simp -implicitDefEqProofs [sc_s_FindShelling, F_s_IsComplex, e0, h6]
  refine loopI env mixed (fun k : Nat => [(1, .pt 0 0), (4, .sl 1 1 0 ((n64.take k).filter fun s => dec (s ∈ l)).length), (5, .int .i64 (k : Int))]) (fun k => ([(1, ints ((n64.take k).filter fun s => dec (s ∈ l))), (0, [.int .i64 n, .list 1 (ints l)])], 2)) (fun k => k ≤ 64) (fun k => 64 - k) 0 (by simp) (SubI.slots (by simp) (by simp)) ?_
  intro k hk
  have gl := filt_len n64 k fun s => dec (s ∈ l)
  rw [n64_len] at gl
  by_cases hlt : k < 64
  · have hlt' : (k : Int) < 64 := by omega
    have hk64 : k < n64.length := by rw [n64_len]; exact hlt
    have hat := n64_at hlt
    by_cases hm : (k : Int) ∈ l
    · have e := filt_pos hk64 (q := fun s => dec (s ∈ l)) (dec_true (by rw [hat]; exact hm))
      rw [hat] at e
      generalize (n64.take k).filter (fun s => dec (s ∈ l)) = g at *
      simp -implicitDefEqProofs [sc_s_FindShelling_L0, F_s_l2Has, hlt', hm]
      repeat' (first | omega | apply And.intro)
      refine Again.of (k + 1) (by omega) (by omega) (SubI.ren (fun m => if m = 0 then some 0 else if m = 1 then some 3 else none) ?_ ?_ ?_ (by simp) (by simp))
      · simp only [e]
        simp (disch := omega) [subT, renV, ren1, wrapI]
      · simp only [e]
        simp [subH, renL, ren1]
        rw [← ints_app]
        rfl
      · intro m hm
        simp only at hm
        rw [if_neg (by omega), if_neg (by omega)]
    · have e := filt_neg hk64 (q := fun s => dec (s ∈ l)) (dec_false (by rw [hat]; exact hm))
      generalize (n64.take k).filter (fun s => dec (s ∈ l)) = g at *
      simp -implicitDefEqProofs [sc_s_FindShelling_L0, F_s_l2Has, hlt', hm]
      repeat' (first | omega | apply And.intro)
      exact Again.of (k + 1) (by omega) (by omega) (SubI.slots (by simp only [e]) (by simp only [e]; simp (disch := omega) [wrapI]))
  · have : k = 64 := by omega
    subst this
    have htk : n64.take 64 = n64 := List.take_of_length_le (by simp)
    rw [htk] at *
    rw [← hst] at *
    clear hst htk
    by_cases h0 : 0 = (srt l).length
    · rw [shRes_full h0] at hG
      have he := sh_full (F := srt l) (head := []) h0 hh
      have hP := hPi.2 he
      rw [fshL_yes hP, dec_true hP, shO_full (F := srt l) (head := []) h0 he]
      have hnil : srt l = [] := List.length_eq_zero_iff.1 h0.symm
      rw [hnil] at hG
      rw [hnil]
      simp only [ints_nil] at hG
      have hr0 : shRes [] [] 0 = .tup [.sl 0 1 0 0, .bool true] := shRes_full rfl
      simp -implicitDefEqProofs [sc_s_FindShelling_L0, ren0, hG, hnlx, hrn]
    · rw [shRes_part h0] at hG
      by_cases he : exD (shD (srt l)) []
      · have hP := hPi.2 he
        rw [dec_true he] at hG
        rw [fshL_yes hP, dec_true hP]
        generalize shO (srt l) [] = O at *
        generalize srt l = F at *
        simp -implicitDefEqProofs [sc_s_FindShelling_L0, ren0, hG, hnlx, hrn]
      · have hP : ¬ fshP n l := fun h => he (hPi.1 h)
        rw [dec_false he] at hG
        rw [fshL_no hP, dec_false hP]
        have hO := shO_no he
        rw [hO] at hG
        generalize srt l = F at *
        simp -implicitDefEqProofs [sc_s_FindShelling_L0, ren0, hG, hnlx, hrn]
end Go.Proofs.Ytmemomfffehnkaa
namespace Go.Proofs.Ytmemomfffehnkaa
open Go Go.RowKit
set_option maxRecDepth 1000000
set_option linter.unusedSimpArgs false
set_option linter.unusedVariables false
set_option maxHeartbeats 1000000
theorem cntIv_zero {facets lows : List Int} {u : Int} : ∀ {m : Nat}, (∀ j, j < m → ¬ inIv facets lows u j) → cntIv facets lows u m = 0
  | 0, _ => rfl
  | m + 1, h => by rw [cntIv_neg (h m (by omega)), cntIv_zero fun j hj => h j (by omega)]
theorem cntIv_mono {facets lows : List Int} {u : Int} {j : Nat} : ∀ {m : Nat}, j ≤ m → cntIv facets lows u j ≤ cntIv facets lows u m
  | 0, h => by have : j = 0 := by omega
               subst this; omega
  | m + 1, h => by
    rcases Nat.lt_or_ge m j with h1 | h1
    · have : j = m + 1 := by omega
      subst this; omega
    · have ih := cntIv_mono (facets := facets) (lows := lows) (u := u) h1
      by_cases hi : inIv facets lows u m
      · rw [cntIv_pos hi]; omega
      · rw [cntIv_neg hi]; omega
theorem cntIv_hit {facets lows : List Int} {u : Int} {j m : Nat} (hj : j < m) (h : inIv facets lows u j) : cntIv facets lows u j + 1 ≤ cntIv facets lows u m := by
  rw [← cntIv_pos h]
  exact cntIv_mono hj
theorem cntIv_one {facets lows : List Int} {u : Int} : ∀ {m : Nat}, (∀ k, k < m → ∀ j, j < k → ¬ (inIv facets lows u j ∧ inIv facets lows u k)) → cntIv facets lows u m ≤ 1
  | 0, _ => by simp [cntIv]
  | m + 1, h => by
    by_cases hi : inIv facets lows u m
    · rw [cntIv_pos hi, cntIv_zero fun j hj hh => h m (by omega) j hj ⟨hh, hi⟩]; omega
    · rw [cntIv_neg hi]; exact cntIv_one fun k hk => h k (by omega)
end Go.Proofs.Ytmemomfffehnkaa
namespace Go.Proofs.Ytmemomfffehnkaa
open Go Go.RowKit
set_option maxRecDepth 1000000
set_option linter.unusedSimpArgs false
set_option linter.unusedVariables false
set_option maxHeartbeats 1000000
/-- The new parts of the first k sets of a list. -/
def newfP (list : List Int) (k : Nat) : List Int := (List.range k).map fun i => partI (list.take i) (at0 list i)
@[simp] theorem newfP_len (list : List Int) (k : Nat) : (newfP list k).length = k := by simp [newfP]
theorem shell_order {n : Int} {l list : List Int} (h : shellB n l list = true) : orderB n l list = true := (dec_iff.1 h).1
end Go.Proofs.Ytmemomfffehnkaa
namespace Go.Proofs.Ytmemomfffehnkaa
open Go Go.RowKit
set_option maxRecDepth 1000000
set_option linter.unusedSimpArgs false
set_option linter.unusedVariables false
set_option maxHeartbeats 1000000
theorem order_all {n : Int} {l list : List Int} (h : orderB n l list = true) : list.length = l.length ∧ list.Nodup ∧ ∀ f ∈ l, f ∈ list := by
  obtain ⟨_, h1, h2, _⟩ := order_parts h
  have hl : list.length = l.length := by
    simp only [orderB, Bool.and_eq_true, decide_eq_true_eq] at h
    omega
  exact ⟨hl, h1, (nodup_of h1 h2 hl.symm).2⟩
end Go.Proofs.Ytmemomfffehnkaa
namespace Go.Proofs.Ytmemomfffehnkaa
open Go Go.RowKit
set_option maxRecDepth 1000000
set_option linter.unusedSimpArgs false
set_option linter.unusedVariables false
set_option maxHeartbeats 1000000
theorem one_bit {b : Int} (hb : isS b) (h1 : sizeOf1 b = 1) {i k : Nat} (hi : i < 6) (hk : k < 6) (h2 : tb b i) (h3 : tb b k) : k = i := by
  obtain ⟨x, hx, rfl⟩ := isS_nat0 hb
  have key : ∀ x : Nat, x < 64 → ∀ i : Nat, i < 6 → ∀ k : Nat, k < 6 → (!(pcF 6 x == 1 && x.testBit i && x.testBit k) || k == i) = true := by decide +kernel
  have hk2 := key x hx i hi k hk
  rw [sizeOf1_set (by omega) (by omega), sz, Int.toNat_natCast, pc6 x hx] at h1
  have h1' : pcF 6 x = 1 := by omega
  rw [tb_nat x i hx hi] at h2
  rw [tb_nat x k hx hk] at h3
  simpa [h1', h2, h3] using hk2
theorem part_pt {l : List Int} (hl : allS l) {s : Int} (hs : isS s) {u : Int} (hu : isS u) (hus : subS u s) {i : Nat} (hi : i < 6) (h : tb (partI l s) i) (hu' : ¬ tb u i) : ∃ g ∈ l, subS u g := by
  have e : partI l s = partI (l.take l.length) s := by rw [List.take_length]
  rw [e, partI_tb hl hs hi _ (Nat.le_refl _)] at h
  obtain ⟨j, hj, h1, h2⟩ := h
  refine ⟨at0 l j, getD_mem' hj, (subS_tb hu (allS_at hl hj)).2 fun k hk hk2 => ?_⟩
  have hsk := (subS_tb hu hs).1 hus k hk hk2
  refine Classical.byContradiction fun hg => ?_
  have h3 := (tb_bnot_iff hs (allS_at hl hj) hk).2 ⟨hsk, hg⟩
  have h4 := one_bit (isS_bnot hs (allS_at hl hj)) h1 hi hk h2 h3
  subst h4
  exact hu' hk2
theorem isS_partI {l : List Int} (hl : allS l) {s : Int} (hs : isS s) : isS (partI l s) := by
  have := partI_isS hl hs l.length (Nat.le_refl _)
  rwa [List.take_length] at this
theorem at0_tk {l : List Int} {j k : Nat} (h : k < j) : at0 (l.take j) k = at0 l k := by
  simp only [at0, List.getElem?_take_of_lt h]
theorem mem_take {l : List Int} {i j : Nat} (hij : i < j) (hj : j < l.length) : at0 l i ∈ l.take j := by
  rw [← at0_tk hij]
  exact getD_mem' (by rw [List.length_take]; omega)
theorem sh_low {list : List Int} (hS : allS list) {u : Int} (hu : isS u) {j : Nat} (hj : j < list.length) (hsub : subS u (at0 list j)) (hmin : ∀ i, i < j → ¬ subS u (at0 list i)) : subS (partI (list.take j) (at0 list j)) u := by
  have hT := allS_take hS j
  have hs := allS_at hS hj
  rw [subS_tb (isS_partI hT hs) hu]
  intro i hi h
  refine Classical.byContradiction fun hn => ?_
  obtain ⟨g, hg, h2⟩ := part_pt hT hs hu hsub hi h hn
  obtain ⟨k, hk, e⟩ := getD_mem_iff.1 hg
  rw [List.length_take] at hk
  rw [at0_tk (by omega)] at e
  exact hmin k (by omega) (by rw [e]; exact h2)
def fitsA (list : List Int) : Prop := ∀ k, k < list.length → fitsI (list.take k) (at0 list k)
theorem sh_two {list : List Int} (hS : allS list) (hf : fitsA list) {u : Int} (hu : isS u) {i j : Nat} (hij : i < j) (hj : j < list.length) (h1 : subS u (at0 list i)) (h2 : subS (partI (list.take j) (at0 list j)) u) : False :=
  hf j hj (at0 list i) (mem_take hij hj) (subS_trans (isS_partI (allS_take hS j) (allS_at hS hj)) hu (allS_at hS (by omega)) h2 h1)
theorem at0_newfP {list : List Int} {k i : Nat} (h : i < k) : at0 (newfP list k) i = partI (list.take i) (at0 list i) := by
  simp [newfP, at0, h]
theorem inIv_sh {list : List Int} {u : Int} {i : Nat} (h : i < list.length) : inIv list (newfP list list.length) u i ↔ subS (partI (list.take i) (at0 list i)) u ∧ subS u (at0 list i) := by
  unfold inIv
  rw [at0_newfP h]
theorem sh_ex {list : List Int} (hS : allS list) {u : Int} (hu : isS u) (hex : ∃ i, i < list.length ∧ subS u (at0 list i)) : ∃ i, i < list.length ∧ inIv list (newfP list list.length) u i := by
  rcases lst_nat (fun i => subS u (at0 list i)) list.length with h | ⟨m, a, b, c⟩
  · obtain ⟨i, hi, h2⟩ := hex
    exact absurd h2 (h i hi)
  · exact ⟨m, a, (inIv_sh a).2 ⟨sh_low hS hu a b c, b⟩⟩
theorem sh_uniq {list : List Int} (hS : allS list) (hf : fitsA list) {u : Int} (hu : isS u) {i j : Nat} (hi : i < list.length) (hj : j < list.length) (h1 : inIv list (newfP list list.length) u i) (h2 : inIv list (newfP list list.length) u j) : i = j := by
  rw [inIv_sh hi] at h1
  rw [inIv_sh hj] at h2
  rcases Nat.lt_trichotomy i j with h | h | h
  · exact (sh_two hS hf hu h hj h1.2 h2.1).elim
  · exact h
  · exact (sh_two hS hf hu h hi h2.2 h1.1).elim
theorem cntIv_just {facets lows : List Int} {u : Int} {m : Nat} (h1 : ∃ i, i < m ∧ inIv facets lows u i) (h2 : ∀ i j, i < m → j < m → inIv facets lows u i → inIv facets lows u j → i = j) : cntIv facets lows u m = 1 := by
  obtain ⟨i, hi, hv⟩ := h1
  have a := cntIv_hit hi hv
  have b := (cntIv_bnd facets lows u i).1
  have c := cntIv_one (facets := facets) (lows := lows) (u := u) (m := m) fun k hk j hj hh => by
    have := h2 j k (by omega) hk hh.1 hh.2
    omega
  omega
theorem sh_cnt {list : List Int} (hS : allS list) (hf : fitsA list) {u : Int} (hu : isS u) (hex : ∃ i, i < list.length ∧ subS u (at0 list i)) : cntIv list (newfP list list.length) u list.length = 1 :=
  cntIv_just (sh_ex hS hu hex) fun i j hi hj h1 h2 => sh_uniq hS hf hu hi hj h1 h2
theorem shell_fits {n : Int} {l list : List Int} (h : shellB n l list = true) : fitsA list := (dec_iff.1 h).2
theorem exL_ok {D : List Int → Prop} {N : Nat} (hlen : ∀ x, D x → x.length = N) (hset : ∀ x u, exD D (x ++ [u]) → isS u) : ∀ (n : Nat) (head : List Int), head.length + n = N → exD D head → D (exL D n head)
  | 0, head, hN, he => by
    obtain ⟨t, ht⟩ := he
    have := hlen _ ht
    rw [List.length_append] at this
    have e : t = [] := List.length_eq_zero_iff.1 (by omega)
    subst e
    rwa [List.append_nil] at ht
  | n + 1, head, hN, he => by
    obtain ⟨t, ht⟩ := he
    cases t with
    | nil =>
      have := hlen _ ht
      rw [List.append_nil] at this
      omega
    | cons u t =>
      have hu : exD D (head ++ [u]) := ⟨t, by simpa using ht⟩
      obtain ⟨_, h2, _⟩ := nxS_spec ⟨u, hset _ _ hu, hu⟩
      rw [exL]
      exact exL_ok hlen hset n _ (by rw [List.length_append, List.length_singleton]; omega) h2
theorem fsh_ok {n : Int} {l : List Int} (h : fshP n l) : shellB n l (fshL n l) = true := by
  have hc := h.1
  have hS := cplx_isS hc
  have hF := srt_sf hc h.2.1
  have hd : shD (srt l) (fshL n l) := by
    rw [fshL_yes h, shO_yes h.2.2]
    exact exL_ok (fun x hx => hx.1) (fun x u hx => hF.s u (sh_set hx).2.1) _ [] (by simp) h.2.2
  obtain ⟨h1, _, h2⟩ := hd
  refine dec_iff.2 ⟨?_, fun k hk => (h2 k hk).2.2⟩
  simp only [orderB, Bool.and_eq_true, decide_eq_true_eq]
  refine ⟨cplxB_iff.2 hc, ?_, ?_, fun x hx => ?_⟩
  · rw [h1, srt_len2 hS (cplx_nodup hc)]
  · rw [List.nodup_iff_pairwise_ne, List.pairwise_iff_getElem]
    intro i j hi hj hij e
    refine (h2 j hj).2.1 ?_
    have := mem_take (l := fshL n l) hij hj
    rwa [at0_eq hi, e, ← at0_eq hj] at this
  · obtain ⟨k, hk, e⟩ := getD_mem_iff.1 hx
    rw [← e]
    exact (srt_mem hS).1 (h2 k hk).1
end Go.Proofs.Ytmemomfffehnkaa
namespace Go.Proofs.Ytmemomfffehnkaa
open Go Go.RowKit
set_option maxRecDepth 1000000
set_option linter.unusedSimpArgs false
set_option linter.unusedVariables false
set_option maxHeartbeats 1000000
theorem cntIv_sum (F lows : List Int) (u : Int) : ∀ m, cntIv F lows u m = sumN m fun k => bI (inIv F lows u k)
  | 0 => rfl
  | m + 1 => by
    rw [sumN, ← cntIv_sum F lows u m]
    by_cases h : inIv F lows u m
    · rw [cntIv_pos h, bI_yes h]
    · rw [cntIv_neg h, bI_no h]
      omega
/-- Binomial numbers. -/
def chP : Nat → Nat → Nat
  | _, 0 => 1
  | 0, _ + 1 => 0
  | n + 1, k + 1 => chP n k + chP n (k + 1)
def chT (d a i : Nat) : Nat := if a ≤ i then chP (d - a) (i - a) else 0
def cU (x y i : Nat) : Nat := ((List.range 64).filter fun u => (x &&& u == x) && (u &&& y == u) && pcF 6 u == i).length
theorem key1 : ∀ x : Nat, x < 64 → ∀ y : Nat, y < 64 → (!(x &&& y == x) || (List.range 7).all fun i => cU x y i == chT (pcF 6 y) (pcF 6 x) i) = true := by decide +kernel
def sgI (k : Nat) : Int := 1 - 2 * ((k % 2 : Nat) : Int)
def altC (d a j : Nat) : Nat → Int
  | 0 => 0
  | i + 1 => altC d a j i + sgI (j - i) * (chT d a i : Nat) * (chP (d - i) (j - i) : Nat)
theorem key2 : ∀ d : Nat, d < 7 → ∀ a : Nat, a < d + 1 → ∀ j : Nat, j < d + 1 → altC d a j (j + 1) = if a = j then 1 else 0 := by decide +kernel
theorem altC_sum (d a j : Nat) : ∀ m, altC d a j m = sumN m fun i => sgI (j - i) * (chT d a i : Nat) * (chP (d - i) (j - i) : Nat)
  | 0 => rfl
  | m + 1 => by rw [altC, sumN, altC_sum d a j m]
/-- How many sets of a size lie between two sets. -/
theorem cnt_between {x y : Nat} (hx : x < 64) (hy : y < 64) (h : subS (x : Int) (y : Int)) {i : Nat} (hi : i < 7) : (sumN 64 fun u => bI ((subS (x : Int) (u : Int) ∧ subS (u : Int) (y : Int)) ∧ sz (u : Int) = (i : Int))) = (chT (pcF 6 y) (pcF 6 x) i : Nat) := by
  have e := key1 x hx y hy
  have h' := (subS_natI hx hy).1 h
  simp only [h', beq_self_eq_true, Bool.not_true, Bool.false_or, List.all_eq_true, List.mem_range, beq_iff_eq] at e
  rw [← e i hi]
  unfold cU
  rw [sumN_filter]
  refine sumN_congr fun u hu => bI_congr ?_
  rw [subS_natI hx hu, subS_natI hu hy, sz_nat hu]
  simp only [Bool.and_eq_true, beq_iff_eq]
  constructor
  · rintro ⟨⟨a, b⟩, c⟩; exact ⟨⟨a, b⟩, by omega⟩
  · rintro ⟨⟨a, b⟩, c⟩; exact ⟨⟨a, b⟩, by omega⟩
/-- The h numbers of a divided pure complex count the lows by size. -/
theorem hnum_div {F lows : List Int} {d : Nat} (hF : allS F) (hlen : lows.length = F.length) (hlow : ∀ k, k < lows.length → isS (at0 lows k) ∧ subS (at0 lows k) (at0 F k)) (hp : ∀ k, k < F.length → sz (at0 F k) = (d : Int)) (hd : d < 7)
    (hone : ∀ u, isS u → faceS F u → cntIv F lows u lows.length = 1) {j : Nat} (hj : j ≤ d) :
    (sumN (j + 1) fun i => sgI (j - i) * ((szS (faceS F) (i : Nat)).length : Int) * (chP (d - i) (j - i) : Nat)) = cntZ lows j := by
  have hf : ∀ i : Nat, i < 7 → ((szS (faceS F) (i : Nat)).length : Int) = sumN lows.length fun k => (chT d (sz (at0 lows k)).toNat i : Nat) := by
    intro i hi
    rw [szS_cnt]
    have e1 : (sumN 64 fun u => bI (faceS F (u : Int) ∧ sz (u : Int) = (i : Int))) = sumN 64 fun u => sumN lows.length fun k => bI (inIv F lows (u : Int) k ∧ sz (u : Int) = (i : Int)) := by
      refine sumN_congr fun u hu => ?_
      have hus : isS (u : Int) := ⟨by omega, by omega⟩
      by_cases hz : sz (u : Int) = (i : Int)
      · have e2 : (sumN lows.length fun k => bI (inIv F lows (u : Int) k ∧ sz (u : Int) = (i : Int))) = cntIv F lows u lows.length := by
          rw [cntIv_sum]
          exact sumN_congr fun k _ => bI_congr ⟨fun h => h.1, fun h => ⟨h, hz⟩⟩
        rw [e2]
        by_cases hfu : faceS F (u : Int)
        · rw [bI_yes ⟨hfu, hz⟩, hone _ hus hfu]
        · rw [bI_no fun h => hfu h.1, cntIv_sum, sumN_zero]
          intro k hk
          refine bI_no fun h => hfu ⟨at0 F k, getD_mem' (by omega), h.2⟩
      · rw [bI_no fun h => hz h.2, sumN_zero]
        intro k _
        exact bI_no fun h => hz h.2
    rw [e1, sumN_swap]
    refine sumN_congr fun k hk => ?_
    obtain ⟨hl1, hl2⟩ := hlow k hk
    have hfk := allS_at hF (j := k) (by omega)
    obtain ⟨x, hx, ex⟩ := isS_nat0 hl1
    obtain ⟨y, hy, ey⟩ := isS_nat0 hfk
    have hd2 := hp k (by omega)
    rw [ey, sz_nat hy] at hd2
    have hd3 : pcF 6 y = d := by omega
    have e3 : (sz (at0 lows k)).toNat = pcF 6 x := by rw [ex, sz_nat hx, Int.toNat_natCast]
    rw [e3]
    have := cnt_between hx hy (by rw [← ex, ← ey]; exact hl2) hi
    rw [hd3] at this
    rw [← this]
    refine sumN_congr fun u _ => bI_congr ?_
    unfold inIv
    rw [ex, ey]
  have e4 : (sumN (j + 1) fun i => sgI (j - i) * ((szS (faceS F) (i : Nat)).length : Int) * (chP (d - i) (j - i) : Nat)) = sumN (j + 1) fun i => sumN lows.length fun k => sgI (j - i) * (chT d (sz (at0 lows k)).toNat i : Nat) * (chP (d - i) (j - i) : Nat) := by
    refine sumN_congr fun i hi => ?_
    rw [hf i (by omega), ← sumN_mul, ← sumN_mulR]
  rw [e4, sumN_swap]
  have e5 : (sumN lows.length fun k => sumN (j + 1) fun i => sgI (j - i) * (chT d (sz (at0 lows k)).toNat i : Nat) * (chP (d - i) (j - i) : Nat)) = sumN lows.length fun k => bI (sz (at0 lows k) = (j : Int)) := by
    refine sumN_congr fun k hk => ?_
    obtain ⟨hl1, hl2⟩ := hlow k hk
    have hfk := allS_at hF (j := k) (by omega)
    have hle := (sz_sub hl1 hfk hl2).1
    rw [hp k (by omega)] at hle
    have h0 : 0 ≤ sz (at0 lows k) := by unfold sz; omega
    rw [← altC_sum, key2 d hd _ (by omega) j (by omega)]
    by_cases e : sz (at0 lows k) = (j : Int)
    · rw [bI_yes e, if_pos (by omega)]
    · rw [bI_no e, if_neg (by omega)]
  rw [e5]
  exact (cntZ_sum lows j).symm
end Go.Proofs.Ytmemomfffehnkaa
