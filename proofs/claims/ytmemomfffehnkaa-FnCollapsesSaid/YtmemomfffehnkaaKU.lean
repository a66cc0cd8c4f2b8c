import Derived.Test.YtmemomfffehnkaaKQ
import Derived.Test.YtmemomfffehnkaaKG
import Derived.Test.YtmemomfffehnkaaKS2
namespace Go.Proofs.Ytmemomfffehnkaa
open Go Go.RowKit
set_option maxRecDepth 1000000
set_option linter.unusedSimpArgs false
set_option linter.unusedVariables false
set_option maxHeartbeats 1000000
open Classical in
noncomputable def bI (p : Prop) : Int := if p then 1 else 0
theorem bI_yes {p : Prop} (h : p) : bI p = 1 := if_pos h
theorem bI_no {p : Prop} (h : ¬ p) : bI p = 0 := if_neg h
theorem bI_congr {p q : Prop} (h : p ↔ q) : bI p = bI q := by rw [propext h]
def sumN : Nat → (Nat → Int) → Int
  | 0, _ => 0
  | n + 1, f => sumN n f + f n
theorem sumN_congr {f g : Nat → Int} : ∀ {n : Nat}, (∀ k, k < n → f k = g k) → sumN n f = sumN n g
  | 0, _ => rfl
  | n + 1, h => by rw [sumN, sumN, sumN_congr fun k hk => h k (by omega), h n (by omega)]
theorem sumN_zero {f : Nat → Int} {n : Nat} (h : ∀ k, k < n → f k = 0) : sumN n f = 0 := by
  induction n with
  | zero => rfl
  | succ n ih => rw [sumN, ih fun k hk => h k (by omega), h n (by omega)]; rfl
theorem sumN_add (f g : Nat → Int) : ∀ n, sumN n (fun k => f k + g k) = sumN n f + sumN n g
  | 0 => rfl
  | n + 1 => by rw [sumN, sumN, sumN, sumN_add f g n]; omega
theorem sumN_mul (a : Int) (f : Nat → Int) : ∀ n, sumN n (fun k => a * f k) = a * sumN n f
  | 0 => by simp [sumN]
  | n + 1 => by rw [sumN, sumN, sumN_mul a f n, Int.mul_add]
theorem sumN_mulR (a : Int) (f : Nat → Int) (n : Nat) : sumN n (fun k => f k * a) = sumN n f * a := by
  rw [Int.mul_comm, ← sumN_mul]
  exact sumN_congr fun k _ => Int.mul_comm _ _
theorem sumN_swap (f : Nat → Nat → Int) (m : Nat) : ∀ n, sumN n (fun i => sumN m (f i)) = sumN m fun j => sumN n fun i => f i j
  | 0 => (sumN_zero fun _ _ => rfl).symm
  | n + 1 => by
    rw [sumN, sumN_swap f m n]
    have : (fun j => sumN (n + 1) fun i => f i j) = fun j => (sumN n fun i => f i j) + f n j := rfl
    rw [this, sumN_add]
theorem upS_cnt (p : Int → Prop) : ∀ k, ((upS p k).length : Int) = sumN k fun u => bI (p u)
  | 0 => rfl
  | k + 1 => by
    rw [sumN, ← upS_cnt p k]
    by_cases h : p k
    · rw [upS_pos h, bI_yes h, List.length_append]
      simp
    · rw [upS_neg h, bI_no h]
      simp
theorem szS_cnt (q : Int → Prop) (z : Int) : ((szS q z).length : Int) = sumN 64 fun u => bI (q u ∧ sz (u : Int) = z) := by
  unfold szS
  rw [← upS_sets, upS_cnt]
theorem sumN_filter (p : Nat → Bool) : ∀ n, (((List.range n).filter p).length : Int) = sumN n fun u => bI (p u = true)
  | 0 => rfl
  | n + 1 => by
    rw [List.range_succ, List.filter_append, List.length_append, sumN, ← sumN_filter p n]
    by_cases h : p n = true
    · rw [bI_yes h]; simp [h]
    · rw [bI_no h]; simp [h]
theorem subS_natI {x y : Nat} (hx : x < 64) (hy : y < 64) : subS (x : Int) (y : Int) ↔ x &&& y = x := by
  have h1 := subS_iff' (a := (x : Int)) (b := (y : Int)) ⟨by omega, by omega⟩ ⟨by omega, by omega⟩
  rw [h1]
  show bitop .and .i64 (y : Int) (x : Int) = (x : Int) ↔ _
  rw [bits_and y x (by omega) (by omega), Nat.and_comm]
  omega
theorem sz_nat {x : Nat} (hx : x < 64) : sz (x : Int) = (pcF 6 x : Nat) := by
  rw [sz, Int.toNat_natCast, pc6 x hx]
theorem filt_sum (p : Int → Bool) (l : List Int) : ∀ m, m ≤ l.length → (((l.take m).filter p).length : Int) = sumN m fun k => bI (p (at0 l k) = true)
  | 0, _ => by simp [sumN]
  | m + 1, h => by
    have hm : m < l.length := by omega
    rw [List.take_succ_eq_append_getElem hm, List.filter_append, List.length_append, sumN, ← filt_sum p l m (by omega), at0_eq hm]
    by_cases e : p l[m] = true
    · rw [bI_yes e]; simp [e]
    · rw [bI_no e]; simp [e]
theorem cntZ_sum (l : List Int) (z : Nat) : cntZ l z = sumN l.length fun k => bI (sz (at0 l k) = (z : Int)) := by
  unfold cntZ
  have := filt_sum (fun s => dec (sz s = (z : Int))) l l.length (Nat.le_refl _)
  rw [List.take_length] at this
  rw [this]
  exact sumN_congr fun k _ => bI_congr dec_iff
end Go.Proofs.Ytmemomfffehnkaa
namespace Go.Proofs.Ytmemomfffehnkaa
open Go Go.RowKit
set_option maxRecDepth 1000000
set_option linter.unusedSimpArgs false
set_option linter.unusedVariables false
set_option maxHeartbeats 1000000
theorem szRow_sum (l : List Int) : ∀ m, (szRow m l).sum = sumN m fun z => cntZ l z
  | 0 => rfl
  | m + 1 => by
    have e : szRow (m + 1) l = szRow m l ++ [cntZ l m] := by simp [szRow, List.range_succ]
    rw [e, List.sum_append, szRow_sum l m, sumN]
    simp
theorem one_hit {m : Nat} {z : Int} (h0 : 0 ≤ z) : ∀ {m : Nat}, (sumN m fun k => bI (z = (k : Int))) = bI (z < (m : Int))
  | 0 => by rw [bI_no (by omega)]; rfl
  | m + 1 => by
    rw [sumN, one_hit (m := m) h0]
    by_cases h1 : z < (m : Int)
    · rw [bI_yes h1, bI_no (by omega), bI_yes (by omega)]; rfl
    · by_cases h2 : z = (m : Int)
      · rw [bI_no h1, bI_yes h2, bI_yes (by omega)]; rfl
      · rw [bI_no h1, bI_no h2, bI_no (by omega)]; rfl
/-- The counts by size sum up to the number of sets. -/
theorem szRow_total {l : List Int} {m : Nat} (h : ∀ k, k < l.length → sz (at0 l k) < (m : Int)) : (szRow m l).sum = l.length := by
  rw [szRow_sum]
  have e : (sumN m fun z => cntZ l z) = sumN m fun z => sumN l.length fun k => bI (sz (at0 l k) = (z : Int)) := sumN_congr fun z _ => cntZ_sum l z
  rw [e, sumN_swap]
  have e2 : (sumN l.length fun k => sumN m fun z => bI (sz (at0 l k) = (z : Int))) = sumN l.length fun _ => 1 := by
    refine sumN_congr fun k hk => ?_
    have h0 : 0 ≤ sz (at0 l k) := by unfold sz; omega
    rw [one_hit (m := m) h0, bI_yes (h k hk)]
  rw [e2]
  have : ∀ n : Nat, (sumN n fun _ => 1) = (n : Int) := fun n => by
    induction n with
    | zero => rfl
    | succ n ih => rw [sumN, ih]; omega
  exact this _
theorem cntZ_rng (l : List Int) (z : Nat) : 0 ≤ cntZ l z ∧ cntZ l z ≤ l.length := by
  unfold cntZ
  have := List.length_filter_le (fun s => dec (sz s = (z : Int))) l
  omega
theorem szRow_mem {m : Nat} {l : List Int} {x : Int} (h : x ∈ szRow m l) : 0 ≤ x ∧ x ≤ l.length := by
  obtain ⟨z, _, rfl⟩ := List.mem_map.1 h
  exact cntZ_rng l z
end Go.Proofs.Ytmemomfffehnkaa
namespace Go.Proofs.Ytmemomfffehnkaa
open Go Go.RowKit
set_option maxRecDepth 1000000
set_option linter.unusedSimpArgs false
set_option linter.unusedVariables false
set_option maxHeartbeats 1000000
theorem sumN_one {w : Int → Int} {a : Nat} : ∀ n, (sumN n fun u => bI ((u : Int) = (a : Int)) * w u) = if a < n then w a else 0
  | 0 => by simp [sumN]
  | n + 1 => by
    rw [sumN, sumN_one n]
    by_cases h : a < n
    · rw [if_pos h, if_pos (by omega), bI_no (by omega)]; omega
    · by_cases h2 : a = n
      · subst h2
        rw [if_neg h, if_pos (by omega), bI_yes rfl]; omega
      · rw [if_neg h, if_neg (by omega), bI_no (by omega)]; omega
theorem sumN_front (f : Nat → Int) : ∀ n, sumN (n + 1) f = f 0 + sumN n fun k => f (k + 1)
  | 0 => by simp [sumN]
  | n + 1 => by
    rw [sumN, sumN_front f n, sumN]
    omega
/-- A sum over a row. -/
def sumL (U : List Int) (w : Int → Int) : Int := sumN U.length fun k => w (at0 U k)
theorem sumL_nil (w : Int → Int) : sumL [] w = 0 := rfl
theorem sumL_cons (a : Int) (U : List Int) (w : Int → Int) : sumL (a :: U) w = w a + sumL U w := by
  unfold sumL
  rw [List.length_cons, sumN_front]
  rfl
theorem sumL_app (U V : List Int) (w : Int → Int) : sumL (U ++ V) w = sumL U w + sumL V w := by
  induction U with
  | nil => rw [List.nil_append, sumL_nil]; omega
  | cons a U ih => rw [List.cons_append, sumL_cons, sumL_cons, ih]; omega
/-- A sum over sets that are all different, as a sum over all numbers. -/
theorem sumL_mem (w : Int → Int) : ∀ {U : List Int}, U.Nodup → allS U → (sumN 64 fun u => bI ((u : Int) ∈ U) * w u) = sumL U w
  | [], _, _ => by
    rw [sumL_nil]
    exact sumN_zero fun k _ => by rw [bI_no (by simp)]; omega
  | a :: U, hn, hS => by
    rw [List.nodup_cons] at hn
    have ih := sumL_mem w hn.2 fun x hx => hS x (List.mem_cons_of_mem _ hx)
    rw [sumL_cons, ← ih]
    obtain ⟨x, hx, rfl⟩ := isS_nat0 (hS a (List.mem_cons_self ..))
    have e : (sumN 64 fun u => bI ((u : Int) ∈ (x : Int) :: U) * w u) = sumN 64 fun u => bI ((u : Int) = (x : Int)) * w u + bI ((u : Int) ∈ U) * w u := sumN_congr fun u hu => by
      by_cases h : (u : Int) = (x : Int)
      · rw [bI_yes h, bI_yes (by rw [h]; exact List.mem_cons_self ..), bI_no (by rw [h]; exact hn.1)]; omega
      · rw [bI_no h]
        by_cases h2 : (u : Int) ∈ U
        · rw [bI_yes h2, bI_yes (List.mem_cons_of_mem _ h2)]; omega
        · rw [bI_no h2, bI_no (fun hh => (List.mem_cons.1 hh).elim h h2)]; omega
    rw [e, sumN_add, sumN_one, if_pos hx]
theorem nodup_setsOf (p : Int → Prop) : (setsOf p).Nodup := setsOf_nodup p
/-- What is in a family is in one of two parts. -/
theorem sumL_split {F N U : List Int} (hF : F.Nodup ∧ allS F) (hN : N.Nodup ∧ allS N) (hU : U.Nodup ∧ allS U) (h : ∀ s, s ∈ F ↔ s ∈ N ∨ s ∈ U) (hd : ∀ s, s ∈ N → s ∈ U → False) (w : Int → Int) : sumL F w = sumL N w + sumL U w := by
  rw [← sumL_mem w hF.1 hF.2, ← sumL_mem w hN.1 hN.2, ← sumL_mem w hU.1 hU.2, ← sumN_add]
  refine sumN_congr fun u _ => ?_
  by_cases h1 : (u : Int) ∈ N
  · rw [bI_yes ((h _).2 (.inl h1)), bI_yes h1, bI_no fun h2 => hd _ h1 h2]; omega
  · by_cases h2 : (u : Int) ∈ U
    · rw [bI_yes ((h _).2 (.inr h2)), bI_yes h2, bI_no h1]; omega
    · rw [bI_no fun hh => ((h _).1 hh).elim h1 h2, bI_no h1, bI_no h2]; omega
theorem sumL_congr {U : List Int} {w v : Int → Int} (h : ∀ s ∈ U, w s = v s) : sumL U w = sumL U v := sumN_congr fun k hk => h _ (getD_mem' hk)
theorem sumL_len (U : List Int) : sumL U (fun _ => 1) = U.length := by
  induction U with
  | nil => rfl
  | cons a U ih => rw [sumL_cons, ih, List.length_cons]; omega
/-- The sign of a face in the Euler number. -/
def sgE (s : Int) : Int := 2 * (sz s % 2) - 1
end Go.Proofs.Ytmemomfffehnkaa
namespace Go.Proofs.Ytmemomfffehnkaa
open Go Go.RowKit
set_option maxRecDepth 1000000
set_option linter.unusedSimpArgs false
set_option linter.unusedVariables false
set_option maxHeartbeats 1000000
/-- The places but one. -/
def skipN (a j : Nat) : Nat := if j < a then j else j + 1
theorem sumN_skip (f : Nat → Int) : ∀ m a : Nat, a ≤ m → sumN (m + 1) f = f a + sumN m fun j => f (skipN a j)
  | 0, a, h => by
    have : a = 0 := by omega
    subst this
    simp [sumN]
  | m + 1, a, h => by
    by_cases e : a = m + 1
    · subst e
      rw [sumN]
      have : (sumN (m + 1) fun j => f (skipN (m + 1) j)) = sumN (m + 1) f := sumN_congr fun j hj => by simp [skipN, show j < m + 1 from hj]
      rw [this]
      omega
    · rw [sumN, sumN_skip f m a (by omega)]
      have : (sumN (m + 1) fun j => f (skipN a j)) = (sumN m fun j => f (skipN a j)) + f (skipN a m) := rfl
      rw [this]
      have e2 : skipN a m = m + 1 := by unfold skipN; rw [if_neg (by omega)]
      rw [e2]
      omega
theorem sumN_dvd {p : Int} {f : Nat → Int} : ∀ {n : Nat}, (∀ k, k < n → p ∣ f k) → p ∣ sumN n f
  | 0, _ => ⟨0, by simp [sumN]⟩
  | n + 1, h => by
    rw [sumN]
    exact Int.dvd_add (sumN_dvd fun k hk => h k (by omega)) (h n (by omega))
theorem sumN_neg (f : Nat → Int) (n : Nat) : sumN n (fun k => -(f k)) = -(sumN n f) := by
  have := sumN_mul (-1) f n
  rw [show (fun k => -1 * f k) = fun k => -(f k) from funext fun k => by omega] at this
  rw [this]; omega
theorem sumN_sub (f g : Nat → Int) (n : Nat) : sumN n (fun k => f k - g k) = sumN n f - sumN n g := by
  have : (fun k => f k - g k) = fun k => f k + -(g k) := funext fun k => by omega
  rw [this, sumN_add, sumN_neg]; omega
/-- A number that has an inverse. -/
def unitP (p a : Int) : Prop := ∃ b, p ∣ a * b - 1
def fieldP (p : Int) : Prop := ¬ p ∣ 1 ∧ ∀ a, ¬ p ∣ a → unitP p a
/-- Fewer equations than unknowns: there is a solution other than 0. -/
theorem homog {p : Int} (hp : fieldP p) : ∀ (t m : Nat) (A : Nat → Nat → Int), t < m → ∃ x : Nat → Int, (∃ j, j < m ∧ ¬ p ∣ x j) ∧ ∀ i, i < t → p ∣ sumN m fun j => A i j * x j
  | 0, m, A, h => ⟨fun _ => 1, ⟨0, h, hp.1⟩, fun i hi => absurd hi (Nat.not_lt_zero _)⟩
  | t + 1, m, A, h => by
    by_cases hz : ∀ j, j < m → p ∣ A t j
    · obtain ⟨x, h1, h2⟩ := homog hp t m A (by omega)
      refine ⟨x, h1, fun i hi => ?_⟩
      by_cases e : i = t
      · subst e
        exact sumN_dvd fun j hj => Int.dvd_mul_of_dvd_left (hz j hj)
      · exact h2 i (by omega)
    · obtain ⟨a, ha⟩ := Classical.not_forall.1 hz
      obtain ⟨ham, hna⟩ := Classical.not_imp.1 ha
      obtain ⟨b, hb⟩ := hp.2 _ hna
      obtain ⟨m', rfl⟩ : ∃ m', m = m' + 1 := ⟨m - 1, by omega⟩
      obtain ⟨x, ⟨j0, hj0, hx0⟩, h2⟩ := homog hp t m' (fun i j => A i (skipN a j) - A i a * b * A t (skipN a j)) (by omega)
      obtain ⟨S, hS⟩ : ∃ S, (sumN m' fun j => A t (skipN a j) * x j) = S := ⟨_, rfl⟩
      let y : Nat → Int := fun k => if k = a then -(b * S) else if k < a then x k else x (k - 1)
      have hya : y a = -(b * S) := if_pos rfl
      have hys : ∀ j, y (skipN a j) = x j := fun j => by
        show (if skipN a j = a then -(b * S) else if skipN a j < a then x (skipN a j) else x (skipN a j - 1)) = x j
        unfold skipN
        by_cases hja : j < a
        · rw [if_pos hja, if_neg (by omega), if_pos hja]
        · rw [if_neg hja, if_neg (by omega), if_neg (by omega), Nat.add_sub_cancel]
      refine ⟨y, ⟨skipN a j0, ?_, by rw [hys]; exact hx0⟩, fun i hi => ?_⟩
      · unfold skipN; split <;> omega
      · rw [sumN_skip _ m' a (by omega), hya]
        have e1 : (sumN m' fun j => A i (skipN a j) * y (skipN a j)) = sumN m' fun j => A i (skipN a j) * x j := sumN_congr fun j _ => by rw [hys]
        rw [e1]
        by_cases e : i = t
        · subst e
          rw [hS]
          have : A i a * -(b * S) + S = -((A i a * b - 1) * S) := by
            rw [Int.sub_mul, Int.mul_neg, Int.mul_assoc]; omega
          rw [this]
          exact (Int.dvd_neg).2 (Int.dvd_mul_of_dvd_left hb)
        · have h3 := h2 i (by omega)
          have e2 : (sumN m' fun j => (A i (skipN a j) - A i a * b * A t (skipN a j)) * x j) = A i a * -(b * S) + sumN m' fun j => A i (skipN a j) * x j := by
            have e3 : (fun j => (A i (skipN a j) - A i a * b * A t (skipN a j)) * x j) = fun j => A i (skipN a j) * x j - A i a * b * (A t (skipN a j) * x j) := funext fun j => by
              rw [Int.sub_mul, Int.mul_assoc (A i a * b)]
            rw [e3, sumN_sub, sumN_mul, hS, Int.mul_neg, ← Int.mul_assoc]
            omega
          rw [← e2]
          exact h3
/-- A triangle of units has no solution but 0. -/
theorem triang {p : Int} {m : Nat} {A : Nat → Nat → Int} (hd : ∀ i, i < m → ∀ x, p ∣ A i i * x → p ∣ x) (ht : ∀ i j, i < j → j < m → p ∣ A i j) {x : Nat → Int} (h : ∀ i, i < m → p ∣ sumN m fun j => A i j * x j) : ∀ j, j < m → p ∣ x j := by
  have key : ∀ k, k ≤ m → ∀ j, j < k → p ∣ x j := by
    intro k
    induction k with
    | zero => intro _ j hj; omega
    | succ k ih =>
      intro hk j hj
      by_cases e : j = k
      · subst e
        have h1 := h j (by omega)
        obtain ⟨m', rfl⟩ : ∃ m', m = m' + 1 := ⟨m - 1, by omega⟩
        rw [sumN_skip _ m' j (by omega)] at h1
        have h2 : p ∣ sumN m' fun q => A j (skipN j q) * x (skipN j q) := sumN_dvd fun q hq => by
          unfold skipN
          by_cases hqj : q < j
          · rw [if_pos hqj]
            exact Int.dvd_mul_of_dvd_right (ih (by omega) q hqj)
          · rw [if_neg hqj]
            exact Int.dvd_mul_of_dvd_left (ht j (q + 1) (by omega) (by omega))
        exact hd j (by omega) _ ((Int.dvd_add_left h2).1 h1)
      · exact ih (by omega) j (by omega)
  exact key m (Nat.le_refl _)
theorem field_fp {p : Int} (hp : fpP p) : fieldP p := by
  refine ⟨by rcases hp with rfl | rfl | rfl <;> omega, fun a ha => ?_⟩
  rcases hp with rfl | rfl | rfl
  · exact ⟨1, by omega⟩
  · by_cases h : a % 3 = 1
    · exact ⟨1, by omega⟩
    · exact ⟨2, by omega⟩
  · by_cases h1 : a % 5 = 1
    · exact ⟨1, by omega⟩
    · by_cases h2 : a % 5 = 2
      · exact ⟨3, by omega⟩
      · by_cases h3 : a % 5 = 3
        · exact ⟨2, by omega⟩
        · exact ⟨4, by omega⟩
theorem inv_unit {p a : Int} (hp : fpP p) (ha : ¬ p ∣ a) : p ∣ a * invZ a p - 1 := by
  obtain ⟨b, hb⟩ := (field_fp hp).2 a ha
  rcases invZ_spec a p with ⟨_, h⟩ | ⟨m, e, m1, m2, m3, _⟩
  · exfalso
    have hc : ∀ c : Nat, 1 ≤ c → (c : Int) < p → (a % p * c) % p ≠ 1 := h
    rcases hp with rfl | rfl | rfl
    · have := hc 1 (by omega) (by omega); omega
    · have := hc 1 (by omega) (by omega)
      have := hc 2 (by omega) (by omega); omega
    · have hr : a % 5 = 1 ∨ a % 5 = 2 ∨ a % 5 = 3 ∨ a % 5 = 4 := by omega
      rcases hr with hr | hr | hr | hr
      · exact hc 1 (by omega) (by omega) (by rw [hr]; rfl)
      · exact hc 3 (by omega) (by omega) (by rw [hr]; rfl)
      · exact hc 2 (by omega) (by omega) (by rw [hr]; rfl)
      · exact hc 4 (by omega) (by omega) (by rw [hr]; rfl)
  · rw [e]
    have h4 : m = 1 ∨ m = 2 ∨ m = 3 ∨ m = 4 := by rcases hp with rfl | rfl | rfl <;> omega
    rcases hp with rfl | rfl | rfl <;> rcases h4 with rfl | rfl | rfl | rfl <;> omega
theorem sumN_cong {p : Int} {f g : Nat → Int} {n : Nat} (h : ∀ k, k < n → p ∣ f k - g k) : p ∣ sumN n f - sumN n g := by
  rw [← sumN_sub]
  exact sumN_dvd h
/-- A row, applied to numbers. -/
def rv (w : Nat) (r : List Int) (x : Nat → Int) : Int := sumN w fun j => at0 r j * x j
def sol (p : Int) (w : Nat) (M : List (List Int)) (x : Nat → Int) : Prop := ∀ i, i < M.length → p ∣ rv w (atR M i) x
theorem mod_sub (a p : Int) : p ∣ a % p - a := ⟨-(a / p), by have := Int.emod_add_mul_ediv a p; rw [Int.mul_neg]; omega⟩
theorem rv_scl (p f : Int) {w : Nat} {r : List Int} (hr : r.length = w) (x : Nat → Int) : p ∣ rv w (sclR p f r) x - f * rv w r x := by
  unfold rv
  rw [← sumN_mul]
  refine sumN_cong fun k hk => ?_
  have e : at0 (sclR p f r) k = at0 r k * f % p := by
    unfold sclR
    rw [rowF_at (by omega)]
    rfl
  rw [e]
  have : at0 r k * f % p * x k - f * (at0 r k * x k) = (at0 r k * f % p - at0 r k * f) * x k := by
    rw [Int.sub_mul, Int.mul_comm f, Int.mul_right_comm]
  rw [this]
  exact Int.dvd_mul_of_dvd_left (mod_sub _ _)
theorem rv_elim (p c : Int) {w : Nat} {r q : List Int} (hr : r.length = w) (x : Nat → Int) : p ∣ rv w (elimR p c r q) x - (rv w r x - c * rv w q x) := by
  unfold rv
  rw [← sumN_mul, ← sumN_sub]
  refine sumN_cong fun k hk => ?_
  have e : at0 (elimR p c r q) k = (at0 r k - c * at0 q k) % p := by
    unfold elimR
    rw [rowF_at (by omega)]
    rfl
  rw [e]
  have : (at0 r k - c * at0 q k) % p * x k - (at0 r k * x k - c * (at0 q k * x k)) = ((at0 r k - c * at0 q k) % p - (at0 r k - c * at0 q k)) * x k := by
    rw [Int.sub_mul, Int.sub_mul, Int.mul_assoc]
  rw [this]
  exact Int.dvd_mul_of_dvd_left (mod_sub _ _)
theorem dvd_cong {p a b : Int} (h : p ∣ a - b) : p ∣ a ↔ p ∣ b := by
  constructor
  · intro ha
    have := Int.dvd_sub ha h
    rwa [show a - (a - b) = b by omega] at this
  · intro hb
    have := Int.dvd_add h hb
    rwa [show a - b + b = a by omega] at this
theorem unit_dvd {p f a : Int} (h : unitP p f) (hd : p ∣ f * a) : p ∣ a := by
  obtain ⟨b, hb⟩ := h
  have h1 : p ∣ b * (f * a) := Int.dvd_mul_of_dvd_right hd
  have h2 : p ∣ (f * b - 1) * a := Int.dvd_mul_of_dvd_left hb
  have h3 := Int.dvd_sub h1 h2
  have : b * (f * a) - (f * b - 1) * a = a := by
    rw [Int.sub_mul, ← Int.mul_assoc, Int.mul_comm b f]; omega
  rwa [this] at h3
theorem sol_swp {p : Int} {w : Nat} {M : List (List Int)} {d a : Nat} (hd : d < M.length) (ha : a < M.length) (x : Nat → Int) : sol p w (swp M d a) x ↔ sol p w M x := by
  constructor
  · intro h i hi
    by_cases e : i = d
    · subst e
      have := h a (by rw [swp_len]; exact ha)
      rwa [swp_at hd ha ha, if_pos rfl] at this
    · by_cases e2 : i = a
      · subst e2
        have := h d (by rw [swp_len]; exact hd)
        rw [swp_at hd ha hd, if_neg (fun h => e h.symm), if_pos rfl] at this
        exact this
      · have := h i (by rw [swp_len]; exact hi)
        rwa [swp_at hd ha hi, if_neg e2, if_neg e] at this
  · intro h i hi
    rw [swp_len] at hi
    rw [swp_at hd ha hi]
    split
    · exact h d hd
    · split
      · exact h a ha
      · exact h i hi
theorem sol_scl {p : Int} {w : Nat} {M : List (List Int)} (hw : ∀ i, i < M.length → (atR M i).length = w) {d j : Nat} (hd : d < M.length) (hu : unitP p (invZ (at0 (atR M d) j) p)) (x : Nat → Int) : sol p w (sclM p M d j) x ↔ sol p w M x := by
  have hrow : ∀ i, i < M.length → atR (sclM p M d j) i = if d = i then sclR p (invZ (at0 (atR M d) j) p) (atR M d) else atR M i := fun i hi => by
    unfold sclM
    rw [atR_set]
    by_cases e : d = i
    · rw [if_pos ⟨e, hi⟩, if_pos e]
    · rw [if_neg fun h => e h.1, if_neg e]
  have hc := rv_scl p (invZ (at0 (atR M d) j) p) (hw d hd) x
  constructor
  · intro h i hi
    have h1 := h i (by rw [sclM_len]; exact hi)
    rw [hrow i hi] at h1
    by_cases e : d = i
    · rw [if_pos e] at h1
      subst e
      exact unit_dvd hu ((dvd_cong hc).1 h1)
    · rwa [if_neg e] at h1
  · intro h i hi
    rw [sclM_len] at hi
    rw [hrow i hi]
    by_cases e : d = i
    · rw [if_pos e]
      subst e
      exact (dvd_cong hc).2 (Int.dvd_mul_of_dvd_right (h d hi))
    · rw [if_neg e]; exact h i hi
theorem sol_clr {p : Int} {w : Nat} {M : List (List Int)} (hw : ∀ i, i < M.length → (atR M i).length = w) {d j : Nat} (hd : d < M.length) (x : Nat → Int) : sol p w (clrM p M d j) x ↔ sol p w M x := by
  have hrow : ∀ i, i < M.length → atR (clrM p M d j) i = clrG p M d j i := fun i hi => by
    unfold clrM
    rw [pM_lt hi hi]
  constructor
  · intro h
    have hdd : p ∣ rv w (atR M d) x := by
      have := h d (by rw [clrM_len]; exact hd)
      rwa [hrow d hd, clrG_d] at this
    intro i hi
    by_cases e : i = d
    · rw [e]; exact hdd
    · have := h i (by rw [clrM_len]; exact hi)
      rw [hrow i hi, clrG_ne e] at this
      have h2 := (dvd_cong (rv_elim p (at0 (atR M i) j) (q := atR M d) (hw i hi) x)).1 this
      have h3 := Int.dvd_add h2 (Int.dvd_trans hdd (Int.dvd_mul_left (at0 (atR M i) j) _))
      rwa [show rv w (atR M i) x - at0 (atR M i) j * rv w (atR M d) x + at0 (atR M i) j * rv w (atR M d) x = rv w (atR M i) x by omega] at h3
  · intro h i hi
    rw [clrM_len] at hi
    rw [hrow i hi]
    by_cases e : i = d
    · rw [e, clrG_d]; exact h d hd
    · rw [clrG_ne e]
      exact (dvd_cong (rv_elim p (at0 (atR M i) j) (q := atR M d) (hw i hi) x)).2 (Int.dvd_sub (h i hi) (Int.dvd_mul_of_dvd_right (h d hd)))
theorem fndZ_hit2 {M : List (List Int)} {j : Nat} : ∀ (k i : Nat), (∀ q, i ≤ q → q < fndZ M j k i → at0 (atR M q) j = 0) ∧ (fndZ M j k i < i + k → at0 (atR M (fndZ M j k i)) j ≠ 0)
  | 0, i => ⟨fun q h1 h2 => by simp [fndZ] at h2; omega, fun h => by simp [fndZ] at h⟩
  | k + 1, i => by
    by_cases h : at0 (atR M i) j = 0
    · rw [fndZ_yes h]
      obtain ⟨h1, h2⟩ := fndZ_hit2 (M := M) (j := j) k (i + 1)
      refine ⟨fun q hq hq2 => ?_, fun hh => h2 (by omega)⟩
      by_cases e : q = i
      · rw [e]; exact h
      · exact h1 q (by omega) hq2
    · rw [fndZ_no h]
      exact ⟨fun q h1 h2 => by omega, fun _ => h⟩
theorem small_dvd {p a : Int} (h0 : 0 ≤ a) (hp : a < p) (hd : p ∣ a) : a = 0 := by
  have := Int.emod_eq_zero_of_dvd hd
  rwa [Int.emod_eq_of_lt h0 hp] at this
section piv
variable {p : Int} {w : Nat} {M : List (List Int)} {d a j : Nat}
theorem piv_d (hp : fpP p) (hM : okM p w M) (hd : d < M.length) (ha : a < M.length) : atR (pivM p M d a j) d = sclR p (invZ (at0 (atR M a) j) p) (atR M a) := by
  have hd2 : d < (sclM p (swp M d a) d j).length := by simpa using hd
  unfold pivM clrM
  rw [pM_lt hd2 hd2, clrG_d]
  unfold sclM
  rw [atR_set, if_pos ⟨rfl, by simpa using hd⟩]
  have e : atR (swp M d a) d = atR M a := by
    rw [swp_at hd ha hd]
    by_cases h : d = a
    · rw [if_pos h, h]
    · rw [if_neg h, if_pos rfl]
  rw [e]
theorem piv_i (hp : fpP p) (hM : okM p w M) (hd : d < M.length) (ha : a < M.length) {i : Nat} (hi : i < M.length) (hid : i ≠ d) : atR (pivM p M d a j) i = elimR p (at0 (if i = a then atR M d else atR M i) j) (if i = a then atR M d else atR M i) (sclR p (invZ (at0 (atR M a) j) p) (atR M a)) := by
  have hi2 : i < (sclM p (swp M d a) d j).length := by simpa using hi
  have hd2 : d < (sclM p (swp M d a) d j).length := by simpa using hd
  have e0 : atR (swp M d a) d = atR M a := by
    rw [swp_at hd ha hd]
    by_cases h : d = a
    · rw [if_pos h, h]
    · rw [if_neg h, if_pos rfl]
  have e1 : atR (sclM p (swp M d a) d j) d = sclR p (invZ (at0 (atR M a) j) p) (atR M a) := by
    unfold sclM
    rw [atR_set, if_pos ⟨rfl, by simpa using hd⟩, e0]
  have e2 : atR (sclM p (swp M d a) d j) i = if i = a then atR M d else atR M i := by
    unfold sclM
    rw [atR_set, if_neg fun h => hid h.1.symm, swp_at hd ha hi]
    by_cases h : i = a
    · rw [if_pos h, if_pos h]
    · rw [if_neg h, if_neg h, if_neg hid]
  unfold pivM clrM
  rw [pM_lt hi2 hi2, clrG_ne hid, e1, e2]
theorem scl_at {f : Int} {r : List Int} {k : Nat} (h : k < r.length) : at0 (sclR p f r) k = at0 r k * f % p := by
  unfold sclR
  rw [rowF_at h]
  rfl
theorem elim_at {c : Int} {r q : List Int} {k : Nat} (h : k < r.length) : at0 (elimR p c r q) k = (at0 r k - c * at0 q k) % p := by
  unfold elimR
  rw [rowF_at h]
  rfl
theorem piv_one (hp : fpP p) (hM : okM p w M) (hd : d < M.length) (ha : a < M.length) (hj : j < w) (hn : at0 (atR M a) j ≠ 0) : at0 (atR (pivM p M d a j) d) j = 1 := by
  obtain ⟨l1, l2⟩ := hM a ha
  have hna : ¬ p ∣ at0 (atR M a) j := fun h => hn (small_dvd (l2 j hj).1 (l2 j hj).2 h)
  have hu := inv_unit hp hna
  rw [piv_d hp hM hd ha, scl_at (by omega)]
  generalize at0 (atR M a) j * invZ (at0 (atR M a) j) p = v at *
  rcases hp with rfl | rfl | rfl <;> omega
theorem piv_col (hp : fpP p) (hM : okM p w M) (hd : d < M.length) (ha : a < M.length) (hj : j < w) (hn : at0 (atR M a) j ≠ 0) {i : Nat} (hi : i < M.length) (hid : i ≠ d) : at0 (atR (pivM p M d a j) i) j = 0 := by
  have h1 := piv_one hp hM hd ha hj hn
  rw [piv_d hp hM hd ha] at h1
  have hl : j < (if i = a then atR M d else atR M i).length := by
    split
    · rw [(hM d hd).1]; exact hj
    · rw [(hM i hi).1]; exact hj
  rw [piv_i hp hM hd ha hi hid, elim_at hl, h1, Int.mul_one, Int.sub_self, Int.zero_emod]
/-- A column that is 0 in the rows d and a stays as it is. -/
theorem piv_keep (hp : fpP p) (hM : okM p w M) (hd : d < M.length) (ha : a < M.length) {k : Nat} (hk : k < w) (h1 : at0 (atR M d) k = 0) (h2 : at0 (atR M a) k = 0) {i : Nat} (hi : i < M.length) : at0 (atR (pivM p M d a j) i) k = at0 (atR M i) k := by
  have e0 : at0 (sclR p (invZ (at0 (atR M a) j) p) (atR M a)) k = 0 := by rw [scl_at (by rw [(hM a ha).1]; exact hk), h2, Int.zero_mul, Int.zero_emod]
  by_cases hid : i = d
  · rw [hid, piv_d hp hM hd ha, e0, h1]
  · have hl : k < (if i = a then atR M d else atR M i).length := by
      split
      · rw [(hM d hd).1]; exact hk
      · rw [(hM i hi).1]; exact hk
    rw [piv_i hp hM hd ha hi hid, elim_at hl, e0, Int.mul_zero, Int.sub_zero]
    by_cases hia : i = a
    · rw [if_pos hia, hia, h1, h2, Int.zero_emod]
    · rw [if_neg hia]
      obtain ⟨_, l2⟩ := hM i hi
      exact Int.emod_eq_of_lt (l2 k hk).1 (l2 k hk).2
theorem sol_piv (hp : fpP p) (hM : okM p w M) (hd : d < M.length) (ha : a < M.length) (hj : j < w) (hn : at0 (atR M a) j ≠ 0) (x : Nat → Int) : sol p w (pivM p M d a j) x ↔ sol p w M x := by
  obtain ⟨l1, l2⟩ := hM a ha
  have hna : ¬ p ∣ at0 (atR M a) j := fun h => hn (small_dvd (l2 j hj).1 (l2 j hj).2 h)
  have hu := inv_unit hp hna
  have hs := okM_swp hM hd ha
  have e0 : atR (swp M d a) d = atR M a := by
    rw [swp_at hd ha hd]
    by_cases h : d = a
    · rw [if_pos h, h]
    · rw [if_neg h, if_pos rfl]
  unfold pivM
  rw [sol_clr (fun i hi => (okM_scl hp hs j (by simpa using hd) i hi).1) (by simpa using hd), sol_scl (fun i hi => (hs i hi).1) (by simpa using hd) ⟨at0 (atR M a) j, by rw [e0, Int.mul_comm]; exact hu⟩, sol_swp hd ha]
end piv
structure rrI (p : Int) (w : Nat) (M0 : List (List Int)) (j : Nat) (x : List (List Int) × List Int) : Prop where
  base : redI p w M0 j x
  sl : ∀ y, sol p w x.1 y ↔ sol p w M0 y
  one : ∀ q, q < x.2.length → at0 (atR x.1 q) (at0 x.2 q).toNat = 1
  zer : ∀ q, q < x.2.length → ∀ i, i < x.1.length → i ≠ q → at0 (atR x.1 i) (at0 x.2 q).toNat = 0
  low : ∀ i, x.2.length ≤ i → i < x.1.length → ∀ k, k < j → at0 (atR x.1 i) k = 0
theorem rrI_step {p : Int} {w : Nat} {M0 : List (List Int)} {j : Nat} {x : List (List Int) × List Int} (hp : fpP p) (hj : j < w) (h : rrI p w M0 j x) : rrI p w M0 (j + 1) (redC p j x) := by
  obtain ⟨M, P⟩ := x
  have hb := redI_step hp h.base
  have hok := h.base.ok
  have hjj := h.base.hj
  have hs := h.base.hs
  simp only at hok hjj hs
  obtain ⟨f1, f2⟩ := fndZ_hit2 (M := M) (j := j) (M.length - P.length) P.length
  by_cases hc : P.length < M.length ∧ fndZ M j (M.length - P.length) P.length < M.length
  · have e := redC_yes (p := p) (M := M) (P := P) rfl hc.1 hc.2
    obtain ⟨a, ha⟩ : ∃ a, fndZ M j (M.length - P.length) P.length = a := ⟨_, rfl⟩
    have hab := fndZ_bnd M j (M.length - P.length) P.length
    rw [ha] at e f2 hc hab
    have hn : at0 (atR M a) j ≠ 0 := f2 (by omega)
    rw [e] at hb ⊢
    have hlow := h.low
    have hz := h.zer
    have h1 := h.one
    simp only at hlow hz h1
    have hPw : ∀ q, q < P.length → (at0 P q).toNat < j := fun q hq => by have := hjj q hq; omega
    have keep : ∀ k, k < j → ∀ i, i < M.length → at0 (atR (pivM p M P.length a j) i) k = at0 (atR M i) k := fun k hk i hi =>
      piv_keep hp hok hc.1 hc.2 (by omega) (hlow P.length (Nat.le_refl _) hc.1 k hk) (hlow a hab.1 hc.2 k hk) hi
    refine ⟨hb, fun y => ?_, fun q hq => ?_, fun q hq i hi hne => ?_, fun i h2 hi k hk => ?_⟩
    · simp only
      rw [sol_piv hp hok hc.1 hc.2 hj hn]
      exact h.sl y
    · simp only [List.length_append, List.length_singleton] at hq
      simp only
      rw [at0_app]
      split
      · rename_i hqp
        rw [keep _ (hPw q hqp) q (by omega)]
        exact h1 q hqp
      · have hqe : q = P.length := by omega
        rw [hqe, Nat.sub_self]
        show at0 (atR (pivM p M P.length a j) P.length) ((j : Int)).toNat = 1
        rw [Int.toNat_natCast]
        exact piv_one hp hok hc.1 hc.2 hj hn
    · simp only [List.length_append, List.length_singleton] at hq
      simp only [pivM_len] at hi
      simp only
      rw [at0_app]
      split
      · rename_i hqp
        rw [keep _ (hPw q hqp) i hi]
        exact hz q hqp i hi hne
      · have hqe : q = P.length := by omega
        rw [hqe, Nat.sub_self]
        show at0 (atR (pivM p M P.length a j) i) ((j : Int)).toNat = 0
        rw [Int.toNat_natCast]
        exact piv_col hp hok hc.1 hc.2 hj hn hi (by omega)
    · simp only [List.length_append, List.length_singleton] at h2
      simp only [pivM_len] at hi
      simp only
      by_cases hkj : k = j
      · rw [hkj]
        exact piv_col hp hok hc.1 hc.2 hj hn hi (by omega)
      · rw [keep k (by omega) i hi]
        exact hlow i (by omega) hi k (by omega)
  · rw [redC_no hc] at hb ⊢
    refine ⟨hb, h.sl, h.one, h.zer, fun i h2 hi k hk => ?_⟩
    by_cases hkj : k = j
    · simp only at h2 hi
      rw [hkj]
      have : ¬ fndZ M j (M.length - P.length) P.length < M.length := fun hh => hc ⟨by omega, hh⟩
      exact f1 i h2 (by omega)
    · exact h.low i h2 hi k (by omega)
theorem rrI_all {p : Int} {w : Nat} {M0 : List (List Int)} (hp : fpP p) (h : okM p w M0) : ∀ j, j ≤ w → rrI p w M0 j (redS p M0 j)
  | 0, _ => ⟨redI_all hp h 0, fun _ => Iff.rfl, fun q hq => by simp [redS] at hq, fun q hq => by simp [redS] at hq, fun i _ _ k hk => by omega⟩
  | j + 1, hj => rrI_step hp (by omega) (rrI_all hp h j (by omega))
/-- The number of pivots. -/
noncomputable def rkW (p : Int) (w : Nat) (M : List (List Int)) : Nat := (redS p M w).2.length
theorem rv_pick {m w : Nat} (r : List Int) (J : Nat → Nat) (hJ : ∀ j, j < m → J j < w) (x : Nat → Int) : rv w r (fun k => sumN m fun j => bI (J j = k) * x j) = sumN m fun j => at0 r (J j) * x j := by
  unfold rv
  have e : (sumN w fun k => at0 r k * sumN m fun j => bI (J j = k) * x j) = sumN w fun k => sumN m fun j => bI (J j = k) * (at0 r (J j) * x j) := sumN_congr fun k hk => by
    rw [← sumN_mul]
    refine sumN_congr fun j hj => ?_
    by_cases h : J j = k
    · rw [bI_yes h, h, Int.one_mul, Int.one_mul]
    · rw [bI_no h]; simp
  rw [e, sumN_swap]
  refine sumN_congr fun j hj => ?_
  rw [sumN_mulR]
  have : (sumN w fun k => bI (J j = k)) = 1 := by
    have h1 : ∀ n, (sumN n fun k => bI (J j = k)) = bI (J j < n) := fun n => by
      induction n with
      | zero => rw [bI_no (by omega)]; rfl
      | succ n ih =>
        rw [sumN, ih]
        by_cases a : J j < n
        · rw [bI_yes a, bI_no (by omega), bI_yes (by omega)]; rfl
        · by_cases b : J j = n
          · rw [bI_no a, bI_yes b, bI_yes (by omega)]; rfl
          · rw [bI_no a, bI_no b, bI_no (by omega)]; rfl
    rw [h1, bI_yes (hJ j hj)]
  rw [this, Int.one_mul]
/-- A triangle of units within a matrix bounds its rank from below. -/
theorem rank_low {p : Int} {w : Nat} {M : List (List Int)} (hp : fpP p) (hM : okM p w M) {m : Nat} (I J : Nat → Nat) (hI : ∀ i, i < m → I i < M.length) (hJ : ∀ j, j < m → J j < w)
    (hd : ∀ i, i < m → ∀ x, p ∣ at0 (atR M (I i)) (J i) * x → p ∣ x) (ht : ∀ i j, i < j → j < m → p ∣ at0 (atR M (I i)) (J j)) : m ≤ rkW p w M := by
  have hr := rrI_all hp hM w (Nat.le_refl _)
  refine Nat.le_of_not_lt fun hlt => ?_
  obtain ⟨x, ⟨j0, hj0, hx0⟩, hx⟩ := homog (field_fp hp) (rkW p w M) m (fun i j => at0 (atR (redS p M w).1 i) (J j)) hlt
  have hsol : sol p w (redS p M w).1 (fun k => sumN m fun j => bI (J j = k) * x j) := fun i hi => by
    rw [rv_pick _ J hJ x]
    by_cases h : i < rkW p w M
    · exact hx i h
    · refine sumN_dvd fun j hj => ?_
      rw [hr.low i (by unfold rkW at h; omega) hi (J j) (hJ j hj), Int.zero_mul]
      exact Int.dvd_zero p
  have hs := (hr.sl _).1 hsol
  refine hx0 (triang (A := fun i j => at0 (atR M (I i)) (J j)) hd ht (fun i hi => ?_) j0 hj0)
  have := hs (I i) (hI i hi)
  rwa [rv_pick _ J hJ x] at this
end Go.Proofs.Ytmemomfffehnkaa
namespace Go.Proofs.Ytmemomfffehnkaa
open Go Go.RowKit
set_option maxRecDepth 1000000
set_option linter.unusedSimpArgs false
set_option linter.unusedVariables false
set_option maxHeartbeats 1000000
/-- A matrix whose entries beside the diagonal go up a height has no solution but 0. -/
theorem triangH {p : Int} {m : Nat} {A : Nat → Nat → Int} (h : Nat → Nat) (hd : ∀ i, i < m → ∀ x, p ∣ A i i * x → p ∣ x) (ht : ∀ i j, i < m → j < m → i ≠ j → ¬ p ∣ A i j → h j < h i) {x : Nat → Int} (hx : ∀ i, i < m → p ∣ sumN m fun j => A i j * x j) : ∀ j, j < m → p ∣ x j := by
  have key : ∀ k, ∀ j, j < m → h j < k → p ∣ x j := by
    intro k
    induction k with
    | zero => intro j _ hj; omega
    | succ k ih =>
      intro j hj hk
      have h1 := hx j hj
      obtain ⟨m', rfl⟩ : ∃ m', m = m' + 1 := ⟨m - 1, by omega⟩
      rw [sumN_skip _ m' j (by omega)] at h1
      have h2 : p ∣ sumN m' fun q => A j (skipN j q) * x (skipN j q) := sumN_dvd fun q hq => by
        have hs : skipN j q < m' + 1 ∧ skipN j q ≠ j := by unfold skipN; split <;> omega
        by_cases hA : p ∣ A j (skipN j q)
        · exact Int.dvd_mul_of_dvd_left hA
        · exact Int.dvd_mul_of_dvd_right (ih _ hs.1 (by have := ht j _ hj hs.1 (fun e => hs.2 e.symm) hA; omega))
      exact hd j hj _ ((Int.dvd_add_left h2).1 h1)
  exact fun j hj => key (h j + 1) j hj (by omega)
theorem rank_lowH {p : Int} {w : Nat} {M : List (List Int)} (hp : fpP p) (hM : okM p w M) {m : Nat} (I J h : Nat → Nat) (hI : ∀ i, i < m → I i < M.length) (hJ : ∀ j, j < m → J j < w)
    (hd : ∀ i, i < m → ∀ x, p ∣ at0 (atR M (I i)) (J i) * x → p ∣ x) (ht : ∀ i j, i < m → j < m → i ≠ j → ¬ p ∣ at0 (atR M (I i)) (J j) → h j < h i) : m ≤ rkW p w M := by
  have hr := rrI_all hp hM w (Nat.le_refl _)
  refine Nat.le_of_not_lt fun hlt => ?_
  obtain ⟨x, ⟨j0, hj0, hx0⟩, hx⟩ := homog (field_fp hp) (rkW p w M) m (fun i j => at0 (atR (redS p M w).1 i) (J j)) hlt
  have hsol : sol p w (redS p M w).1 (fun k => sumN m fun j => bI (J j = k) * x j) := fun i hi => by
    rw [rv_pick _ J hJ x]
    by_cases h : i < rkW p w M
    · exact hx i h
    · refine sumN_dvd fun j hj => ?_
      rw [hr.low i (by unfold rkW at h; omega) hi (J j) (hJ j hj), Int.zero_mul]
      exact Int.dvd_zero p
  have hs := (hr.sl _).1 hsol
  refine hx0 (triangH (A := fun i j => at0 (atR M (I i)) (J j)) h hd ht (fun i hi => ?_) j0 hj0)
  have := hs (I i) (hI i hi)
  rwa [rv_pick _ J hJ x] at this
theorem sumN_le {f g : Nat → Int} : ∀ {n : Nat}, (∀ k, k < n → f k ≤ g k) → sumN n f ≤ sumN n g
  | 0, _ => Int.le_refl _
  | n + 1, h => by
    have h1 := sumN_le fun k (hk : k < n) => h k (by omega)
    have h2 := h n (by omega)
    rw [sumN, sumN]
    omega
theorem sumN_lt {f g : Nat → Int} {i : Nat} : ∀ {n : Nat}, (∀ k, k < n → f k ≤ g k) → i < n → f i < g i → sumN n f < sumN n g
  | 0, _, hi, _ => by omega
  | n + 1, h, hi, hl => by
    rw [sumN, sumN]
    by_cases e : i = n
    · subst e
      have := sumN_le fun k (hk : k < i) => h k (by omega)
      omega
    · have h1 := sumN_lt (fun k (hk : k < n) => h k (by omega)) (by omega : i < n) hl
      have h2 := h n (by omega)
      omega
theorem bI_nn (p : Prop) : 0 ≤ bI p ∧ bI p ≤ 1 := by
  by_cases h : p
  · rw [bI_yes h]; omega
  · rw [bI_no h]; omega
theorem bI_le {p q : Prop} (h : p → q) : bI p ≤ bI q := by
  by_cases hp : p
  · rw [bI_yes hp, bI_yes (h hp)]; omega
  · rw [bI_no hp]; exact (bI_nn q).1
theorem sumN_nn {f : Nat → Int} {n : Nat} (h : ∀ k, k < n → 0 ≤ f k) : 0 ≤ sumN n f := by
  have := sumN_le (f := fun _ => 0) (g := f) h
  rwa [sumN_zero fun _ _ => rfl] at this
end Go.Proofs.Ytmemomfffehnkaa
