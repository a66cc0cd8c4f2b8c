import Derived.Test.YtmemomfffehnkaaPJ
import Derived.Test.YtmemomfffehnkaaPF
import Derived.Test.YtmemomfffehnkaaPK
namespace Go.Proofs.Ytmemomfffehnkaa
open Go Go.RowKit
set_option maxRecDepth 1000000
set_option linter.unusedSimpArgs false
set_option linter.unusedVariables false
set_option maxHeartbeats 1000000
open Classical in
noncomputable def bI (p : Prop) : Int := if p then 1 else 0
theorem bI_yes {p : Prop} (h : p) : bI p = 1 := if_pos h
theorem bI_no {p : Prop} (h : ¬ p) : bI p = 0 := if_neg h
theorem bI_congr {p q : Prop} (h : p ↔ q) : bI p = bI q := by rw [propext h]
def sumN : Nat → (Nat → Int) → Int
  | 0, _ => 0
  | n + 1, f => sumN n f + f n
theorem sumN_congr {f g : Nat → Int} : ∀ {n : Nat}, (∀ k, k < n → f k = g k) → sumN n f = sumN n g
  | 0, _ => rfl
  | n + 1, h => by rw [sumN, sumN, sumN_congr fun k hk => h k (by omega), h n (by omega)]
theorem sumN_zero {f : Nat → Int} {n : Nat} (h : ∀ k, k < n → f k = 0) : sumN n f = 0 := by
  induction n with
  | zero => rfl
  | succ n ih => rw [sumN, ih fun k hk => h k (by omega), h n (by omega)]; rfl
theorem sumN_add (f g : Nat → Int) : ∀ n, sumN n (fun k => f k + g k) = sumN n f + sumN n g
  | 0 => rfl
  | n + 1 => by rw [sumN, sumN, sumN, sumN_add f g n]; omega
theorem sumN_mul (a : Int) (f : Nat → Int) : ∀ n, sumN n (fun k => a * f k) = a * sumN n f
  | 0 => by simp [sumN]
  | n + 1 => by rw [sumN, sumN, sumN_mul a f n, Int.mul_add]
theorem sumN_mulR (a : Int) (f : Nat → Int) (n : Nat) : sumN n (fun k => f k * a) = sumN n f * a := by
  rw [Int.mul_comm, ← sumN_mul]
  exact sumN_congr fun k _ => Int.mul_comm _ _
theorem sumN_swap (f : Nat → Nat → Int) (m : Nat) : ∀ n, sumN n (fun i => sumN m (f i)) = sumN m fun j => sumN n fun i => f i j
  | 0 => (sumN_zero fun _ _ => rfl).symm
  | n + 1 => by
    rw [sumN, sumN_swap f m n]
    have : (fun j => sumN (n + 1) fun i => f i j) = fun j => (sumN n fun i => f i j) + f n j := rfl
    rw [this, sumN_add]
theorem sumN_filter (p : Nat → Bool) : ∀ n, (((List.range n).filter p).length : Int) = sumN n fun u => bI (p u = true)
  | 0 => rfl
  | n + 1 => by
    rw [List.range_succ, List.filter_append, List.length_append, sumN, ← sumN_filter p n]
    by_cases h : p n = true
    · rw [bI_yes h]; simp [h]
    · rw [bI_no h]; simp [h]
theorem subS_natI {x y : Nat} (hx : x < 64) (hy : y < 64) : subS (x : Int) (y : Int) ↔ x &&& y = x := by
  have h1 := subS_iff' (a := (x : Int)) (b := (y : Int)) ⟨by omega, by omega⟩ ⟨by omega, by omega⟩
  rw [h1]
  show bitop .and .i64 (y : Int) (x : Int) = (x : Int) ↔ _
  rw [bits_and y x (by omega) (by omega), Nat.and_comm]
  omega
theorem sz_nat {x : Nat} (hx : x < 64) : sz (x : Int) = (pcF 6 x : Nat) := by
  rw [sz, Int.toNat_natCast, pc6 x hx]
end Go.Proofs.Ytmemomfffehnkaa
namespace Go.Proofs.Ytmemomfffehnkaa
open Go Go.RowKit
set_option maxRecDepth 1000000
set_option linter.unusedSimpArgs false
set_option linter.unusedVariables false
set_option maxHeartbeats 1000000
end Go.Proofs.Ytmemomfffehnkaa
namespace Go.Proofs.Ytmemomfffehnkaa
open Go Go.RowKit
set_option maxRecDepth 1000000
set_option linter.unusedSimpArgs false
set_option linter.unusedVariables false
set_option maxHeartbeats 1000000
theorem sumN_one {w : Int → Int} {a : Nat} : ∀ n, (sumN n fun u => bI ((u : Int) = (a : Int)) * w u) = if a < n then w a else 0
  | 0 => by simp [sumN]
  | n + 1 => by
    rw [sumN, sumN_one n]
    by_cases h : a < n
    · rw [if_pos h, if_pos (by omega), bI_no (by omega)]; omega
    · by_cases h2 : a = n
      · subst h2
        rw [if_neg h, if_pos (by omega), bI_yes rfl]; omega
      · rw [if_neg h, if_neg (by omega), bI_no (by omega)]; omega
theorem sumN_front (f : Nat → Int) : ∀ n, sumN (n + 1) f = f 0 + sumN n fun k => f (k + 1)
  | 0 => by simp [sumN]
  | n + 1 => by
    rw [sumN, sumN_front f n, sumN]
    omega
/-- A sum over a row. -/
def sumL (U : List Int) (w : Int → Int) : Int := sumN U.length fun k => w (at0 U k)
theorem sumL_nil (w : Int → Int) : sumL [] w = 0 := rfl
theorem sumL_cons (a : Int) (U : List Int) (w : Int → Int) : sumL (a :: U) w = w a + sumL U w := by
  unfold sumL
  rw [List.length_cons, sumN_front]
  rfl
/-- A sum over sets that are all different, as a sum over all numbers. -/
theorem sumL_mem (w : Int → Int) : ∀ {U : List Int}, U.Nodup → allS U → (sumN 64 fun u => bI ((u : Int) ∈ U) * w u) = sumL U w
  | [], _, _ => by
    rw [sumL_nil]
    exact sumN_zero fun k _ => by rw [bI_no (by simp)]; omega
  | a :: U, hn, hS => by
    rw [List.nodup_cons] at hn
    have ih := sumL_mem w hn.2 fun x hx => hS x (List.mem_cons_of_mem _ hx)
    rw [sumL_cons, ← ih]
    obtain ⟨x, hx, rfl⟩ := isS_nat0 (hS a (List.mem_cons_self ..))
    have e : (sumN 64 fun u => bI ((u : Int) ∈ (x : Int) :: U) * w u) = sumN 64 fun u => bI ((u : Int) = (x : Int)) * w u + bI ((u : Int) ∈ U) * w u := sumN_congr fun u hu => by
      by_cases h : (u : Int) = (x : Int)
      · rw [bI_yes h, bI_yes (by rw [h]; exact List.mem_cons_self ..), bI_no (by rw [h]; exact hn.1)]; omega
      · rw [bI_no h]
        by_cases h2 : (u : Int) ∈ U
        · rw [bI_yes h2, bI_yes (List.mem_cons_of_mem _ h2)]; omega
        · rw [bI_no h2, bI_no (fun hh => (List.mem_cons.1 hh).elim h h2)]; omega
    rw [e, sumN_add, sumN_one, if_pos hx]
/-- What is in a family is in one of two parts. -/
theorem sumL_split {F N U : List Int} (hF : F.Nodup ∧ allS F) (hN : N.Nodup ∧ allS N) (hU : U.Nodup ∧ allS U) (h : ∀ s, s ∈ F ↔ s ∈ N ∨ s ∈ U) (hd : ∀ s, s ∈ N → s ∈ U → False) (w : Int → Int) : sumL F w = sumL N w + sumL U w := by
  rw [← sumL_mem w hF.1 hF.2, ← sumL_mem w hN.1 hN.2, ← sumL_mem w hU.1 hU.2, ← sumN_add]
  refine sumN_congr fun u _ => ?_
  by_cases h1 : (u : Int) ∈ N
  · rw [bI_yes ((h _).2 (.inl h1)), bI_yes h1, bI_no fun h2 => hd _ h1 h2]; omega
  · by_cases h2 : (u : Int) ∈ U
    · rw [bI_yes ((h _).2 (.inr h2)), bI_yes h2, bI_no h1]; omega
    · rw [bI_no fun hh => ((h _).1 hh).elim h1 h2, bI_no h1, bI_no h2]; omega
theorem sumL_congr {U : List Int} {w v : Int → Int} (h : ∀ s ∈ U, w s = v s) : sumL U w = sumL U v := sumN_congr fun k hk => h _ (getD_mem' hk)
theorem sumL_len (U : List Int) : sumL U (fun _ => 1) = U.length := by
  induction U with
  | nil => rfl
  | cons a U ih => rw [sumL_cons, ih, List.length_cons]; omega
end Go.Proofs.Ytmemomfffehnkaa
namespace Go.Proofs.Ytmemomfffehnkaa
open Go Go.RowKit
set_option maxRecDepth 1000000
set_option linter.unusedSimpArgs false
set_option linter.unusedVariables false
set_option maxHeartbeats 1000000
/-- The places but one. -/
def skipN (a j : Nat) : Nat := if j < a then j else j + 1
theorem sumN_skip (f : Nat → Int) : ∀ m a : Nat, a ≤ m → sumN (m + 1) f = f a + sumN m fun j => f (skipN a j)
  | 0, a, h => by
    have : a = 0 := by omega
    subst this
    simp [sumN]
  | m + 1, a, h => by
    by_cases e : a = m + 1
    · subst e
      rw [sumN]
      have : (sumN (m + 1) fun j => f (skipN (m + 1) j)) = sumN (m + 1) f := sumN_congr fun j hj => by simp [skipN, show j < m + 1 from hj]
      rw [this]
      omega
    · rw [sumN, sumN_skip f m a (by omega)]
      have : (sumN (m + 1) fun j => f (skipN a j)) = (sumN m fun j => f (skipN a j)) + f (skipN a m) := rfl
      rw [this]
      have e2 : skipN a m = m + 1 := by unfold skipN; rw [if_neg (by omega)]
      rw [e2]
      omega
theorem sumN_dvd {p : Int} {f : Nat → Int} : ∀ {n : Nat}, (∀ k, k < n → p ∣ f k) → p ∣ sumN n f
  | 0, _ => ⟨0, by simp [sumN]⟩
  | n + 1, h => by
    rw [sumN]
    exact Int.dvd_add (sumN_dvd fun k hk => h k (by omega)) (h n (by omega))
theorem sumN_neg (f : Nat → Int) (n : Nat) : sumN n (fun k => -(f k)) = -(sumN n f) := by
  have := sumN_mul (-1) f n
  rw [show (fun k => -1 * f k) = fun k => -(f k) from funext fun k => by omega] at this
  rw [this]; omega
theorem sumN_sub (f g : Nat → Int) (n : Nat) : sumN n (fun k => f k - g k) = sumN n f - sumN n g := by
  have : (fun k => f k - g k) = fun k => f k + -(g k) := funext fun k => by omega
  rw [this, sumN_add, sumN_neg]; omega
/-- A number that has an inverse. -/
def unitP (p a : Int) : Prop := ∃ b, p ∣ a * b - 1
def fieldP (p : Int) : Prop := ¬ p ∣ 1 ∧ ∀ a, ¬ p ∣ a → unitP p a
/-- Fewer equations than unknowns: there is a solution other than 0. -/
theorem homog {p : Int} (hp : fieldP p) : ∀ (t m : Nat) (A : Nat → Nat → Int), t < m → ∃ x : Nat → Int, (∃ j, j < m ∧ ¬ p ∣ x j) ∧ ∀ i, i < t → p ∣ sumN m fun j => A i j * x j
  | 0, m, A, h => ⟨fun _ => 1, ⟨0, h, hp.1⟩, fun i hi => absurd hi (Nat.not_lt_zero _)⟩
  | t + 1, m, A, h => by
    by_cases hz : ∀ j, j < m → p ∣ A t j
    · obtain ⟨x, h1, h2⟩ := homog hp t m A (by omega)
      refine ⟨x, h1, fun i hi => ?_⟩
      by_cases e : i = t
      · subst e
        exact sumN_dvd fun j hj => Int.dvd_mul_of_dvd_left (hz j hj)
      · exact h2 i (by omega)
    · obtain ⟨a, ha⟩ := Classical.not_forall.1 hz
      obtain ⟨ham, hna⟩ := Classical.not_imp.1 ha
      obtain ⟨b, hb⟩ := hp.2 _ hna
      obtain ⟨m', rfl⟩ : ∃ m', m = m' + 1 := ⟨m - 1, by omega⟩
      obtain ⟨x, ⟨j0, hj0, hx0⟩, h2⟩ := homog hp t m' (fun i j => A i (skipN a j) - A i a * b * A t (skipN a j)) (by omega)
      obtain ⟨S, hS⟩ : ∃ S, (sumN m' fun j => A t (skipN a j) * x j) = S := ⟨_, rfl⟩
      let y : Nat → Int := fun k => if k = a then -(b * S) else if k < a then x k else x (k - 1)
      have hya : y a = -(b * S) := if_pos rfl
      have hys : ∀ j, y (skipN a j) = x j := fun j => by
        show (if skipN a j = a then -(b * S) else if skipN a j < a then x (skipN a j) else x (skipN a j - 1)) = x j
        unfold skipN
        by_cases hja : j < a
        · rw [if_pos hja, if_neg (by omega), if_pos hja]
        · rw [if_neg hja, if_neg (by omega), if_neg (by omega), Nat.add_sub_cancel]
      refine ⟨y, ⟨skipN a j0, ?_, by rw [hys]; exact hx0⟩, fun i hi => ?_⟩
      · unfold skipN; split <;> omega
      · rw [sumN_skip _ m' a (by omega), hya]
        have e1 : (sumN m' fun j => A i (skipN a j) * y (skipN a j)) = sumN m' fun j => A i (skipN a j) * x j := sumN_congr fun j _ => by rw [hys]
        rw [e1]
        by_cases e : i = t
        · subst e
          rw [hS]
          have : A i a * -(b * S) + S = -((A i a * b - 1) * S) := by
            rw [Int.sub_mul, Int.mul_neg, Int.mul_assoc]; omega
          rw [this]
          exact (Int.dvd_neg).2 (Int.dvd_mul_of_dvd_left hb)
        · have h3 := h2 i (by omega)
          have e2 : (sumN m' fun j => (A i (skipN a j) - A i a * b * A t (skipN a j)) * x j) = A i a * -(b * S) + sumN m' fun j => A i (skipN a j) * x j := by
            have e3 : (fun j => (A i (skipN a j) - A i a * b * A t (skipN a j)) * x j) = fun j => A i (skipN a j) * x j - A i a * b * (A t (skipN a j) * x j) := funext fun j => by
              rw [Int.sub_mul, Int.mul_assoc (A i a * b)]
            rw [e3, sumN_sub, sumN_mul, hS, Int.mul_neg, ← Int.mul_assoc]
            omega
          rw [← e2]
          exact h3
theorem field_fp {p : Int} (hp : fpP p) : fieldP p := by
  refine ⟨by rcases hp with rfl | rfl | rfl <;> omega, fun a ha => ?_⟩
  rcases hp with rfl | rfl | rfl
  · exact ⟨1, by omega⟩
  · by_cases h : a % 3 = 1
    · exact ⟨1, by omega⟩
    · exact ⟨2, by omega⟩
  · by_cases h1 : a % 5 = 1
    · exact ⟨1, by omega⟩
    · by_cases h2 : a % 5 = 2
      · exact ⟨3, by omega⟩
      · by_cases h3 : a % 5 = 3
        · exact ⟨2, by omega⟩
        · exact ⟨4, by omega⟩
theorem inv_unit {p a : Int} (hp : fpP p) (ha : ¬ p ∣ a) : p ∣ a * invZ a p - 1 := by
  obtain ⟨b, hb⟩ := (field_fp hp).2 a ha
  rcases invZ_spec a p with ⟨_, h⟩ | ⟨m, e, m1, m2, m3, _⟩
  · exfalso
    have hc : ∀ c : Nat, 1 ≤ c → (c : Int) < p → (a % p * c) % p ≠ 1 := h
    rcases hp with rfl | rfl | rfl
    · have := hc 1 (by omega) (by omega); omega
    · have := hc 1 (by omega) (by omega)
      have := hc 2 (by omega) (by omega); omega
    · have hr : a % 5 = 1 ∨ a % 5 = 2 ∨ a % 5 = 3 ∨ a % 5 = 4 := by omega
      rcases hr with hr | hr | hr | hr
      · exact hc 1 (by omega) (by omega) (by rw [hr]; rfl)
      · exact hc 3 (by omega) (by omega) (by rw [hr]; rfl)
      · exact hc 2 (by omega) (by omega) (by rw [hr]; rfl)
      · exact hc 4 (by omega) (by omega) (by rw [hr]; rfl)
  · rw [e]
    have h4 : m = 1 ∨ m = 2 ∨ m = 3 ∨ m = 4 := by rcases hp with rfl | rfl | rfl <;> omega
    rcases hp with rfl | rfl | rfl <;> rcases h4 with rfl | rfl | rfl | rfl <;> omega
theorem sumN_cong {p : Int} {f g : Nat → Int} {n : Nat} (h : ∀ k, k < n → p ∣ f k - g k) : p ∣ sumN n f - sumN n g := by
  rw [← sumN_sub]
  exact sumN_dvd h
/-- A row, applied to numbers. -/
def rv (w : Nat) (r : List Int) (x : Nat → Int) : Int := sumN w fun j => at0 r j * x j
def sol (p : Int) (w : Nat) (M : List (List Int)) (x : Nat → Int) : Prop := ∀ i, i < M.length → p ∣ rv w (atR M i) x
theorem mod_sub (a p : Int) : p ∣ a % p - a := ⟨-(a / p), by have := Int.emod_add_mul_ediv a p; rw [Int.mul_neg]; omega⟩
theorem rv_scl (p f : Int) {w : Nat} {r : List Int} (hr : r.length = w) (x : Nat → Int) : p ∣ rv w (sclR p f r) x - f * rv w r x := by
  unfold rv
  rw [← sumN_mul]
  refine sumN_cong fun k hk => ?_
  have e : at0 (sclR p f r) k = at0 r k * f % p := by
    unfold sclR
    rw [rowF_at (by omega)]
    rfl
  rw [e]
  have : at0 r k * f % p * x k - f * (at0 r k * x k) = (at0 r k * f % p - at0 r k * f) * x k := by
    rw [Int.sub_mul, Int.mul_comm f, Int.mul_right_comm]
  rw [this]
  exact Int.dvd_mul_of_dvd_left (mod_sub _ _)
theorem rv_elim (p c : Int) {w : Nat} {r q : List Int} (hr : r.length = w) (x : Nat → Int) : p ∣ rv w (elimR p c r q) x - (rv w r x - c * rv w q x) := by
  unfold rv
  rw [← sumN_mul, ← sumN_sub]
  refine sumN_cong fun k hk => ?_
  have e : at0 (elimR p c r q) k = (at0 r k - c * at0 q k) % p := by
    unfold elimR
    rw [rowF_at (by omega)]
    rfl
  rw [e]
  have : (at0 r k - c * at0 q k) % p * x k - (at0 r k * x k - c * (at0 q k * x k)) = ((at0 r k - c * at0 q k) % p - (at0 r k - c * at0 q k)) * x k := by
    rw [Int.sub_mul, Int.sub_mul, Int.mul_assoc]
  rw [this]
  exact Int.dvd_mul_of_dvd_left (mod_sub _ _)
theorem dvd_cong {p a b : Int} (h : p ∣ a - b) : p ∣ a ↔ p ∣ b := by
  constructor
  · intro ha
    have := Int.dvd_sub ha h
    rwa [show a - (a - b) = b by omega] at this
  · intro hb
    have := Int.dvd_add h hb
    rwa [show a - b + b = a by omega] at this
theorem unit_dvd {p f a : Int} (h : unitP p f) (hd : p ∣ f * a) : p ∣ a := by
  obtain ⟨b, hb⟩ := h
  have h1 : p ∣ b * (f * a) := Int.dvd_mul_of_dvd_right hd
  have h2 : p ∣ (f * b - 1) * a := Int.dvd_mul_of_dvd_left hb
  have h3 := Int.dvd_sub h1 h2
  have : b * (f * a) - (f * b - 1) * a = a := by
    rw [Int.sub_mul, ← Int.mul_assoc, Int.mul_comm b f]; omega
  rwa [this] at h3
theorem sol_swp {p : Int} {w : Nat} {M : List (List Int)} {d a : Nat} (hd : d < M.length) (ha : a < M.length) (x : Nat → Int) : sol p w (swp M d a) x ↔ sol p w M x := by
  constructor
  · intro h i hi
    by_cases e : i = d
    · subst e
      have := h a (by rw [swp_len]; exact ha)
      rwa [swp_at hd ha ha, if_pos rfl] at this
    · by_cases e2 : i = a
      · subst e2
        have := h d (by rw [swp_len]; exact hd)
        rw [swp_at hd ha hd, if_neg (fun h => e h.symm), if_pos rfl] at this
        exact this
      · have := h i (by rw [swp_len]; exact hi)
        rwa [swp_at hd ha hi, if_neg e2, if_neg e] at this
  · intro h i hi
    rw [swp_len] at hi
    rw [swp_at hd ha hi]
    split
    · exact h d hd
    · split
      · exact h a ha
      · exact h i hi
theorem sol_scl {p : Int} {w : Nat} {M : List (List Int)} (hw : ∀ i, i < M.length → (atR M i).length = w) {d j : Nat} (hd : d < M.length) (hu : unitP p (invZ (at0 (atR M d) j) p)) (x : Nat → Int) : sol p w (sclM p M d j) x ↔ sol p w M x := by
  have hrow : ∀ i, i < M.length → atR (sclM p M d j) i = if d = i then sclR p (invZ (at0 (atR M d) j) p) (atR M d) else atR M i := fun i hi => by
    unfold sclM
    rw [atR_set]
    by_cases e : d = i
    · rw [if_pos ⟨e, hi⟩, if_pos e]
    · rw [if_neg fun h => e h.1, if_neg e]
  have hc := rv_scl p (invZ (at0 (atR M d) j) p) (hw d hd) x
  constructor
  · intro h i hi
    have h1 := h i (by rw [sclM_len]; exact hi)
    rw [hrow i hi] at h1
    by_cases e : d = i
    · rw [if_pos e] at h1
      subst e
      exact unit_dvd hu ((dvd_cong hc).1 h1)
    · rwa [if_neg e] at h1
  · intro h i hi
    rw [sclM_len] at hi
    rw [hrow i hi]
    by_cases e : d = i
    · rw [if_pos e]
      subst e
      exact (dvd_cong hc).2 (Int.dvd_mul_of_dvd_right (h d hi))
    · rw [if_neg e]; exact h i hi
theorem sol_clr {p : Int} {w : Nat} {M : List (List Int)} (hw : ∀ i, i < M.length → (atR M i).length = w) {d j : Nat} (hd : d < M.length) (x : Nat → Int) : sol p w (clrM p M d j) x ↔ sol p w M x := by
  have hrow : ∀ i, i < M.length → atR (clrM p M d j) i = clrG p M d j i := fun i hi => by
    unfold clrM
    rw [pM_lt hi hi]
  constructor
  · intro h
    have hdd : p ∣ rv w (atR M d) x := by
      have := h d (by rw [clrM_len]; exact hd)
      rwa [hrow d hd, clrG_d] at this
    intro i hi
    by_cases e : i = d
    · rw [e]; exact hdd
    · have := h i (by rw [clrM_len]; exact hi)
      rw [hrow i hi, clrG_ne e] at this
      have h2 := (dvd_cong (rv_elim p (at0 (atR M i) j) (q := atR M d) (hw i hi) x)).1 this
      have h3 := Int.dvd_add h2 (Int.dvd_trans hdd (Int.dvd_mul_left (at0 (atR M i) j) _))
      rwa [show rv w (atR M i) x - at0 (atR M i) j * rv w (atR M d) x + at0 (atR M i) j * rv w (atR M d) x = rv w (atR M i) x by omega] at h3
  · intro h i hi
    rw [clrM_len] at hi
    rw [hrow i hi]
    by_cases e : i = d
    · rw [e, clrG_d]; exact h d hd
    · rw [clrG_ne e]
      exact (dvd_cong (rv_elim p (at0 (atR M i) j) (q := atR M d) (hw i hi) x)).2 (Int.dvd_sub (h i hi) (Int.dvd_mul_of_dvd_right (h d hd)))
theorem fndZ_hit2 {M : List (List Int)} {j : Nat} : ∀ (k i : Nat), (∀ q, i ≤ q → q < fndZ M j k i → at0 (atR M q) j = 0) ∧ (fndZ M j k i < i + k → at0 (atR M (fndZ M j k i)) j ≠ 0)
  | 0, i => ⟨fun q h1 h2 => by simp [fndZ] at h2; omega, fun h => by simp [fndZ] at h⟩
  | k + 1, i => by
    by_cases h : at0 (atR M i) j = 0
    · rw [fndZ_yes h]
      obtain ⟨h1, h2⟩ := fndZ_hit2 (M := M) (j := j) k (i + 1)
      refine ⟨fun q hq hq2 => ?_, fun hh => h2 (by omega)⟩
      by_cases e : q = i
      · rw [e]; exact h
      · exact h1 q (by omega) hq2
    · rw [fndZ_no h]
      exact ⟨fun q h1 h2 => by omega, fun _ => h⟩
theorem small_dvd {p a : Int} (h0 : 0 ≤ a) (hp : a < p) (hd : p ∣ a) : a = 0 := by
  have := Int.emod_eq_zero_of_dvd hd
  rwa [Int.emod_eq_of_lt h0 hp] at this
section piv
variable {p : Int} {w : Nat} {M : List (List Int)} {d a j : Nat}
theorem piv_d (hp : fpP p) (hM : okM p w M) (hd : d < M.length) (ha : a < M.length) : atR (pivM p M d a j) d = sclR p (invZ (at0 (atR M a) j) p) (atR M a) := by
  have hd2 : d < (sclM p (swp M d a) d j).length := by simpa using hd
  unfold pivM clrM
  rw [pM_lt hd2 hd2, clrG_d]
  unfold sclM
  rw [atR_set, if_pos ⟨rfl, by simpa using hd⟩]
  have e : atR (swp M d a) d = atR M a := by
    rw [swp_at hd ha hd]
    by_cases h : d = a
    · rw [if_pos h, h]
    · rw [if_neg h, if_pos rfl]
  rw [e]
theorem piv_i (hp : fpP p) (hM : okM p w M) (hd : d < M.length) (ha : a < M.length) {i : Nat} (hi : i < M.length) (hid : i ≠ d) : atR (pivM p M d a j) i = elimR p (at0 (if i = a then atR M d else atR M i) j) (if i = a then atR M d else atR M i) (sclR p (invZ (at0 (atR M a) j) p) (atR M a)) := by
  have hi2 : i < (sclM p (swp M d a) d j).length := by simpa using hi
  have hd2 : d < (sclM p (swp M d a) d j).length := by simpa using hd
  have e0 : atR (swp M d a) d = atR M a := by
    rw [swp_at hd ha hd]
    by_cases h : d = a
    · rw [if_pos h, h]
    · rw [if_neg h, if_pos rfl]
  have e1 : atR (sclM p (swp M d a) d j) d = sclR p (invZ (at0 (atR M a) j) p) (atR M a) := by
    unfold sclM
    rw [atR_set, if_pos ⟨rfl, by simpa using hd⟩, e0]
  have e2 : atR (sclM p (swp M d a) d j) i = if i = a then atR M d else atR M i := by
    unfold sclM
    rw [atR_set, if_neg fun h => hid h.1.symm, swp_at hd ha hi]
    by_cases h : i = a
    · rw [if_pos h, if_pos h]
    · rw [if_neg h, if_neg h, if_neg hid]
  unfold pivM clrM
  rw [pM_lt hi2 hi2, clrG_ne hid, e1, e2]
theorem scl_at {f : Int} {r : List Int} {k : Nat} (h : k < r.length) : at0 (sclR p f r) k = at0 r k * f % p := by
  unfold sclR
  rw [rowF_at h]
  rfl
theorem elim_at {c : Int} {r q : List Int} {k : Nat} (h : k < r.length) : at0 (elimR p c r q) k = (at0 r k - c * at0 q k) % p := by
  unfold elimR
  rw [rowF_at h]
  rfl
theorem piv_one (hp : fpP p) (hM : okM p w M) (hd : d < M.length) (ha : a < M.length) (hj : j < w) (hn : at0 (atR M a) j ≠ 0) : at0 (atR (pivM p M d a j) d) j = 1 := by
  obtain ⟨l1, l2⟩ := hM a ha
  have hna : ¬ p ∣ at0 (atR M a) j := fun h => hn (small_dvd (l2 j hj).1 (l2 j hj).2 h)
  have hu := inv_unit hp hna
  rw [piv_d hp hM hd ha, scl_at (by omega)]
  generalize at0 (atR M a) j * invZ (at0 (atR M a) j) p = v at *
  rcases hp with rfl | rfl | rfl <;> omega
theorem piv_col (hp : fpP p) (hM : okM p w M) (hd : d < M.length) (ha : a < M.length) (hj : j < w) (hn : at0 (atR M a) j ≠ 0) {i : Nat} (hi : i < M.length) (hid : i ≠ d) : at0 (atR (pivM p M d a j) i) j = 0 := by
  have h1 := piv_one hp hM hd ha hj hn
  rw [piv_d hp hM hd ha] at h1
  have hl : j < (if i = a then atR M d else atR M i).length := by
    split
    · rw [(hM d hd).1]; exact hj
    · rw [(hM i hi).1]; exact hj
  rw [piv_i hp hM hd ha hi hid, elim_at hl, h1, Int.mul_one, Int.sub_self, Int.zero_emod]
/-- A column that is 0 in the rows d and a stays as it is. -/
theorem piv_keep (hp : fpP p) (hM : okM p w M) (hd : d < M.length) (ha : a < M.length) {k : Nat} (hk : k < w) (h1 : at0 (atR M d) k = 0) (h2 : at0 (atR M a) k = 0) {i : Nat} (hi : i < M.length) : at0 (atR (pivM p M d a j) i) k = at0 (atR M i) k := by
  have e0 : at0 (sclR p (invZ (at0 (atR M a) j) p) (atR M a)) k = 0 := by rw [scl_at (by rw [(hM a ha).1]; exact hk), h2, Int.zero_mul, Int.zero_emod]
  by_cases hid : i = d
  · rw [hid, piv_d hp hM hd ha, e0, h1]
  · have hl : k < (if i = a then atR M d else atR M i).length := by
      split
      · rw [(hM d hd).1]; exact hk
      · rw [(hM i hi).1]; exact hk
    rw [piv_i hp hM hd ha hi hid, elim_at hl, e0, Int.mul_zero, Int.sub_zero]
    by_cases hia : i = a
    · rw [if_pos hia, hia, h1, h2, Int.zero_emod]
    · rw [if_neg hia]
      obtain ⟨_, l2⟩ := hM i hi
      exact Int.emod_eq_of_lt (l2 k hk).1 (l2 k hk).2
theorem sol_piv (hp : fpP p) (hM : okM p w M) (hd : d < M.length) (ha : a < M.length) (hj : j < w) (hn : at0 (atR M a) j ≠ 0) (x : Nat → Int) : sol p w (pivM p M d a j) x ↔ sol p w M x := by
  obtain ⟨l1, l2⟩ := hM a ha
  have hna : ¬ p ∣ at0 (atR M a) j := fun h => hn (small_dvd (l2 j hj).1 (l2 j hj).2 h)
  have hu := inv_unit hp hna
  have hs := okM_swp hM hd ha
  have e0 : atR (swp M d a) d = atR M a := by
    rw [swp_at hd ha hd]
    by_cases h : d = a
    · rw [if_pos h, h]
    · rw [if_neg h, if_pos rfl]
  unfold pivM
  rw [sol_clr (fun i hi => (okM_scl hp hs j (by simpa using hd) i hi).1) (by simpa using hd), sol_scl (fun i hi => (hs i hi).1) (by simpa using hd) ⟨at0 (atR M a) j, by rw [e0, Int.mul_comm]; exact hu⟩, sol_swp hd ha]
end piv
structure rrI (p : Int) (w : Nat) (M0 : List (List Int)) (j : Nat) (x : List (List Int) × List Int) : Prop where
  base : redI p w M0 j x
  sl : ∀ y, sol p w x.1 y ↔ sol p w M0 y
  one : ∀ q, q < x.2.length → at0 (atR x.1 q) (at0 x.2 q).toNat = 1
  zer : ∀ q, q < x.2.length → ∀ i, i < x.1.length → i ≠ q → at0 (atR x.1 i) (at0 x.2 q).toNat = 0
  low : ∀ i, x.2.length ≤ i → i < x.1.length → ∀ k, k < j → at0 (atR x.1 i) k = 0
theorem rrI_step {p : Int} {w : Nat} {M0 : List (List Int)} {j : Nat} {x : List (List Int) × List Int} (hp : fpP p) (hj : j < w) (h : rrI p w M0 j x) : rrI p w M0 (j + 1) (redC p j x) := by
  obtain ⟨M, P⟩ := x
  have hb := redI_step hp h.base
  have hok := h.base.ok
  have hjj := h.base.hj
  have hs := h.base.hs
  simp only at hok hjj hs
  obtain ⟨f1, f2⟩ := fndZ_hit2 (M := M) (j := j) (M.length - P.length) P.length
  by_cases hc : P.length < M.length ∧ fndZ M j (M.length - P.length) P.length < M.length
  · have e := redC_yes (p := p) (M := M) (P := P) rfl hc.1 hc.2
    obtain ⟨a, ha⟩ : ∃ a, fndZ M j (M.length - P.length) P.length = a := ⟨_, rfl⟩
    have hab := fndZ_bnd M j (M.length - P.length) P.length
    rw [ha] at e f2 hc hab
    have hn : at0 (atR M a) j ≠ 0 := f2 (by omega)
    rw [e] at hb ⊢
    have hlow := h.low
    have hz := h.zer
    have h1 := h.one
    simp only at hlow hz h1
    have hPw : ∀ q, q < P.length → (at0 P q).toNat < j := fun q hq => by have := hjj q hq; omega
    have keep : ∀ k, k < j → ∀ i, i < M.length → at0 (atR (pivM p M P.length a j) i) k = at0 (atR M i) k := fun k hk i hi =>
      piv_keep hp hok hc.1 hc.2 (by omega) (hlow P.length (Nat.le_refl _) hc.1 k hk) (hlow a hab.1 hc.2 k hk) hi
    refine ⟨hb, fun y => ?_, fun q hq => ?_, fun q hq i hi hne => ?_, fun i h2 hi k hk => ?_⟩
    · simp only
      rw [sol_piv hp hok hc.1 hc.2 hj hn]
      exact h.sl y
    · simp only [List.length_append, List.length_singleton] at hq
      simp only
      rw [at0_app]
      split
      · rename_i hqp
        rw [keep _ (hPw q hqp) q (by omega)]
        exact h1 q hqp
      · have hqe : q = P.length := by omega
        rw [hqe, Nat.sub_self]
        show at0 (atR (pivM p M P.length a j) P.length) ((j : Int)).toNat = 1
        rw [Int.toNat_natCast]
        exact piv_one hp hok hc.1 hc.2 hj hn
    · simp only [List.length_append, List.length_singleton] at hq
      simp only [pivM_len] at hi
      simp only
      rw [at0_app]
      split
      · rename_i hqp
        rw [keep _ (hPw q hqp) i hi]
        exact hz q hqp i hi hne
      · have hqe : q = P.length := by omega
        rw [hqe, Nat.sub_self]
        show at0 (atR (pivM p M P.length a j) i) ((j : Int)).toNat = 0
        rw [Int.toNat_natCast]
        exact piv_col hp hok hc.1 hc.2 hj hn hi (by omega)
    · simp only [List.length_append, List.length_singleton] at h2
      simp only [pivM_len] at hi
      simp only
      by_cases hkj : k = j
      · rw [hkj]
        exact piv_col hp hok hc.1 hc.2 hj hn hi (by omega)
      · rw [keep k (by omega) i hi]
        exact hlow i (by omega) hi k (by omega)
  · rw [redC_no hc] at hb ⊢
    refine ⟨hb, h.sl, h.one, h.zer, fun i h2 hi k hk => ?_⟩
    by_cases hkj : k = j
    · simp only at h2 hi
      rw [hkj]
      have : ¬ fndZ M j (M.length - P.length) P.length < M.length := fun hh => hc ⟨by omega, hh⟩
      exact f1 i h2 (by omega)
    · exact h.low i h2 hi k (by omega)
theorem rrI_all {p : Int} {w : Nat} {M0 : List (List Int)} (hp : fpP p) (h : okM p w M0) : ∀ j, j ≤ w → rrI p w M0 j (redS p M0 j)
  | 0, _ => ⟨redI_all hp h 0, fun _ => Iff.rfl, fun q hq => by simp [redS] at hq, fun q hq => by simp [redS] at hq, fun i _ _ k hk => by omega⟩
  | j + 1, hj => rrI_step hp (by omega) (rrI_all hp h j (by omega))
/-- The number of pivots. -/
noncomputable def rkW (p : Int) (w : Nat) (M : List (List Int)) : Nat := (redS p M w).2.length
theorem rv_pick {m w : Nat} (r : List Int) (J : Nat → Nat) (hJ : ∀ j, j < m → J j < w) (x : Nat → Int) : rv w r (fun k => sumN m fun j => bI (J j = k) * x j) = sumN m fun j => at0 r (J j) * x j := by
  unfold rv
  have e : (sumN w fun k => at0 r k * sumN m fun j => bI (J j = k) * x j) = sumN w fun k => sumN m fun j => bI (J j = k) * (at0 r (J j) * x j) := sumN_congr fun k hk => by
    rw [← sumN_mul]
    refine sumN_congr fun j hj => ?_
    by_cases h : J j = k
    · rw [bI_yes h, h, Int.one_mul, Int.one_mul]
    · rw [bI_no h]; simp
  rw [e, sumN_swap]
  refine sumN_congr fun j hj => ?_
  rw [sumN_mulR]
  have : (sumN w fun k => bI (J j = k)) = 1 := by
    have h1 : ∀ n, (sumN n fun k => bI (J j = k)) = bI (J j < n) := fun n => by
      induction n with
      | zero => rw [bI_no (by omega)]; rfl
      | succ n ih =>
        rw [sumN, ih]
        by_cases a : J j < n
        · rw [bI_yes a, bI_no (by omega), bI_yes (by omega)]; rfl
        · by_cases b : J j = n
          · rw [bI_no a, bI_yes b, bI_yes (by omega)]; rfl
          · rw [bI_no a, bI_no b, bI_no (by omega)]; rfl
    rw [h1, bI_yes (hJ j hj)]
  rw [this, Int.one_mul]
end Go.Proofs.Ytmemomfffehnkaa
namespace Go.Proofs.Ytmemomfffehnkaa
open Go Go.RowKit
set_option maxRecDepth 1000000
set_option linter.unusedSimpArgs false
set_option linter.unusedVariables false
set_option maxHeartbeats 1000000
end Go.Proofs.Ytmemomfffehnkaa
namespace Go.Proofs.Ytmemomfffehnkaa
open Go Go.RowKit
set_option maxRecDepth 1000000
set_option linter.unusedSimpArgs false
set_option linter.unusedVariables false
set_option maxHeartbeats 1000000
theorem redS_lt (p : Int) (M : List (List Int)) (j : Nat) : (∀ q, q < (redS p M j).2.length → 0 ≤ at0 (redS p M j).2 q ∧ at0 (redS p M j).2 q < j) ∧ ∀ a b, a < b → b < (redS p M j).2.length → at0 (redS p M j).2 a < at0 (redS p M j).2 b := by
  induction j with
  | zero => exact ⟨fun q hq => by simp [redS] at hq, fun a b _ hb => by simp [redS] at hb⟩
  | succ j ih =>
    rw [redS]
    generalize redS p M j = x at *
    obtain ⟨N, P⟩ := x
    obtain ⟨h1, h2⟩ := ih
    simp only at h1 h2
    by_cases hc : P.length < N.length ∧ fndZ N j (N.length - P.length) P.length < N.length
    · rw [redC_yes rfl hc.1 hc.2]
      simp only [List.length_append, List.length_singleton]
      have e : ∀ q, q < P.length + 1 → at0 (P ++ [(j : Int)]) q = if q < P.length then at0 P q else (j : Int) := fun q hq => by
        rw [at0_app]
        split
        · rfl
        · rw [show q - P.length = 0 by omega]; rfl
      constructor
      · intro q hq
        rw [e q hq]
        split
        · have := h1 q (by assumption)
          omega
        · omega
      · intro a b hab hb
        rw [e a (by omega), e b hb, if_pos (by omega)]
        split
        · exact h2 a b hab (by assumption)
        · exact (h1 a (by omega)).2
    · rw [redC_no hc]
      exact ⟨fun q hq => by have := h1 q hq; simp only at this ⊢; omega, h2⟩
theorem rv_add (w : Nat) (r : List Int) (x y : Nat → Int) : rv w r (fun k => x k + y k) = rv w r x + rv w r y := by
  unfold rv
  rw [← sumN_add]
  exact sumN_congr fun k _ => Int.mul_add _ _ _
theorem rv_smul (w : Nat) (r : List Int) (a : Int) (x : Nat → Int) : rv w r (fun k => a * x k) = a * rv w r x := by
  unfold rv
  rw [← sumN_mul]
  exact sumN_congr fun k _ => Int.mul_left_comm _ _ _
theorem rv_sum (w m : Nat) (r : List Int) (x : Nat → Nat → Int) : rv w r (fun k => sumN m fun j => x j k) = sumN m fun j => rv w r (x j) := by
  unfold rv
  rw [sumN_swap]
  exact sumN_congr fun k _ => (sumN_mul _ _ _).symm
theorem rv_unit {w : Nat} (r : List Int) {c : Nat} (hc : c < w) : rv w r (fun k => bI (c = k)) = at0 r c := by
  have h := rv_pick (m := 1) (w := w) r (fun _ => c) (fun _ _ => hc) fun _ => 1
  simpa [sumN] using h
theorem sol_mod {p : Int} {w : Nat} {M : List (List Int)} (hM : ∀ i, i < M.length → (atR M i).length = w) (y : Nat → Int) : sol p w (modM p M) y ↔ sol p w M y := by
  have key : ∀ i, i < M.length → p ∣ rv w (atR (modM p M) i) y - rv w (atR M i) y := fun i hi => by
    unfold rv
    refine sumN_cong fun k hk => ?_
    rw [modM_at hi, rowF_at (by rw [hM i hi]; exact hk), ← Int.sub_mul]
    exact Int.dvd_mul_of_dvd_left (mod_sub _ _)
  constructor
  · intro h i hi
    exact (dvd_cong (key i hi)).1 (h i (by rw [modM_len]; exact hi))
  · intro h i hi
    rw [modM_len] at hi
    exact (dvd_cong (key i hi)).2 (h i hi)
/-- All numbers of a list are counted among the numbers below n. -/
theorem cnt_mem {n : Nat} : ∀ {U : List Int}, U.Nodup → (∀ x ∈ U, 0 ≤ x ∧ x < (n : Int)) → (sumN n fun u => bI ((u : Int) ∈ U)) = U.length
  | [], _, _ => sumN_zero fun k _ => bI_no (by simp)
  | a :: U, hn, hS => by
    rw [List.nodup_cons] at hn
    have ih := cnt_mem hn.2 fun x hx => hS x (List.mem_cons_of_mem _ hx)
    have ha := hS a (List.mem_cons_self ..)
    obtain ⟨x, rfl⟩ := Int.eq_ofNat_of_zero_le ha.1
    have e : (sumN n fun u => bI ((u : Int) ∈ (x : Int) :: U)) = sumN n fun u => bI ((u : Int) = (x : Int)) * 1 + bI ((u : Int) ∈ U) := sumN_congr fun u hu => by
      by_cases h : (u : Int) = (x : Int)
      · rw [bI_yes h, bI_yes (by rw [h]; exact List.mem_cons_self ..), bI_no (by rw [h]; exact hn.1)]; omega
      · rw [bI_no h]
        by_cases h2 : (u : Int) ∈ U
        · rw [bI_yes h2, bI_yes (List.mem_cons_of_mem _ h2)]; omega
        · rw [bI_no h2, bI_no (fun hh => (List.mem_cons.1 hh).elim h h2)]; omega
    have h1 := sumN_one (w := fun _ => 1) (a := x) n
    rw [if_pos (by omega)] at h1
    rw [e, sumN_add, ih, h1, List.length_cons]
    omega
/-- The reduced form of a matrix and its pivots. -/
noncomputable def rX (p : Int) (w : Nat) (M : List (List Int)) : List (List Int) × List Int := redS p (modM p M) w
noncomputable def pvJ (p : Int) (w : Nat) (M : List (List Int)) (q : Nat) : Nat := (at0 (rX p w M).2 q).toNat
def pvP (p : Int) (w : Nat) (M : List (List Int)) (k : Nat) : Prop := (k : Int) ∈ (rX p w M).2
noncomputable def rkM (p : Int) (w : Nat) (M : List (List Int)) : Nat := (rX p w M).2.length
/-- The solution that belongs to a column without a pivot. -/
noncomputable def xK (p : Int) (w : Nat) (M : List (List Int)) (c k : Nat) : Int := bI (c = k) + sumN (rkM p w M) fun q => bI (pvJ p w M q = k) * -(at0 (atR (rX p w M).1 q) c)
/-- A list that a matrix leads to. -/
def imP (p : Int) (w : Nat) (M : List (List Int)) (z : Nat → Int) : Prop := ∃ y : Nat → Int, ∀ i, i < M.length → p ∣ rv w (atR M i) y - z i
section lin
variable {p : Int} {w : Nat} {M : List (List Int)} (hp : fpP p) (hM : ∀ i, i < M.length → (atR M i).length = w)
include hp hM
theorem rX_rr : rrI p w (modM p M) w (rX p w M) := rrI_all hp (okM_mod hp hM) w (Nat.le_refl _)
theorem rX_sol (y : Nat → Int) : sol p w (rX p w M).1 y ↔ sol p w M y := ((rX_rr hp hM).sl y).trans (sol_mod hM y)
omit hM hp in
theorem pvJ_eq {q : Nat} (hq : q < rkM p w M) : (pvJ p w M q : Int) = at0 (rX p w M).2 q := by
  have := (redS_lt p (modM p M) w).1 q hq
  unfold pvJ
  exact Int.toNat_of_nonneg this.1
omit hM hp in
theorem pvJ_lt {q : Nat} (hq : q < rkM p w M) : pvJ p w M q < w := by
  have := (redS_lt p (modM p M) w).1 q hq
  have h2 := pvJ_eq hq
  unfold rX at h2
  omega
omit hM hp in
theorem pvJ_inj {a b : Nat} (ha : a < rkM p w M) (hb : b < rkM p w M) (h : pvJ p w M a = pvJ p w M b) : a = b := by
  have h1 := pvJ_eq ha
  have h2 := pvJ_eq hb
  have h3 := (redS_lt p (modM p M) w).2
  rcases Nat.lt_trichotomy a b with hl | hl | hl
  · have := h3 a b hl hb
    unfold rX at h1 h2
    omega
  · exact hl
  · have := h3 b a hl ha
    unfold rX at h1 h2
    omega
omit hM hp in
theorem pvP_iff {k : Nat} : pvP p w M k ↔ ∃ q, q < rkM p w M ∧ pvJ p w M q = k := by
  unfold pvP
  rw [getD_mem_iff]
  constructor
  · rintro ⟨q, hq, e⟩
    exact ⟨q, hq, by have := pvJ_eq hq; omega⟩
  · rintro ⟨q, hq, e⟩
    exact ⟨q, hq, by have := pvJ_eq hq; omega⟩
omit hM hp in
theorem pv_nodup : (rX p w M).2.Nodup := by
  have h3 := (redS_lt p (modM p M) w).2
  refine List.Pairwise.imp (R := fun a b => a < b) (fun h => by omega) ?_
  rw [List.pairwise_iff_getElem]
  intro i j hi hj hij
  have := h3 i j hij hj
  rw [← at0_eq hi, ← at0_eq hj]
  exact this
/-- How many columns have no pivot. -/
noncomputable def npL (p : Int) (w : Nat) (M : List (List Int)) : List Nat := (List.range w).filter fun c => dec (¬ pvP p w M c)
omit hM hp in
theorem npL_len : ((npL p w M).length : Int) = (w : Int) - (rkM p w M : Nat) := by
  unfold npL
  rw [sumN_filter]
  have e : (sumN w fun u => bI (dec (¬ pvP p w M u) = true)) + (sumN w fun u => bI ((u : Int) ∈ (rX p w M).2)) = sumN w fun _ => 1 := by
    rw [← sumN_add]
    refine sumN_congr fun u _ => ?_
    by_cases h : pvP p w M u
    · rw [bI_no (by rw [dec_iff]; exact fun hh => hh h), bI_yes (show (u : Int) ∈ (rX p w M).2 from h)]; rfl
    · rw [bI_yes (by rw [dec_iff]; exact h), bI_no (show ¬ (u : Int) ∈ (rX p w M).2 from h)]; rfl
  have e1 : ∀ m : Nat, (sumN m fun _ => 1) = (m : Int) := fun m => by
    induction m with
    | zero => rfl
    | succ m ih => rw [sumN, ih]; omega
  rw [e1, cnt_mem pv_nodup fun x hx => by
    obtain ⟨q, hq, rfl⟩ := getD_mem_iff.1 hx
    have := (redS_lt p (modM p M) w).1 q hq
    exact ⟨this.1, this.2⟩] at e
  unfold rkM
  omega
omit hM hp in
theorem npL_at {t : Nat} (h : t < (npL p w M).length) : (npL p w M)[t]?.getD 0 < w ∧ ¬ pvP p w M ((npL p w M)[t]?.getD 0) := by
  rw [List.getElem?_eq_getElem h]
  have := List.getElem_mem h
  unfold npL at this
  rw [List.mem_filter, List.mem_range, dec_iff] at this
  exact this
omit hM hp in
theorem npL_inj {s t : Nat} (hs : s < (npL p w M).length) (ht : t < (npL p w M).length) (e : (npL p w M)[s]?.getD 0 = (npL p w M)[t]?.getD 0) : s = t := by
  rw [List.getElem?_eq_getElem hs, List.getElem?_eq_getElem ht] at e
  exact (List.getElem_inj (List.nodup_range.filter _)).1 e
/-- A solution is told by its numbers at the columns without pivots. -/
theorem sol_zero {v : Nat → Int} (hv : sol p w M v) (h : ∀ c, c < w → ¬ pvP p w M c → p ∣ v c) : ∀ k, k < w → p ∣ v k := by
  intro k hk
  have hr := rX_rr hp hM
  by_cases hpk : pvP p w M k
  · obtain ⟨q, hq, rfl⟩ := pvP_iff.1 hpk
    have hs := (rX_sol hp hM v).2 hv
    have hql : q < (rX p w M).1.length := Nat.lt_of_lt_of_le hq hr.base.hp
    have h1 := hs q hql
    unfold rv at h1
    obtain ⟨w', hw⟩ : ∃ w', w = w' + 1 := ⟨w - 1, by omega⟩
    have e : sumN w (fun j => at0 (atR (rX p w M).1 q) j * v j) = at0 (atR (rX p w M).1 q) (pvJ p w M q) * v (pvJ p w M q) + sumN w' fun j => at0 (atR (rX p w M).1 q) (skipN (pvJ p w M q) j) * v (skipN (pvJ p w M q) j) := by
      have := sumN_skip (fun j => at0 (atR (rX p w M).1 q) j * v j) w' (pvJ p w M q) (by omega)
      rw [← this, ← hw]
    rw [e] at h1
    have h2 : p ∣ sumN w' fun j => at0 (atR (rX p w M).1 q) (skipN (pvJ p w M q) j) * v (skipN (pvJ p w M q) j) := sumN_dvd fun j hj => by
      have hs2 : skipN (pvJ p w M q) j < w ∧ skipN (pvJ p w M q) j ≠ pvJ p w M q := by unfold skipN; split <;> omega
      by_cases hpj : pvP p w M (skipN (pvJ p w M q) j)
      · obtain ⟨q2, hq2, e2⟩ := pvP_iff.1 hpj
        have hz := hr.zer q2 hq2 q hql (fun e3 => hs2.2 (by rw [← e2, e3]))
        have e4 : (at0 (rX p w M).2 q2).toNat = pvJ p w M q2 := rfl
        rw [e4, e2] at hz
        rw [hz, Int.zero_mul]
        exact Int.dvd_zero p
      · exact Int.dvd_mul_of_dvd_right (h _ hs2.1 hpj)
    have h3 := (Int.dvd_add_left h2).1 h1
    have h4 := hr.one q hq
    have e4 : (at0 (rX p w M).2 q).toNat = pvJ p w M q := rfl
    rw [e4] at h4
    rwa [h4, Int.one_mul] at h3
  · exact h k hk hpk
omit hM hp in
theorem xK_np {c k : Nat} (h : ¬ pvP p w M k) : xK p w M c k = bI (c = k) := by
  unfold xK
  rw [sumN_zero fun q hq => by rw [bI_no fun e => h (pvP_iff.2 ⟨q, hq, e⟩), Int.zero_mul], Int.add_zero]
theorem xK_sol {c : Nat} (hc : c < w) (hnp : ¬ pvP p w M c) : sol p w M (xK p w M c) := by
  have hr := rX_rr hp hM
  refine (rX_sol hp hM _).1 fun i hi => ?_
  have e : rv w (atR (rX p w M).1 i) (xK p w M c) = at0 (atR (rX p w M).1 i) c + sumN (rkM p w M) fun q => at0 (atR (rX p w M).1 i) (pvJ p w M q) * -(at0 (atR (rX p w M).1 q) c) := by
    have h1 := rv_add w (atR (rX p w M).1 i) (fun k => bI (c = k)) fun k => sumN (rkM p w M) fun q => bI (pvJ p w M q = k) * -(at0 (atR (rX p w M).1 q) c)
    have h2 : xK p w M c = fun k => bI (c = k) + sumN (rkM p w M) fun q => bI (pvJ p w M q = k) * -(at0 (atR (rX p w M).1 q) c) := rfl
    rw [h2, h1, rv_unit _ hc, rv_pick _ (pvJ p w M) (fun j hj => pvJ_lt hj)]
  rw [e]
  have e5 : (sumN (rkM p w M) fun q => at0 (atR (rX p w M).1 i) (pvJ p w M q) * -(at0 (atR (rX p w M).1 q) c)) = -(at0 (atR (rX p w M).1 i) c) := by
    by_cases hir : i < rkM p w M
    · obtain ⟨m', hm⟩ : ∃ m', rkM p w M = m' + 1 := ⟨rkM p w M - 1, by omega⟩
      have hsk := sumN_skip (fun q => at0 (atR (rX p w M).1 i) (pvJ p w M q) * -(at0 (atR (rX p w M).1 q) c)) m' i (by omega)
      rw [hm, hsk, sumN_zero]
      · have h4 := hr.one i hir
        have e4 : (at0 (rX p w M).2 i).toNat = pvJ p w M i := rfl
        rw [e4] at h4
        try simp only
        rw [h4, Int.one_mul, Int.add_zero]
      · intro q hq
        have hs2 : skipN i q < rkM p w M ∧ skipN i q ≠ i := by unfold skipN; split <;> omega
        have hz := hr.zer _ hs2.1 i hi (fun e3 => hs2.2 e3.symm)
        have e4 : (at0 (rX p w M).2 (skipN i q)).toNat = pvJ p w M (skipN i q) := rfl
        rw [e4] at hz
        rw [hz, Int.zero_mul]
    · have hl := fun k hk => hr.low i (Nat.le_of_not_lt hir) hi k hk
      rw [hl c hc, sumN_zero]
      · rfl
      · intro q hq
        rw [hl _ (pvJ_lt hq), Int.zero_mul]
  rw [e5, Int.add_right_neg]
  exact Int.dvd_zero p
/-- What a matrix leads to, it leads to from numbers at the pivots. -/
theorem im_piv {z : Nat → Int} (h : imP p w M z) : ∃ y : Nat → Int, (∀ c, c < w → ¬ pvP p w M c → p ∣ y c) ∧ ∀ i, i < M.length → p ∣ rv w (atR M i) y - z i := by
  obtain ⟨y, hy⟩ := h
  refine ⟨fun k => y k + sumN w fun c => (-(bI (¬ pvP p w M c) * y c)) * xK p w M c k, fun c hc hnp => ?_, fun i hi => ?_⟩
  · have e : (sumN w fun j => (-(bI (¬ pvP p w M j) * y j)) * xK p w M j c) = -(y c) := by
      have e1 : (sumN w fun j => (-(bI (¬ pvP p w M j) * y j)) * xK p w M j c) = sumN w fun j => bI ((j : Int) = (c : Int)) * (fun u : Int => -(bI (¬ pvP p w M u.toNat) * y u.toNat)) (j : Int) := sumN_congr fun j _ => by
        rw [xK_np hnp, Int.mul_comm]
        simp only [Int.toNat_natCast]
        congr 1
        exact bI_congr (by omega)
      rw [e1, sumN_one (w := fun u : Int => -(bI (¬ pvP p w M u.toNat) * y u.toNat)) (a := c) w, if_pos hc]
      simp only [Int.toNat_natCast]
      rw [bI_yes hnp, Int.one_mul]
    try simp only
    rw [e, Int.add_right_neg]
    exact Int.dvd_zero p
  · rw [rv_add, rv_sum]
    have h2 : p ∣ sumN w fun c => rv w (atR M i) fun k => (-(bI (¬ pvP p w M c) * y c)) * xK p w M c k := sumN_dvd fun c hc => by
      rw [rv_smul]
      by_cases hnp : pvP p w M c
      · rw [bI_no fun hh => hh hnp, Int.zero_mul, Int.neg_zero, Int.zero_mul]
        exact Int.dvd_zero p
      · exact Int.dvd_mul_of_dvd_right (xK_sol hp hM hc hnp i hi)
    have := Int.dvd_add (hy i hi) h2
    rwa [show rv w (atR M i) y - z i + (sumN w fun c => rv w (atR M i) fun k => (-(bI (¬ pvP p w M c) * y c)) * xK p w M c k) = rv w (atR M i) y + (sumN w fun c => rv w (atR M i) fun k => (-(bI (¬ pvP p w M c) * y c)) * xK p w M c k) - z i by omega] at this
end lin
end Go.Proofs.Ytmemomfffehnkaa
namespace Go.Proofs.Ytmemomfffehnkaa
open Go Go.RowKit
set_option maxRecDepth 1000000
set_option linter.unusedSimpArgs false
set_option linter.unusedVariables false
set_option maxHeartbeats 1000000
section lin2
variable {p : Int} {f w : Nat} {M N : List (List Int)} (hp : fpP p) (hM : ∀ i, i < M.length → (atR M i).length = f) (hN : ∀ i, i < N.length → (atR N i).length = w) (hf : N.length = f)
include hp hM hN hf
omit hM in
/-- If the ranks leave something over, there is a solution of M that N does not lead to. -/
theorem ex_hole (h : rkM p f M + rkM p w N < f) : ∃ c, c < f ∧ ¬ pvP p f M c ∧ ¬ imP p w N (xK p f M c) := by
  refine Classical.byContradiction fun hno => ?_
  have hall : ∀ c, c < f → ¬ pvP p f M c → imP p w N (xK p f M c) := fun c hc hn => Classical.byContradiction fun hi => hno ⟨c, hc, hn, hi⟩
  have hlen := npL_len (p := p) (w := f) (M := M)
  have hex : ∀ t, ∃ y : Nat → Int, t < (npL p f M).length → (∀ c, c < w → ¬ pvP p w N c → p ∣ y c) ∧ ∀ i, i < N.length → p ∣ rv w (atR N i) y - xK p f M ((npL p f M)[t]?.getD 0) i := fun t => by
    by_cases ht : t < (npL p f M).length
    · obtain ⟨h1, h2⟩ := npL_at ht
      obtain ⟨y, hy⟩ := im_piv hp hN (hall _ h1 h2)
      exact ⟨y, fun _ => hy⟩
    · exact ⟨fun _ => 0, fun hh => absurd hh ht⟩
  have hY := fun t => Classical.choose_spec (hex t)
  generalize hYd : (fun t => Classical.choose (hex t)) = Y
  have hY2 : ∀ t, t < (npL p f M).length → (∀ c, c < w → ¬ pvP p w N c → p ∣ Y t c) ∧ ∀ i, i < N.length → p ∣ rv w (atR N i) (Y t) - xK p f M ((npL p f M)[t]?.getD 0) i := fun t ht => by
    rw [← hYd]
    exact hY t ht
  obtain ⟨x, ⟨j0, hj0, hx0⟩, hx⟩ := homog (field_fp hp) (rkM p w N) (npL p f M).length (fun i j => Y j (pvJ p w N i)) (by omega)
  -- the sum of the Y's is 0
  have hv : ∀ k, k < w → p ∣ sumN (npL p f M).length fun t => x t * Y t k := fun k hk => by
    by_cases hpk : pvP p w N k
    · obtain ⟨q, hq, rfl⟩ := pvP_iff.1 hpk
      have := hx q hq
      rwa [sumN_congr fun t _ => Int.mul_comm (x t) (Y t (pvJ p w N q))]
    · exact sumN_dvd fun t ht => Int.dvd_mul_of_dvd_right ((hY2 t ht).1 k hk hpk)
  obtain ⟨c1, c2⟩ := npL_at hj0
  have hi0 : (npL p f M)[j0]?.getD 0 < N.length := by omega
  have e1 : p ∣ rv w (atR N ((npL p f M)[j0]?.getD 0)) fun k => sumN (npL p f M).length fun t => x t * Y t k := by
    unfold rv
    exact sumN_dvd fun k hk => Int.dvd_mul_of_dvd_right (hv k hk)
  rw [rv_sum] at e1
  have e2 : p ∣ (sumN (npL p f M).length fun t => rv w (atR N ((npL p f M)[j0]?.getD 0)) fun k => x t * Y t k) - sumN (npL p f M).length fun t => x t * xK p f M ((npL p f M)[t]?.getD 0) ((npL p f M)[j0]?.getD 0) := sumN_cong fun t ht => by
    rw [rv_smul, ← Int.mul_sub]
    exact Int.dvd_mul_of_dvd_right ((hY2 t ht).2 _ hi0)
  have e3 := (dvd_cong e2).1 e1
  have e4 : (sumN (npL p f M).length fun t => x t * xK p f M ((npL p f M)[t]?.getD 0) ((npL p f M)[j0]?.getD 0)) = x j0 := by
    have : (sumN (npL p f M).length fun t => x t * xK p f M ((npL p f M)[t]?.getD 0) ((npL p f M)[j0]?.getD 0)) = sumN (npL p f M).length fun t => bI ((t : Int) = (j0 : Int)) * (fun u : Int => x u.toNat) (t : Int) := sumN_congr fun t ht => by
      rw [xK_np c2, Int.mul_comm]
      simp only [Int.toNat_natCast]
      congr 1
      exact bI_congr ⟨fun e => by rw [npL_inj ht hj0 e], fun e => by rw [show t = j0 by omega]⟩
    rw [this, sumN_one (w := fun u : Int => x u.toNat) (a := j0), if_pos hj0]
    simp
  rw [e4] at e3
  exact hx0 e3
/-- If there is a solution of M that N does not lead to, the ranks leave something over. -/
theorem no_hole (hc : ∀ j, j < w → sol p f M fun i => at0 (atR N i) j) {z : Nat → Int} (hz : sol p f M z) (hn : ¬ imP p w N z) : rkM p f M + rkM p w N < f := by
  refine Nat.lt_of_not_le fun hle => ?_
  have hlen := npL_len (p := p) (w := f) (M := M)
  obtain ⟨x, ⟨j0, hj0, hx0⟩, hx⟩ := homog (field_fp hp) (npL p f M).length (rkM p w N + 1) (fun i j => if j < rkM p w N then at0 (atR N ((npL p f M)[i]?.getD 0)) (pvJ p w N j) else z ((npL p f M)[i]?.getD 0)) (by omega)
  have hev : ∀ i : Nat, (sumN (rkM p w N + 1) fun j => (if j < rkM p w N then at0 (atR N i) (pvJ p w N j) else z i) * x j) = (sumN (rkM p w N) fun j => at0 (atR N i) (pvJ p w N j) * x j) + z i * x (rkM p w N) := fun i => by
    rw [sumN, if_neg (Nat.lt_irrefl _)]
    congr 1
    exact sumN_congr fun j hj => by rw [if_pos hj]
  -- the combination is a solution
  have hsol : sol p f M fun i => (sumN (rkM p w N) fun j => x j * at0 (atR N i) (pvJ p w N j)) + x (rkM p w N) * z i := fun i hi => by
    rw [rv_add, rv_smul, rv_sum]
    refine Int.dvd_add (sumN_dvd fun j hj => ?_) (Int.dvd_mul_of_dvd_right (hz i hi))
    rw [rv_smul]
    exact Int.dvd_mul_of_dvd_right (hc _ (pvJ_lt hj) i hi)
  have heq : ∀ i : Nat, (sumN (rkM p w N) fun j => x j * at0 (atR N i) (pvJ p w N j)) + x (rkM p w N) * z i = (sumN (rkM p w N) fun j => at0 (atR N i) (pvJ p w N j) * x j) + z i * x (rkM p w N) := fun i => by
    rw [sumN_congr fun j _ => Int.mul_comm (x j) (at0 (atR N i) (pvJ p w N j)), Int.mul_comm (x (rkM p w N))]
  have hall := sol_zero hp hM hsol fun c hcf hnp => by
    have hm : c ∈ npL p f M := by
      unfold npL
      rw [List.mem_filter, List.mem_range, dec_iff]
      exact ⟨hcf, hnp⟩
    obtain ⟨t, ht, e⟩ := List.getElem_of_mem hm
    have h1 := hx t ht
    rw [List.getElem?_eq_getElem ht, Option.getD_some, e, hev c] at h1
    try simp only
    rw [heq c]
    exact h1
  have hcomb : ∀ i : Nat, rv w (atR N i) (fun k => sumN (rkM p w N) fun j => bI (pvJ p w N j = k) * x j) = sumN (rkM p w N) fun j => at0 (atR N i) (pvJ p w N j) * x j := fun i => rv_pick _ (pvJ p w N) (fun j hj => pvJ_lt hj) x
  by_cases hmu : p ∣ x (rkM p w N)
  · -- the numbers at the pivots alone give 0
    have hker : sol p w N fun k => sumN (rkM p w N) fun j => bI (pvJ p w N j = k) * x j := fun i hi => by
      rw [hcomb i]
      have h1 := hall i (by omega)
      rw [heq i] at h1
      exact (Int.dvd_add_left (Int.dvd_mul_of_dvd_right hmu)).1 h1
    have hz2 := sol_zero hp hN hker fun c _ hnp => by
      refine sumN_dvd fun j hj => ?_
      rw [bI_no fun e => hnp (pvP_iff.2 ⟨j, hj, e⟩), Int.zero_mul]
      exact Int.dvd_zero p
    have hjr : j0 < rkM p w N := by
      rcases Nat.lt_succ_iff_lt_or_eq.1 hj0 with h1 | h1
      · exact h1
      · exact absurd (h1 ▸ hmu) hx0
    have h3 := hz2 _ (pvJ_lt hjr)
    have e : (sumN (rkM p w N) fun j => bI (pvJ p w N j = pvJ p w N j0) * x j) = x j0 := by
      have : (sumN (rkM p w N) fun j => bI (pvJ p w N j = pvJ p w N j0) * x j) = sumN (rkM p w N) fun t => bI ((t : Int) = (j0 : Int)) * (fun u : Int => x u.toNat) (t : Int) := sumN_congr fun t ht => by
        simp only [Int.toNat_natCast]
        congr 1
        exact bI_congr ⟨fun e => by rw [pvJ_inj ht hjr e], fun e => by rw [show t = j0 by omega]⟩
      rw [this, sumN_one (w := fun u : Int => x u.toNat) (a := j0), if_pos hjr]
      simp
    rw [e] at h3
    exact hx0 h3
  · obtain ⟨b, hb⟩ := (field_fp hp).2 _ hmu
    refine hn ⟨fun k => (-b) * sumN (rkM p w N) fun j => bI (pvJ p w N j = k) * x j, fun i hi => ?_⟩
    rw [rv_smul, hcomb i]
    have h1 := hall i (by omega)
    rw [heq i] at h1
    generalize (sumN (rkM p w N) fun j => at0 (atR N i) (pvJ p w N j) * x j) = S at *
    -- b times (S + z x) is divisible, and b x - 1 is
    have h2 : p ∣ (-b) * (S + z i * x (rkM p w N)) := Int.dvd_mul_of_dvd_right h1
    have h3 : p ∣ (x (rkM p w N) * b - 1) * z i := Int.dvd_mul_of_dvd_left hb
    have h4 := Int.dvd_add h2 h3
    have e : (-b) * (S + z i * x (rkM p w N)) + (x (rkM p w N) * b - 1) * z i = (-b) * S - z i := by
      rw [Int.mul_add, Int.sub_mul, Int.one_mul, Int.neg_mul b (z i * x (rkM p w N)), show x (rkM p w N) * b * z i = b * (z i * x (rkM p w N)) by rw [Int.mul_comm (x (rkM p w N)) b, Int.mul_assoc, Int.mul_comm (x (rkM p w N)) (z i)]]
      omega
    rwa [e] at h4
end lin2
end Go.Proofs.Ytmemomfffehnkaa
namespace Go.Proofs.Ytmemomfffehnkaa
open Go Go.RowKit
set_option maxRecDepth 1000000
set_option linter.unusedSimpArgs false
set_option linter.unusedVariables false
set_option maxHeartbeats 1000000
/-- The sign in the border, on numbers. -/
def sgF (x y : Nat) : Int := if x &&& y == x then 1 - 2 * ((pcF 6 (y &&& (y - x - 1)) % 2 : Nat) : Int) else 0
def ddK (x y : Nat) : Nat → Int
  | 0 => 0
  | u + 1 => ddK x y u + (if pcF 6 u == pcF 6 x + 1 then sgF x u * sgF u y else 0)
theorem dd_key : ∀ x : Nat, x < 64 → ∀ y : Nat, y < 64 → (pcF 6 y != pcF 6 x + 2 || ddK x y 64 == 0) = true := by decide +kernel
theorem ddK_sum (x y : Nat) : ∀ m, ddK x y m = sumN m fun u => if pcF 6 u == pcF 6 x + 1 then sgF x u * sgF u y else 0
  | 0 => rfl
  | m + 1 => by rw [ddK, ddK_sum x y m, sumN]
theorem sub_lt_key : ∀ x : Nat, x < 64 → ∀ y : Nat, y < 64 → (x &&& y != x || decide (x ≤ y)) = true := by decide +kernel
theorem sgnZ_nat {x y : Nat} (hx : x < 64) (hy : y < 64) (hz : pcF 6 y = pcF 6 x + 1) : sgnZ (x : Int) (y : Int) = sgF x y := by
  by_cases h : x &&& y = x
  · have hs : subS (x : Int) (y : Int) := (subS_natI hx hy).2 h
    have hle : x ≤ y := by
      have := sub_lt_key x hx y hy
      simp [h] at this
      exact this
    have hne : x ≠ y := fun e => by rw [e] at hz; omega
    have e1 : bnot (y : Int) (x : Int) = ((y - x : Nat) : Int) := by
      rw [bnot_nat y x hy hx, Nat.and_comm, h]
    have e2 : ((y - x : Nat) : Int) - 1 = ((y - x - 1 : Nat) : Int) := by omega
    have hb : y &&& (y - x - 1) < 64 := Nat.lt_of_le_of_lt Nat.and_le_left hy
    rw [sgnZ_yes hs, e1, e2, band_nat y (y - x - 1) hy (by omega), sz_nat hb]
    unfold sgF
    rw [if_pos (by simp [h])]
    omega
  · have hs : ¬ subS (x : Int) (y : Int) := fun hh => h ((subS_natI hx hy).1 hh)
    rw [sgnZ_no hs]
    unfold sgF
    rw [if_neg (by simpa using h)]
/-- The border of a border is 0. -/
theorem dd_zero {q : Int → Prop} (hq : ∀ s t, isS s → isS t → subS s t → q t → q s) {r s : Int} (hr : isS r) (hs : isS s) (hqs : q s) (hz : sz s = sz r + 2) : sumL (szS q (sz r + 1)) (fun u => sgnZ r u * sgnZ u s) = 0 := by
  obtain ⟨x, hx, rfl⟩ := isS_nat0 hr
  obtain ⟨y, hy, rfl⟩ := isS_nat0 hs
  rw [sz_nat hx, sz_nat hy] at hz
  have hz2 : pcF 6 y = pcF 6 x + 2 := by omega
  have hU := sumL_mem (fun u => sgnZ (x : Int) u * sgnZ u (y : Int)) (U := szS q (sz (x : Int) + 1)) (setsOf_nodup _) (allS_setsOf _)
  rw [← hU]
  have hk := dd_key x hx y hy
  simp only [hz2, bne_self_eq_false, Bool.false_or, beq_iff_eq] at hk
  rw [ddK_sum] at hk
  rw [← hk]
  refine sumN_congr fun u hu => ?_
  have hus : isS (u : Int) := ⟨by omega, by omega⟩
  by_cases hsz : pcF 6 u = pcF 6 x + 1
  · have h1 : sgnZ (x : Int) (u : Int) = sgF x u := sgnZ_nat hx hu hsz
    have h2 : sgnZ (u : Int) (y : Int) = sgF u y := sgnZ_nat hu hy (by omega)
    rw [if_pos (by simp [hsz]), h1, h2]
    by_cases hqu : q (u : Int)
    · rw [bI_yes (mem_szS.2 ⟨hus, hqu, by rw [sz_nat hu, sz_nat hx]; omega⟩), Int.one_mul]
    · have h3 : sgF u y = 0 := by
        rw [← h2]
        exact sgnZ_no fun hh => hqu (hq _ _ hus hs hh hqs)
      rw [h3]
      simp
  · rw [if_neg (by simpa using hsz), bI_no fun hh => hsz (by
      have := (mem_szS.1 hh).2.2
      rw [sz_nat hu, sz_nat hx] at this
      omega), Int.zero_mul]
theorem sgn_row {R C : List Int} {i j : Nat} (hi : i < R.length) (hj : j < C.length) : at0 (atR (sgnM R C) i) j = sgnZ (at0 R i) (at0 C j) := by
  rw [sgnM_at hi]
  simp [at0, hj]
end Go.Proofs.Ytmemomfffehnkaa
namespace Go.Proofs.Ytmemomfffehnkaa
open Go Go.RowKit
set_option maxRecDepth 1000000
set_option linter.unusedSimpArgs false
set_option linter.unusedVariables false
set_option maxHeartbeats 1000000
/-- A bound of ranks by images: what M's columns are, N leads to. -/
theorem im_le {p : Int} {f w v : Nat} {M N : List (List Int)} (hp : fpP p) (hM : ∀ i, i < M.length → (atR M i).length = w) (hN : ∀ i, i < N.length → (atR N i).length = v) (hf : M.length = f) (hg : N.length = f)
    (h : ∀ j, j < w → imP p v N fun i => at0 (atR M i) j) : rkM p w M ≤ rkM p v N := by
  refine Nat.le_of_not_lt fun hlt => ?_
  have hex : ∀ t, ∃ y : Nat → Int, t < rkM p w M → (∀ c, c < v → ¬ pvP p v N c → p ∣ y c) ∧ ∀ i, i < N.length → p ∣ rv v (atR N i) y - at0 (atR M i) (pvJ p w M t) := fun t => by
    by_cases ht : t < rkM p w M
    · obtain ⟨y, hy⟩ := im_piv hp hN (h _ (pvJ_lt ht))
      exact ⟨y, fun _ => hy⟩
    · exact ⟨fun _ => 0, fun hh => absurd hh ht⟩
  have hY := fun t => Classical.choose_spec (hex t)
  generalize hYd : (fun t => Classical.choose (hex t)) = Y
  have hY2 : ∀ t, t < rkM p w M → (∀ c, c < v → ¬ pvP p v N c → p ∣ Y t c) ∧ ∀ i, i < N.length → p ∣ rv v (atR N i) (Y t) - at0 (atR M i) (pvJ p w M t) := fun t ht => by
    rw [← hYd]
    exact hY t ht
  obtain ⟨x, ⟨j0, hj0, hx0⟩, hx⟩ := homog (field_fp hp) (rkM p v N) (rkM p w M) (fun i j => Y j (pvJ p v N i)) hlt
  have hv : ∀ k, k < v → p ∣ sumN (rkM p w M) fun t => x t * Y t k := fun k hk => by
    by_cases hpk : pvP p v N k
    · obtain ⟨q, hq, rfl⟩ := pvP_iff.1 hpk
      have := hx q hq
      rwa [sumN_congr fun t _ => Int.mul_comm (x t) (Y t (pvJ p v N q))]
    · exact sumN_dvd fun t ht => Int.dvd_mul_of_dvd_right ((hY2 t ht).1 k hk hpk)
  have hker : sol p w M fun k => sumN (rkM p w M) fun j => bI (pvJ p w M j = k) * x j := fun i hi => by
    rw [rv_pick _ (pvJ p w M) (fun j hj => pvJ_lt hj) x]
    have e1 : p ∣ rv v (atR N i) fun k => sumN (rkM p w M) fun t => x t * Y t k := by
      unfold rv
      exact sumN_dvd fun k hk => Int.dvd_mul_of_dvd_right (hv k hk)
    rw [rv_sum] at e1
    have e2 : p ∣ (sumN (rkM p w M) fun t => rv v (atR N i) fun k => x t * Y t k) - sumN (rkM p w M) fun t => at0 (atR M i) (pvJ p w M t) * x t := sumN_cong fun t ht => by
      rw [rv_smul, Int.mul_comm (at0 (atR M i) (pvJ p w M t)), ← Int.mul_sub]
      exact Int.dvd_mul_of_dvd_right ((hY2 t ht).2 i (by omega))
    exact (dvd_cong e2).1 e1
  have hz2 := sol_zero hp hM hker fun c _ hnp => by
    refine sumN_dvd fun j hj => ?_
    rw [bI_no fun e => hnp (pvP_iff.2 ⟨j, hj, e⟩), Int.zero_mul]
    exact Int.dvd_zero p
  have h3 := hz2 _ (pvJ_lt hj0)
  have e : (sumN (rkM p w M) fun j => bI (pvJ p w M j = pvJ p w M j0) * x j) = x j0 := by
    have : (sumN (rkM p w M) fun j => bI (pvJ p w M j = pvJ p w M j0) * x j) = sumN (rkM p w M) fun t => bI ((t : Int) = (j0 : Int)) * (fun u : Int => x u.toNat) (t : Int) := sumN_congr fun t ht => by
      simp only [Int.toNat_natCast]
      congr 1
      exact bI_congr ⟨fun e => by rw [pvJ_inj ht hj0 e], fun e => by rw [show t = j0 by omega]⟩
    rw [this, sumN_one (w := fun u : Int => x u.toNat) (a := j0), if_pos hj0]
    simp
  rw [e] at h3
  exact hx0 h3
/-- A bound of the room of solutions, by a map of solutions. -/
theorem ker_le {p : Int} {w v : Nat} {M N : List (List Int)} (hp : fpP p) (hM : ∀ i, i < M.length → (atR M i).length = w) (hN : ∀ i, i < N.length → (atR N i).length = v) (F : Nat → Nat → Int)
    (h1 : ∀ x, sol p w M x → sol p v N fun k => sumN w fun j => F k j * x j) (h2 : ∀ x, sol p w M x → (∀ k, k < v → p ∣ sumN w fun j => F k j * x j) → ∀ j, j < w → p ∣ x j) :
    (w : Int) - (rkM p w M : Nat) ≤ (v : Int) - (rkM p v N : Nat) := by
  have l1 := npL_len (p := p) (w := w) (M := M)
  have l2 := npL_len (p := p) (w := v) (M := N)
  rw [← l1, ← l2]
  refine Int.ofNat_le.2 (Nat.le_of_not_lt fun hlt => ?_)
  obtain ⟨x, ⟨j0, hj0, hx0⟩, hx⟩ := homog (field_fp hp) (npL p v N).length (npL p w M).length (fun i j => sumN w fun c => F ((npL p v N)[i]?.getD 0) c * xK p w M ((npL p w M)[j]?.getD 0) c) hlt
  have hsol : sol p w M fun k => sumN (npL p w M).length fun t => x t * xK p w M ((npL p w M)[t]?.getD 0) k := fun i hi => by
    rw [rv_sum]
    refine sumN_dvd fun t ht => ?_
    rw [rv_smul]
    obtain ⟨a, b⟩ := npL_at ht
    exact Int.dvd_mul_of_dvd_right (xK_sol hp hM a b i hi)
  have hF : ∀ k, (sumN w fun j => F k j * sumN (npL p w M).length fun t => x t * xK p w M ((npL p w M)[t]?.getD 0) j) = sumN (npL p w M).length fun t => (sumN w fun c => F k c * xK p w M ((npL p w M)[t]?.getD 0) c) * x t := fun k => by
    have e : (sumN w fun j => F k j * sumN (npL p w M).length fun t => x t * xK p w M ((npL p w M)[t]?.getD 0) j) = sumN w fun j => sumN (npL p w M).length fun t => (F k j * xK p w M ((npL p w M)[t]?.getD 0) j) * x t := sumN_congr fun j _ => by
      rw [← sumN_mul]
      refine sumN_congr fun t _ => ?_
      rw [Int.mul_assoc, Int.mul_comm (x t)]
    rw [e, sumN_swap]
    exact sumN_congr fun t _ => sumN_mulR _ _ _
  have hz := sol_zero hp hN (h1 _ hsol) fun c hc hnp => by
    have hm : c ∈ npL p v N := by
      unfold npL
      rw [List.mem_filter, List.mem_range, dec_iff]
      exact ⟨hc, hnp⟩
    obtain ⟨t, ht, e⟩ := List.getElem_of_mem hm
    have h3 := hx t ht
    rw [List.getElem?_eq_getElem ht, Option.getD_some, e] at h3
    rw [hF c]
    exact h3
  obtain ⟨c1, c2⟩ := npL_at hj0
  have h4 := h2 _ hsol hz _ c1
  have e4 : (sumN (npL p w M).length fun t => x t * xK p w M ((npL p w M)[t]?.getD 0) ((npL p w M)[j0]?.getD 0)) = x j0 := by
    have : (sumN (npL p w M).length fun t => x t * xK p w M ((npL p w M)[t]?.getD 0) ((npL p w M)[j0]?.getD 0)) = sumN (npL p w M).length fun t => bI ((t : Int) = (j0 : Int)) * (fun u : Int => x u.toNat) (t : Int) := sumN_congr fun t ht => by
      rw [xK_np c2, Int.mul_comm]
      simp only [Int.toNat_natCast]
      congr 1
      exact bI_congr ⟨fun e => by rw [npL_inj ht hj0 e], fun e => by rw [show t = j0 by omega]⟩
    rw [this, sumN_one (w := fun u : Int => x u.toNat) (a := j0), if_pos hj0]
    simp
  rw [e4] at h4
  exact hx0 h4
/-- Numbers on sets that the border of C in R takes to 0. -/
def solF (p : Int) (R C : List Int) (X : Int → Int) : Prop := ∀ r ∈ R, p ∣ sumL C fun u => sgnZ r u * X u
theorem rv_sgn {R C : List Int} {i : Nat} (hi : i < R.length) (X : Int → Int) (x : Nat → Int) (hx : ∀ j, j < C.length → x j = X (at0 C j)) : rv C.length (atR (sgnM R C) i) x = sumL C fun u => sgnZ (at0 R i) u * X u := by
  unfold rv sumL
  refine sumN_congr fun j hj => ?_
  rw [sgn_row hi hj, hx j hj]
/-- The numbers of a list's places, on sets. -/
noncomputable def onS (C : List Int) (x : Nat → Int) (u : Int) : Int := sumN C.length fun j => bI (at0 C j = u) * x j
theorem onS_at {C : List Int} (hC : C.Nodup) (x : Nat → Int) {j : Nat} (hj : j < C.length) : onS C x (at0 C j) = x j := by
  unfold onS
  have : (sumN C.length fun i => bI (at0 C i = at0 C j) * x i) = sumN C.length fun t => bI ((t : Int) = (j : Int)) * (fun u : Int => x u.toNat) (t : Int) := sumN_congr fun t ht => by
    simp only [Int.toNat_natCast]
    congr 1
    refine bI_congr ⟨fun e => ?_, fun e => by rw [show t = j by omega]⟩
    rw [at0_eq ht, at0_eq hj] at e
    have := (List.getElem_inj hC).1 e
    omega
  rw [this, sumN_one (w := fun u : Int => x u.toNat) (a := j), if_pos hj]
  simp
theorem onS_no {C : List Int} (x : Nat → Int) {u : Int} (h : u ∉ C) : onS C x u = 0 := sumN_zero fun j hj => by
  rw [bI_no fun e => h (by rw [← e]; exact getD_mem' hj), Int.zero_mul]
/-- The same for borders, by numbers on sets. -/
theorem ker_sets {p : Int} {R C R' C' : List Int} (hp : fpP p) (hC : C.Nodup) (hC' : C'.Nodup) (h1 : ∀ X, (∀ u, u ∉ C → X u = 0) → solF p R C X → solF p R' C' X)
    (h2 : ∀ X, (∀ u, u ∉ C → X u = 0) → solF p R C X → (∀ u ∈ C', p ∣ X u) → ∀ u ∈ C, p ∣ X u) : (C.length : Int) - (rkM p C.length (sgnM R C) : Nat) ≤ (C'.length : Int) - (rkM p C'.length (sgnM R' C') : Nat) := by
  have hl : ∀ {R C : List Int}, ∀ i, i < (sgnM R C).length → (atR (sgnM R C) i).length = C.length := fun {R C} i hi => by
    rw [sgnM_len] at hi
    rw [sgnM_at hi]
    simp
  have hs : ∀ x : Nat → Int, sol p C.length (sgnM R C) x → solF p R C (onS C x) := fun x hx r hr => by
    obtain ⟨i, hi, rfl⟩ := getD_mem_iff.1 hr
    have := hx i (by rw [sgnM_len]; exact hi)
    rwa [rv_sgn hi (onS C x) x fun j hj => (onS_at hC x hj).symm] at this
  refine ker_le hp hl hl (fun k j => bI (at0 C j = at0 C' k)) (fun x hx i hi => ?_) (fun x hx hz j hj => ?_)
  · rw [sgnM_len] at hi
    have := h1 (onS C x) (fun u hu => onS_no x hu) (hs x hx) (at0 R' i) (getD_mem' hi)
    rwa [← rv_sgn hi (onS C x) (fun k => sumN C.length fun j => bI (at0 C j = at0 C' k) * x j) fun _ _ => rfl] at this
  · have := h2 (onS C x) (fun u hu => onS_no x hu) (hs x hx) (fun u hu => by
      obtain ⟨k, hk, rfl⟩ := getD_mem_iff.1 hu
      exact hz k hk) (at0 C j) (getD_mem' hj)
    rwa [onS_at hC x hj] at this
/-- The same for borders, by images. -/
theorem im_sets {p : Int} {R C C' : List Int} (hp : fpP p) (hC' : C'.Nodup) (h : ∀ u ∈ C, ∃ X : Int → Int, ∀ r ∈ R, p ∣ (sumL C' fun v => sgnZ r v * X v) - sgnZ r u) : rkM p C.length (sgnM R C) ≤ rkM p C'.length (sgnM R C') := by
  have hl : ∀ {R C : List Int}, ∀ i, i < (sgnM R C).length → (atR (sgnM R C) i).length = C.length := fun {R C} i hi => by
    rw [sgnM_len] at hi
    rw [sgnM_at hi]
    simp
  refine im_le (f := R.length) hp hl hl (sgnM_len _ _) (sgnM_len _ _) fun j hj => ?_
  obtain ⟨X, hX⟩ := h (at0 C j) (getD_mem' hj)
  refine ⟨fun k => X (at0 C' k), fun i hi => ?_⟩
  rw [sgnM_len] at hi
  rw [rv_sgn hi X (fun k => X (at0 C' k)) fun _ _ => rfl]
  dsimp only
  rw [sgn_row hi hj]
  exact hX _ (getD_mem' hi)
end Go.Proofs.Ytmemomfffehnkaa
