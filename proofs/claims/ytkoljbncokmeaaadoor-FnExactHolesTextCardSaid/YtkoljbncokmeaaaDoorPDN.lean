import Derived.Test.YtkoljbncokmeaaaDoorPDF
import Derived.Test.YtkoljbncokmeaaaDoorPDG
import Derived.Test.YtkoljbncokmeaaaDoorPDM
namespace Go.Proofs.YtkoljbncokmeaaaDoor
open Go Go.RowKit
set_option maxRecDepth 1000000
set_option linter.unusedSimpArgs false
set_option linter.unusedVariables false
set_option maxHeartbeats 1000000
open Classical in
noncomputable def bI (p : Prop) : Int := if p then 1 else 0
theorem bI_yes {p : Prop} (h : p) : bI p = 1 := if_pos h
theorem bI_no {p : Prop} (h : ¬ p) : bI p = 0 := if_neg h
theorem bI_congr {p q : Prop} (h : p ↔ q) : bI p = bI q := by rw [propext h]
def sumN : Nat → (Nat → Int) → Int
  | 0, _ => 0
  | n + 1, f => sumN n f + f n
theorem sumN_congr {f g : Nat → Int} : ∀ {n : Nat}, (∀ k, k < n → f k = g k) → sumN n f = sumN n g
  | 0, _ => rfl
  | n + 1, h => by rw [sumN, sumN, sumN_congr fun k hk => h k (by omega), h n (by omega)]
theorem sumN_zero {f : Nat → Int} {n : Nat} (h : ∀ k, k < n → f k = 0) : sumN n f = 0 := by
  induction n with
  | zero => rfl
  | succ n ih => rw [sumN, ih fun k hk => h k (by omega), h n (by omega)]; rfl
theorem sumN_add (f g : Nat → Int) : ∀ n, sumN n (fun k => f k + g k) = sumN n f + sumN n g
  | 0 => rfl
  | n + 1 => by rw [sumN, sumN, sumN, sumN_add f g n]; omega
theorem sumN_mul (a : Int) (f : Nat → Int) : ∀ n, sumN n (fun k => a * f k) = a * sumN n f
  | 0 => by simp [sumN]
  | n + 1 => by rw [sumN, sumN, sumN_mul a f n, Int.mul_add]
theorem sumN_mulR (a : Int) (f : Nat → Int) (n : Nat) : sumN n (fun k => f k * a) = sumN n f * a := by
  rw [Int.mul_comm, ← sumN_mul]
  exact sumN_congr fun k _ => Int.mul_comm _ _
theorem sumN_swap (f : Nat → Nat → Int) (m : Nat) : ∀ n, sumN n (fun i => sumN m (f i)) = sumN m fun j => sumN n fun i => f i j
  | 0 => (sumN_zero fun _ _ => rfl).symm
  | n + 1 => by
    rw [sumN, sumN_swap f m n]
    have : (fun j => sumN (n + 1) fun i => f i j) = fun j => (sumN n fun i => f i j) + f n j := rfl
    rw [this, sumN_add]
theorem sumN_filter (p : Nat → Bool) : ∀ n, (((List.range n).filter p).length : Int) = sumN n fun u => bI (p u = true)
  | 0 => rfl
  | n + 1 => by
    rw [List.range_succ, List.filter_append, List.length_append, sumN, ← sumN_filter p n]
    by_cases h : p n = true
    · rw [bI_yes h]; simp [h]
    · rw [bI_no h]; simp [h]
theorem subS_natI {x y : Nat} (hx : x < 64) (hy : y < 64) : subS (x : Int) (y : Int) ↔ x &&& y = x := by
  have h1 := subS_iff' (a := (x : Int)) (b := (y : Int)) ⟨by omega, by omega⟩ ⟨by omega, by omega⟩
  rw [h1]
  show bitop .and .i64 (y : Int) (x : Int) = (x : Int) ↔ _
  rw [bits_and y x (by omega) (by omega), Nat.and_comm]
  omega
theorem sz_nat {x : Nat} (hx : x < 64) : sz (x : Int) = (pcF 6 x : Nat) := by
  rw [sz, Int.toNat_natCast, pc6 x hx]
end Go.Proofs.YtkoljbncokmeaaaDoor
namespace Go.Proofs.YtkoljbncokmeaaaDoor
open Go Go.RowKit
set_option maxRecDepth 1000000
set_option linter.unusedSimpArgs false
set_option linter.unusedVariables false
set_option maxHeartbeats 1000000
end Go.Proofs.YtkoljbncokmeaaaDoor
namespace Go.Proofs.YtkoljbncokmeaaaDoor
open Go Go.RowKit
set_option maxRecDepth 1000000
set_option linter.unusedSimpArgs false
set_option linter.unusedVariables false
set_option maxHeartbeats 1000000
theorem sumN_one {w : Int → Int} {a : Nat} : ∀ n, (sumN n fun u => bI ((u : Int) = (a : Int)) * w u) = if a < n then w a else 0
  | 0 => by simp [sumN]
  | n + 1 => by
    rw [sumN, sumN_one n]
    by_cases h : a < n
    · rw [if_pos h, if_pos (by omega), bI_no (by omega)]; omega
    · by_cases h2 : a = n
      · subst h2
        rw [if_neg h, if_pos (by omega), bI_yes rfl]; omega
      · rw [if_neg h, if_neg (by omega), bI_no (by omega)]; omega
theorem sumN_front (f : Nat → Int) : ∀ n, sumN (n + 1) f = f 0 + sumN n fun k => f (k + 1)
  | 0 => by simp [sumN]
  | n + 1 => by
    rw [sumN, sumN_front f n, sumN]
    omega
/-- A sum over a row. -/
def sumL (U : List Int) (w : Int → Int) : Int := sumN U.length fun k => w (at0 U k)
theorem sumL_nil (w : Int → Int) : sumL [] w = 0 := rfl
theorem sumL_cons (a : Int) (U : List Int) (w : Int → Int) : sumL (a :: U) w = w a + sumL U w := by
  unfold sumL
  rw [List.length_cons, sumN_front]
  rfl
/-- A sum over sets that are all different, as a sum over all numbers. -/
theorem sumL_mem (w : Int → Int) : ∀ {U : List Int}, U.Nodup → allS U → (sumN 64 fun u => bI ((u : Int) ∈ U) * w u) = sumL U w
  | [], _, _ => by
    rw [sumL_nil]
    exact sumN_zero fun k _ => by rw [bI_no (by simp)]; omega
  | a :: U, hn, hS => by
    rw [List.nodup_cons] at hn
    have ih := sumL_mem w hn.2 fun x hx => hS x (List.mem_cons_of_mem _ hx)
    rw [sumL_cons, ← ih]
    obtain ⟨x, hx, rfl⟩ := isS_nat0 (hS a (List.mem_cons_self ..))
    have e : (sumN 64 fun u => bI ((u : Int) ∈ (x : Int) :: U) * w u) = sumN 64 fun u => bI ((u : Int) = (x : Int)) * w u + bI ((u : Int) ∈ U) * w u := sumN_congr fun u hu => by
      by_cases h : (u : Int) = (x : Int)
      · rw [bI_yes h, bI_yes (by rw [h]; exact List.mem_cons_self ..), bI_no (by rw [h]; exact hn.1)]; omega
      · rw [bI_no h]
        by_cases h2 : (u : Int) ∈ U
        · rw [bI_yes h2, bI_yes (List.mem_cons_of_mem _ h2)]; omega
        · rw [bI_no h2, bI_no (fun hh => (List.mem_cons.1 hh).elim h h2)]; omega
    rw [e, sumN_add, sumN_one, if_pos hx]
end Go.Proofs.YtkoljbncokmeaaaDoor
namespace Go.Proofs.YtkoljbncokmeaaaDoor
open Go Go.RowKit
set_option maxRecDepth 1000000
set_option linter.unusedSimpArgs false
set_option linter.unusedVariables false
set_option maxHeartbeats 1000000
/-- The places but one. -/
def skipN (a j : Nat) : Nat := if j < a then j else j + 1
theorem sumN_skip (f : Nat → Int) : ∀ m a : Nat, a ≤ m → sumN (m + 1) f = f a + sumN m fun j => f (skipN a j)
  | 0, a, h => by
    have : a = 0 := by omega
    subst this
    simp [sumN]
  | m + 1, a, h => by
    by_cases e : a = m + 1
    · subst e
      rw [sumN]
      have : (sumN (m + 1) fun j => f (skipN (m + 1) j)) = sumN (m + 1) f := sumN_congr fun j hj => by simp [skipN, show j < m + 1 from hj]
      rw [this]
      omega
    · rw [sumN, sumN_skip f m a (by omega)]
      have : (sumN (m + 1) fun j => f (skipN a j)) = (sumN m fun j => f (skipN a j)) + f (skipN a m) := rfl
      rw [this]
      have e2 : skipN a m = m + 1 := by unfold skipN; rw [if_neg (by omega)]
      rw [e2]
      omega
theorem sumN_dvd {p : Int} {f : Nat → Int} : ∀ {n : Nat}, (∀ k, k < n → p ∣ f k) → p ∣ sumN n f
  | 0, _ => ⟨0, by simp [sumN]⟩
  | n + 1, h => by
    rw [sumN]
    exact Int.dvd_add (sumN_dvd fun k hk => h k (by omega)) (h n (by omega))
theorem sumN_neg (f : Nat → Int) (n : Nat) : sumN n (fun k => -(f k)) = -(sumN n f) := by
  have := sumN_mul (-1) f n
  rw [show (fun k => -1 * f k) = fun k => -(f k) from funext fun k => by omega] at this
  rw [this]; omega
theorem sumN_sub (f g : Nat → Int) (n : Nat) : sumN n (fun k => f k - g k) = sumN n f - sumN n g := by
  have : (fun k => f k - g k) = fun k => f k + -(g k) := funext fun k => by omega
  rw [this, sumN_add, sumN_neg]; omega
/-- A number that has an inverse. -/
def unitP (p a : Int) : Prop := ∃ b, p ∣ a * b - 1
def fieldP (p : Int) : Prop := ¬ p ∣ 1 ∧ ∀ a, ¬ p ∣ a → unitP p a
/-- Fewer equations than unknowns: there is a solution other than 0. -/
theorem homog {p : Int} (hp : fieldP p) : ∀ (t m : Nat) (A : Nat → Nat → Int), t < m → ∃ x : Nat → Int, (∃ j, j < m ∧ ¬ p ∣ x j) ∧ ∀ i, i < t → p ∣ sumN m fun j => A i j * x j
  | 0, m, A, h => ⟨fun _ => 1, ⟨0, h, hp.1⟩, fun i hi => absurd hi (Nat.not_lt_zero _)⟩
  | t + 1, m, A, h => by
    by_cases hz : ∀ j, j < m → p ∣ A t j
    · obtain ⟨x, h1, h2⟩ := homog hp t m A (by omega)
      refine ⟨x, h1, fun i hi => ?_⟩
      by_cases e : i = t
      · subst e
        exact sumN_dvd fun j hj => Int.dvd_mul_of_dvd_left (hz j hj)
      · exact h2 i (by omega)
    · obtain ⟨a, ha⟩ := Classical.not_forall.1 hz
      obtain ⟨ham, hna⟩ := Classical.not_imp.1 ha
      obtain ⟨b, hb⟩ := hp.2 _ hna
      obtain ⟨m', rfl⟩ : ∃ m', m = m' + 1 := ⟨m - 1, by omega⟩
      obtain ⟨x, ⟨j0, hj0, hx0⟩, h2⟩ := homog hp t m' (fun i j => A i (skipN a j) - A i a * b * A t (skipN a j)) (by omega)
      obtain ⟨S, hS⟩ : ∃ S, (sumN m' fun j => A t (skipN a j) * x j) = S := ⟨_, rfl⟩
      let y : Nat → Int := fun k => if k = a then -(b * S) else if k < a then x k else x (k - 1)
      have hya : y a = -(b * S) := if_pos rfl
      have hys : ∀ j, y (skipN a j) = x j := fun j => by
        show (if skipN a j = a then -(b * S) else if skipN a j < a then x (skipN a j) else x (skipN a j - 1)) = x j
        unfold skipN
        by_cases hja : j < a
        · rw [if_pos hja, if_neg (by omega), if_pos hja]
        · rw [if_neg hja, if_neg (by omega), if_neg (by omega), Nat.add_sub_cancel]
      refine ⟨y, ⟨skipN a j0, ?_, by rw [hys]; exact hx0⟩, fun i hi => ?_⟩
      · unfold skipN; split <;> omega
      · rw [sumN_skip _ m' a (by omega), hya]
        have e1 : (sumN m' fun j => A i (skipN a j) * y (skipN a j)) = sumN m' fun j => A i (skipN a j) * x j := sumN_congr fun j _ => by rw [hys]
        rw [e1]
        by_cases e : i = t
        · subst e
          rw [hS]
          have : A i a * -(b * S) + S = -((A i a * b - 1) * S) := by
            rw [Int.sub_mul, Int.mul_neg, Int.mul_assoc]; omega
          rw [this]
          exact (Int.dvd_neg).2 (Int.dvd_mul_of_dvd_left hb)
        · have h3 := h2 i (by omega)
          have e2 : (sumN m' fun j => (A i (skipN a j) - A i a * b * A t (skipN a j)) * x j) = A i a * -(b * S) + sumN m' fun j => A i (skipN a j) * x j := by
            have e3 : (fun j => (A i (skipN a j) - A i a * b * A t (skipN a j)) * x j) = fun j => A i (skipN a j) * x j - A i a * b * (A t (skipN a j) * x j) := funext fun j => by
              rw [Int.sub_mul, Int.mul_assoc (A i a * b)]
            rw [e3, sumN_sub, sumN_mul, hS, Int.mul_neg, ← Int.mul_assoc]
            omega
          rw [← e2]
          exact h3
theorem field_fp {p : Int} (hp : fpP p) : fieldP p := by
  refine ⟨by rcases hp with rfl | rfl | rfl <;> omega, fun a ha => ?_⟩
  rcases hp with rfl | rfl | rfl
  · exact ⟨1, by omega⟩
  · by_cases h : a % 3 = 1
    · exact ⟨1, by omega⟩
    · exact ⟨2, by omega⟩
  · by_cases h1 : a % 5 = 1
    · exact ⟨1, by omega⟩
    · by_cases h2 : a % 5 = 2
      · exact ⟨3, by omega⟩
      · by_cases h3 : a % 5 = 3
        · exact ⟨2, by omega⟩
        · exact ⟨4, by omega⟩
theorem inv_unit {p a : Int} (hp : fpP p) (ha : ¬ p ∣ a) : p ∣ a * invZ a p - 1 := by
  obtain ⟨b, hb⟩ := (field_fp hp).2 a ha
  rcases invZ_spec a p with ⟨_, h⟩ | ⟨m, e, m1, m2, m3, _⟩
  · exfalso
    have hc : ∀ c : Nat, 1 ≤ c → (c : Int) < p → (a % p * c) % p ≠ 1 := h
    rcases hp with rfl | rfl | rfl
    · have := hc 1 (by omega) (by omega); omega
    · have := hc 1 (by omega) (by omega)
      have := hc 2 (by omega) (by omega); omega
    · have hr : a % 5 = 1 ∨ a % 5 = 2 ∨ a % 5 = 3 ∨ a % 5 = 4 := by omega
      rcases hr with hr | hr | hr | hr
      · exact hc 1 (by omega) (by omega) (by rw [hr]; rfl)
      · exact hc 3 (by omega) (by omega) (by rw [hr]; rfl)
      · exact hc 2 (by omega) (by omega) (by rw [hr]; rfl)
      · exact hc 4 (by omega) (by omega) (by rw [hr]; rfl)
  · rw [e]
    have h4 : m = 1 ∨ m = 2 ∨ m = 3 ∨ m = 4 := by rcases hp with rfl | rfl | rfl <;> omega
    rcases hp with rfl | rfl | rfl <;> rcases h4 with rfl | rfl | rfl | rfl <;> omega
theorem sumN_cong {p : Int} {f g : Nat → Int} {n : Nat} (h : ∀ k, k < n → p ∣ f k - g k) : p ∣ sumN n f - sumN n g := by
  rw [← sumN_sub]
  exact sumN_dvd h
/-- A row, applied to numbers. -/
def rv (w : Nat) (r : List Int) (x : Nat → Int) : Int := sumN w fun j => at0 r j * x j
def sol (p : Int) (w : Nat) (M : List (List Int)) (x : Nat → Int) : Prop := ∀ i, i < M.length → p ∣ rv w (atR M i) x
theorem mod_sub (a p : Int) : p ∣ a % p - a := ⟨-(a / p), by have := Int.emod_add_mul_ediv a p; rw [Int.mul_neg]; omega⟩
theorem rv_scl (p f : Int) {w : Nat} {r : List Int} (hr : r.length = w) (x : Nat → Int) : p ∣ rv w (sclR p f r) x - f * rv w r x := by
  unfold rv
  rw [← sumN_mul]
  refine sumN_cong fun k hk => ?_
  have e : at0 (sclR p f r) k = at0 r k * f % p := by
    unfold sclR
    rw [rowF_at (by omega)]
    rfl
  rw [e]
  have : at0 r k * f % p * x k - f * (at0 r k * x k) = (at0 r k * f % p - at0 r k * f) * x k := by
    rw [Int.sub_mul, Int.mul_comm f, Int.mul_right_comm]
  rw [this]
  exact Int.dvd_mul_of_dvd_left (mod_sub _ _)
theorem rv_elim (p c : Int) {w : Nat} {r q : List Int} (hr : r.length = w) (x : Nat → Int) : p ∣ rv w (elimR p c r q) x - (rv w r x - c * rv w q x) := by
  unfold rv
  rw [← sumN_mul, ← sumN_sub]
  refine sumN_cong fun k hk => ?_
  have e : at0 (elimR p c r q) k = (at0 r k - c * at0 q k) % p := by
    unfold elimR
    rw [rowF_at (by omega)]
    rfl
  rw [e]
  have : (at0 r k - c * at0 q k) % p * x k - (at0 r k * x k - c * (at0 q k * x k)) = ((at0 r k - c * at0 q k) % p - (at0 r k - c * at0 q k)) * x k := by
    rw [Int.sub_mul, Int.sub_mul, Int.mul_assoc]
  rw [this]
  exact Int.dvd_mul_of_dvd_left (mod_sub _ _)
theorem dvd_cong {p a b : Int} (h : p ∣ a - b) : p ∣ a ↔ p ∣ b := by
  constructor
  · intro ha
    have := Int.dvd_sub ha h
    rwa [show a - (a - b) = b by omega] at this
  · intro hb
    have := Int.dvd_add h hb
    rwa [show a - b + b = a by omega] at this
theorem unit_dvd {p f a : Int} (h : unitP p f) (hd : p ∣ f * a) : p ∣ a := by
  obtain ⟨b, hb⟩ := h
  have h1 : p ∣ b * (f * a) := Int.dvd_mul_of_dvd_right hd
  have h2 : p ∣ (f * b - 1) * a := Int.dvd_mul_of_dvd_left hb
  have h3 := Int.dvd_sub h1 h2
  have : b * (f * a) - (f * b - 1) * a = a := by
    rw [Int.sub_mul, ← Int.mul_assoc, Int.mul_comm b f]; omega
  rwa [this] at h3
theorem sol_swp {p : Int} {w : Nat} {M : List (List Int)} {d a : Nat} (hd : d < M.length) (ha : a < M.length) (x : Nat → Int) : sol p w (swp M d a) x ↔ sol p w M x := by
  constructor
  · intro h i hi
    by_cases e : i = d
    · subst e
      have := h a (by rw [swp_len]; exact ha)
      rwa [swp_at hd ha ha, if_pos rfl] at this
    · by_cases e2 : i = a
      · subst e2
        have := h d (by rw [swp_len]; exact hd)
        rw [swp_at hd ha hd, if_neg (fun h => e h.symm), if_pos rfl] at this
        exact this
      · have := h i (by rw [swp_len]; exact hi)
        rwa [swp_at hd ha hi, if_neg e2, if_neg e] at this
  · intro h i hi
    rw [swp_len] at hi
    rw [swp_at hd ha hi]
    split
    · exact h d hd
    · split
      · exact h a ha
      · exact h i hi
theorem sol_scl {p : Int} {w : Nat} {M : List (List Int)} (hw : ∀ i, i < M.length → (atR M i).length = w) {d j : Nat} (hd : d < M.length) (hu : unitP p (invZ (at0 (atR M d) j) p)) (x : Nat → Int) : sol p w (sclM p M d j) x ↔ sol p w M x := by
  have hrow : ∀ i, i < M.length → atR (sclM p M d j) i = if d = i then sclR p (invZ (at0 (atR M d) j) p) (atR M d) else atR M i := fun i hi => by
    unfold sclM
    rw [atR_set]
    by_cases e : d = i
    · rw [if_pos ⟨e, hi⟩, if_pos e]
    · rw [if_neg fun h => e h.1, if_neg e]
  have hc := rv_scl p (invZ (at0 (atR M d) j) p) (hw d hd) x
  constructor
  · intro h i hi
    have h1 := h i (by rw [sclM_len]; exact hi)
    rw [hrow i hi] at h1
    by_cases e : d = i
    · rw [if_pos e] at h1
      subst e
      exact unit_dvd hu ((dvd_cong hc).1 h1)
    · rwa [if_neg e] at h1
  · intro h i hi
    rw [sclM_len] at hi
    rw [hrow i hi]
    by_cases e : d = i
    · rw [if_pos e]
      subst e
      exact (dvd_cong hc).2 (Int.dvd_mul_of_dvd_right (h d hi))
    · rw [if_neg e]; exact h i hi
theorem sol_clr {p : Int} {w : Nat} {M : List (List Int)} (hw : ∀ i, i < M.length → (atR M i).length = w) {d j : Nat} (hd : d < M.length) (x : Nat → Int) : sol p w (clrM p M d j) x ↔ sol p w M x := by
  have hrow : ∀ i, i < M.length → atR (clrM p M d j) i = clrG p M d j i := fun i hi => by
    unfold clrM
    rw [pM_lt hi hi]
  constructor
  · intro h
    have hdd : p ∣ rv w (atR M d) x := by
      have := h d (by rw [clrM_len]; exact hd)
      rwa [hrow d hd, clrG_d] at this
    intro i hi
    by_cases e : i = d
    · rw [e]; exact hdd
    · have := h i (by rw [clrM_len]; exact hi)
      rw [hrow i hi, clrG_ne e] at this
      have h2 := (dvd_cong (rv_elim p (at0 (atR M i) j) (q := atR M d) (hw i hi) x)).1 this
      have h3 := Int.dvd_add h2 (Int.dvd_trans hdd (Int.dvd_mul_left (at0 (atR M i) j) _))
      rwa [show rv w (atR M i) x - at0 (atR M i) j * rv w (atR M d) x + at0 (atR M i) j * rv w (atR M d) x = rv w (atR M i) x by omega] at h3
  · intro h i hi
    rw [clrM_len] at hi
    rw [hrow i hi]
    by_cases e : i = d
    · rw [e, clrG_d]; exact h d hd
    · rw [clrG_ne e]
      exact (dvd_cong (rv_elim p (at0 (atR M i) j) (q := atR M d) (hw i hi) x)).2 (Int.dvd_sub (h i hi) (Int.dvd_mul_of_dvd_right (h d hd)))
theorem fndZ_hit2 {M : List (List Int)} {j : Nat} : ∀ (k i : Nat), (∀ q, i ≤ q → q < fndZ M j k i → at0 (atR M q) j = 0) ∧ (fndZ M j k i < i + k → at0 (atR M (fndZ M j k i)) j ≠ 0)
  | 0, i => ⟨fun q h1 h2 => by simp [fndZ] at h2; omega, fun h => by simp [fndZ] at h⟩
  | k + 1, i => by
    by_cases h : at0 (atR M i) j = 0
    · rw [fndZ_yes h]
      obtain ⟨h1, h2⟩ := fndZ_hit2 (M := M) (j := j) k (i + 1)
      refine ⟨fun q hq hq2 => ?_, fun hh => h2 (by omega)⟩
      by_cases e : q = i
      · rw [e]; exact h
      · exact h1 q (by omega) hq2
    · rw [fndZ_no h]
      exact ⟨fun q h1 h2 => by omega, fun _ => h⟩
theorem small_dvd {p a : Int} (h0 : 0 ≤ a) (hp : a < p) (hd : p ∣ a) : a = 0 := by
  have := Int.emod_eq_zero_of_dvd hd
  rwa [Int.emod_eq_of_lt h0 hp] at this
section piv
variable {p : Int} {w : Nat} {M : List (List Int)} {d a j : Nat}
theorem piv_d (hp : fpP p) (hM : okM p w M) (hd : d < M.length) (ha : a < M.length) : atR (pivM p M d a j) d = sclR p (invZ (at0 (atR M a) j) p) (atR M a) := by
  have hd2 : d < (sclM p (swp M d a) d j).length := by simpa using hd
  unfold pivM clrM
  rw [pM_lt hd2 hd2, clrG_d]
  unfold sclM
  rw [atR_set, if_pos ⟨rfl, by simpa using hd⟩]
  have e : atR (swp M d a) d = atR M a := by
    rw [swp_at hd ha hd]
    by_cases h : d = a
    · rw [if_pos h, h]
    · rw [if_neg h, if_pos rfl]
  rw [e]
theorem piv_i (hp : fpP p) (hM : okM p w M) (hd : d < M.length) (ha : a < M.length) {i : Nat} (hi : i < M.length) (hid : i ≠ d) : atR (pivM p M d a j) i = elimR p (at0 (if i = a then atR M d else atR M i) j) (if i = a then atR M d else atR M i) (sclR p (invZ (at0 (atR M a) j) p) (atR M a)) := by
  have hi2 : i < (sclM p (swp M d a) d j).length := by simpa using hi
  have hd2 : d < (sclM p (swp M d a) d j).length := by simpa using hd
  have e0 : atR (swp M d a) d = atR M a := by
    rw [swp_at hd ha hd]
    by_cases h : d = a
    · rw [if_pos h, h]
    · rw [if_neg h, if_pos rfl]
  have e1 : atR (sclM p (swp M d a) d j) d = sclR p (invZ (at0 (atR M a) j) p) (atR M a) := by
    unfold sclM
    rw [atR_set, if_pos ⟨rfl, by simpa using hd⟩, e0]
  have e2 : atR (sclM p (swp M d a) d j) i = if i = a then atR M d else atR M i := by
    unfold sclM
    rw [atR_set, if_neg fun h => hid h.1.symm, swp_at hd ha hi]
    by_cases h : i = a
    · rw [if_pos h, if_pos h]
    · rw [if_neg h, if_neg h, if_neg hid]
  unfold pivM clrM
  rw [pM_lt hi2 hi2, clrG_ne hid, e1, e2]
theorem scl_at {f : Int} {r : List Int} {k : Nat} (h : k < r.length) : at0 (sclR p f r) k = at0 r k * f % p := by
  unfold sclR
  rw [rowF_at h]
  rfl
theorem elim_at {c : Int} {r q : List Int} {k : Nat} (h : k < r.length) : at0 (elimR p c r q) k = (at0 r k - c * at0 q k) % p := by
  unfold elimR
  rw [rowF_at h]
  rfl
theorem piv_one (hp : fpP p) (hM : okM p w M) (hd : d < M.length) (ha : a < M.length) (hj : j < w) (hn : at0 (atR M a) j ≠ 0) : at0 (atR (pivM p M d a j) d) j = 1 := by
  obtain ⟨l1, l2⟩ := hM a ha
  have hna : ¬ p ∣ at0 (atR M a) j := fun h => hn (small_dvd (l2 j hj).1 (l2 j hj).2 h)
  have hu := inv_unit hp hna
  rw [piv_d hp hM hd ha, scl_at (by omega)]
  generalize at0 (atR M a) j * invZ (at0 (atR M a) j) p = v at *
  rcases hp with rfl | rfl | rfl <;> omega
theorem piv_col (hp : fpP p) (hM : okM p w M) (hd : d < M.length) (ha : a < M.length) (hj : j < w) (hn : at0 (atR M a) j ≠ 0) {i : Nat} (hi : i < M.length) (hid : i ≠ d) : at0 (atR (pivM p M d a j) i) j = 0 := by
  have h1 := piv_one hp hM hd ha hj hn
  rw [piv_d hp hM hd ha] at h1
  have hl : j < (if i = a then atR M d else atR M i).length := by
    split
    · rw [(hM d hd).1]; exact hj
    · rw [(hM i hi).1]; exact hj
  rw [piv_i hp hM hd ha hi hid, elim_at hl, h1, Int.mul_one, Int.sub_self, Int.zero_emod]
/-- A column that is 0 in the rows d and a stays as it is. -/
theorem piv_keep (hp : fpP p) (hM : okM p w M) (hd : d < M.length) (ha : a < M.length) {k : Nat} (hk : k < w) (h1 : at0 (atR M d) k = 0) (h2 : at0 (atR M a) k = 0) {i : Nat} (hi : i < M.length) : at0 (atR (pivM p M d a j) i) k = at0 (atR M i) k := by
  have e0 : at0 (sclR p (invZ (at0 (atR M a) j) p) (atR M a)) k = 0 := by rw [scl_at (by rw [(hM a ha).1]; exact hk), h2, Int.zero_mul, Int.zero_emod]
  by_cases hid : i = d
  · rw [hid, piv_d hp hM hd ha, e0, h1]
  · have hl : k < (if i = a then atR M d else atR M i).length := by
      split
      · rw [(hM d hd).1]; exact hk
      · rw [(hM i hi).1]; exact hk
    rw [piv_i hp hM hd ha hi hid, elim_at hl, e0, Int.mul_zero, Int.sub_zero]
    by_cases hia : i = a
    · rw [if_pos hia, hia, h1, h2, Int.zero_emod]
    · rw [if_neg hia]
      obtain ⟨_, l2⟩ := hM i hi
      exact Int.emod_eq_of_lt (l2 k hk).1 (l2 k hk).2
theorem sol_piv (hp : fpP p) (hM : okM p w M) (hd : d < M.length) (ha : a < M.length) (hj : j < w) (hn : at0 (atR M a) j ≠ 0) (x : Nat → Int) : sol p w (pivM p M d a j) x ↔ sol p w M x := by
  obtain ⟨l1, l2⟩ := hM a ha
  have hna : ¬ p ∣ at0 (atR M a) j := fun h => hn (small_dvd (l2 j hj).1 (l2 j hj).2 h)
  have hu := inv_unit hp hna
  have hs := okM_swp hM hd ha
  have e0 : atR (swp M d a) d = atR M a := by
    rw [swp_at hd ha hd]
    by_cases h : d = a
    · rw [if_pos h, h]
    · rw [if_neg h, if_pos rfl]
  unfold pivM
  rw [sol_clr (fun i hi => (okM_scl hp hs j (by simpa using hd) i hi).1) (by simpa using hd), sol_scl (fun i hi => (hs i hi).1) (by simpa using hd) ⟨at0 (atR M a) j, by rw [e0, Int.mul_comm]; exact hu⟩, sol_swp hd ha]
end piv
structure rrI (p : Int) (w : Nat) (M0 : List (List Int)) (j : Nat) (x : List (List Int) × List Int) : Prop where
  base : redI p w M0 j x
  sl : ∀ y, sol p w x.1 y ↔ sol p w M0 y
  one : ∀ q, q < x.2.length → at0 (atR x.1 q) (at0 x.2 q).toNat = 1
  zer : ∀ q, q < x.2.length → ∀ i, i < x.1.length → i ≠ q → at0 (atR x.1 i) (at0 x.2 q).toNat = 0
  low : ∀ i, x.2.length ≤ i → i < x.1.length → ∀ k, k < j → at0 (atR x.1 i) k = 0
theorem rrI_step {p : Int} {w : Nat} {M0 : List (List Int)} {j : Nat} {x : List (List Int) × List Int} (hp : fpP p) (hj : j < w) (h : rrI p w M0 j x) : rrI p w M0 (j + 1) (redC p j x) := by
  obtain ⟨M, P⟩ := x
  have hb := redI_step hp h.base
  have hok := h.base.ok
  have hjj := h.base.hj
  have hs := h.base.hs
  simp only at hok hjj hs
  obtain ⟨f1, f2⟩ := fndZ_hit2 (M := M) (j := j) (M.length - P.length) P.length
  by_cases hc : P.length < M.length ∧ fndZ M j (M.length - P.length) P.length < M.length
  · have e := redC_yes (p := p) (M := M) (P := P) rfl hc.1 hc.2
    obtain ⟨a, ha⟩ : ∃ a, fndZ M j (M.length - P.length) P.length = a := ⟨_, rfl⟩
    have hab := fndZ_bnd M j (M.length - P.length) P.length
    rw [ha] at e f2 hc hab
    have hn : at0 (atR M a) j ≠ 0 := f2 (by omega)
    rw [e] at hb ⊢
    have hlow := h.low
    have hz := h.zer
    have h1 := h.one
    simp only at hlow hz h1
    have hPw : ∀ q, q < P.length → (at0 P q).toNat < j := fun q hq => by have := hjj q hq; omega
    have keep : ∀ k, k < j → ∀ i, i < M.length → at0 (atR (pivM p M P.length a j) i) k = at0 (atR M i) k := fun k hk i hi =>
      piv_keep hp hok hc.1 hc.2 (by omega) (hlow P.length (Nat.le_refl _) hc.1 k hk) (hlow a hab.1 hc.2 k hk) hi
    refine ⟨hb, fun y => ?_, fun q hq => ?_, fun q hq i hi hne => ?_, fun i h2 hi k hk => ?_⟩
    · simp only
      rw [sol_piv hp hok hc.1 hc.2 hj hn]
      exact h.sl y
    · simp only [List.length_append, List.length_singleton] at hq
      simp only
      rw [at0_app]
      split
      · rename_i hqp
        rw [keep _ (hPw q hqp) q (by omega)]
        exact h1 q hqp
      · have hqe : q = P.length := by omega
        rw [hqe, Nat.sub_self]
        show at0 (atR (pivM p M P.length a j) P.length) ((j : Int)).toNat = 1
        rw [Int.toNat_natCast]
        exact piv_one hp hok hc.1 hc.2 hj hn
    · simp only [List.length_append, List.length_singleton] at hq
      simp only [pivM_len] at hi
      simp only
      rw [at0_app]
      split
      · rename_i hqp
        rw [keep _ (hPw q hqp) i hi]
        exact hz q hqp i hi hne
      · have hqe : q = P.length := by omega
        rw [hqe, Nat.sub_self]
        show at0 (atR (pivM p M P.length a j) i) ((j : Int)).toNat = 0
        rw [Int.toNat_natCast]
        exact piv_col hp hok hc.1 hc.2 hj hn hi (by omega)
    · simp only [List.length_append, List.length_singleton] at h2
      simp only [pivM_len] at hi
      simp only
      by_cases hkj : k = j
      · rw [hkj]
        exact piv_col hp hok hc.1 hc.2 hj hn hi (by omega)
      · rw [keep k (by omega) i hi]
        exact hlow i (by omega) hi k (by omega)
  · rw [redC_no hc] at hb ⊢
    refine ⟨hb, h.sl, h.one, h.zer, fun i h2 hi k hk => ?_⟩
    by_cases hkj : k = j
    · simp only at h2 hi
      rw [hkj]
      have : ¬ fndZ M j (M.length - P.length) P.length < M.length := fun hh => hc ⟨by omega, hh⟩
      exact f1 i h2 (by omega)
    · exact h.low i h2 hi k (by omega)
theorem rrI_all {p : Int} {w : Nat} {M0 : List (List Int)} (hp : fpP p) (h : okM p w M0) : ∀ j, j ≤ w → rrI p w M0 j (redS p M0 j)
  | 0, _ => ⟨redI_all hp h 0, fun _ => Iff.rfl, fun q hq => by simp [redS] at hq, fun q hq => by simp [redS] at hq, fun i _ _ k hk => by omega⟩
  | j + 1, hj => rrI_step hp (by omega) (rrI_all hp h j (by omega))
/-- The number of pivots. -/
noncomputable def rkW (p : Int) (w : Nat) (M : List (List Int)) : Nat := (redS p M w).2.length
theorem rv_pick {m w : Nat} (r : List Int) (J : Nat → Nat) (hJ : ∀ j, j < m → J j < w) (x : Nat → Int) : rv w r (fun k => sumN m fun j => bI (J j = k) * x j) = sumN m fun j => at0 r (J j) * x j := by
  unfold rv
  have e : (sumN w fun k => at0 r k * sumN m fun j => bI (J j = k) * x j) = sumN w fun k => sumN m fun j => bI (J j = k) * (at0 r (J j) * x j) := sumN_congr fun k hk => by
    rw [← sumN_mul]
    refine sumN_congr fun j hj => ?_
    by_cases h : J j = k
    · rw [bI_yes h, h, Int.one_mul, Int.one_mul]
    · rw [bI_no h]; simp
  rw [e, sumN_swap]
  refine sumN_congr fun j hj => ?_
  rw [sumN_mulR]
  have : (sumN w fun k => bI (J j = k)) = 1 := by
    have h1 : ∀ n, (sumN n fun k => bI (J j = k)) = bI (J j < n) := fun n => by
      induction n with
      | zero => rw [bI_no (by omega)]; rfl
      | succ n ih =>
        rw [sumN, ih]
        by_cases a : J j < n
        · rw [bI_yes a, bI_no (by omega), bI_yes (by omega)]; rfl
        · by_cases b : J j = n
          · rw [bI_no a, bI_yes b, bI_yes (by omega)]; rfl
          · rw [bI_no a, bI_no b, bI_no (by omega)]; rfl
    rw [h1, bI_yes (hJ j hj)]
  rw [this, Int.one_mul]
end Go.Proofs.YtkoljbncokmeaaaDoor
namespace Go.Proofs.YtkoljbncokmeaaaDoor
open Go Go.RowKit
set_option maxRecDepth 1000000
set_option linter.unusedSimpArgs false
set_option linter.unusedVariables false
set_option maxHeartbeats 1000000
end Go.Proofs.YtkoljbncokmeaaaDoor
namespace Go.Proofs.YtkoljbncokmeaaaDoor
open Go Go.RowKit
set_option maxRecDepth 1000000
set_option linter.unusedSimpArgs false
set_option linter.unusedVariables false
set_option maxHeartbeats 1000000
/-- The sets of a size, and their places. -/
def ffN (k : Nat) : List Nat := (List.range 64).filter fun x => pcF 6 x == k
def sgN (x y : Nat) : Int := if x - (x &&& y) = 0 then 1 - 2 * ((pcF 6 (y &&& (y - (y &&& x) - 1)) % 2 : Nat) : Int) else 0
def bchk (k n m : Nat) (E : List (List (Nat × Bool))) : Bool :=
  Nat.beq (ffN (k - 1)).length n && (Nat.beq (ffN k).length m && (ffN (k - 1)).all fun x => (ffN k).all fun y => decide (1 ≤ y - (y &&& x)) && (sgN x y == eM E ((ffN (k - 1)).idxOf x) ((ffN k).idxOf y)))
theorem bchk1 : bchk 1 1 6 ent1 = true := by decide +kernel
theorem bchk2 : bchk 2 6 15 ent2 = true := by decide +kernel
theorem bchk3 : bchk 3 15 20 ent3 = true := by decide +kernel
theorem bchk4 : bchk 4 20 15 ent4 = true := by decide +kernel
theorem bchk5 : bchk 5 15 6 ent5 = true := by decide +kernel
theorem bchk6 : bchk 6 6 1 ent6 = true := by decide +kernel
theorem mem_ffN {k x : Nat} : x ∈ ffN k ↔ x < 64 ∧ pcF 6 x = k := by
  unfold ffN
  rw [List.mem_filter, List.mem_range, beq_iff_eq]
theorem sgZ_nat {x y : Nat} (hx : x < 64) (hy : y < 64) (h1 : 1 ≤ y - (y &&& x)) : sgnZ (x : Int) (y : Int) = sgN x y := by
  unfold sgN
  by_cases h : x - (x &&& y) = 0
  · have hs : subS (x : Int) (y : Int) := by
      unfold subS
      rw [bnot_nat0 x y hx hy, h]; rfl
    rw [sgnZ_yes hs, if_pos h, bnot_nat0 y x hy hx]
    have e : (((y - (y &&& x) : Nat) : Int) - 1) = ((y - (y &&& x) - 1 : Nat) : Int) := by omega
    rw [e, band_nat0 y _ hy (by omega), sz_nat (by have := Nat.and_le_left (n := y) (m := y - (y &&& x) - 1); omega)]
    omega
  · have hs : ¬ subS (x : Int) (y : Int) := by
      unfold subS
      rw [bnot_nat0 x y hx hy]
      omega
    rw [sgnZ_no hs, if_neg h]
theorem idx_inj {l : List Nat} {x y : Nat} (hx : x ∈ l) (hy : y ∈ l) (h : l.idxOf x = l.idxOf y) : x = y := by
  have h1 := List.getElem_idxOf (List.idxOf_lt_length_iff.2 hx)
  have h2 := List.getElem_idxOf (List.idxOf_lt_length_iff.2 hy)
  have h3 : l[l.idxOf x]'(List.idxOf_lt_length_iff.2 hx) = l[l.idxOf y]'(List.idxOf_lt_length_iff.2 hy) := by congr 1
  rw [← h1, ← h2, h3]
theorem nm_inj {g : Nat → Nat} {l : List Nat} (h : ∀ a ∈ l, ∀ b ∈ l, g a = g b → a = b) (hn : l.Nodup) : (l.map g).Nodup := nodup_map h hn
theorem at0_inj {l : List Int} (hn : l.Nodup) {a b : Nat} (ha : a < l.length) (hb : b < l.length) (e : at0 l a = at0 l b) : a = b := by
  rw [at0_eq ha, at0_eq hb] at e
  rw [List.nodup_iff_pairwise_ne, List.pairwise_iff_getElem] at hn
  rcases Nat.lt_trichotomy a b with h1 | h1 | h1
  · exact absurd e (hn a b ha hb h1)
  · exact h1
  · exact absurd e.symm (hn b a hb ha h1)
theorem bor_ent {R C : List Int} {i j : Nat} (hi : i < R.length) (hj : j < C.length) : ent (sgnM R C) i j = sgnZ (at0 R i) (at0 C j) := by
  unfold ent
  rw [sgnM_at hi, ← rowF_map, rowF_at hj]
theorem bor_gen {k n m : Nat} {E : List (List (Nat × Bool))} (hc : bchk k n m E = true) (hd : ∀ R C : List Nat, R.Nodup → C.Nodup → (∀ r ∈ R, r < n) → (∀ c ∈ C, c < m) → R.length = C.length → (dtL (eM E) R C).natAbs ≤ 2) (hk : 1 ≤ k)
    {R C : List Int} (hR : R.Nodup) (hC : C.Nodup) (h1 : ∀ r ∈ R, isS r ∧ sz r = (k : Int) - 1) (h2 : ∀ s ∈ C, isS s ∧ sz s = k) : mB 2 R.length C.length (ent (sgnM R C)) := by
  unfold bchk at hc
  simp only [Bool.and_eq_true, List.all_eq_true, decide_eq_true_eq, Nat.beq_eq, beq_iff_eq] at hc
  obtain ⟨c1, c2, c3⟩ := hc
  have m1 : ∀ a, a < R.length → (at0 R a).toNat ∈ ffN (k - 1) ∧ at0 R a = ((at0 R a).toNat : Int) := fun a ha => by
    obtain ⟨g1, g2⟩ := h1 _ (getD_mem' ha)
    have e : at0 R a = ((at0 R a).toNat : Int) := by have := g1.1; omega
    refine ⟨mem_ffN.2 ⟨by have := g1.2; omega, ?_⟩, e⟩
    rw [e, sz_nat (by have := g1.2; omega)] at g2
    omega
  have m2 : ∀ a, a < C.length → (at0 C a).toNat ∈ ffN k ∧ at0 C a = ((at0 C a).toNat : Int) := fun a ha => by
    obtain ⟨g1, g2⟩ := h2 _ (getD_mem' ha)
    have e : at0 C a = ((at0 C a).toNat : Int) := by have := g1.1; omega
    refine ⟨mem_ffN.2 ⟨by have := g1.2; omega, ?_⟩, e⟩
    rw [e, sz_nat (by have := g1.2; omega)] at g2
    omega
  intro Rl Cl hl hRn hCn hRb hCb
  have e1 : dtL (ent (sgnM R C)) Rl Cl = dtL (fun a b => eM E ((ffN (k - 1)).idxOf (at0 R a).toNat) ((ffN k).idxOf (at0 C b).toNat)) Rl Cl :=
    dtL_congr (n := R.length) (w := C.length) (fun a b ha hb => by
      obtain ⟨p1, p2⟩ := m1 a ha
      obtain ⟨q1, q2⟩ := m2 b hb
      obtain ⟨x1, x2⟩ := c3 _ p1 _ q1
      rw [bor_ent ha hb, p2, q2, sgZ_nat (mem_ffN.1 p1).1 (mem_ffN.1 q1).1 x1, x2]
      simp only [Int.toNat_natCast]) (by omega) hRb hCb
  rw [e1, dtL_map (f := eM E) (R := Rl) (C := Cl) (fun a => (ffN (k - 1)).idxOf (at0 R a).toNat) (fun b => (ffN k).idxOf (at0 C b).toNat) (by omega)]
  refine hd _ _ (nm_inj (fun a ha b hb e => ?_) hRn) (nm_inj (fun a ha b hb e => ?_) hCn) (fun r hm => ?_) (fun c hm => ?_) (by simpa using hl)
  · have p := m1 a (hRb a ha)
    have q := m1 b (hRb b hb)
    have h3 := idx_inj p.1 q.1 e
    exact at0_inj hR (hRb a ha) (hRb b hb) (by rw [p.2, q.2, h3])
  · have p := m2 a (hCb a ha)
    have q := m2 b (hCb b hb)
    have h3 := idx_inj p.1 q.1 e
    exact at0_inj hC (hCb a ha) (hCb b hb) (by rw [p.2, q.2, h3])
  · obtain ⟨a, ha, e⟩ := List.mem_map.1 hm
    rw [← e, ← c1]
    exact List.idxOf_lt_length_iff.2 (m1 a (hRb a ha)).1
  · obtain ⟨a, ha, e⟩ := List.mem_map.1 hm
    rw [← e, ← c2]
    exact List.idxOf_lt_length_iff.2 (m2 a (hCb a ha)).1
theorem bor_mB {k : Nat} (hk : 1 ≤ k ∧ k ≤ 6) {R C : List Int} (hR : R.Nodup) (hC : C.Nodup) (h1 : ∀ r ∈ R, isS r ∧ sz r = (k : Int) - 1) (h2 : ∀ s ∈ C, isS s ∧ sz s = k) : mB 2 R.length C.length (ent (sgnM R C)) := by
  have : k = 1 ∨ k = 2 ∨ k = 3 ∨ k = 4 ∨ k = 5 ∨ k = 6 := by omega
  rcases this with rfl | rfl | rfl | rfl | rfl | rfl
  · exact bor_gen bchk1 det1 (by omega) hR hC h1 h2
  · exact bor_gen bchk2 det2 (by omega) hR hC h1 h2
  · exact bor_gen bchk3 det3 (by omega) hR hC h1 h2
  · exact bor_gen bchk4 det4 (by omega) hR hC h1 h2
  · exact bor_gen bchk5 det5 (by omega) hR hC h1 h2
  · exact bor_gen bchk6 det6 (by omega) hR hC h1 h2
/-- The Smith form of a border. -/
noncomputable def bsm (R C : List Int) : List Int := (smsV (sgnM R C)).getD []
theorem bor_smith {k : Nat} (hk : 1 ≤ k ∧ k ≤ 6) {R C : List Int} (hR : R.Nodup) (hC : C.Nodup) (h1 : ∀ r ∈ R, isS r ∧ sz r = (k : Int) - 1) (h2 : ∀ s ∈ C, isS s ∧ sz s = k) : smsV (sgnM R C) = some (bsm R C) ∧ smiV (sgnM R C) = some (bsm R C) := by
  have h := bor_mB hk hR hC h1 h2
  have hw : 0 < R.length → wdM (sgnM R C) = C.length := fun h0 => by
    unfold wdM
    rw [sgnM_at h0]
    simp
  have h' : mB 2 (sgnM R C).length (wdM (sgnM R C)) (ent (sgnM R C)) := by
    rw [sgnM_len]
    by_cases h0 : 0 < R.length
    · rw [hw h0]; exact h
    · intro Rl Cl hl _ _ hRb _
      have : Rl = [] := by
        cases Rl with
        | nil => rfl
        | cons a l => have := hRb a List.mem_cons_self; omega
      subst this
      show (1 : Int).natAbs ≤ 2
      decide
  obtain ⟨S, e1, e2⟩ := smith2 h'
  unfold bsm
  rw [e1]
  exact ⟨rfl, e2⟩
end Go.Proofs.YtkoljbncokmeaaaDoor
namespace Go.Proofs.YtkoljbncokmeaaaDoor
open Go Go.RowKit
set_option maxRecDepth 1000000
set_option linter.unusedSimpArgs false
set_option linter.unusedVariables false
set_option maxHeartbeats 1000000
/-- The rank of a matrix modulo p. -/
noncomputable def rnk (p : Int) (M : List (List Int)) : Nat := (redS p (modM p M) (atR M 0).length).2.length
theorem rnk_nil (p : Int) : rnk p [] = 0 := by
  have e : modM p [] = [] := List.length_eq_zero_iff.1 (by simp)
  unfold rnk
  rw [e, redS_nil]
  rfl
theorem rnk_wide {p : Int} {M : List (List Int)} (h : (atR M 0).length = 0) : rnk p M = 0 := by
  unfold rnk
  rw [h]
  rfl
/-- The rank of the border from size k to size k - 1. -/
noncomputable def rkZ (p : Int) (q : Int → Prop) (k : Int) : Int := (rnk p (sgnM (szS q (k - 1)) (szS q k)) : Nat)
theorem rkZ_low (p : Int) (q : Int → Prop) : rkZ p q 0 = 0 := by
  have e : szS q (0 - 1) = [] := szS_none (by omega)
  unfold rkZ
  rw [e]
  show ((rnk p [] : Nat) : Int) = 0
  rw [rnk_nil]
  rfl
theorem rkZ_high (p : Int) (q : Int → Prop) {k : Int} (h : topZ q < k) : rkZ p q k = 0 := by
  have e : szS q k = [] := szS_none (by omega)
  unfold rkZ
  rw [e]
  rw [rnk_wide]
  · rfl
  · by_cases h0 : 0 < (szS q (k - 1)).length
    · rw [sgnM_at h0]; rfl
    · have : szS q (k - 1) = [] := List.length_eq_zero_iff.1 (by omega)
      rw [this]; rfl
noncomputable def holV (p : Int) (q : Int → Prop) (k : Nat) : Int := ((szS q k).length : Nat) - rkZ p q k - rkZ p q (k + 1)
end Go.Proofs.YtkoljbncokmeaaaDoor
namespace Go.Proofs.YtkoljbncokmeaaaDoor
open Go Go.RowKit
set_option maxRecDepth 1000000
set_option linter.unusedSimpArgs false
set_option linter.unusedVariables false
set_option maxHeartbeats 1000000
end Go.Proofs.YtkoljbncokmeaaaDoor
namespace Go.Proofs.YtkoljbncokmeaaaDoor
open Go Go.RowKit
set_option maxRecDepth 1000000
set_option linter.unusedSimpArgs false
set_option linter.unusedVariables false
set_option maxHeartbeats 1000000
def sc_s_FaceCounts_L2 : SC := (.seq (.seq (.reg [⟨(some 15), none, (.mov (.t 3))⟩, ⟨(some 16), none, (.len (.t 15))⟩, ⟨(some 17), none, (.mov (.t 4))⟩, ⟨(some 18), none, (.mov (.t 5))⟩, ⟨(some 19), none, (.idx 1 (.t 17) (.t 18))⟩, ⟨(some 20), none, (.ld none (.int .i64 0) (.t 19))⟩, ⟨(some 21), none, (.call 38 [(.t 20)])⟩, ⟨(some 22), none, (.bin false .leq (.t 16) (.t 21))⟩]) (.cond (.t 22) .skip (.exit 2))) (.block 3 (.reg [⟨(some 23), none, (.mov (.t 3))⟩, ⟨(some 24), none, (.mks 1 1 [(.int .i64 0)] [(0, (1, (.c (.int .i64 0))))])⟩, ⟨(some 25), none, (.app 1 8 (.t 23) (.t 24))⟩, ⟨(some 3), none, (.mov (.t 25))⟩])))
def sc_s_FaceCounts_L0 : SC := (.seq (.seq (.reg [⟨(some 9), none, (.mov (.t 5))⟩, ⟨(some 10), none, (.mov (.t 4))⟩, ⟨(some 11), none, (.len (.t 10))⟩, ⟨(some 12), none, (.bin false .lss (.t 9) (.t 11))⟩]) (.cond (.t 12) .skip (.exit 0))) (.seq (.block 1 (.seq (.block 2 (.loop sc_s_FaceCounts_L2)) (.dreg [⟨⟨(some 26), none, (.mov (.t 3))⟩, false, false⟩, ⟨⟨(some 27), none, (.mov (.t 4))⟩, false, false⟩, ⟨⟨(some 28), none, (.mov (.t 5))⟩, false, false⟩, ⟨⟨(some 29), none, (.idx 1 (.t 27) (.t 28))⟩, false, false⟩, ⟨⟨(some 30), none, (.ld none (.int .i64 0) (.t 29))⟩, false, false⟩, ⟨⟨(some 31), none, (.call 38 [(.t 30)])⟩, false, false⟩, ⟨⟨(some 32), none, (.mov (.t 3))⟩, false, false⟩, ⟨⟨(some 33), none, (.mov (.t 4))⟩, false, false⟩, ⟨⟨(some 34), none, (.mov (.t 5))⟩, false, false⟩, ⟨⟨(some 35), none, (.idx 1 (.t 33) (.t 34))⟩, false, false⟩, ⟨⟨(some 36), none, (.ld none (.int .i64 0) (.t 35))⟩, false, false⟩, ⟨⟨(some 37), none, (.call 38 [(.t 36)])⟩, false, false⟩, ⟨⟨(some 38), none, (.idx 1 (.t 32) (.t 37))⟩, false, false⟩, ⟨⟨(some 39), none, (.ld none (.int .i64 0) (.t 38))⟩, false, false⟩, ⟨⟨(some 40), none, (.bin false .add (.t 39) (.c (.int .i64 1)))⟩, false, false⟩, ⟨⟨(some 41), none, (.idx 1 (.t 26) (.t 31))⟩, false, false⟩, ⟨⟨none, none, (.st 1 (.t 41) (.t 40))⟩, true, false⟩]))) (.reg [⟨(some 13), none, (.mov (.t 5))⟩, ⟨(some 14), none, (.bin false .add (.t 13) (.c (.int .i64 1)))⟩, ⟨(some 5), none, (.mov (.t 14))⟩])))
def sc_s_FaceCounts : SC := (.seq (.reg [⟨(some 1), none, (.box (.t 0))⟩, ⟨(some 2), none, (.mov (.c .nil))⟩]) (.seq (.reg [⟨(some 6), none, (.mks 0 1 [] [])⟩, ⟨(some 3), none, (.mov (.t 6))⟩]) (.seq (.reg [⟨(some 7), none, (.ld (some 2) .undef (.t 1))⟩, ⟨(some 8), none, (.call 39 [(.t 7)])⟩, ⟨(some 4), none, (.mov (.t 8))⟩]) (.seq (.seq (.reg [⟨(some 5), none, (.mov (.c (.int .i64 0)))⟩]) (.block 0 (.loop sc_s_FaceCounts_L0))) (.seq (.reg [⟨(some 42), none, (.mov (.t 3))⟩, ⟨(some 2), none, (.mov (.t 42))⟩]) .ret)))))
theorem code_s_FaceCounts : fnCode Tryd.prog [] 25 = some (43, sc_s_FaceCounts, [(2, none)]) := by kernel_rfl
open Classical in
/-- How many faces of each size. -/
noncomputable def fctL (n : Int) (l : List Int) : List Int := if cplx n l then rowF (topZ (faceS l) + 1).toNat (fun z => ((szS (faceS l) z).length : Nat)) else []
noncomputable def F_s_FaceCounts : List V → Option V := F1 dC fun c => some (.own 1 (ints (fctL c.1 c.2)))
theorem at0_takeq {l : List Int} {k q : Nat} (h : q < k) : at0 (l.take k) q = at0 l q := by simp [at0, List.getElem?_take, h]
theorem szRow_grow {m : Nat} {l : List Int} (h : ∀ s ∈ l, sz s < m) : szRow (m + 1) l = szRow m l ++ [0] := by
  unfold szRow
  rw [List.range_succ, List.map_append]
  congr 1
  simp only [List.map_cons, List.map_nil]
  congr 1
  unfold cntZ
  have : l.filter (fun s => dec (sz s = (m : Int))) = [] := List.filter_eq_nil_iff.2 fun s hs => by
    have := h s hs
    rw [dec_false (by omega)]
    simp
  rw [this]
  rfl
theorem fn_s_FaceCounts : FnOk Tryd.prog 25 F_s_FaceCounts := by
  have env := ((envNil_ok (P := Tryd.prog)).add fn_s_FacesOf).add fn_s_l2Size
  refine fn_ok code_s_FaceCounts mixed env ?_
  intro args r h hb
  obtain ⟨_, ⟨n, l⟩, rfl, h1, h4⟩ := F1_inv h
  cases dC_inv h1
  cases h4
  clear h
  refine ⟨by simp, fun w0 U0 L0 N0 => ?_⟩
  clear hb
  simp only
  have hL : allS (facesL n l) := allS_setsOf _
  have hLl : (facesL n l).length ≤ 64 := setsOf_len _
  have hso : (facesL n l).Pairwise fun a b => before a b = true := setsOf_sorted _
  have hres : ∀ m : Nat, (facesL n l = [] → m = 0) → (facesL n l ≠ [] → sz (at0 (facesL n l) ((facesL n l).length - 1)) + 1 = m) → (∀ q, q < (facesL n l).length → sz (at0 (facesL n l) q) < m) → fctL n l = szRow m (facesL n l) := by
    intro m h1 h2 h3
    unfold fctL
    by_cases hc : cplx n l
    · rw [if_pos hc]
      have hm : (topZ (faceS l) + 1).toNat = m := by
        have hf := facesL_of hc
        have htb := topZ_bnd (faceS l)
        by_cases he : facesL n l = []
        · rw [h1 he]
          rcases topZ_hit (faceS l) with e | ⟨s, hs, hp, _⟩
          · omega
          · have : s ∈ facesL n l := by rw [hf]; exact mem_setsOf.2 ⟨hs, hp⟩
            rw [he] at this
            simp at this
        · have hpos := List.length_pos_iff.2 he
          have hlast := getD_mem' (l := facesL n l) (j := (facesL n l).length - 1) (by omega)
          have hlast2 := hlast
          rw [hf] at hlast2
          obtain ⟨e1, e2⟩ := mem_setsOf.1 hlast2
          have h4 := topZ_ge e1 e2
          have h5 := h2 he
          rw [← hf] at h4
          rcases topZ_hit (faceS l) with e | ⟨s, hs, hp, e⟩
          · have := sz_nn (at0 (facesL n l) ((facesL n l).length - 1))
            omega
          · have hms : s ∈ facesL n l := by rw [hf]; exact mem_setsOf.2 ⟨hs, hp⟩
            obtain ⟨q, hq, rfl⟩ := getD_mem_iff.1 hms
            have := h3 q hq
            omega
      rw [hm]
      unfold rowF szRow
      refine List.map_congr_left fun z _ => ?_
      unfold cntZ
      rw [facesL_of hc, filt_setsOf]
      rfl
    · rw [if_neg hc]
      have he := facesL_not hc
      rw [h1 he, he]
      rfl
  have hFF : F_s_FacesOf [.agg [.int .i64 n, .list 1 (ints l)]] = some (.own 1 (ints (facesL n l))) := by simp [F_s_FacesOf]
  generalize facesL n l = L at *
  generalize fctL n l = F at *
  simp -implicitDefEqProofs [sc_s_FaceCounts, hFF]
  have inner : ∀ (i m0 z M1 : Nat) (Q : Post) (T0 : Tm), M1 = z + 1 → i < L.length → sz (at0 L i) = z → m0 ≤ z + 1 → (∀ s ∈ L.take i, sz s < m0) → subE T0 [(3, .sl 1 1 0 m0), (4, .sl 2 1 0 L.length), (5, .int .i64 (i : Int))] →
      Q (.exit 2) [(3, .sl 1 1 0 M1), (4, .sl 2 1 0 L.length), (5, .int .i64 (i : Int))] ([(2, ints L), (1, ints (szRow M1 (L.take i))), (0, [.int .i64 n, .list 1 (ints l)])], 3) →
      LoopI ⟨Tryd.prog, w0, U0, L0, N0, 0, 43⟩ [] sc_s_FaceCounts_L2 Q T0 ([(2, ints L), (1, ints (szRow m0 (L.take i))), (0, [.int .i64 n, .list 1 (ints l)])], 3) := by
    intro i m0 z M1 Q T0 hM1 hi hz hm hlow hsub q1
    subst hM1
    have hf := allS_at hL hi
    have h6 := sz_six hf
    have r1 : at0 L i < 9223372036854775808 := by have := hf.2; omega
    refine loopQ env mixed (fun j : Nat => [(3, .sl 1 1 0 j), (4, .sl 2 1 0 L.length), (5, .int .i64 (i : Int))]) (fun j => ([(2, ints L), (1, ints (szRow j (L.take i))), (0, [.int .i64 n, .list 1 (ints l)])], 3)) (fun j => m0 ≤ j ∧ j ≤ z + 1) (fun j => z + 1 - j) m0 ⟨by omega, hm⟩ (SubI.slots (by simp) (by simpa using hsub)) ?_
    rintro j ⟨hj1, hj2⟩
    by_cases hlt : j ≤ z
    · have hlt' : (j : Int) ≤ (z : Int) := by omega
      have hgr := szRow_grow (m := j) (l := L.take i) fun s hs => by have := hlow s hs; omega
      have hgl := szRow_len j (L.take i)
      generalize szRow j (L.take i) = g at *
      simp -implicitDefEqProofs [sc_s_FaceCounts_L2, F_s_l2Size, hi, r1, hz, hlt, hlt', hgl]
      repeat' (first | omega | apply And.intro)
      refine Again.of (j + 1) ⟨by omega, by omega⟩ (by omega) (SubI.ren (fun m => if m = 0 then some 0 else if m = 1 then some 4 else if m = 2 then some 2 else none) ?_ ?_ ?_ (by simp) (by simp))
      · simp (disch := omega) [subT, renV, ren1, wrapI]
      · have htk : g.take j = g := List.take_of_length_le (by omega)
        simp [subH, hgr, renL, ren1, htk]
        rw [← ints_app]
        rfl
      · intro m hm
        simp only at hm
        rw [if_neg (by omega), if_neg (by omega), if_neg (by omega)]
    · have : j = z + 1 := by omega
      subst this
      have hlt' : ¬ ((z : Int) + 1 ≤ (z : Int)) := by omega
      simp -implicitDefEqProofs [sc_s_FaceCounts_L2, F_s_l2Size, hi, r1, hz, hlt']
      exact SubQ.of (SubI.slots rfl (by simp)) q1
  refine loopI env mixed (fun x : Nat × Nat => [(3, .sl 1 1 0 x.2), (4, .sl 2 1 0 L.length), (5, .int .i64 (x.1 : Int))]) (fun x => ([(2, ints L), (1, ints (szRow x.2 (L.take x.1))), (0, [.int .i64 n, .list 1 (ints l)])], 3))
    (fun x => x.1 ≤ L.length ∧ (x.1 = 0 → x.2 = 0) ∧ (0 < x.1 → sz (at0 L (x.1 - 1)) + 1 = x.2) ∧ ∀ q, q < x.1 → sz (at0 L q) < x.2) (fun x => L.length - x.1) (0, 0) ⟨by simp, by simp, by simp, by simp⟩ (SubI.slots (by simp [szRow]) (by simp)) ?_
  rintro ⟨i, m⟩ ⟨hi, hm0, hm1, hq⟩
  simp only at hi hm0 hm1 hq
  by_cases hlt : i < L.length
  · have hf := allS_at hL hlt
    have h6 := sz_six hf
    have r1 : at0 L i < 9223372036854775808 := by have := hf.2; omega
    obtain ⟨z, hz⟩ : ∃ z : Nat, sz (at0 L i) = z := ⟨(sz (at0 L i)).toNat, by have := sz_nn (at0 L i); omega⟩
    have hmz : m ≤ z + 1 := by
      by_cases h0 : i = 0
      · rw [hm0 h0]; omega
      · have h1 := hm1 (by omega)
        have h2 := before_at hso (show i - 1 < i by omega) hlt
        simp only [before, decide_eq_true_eq] at h2
        omega
    have hlow : ∀ s ∈ L.take i, sz s < m := fun s hs => by
      obtain ⟨q, hq1, rfl⟩ := getD_mem_iff.1 hs
      rw [List.length_take] at hq1
      rw [at0_takeq (by omega)]
      exact hq q (by omega)
    have hcb := cntZ_bnd L i z
    have hw2 : IntKind.i64.wrap (cntZ (L.take i) z + 1) = cntZ (L.take i) z + 1 := wrapI _ (by omega) (by omega)
    have hF2 : F_s_l2Size [.int .i64 (at0 L i)] = some (.int .i64 (z : Int)) := by
      simp only [F_s_l2Size, F1_mk, dI_int, Option.bind_some]
      rw [if_pos r1, hz]
    obtain ⟨M1, hM1⟩ : ∃ M1, M1 = z + 1 := ⟨_, rfl⟩
    have hzM : z < M1 := by omega
    have hst := szRow_step (m := M1) hlt hz hzM
    have ha := at0_szRow (m := M1) (z := z) (L.take i) hzM
    have hgl := szRow_len M1 (L.take i)
    have hin := inner i m z M1
    simp -implicitDefEqProofs [sc_s_FaceCounts_L0, hlt]
    refine hin _ _ hM1 hlt hz hmz hlow (by simp) ?_
    simp -implicitDefEqProofs [hF2, hlt, hzM, ha, hw2, hst]
    repeat' (first | omega | apply And.intro)
    refine Again.of (i + 1, M1) ⟨by simp only; omega, by simp, fun _ => by simp only [Nat.add_sub_cancel]; omega, fun q h => ?_⟩ (by simp only; omega) (SubI.slots (by simp) (by simp (disch := omega) [wrapI]))
    simp only at h ⊢
    rcases Nat.lt_succ_iff_lt_or_eq.1 h with h1 | rfl
    · have := hq q h1; omega
    · omega
  · have : i = L.length := by omega
    subst this
    rw [hres m (fun e => hm0 (by rw [e]; rfl)) (fun e => hm1 (List.length_pos_iff.2 e)) hq]
    have htk : (szRow m L).take m = szRow m L := szRow_take m L
    simp -implicitDefEqProofs [sc_s_FaceCounts_L0]
end Go.Proofs.YtkoljbncokmeaaaDoor
namespace Go.Proofs.YtkoljbncokmeaaaDoor
open Go Go.RowKit
set_option maxRecDepth 1000000
set_option linter.unusedSimpArgs false
set_option linter.unusedVariables false
set_option maxHeartbeats 1000000
end Go.Proofs.YtkoljbncokmeaaaDoor
namespace Go.Proofs.YtkoljbncokmeaaaDoor
open Go Go.RowKit
set_option maxRecDepth 1000000
set_option linter.unusedSimpArgs false
set_option linter.unusedVariables false
set_option maxHeartbeats 1000000
theorem sms_len {M : List (List Int)} {R : List Int} (h : smsV M = some R) : R.length ≤ M.length ∧ R.length ≤ wdM M := by
  unfold smsV at h
  by_cases hc : M ≠ [] ∧ smiM M
  · rw [if_pos hc] at h
    obtain ⟨q, hq⟩ := smV_iff.1 h
    obtain ⟨F, hF, _⟩ := smR_spec q (ent M) 0 [] R (Nat.zero_le _) (Nat.zero_le _) ⟨fun a b _ _ h => by omega, rfl, fun i hi => by omega, fun i j _ hj => by omega, fun i hi => by omega⟩ hq
    exact ⟨hF.l1, hF.l2⟩
  · rw [if_neg hc] at h
    simp only [Option.some.injEq] at h
    subst h
    simp
theorem bsm_sz {q : Int → Prop} {k : Nat} (hk : 1 ≤ k ∧ k ≤ 6) : smsV (sgnM (szS q ((k : Int) - 1)) (szS q k)) = some (bsm (szS q ((k : Int) - 1)) (szS q k)) ∧ smiV (sgnM (szS q ((k : Int) - 1)) (szS q k)) = some (bsm (szS q ((k : Int) - 1)) (szS q k)) :=
  bor_smith hk (setsOf_nodup _) (setsOf_nodup _) (fun r hr => by obtain ⟨a, _, b⟩ := mem_szS.1 hr; exact ⟨a, b⟩) (fun r hr => by obtain ⟨a, _, b⟩ := mem_szS.1 hr; exact ⟨a, b⟩)
/-- The rank of a border over the whole numbers. -/
noncomputable def rkS (q : Int → Prop) (k : Int) : Int := ((bsm (szS q (k - 1)) (szS q k)).length : Nat)
theorem bsm_nil (C : List Int) : bsm [] C = [] := by
  unfold bsm
  have : smsV (sgnM [] C) = some [] := by
    unfold smsV
    rw [if_neg fun h => h.1 rfl]
  rw [this]; rfl
theorem bsm_len (R C : List Int) : (bsm R C).length ≤ R.length ∧ (bsm R C).length ≤ C.length := by
  by_cases h0 : R = []
  · rw [h0, bsm_nil]; simp
  have hpos := List.length_pos_iff.2 h0
  unfold bsm
  cases h : smsV (sgnM R C) with
  | none => simp
  | some S =>
    have h1 := sms_len h
    rw [sgnM_len] at h1
    have h2 : wdM (sgnM R C) = C.length := by
      unfold wdM
      rw [sgnM_at hpos]
      simp
    rw [h2] at h1
    exact h1
theorem rkS_bnd (q : Int → Prop) (k : Int) : 0 ≤ rkS q k ∧ rkS q k ≤ 64 := by
  have h1 := (bsm_len (szS q (k - 1)) (szS q k)).1
  have h2 := szS_len q (k - 1)
  unfold rkS
  omega
theorem rkS_low (q : Int → Prop) : rkS q 0 = 0 := by
  have e : szS q (0 - 1) = [] := szS_none (by omega)
  unfold rkS
  rw [e, bsm_nil]
  rfl
theorem rkS_high (q : Int → Prop) {k : Int} (h : topZ q < k) : rkS q k = 0 := by
  have e : szS q k = [] := szS_none (by omega)
  have h1 := (bsm_len (szS q (k - 1)) (szS q k)).2
  rw [e] at h1
  unfold rkS
  rw [e]
  simp at h1
  rw [h1]
  rfl
noncomputable def frV (q : Int → Prop) (k : Nat) : Int := ((szS q k).length : Nat) - rkS q k - rkS q (k + 1)
/-- The free parts of the holes over the whole numbers. -/
noncomputable def frZ (q : Int → Prop) : List Int := rowF (topZ q + 1).toNat (frV q)
open Classical in
noncomputable def frL (n : Int) (l : List Int) : List Int := if cplx n l then frZ (faceS l) else []
noncomputable def F_s_FreeHoles : List V → Option V := F1 dC fun c => some (.own 1 (ints (frL c.1 c.2)))
open Classical in
/-- The twists of a complex. -/
noncomputable def twL (n : Int) (l : List Int) (k : Int) : List Int := if cplx n l ∧ 0 ≤ k ∧ k ≤ 5 then (bsm (szS (faceS l) k) (szS (faceS l) (k + 1))).filter fun d => decide (1 < d) else []
noncomputable def F_s_TwistsOf : List V → Option V := F2 dC dI fun c k => some (.own 1 (ints (twL c.1 c.2 k)))
theorem filt_take {S : List Int} {j : Nat} (h : j < S.length) (p : Int → Bool) : (S.take (j + 1)).filter p = (S.take j).filter p ++ (if p (at0 S j) = true then [at0 S j] else []) := by
  rw [List.take_succ_eq_append_getElem h, List.filter_append, at0_eq h]
  cases hp : p S[j] <;> simp [hp]
theorem filt_le {S : List Int} (j : Nat) (p : Int → Bool) : ((S.take j).filter p).length ≤ S.length := by
  have h1 := List.length_filter_le p (S.take j)
  rw [List.length_take] at h1
  omega
end Go.Proofs.YtkoljbncokmeaaaDoor
namespace Go.Proofs.YtkoljbncokmeaaaDoor
open Go Go.RowKit
set_option maxRecDepth 1000000
set_option linter.unusedSimpArgs false
set_option linter.unusedVariables false
set_option maxHeartbeats 1000000
theorem nodup_mapG {α β : Type} {f : α → β} {l : List α} (h : ∀ a ∈ l, ∀ b ∈ l, f a = f b → a = b) (hn : l.Nodup) : (l.map f).Nodup := by
  induction l with
  | nil => exact List.nodup_nil
  | cons a l ih =>
    rw [List.map_cons, List.nodup_cons]
    obtain ⟨h1, h2⟩ := List.nodup_cons.1 hn
    refine ⟨fun hm => ?_, ih (fun x hx y hy => h x (List.mem_cons_of_mem a hx) y (List.mem_cons_of_mem a hy)) h2⟩
    obtain ⟨b, hb, e⟩ := List.mem_map.1 hm
    have := h b (List.mem_cons_of_mem a hb) a List.mem_cons_self e
    exact h1 (this ▸ hb)
theorem subN_len {L R : List Nat} (hR : R.Nodup) (h : ∀ r ∈ R, r ∈ L) : R.length ≤ L.length := by
  have h1 := nodup_small L.length (R.map fun r => L.idxOf r) (nm_inj (fun a ha b hb e => idx_inj (h a ha) (h b hb) e) hR) (fun r hm => by
    obtain ⟨a, ha, e⟩ := List.mem_map.1 hm
    rw [← e]
    exact List.idxOf_lt_length_iff.2 (h a ha))
  rwa [List.length_map] at h1
theorem ffN_len : ∀ j : Nat, j < 7 → (ffN j).length ≤ 20 := by decide +kernel
def dnN (y : Nat) : List Nat := (List.range 64).filter fun x => (x &&& y == x) && (pcF 6 y == pcF 6 x + 1)
theorem dnN_len : ∀ y : Nat, y < 64 → (dnN y).length ≤ 6 := by decide +kernel
open Classical in
theorem colN_eq (f : Nat → Nat → Int) (j : Nat) : ∀ n, colN f j n = ((List.range n).filter fun i => decide (f i j ≠ 0)).length
  | 0 => rfl
  | n + 1 => by
    rw [List.range_succ, List.filter_append, List.length_append, ← colN_eq f j n]
    show colN f j n + @ite _ (f n j = 0) (Classical.propDecidable _) 0 1 = _
    by_cases h : f n j = 0
    · rw [if_pos h]
      simp [h]
    · rw [if_neg h]
      simp [h]
section
variable {k : Nat} {R C : List Int}
theorem szl_len (hk : k ≤ 6) (hR : R.Nodup) (h1 : ∀ r ∈ R, isS r ∧ sz r = (k : Int)) : R.length ≤ 20 := by
  have hm : ∀ r ∈ R.map Int.toNat, r ∈ ffN k := fun r hr => by
    obtain ⟨a, ha, e⟩ := List.mem_map.1 hr
    obtain ⟨g1, g2⟩ := h1 a ha
    have e2 : a = ((a.toNat : Nat) : Int) := by have := g1.1; omega
    rw [← e]
    refine mem_ffN.2 ⟨by have := g1.2; omega, ?_⟩
    rw [e2, sz_nat (by have := g1.2; omega)] at g2
    omega
  have hn : (R.map Int.toNat).Nodup := nodup_mapG (f := Int.toNat) (l := R) (fun a ha b hb e => by
    have := (h1 a ha).1.1
    have := (h1 b hb).1.1
    omega) hR
  have h2 := subN_len hn hm
  rw [List.length_map] at h2
  have := ffN_len k (by omega)
  omega
theorem bor_col (hR : R.Nodup) (h1 : ∀ r ∈ R, isS r ∧ sz r = (k : Int) - 1) (h2 : ∀ s ∈ C, isS s ∧ sz s = k) {j : Nat} (hj : j < C.length) : colN (ent (sgnM R C)) j R.length ≤ 6 := by
  rw [colN_eq]
  obtain ⟨g1, g2⟩ := h2 _ (getD_mem' hj)
  have ey : at0 C j = (((at0 C j).toNat : Nat) : Int) := by have := g1.1; omega
  have hy : (at0 C j).toNat < 64 := by have := g1.2; omega
  refine Nat.le_trans ?_ (dnN_len (at0 C j).toNat hy)
  have h3 := subN_len (L := dnN (at0 C j).toNat) (R := ((List.range R.length).filter fun i => decide (ent (sgnM R C) i j ≠ 0)).map fun i => (at0 R i).toNat) ?_ ?_
  · rwa [List.length_map] at h3
  · refine nodup_map (fun a ha b hb e => ?_) (List.Nodup.sublist List.filter_sublist List.nodup_range)
    have ha2 := List.mem_range.1 (List.mem_filter.1 ha).1
    have hb2 := List.mem_range.1 (List.mem_filter.1 hb).1
    have p1 := (h1 _ (getD_mem' ha2)).1.1
    have p2 := (h1 _ (getD_mem' hb2)).1.1
    exact at0_inj hR ha2 hb2 (by omega)
  · intro r hr
    obtain ⟨i, hi, e⟩ := List.mem_map.1 hr
    obtain ⟨hi1, hi2⟩ := List.mem_filter.1 hi
    have hi3 := List.mem_range.1 hi1
    have hne : ent (sgnM R C) i j ≠ 0 := by simpa using hi2
    rw [bor_ent hi3 hj] at hne
    obtain ⟨p1, p2⟩ := h1 _ (getD_mem' hi3)
    have ex : at0 R i = (((at0 R i).toNat : Nat) : Int) := by have := p1.1; omega
    have hx : (at0 R i).toNat < 64 := by have := p1.2; omega
    rw [← e]
    unfold dnN
    rw [List.mem_filter, List.mem_range, Bool.and_eq_true, beq_iff_eq, beq_iff_eq]
    refine ⟨hx, ?_, ?_⟩
    · refine Classical.byContradiction fun hh => hne ?_
      rw [ex, ey]
      refine sgnZ_no fun hs => hh ((subS_natI hx hy).1 hs)
    · rw [ex, sz_nat hx] at p2
      rw [ey, sz_nat hy] at g2
      omega
theorem bor_smi (hk : 1 ≤ k ∧ k ≤ 6) (hR : R.Nodup) (hC : C.Nodup) (h1 : ∀ r ∈ R, isS r ∧ sz r = (k : Int) - 1) (h2 : ∀ s ∈ C, isS s ∧ sz s = k) (h0 : 0 < R.length) : smiM (sgnM R C) := by
  have hw : wdM (sgnM R C) = C.length := by
    unfold wdM
    rw [sgnM_at h0]
    simp
  have l1 := szl_len (k := k - 1) (by omega) hR fun r hr => ⟨(h1 r hr).1, by rw [(h1 r hr).2]; omega⟩
  have l2 := szl_len (k := k) (by omega) hC h2
  refine ⟨⟨?_, ?_, fun _ => ?_, fun i j hi hj => ?_⟩, fun j hj => ?_⟩
  · rw [sgnM_len]; omega
  · rw [hw]
    intro i hi
    rw [sgnM_len] at hi
    rw [sgnM_at hi]
    simp
  · rw [hw]; omega
  · rw [sgnM_len] at hi
    rw [hw] at hj
    rw [bor_ent hi hj]
    exact sgnZ_bnd _ _
  · rw [hw] at hj
    rw [sgnM_len]
    exact bor_col hR h1 h2 hj
end
end Go.Proofs.YtkoljbncokmeaaaDoor
namespace Go.Proofs.YtkoljbncokmeaaaDoor
open Go Go.RowKit
set_option maxRecDepth 1000000
set_option linter.unusedSimpArgs false
set_option linter.unusedVariables false
set_option maxHeartbeats 1000000
theorem redS_lt (p : Int) (M : List (List Int)) (j : Nat) : (∀ q, q < (redS p M j).2.length → 0 ≤ at0 (redS p M j).2 q ∧ at0 (redS p M j).2 q < j) ∧ ∀ a b, a < b → b < (redS p M j).2.length → at0 (redS p M j).2 a < at0 (redS p M j).2 b := by
  induction j with
  | zero => exact ⟨fun q hq => by simp [redS] at hq, fun a b _ hb => by simp [redS] at hb⟩
  | succ j ih =>
    rw [redS]
    generalize redS p M j = x at *
    obtain ⟨N, P⟩ := x
    obtain ⟨h1, h2⟩ := ih
    simp only at h1 h2
    by_cases hc : P.length < N.length ∧ fndZ N j (N.length - P.length) P.length < N.length
    · rw [redC_yes rfl hc.1 hc.2]
      simp only [List.length_append, List.length_singleton]
      have e : ∀ q, q < P.length + 1 → at0 (P ++ [(j : Int)]) q = if q < P.length then at0 P q else (j : Int) := fun q hq => by
        rw [at0_app]
        split
        · rfl
        · rw [show q - P.length = 0 by omega]; rfl
      constructor
      · intro q hq
        rw [e q hq]
        split
        · have := h1 q (by assumption)
          omega
        · omega
      · intro a b hab hb
        rw [e a (by omega), e b hb, if_pos (by omega)]
        split
        · exact h2 a b hab (by assumption)
        · exact (h1 a (by omega)).2
    · rw [redC_no hc]
      exact ⟨fun q hq => by have := h1 q hq; simp only at this ⊢; omega, h2⟩
theorem rv_smul (w : Nat) (r : List Int) (a : Int) (x : Nat → Int) : rv w r (fun k => a * x k) = a * rv w r x := by
  unfold rv
  rw [← sumN_mul]
  exact sumN_congr fun k _ => Int.mul_left_comm _ _ _
theorem rv_sum (w m : Nat) (r : List Int) (x : Nat → Nat → Int) : rv w r (fun k => sumN m fun j => x j k) = sumN m fun j => rv w r (x j) := by
  unfold rv
  rw [sumN_swap]
  exact sumN_congr fun k _ => (sumN_mul _ _ _).symm
theorem sol_mod {p : Int} {w : Nat} {M : List (List Int)} (hM : ∀ i, i < M.length → (atR M i).length = w) (y : Nat → Int) : sol p w (modM p M) y ↔ sol p w M y := by
  have key : ∀ i, i < M.length → p ∣ rv w (atR (modM p M) i) y - rv w (atR M i) y := fun i hi => by
    unfold rv
    refine sumN_cong fun k hk => ?_
    rw [modM_at hi, rowF_at (by rw [hM i hi]; exact hk), ← Int.sub_mul]
    exact Int.dvd_mul_of_dvd_left (mod_sub _ _)
  constructor
  · intro h i hi
    exact (dvd_cong (key i hi)).1 (h i (by rw [modM_len]; exact hi))
  · intro h i hi
    rw [modM_len] at hi
    exact (dvd_cong (key i hi)).2 (h i hi)
/-- All numbers of a list are counted among the numbers below n. -/
theorem cnt_mem {n : Nat} : ∀ {U : List Int}, U.Nodup → (∀ x ∈ U, 0 ≤ x ∧ x < (n : Int)) → (sumN n fun u => bI ((u : Int) ∈ U)) = U.length
  | [], _, _ => sumN_zero fun k _ => bI_no (by simp)
  | a :: U, hn, hS => by
    rw [List.nodup_cons] at hn
    have ih := cnt_mem hn.2 fun x hx => hS x (List.mem_cons_of_mem _ hx)
    have ha := hS a (List.mem_cons_self ..)
    obtain ⟨x, rfl⟩ := Int.eq_ofNat_of_zero_le ha.1
    have e : (sumN n fun u => bI ((u : Int) ∈ (x : Int) :: U)) = sumN n fun u => bI ((u : Int) = (x : Int)) * 1 + bI ((u : Int) ∈ U) := sumN_congr fun u hu => by
      by_cases h : (u : Int) = (x : Int)
      · rw [bI_yes h, bI_yes (by rw [h]; exact List.mem_cons_self ..), bI_no (by rw [h]; exact hn.1)]; omega
      · rw [bI_no h]
        by_cases h2 : (u : Int) ∈ U
        · rw [bI_yes h2, bI_yes (List.mem_cons_of_mem _ h2)]; omega
        · rw [bI_no h2, bI_no (fun hh => (List.mem_cons.1 hh).elim h h2)]; omega
    have h1 := sumN_one (w := fun _ => 1) (a := x) n
    rw [if_pos (by omega)] at h1
    rw [e, sumN_add, ih, h1, List.length_cons]
    omega
/-- The reduced form of a matrix and its pivots. -/
noncomputable def rX (p : Int) (w : Nat) (M : List (List Int)) : List (List Int) × List Int := redS p (modM p M) w
noncomputable def pvJ (p : Int) (w : Nat) (M : List (List Int)) (q : Nat) : Nat := (at0 (rX p w M).2 q).toNat
def pvP (p : Int) (w : Nat) (M : List (List Int)) (k : Nat) : Prop := (k : Int) ∈ (rX p w M).2
noncomputable def rkM (p : Int) (w : Nat) (M : List (List Int)) : Nat := (rX p w M).2.length
section lin
variable {p : Int} {w : Nat} {M : List (List Int)} (hp : fpP p) (hM : ∀ i, i < M.length → (atR M i).length = w)
include hp hM
theorem rX_rr : rrI p w (modM p M) w (rX p w M) := rrI_all hp (okM_mod hp hM) w (Nat.le_refl _)
theorem rX_sol (y : Nat → Int) : sol p w (rX p w M).1 y ↔ sol p w M y := ((rX_rr hp hM).sl y).trans (sol_mod hM y)
omit hM hp in
theorem pvJ_eq {q : Nat} (hq : q < rkM p w M) : (pvJ p w M q : Int) = at0 (rX p w M).2 q := by
  have := (redS_lt p (modM p M) w).1 q hq
  unfold pvJ
  exact Int.toNat_of_nonneg this.1
omit hM hp in
theorem pvJ_lt {q : Nat} (hq : q < rkM p w M) : pvJ p w M q < w := by
  have := (redS_lt p (modM p M) w).1 q hq
  have h2 := pvJ_eq hq
  unfold rX at h2
  omega
omit hM hp in
theorem pvJ_inj {a b : Nat} (ha : a < rkM p w M) (hb : b < rkM p w M) (h : pvJ p w M a = pvJ p w M b) : a = b := by
  have h1 := pvJ_eq ha
  have h2 := pvJ_eq hb
  have h3 := (redS_lt p (modM p M) w).2
  rcases Nat.lt_trichotomy a b with hl | hl | hl
  · have := h3 a b hl hb
    unfold rX at h1 h2
    omega
  · exact hl
  · have := h3 b a hl ha
    unfold rX at h1 h2
    omega
omit hM hp in
theorem pvP_iff {k : Nat} : pvP p w M k ↔ ∃ q, q < rkM p w M ∧ pvJ p w M q = k := by
  unfold pvP
  rw [getD_mem_iff]
  constructor
  · rintro ⟨q, hq, e⟩
    exact ⟨q, hq, by have := pvJ_eq hq; omega⟩
  · rintro ⟨q, hq, e⟩
    exact ⟨q, hq, by have := pvJ_eq hq; omega⟩
omit hM hp in
theorem pv_nodup : (rX p w M).2.Nodup := by
  have h3 := (redS_lt p (modM p M) w).2
  refine List.Pairwise.imp (R := fun a b => a < b) (fun h => by omega) ?_
  rw [List.pairwise_iff_getElem]
  intro i j hi hj hij
  have := h3 i j hij hj
  rw [← at0_eq hi, ← at0_eq hj]
  exact this
/-- How many columns have no pivot. -/
noncomputable def npL (p : Int) (w : Nat) (M : List (List Int)) : List Nat := (List.range w).filter fun c => dec (¬ pvP p w M c)
omit hM hp in
theorem npL_len : ((npL p w M).length : Int) = (w : Int) - (rkM p w M : Nat) := by
  unfold npL
  rw [sumN_filter]
  have e : (sumN w fun u => bI (dec (¬ pvP p w M u) = true)) + (sumN w fun u => bI ((u : Int) ∈ (rX p w M).2)) = sumN w fun _ => 1 := by
    rw [← sumN_add]
    refine sumN_congr fun u _ => ?_
    by_cases h : pvP p w M u
    · rw [bI_no (by rw [dec_iff]; exact fun hh => hh h), bI_yes (show (u : Int) ∈ (rX p w M).2 from h)]; rfl
    · rw [bI_yes (by rw [dec_iff]; exact h), bI_no (show ¬ (u : Int) ∈ (rX p w M).2 from h)]; rfl
  have e1 : ∀ m : Nat, (sumN m fun _ => 1) = (m : Int) := fun m => by
    induction m with
    | zero => rfl
    | succ m ih => rw [sumN, ih]; omega
  rw [e1, cnt_mem pv_nodup fun x hx => by
    obtain ⟨q, hq, rfl⟩ := getD_mem_iff.1 hx
    have := (redS_lt p (modM p M) w).1 q hq
    exact ⟨this.1, this.2⟩] at e
  unfold rkM
  omega
/-- A solution is told by its numbers at the columns without pivots. -/
theorem sol_zero {v : Nat → Int} (hv : sol p w M v) (h : ∀ c, c < w → ¬ pvP p w M c → p ∣ v c) : ∀ k, k < w → p ∣ v k := by
  intro k hk
  have hr := rX_rr hp hM
  by_cases hpk : pvP p w M k
  · obtain ⟨q, hq, rfl⟩ := pvP_iff.1 hpk
    have hs := (rX_sol hp hM v).2 hv
    have hql : q < (rX p w M).1.length := Nat.lt_of_lt_of_le hq hr.base.hp
    have h1 := hs q hql
    unfold rv at h1
    obtain ⟨w', hw⟩ : ∃ w', w = w' + 1 := ⟨w - 1, by omega⟩
    have e : sumN w (fun j => at0 (atR (rX p w M).1 q) j * v j) = at0 (atR (rX p w M).1 q) (pvJ p w M q) * v (pvJ p w M q) + sumN w' fun j => at0 (atR (rX p w M).1 q) (skipN (pvJ p w M q) j) * v (skipN (pvJ p w M q) j) := by
      have := sumN_skip (fun j => at0 (atR (rX p w M).1 q) j * v j) w' (pvJ p w M q) (by omega)
      rw [← this, ← hw]
    rw [e] at h1
    have h2 : p ∣ sumN w' fun j => at0 (atR (rX p w M).1 q) (skipN (pvJ p w M q) j) * v (skipN (pvJ p w M q) j) := sumN_dvd fun j hj => by
      have hs2 : skipN (pvJ p w M q) j < w ∧ skipN (pvJ p w M q) j ≠ pvJ p w M q := by unfold skipN; split <;> omega
      by_cases hpj : pvP p w M (skipN (pvJ p w M q) j)
      · obtain ⟨q2, hq2, e2⟩ := pvP_iff.1 hpj
        have hz := hr.zer q2 hq2 q hql (fun e3 => hs2.2 (by rw [← e2, e3]))
        have e4 : (at0 (rX p w M).2 q2).toNat = pvJ p w M q2 := rfl
        rw [e4, e2] at hz
        rw [hz, Int.zero_mul]
        exact Int.dvd_zero p
      · exact Int.dvd_mul_of_dvd_right (h _ hs2.1 hpj)
    have h3 := (Int.dvd_add_left h2).1 h1
    have h4 := hr.one q hq
    have e4 : (at0 (rX p w M).2 q).toNat = pvJ p w M q := rfl
    rw [e4] at h4
    rwa [h4, Int.one_mul] at h3
  · exact h k hk hpk
end lin
end Go.Proofs.YtkoljbncokmeaaaDoor
namespace Go.Proofs.YtkoljbncokmeaaaDoor
open Go Go.RowKit
set_option maxRecDepth 1000000
set_option linter.unusedSimpArgs false
set_option linter.unusedVariables false
set_option maxHeartbeats 1000000
section lin2
variable {p : Int} {f w : Nat} {M N : List (List Int)} (hp : fpP p) (hM : ∀ i, i < M.length → (atR M i).length = f) (hN : ∀ i, i < N.length → (atR N i).length = w) (hf : N.length = f)
include hp hM hN hf
end lin2
end Go.Proofs.YtkoljbncokmeaaaDoor
namespace Go.Proofs.YtkoljbncokmeaaaDoor
open Go Go.RowKit
set_option maxRecDepth 1000000
set_option linter.unusedSimpArgs false
set_option linter.unusedVariables false
set_option maxHeartbeats 1000000
/-- The sign in the border, on numbers. -/
def sgF (x y : Nat) : Int := if x &&& y == x then 1 - 2 * ((pcF 6 (y &&& (y - x - 1)) % 2 : Nat) : Int) else 0
def ddK (x y : Nat) : Nat → Int
  | 0 => 0
  | u + 1 => ddK x y u + (if pcF 6 u == pcF 6 x + 1 then sgF x u * sgF u y else 0)
theorem dd_key : ∀ x : Nat, x < 64 → ∀ y : Nat, y < 64 → (pcF 6 y != pcF 6 x + 2 || ddK x y 64 == 0) = true := by decide +kernel
theorem ddK_sum (x y : Nat) : ∀ m, ddK x y m = sumN m fun u => if pcF 6 u == pcF 6 x + 1 then sgF x u * sgF u y else 0
  | 0 => rfl
  | m + 1 => by rw [ddK, ddK_sum x y m, sumN]
theorem sub_lt_key : ∀ x : Nat, x < 64 → ∀ y : Nat, y < 64 → (x &&& y != x || decide (x ≤ y)) = true := by decide +kernel
theorem sgnZ_nat {x y : Nat} (hx : x < 64) (hy : y < 64) (hz : pcF 6 y = pcF 6 x + 1) : sgnZ (x : Int) (y : Int) = sgF x y := by
  by_cases h : x &&& y = x
  · have hs : subS (x : Int) (y : Int) := (subS_natI hx hy).2 h
    have hle : x ≤ y := by
      have := sub_lt_key x hx y hy
      simp [h] at this
      exact this
    have hne : x ≠ y := fun e => by rw [e] at hz; omega
    have e1 : bnot (y : Int) (x : Int) = ((y - x : Nat) : Int) := by
      rw [bnot_nat y x hy hx, Nat.and_comm, h]
    have e2 : ((y - x : Nat) : Int) - 1 = ((y - x - 1 : Nat) : Int) := by omega
    have hb : y &&& (y - x - 1) < 64 := Nat.lt_of_le_of_lt Nat.and_le_left hy
    rw [sgnZ_yes hs, e1, e2, band_nat y (y - x - 1) hy (by omega), sz_nat hb]
    unfold sgF
    rw [if_pos (by simp [h])]
    omega
  · have hs : ¬ subS (x : Int) (y : Int) := fun hh => h ((subS_natI hx hy).1 hh)
    rw [sgnZ_no hs]
    unfold sgF
    rw [if_neg (by simpa using h)]
/-- The border of a border is 0. -/
theorem dd_zero {q : Int → Prop} (hq : ∀ s t, isS s → isS t → subS s t → q t → q s) {r s : Int} (hr : isS r) (hs : isS s) (hqs : q s) (hz : sz s = sz r + 2) : sumL (szS q (sz r + 1)) (fun u => sgnZ r u * sgnZ u s) = 0 := by
  obtain ⟨x, hx, rfl⟩ := isS_nat0 hr
  obtain ⟨y, hy, rfl⟩ := isS_nat0 hs
  rw [sz_nat hx, sz_nat hy] at hz
  have hz2 : pcF 6 y = pcF 6 x + 2 := by omega
  have hU := sumL_mem (fun u => sgnZ (x : Int) u * sgnZ u (y : Int)) (U := szS q (sz (x : Int) + 1)) (setsOf_nodup _) (allS_setsOf _)
  rw [← hU]
  have hk := dd_key x hx y hy
  simp only [hz2, bne_self_eq_false, Bool.false_or, beq_iff_eq] at hk
  rw [ddK_sum] at hk
  rw [← hk]
  refine sumN_congr fun u hu => ?_
  have hus : isS (u : Int) := ⟨by omega, by omega⟩
  by_cases hsz : pcF 6 u = pcF 6 x + 1
  · have h1 : sgnZ (x : Int) (u : Int) = sgF x u := sgnZ_nat hx hu hsz
    have h2 : sgnZ (u : Int) (y : Int) = sgF u y := sgnZ_nat hu hy (by omega)
    rw [if_pos (by simp [hsz]), h1, h2]
    by_cases hqu : q (u : Int)
    · rw [bI_yes (mem_szS.2 ⟨hus, hqu, by rw [sz_nat hu, sz_nat hx]; omega⟩), Int.one_mul]
    · have h3 : sgF u y = 0 := by
        rw [← h2]
        exact sgnZ_no fun hh => hqu (hq _ _ hus hs hh hqs)
      rw [h3]
      simp
  · rw [if_neg (by simpa using hsz), bI_no fun hh => hsz (by
      have := (mem_szS.1 hh).2.2
      rw [sz_nat hu, sz_nat hx] at this
      omega), Int.zero_mul]
theorem sgn_row {R C : List Int} {i j : Nat} (hi : i < R.length) (hj : j < C.length) : at0 (atR (sgnM R C) i) j = sgnZ (at0 R i) (at0 C j) := by
  rw [sgnM_at hi]
  simp [at0, hj]
end Go.Proofs.YtkoljbncokmeaaaDoor
namespace Go.Proofs.YtkoljbncokmeaaaDoor
open Go Go.RowKit
set_option maxRecDepth 1000000
set_option linter.unusedSimpArgs false
set_option linter.unusedVariables false
set_option maxHeartbeats 1000000
theorem rv_sgn {R C : List Int} {i : Nat} (hi : i < R.length) (X : Int → Int) (x : Nat → Int) (hx : ∀ j, j < C.length → x j = X (at0 C j)) : rv C.length (atR (sgnM R C) i) x = sumL C fun u => sgnZ (at0 R i) u * X u := by
  unfold rv sumL
  refine sumN_congr fun j hj => ?_
  rw [sgn_row hi hj, hx j hj]
end Go.Proofs.YtkoljbncokmeaaaDoor
namespace Go.Proofs.YtkoljbncokmeaaaDoor
open Go Go.RowKit
set_option maxRecDepth 1000000
set_option linter.unusedSimpArgs false
set_option linter.unusedVariables false
set_option maxHeartbeats 1000000
theorem rkZ_W {p : Int} {q : Int → Prop} {k : Int} (h : 0 < (szS q (k - 1)).length) : rkZ p q k = (rkW p (szS q k).length (modM p (sgnM (szS q (k - 1)) (szS q k))) : Nat) := by
  unfold rkZ rnk rkW
  rw [sgnM_at h]
  simp
theorem rkZ_M {p : Int} {q : Int → Prop} (z : Int) : rkZ p q z = (rkM p (szS q z).length (sgnM (szS q (z - 1)) (szS q z)) : Nat) := by
  by_cases h : 0 < (szS q (z - 1)).length
  · rw [rkZ_W h]; rfl
  · have e : szS q (z - 1) = [] := List.length_eq_zero_iff.1 (by omega)
    have e2 : sgnM (szS q (z - 1)) (szS q z) = [] := by rw [e]; rfl
    unfold rkZ rkM rX
    rw [e2, rnk_nil]
    have e3 : modM p [] = [] := List.length_eq_zero_iff.1 (by simp)
    rw [e3, redS_nil]
    rfl
end Go.Proofs.YtkoljbncokmeaaaDoor
namespace Go.Proofs.YtkoljbncokmeaaaDoor
open Go Go.RowKit
set_option maxRecDepth 1000000
set_option linter.unusedSimpArgs false
set_option linter.unusedVariables false
set_option maxHeartbeats 1000000
/-- The ranks of two matrices whose product is 0. -/
theorem rk_sum {p : Int} {f w : Nat} {M N : List (List Int)} (hp : fpP p) (hM : ∀ i, i < M.length → (atR M i).length = f) (hN : ∀ i, i < N.length → (atR N i).length = w) (hf : N.length = f) (hc : ∀ j, j < w → sol p f M fun i => at0 (atR N i) j) : rkM p f M + rkM p w N ≤ f := by
  refine Nat.le_of_not_lt fun hlt => ?_
  have hlen := npL_len (p := p) (w := f) (M := M)
  obtain ⟨x, ⟨j0, hj0, hx0⟩, hx⟩ := homog (field_fp hp) (npL p f M).length (rkM p w N) (fun i j => at0 (atR N ((npL p f M)[i]?.getD 0)) (pvJ p w N j)) (by omega)
  have hsol : sol p f M fun i => sumN (rkM p w N) fun j => x j * at0 (atR N i) (pvJ p w N j) := fun i hi => by
    rw [rv_sum]
    refine sumN_dvd fun j hj => ?_
    rw [rv_smul]
    exact Int.dvd_mul_of_dvd_right (hc _ (pvJ_lt hj) i hi)
  have heq : ∀ i : Nat, (sumN (rkM p w N) fun j => x j * at0 (atR N i) (pvJ p w N j)) = sumN (rkM p w N) fun j => at0 (atR N i) (pvJ p w N j) * x j := fun i => sumN_congr fun j _ => Int.mul_comm _ _
  have hall := sol_zero hp hM hsol fun c hcf hnp => by
    have hm : c ∈ npL p f M := by
      unfold npL
      rw [List.mem_filter, List.mem_range, dec_iff]
      exact ⟨hcf, hnp⟩
    obtain ⟨t, ht, e⟩ := List.getElem_of_mem hm
    have h1 := hx t ht
    rw [List.getElem?_eq_getElem ht, Option.getD_some, e] at h1
    rw [heq c]
    exact h1
  have hker : sol p w N fun k => sumN (rkM p w N) fun j => bI (pvJ p w N j = k) * x j := fun i hi => by
    rw [rv_pick _ (pvJ p w N) (fun j hj => pvJ_lt hj) x, ← heq i]
    exact hall i (by omega)
  have hz2 := sol_zero hp hN hker fun c _ hnp => by
    refine sumN_dvd fun j hj => ?_
    rw [bI_no fun e => hnp (pvP_iff.2 ⟨j, hj, e⟩), Int.zero_mul]
    exact Int.dvd_zero p
  have h3 := hz2 _ (pvJ_lt hj0)
  have e : (sumN (rkM p w N) fun j => bI (pvJ p w N j = pvJ p w N j0) * x j) = x j0 := by
    have : (sumN (rkM p w N) fun j => bI (pvJ p w N j = pvJ p w N j0) * x j) = sumN (rkM p w N) fun t => bI ((t : Int) = (j0 : Int)) * (fun u : Int => x u.toNat) (t : Int) := sumN_congr fun t ht => by
      simp only [Int.toNat_natCast]
      congr 1
      exact bI_congr ⟨fun e => by rw [pvJ_inj ht hj0 e], fun e => by rw [show t = j0 by omega]⟩
    rw [this, sumN_one (w := fun u : Int => x u.toNat) (a := j0), if_pos hj0]
    simp
  rw [e] at h3
  exact hx0 h3
section exf
variable {p : Int} {q : Int → Prop} (hp : fpP p) (hq : ∀ s t, isS s → isS t → subS s t → q t → q s)
omit hp hq in
theorem sgnM_rows {R C : List Int} : ∀ i, i < (sgnM R C).length → (atR (sgnM R C) i).length = C.length := fun i hi => by
  rw [sgnM_len] at hi
  rw [sgnM_at hi]
  simp
include hq in
theorem dd_rows {k : Int} {r s : Int} (hr : r ∈ szS q (k - 1)) (hs : s ∈ szS q (k + 1)) : sumL (szS q k) (fun u => sgnZ r u * sgnZ u s) = 0 := by
  obtain ⟨a, b, c⟩ := mem_szS.1 hr
  obtain ⟨a2, b2, c2⟩ := mem_szS.1 hs
  have := dd_zero hq a a2 b2 (by omega)
  rwa [show sz r + 1 = k by omega] at this
include hq in
theorem dd_sol (k : Int) : ∀ j, j < (szS q (k + 1)).length → sol p (szS q k).length (sgnM (szS q (k - 1)) (szS q k)) fun i => at0 (atR (sgnM (szS q k) (szS q (k + 1))) i) j := fun j hj i hi => by
  rw [sgnM_len] at hi
  rw [rv_sgn hi (fun u => sgnZ u (at0 (szS q (k + 1)) j)) _ fun t ht => sgn_row ht hj, dd_rows hq (getD_mem' hi) (getD_mem' hj)]
  exact Int.dvd_zero p
include hp hq in
theorem hol_nn (k : Nat) : 0 ≤ holV p q k := by
  have hle := rk_sum (M := sgnM (szS q ((k : Int) - 1)) (szS q k)) (N := sgnM (szS q k) (szS q ((k : Int) + 1))) hp sgnM_rows sgnM_rows (sgnM_len _ _) (dd_sol hq k)
  have e : holV p q k = ((szS q k).length : Int) - (rkM p (szS q k).length (sgnM (szS q ((k : Int) - 1)) (szS q k)) : Nat) - (rkM p (szS q ((k : Int) + 1)).length (sgnM (szS q k) (szS q ((k : Int) + 1))) : Nat) := by
    unfold holV
    rw [rkZ_M, rkZ_M, show (k : Int) + 1 - 1 = k by omega]
  omega
end exf
end Go.Proofs.YtkoljbncokmeaaaDoor
