import Derived.Test.YtkoljbncokmeaaaDoorPDL
import Derived.Test.YtkoljbncokmeaaaDoorPDD
namespace Go.Proofs.YtkoljbncokmeaaaDoor
open Go Go.RowKit
set_option maxRecDepth 1000000
set_option linter.unusedSimpArgs false
set_option linter.unusedVariables false
set_option maxHeartbeats 1000000
theorem range_low {k : Nat} {R : List Nat} (hR : R.Nodup) (h : ∀ r ∈ R, k + 1 ≤ r) : (k :: R).Nodup := List.nodup_cons.2 ⟨fun hm => by have := h k hm; omega, hR⟩
/-- Where all minors are at most 2, one pass a corner is enough. -/
theorem sm_run2 {n w : Nat} : ∀ (q : Nat) (f : Nat → Nat → Int) (k : Nat) (out : List Int), k ≤ n → k ≤ w → min n w - k + 1 ≤ q → zI n w k f → bdE 2 n w f →
    (∀ R C : List Nat, R.length = C.length → R.Nodup → C.Nodup → (∀ r ∈ R, k ≤ r ∧ r < n) → (∀ c ∈ C, k ≤ c ∧ c < w) → (dtL f R C).natAbs ≤ 2) → ∃ R, smR n w q f k out = some R
  | 0, _, _, _, _, _, h, _, _, _ => by omega
  | q + 1, f, k, out, hkn, hkw, hq, hz, hb, hm => by
    by_cases hk : k < n ∧ k < w
    rotate_left
    · exact ⟨out, smR_end hk⟩
    rcases lsZ_full f n w k with ⟨e, _⟩ | ⟨i, j, e, ⟨i1, i2, j1, j2, hnz⟩, hmin⟩
    · exact ⟨out, smR_zero hk e⟩
    have hzg := zI_sw hz hk.1 hk.2 i1 i2 j1 j2
    have hbg : bdE 2 n w (swF k i j f) := fun a b ha hb2 => hb _ _ (swI_lt hk.1 i2 ha) (swI_lt hk.2 j2 hb2)
    have hmg : ∀ R C : List Nat, R.length = C.length → R.Nodup → C.Nodup → (∀ r ∈ R, k ≤ r ∧ r < n) → (∀ c ∈ C, k ≤ c ∧ c < w) → (dtL (swF k i j f) R C).natAbs ≤ 2 := fun R C hl hR hC hr hc => by
      have e1 : dtL (swF k i j f) R C = dtL f (R.map (swI k i)) (C.map (swI k j)) := dtL_map (f := f) (R := R) (C := C) (swI k i) (swI k j) (by omega)
      have nm : ∀ (x : Nat) (l : List Nat), l.Nodup → (l.map (swI k x)).Nodup := fun x l hn => by
        induction l with
        | nil => exact List.nodup_nil
        | cons y l ih =>
          rw [List.nodup_cons] at hn
          rw [List.map_cons, List.nodup_cons]
          refine ⟨fun hm => ?_, ih hn.2⟩
          obtain ⟨z, hz, e⟩ := List.mem_map.1 hm
          exact hn.1 (swI_inj e ▸ hz)
      rw [e1]
      refine hm _ _ (by simpa using hl) (nm i R hR) (nm j C hC) (fun r hm => ?_) (fun c hm => ?_)
      · obtain ⟨a, ha, e⟩ := List.mem_map.1 hm
        exact e ▸ ⟨swI_high i1 (hr a ha).1, swI_lt hk.1 i2 (hr a ha).2⟩
      · obtain ⟨a, ha, e⟩ := List.mem_map.1 hm
        exact e ▸ ⟨swI_high j1 (hc a ha).1, swI_lt hk.2 j2 (hc a ha).2⟩
    have hkk : swF k i j f k k = f i j := by unfold swF; rw [swI_l, swI_l]
    have hming : ∀ a b, k ≤ a → a < n → k ≤ b → b < w → swF k i j f a b ≠ 0 → (swF k i j f k k).natAbs ≤ (swF k i j f a b).natAbs := fun a b ha1 ha2 hb1 hb2 hne => by
      rw [hkk]
      exact hmin _ _ (swI_high i1 ha1) (swI_lt hk.1 i2 ha2) (swI_high j1 hb1) (swI_lt hk.2 j2 hb2) hne
    have hp0 : swF k i j f k k ≠ 0 := by rw [hkk]; exact hnz
    -- facts about the exchanged matrix
    suffices hs : ∃ h, rstF k (swF k i j f) = h ∧ bdE 1073741824 n w (rwF k (swF k i j f)) ∧ bdE 2 n w h ∧ clnP n w k (swF k i j f) ∧ (∀ a b, k < a → a < n → k < b → b < w → h k k ∣ h a b) ∧ (∀ R C : List Nat, R.length = C.length → R.Nodup → C.Nodup → (∀ r ∈ R, k + 1 ≤ r ∧ r < n) → (∀ c ∈ C, k + 1 ≤ c ∧ c < w) → (dtL h R C).natAbs ≤ 2) by
      obtain ⟨h, eh, b1, b2, hc, hod, hmh⟩ := hs
      have hzh := zI_rst_succ hzg hc
      rw [eh] at hzh
      have hb2' : bdE 1073741824 n w (rstF k (swF k i j f)) := fun a b ha hb2 => by rw [eh]; have := b2 a b ha hb2; omega
      have ho : odZ (rstF k (swF k i j f)) n w k < 0 := by
        rcases odI_spec (rstF k (swF k i j f)) w k (n - (k + 1)) (k + 1) with ⟨eo, _⟩ | ⟨o, eo, c1, c2, ⟨x, x1, x2, x3⟩⟩
        · have : odZ (rstF k (swF k i j f)) n w k = -1 := eo
          omega
        · rw [eh] at x3
          exact absurd (Int.tmod_eq_zero_of_dvd (hod o x (by omega) (by omega) x1 x2)) x3
      rw [smR_done hk e ⟨b1, hb2'⟩ hc ho, eh]
      exact sm_run2 q h (k + 1) _ hk.1 hk.2 (by omega) hzh b2 hmh
    generalize swF k i j f = g at *
    clear hm hmin hz hb hnz hkk
    have hpb := hbg k k hk.1 hk.2
    -- the corner divides its row and its column
    have hdc : ∀ a, k ≤ a → a < n → g k k ∣ g a k := fun a ha1 ha2 => by
      by_cases h0 : g a k = 0
      · rw [h0]; exact Int.dvd_zero _
      · have h1 := hming a k ha1 ha2 (Nat.le_refl k) hk.2 h0
        have h2 := hbg a k ha2 hk.2
        rw [← Int.natAbs_dvd_natAbs]
        have h3 : (g k k).natAbs = 1 ∨ (g k k).natAbs = (g a k).natAbs := by omega
        rcases h3 with h3 | h3
        · rw [h3]; exact Nat.one_dvd _
        · rw [h3]; exact Nat.dvd_refl _
    have hdr : ∀ b, k ≤ b → b < w → g k k ∣ g k b := fun b hb1 hb2 => by
      by_cases h0 : g k b = 0
      · rw [h0]; exact Int.dvd_zero _
      · have h1 := hming k b (Nat.le_refl k) hk.1 hb1 hb2 h0
        have h2 := hbg k b hk.1 hb2
        rw [← Int.natAbs_dvd_natAbs]
        have h3 : (g k k).natAbs = 1 ∨ (g k k).natAbs = (g k b).natAbs := by omega
        rcases h3 with h3 | h3
        · rw [h3]; exact Nat.one_dvd _
        · rw [h3]; exact Nat.dvd_refl _
    have hqa : ∀ a, k ≤ a → a < n → (g a k).tdiv (g k k) * g k k = g a k := fun a ha1 ha2 => Int.tdiv_mul_cancel (hdc a ha1 ha2)
    have hqb : ∀ b, k ≤ b → b < w → (g k b).tdiv (g k k) * g k k = g k b := fun b hb1 hb2 => Int.tdiv_mul_cancel (hdr b hb1 hb2)
    have r1 : ∀ a, k < a → a < n → rwF k g a k = 0 := fun a ha1 ha2 => by
      unfold rwF rwV
      rw [if_pos ⟨ha1, Nat.le_refl k⟩, hqa a (by omega) ha2]; omega
    have r2 : ∀ b, rwF k g k b = g k b := fun b => rwF_top
    have r3 : ∀ a b, k < a → a < n → k < b → b < w → g k k * rwF k g a b = g k k * g a b - g a k * g k b := fun a b ha1 ha2 hb1 hb2 => by
      unfold rwF rwV
      rw [if_pos ⟨ha1, by omega⟩, Int.mul_sub, ← Int.mul_assoc, Int.mul_comm (g k k) ((g a k).tdiv (g k k)), hqa a (by omega) ha2]
    have t1 : ∀ b, k < b → b < w → rstF k g k b = 0 := fun b hb1 hb2 => by
      show clF k (rwF k g) k b = 0
      unfold clF clV
      rw [if_pos ⟨Nat.le_refl k, hb1⟩, r2, r2, hqb b (by omega) hb2]; omega
    have t2 : ∀ a b, k < a → a < n → rstF k g a b = rwF k g a b := fun a b ha1 ha2 => by
      show clF k (rwF k g) a b = _
      unfold clF clV
      by_cases hb1 : k ≤ a ∧ k < b
      · rw [if_pos hb1, r1 a ha1 ha2, Int.mul_zero, Int.sub_zero]
      · rw [if_neg hb1]
    have t3 : rstF k g k k = g k k := rst_kk
    have hmin2 : ∀ R C : List Nat, R.length = C.length → R.Nodup → C.Nodup → (∀ r ∈ R, k + 1 ≤ r ∧ r < n) → (∀ c ∈ C, k + 1 ≤ c ∧ c < w) → 1 ≤ R.length → (g k k).natAbs * (dtL (rstF k g) R C).natAbs ≤ 2 := fun R C hl hR hC hr hc h1 => by
      have s1 := dtL_scale (f := rstF k g) (g := fun x y => g k k * g x y - g x k * g k y) (l := g k k) (R := R) (C := C) (by omega) fun a ha b hb => by
        have ha1 := hr a ha
        have hb1 := hc b hb
        rw [t2 a b (by omega) ha1.2]
        exact (r3 a b (by omega) ha1.2 (by omega) hb1.2).symm
      rw [chio_abs (by omega) h1 hp0] at s1
      have s2 := hmg (k :: R) (k :: C) (by simp [hl]) (range_low hR fun r hr2 => (hr r hr2).1) (range_low hC fun c hc2 => (hc c hc2).1) (fun r hm => by
        rcases List.mem_cons.1 hm with rfl | hm
        · omega
        · have := hr r hm; omega) (fun r hm => by
        rcases List.mem_cons.1 hm with rfl | hm
        · omega
        · have := hc r hm; omega)
      obtain ⟨s, hs⟩ : ∃ s, R.length = s + 1 := ⟨R.length - 1, by omega⟩
      rw [hs, Nat.add_sub_cancel, Nat.pow_succ, Nat.mul_assoc] at s1
      have s3 := Nat.eq_of_mul_eq_mul_left (Nat.pow_pos (by omega)) s1
      omega
    have t4 : ∀ a b, k < a → a < n → k < b → b < w → (g k k).natAbs * (rstF k g a b).natAbs ≤ 2 := fun a b ha1 ha2 hb1 hb2 => by
      have := hmin2 [a] [b] rfl (by simp) (by simp) (by simp; omega) (by simp; omega) (by simp)
      rwa [dtL_one] at this
    refine ⟨rstF k g, rfl, fun a b ha hb2 => ?_, fun a b ha hb2 => ?_, ⟨r1, t1⟩, fun a b ha1 ha2 hb1 hb2 => ?_, fun R C hl hR hC hr hc => ?_⟩
    · have hab := hbg a b ha hb2
      by_cases h1 : k < a ∧ k < b
      · have h2 := t4 a b h1.1 ha h1.2 hb2
        rw [t2 a b h1.1 ha] at h2
        have h3 : 1 ≤ (g k k).natAbs := by omega
        have h4 : (rwF k g a b).natAbs ≤ (g k k).natAbs * (rwF k g a b).natAbs := Nat.le_mul_of_pos_left _ h3
        omega
      · by_cases h2 : k < a ∧ b = k
        · rw [h2.2, r1 a h2.1 ha]; omega
        · have : rwF k g a b = g a b := by unfold rwF; rw [if_neg (by omega)]
          rw [this]; omega
    · have hab := hbg a b ha hb2
      by_cases h1 : k < a ∧ k < b
      · have h2 := t4 a b h1.1 ha h1.2 hb2
        have h3 : 1 ≤ (g k k).natAbs := by omega
        have h4 : (rstF k g a b).natAbs ≤ (g k k).natAbs * (rstF k g a b).natAbs := Nat.le_mul_of_pos_left _ h3
        omega
      · by_cases h2 : k < a ∧ b = k
        · rw [h2.2, t2 a k h2.1 ha, r1 a h2.1 ha]; omega
        · by_cases h3 : a = k ∧ k < b
          · rw [h3.1, t1 b h3.2 hb2]; omega
          · have : rstF k g a b = g a b := by
              unfold rstF clF rwF
              rw [if_neg (by omega), if_neg (by omega)]
            rw [this]; omega
    · rw [t3]
      have h2 := t4 a b ha1 ha2 hb1 hb2
      by_cases h1 : (g k k).natAbs = 1
      · rw [← Int.natAbs_dvd_natAbs, h1]; exact Nat.one_dvd _
      · have hp2 : (g k k).natAbs = 2 := by omega
        have ev : ∀ x y, k ≤ x → x < n → k ≤ y → y < w → ∃ z, g x y = 2 * z := fun x y hx1 hx2 hy1 hy2 => by
          by_cases h0 : g x y = 0
          · exact ⟨0, by omega⟩
          · have := hming x y hx1 hx2 hy1 hy2 h0
            have := hbg x y hx2 hy2
            have : g x y = 2 ∨ g x y = -2 := by omega
            rcases this with h | h
            · exact ⟨1, by omega⟩
            · exact ⟨-1, by omega⟩
        obtain ⟨z1, e1⟩ := ev a b (by omega) ha2 (by omega) hb2
        obtain ⟨z2, e2⟩ := ev a k (by omega) ha2 (Nat.le_refl k) hk.2
        obtain ⟨z3, e3⟩ := ev k b (Nat.le_refl k) hk.1 (by omega) hb2
        obtain ⟨z4, e4⟩ := ev k k (Nat.le_refl k) hk.1 (Nat.le_refl k) hk.2
        have h5 := r3 a b ha1 ha2 hb1 hb2
        rw [← t2 a b ha1 ha2, e1, e2, e3, e4] at h5
        have h6 : 2 * z4 * rstF k g a b = 4 * (z4 * z1 - z2 * z3) := by
          rw [h5, Int.mul_sub]
          have a1 : 2 * z4 * (2 * z1) = 4 * (z4 * z1) := by rw [Int.mul_assoc, Int.mul_left_comm z4 2 z1]; omega
          have a2 : 2 * z2 * (2 * z3) = 4 * (z2 * z3) := by rw [Int.mul_assoc, Int.mul_left_comm z2 2 z3]; omega
          rw [a1, a2]
        have h7 : (2 * z4 * rstF k g a b).natAbs ≤ 2 := by rw [Int.natAbs_mul, ← e4]; exact h2
        have h8 : 2 * z4 * rstF k g a b = 0 := by
          generalize z4 * z1 - z2 * z3 = y at h6
          omega
        have h9 : rstF k g a b = 0 := by
          rcases Int.mul_eq_zero.1 h8 with h | h
          · omega
          · exact h
        rw [h9]; exact Int.dvd_zero _
    · by_cases h1 : 1 ≤ R.length
      · have h2 := hmin2 R C hl hR hC hr hc h1
        have h3 : 1 ≤ (g k k).natAbs := by omega
        have h4 : (dtL (rstF k g) R C).natAbs ≤ (g k k).natAbs * (dtL (rstF k g) R C).natAbs := Nat.le_mul_of_pos_left _ h3
        omega
      · have h2 : R = [] := List.length_eq_zero_iff.1 (by omega)
        subst h2
        show (1 : Int).natAbs ≤ 2
        decide
/-- Smith forms of matrices with small minors: both programs answer, and alike. -/
theorem smith2 {M : List (List Int)} (h : mB 2 M.length (wdM M) (ent M)) : ∃ R, smsV M = some R ∧ smiV M = some R := by
  have hs : ∃ R, smsV M = some R := by
    unfold smsV
    by_cases hc : M ≠ [] ∧ smiM M
    · rw [if_pos hc]
      obtain ⟨R, hR⟩ := sm_run2 (min M.length (wdM M) + 1) (ent M) 0 [] (Nat.zero_le _) (Nat.zero_le _) (by omega) (fun a b _ _ h => by omega) (fun a b ha hb => by have := hc.2.1.2.2.2 a b ha hb; omega) (fun R C hl hR hC hr hc => h R C hl hR hC (fun r hr2 => (hr r hr2).2) fun c hc2 => (hc c hc2).2)
      exact ⟨R, smV_iff.2 ⟨_, hR⟩⟩
    · rw [if_neg hc]; exact ⟨[], rfl⟩
  obtain ⟨R, hR⟩ := hs
  exact ⟨R, hR, smi_sms h (by omega) (by omega) hR⟩
end Go.Proofs.YtkoljbncokmeaaaDoor
namespace Go.Proofs.YtkoljbncokmeaaaDoor
open Go Go.RowKit
set_option maxRecDepth 1000000
set_option linter.unusedSimpArgs false
set_option linter.unusedVariables false
set_option maxHeartbeats 1000000
/-- The places below n that R holds. -/
def rws (n R : Nat) : List Nat := (List.range n).filter fun r => R.testBit r
theorem rws_succ (n R : Nat) : rws (n + 1) R = rws n R ++ (if R.testBit n = true then [n] else []) := by
  unfold rws
  rw [List.range_succ, List.filter_append]
  cases h : R.testBit n <;> simp [h]
theorem mem_rws {n R r : Nat} : r ∈ rws n R ↔ r < n ∧ R.testBit r = true := by
  unfold rws; simp [List.mem_filter]
theorem rws_nodup (n R : Nat) : (rws n R).Nodup := List.Nodup.sublist List.filter_sublist List.nodup_range
theorem smS_succ (f : Nat → Int) (n : Nat) : smS f (n + 1) = smS f n + f n := rfl
theorem erIdx : ∀ {l : List Nat}, l.Nodup → ∀ {i : Nat} (h : i < l.length), l.eraseIdx i = l.filter fun r => !decide (r = l[i])
  | [], _, _, h => by simp at h
  | x :: l, hn, 0, h => by
    rw [List.nodup_cons] at hn
    simp only [List.eraseIdx_cons_zero, List.getElem_cons_zero, List.filter_cons, decide_true, Bool.not_true, Bool.false_eq_true, if_false]
    exact (List.filter_eq_self.2 fun y hy => by
      have : y ≠ x := fun e => hn.1 (e ▸ hy)
      simp [this]).symm
  | x :: l, hn, i + 1, h => by
    rw [List.nodup_cons] at hn
    have hx : x ≠ l[i]'(by simpa using h) := fun e => hn.1 (e ▸ List.getElem_mem _)
    simp only [List.eraseIdx_cons_succ, List.getElem_cons_succ, List.filter_cons]
    rw [erIdx hn.2 (by simpa using h)]
    simp [hx]
/-- A sum over the places that a set holds. -/
theorem smS_rws (g : Nat → Nat → Int) (R : Nat) : ∀ n, smS (fun i => g i ((rws n R).getD i 0)) (rws n R).length = smS (fun r => if R.testBit r = true then g (rws r R).length r else 0) n
  | 0 => rfl
  | n + 1 => by
    have ih := smS_rws g R n
    rw [smS_succ, ← ih, rws_succ]
    by_cases h : R.testBit n = true
    · rw [if_pos h, if_pos h, List.length_append, List.length_singleton, smS_succ]
      rw [smS_congr (g := fun i => g i ((rws n R).getD i 0)) _ fun i hi => ?_]
      · simp [List.getD_eq_getElem?_getD]
      · simp [List.getD_eq_getElem?_getD, List.getElem?_append_left hi]
    · rw [if_neg h, if_neg h, List.append_nil, Int.add_zero]
theorem erase_rws {n R : Nat} {i : Nat} (hi : i < (rws n R).length) : (rws n R).eraseIdx i = rws n (R ^^^ 2 ^ ((rws n R).getD i 0)) := by
  have e : (rws n R).getD i 0 = (rws n R)[i] := by simp [List.getD_eq_getElem?_getD, hi]
  rw [e, erIdx (rws_nodup n R) hi]
  have hm : (rws n R)[i] ∈ rws n R := List.getElem_mem hi
  obtain ⟨hx, hb⟩ := mem_rws.1 hm
  generalize (rws n R)[i] = x at *
  unfold rws
  rw [List.filter_filter]
  refine List.filter_congr fun r hr => ?_
  rw [flp_bit]
  by_cases h : r = x
  · subst h; simp [hb]
  · simp [h]
/-- The entries of a matrix: for each column the rows and signs. -/
def eS (b : Bool) : Int := if b then -1 else 1
def enC : List (Nat × Bool) → Nat → Int
  | [], _ => 0
  | x :: l, a => (if x.1 = a then eS x.2 else 0) + enC l a
theorem enC_cons (x : Nat × Bool) (l : List (Nat × Bool)) (a : Nat) : enC (x :: l) a = (if x.1 = a then eS x.2 else 0) + enC l a := rfl
def eM (E : List (List (Nat × Bool))) (a b : Nat) : Int := enC (E.getD b []) a
def pOdd (R : Nat) : Nat → Bool
  | 0 => false
  | r + 1 => pOdd R r ^^ R.testBit r
theorem pOdd_alt (R : Nat) : ∀ r, altI (rws r R).length = eS (pOdd R r)
  | 0 => rfl
  | r + 1 => by
    rw [rws_succ, List.length_append]
    unfold pOdd
    have ih := pOdd_alt R r
    cases h : R.testBit r with
    | false => simpa using ih
    | true =>
      simp only [if_true, List.length_singleton, altI_succ, ih]
      cases pOdd R r <;> rfl
/-- A determinant by the sets of rows. -/
def wdL (W : Nat → Int) (R : Nat) : List (Nat × Bool) → Int
  | [] => 0
  | x :: l => (if R.testBit x.1 = true then eS (pOdd R x.1 ^^ x.2) * W (R ^^^ 2 ^ x.1) else 0) + wdL W R l
def wd (E : List (List (Nat × Bool))) : List Nat → Nat → Int
  | [], R => if R = 0 then 1 else 0
  | c :: C, R => wdL (wd E C) R (E.getD c [])
theorem eS_xor (a b : Bool) : eS (a ^^ b) = eS a * eS b := by cases a <;> cases b <;> rfl
theorem wdL_sum (W : Nat → Int) (R n : Nat) : ∀ l : List (Nat × Bool), (∀ x ∈ l, x.1 < n) → smS (fun r => if R.testBit r = true then eS (pOdd R r) * (enC l r * W (R ^^^ 2 ^ r)) else 0) n = wdL W R l
  | [], _ => by
    rw [smS_z fun r _ => by simp [enC]]
    rfl
  | x :: l, h => by
    have ih := wdL_sum W R n l fun y hy => h y (List.mem_cons_of_mem _ hy)
    unfold wdL
    rw [← ih, ← smS_one (s := x.1) (f := fun r => if r = x.1 then (if R.testBit r = true then eS (pOdd R r ^^ x.2) * W (R ^^^ 2 ^ r) else 0) else 0) n (h x List.mem_cons_self) (fun i _ hne => if_neg hne) |>.trans (if_pos rfl), ← smS_add]
    refine smS_congr _ fun r _ => ?_
    rw [enC_cons]
    by_cases hb : R.testBit r = true
    · simp only [hb, if_true]
      by_cases e : r = x.1
      · subst e
        rw [if_pos rfl, if_pos rfl, eS_xor, Int.add_mul, Int.mul_add, Int.mul_assoc]
      · rw [if_neg e, if_neg fun h => e h.symm, Int.zero_add, Int.zero_add]
    · simp [hb]
theorem wd_dt (E : List (List (Nat × Bool))) {n : Nat} (hE : ∀ c, ∀ x ∈ E.getD c [], x.1 < n) : ∀ (C : List Nat) (R : Nat), R < 2 ^ n → (rws n R).length = C.length → wd E C R = dtL (eM E) (rws n R) C
  | [], R, hR, h => by
    have h0 : rws n R = [] := List.length_eq_zero_iff.1 h
    have : R = 0 := by
      apply Nat.eq_of_testBit_eq
      intro i
      rw [Nat.zero_testBit]
      cases hb : R.testBit i with
      | false => rfl
      | true =>
        by_cases hi : i < n
        · have : i ∈ rws n R := mem_rws.2 ⟨hi, hb⟩
          rw [h0] at this; simp at this
        · have := Nat.testBit_lt_two_pow (Nat.lt_of_lt_of_le hR (Nat.pow_le_pow_right (by omega) (Nat.le_of_not_lt hi)))
          rw [hb] at this; cases this
    subst this
    rw [h0]; rfl
  | c :: C, R, hR, h => by
    have hne : rws n R ≠ [] := fun e => by rw [e] at h; simp at h
    rw [dtL_cons _ _ _ _ hne]
    have e1 := smS_rws (fun i r => altI i * (eM E r c * dtL (eM E) (rws n (R ^^^ 2 ^ r)) C)) R n
    rw [smS_congr (g := fun i => altI i * (eM E ((rws n R).getD i 0) c * dtL (eM E) (rws n (R ^^^ 2 ^ ((rws n R).getD i 0))) C)) _ fun i hi => by rw [erase_rws hi], e1]
    unfold wd
    rw [← wdL_sum (wd E C) R n _ (hE c)]
    refine smS_congr _ fun r hr => ?_
    by_cases hb : R.testBit r = true
    · rw [if_pos hb, if_pos hb, pOdd_alt]
      have hl : (rws n (R ^^^ 2 ^ r)).length = C.length := by
        have hm : r ∈ rws n R := mem_rws.2 ⟨hr, hb⟩
        obtain ⟨i, hi, ei⟩ := List.getElem_of_mem hm
        have e2 := erase_rws (n := n) (R := R) hi
        have e3 : (rws n R).getD i 0 = r := by simp [List.getD_eq_getElem?_getD, hi, ei]
        rw [e3] at e2
        rw [← e2]
        have := len_erase hi
        simp only [List.length_cons] at h
        omega
      rw [wd_dt E hE C _ (flp_lt hR hr) hl]
      rfl
    · rw [if_neg hb, if_neg hb]
end Go.Proofs.YtkoljbncokmeaaaDoor
namespace Go.Proofs.YtkoljbncokmeaaaDoor
open Go Go.RowKit
set_option maxRecDepth 1000000
set_option linter.unusedSimpArgs false
set_option linter.unusedVariables false
set_option maxHeartbeats 1000000
/-- A small number by three bits. -/
def b2i (b : Bool) : Int := if b then 1 else 0
def pl3 (a b s : Bool) : Int := b2i a + 2 * b2i b - 4 * b2i s
def pl4 (a b c d : Bool) : Int := b2i a + 2 * b2i b + 4 * b2i c + 8 * b2i d
/-- Adds a number of three bits to one of four, with a sign. -/
def adA (A0 x0 g : Nat) : Nat := (A0 ^^^ x0) ^^^ g
def adC (A0 x0 g : Nat) : Nat := (A0 &&& x0) ||| (g &&& (A0 ^^^ x0))
def bdA (A0 x0 g : Bool) : Bool := (A0 ^^ x0) ^^ g
def bdC (A0 x0 g : Bool) : Bool := (A0 && x0) || (g && (A0 ^^ x0))
theorem adA_bit (A x g R : Nat) : (adA A x g).testBit R = bdA (A.testBit R) (x.testBit R) (g.testBit R) := by
  unfold adA bdA; rw [Nat.testBit_xor, Nat.testBit_xor]
theorem adC_bit (A x g R : Nat) : (adC A x g).testBit R = bdC (A.testBit R) (x.testBit R) (g.testBit R) := by
  unfold adC bdC; rw [Nat.testBit_or, Nat.testBit_and, Nat.testBit_and, Nat.testBit_xor]
theorem add_bits : ∀ A0 A1 A2 A3 x0 x1 x2 g : Bool,
    (pl4 (bdA A0 (x0 ^^ g) g) (bdA A1 (x1 ^^ g) (bdC A0 (x0 ^^ g) g)) (bdA A2 (x2 ^^ g) (bdC A1 (x1 ^^ g) (bdC A0 (x0 ^^ g) g))) (bdA A3 (x2 ^^ g) (bdC A2 (x2 ^^ g) (bdC A1 (x1 ^^ g) (bdC A0 (x0 ^^ g) g))))
      - (pl4 A0 A1 A2 A3 + eS g * pl3 x0 x1 x2)) % 16 = 0 := by decide
/-- One term: the planes a b s, moved to the sets that hold r, with the sign of g, are added. -/
def tmS {α : Type} (sh X g a b s A0 A1 A2 A3 : Nat) (k : Nat → Nat → Nat → Nat → α) : α :=
  frc (((a <<< sh) &&& X) ^^^ g) fun x0 => frc (((b <<< sh) &&& X) ^^^ g) fun x1 => frc (((s <<< sh) &&& X) ^^^ g) fun x2 =>
  frc (adC A0 x0 g) fun c0 => frc (adC A1 x1 c0) fun c1 => frc (adC A2 x2 c1) fun c2 =>
  frc (adA A0 x0 g) fun S0 => frc (adA A1 x1 c0) fun S1 => frc (adA A2 x2 c1) fun S2 => frc (adA A3 x2 c2) fun S3 => k S0 S1 S2 S3
/-- All terms of a column; Ms: for each place its width, its sets, and the sets with an odd and with an even number of places before it. -/
def clmS {α : Type} (Ms : List (Nat × Nat × Nat × Nat)) (a b s : Nat) : List (Nat × Bool) → Nat → Nat → Nat → Nat → (Nat → Nat → Nat → Nat → α) → α
  | [], A0, A1, A2, A3, k => k A0 A1 A2 A3
  | x :: l, A0, A1, A2, A3, k => match Ms.getD x.1 (0, 0, 0, 0) with
    | (sh, X, g0, g1) => tmS sh X (cond x.2 g1 g0) a b s A0 A1 A2 A3 fun B0 B1 B2 B3 => clmS Ms a b s l B0 B1 B2 B3 k
/-- The bits of planes at a set, as numbers. -/
def at4 (A0 A1 A2 A3 R : Nat) : Int := pl4 (A0.testBit R) (A1.testBit R) (A2.testBit R) (A3.testBit R)
def at3 (a b s R : Nat) : Int := pl3 (a.testBit R) (b.testBit R) (s.testBit R)
structure MsOk (n : Nat) (Ms : List (Nat × Nat × Nat × Nat)) : Prop where
  sh : ∀ r, r < n → (Ms.getD r (0, 0, 0, 0)).1 = 2 ^ r
  xx : ∀ r, r < n → (Ms.getD r (0, 0, 0, 0)).2.1 = varM n r
  g0 : ∀ r, r < n → ∀ R, R < 2 ^ n → (Ms.getD r (0, 0, 0, 0)).2.2.1.testBit R = pOdd R r
  g1 : ∀ r, r < n → ∀ R, R < 2 ^ n → (Ms.getD r (0, 0, 0, 0)).2.2.2.testBit R = !pOdd R r
theorem tm_ok {α : Type} {n : Nat} {Ms : List (Nat × Nat × Nat × Nat)} (hM : MsOk n Ms) {r : Nat} (hr : r < n) (e : Bool) {a b s A0 A1 A2 A3 : Nat} {k : Nat → Nat → Nat → Nat → α} {Q : α → Prop}
    (h : ∀ B0 B1 B2 B3, (∀ R, R < 2 ^ n → (at4 B0 B1 B2 B3 R - (at4 A0 A1 A2 A3 R + (if R.testBit r = true then eS (pOdd R r ^^ e) * at3 a b s (R ^^^ 2 ^ r) else 0))) % 16 = 0) → Q (k B0 B1 B2 B3)) :
    Q (match Ms.getD r (0, 0, 0, 0) with | (sh, X, g0, g1) => tmS sh X (cond e g1 g0) a b s A0 A1 A2 A3 k) := by
  have h1 := hM.sh r hr
  have h2 := hM.xx r hr
  have h3 := hM.g0 r hr
  have h4 := hM.g1 r hr
  generalize Ms.getD r (0, 0, 0, 0) = t at h1 h2 h3 h4 ⊢
  obtain ⟨sh, X, g0, g1⟩ := t
  simp only at h1 h2 h3 h4
  subst h1 h2
  show Q (tmS _ _ _ _ _ _ _ _ _ _ _)
  obtain ⟨g, hg, hg2⟩ : ∃ g, (cond e g1 g0) = g ∧ ∀ R, R < 2 ^ n → g.testBit R = (pOdd R r ^^ e) := by
    cases e with
    | false => exact ⟨g0, rfl, fun R hR => by rw [h3 R hR]; simp⟩
    | true => exact ⟨g1, rfl, fun R hR => by rw [h4 R hR]; simp⟩
  rw [hg]
  unfold tmS
  simp only [frc_eq]
  refine h _ _ _ _ fun R hR => ?_
  unfold at4 at3
  simp only [adA_bit, adC_bit, Nat.testBit_xor (x := _ &&& _), shl_bit hr hR, hg2 R hR]
  cases hb : R.testBit r with
  | true =>
    simp only [Bool.true_and, if_true]
    exact add_bits _ _ _ _ _ _ _ _
  | false =>
    have := add_bits (A0.testBit R) (A1.testBit R) (A2.testBit R) (A3.testBit R) false false false (pOdd R r ^^ e)
    simp only [Bool.false_and, Bool.false_eq_true, if_false, Int.add_zero]
    have hz : pl3 false false false = 0 := rfl
    rw [hz, Int.mul_zero, Int.add_zero] at this
    exact this
theorem cl_ok {α : Type} {n : Nat} {Ms : List (Nat × Nat × Nat × Nat)} (hM : MsOk n Ms) {a b s : Nat} {Q : α → Prop} : ∀ (l : List (Nat × Bool)), (∀ x ∈ l, x.1 < n) → ∀ (A0 A1 A2 A3 : Nat) (k : Nat → Nat → Nat → Nat → α),
    (∀ B0 B1 B2 B3, (∀ R, R < 2 ^ n → (at4 B0 B1 B2 B3 R - (at4 A0 A1 A2 A3 R + wdL (at3 a b s) R l)) % 16 = 0) → Q (k B0 B1 B2 B3)) → Q (clmS Ms a b s l A0 A1 A2 A3 k)
  | [], _, A0, A1, A2, A3, k, h => h A0 A1 A2 A3 fun R _ => by simp [wdL]
  | x :: l, hl, A0, A1, A2, A3, k, h => by
    show Q (match Ms.getD x.1 (0, 0, 0, 0) with | (sh, X, g0, g1) => tmS sh X (cond x.2 g1 g0) a b s A0 A1 A2 A3 fun B0 B1 B2 B3 => clmS Ms a b s l B0 B1 B2 B3 k)
    refine tm_ok hM (hl x List.mem_cons_self) x.2 fun B0 B1 B2 B3 hB => ?_
    refine cl_ok hM l (fun y hy => hl y (List.mem_cons_of_mem _ hy)) B0 B1 B2 B3 k fun D0 D1 D2 D3 hD => h D0 D1 D2 D3 fun R hR => ?_
    have h1 := hB R hR
    have h2 := hD R hR
    show (at4 D0 D1 D2 D3 R - (at4 A0 A1 A2 A3 R + ((if R.testBit x.1 = true then eS (pOdd R x.1 ^^ x.2) * at3 a b s (R ^^^ 2 ^ x.1) else 0) + wdL (at3 a b s) R l))) % 16 = 0
    omega
theorem wdL_bnd {W : Nat → Int} {n : Nat} (hW : ∀ R, R < 2 ^ n → -2 ≤ W R ∧ W R ≤ 2) {R : Nat} (hR : R < 2 ^ n) : ∀ l : List (Nat × Bool), (∀ x ∈ l, x.1 < n) → -(2 * (l.length : Int)) ≤ wdL W R l ∧ wdL W R l ≤ 2 * (l.length : Int)
  | [], _ => by simp [wdL]
  | x :: l, hl => by
    have ih := wdL_bnd hW hR l fun y hy => hl y (List.mem_cons_of_mem _ hy)
    have h := hW (R ^^^ 2 ^ x.1) (flp_lt hR (hl x List.mem_cons_self))
    show -(2 * ((x :: l).length : Int)) ≤ (if R.testBit x.1 = true then eS (pOdd R x.1 ^^ x.2) * W (R ^^^ 2 ^ x.1) else 0) + wdL W R l ∧ (if R.testBit x.1 = true then eS (pOdd R x.1 ^^ x.2) * W (R ^^^ 2 ^ x.1) else 0) + wdL W R l ≤ _
    simp only [List.length_cons]
    generalize wdL W R l = t at *
    split
    · unfold eS
      split <;> omega
    · omega
theorem wdL_congr {W V : Nat → Int} {n : Nat} {R : Nat} (hR : R < 2 ^ n) (h : ∀ R, R < 2 ^ n → W R = V R) : ∀ l : List (Nat × Bool), (∀ x ∈ l, x.1 < n) → wdL W R l = wdL V R l
  | [], _ => rfl
  | x :: l, hl => by
    show (if R.testBit x.1 = true then eS (pOdd R x.1 ^^ x.2) * W (R ^^^ 2 ^ x.1) else 0) + wdL W R l = (if R.testBit x.1 = true then eS (pOdd R x.1 ^^ x.2) * V (R ^^^ 2 ^ x.1) else 0) + wdL V R l
    rw [wdL_congr hR h l fun y hy => hl y (List.mem_cons_of_mem _ hy), h _ (flp_lt hR (hl x List.mem_cons_self))]
theorem pl_small : ∀ A0 A1 A2 A3 : Bool, (A2 = A3) → (((A0 && A1) || A3) = A3) → ((A3 && A1) = A3) → (∃ v : Int, -2 ≤ v ∧ v ≤ 2 ∧ pl3 A0 A1 A3 = v ∧ (pl4 A0 A1 A2 A3 - v) % 16 = 0) := by
  intro A0 A1 A2 A3 h1 h2 h3
  subst h1
  refine ⟨pl3 A0 A1 A2, ?_⟩
  cases A0 <;> cases A1 <;> cases A2 <;> simp_all [pl3, pl4, b2i]
end Go.Proofs.YtkoljbncokmeaaaDoor
namespace Go.Proofs.YtkoljbncokmeaaaDoor
open Go Go.RowKit
set_option maxRecDepth 1000000
set_option linter.unusedSimpArgs false
set_option linter.unusedVariables false
set_option maxHeartbeats 1000000
/-- All columns and rows: the sizes of their determinants are at most t. -/
def PG (n : Nat) (E : List (List (Nat × Bool))) (t f : Nat) : Prop := ∀ R C : List Nat, R.Nodup → C.Nodup → (∀ r ∈ R, r < n) → (∀ c, c ∈ C ↔ f.testBit c = true) → R.length = C.length → (dtL (eM E) R C).natAbs ≤ t
def mkS (R : List Nat) : Nat := R.foldr (fun r m => m ||| 2 ^ r) 0
theorem mkS_bit (j : Nat) : ∀ R : List Nat, (mkS R).testBit j = true ↔ j ∈ R
  | [] => by simp [mkS]
  | r :: R => by
    have ih := mkS_bit j R
    show (mkS R ||| 2 ^ r).testBit j = true ↔ _
    rw [Nat.testBit_or, Bool.or_eq_true, ih, Nat.testBit_two_pow, List.mem_cons, decide_eq_true_eq]
    constructor
    · rintro (h | h)
      · exact .inr h
      · exact .inl h.symm
    · rintro (h | h)
      · exact .inr h.symm
      · exact .inl h
theorem mkS_lt {n : Nat} : ∀ R : List Nat, (∀ r ∈ R, r < n) → mkS R < 2 ^ n
  | [], _ => Nat.two_pow_pos _
  | r :: R, h => Nat.or_lt_two_pow (mkS_lt R fun x hx => h x (List.mem_cons_of_mem _ hx)) (Nat.pow_lt_pow_right (by omega) (h r List.mem_cons_self))
theorem perm_rws {n : Nat} {R : List Nat} (hn : R.Nodup) (h : ∀ r ∈ R, r < n) : R.Perm (rws n (mkS R)) :=
  (List.perm_ext_iff_of_nodup hn (rws_nodup _ _)).2 fun a => by
    rw [mem_rws, mkS_bit]
    exact ⟨fun ha => ⟨h a ha, ha⟩, fun ha => ha.2⟩
theorem PG_of {n t f : Nat} {E : List (List (Nat × Bool))} (hE : ∀ c, ∀ x ∈ E.getD c [], x.1 < n) {C : List Nat} (hn : C.Nodup) (hC : ∀ c, c ∈ C ↔ f.testBit c = true) (h : ∀ R, R < 2 ^ n → (wd E C R).natAbs ≤ t) : PG n E t f := by
  intro R C' hR hC' hr hc hl
  have p1 := perm_rws hR hr
  have p2 : C'.Perm C := (List.perm_ext_iff_of_nodup hC' hn).2 fun c => by rw [hc, hC]
  have e1 := dtL_cperm (M := eM E) (R := R) p2 [] (by simpa using hl.symm)
  have e2 := dtL_rperm (M := eM E) (C := C) p1 []
  simp only [List.nil_append] at e1 e2
  rw [e1, e2, ← wd_dt E hE C _ (mkS_lt R hr) (by rw [← p1.length_eq, hl, p2.length_eq])]
  exact h _ (mkS_lt R hr)
structure StOk (n m : Nat) (E : List (List (Nat × Bool))) (x : Nat × Nat × Nat × Nat) : Prop where
  lt : x.1 < 2 ^ m
  ex : ∃ C : List Nat, C.Nodup ∧ (∀ c, c ∈ C ↔ x.1.testBit c = true) ∧ ∀ R, R < 2 ^ n → at3 x.2.1 x.2.2.1 x.2.2.2 R = wd E C R ∧ -2 ≤ wd E C R ∧ wd E C R ≤ 2
def run (Ms : List (Nat × Nat × Nat × Nat)) (E : List (List (Nat × Bool))) : List (Nat × Nat) → List (Nat × Nat × Nat × Nat) → Nat → Nat → (Nat → Nat → Bool) → Bool
  | [], _, S, D, K => K S D
  | x :: l, st, S, D, K => match st.drop x.1 with
    | [] => false
    | (f, a, b, s) :: st' => cond (f.testBit x.2) false (clmS Ms a b s (E.getD x.2 []) 0 0 0 0 fun A0 A1 A2 A3 =>
      cond (Nat.beq A2 A3 && (Nat.beq ((A0 &&& A1) ||| A3) A3 && Nat.beq (A3 &&& A1) A3))
        (frc (f ^^^ 2 ^ x.2) fun f' => cond (Nat.beq A0 0 && (Nat.beq A1 0 && Nat.beq A3 0))
          (frc (D ||| 2 ^ f') fun D' => run Ms E l ((f', A0, A1, A3) :: (f, a, b, s) :: st') S D' K)
          (frc (S ||| 2 ^ f') fun S' => run Ms E l ((f', A0, A1, A3) :: (f, a, b, s) :: st') S' D K)) false)
def GoodM (m : Nat) (P : Nat → Prop) (Z : Nat) : Prop := ∀ f, f < 2 ^ m → Z.testBit f = true → P f
theorem good_or {m : Nat} {P : Nat → Prop} {Z Y : Nat} (h1 : GoodM m P Z) (h2 : GoodM m P Y) : GoodM m P (Z ||| Y) := fun f hf h => by
  rw [Nat.testBit_or, Bool.or_eq_true] at h
  exact h.elim (h1 f hf) (h2 f hf)
theorem good_one {m : Nat} {P : Nat → Prop} {g : Nat} (h : P g) : GoodM m P (2 ^ g) := fun f _ hb => by
  rw [Nat.testBit_two_pow, decide_eq_true_eq] at hb
  exact hb ▸ h
theorem run_ok {n m : Nat} {Ms : List (Nat × Nat × Nat × Nat)} {E : List (List (Nat × Bool))} (hM : MsOk n Ms) (hE : ∀ c, ∀ x ∈ E.getD c [], x.1 < n) (hL : ∀ c, (E.getD c []).length ≤ 6) (hm : E.length = m) {K : Nat → Nat → Bool} :
    ∀ (l : List (Nat × Nat)) (st : List (Nat × Nat × Nat × Nat)) (S D : Nat), (∀ x ∈ l, x.2 < m) → (∀ x ∈ st, StOk n m E x) → GoodM m (PG n E 2) S → GoodM m (PG n E 0) D → run Ms E l st S D K = true →
      ∃ S D, GoodM m (PG n E 2) S ∧ GoodM m (PG n E 0) D ∧ K S D = true
  | [], st, S, D, _, _, hS, hD, h => ⟨S, D, hS, hD, h⟩
  | x :: l, st, S, D, hl, hst, hS, hD, h => by
    unfold run at h
    split at h
    · cases h
    rename_i f a b s st' hdr
    have hsub : ∀ y ∈ (f, a, b, s) :: st', StOk n m E y := fun y hy => hst y (List.mem_of_mem_drop (hdr ▸ hy))
    obtain ⟨hlt, C, hCn, hC, hW⟩ := hsub _ List.mem_cons_self
    simp only at hlt hC hW
    have hxm := hl x List.mem_cons_self
    cases hb : f.testBit x.2 with
    | true => rw [hb] at h; cases h
    | false =>
      rw [hb, cond_false] at h
      revert h
      refine cl_ok (Q := fun v : Bool => v = true → _) hM (E.getD x.2 []) (hE x.2) 0 0 0 0 _ fun A0 A1 A2 A3 hA h => ?_
      cases hc : (Nat.beq A2 A3 && (Nat.beq ((A0 &&& A1) ||| A3) A3 && Nat.beq (A3 &&& A1) A3)) with
      | false => rw [hc] at h; cases h
      | true =>
        rw [hc, cond_true, frc_eq] at h
        simp only [Bool.and_eq_true, Nat.beq_eq] at hc
        obtain ⟨c1, c2, c3⟩ := hc
        have hCn' : (x.2 :: C).Nodup := List.nodup_cons.2 ⟨fun hm => (by rw [hC, hb] at hm; cases hm), hCn⟩
        have hC' : ∀ c, c ∈ x.2 :: C ↔ (f ^^^ 2 ^ x.2).testBit c = true := fun c => by
          rw [List.mem_cons, flp_bit]
          by_cases e : c = x.2
          · subst e; simp [hb]
          · simp [e, hC]
        have hlt' := flp_lt hlt hxm
        have hW' : ∀ R, R < 2 ^ n → at3 A0 A1 A3 R = wd E (x.2 :: C) R ∧ -2 ≤ wd E (x.2 :: C) R ∧ wd E (x.2 :: C) R ≤ 2 := fun R hR => by
          have h1 := hA R hR
          have h0 : at4 0 0 0 0 R = 0 := by simp [at4, pl4, b2i]
          rw [h0, wdL_congr hR (fun Q hQ => (hW Q hQ).1) _ (hE x.2)] at h1
          have h2 := wdL_bnd (fun Q hQ => (hW Q hQ).2) hR (E.getD x.2 []) (hE x.2)
          have h3 : wd E (x.2 :: C) R = wdL (wd E C) R (E.getD x.2 []) := rfl
          have h4 := hL x.2
          rw [← h3] at h1 h2
          obtain ⟨v, v1, v2, v3, v4⟩ := pl_small (A0.testBit R) (A1.testBit R) (A2.testBit R) (A3.testBit R) (by rw [c1]) (by rw [← Nat.testBit_and, ← Nat.testBit_or, c2]) (by rw [← Nat.testBit_and, c3])
          unfold at4 at h1
          unfold at3
          rw [v3]
          omega
        have hnew : StOk n m E (f ^^^ 2 ^ x.2, A0, A1, A3) := ⟨hlt', x.2 :: C, hCn', hC', hW'⟩
        have hst' : ∀ y ∈ (f ^^^ 2 ^ x.2, A0, A1, A3) :: (f, a, b, s) :: st', StOk n m E y := fun y hy => by
          rcases List.mem_cons.1 hy with e | hy
          · subst e; exact hnew
          · exact hsub y hy
        have hl' : ∀ y ∈ l, y.2 < m := fun y hy => hl y (List.mem_cons_of_mem _ hy)
        cases hz : (Nat.beq A0 0 && (Nat.beq A1 0 && Nat.beq A3 0)) with
        | true =>
          rw [hz, cond_true, frc_eq] at h
          simp only [Bool.and_eq_true, Nat.beq_eq] at hz
          obtain ⟨z1, z2, z3⟩ := hz
          refine run_ok hM hE hL hm l _ _ _ hl' hst' hS (good_or hD (good_one (PG_of hE hCn' hC' fun R hR => ?_))) h
          have := (hW' R hR).1
          rw [← this, z1, z2, z3]
          simp [at3, pl3, b2i]
        | false =>
          rw [hz, cond_false, frc_eq] at h
          refine run_ok hM hE hL hm l _ _ _ hl' hst' (good_or hS (good_one (PG_of hE hCn' hC' fun R hR => ?_))) hD h
          have := (hW' R hR).2
          omega
end Go.Proofs.YtkoljbncokmeaaaDoor
namespace Go.Proofs.YtkoljbncokmeaaaDoor
open Go Go.RowKit
set_option maxRecDepth 1000000
set_option linter.unusedSimpArgs false
set_option linter.unusedVariables false
set_option maxHeartbeats 1000000
def msB {α : Type} (n : Nat) : Nat → Nat → Nat → (List (Nat × Nat × Nat × Nat) → α) → α
  | 0, _, _, K => K []
  | j + 1, r, g, K => frc (2 ^ r) fun sh => frc (varM n r) fun X => frc (oneM n ^^^ g) fun g1 => frc (g ^^^ X) fun g' => msB n j (r + 1) g' fun l => K ((sh, X, g, g1) :: l)
theorem msB_ok {α : Type} {n : Nat} {Q : α → Prop} : ∀ (j r g : Nat) (K : List (Nat × Nat × Nat × Nat) → α), r + j ≤ n → (∀ R, R < 2 ^ n → g.testBit R = pOdd R r) →
    (∀ l : List (Nat × Nat × Nat × Nat), (∀ i, i < j → (l.getD i (0, 0, 0, 0)).1 = 2 ^ (r + i) ∧ (l.getD i (0, 0, 0, 0)).2.1 = varM n (r + i) ∧ ∀ R, R < 2 ^ n → (l.getD i (0, 0, 0, 0)).2.2.1.testBit R = pOdd R (r + i) ∧ (l.getD i (0, 0, 0, 0)).2.2.2.testBit R = !pOdd R (r + i)) → Q (K l)) → Q (msB n j r g K)
  | 0, r, g, K, _, _, h => h [] fun i hi => by omega
  | j + 1, r, g, K, hr, hg, h => by
    unfold msB
    simp only [frc_eq]
    refine msB_ok (Q := Q) j (r + 1) _ _ (by omega) (fun R hR => ?_) fun l hl => h _ fun i hi => ?_
    · rw [Nat.testBit_xor, hg R hR, varM_bit n r R (by omega) hR]; rfl
    · cases i with
      | zero =>
        refine ⟨rfl, rfl, fun R hR => ⟨hg R hR, ?_⟩⟩
        show (oneM n ^^^ g).testBit R = _
        rw [Nat.testBit_xor, oneM_bit, hg R hR]
        simp [hR]
      | succ i =>
        have := hl i (by omega)
        rw [show r + 1 + i = r + (i + 1) by omega] at this
        simpa using this
theorem msB_all {α : Type} {n : Nat} {Q : α → Prop} (K : List (Nat × Nat × Nat × Nat) → α) (h : ∀ l, MsOk n l → Q (K l)) : Q (msB n n 0 0 K) :=
  msB_ok n 0 0 K (by omega) (fun R _ => by simp [pOdd]) fun l hl => h l
    { sh := fun r hr => by have := (hl r hr).1; rwa [Nat.zero_add] at this
      xx := fun r hr => by have := (hl r hr).2.1; rwa [Nat.zero_add] at this
      g0 := fun r hr R hR => by have := ((hl r hr).2.2 R hR).1; rwa [Nat.zero_add] at this
      g1 := fun r hr R hR => by have := ((hl r hr).2.2 R hR).2; rwa [Nat.zero_add] at this }
/-- Pairs of places are exchanged. -/
def swA : List (Nat × Nat) → Nat → Nat
  | [], j => j
  | x :: l, j => swA l (swI x.1 x.2 j)
def twA : List (Nat × Nat) → Nat → Nat
  | [], f => f
  | x :: l, f => twF x.1 x.2 (twA l f)
theorem twA_bit : ∀ (p : List (Nat × Nat)), (∀ x ∈ p, x.1 < x.2) → ∀ f j, (twA p f).testBit j = f.testBit (swA p j)
  | [], _, _, _ => rfl
  | x :: l, h, f, j => by
    show (twF x.1 x.2 (twA l f)).testBit j = f.testBit (swA l (swI x.1 x.2 j))
    rw [twF_bit (by have := h x List.mem_cons_self; omega), twA_bit l fun y hy => h y (List.mem_cons_of_mem _ hy)]
theorem twA_lt {m : Nat} : ∀ (p : List (Nat × Nat)), (∀ x ∈ p, x.1 < x.2 ∧ x.2 < m) → ∀ f, f < 2 ^ m → twA p f < 2 ^ m
  | [], _, _, h => h
  | x :: l, h, f, hf => by
    have := h x List.mem_cons_self
    exact twF_lt (by omega) this.2 (twA_lt l (fun y hy => h y (List.mem_cons_of_mem _ hy)) f hf)
def swBs (m : Nat) : List (Nat × Nat) → Nat → (Nat → Bool) → Bool
  | [], Z, k => k Z
  | x :: l, Z, k => frc (swb m x.1 x.2 Z) fun Z' => swBs m l Z' k
def clW (m : Nat) : List (List (Nat × Nat)) → Nat → (Nat → Bool) → Bool
  | [], Z, k => k Z
  | p :: w, Z, k => swBs m p Z fun Y => frc (Z ||| Y) fun Z' => clW m w Z' k
def clU (m : Nat) : Nat → Nat → (Nat → Bool) → Bool
  | 0, Z, k => k Z
  | c + 1, Z, k => frc (Z ||| ((Z <<< 2 ^ c) &&& varM m c)) fun Z' => clU m c Z' k
theorem swBs_ok {m : Nat} {Q : Bool → Prop} {k : Nat → Bool} : ∀ (p : List (Nat × Nat)), (∀ x ∈ p, x.1 < x.2 ∧ x.2 < m) → ∀ (P : Nat → Prop) (Z : Nat), GoodM m P Z → (∀ Y, GoodM m (fun f => P (twA p f)) Y → Q (k Y)) → Q (swBs m p Z k)
  | [], _, P, Z, hZ, h => h Z hZ
  | x :: l, hp, P, Z, hZ, h => by
    unfold swBs
    rw [frc_eq]
    have hx := hp x List.mem_cons_self
    refine swBs_ok l (fun y hy => hp y (List.mem_cons_of_mem _ hy)) (fun f => P (twF x.1 x.2 f)) _ (fun f hf hb => ?_) h
    rw [swb_bit hx.1 hx.2 hf] at hb
    exact hZ _ (twF_lt (by omega) hx.2 hf) hb
structure SymOk (n m : Nat) (E : List (List (Nat × Bool))) (p : List (Nat × Nat)) : Prop where
  ok : ∀ x ∈ p, x.1 < x.2 ∧ x.2 < m
  inv : ∀ j, j < m → swA p j < m ∧ swA p (swA p j) = j
  ex : ∃ rho : Nat → Nat, ∃ er ec : Nat → Int, (∀ a, a < n → rho a < n ∧ (er a = 1 ∨ er a = -1)) ∧ (∀ b, b < m → ec b = 1 ∨ ec b = -1) ∧ (∀ a b, a < n → b < n → rho a = rho b → a = b) ∧ ∀ a b, a < n → b < m → eM E (rho a) (swA p b) = er a * ec b * eM E a b
theorem nodup_map {f : Nat → Nat} {l : List Nat} (h : ∀ a ∈ l, ∀ b ∈ l, f a = f b → a = b) (hn : l.Nodup) : (l.map f).Nodup := by
  induction l with
  | nil => exact List.nodup_nil
  | cons x l ih =>
    rw [List.nodup_cons] at hn
    rw [List.map_cons, List.nodup_cons]
    refine ⟨fun hm => ?_, ih (fun a ha b hb => h a (List.mem_cons_of_mem _ ha) b (List.mem_cons_of_mem _ hb)) hn.2⟩
    obtain ⟨y, hy, e⟩ := List.mem_map.1 hm
    have := h y (List.mem_cons_of_mem _ hy) x List.mem_cons_self e
    exact hn.1 (this ▸ hy)
theorem bit_lt {f m j : Nat} (hf : f < 2 ^ m) (h : f.testBit j = true) : j < m := by
  refine Nat.lt_of_not_le fun hj => ?_
  rw [Nat.testBit_lt_two_pow (Nat.lt_of_lt_of_le hf (Nat.pow_le_pow_right (by omega) hj))] at h
  cases h
theorem getD_mapN {f : Nat → Nat} {l : List Nat} {a : Nat} (h : a < l.length) : (l.map f).getD a 0 = f (l.getD a 0) := by
  simp [List.getD_eq_getElem?_getD, List.getElem?_map, h]
theorem getD_memN {l : List Nat} {a : Nat} (h : a < l.length) : l.getD a 0 ∈ l := by
  simp [List.getD_eq_getElem?_getD, h]
theorem sym_PG {n m t f : Nat} {E : List (List (Nat × Bool))} {p : List (Nat × Nat)} (hp : SymOk n m E p) (hf : f < 2 ^ m) (h : PG n E t (twA p f)) : PG n E t f := by
  intro R C hR hC hr hc hl
  obtain ⟨rho, er, ec, h1, h2, h3, h4⟩ := hp.ex
  have hcm : ∀ c ∈ C, c < m := fun c hm => bit_lt hf ((hc c).1 hm)
  have key := h (R.map rho) (C.map (swA p)) (nodup_map (fun a ha b hb => h3 a b (hr a ha) (hr b hb)) hR) (nodup_map (fun a ha b hb e => by rw [← (hp.inv a (hcm a ha)).2, ← (hp.inv b (hcm b hb)).2, e]) hC)
    (fun r hm => by obtain ⟨a, ha, e⟩ := List.mem_map.1 hm; exact e ▸ (h1 a (hr a ha)).1)
    (fun c => by
      rw [twA_bit p fun x hx => (hp.ok x hx).1]
      constructor
      · intro hm
        obtain ⟨b, hb, e⟩ := List.mem_map.1 hm
        rw [← e, (hp.inv b (hcm b hb)).2]
        exact (hc b).1 hb
      · intro hb
        have hcm2 : c < m := by
          have : (twA p f).testBit c = true := by rw [twA_bit p fun x hx => (hp.ok x hx).1]; exact hb
          exact bit_lt (twA_lt p hp.ok f hf) this
        exact List.mem_map.2 ⟨swA p c, (hc _).2 hb, (hp.inv c hcm2).2⟩)
    (by simpa using hl)
  have e : (dtL (eM E) (R.map rho) (C.map (swA p))).natAbs = (dtL (eM E) R C).natAbs := by
    unfold dtL
    rw [List.length_map]
    refine dt_signs (f := fun a => er (R.getD a 0)) (g := fun b => ec (C.getD b 0)) (fun i hi => (h1 _ (hr _ (getD_memN hi))).2) (fun i hi => h2 _ (hcm _ (getD_memN (by omega)))) fun a b ha hb => ?_
    rw [getD_mapN ha, getD_mapN (by omega)]
    exact h4 _ _ (hr _ (getD_memN ha)) (hcm _ (getD_memN (by omega)))
  rw [← e]; exact key
theorem clW_ok {n m t : Nat} {E : List (List (Nat × Bool))} {Q : Bool → Prop} {k : Nat → Bool} : ∀ (w : List (List (Nat × Nat))), (∀ p ∈ w, SymOk n m E p) → ∀ Z, GoodM m (PG n E t) Z → (∀ Y, GoodM m (PG n E t) Y → Q (k Y)) → Q (clW m w Z k)
  | [], _, Z, hZ, h => h Z hZ
  | p :: w, hw, Z, hZ, h => by
    unfold clW
    have hp := hw p List.mem_cons_self
    refine swBs_ok p hp.ok _ Z hZ fun Y hY => ?_
    rw [frc_eq]
    exact clW_ok w (fun q hq => hw q (List.mem_cons_of_mem _ hq)) _ (good_or hZ fun f hf hb => sym_PG hp hf (hY f hf hb)) h
theorem up_PG {n f c : Nat} {E : List (List (Nat × Bool))} (hb : f.testBit c = true) (h : PG n E 0 (f ^^^ 2 ^ c)) : PG n E 0 f := by
  intro R C hR hC hr hc hl
  have hm : c ∈ C := (hc c).2 hb
  have p : C.Perm (c :: C.erase c) := List.perm_cons_erase hm
  have e := dtL_cperm (M := eM E) (R := R) p [] (by simpa using hl.symm)
  simp only [List.nil_append] at e
  have hne : R ≠ [] := fun h0 => by
    rw [h0] at hl
    have := List.length_eq_zero_iff.1 hl.symm
    rw [this] at hm; simp at hm
  rw [e, dtL_cons _ _ _ _ hne, smS_z fun i hi => ?_]
  · simp
  · have h2 := h (R.eraseIdx i) (C.erase c) (hR.sublist (List.eraseIdx_sublist _ _)) (hC.erase _) (fun r hm => hr r (List.mem_of_mem_eraseIdx hm))
      (fun d => by
        rw [hC.mem_erase_iff, flp_bit, hc]
        by_cases e : d = c
        · subst e; simp [hb]
        · simp [e])
      (by have h3 := len_erase hi; have h4 := List.length_erase_of_mem hm; omega)
    have h3 : dtL (eM E) (R.eraseIdx i) (C.erase c) = 0 := Int.natAbs_eq_zero.1 (by omega)
    rw [h3, Int.mul_zero, Int.mul_zero]
theorem clU_ok {n m : Nat} {E : List (List (Nat × Bool))} {Q : Bool → Prop} {k : Nat → Bool} : ∀ (c : Nat), c ≤ m → ∀ Z, GoodM m (PG n E 0) Z → (∀ Y, GoodM m (PG n E 0) Y → Q (k Y)) → Q (clU m c Z k)
  | 0, _, Z, hZ, h => h Z hZ
  | c + 1, hc, Z, hZ, h => by
    unfold clU
    rw [frc_eq]
    refine clU_ok c (by omega) _ (good_or hZ fun f hf hb => ?_) h
    rw [shl_bit (by omega) hf, Bool.and_eq_true] at hb
    exact up_PG hb.1 (hZ _ (flp_lt hf (by omega)) hb.2)
/-- The whole count. -/
def cntD (n m : Nat) (E : List (List (Nat × Bool))) (ops : List (Nat × Nat)) (w : List (List (Nat × Nat))) : Bool :=
  msB n n 0 0 fun Ms => run Ms E ops [(0, 1, 0, 0)] 1 0 fun S D => clW m w S fun S' => clW m w D fun D' => clU m m D' fun D'' => Nat.beq (S' ||| D'') (oneM m)
theorem cntD_ok {n m : Nat} {E : List (List (Nat × Bool))} {ops : List (Nat × Nat)} {w : List (List (Nat × Nat))} (hE : ∀ c, ∀ x ∈ E.getD c [], x.1 < n) (hL : ∀ c, (E.getD c []).length ≤ 6) (hm : E.length = m) (ho : ∀ x ∈ ops, x.2 < m) (hw : ∀ p ∈ w, SymOk n m E p) (h : cntD n m E ops w = true) :
    ∀ R C : List Nat, R.Nodup → C.Nodup → (∀ r ∈ R, r < n) → (∀ c ∈ C, c < m) → R.length = C.length → (dtL (eM E) R C).natAbs ≤ 2 := by
  have h0 : ∀ R, R < 2 ^ n → at3 1 0 0 R = wd E [] R ∧ -2 ≤ wd E [] R ∧ wd E [] R ≤ 2 := fun R _ => by
    have e : wd E [] R = if R = 0 then 1 else 0 := rfl
    have e2 : (1 : Nat).testBit R = decide (R = 0) := by
      have := Nat.testBit_two_pow (n := 0) (m := R)
      rw [Nat.pow_zero] at this
      rw [this]
      exact decide_eq_decide.2 ⟨fun h => h.symm, fun h => h.symm⟩
    unfold at3
    rw [e, e2]
    by_cases hz : R = 0 <;> simp [hz, pl3, b2i]
  have hg0 : GoodM m (PG n E 2) 1 := by
    have := good_one (m := m) (P := PG n E 2) (g := 0) (PG_of hE (C := []) List.nodup_nil (by simp) fun R hR => by have := (h0 R hR).2; omega)
    simpa using this
  revert h
  unfold cntD
  refine msB_all (Q := fun v : Bool => v = true → _) _ fun Ms hM h => ?_
  obtain ⟨S, D, hS, hD, hK⟩ := run_ok hM hE hL hm ops [(0, 1, 0, 0)] 1 0 ho (fun x hx => by
    rw [List.mem_singleton] at hx
    subst hx
    exact ⟨Nat.two_pow_pos _, [], List.nodup_nil, by simp, h0⟩) hg0 (fun f _ hb => by simp at hb) h
  revert hK
  refine clW_ok (Q := fun v : Bool => v = true → _) w hw S hS fun S' hS' => ?_
  refine clW_ok (Q := fun v : Bool => v = true → _) w hw D hD fun D' hD' => ?_
  refine clU_ok (Q := fun v : Bool => v = true → _) m (Nat.le_refl _) D' hD' fun D2 hD2 hK => ?_
  rw [Nat.beq_eq] at hK
  intro R C hR hC hr hc hl
  have hlt := mkS_lt C hc
  have hb : (S' ||| D2).testBit (mkS C) = true := by rw [hK, oneM_bit]; simpa using hlt
  rw [Nat.testBit_or, Bool.or_eq_true] at hb
  rcases hb with hb | hb
  · exact hS' _ hlt hb R C hR hC hr (fun c => (mkS_bit c C).symm) hl
  · have := hD2 _ hlt hb R C hR hC hr (fun c => (mkS_bit c C).symm) hl
    omega
end Go.Proofs.YtkoljbncokmeaaaDoor
namespace Go.Proofs.YtkoljbncokmeaaaDoor
open Go Go.RowKit
set_option maxRecDepth 1000000
set_option linter.unusedSimpArgs false
set_option linter.unusedVariables false
set_option maxHeartbeats 1000000
def symC (n m : Nat) (E : List (List (Nat × Bool))) (p q : List (Nat × Nat)) (er ec : Nat) : Bool :=
  (p.all fun x => decide (x.1 < x.2) && decide (x.2 < m)) && (((List.range m).all fun j => decide (swA p j < m) && Nat.beq (swA p (swA p j)) j) && (((List.range n).all fun j => decide (swA q j < n) && Nat.beq (swA q (swA q j)) j) &&
  ((List.range n).all fun a => (List.range m).all fun b => eM E (swA q a) (swA p b) == eS (er.testBit a) * eS (ec.testBit b) * eM E a b)))
theorem eS_pm (b : Bool) : eS b = 1 ∨ eS b = -1 := by cases b <;> simp [eS]
theorem symC_ok {n m : Nat} {E : List (List (Nat × Bool))} {p q : List (Nat × Nat)} {er ec : Nat} (h : symC n m E p q er ec = true) : SymOk n m E p := by
  unfold symC at h
  simp only [Bool.and_eq_true, List.all_eq_true, decide_eq_true_eq, List.mem_range, Nat.beq_eq, beq_iff_eq] at h
  obtain ⟨h1, h2, h3, h4⟩ := h
  exact ⟨h1, h2, swA q, fun a => eS (er.testBit a), fun b => eS (ec.testBit b), fun a ha => ⟨(h3 a ha).1, eS_pm _⟩, fun b _ => eS_pm _, fun a b ha hb e => by rw [← (h3 a ha).2, ← (h3 b hb).2, e], fun a b ha hb => h4 a ha b hb⟩
def okE (n m : Nat) (E : List (List (Nat × Bool))) (ops : List (Nat × Nat)) : Bool :=
  (E.all fun l => Nat.ble l.length 6 && l.all fun x => decide (x.1 < n)) && (Nat.beq E.length m && ops.all fun x => decide (x.2 < m))
theorem cnt_all {n m : Nat} {E : List (List (Nat × Bool))} {ops : List (Nat × Nat)} {w : List (List (Nat × Nat))} (h1 : okE n m E ops = true) (hw : ∀ p ∈ w, SymOk n m E p) (h : cntD n m E ops w = true) :
    ∀ R C : List Nat, R.Nodup → C.Nodup → (∀ r ∈ R, r < n) → (∀ c ∈ C, c < m) → R.length = C.length → (dtL (eM E) R C).natAbs ≤ 2 := by
  unfold okE at h1
  simp only [Bool.and_eq_true, List.all_eq_true, decide_eq_true_eq, Nat.beq_eq, Nat.ble_eq] at h1
  obtain ⟨a1, a2, a3⟩ := h1
  have hmem : ∀ c, E.getD c [] ∈ E ∨ E.getD c [] = [] := fun c => by
    by_cases hc : c < E.length
    · left; simp [List.getD_eq_getElem?_getD, hc]
    · right; simp [List.getD_eq_getElem?_getD, List.getElem?_eq_none (Nat.le_of_not_lt hc)]
  refine cntD_ok (fun c x hx => ?_) (fun c => ?_) a2 a3 hw h
  · rcases hmem c with h2 | h2
    · exact (a1 _ h2).2 x hx
    · rw [h2] at hx; simp at hx
  · rcases hmem c with h2 | h2
    · exact (a1 _ h2).1
    · rw [h2]; simp
end Go.Proofs.YtkoljbncokmeaaaDoor
namespace Go.Proofs.YtkoljbncokmeaaaDoor
open Go Go.RowKit
set_option maxRecDepth 1000000
set_option linter.unusedSimpArgs false
set_option linter.unusedVariables false
set_option maxHeartbeats 1000000
def ent1 : List (List (Nat × Bool)) := [[(0, false)], [(0, false)], [(0, false)], [(0, false)], [(0, false)], [(0, false)]]
def ops1 : List (Nat × Nat) := [
  (0, 0), (0, 1)]
def sy10 : List (Nat × Nat) := [(0, 1)]
theorem sy10_ok : SymOk 1 6 ent1 sy10 := symC_ok (q := []) (er := 0) (ec := 0) (by decide +kernel)
def sy11 : List (Nat × Nat) := [(1, 2)]
theorem sy11_ok : SymOk 1 6 ent1 sy11 := symC_ok (q := []) (er := 0) (ec := 0) (by decide +kernel)
def sy12 : List (Nat × Nat) := [(2, 3)]
theorem sy12_ok : SymOk 1 6 ent1 sy12 := symC_ok (q := []) (er := 0) (ec := 0) (by decide +kernel)
def sy13 : List (Nat × Nat) := [(3, 4)]
theorem sy13_ok : SymOk 1 6 ent1 sy13 := symC_ok (q := []) (er := 0) (ec := 0) (by decide +kernel)
def sy14 : List (Nat × Nat) := [(4, 5)]
theorem sy14_ok : SymOk 1 6 ent1 sy14 := symC_ok (q := []) (er := 0) (ec := 0) (by decide +kernel)
def wrd1 : List (List (Nat × Nat)) := [sy10, sy11, sy10, sy12, sy11, sy10, sy13, sy12, sy11, sy10, sy14, sy13, sy12, sy11, sy10]
theorem wrd1_ok : ∀ p ∈ wrd1, SymOk 1 6 ent1 p := by
  intro p hp
  simp only [wrd1, List.mem_cons, List.not_mem_nil, or_false] at hp
  rcases hp with rfl | rfl | rfl | rfl | rfl | rfl | rfl | rfl | rfl | rfl | rfl | rfl | rfl | rfl | rfl
  · exact sy10_ok
  · exact sy11_ok
  · exact sy10_ok
  · exact sy12_ok
  · exact sy11_ok
  · exact sy10_ok
  · exact sy13_ok
  · exact sy12_ok
  · exact sy11_ok
  · exact sy10_ok
  · exact sy14_ok
  · exact sy13_ok
  · exact sy12_ok
  · exact sy11_ok
  · exact sy10_ok
theorem cnt1 : cntD 1 6 ent1 ops1 wrd1 = true := by decide +kernel
theorem det1 : ∀ R C : List Nat, R.Nodup → C.Nodup → (∀ r ∈ R, r < 1) → (∀ c ∈ C, c < 6) → R.length = C.length → (dtL (eM ent1) R C).natAbs ≤ 2 := cnt_all (by decide +kernel) wrd1_ok cnt1
def ent2 : List (List (Nat × Bool)) := [[(0, true), (1, false)], [(0, true), (2, false)], [(1, true), (2, false)], [(0, true), (3, false)], [(1, true), (3, false)], [(2, true), (3, false)], [(0, true), (4, false)], [(1, true), (4, false)], [(2, true), (4, false)], [(3, true), (4, false)], [(0, true), (5, false)], [(1, true), (5, false)], [(2, true), (5, false)], [(3, true), (5, false)], [(4, true), (5, false)]]
def ops2 : List (Nat × Nat) := [
  (0, 0), (0, 1), (0, 3), (0, 6), (0, 10), (1, 11), (2, 7), (0, 11), (1, 12), (1, 14), (2, 14), (2, 4), (0, 8), (0, 13), (0, 14), (2, 9), (2, 14), (1, 5), (2, 9), (0, 13), (2, 2), (2, 5), (0, 14)]
def sy20 : List (Nat × Nat) := [(1, 2), (3, 4), (6, 7), (10, 11)]
theorem sy20_ok : SymOk 6 15 ent2 sy20 := symC_ok (q := [(0, 1)]) (er := 0) (ec := 1) (by decide +kernel)
def sy21 : List (Nat × Nat) := [(0, 1), (4, 5), (7, 8), (11, 12)]
theorem sy21_ok : SymOk 6 15 ent2 sy21 := symC_ok (q := [(1, 2)]) (er := 0) (ec := 4) (by decide +kernel)
def sy22 : List (Nat × Nat) := [(1, 3), (2, 4), (8, 9), (12, 13)]
theorem sy22_ok : SymOk 6 15 ent2 sy22 := symC_ok (q := [(2, 3)]) (er := 0) (ec := 32) (by decide +kernel)
def sy23 : List (Nat × Nat) := [(3, 6), (4, 7), (5, 8), (13, 14)]
theorem sy23_ok : SymOk 6 15 ent2 sy23 := symC_ok (q := [(3, 4)]) (er := 0) (ec := 512) (by decide +kernel)
def sy24 : List (Nat × Nat) := [(6, 10), (7, 11), (8, 12), (9, 13)]
theorem sy24_ok : SymOk 6 15 ent2 sy24 := symC_ok (q := [(4, 5)]) (er := 0) (ec := 16384) (by decide +kernel)
def wrd2 : List (List (Nat × Nat)) := [sy20, sy21, sy20, sy22, sy21, sy20, sy23, sy22, sy21, sy20, sy24, sy23, sy22, sy21, sy20]
theorem wrd2_ok : ∀ p ∈ wrd2, SymOk 6 15 ent2 p := by
  intro p hp
  simp only [wrd2, List.mem_cons, List.not_mem_nil, or_false] at hp
  rcases hp with rfl | rfl | rfl | rfl | rfl | rfl | rfl | rfl | rfl | rfl | rfl | rfl | rfl | rfl | rfl
  · exact sy20_ok
  · exact sy21_ok
  · exact sy20_ok
  · exact sy22_ok
  · exact sy21_ok
  · exact sy20_ok
  · exact sy23_ok
  · exact sy22_ok
  · exact sy21_ok
  · exact sy20_ok
  · exact sy24_ok
  · exact sy23_ok
  · exact sy22_ok
  · exact sy21_ok
  · exact sy20_ok
theorem cnt2 : cntD 6 15 ent2 ops2 wrd2 = true := by decide +kernel
theorem det2 : ∀ R C : List Nat, R.Nodup → C.Nodup → (∀ r ∈ R, r < 6) → (∀ c ∈ C, c < 15) → R.length = C.length → (dtL (eM ent2) R C).natAbs ≤ 2 := cnt_all (by decide +kernel) wrd2_ok cnt2
def ent3 : List (List (Nat × Bool)) := [[(0, false), (1, true), (2, false)], [(0, false), (3, true), (4, false)], [(1, false), (3, true), (5, false)], [(2, false), (4, true), (5, false)], [(0, false), (6, true), (7, false)], [(1, false), (6, true), (8, false)], [(2, false), (7, true), (8, false)], [(3, false), (6, true), (9, false)], [(4, false), (7, true), (9, false)], [(5, false), (8, true), (9, false)], [(0, false), (10, true), (11, false)], [(1, false), (10, true), (12, false)], [(2, false), (11, true), (12, false)], [(3, false), (10, true), (13, false)], [(4, false), (11, true), (13, false)], [(5, false), (12, true), (13, false)], [(6, false), (10, true), (14, false)], [(7, false), (11, true), (14, false)], [(8, false), (12, true), (14, false)], [(9, false), (13, true), (14, false)]]
def ops3 : List (Nat × Nat) := [
  (0, 0), (0, 1), (0, 2), (0, 4), (0, 5), (0, 7), (0, 10), (0, 11), (0, 13), (0, 16), (1, 17), (2, 14), (0, 17), (1, 18), (1, 19), (2, 19), (2, 12), (0, 14), (0, 17), (1, 18), (2, 15), (0, 18), 
  (1, 19), (2, 19), (2, 15), (0, 18), (3, 12), (0, 14), (0, 17), (1, 18), (2, 19), (3, 8), (0, 10), (0, 11), (0, 14), (0, 18), (1, 19), (2, 15), (0, 19), (2, 19), (2, 12), (0, 13), (0, 16), (1, 17), 
  (1, 18), (2, 14), (0, 18), (1, 19), (2, 15), (0, 18), (1, 19), (2, 19), (2, 13), (0, 15), (0, 16), (1, 18), (1, 19), (2, 16), (1, 18), (0, 19), (2, 19), (2, 14), (0, 15), (0, 18), (1, 19), (2, 18), 
  (0, 19), (2, 19), (2, 15), (0, 18), (1, 19), (2, 19), (2, 11), (0, 12), (0, 14), (0, 17), (1, 19), (2, 19), (2, 13), (0, 14), (0, 16), (1, 17), (1, 18), (2, 16), (1, 17), (0, 18), (1, 19), (2, 18), 
  (1, 19), (2, 14), (0, 15), (0, 17), (1, 18), (1, 19), (2, 17), (1, 18), (0, 19), (2, 19), (2, 15), (0, 18), (1, 19), (2, 19), (2, 12), (0, 13), (0, 14), (0, 16), (1, 17), (1, 18), (1, 19), (2, 15), 
  (0, 16), (1, 17), (1, 18), (1, 19), (2, 16), (1, 17), (0, 19), (2, 18), (0, 19), (2, 19), (2, 14), (0, 17), (1, 18), (1, 19), (2, 15), (0, 18), (1, 19), (2, 19), (2, 13), (0, 14), (0, 15), (0, 17), 
  (1, 18), (2, 16), (0, 18), (2, 18), (0, 19), (2, 19), (2, 15), (0, 16), (1, 17), (0, 18), (1, 19), (2, 18), (1, 19), (2, 16), (1, 17), (0, 18), (0, 19), (2, 19), (2, 18), (0, 19), (2, 19), (2, 14), 
  (0, 15), (0, 17), (1, 18), (1, 19), (2, 17), (1, 18), (0, 19), (2, 19), (2, 15), (0, 18), (1, 19), (2, 19), (2, 10), (0, 11), (0, 19), (2, 12), (0, 15), (0, 18), (0, 19), (2, 19), (2, 19), (2, 13), 
  (0, 16), (1, 17), (0, 18), (0, 19), (3, 18), (0, 19), (3, 14), (0, 15), (0, 17), (1, 18), (0, 19), (2, 19), (2, 17), (1, 18), (0, 19), (2, 19), (2, 15), (0, 18), (0, 19), (2, 19), (2, 19), (2, 12), 
  (0, 13), (0, 14), (0, 16), (0, 19), (2, 17), (0, 19), (2, 18), (0, 19), (2, 19), (2, 16), (0, 19), (2, 17), (0, 19), (2, 19), (2, 14), (0, 17), (0, 19), (2, 18), (0, 19), (2, 19), (2, 19), (2, 13), 
  (0, 14), (0, 16), (0, 18), (0, 19), (2, 19), (2, 17), (0, 18), (0, 19), (2, 19), (2, 18), (0, 19), (2, 19), (2, 16), (0, 19), (2, 17), (0, 18), (0, 19), (2, 19), (2, 19), (2, 14), (0, 15), (0, 17), 
  (0, 19), (2, 19), (2, 17), (0, 19), (2, 18), (0, 19), (2, 19), (2, 19), (2, 6), (0, 9), (0, 10), (0, 14), (0, 15), (0, 16), (1, 18), (2, 16), (0, 19), (2, 18), (0, 19), (2, 19), (2, 15), (0, 18), 
  (1, 19), (2, 19), (2, 11), (0, 12), (0, 14), (0, 16), (0, 19), (2, 19), (2, 19), (2, 14), (0, 15), (0, 16), (1, 17), (1, 19), (2, 16), (0, 19), (2, 17), (0, 18), (2, 18), (0, 19), (2, 19), (2, 15), 
  (0, 16), (1, 17), (0, 19), (2, 19), (2, 16), (0, 19), (2, 17), (0, 18), (1, 19), (2, 18), (0, 19), (2, 19), (2, 13), (0, 14), (0, 16), (0, 18), (2, 17), (0, 18), (2, 18), (0, 19), (2, 19), (2, 15), 
  (0, 16), (1, 17), (0, 18), (2, 18), (2, 16), (0, 18), (2, 17), (0, 19), (2, 18), (0, 19), (2, 19), (2, 14), (0, 15), (0, 16), (0, 18), (1, 19), (2, 18), (1, 19), (2, 16), (0, 19), (2, 18), (0, 19), 
  (2, 19), (2, 15), (0, 18), (1, 19), (2, 19), (2, 10), (0, 14), (0, 16), (1, 18), (0, 19), (3, 15), (0, 18), (0, 19), (2, 19), (2, 19), (2, 11), (0, 12), (0, 19), (2, 14), (0, 16), (0, 19), (2, 17), 
  (0, 19), (2, 18), (0, 19), (2, 19), (2, 15), (0, 16), (0, 19), (2, 17), (0, 19), (2, 18), (0, 19), (2, 19), (2, 16), (0, 19), (2, 17), (0, 19), (2, 18), (0, 19), (2, 19), (2, 13), (0, 15), (0, 16), 
  (1, 17), (0, 18), (0, 19), (2, 19), (2, 18), (2, 16), (0, 18), (0, 19), (2, 19), (2, 17), (0, 19), (2, 18), (0, 19), (2, 19), (2, 14), (0, 15), (0, 16), (0, 18), (0, 19), (2, 19), (2, 18), (0, 19), 
  (2, 19), (2, 16), (0, 19), (2, 18), (0, 19), (2, 19), (2, 15), (0, 18), (0, 19), (2, 19), (2, 19), (2, 9), (0, 10), (0, 15), (0, 16), (0, 18), (2, 17), (0, 18), (2, 18), (2, 16), (0, 18), (2, 17), 
  (0, 18), (2, 18), (0, 19), (3, 11), (0, 14), (0, 16), (0, 17), (1, 19), (2, 17), (0, 18), (1, 19), (2, 19), (2, 16), (0, 17), (0, 19), (2, 18), (1, 19), (2, 17), (0, 18), (0, 19), (2, 19), (2, 18), 
  (0, 19), (2, 19), (2, 12), (0, 14), (0, 16), (0, 17), (1, 18), (2, 17), (0, 18), (2, 18), (2, 15), (0, 16), (0, 17), (0, 19), (2, 19), (2, 17), (0, 19), (2, 18), (1, 19), (2, 16), (0, 17), (1, 18), 
  (0, 19), (2, 19), (2, 17), (0, 18), (1, 19), (2, 18), (0, 19), (2, 19), (2, 15), (0, 16), (0, 17), (0, 18), (2, 18), (2, 17), (0, 18), (2, 18), (2, 16), (0, 17), (1, 18), (0, 19), (3, 17), (0, 18), 
  (0, 19), (3, 18), (0, 19), (3, 10), (0, 16), (1, 17), (1, 18), (0, 19), (3, 11), (0, 16), (0, 17), (1, 19), (2, 17), (0, 18), (0, 19), (2, 19), (2, 19), (2, 12), (0, 14), (0, 16), (0, 17), (1, 18), 
  (0, 19), (3, 17), (0, 18), (2, 18), (0, 19), (3, 15), (0, 16), (0, 17), (1, 18), (1, 19), (2, 17), (0, 18), (1, 19), (2, 18), (0, 19), (2, 19), (2, 16), (0, 17), (1, 18), (0, 19), (2, 19), (2, 17), 
  (0, 18), (1, 19), (2, 18), (0, 19), (2, 19), (2, 15), (0, 16), (0, 17), (1, 18), (2, 17), (0, 18), (0, 19), (3, 18), (0, 19), (3, 16), (0, 17), (1, 18), (0, 19), (3, 17), (0, 18), (0, 19), (3, 18), 
  (0, 19), (3, 6), (0, 8), (0, 12), (0, 14), (0, 16), (2, 15), (0, 16), (0, 19), (2, 19), (2, 16), (0, 19), (2, 19), (2, 15), (0, 16), (0, 17), (1, 18), (2, 17), (1, 18), (0, 19), (3, 16), (0, 17), 
  (1, 18), (0, 19), (3, 17), (1, 18), (0, 19), (2, 9), (2, 12), (0, 16), (0, 19), (2, 19), (2, 14), (0, 16), (0, 17), (1, 18), (0, 19), (3, 17), (0, 18), (2, 18), (0, 19), (3, 16), (0, 17), (0, 19), 
  (2, 19), (2, 17), (0, 18), (1, 19), (2, 19), (2, 16), (0, 17), (0, 18), (0, 19), (4, 17), (0, 18), (0, 19), (3, 3), (2, 4), (0, 9), (0, 10), (0, 15), (2, 11), (0, 13), (0, 16), (1, 17), (0, 18), 
  (2, 18), (2, 14), (0, 15), (1, 18), (2, 15), (1, 19), (2, 15), (2, 10), (1, 11), (0, 13), (0, 16), (1, 17), (0, 18), (0, 19), (3, 18), (0, 19), (3, 14), (0, 15), (0, 18), (2, 18), (0, 19), (3, 15), 
  (0, 18), (1, 19), (2, 19), (2, 15), (0, 18), (3, 5), (0, 7), (0, 12), (0, 14), (0, 18), (0, 19), (3, 15), (0, 17), (0, 19), (2, 19), (2, 19), (2, 15), (0, 17), (3, 8), (0, 9), (0, 12), (0, 13), 
  (0, 15), (0, 16), (0, 17), (3, 16), (2, 15), (3, 12), (0, 13), (0, 16), (2, 15), (0, 16), (0, 19), (2, 19), (2, 17), (1, 19), (2, 15), (0, 16), (0, 17), (2, 18), (2, 16), (0, 17), (1, 19), (2, 18), 
  (0, 19), (3, 12), (0, 19), (2, 13), (0, 16), (1, 17), (1, 18), (2, 14), (0, 18), (0, 19), (3, 15), (0, 17), (0, 19), (2, 19), (2, 19), (2, 9), (0, 15), (0, 16), (0, 17), (3, 16), (1, 18), (2, 16), 
  (1, 18), (0, 19), (3, 7), (0, 14), (0, 18), (3, 19)]
def sy30 : List (Nat × Nat) := [(2, 3), (5, 6), (7, 8), (11, 12), (13, 14), (16, 17)]
theorem sy30_ok : SymOk 15 20 ent3 sy30 := symC_ok (q := [(1, 2), (3, 4), (6, 7), (10, 11)]) (er := 1) (ec := 1043) (by decide +kernel)
def sy31 : List (Nat × Nat) := [(1, 2), (4, 5), (8, 9), (10, 11), (14, 15), (17, 18)]
theorem sy31_ok : SymOk 15 20 ent3 sy31 := symC_ok (q := [(0, 1), (4, 5), (7, 8), (11, 12)]) (er := 4) (ec := 4169) (by decide +kernel)
def sy32 : List (Nat × Nat) := [(0, 1), (5, 7), (6, 8), (11, 13), (12, 14), (18, 19)]
theorem sy32_ok : SymOk 15 20 ent3 sy32 := symC_ok (q := [(1, 3), (2, 4), (8, 9), (12, 13)]) (er := 32) (ec := 33292) (by decide +kernel)
def sy33 : List (Nat × Nat) := [(1, 4), (2, 5), (3, 6), (13, 16), (14, 17), (15, 18)]
theorem sy33_ok : SymOk 15 20 ent3 sy33 := symC_ok (q := [(3, 6), (4, 7), (5, 8), (13, 14)]) (er := 512) (ec := 525184) (by decide +kernel)
def sy34 : List (Nat × Nat) := [(4, 10), (5, 11), (6, 12), (7, 13), (8, 14), (9, 15)]
theorem sy34_ok : SymOk 15 20 ent3 sy34 := symC_ok (q := [(6, 10), (7, 11), (8, 12), (9, 13)]) (er := 16384) (ec := 983040) (by decide +kernel)
def wrd3 : List (List (Nat × Nat)) := [sy30, sy31, sy30, sy32, sy31, sy30, sy33, sy32, sy31, sy30, sy34, sy33, sy32, sy31, sy30]
theorem wrd3_ok : ∀ p ∈ wrd3, SymOk 15 20 ent3 p := by
  intro p hp
  simp only [wrd3, List.mem_cons, List.not_mem_nil, or_false] at hp
  rcases hp with rfl | rfl | rfl | rfl | rfl | rfl | rfl | rfl | rfl | rfl | rfl | rfl | rfl | rfl | rfl
  · exact sy30_ok
  · exact sy31_ok
  · exact sy30_ok
  · exact sy32_ok
  · exact sy31_ok
  · exact sy30_ok
  · exact sy33_ok
  · exact sy32_ok
  · exact sy31_ok
  · exact sy30_ok
  · exact sy34_ok
  · exact sy33_ok
  · exact sy32_ok
  · exact sy31_ok
  · exact sy30_ok
theorem cnt3 : cntD 15 20 ent3 ops3 wrd3 = true := by decide +kernel
theorem det3 : ∀ R C : List Nat, R.Nodup → C.Nodup → (∀ r ∈ R, r < 15) → (∀ c ∈ C, c < 20) → R.length = C.length → (dtL (eM ent3) R C).natAbs ≤ 2 := cnt_all (by decide +kernel) wrd3_ok cnt3
def ent4 : List (List (Nat × Bool)) := [[(0, true), (1, false), (2, true), (3, false)], [(0, true), (4, false), (5, true), (6, false)], [(1, true), (4, false), (7, true), (8, false)], [(2, true), (5, false), (7, true), (9, false)], [(3, true), (6, false), (8, true), (9, false)], [(0, true), (10, false), (11, true), (12, false)], [(1, true), (10, false), (13, true), (14, false)], [(2, true), (11, false), (13, true), (15, false)], [(3, true), (12, false), (14, true), (15, false)], [(4, true), (10, false), (16, true), (17, false)], [(5, true), (11, false), (16, true), (18, false)], [(6, true), (12, false), (17, true), (18, false)], [(7, true), (13, false), (16, true), (19, false)], [(8, true), (14, false), (17, true), (19, false)], [(9, true), (15, false), (18, true), (19, false)]]
def ops4 : List (Nat × Nat) := [
  (0, 0), (0, 1), (0, 2), (0, 3), (0, 5), (0, 6), (0, 7), (0, 9), (0, 10), (0, 12), (1, 13), (2, 11), (0, 13), (1, 14), (2, 14), (2, 11), (0, 13), (3, 8), (0, 9), (0, 14), (2, 10), (0, 11), (0, 12), 
  (2, 12), (1, 13), (0, 14), (2, 14), (2, 14), (2, 9), (0, 14), (2, 10), (0, 12), (1, 13), (0, 14), (3, 11), (0, 13), (0, 14), (2, 14), (2, 14), (2, 8), (0, 11), (0, 12), (0, 13), (2, 13), (2, 12), 
  (0, 13), (2, 13), (0, 14), (3, 12), (1, 13), (0, 14), (3, 8), (0, 11), (0, 13), (0, 14), (4, 4), (2, 5), (0, 6), (0, 9), (0, 14), (2, 10), (0, 12), (0, 14), (2, 13), (0, 14), (2, 14), (2, 14), 
  (2, 7), (0, 11), (0, 12), (0, 13), (0, 14), (4, 12), (0, 13), (0, 14), (3, 13), (0, 14), (3, 12), (0, 13), (0, 14), (2, 14), (2, 14), (2, 7), (0, 8), (0, 10), (0, 11), (0, 12), (0, 13), (3, 13), 
  (3, 10), (0, 12), (1, 13), (0, 14), (2, 14), (2, 11), (0, 14), (2, 14), (2, 14), (2, 5), (0, 12), (0, 13), (0, 14), (4, 6), (0, 9), (0, 14), (2, 10), (0, 12), (1, 13), (0, 14), (3, 14), (2, 12), 
  (0, 13), (3, 9), (0, 14)]
def sy40 : List (Nat × Nat) := [(3, 4), (7, 8), (10, 11), (12, 13)]
theorem sy40_ok : SymOk 20 15 ent4 sy40 := symC_ok (q := [(2, 3), (5, 6), (7, 8), (11, 12), (13, 14), (16, 17)]) (er := 1043) (ec := 615) (by decide +kernel)
def sy41 : List (Nat × Nat) := [(2, 3), (6, 7), (9, 10), (13, 14)]
theorem sy41_ok : SymOk 20 15 ent4 sy41 := symC_ok (q := [(1, 2), (4, 5), (8, 9), (10, 11), (14, 15), (17, 18)]) (er := 4169) (ec := 2355) (by decide +kernel)
def sy42 : List (Nat × Nat) := [(1, 2), (5, 6), (10, 12), (11, 13)]
theorem sy42_ok : SymOk 20 15 ent4 sy42 := symC_ok (q := [(0, 1), (5, 7), (6, 8), (11, 13), (12, 14), (18, 19)]) (er := 33292) (ec := 16793) (by decide +kernel)
def sy43 : List (Nat × Nat) := [(0, 1), (6, 9), (7, 10), (8, 11)]
theorem sy43_ok : SymOk 20 15 ent4 sy43 := symC_ok (q := [(1, 4), (2, 5), (3, 6), (13, 16), (14, 17), (15, 18)]) (er := 525184) (ec := 28700) (by decide +kernel)
def sy44 : List (Nat × Nat) := [(1, 5), (2, 6), (3, 7), (4, 8)]
theorem sy44_ok : SymOk 20 15 ent4 sy44 := symC_ok (q := [(4, 10), (5, 11), (6, 12), (7, 13), (8, 14), (9, 15)]) (er := 983040) (ec := 32256) (by decide +kernel)
def wrd4 : List (List (Nat × Nat)) := [sy40, sy41, sy40, sy42, sy41, sy40, sy43, sy42, sy41, sy40, sy44, sy43, sy42, sy41, sy40]
theorem wrd4_ok : ∀ p ∈ wrd4, SymOk 20 15 ent4 p := by
  intro p hp
  simp only [wrd4, List.mem_cons, List.not_mem_nil, or_false] at hp
  rcases hp with rfl | rfl | rfl | rfl | rfl | rfl | rfl | rfl | rfl | rfl | rfl | rfl | rfl | rfl | rfl
  · exact sy40_ok
  · exact sy41_ok
  · exact sy40_ok
  · exact sy42_ok
  · exact sy41_ok
  · exact sy40_ok
  · exact sy43_ok
  · exact sy42_ok
  · exact sy41_ok
  · exact sy40_ok
  · exact sy44_ok
  · exact sy43_ok
  · exact sy42_ok
  · exact sy41_ok
  · exact sy40_ok
theorem cnt4 : cntD 20 15 ent4 ops4 wrd4 = true := by decide +kernel
theorem det4 : ∀ R C : List Nat, R.Nodup → C.Nodup → (∀ r ∈ R, r < 20) → (∀ c ∈ C, c < 15) → R.length = C.length → (dtL (eM ent4) R C).natAbs ≤ 2 := cnt_all (by decide +kernel) wrd4_ok cnt4
def ent5 : List (List (Nat × Bool)) := [[(0, false), (1, true), (2, false), (3, true), (4, false)], [(0, false), (5, true), (6, false), (7, true), (8, false)], [(1, false), (5, true), (9, false), (10, true), (11, false)], [(2, false), (6, true), (9, false), (12, true), (13, false)], [(3, false), (7, true), (10, false), (12, true), (14, false)], [(4, false), (8, true), (11, false), (13, true), (14, false)]]
def ops5 : List (Nat × Nat) := [
  (0, 0), (0, 1), (0, 2), (0, 3), (0, 4), (0, 5)]
def sy50 : List (Nat × Nat) := [(4, 5)]
theorem sy50_ok : SymOk 15 6 ent5 sy50 := symC_ok (q := [(3, 4), (7, 8), (10, 11), (12, 13)]) (er := 615) (ec := 15) (by decide +kernel)
def sy51 : List (Nat × Nat) := [(3, 4)]
theorem sy51_ok : SymOk 15 6 ent5 sy51 := symC_ok (q := [(2, 3), (6, 7), (9, 10), (13, 14)]) (er := 2355) (ec := 39) (by decide +kernel)
def sy52 : List (Nat × Nat) := [(2, 3)]
theorem sy52_ok : SymOk 15 6 ent5 sy52 := symC_ok (q := [(1, 2), (5, 6), (10, 12), (11, 13)]) (er := 16793) (ec := 51) (by decide +kernel)
def sy53 : List (Nat × Nat) := [(1, 2)]
theorem sy53_ok : SymOk 15 6 ent5 sy53 := symC_ok (q := [(0, 1), (6, 9), (7, 10), (8, 11)]) (er := 28700) (ec := 57) (by decide +kernel)
def sy54 : List (Nat × Nat) := [(0, 1)]
theorem sy54_ok : SymOk 15 6 ent5 sy54 := symC_ok (q := [(1, 5), (2, 6), (3, 7), (4, 8)]) (er := 32256) (ec := 60) (by decide +kernel)
def wrd5 : List (List (Nat × Nat)) := [sy50, sy51, sy50, sy52, sy51, sy50, sy53, sy52, sy51, sy50, sy54, sy53, sy52, sy51, sy50]
theorem wrd5_ok : ∀ p ∈ wrd5, SymOk 15 6 ent5 p := by
  intro p hp
  simp only [wrd5, List.mem_cons, List.not_mem_nil, or_false] at hp
  rcases hp with rfl | rfl | rfl | rfl | rfl | rfl | rfl | rfl | rfl | rfl | rfl | rfl | rfl | rfl | rfl
  · exact sy50_ok
  · exact sy51_ok
  · exact sy50_ok
  · exact sy52_ok
  · exact sy51_ok
  · exact sy50_ok
  · exact sy53_ok
  · exact sy52_ok
  · exact sy51_ok
  · exact sy50_ok
  · exact sy54_ok
  · exact sy53_ok
  · exact sy52_ok
  · exact sy51_ok
  · exact sy50_ok
theorem cnt5 : cntD 15 6 ent5 ops5 wrd5 = true := by decide +kernel
theorem det5 : ∀ R C : List Nat, R.Nodup → C.Nodup → (∀ r ∈ R, r < 15) → (∀ c ∈ C, c < 6) → R.length = C.length → (dtL (eM ent5) R C).natAbs ≤ 2 := cnt_all (by decide +kernel) wrd5_ok cnt5
def ent6 : List (List (Nat × Bool)) := [[(0, true), (1, false), (2, true), (3, false), (4, true), (5, false)]]
def ops6 : List (Nat × Nat) := [
  (0, 0)]
def sy60 : List (Nat × Nat) := []
theorem sy60_ok : SymOk 6 1 ent6 sy60 := symC_ok (q := [(4, 5)]) (er := 15) (ec := 1) (by decide +kernel)
def sy61 : List (Nat × Nat) := []
theorem sy61_ok : SymOk 6 1 ent6 sy61 := symC_ok (q := [(3, 4)]) (er := 39) (ec := 1) (by decide +kernel)
def sy62 : List (Nat × Nat) := []
theorem sy62_ok : SymOk 6 1 ent6 sy62 := symC_ok (q := [(2, 3)]) (er := 51) (ec := 1) (by decide +kernel)
def sy63 : List (Nat × Nat) := []
theorem sy63_ok : SymOk 6 1 ent6 sy63 := symC_ok (q := [(1, 2)]) (er := 57) (ec := 1) (by decide +kernel)
def sy64 : List (Nat × Nat) := []
theorem sy64_ok : SymOk 6 1 ent6 sy64 := symC_ok (q := [(0, 1)]) (er := 60) (ec := 1) (by decide +kernel)
def wrd6 : List (List (Nat × Nat)) := [sy60, sy61, sy60, sy62, sy61, sy60, sy63, sy62, sy61, sy60, sy64, sy63, sy62, sy61, sy60]
theorem wrd6_ok : ∀ p ∈ wrd6, SymOk 6 1 ent6 p := by
  intro p hp
  simp only [wrd6, List.mem_cons, List.not_mem_nil, or_false] at hp
  rcases hp with rfl | rfl | rfl | rfl | rfl | rfl | rfl | rfl | rfl | rfl | rfl | rfl | rfl | rfl | rfl
  · exact sy60_ok
  · exact sy61_ok
  · exact sy60_ok
  · exact sy62_ok
  · exact sy61_ok
  · exact sy60_ok
  · exact sy63_ok
  · exact sy62_ok
  · exact sy61_ok
  · exact sy60_ok
  · exact sy64_ok
  · exact sy63_ok
  · exact sy62_ok
  · exact sy61_ok
  · exact sy60_ok
theorem cnt6 : cntD 6 1 ent6 ops6 wrd6 = true := by decide +kernel
theorem det6 : ∀ R C : List Nat, R.Nodup → C.Nodup → (∀ r ∈ R, r < 6) → (∀ c ∈ C, c < 1) → R.length = C.length → (dtL (eM ent6) R C).natAbs ≤ 2 := cnt_all (by decide +kernel) wrd6_ok cnt6
end Go.Proofs.YtkoljbncokmeaaaDoor
