import Derived.Test.YtmemomfffehnkaaFqN
import Derived.Test.YtmemomfffehnkaaKU
import Derived.Test.YtmemomfffehnkaaKY
import Derived.Test.YtmemomfffehnkaaKT
namespace Go.Proofs.Ytmemomfffehnkaa
open Go Go.RowKit
set_option maxRecDepth 1000000
set_option linter.unusedSimpArgs false
set_option linter.unusedVariables false
set_option maxHeartbeats 1000000
/-- The point by which a pair is made. -/
def ixP (P : Int × Int) (i : Nat) : Prop := i < 6 ∧ band P.1 (2 ^ i) = 0 ∧ P.2 = bor P.1 (2 ^ i)
theorem band_tb {a : Int} (ha : isS a) {i : Nat} (hi : i < 6) : band a (2 ^ i) = 0 ↔ ¬ tb a i := by
  rw [band_none ha (isS_pow hi)]
  constructor
  · intro h ht
    exact h i hi ⟨ht, (tb_pow hi hi).2 rfl⟩
  · intro h j hj hh
    have := (tb_pow hi hj).1 hh.2
    subst this
    exact h hh.1
theorem bor_tb {a : Int} (ha : isS a) {i : Nat} (hi : i < 6) {j : Nat} (hj : j < 6) : tb (bor a (2 ^ i)) j ↔ tb a j ∨ j = i := by
  rw [tb_bor ha (isS_pow hi) hj, tb_pow hi hj]
  constructor
  · rintro (h | h)
    · exact .inl h
    · exact .inr h.symm
  · rintro (h | h)
    · exact .inl h
    · exact .inr h.symm
theorem ixP_uniq {P : Int × Int} (hS : isS P.1) {i j : Nat} (h1 : ixP P i) (h2 : ixP P j) : i = j := by
  obtain ⟨a1, a2, a3⟩ := h1
  obtain ⟨b1, b2, b3⟩ := h2
  have h := (bor_tb hS a1 a1).2 (.inr rfl)
  rw [← a3, b3, bor_tb hS b1 a1] at h
  exact h.resolve_left ((band_tb hS a1).1 a2)
/-- The pairs that come in by one point. -/
theorem ppIn_grow {p : Int → Prop} {L : List Int} {i : Nat} (hi : i < 6) (out : List (Int × Int)) : ∀ k, k ≤ L.length → ∃ ns, ppIn p L i out k = out ++ ns ∧ ∀ P ∈ ns, ixP P i ∧ P.1 ∈ L ∧ p P.2
  | 0, _ => ⟨[], by simp [ppIn], by simp⟩
  | k + 1, hk => by
    obtain ⟨ns, e, h⟩ := ppIn_grow (p := p) (L := L) hi out k (by omega)
    by_cases hc : ppC p i (ppIn p L i out k) (at0 L k)
    · refine ⟨ns ++ [(at0 L k, bor (at0 L k) (2 ^ i))], by rw [ppIn_pos hc, e, List.append_assoc], fun P hP => ?_⟩
      rcases List.mem_append.1 hP with hP | hP
      · exact h P hP
      · rw [List.mem_singleton.1 hP]
        exact ⟨⟨hi, hc.1, rfl⟩, getD_mem' (by omega), hc.2.1⟩
    · exact ⟨ns, by rw [ppIn_neg hc, e], h⟩
theorem usedA_mono {out ns : List (Int × Int)} {x : Int} (h : x ∈ usedA out) : x ∈ usedA (out ++ ns) := by
  unfold usedA at *
  rw [List.flatMap_append]
  exact List.mem_append_left _ h
theorem ppIn_mono {p : Int → Prop} {L : List Int} {i : Nat} (hi : i < 6) (out : List (Int × Int)) {k m : Nat} (hkm : k ≤ m) (hm : m ≤ L.length) {x : Int} (h : x ∈ usedA (ppIn p L i out k)) : x ∈ usedA (ppIn p L i out m) := by
  induction m with
  | zero => have : k = 0 := by omega
            subst this; exact h
  | succ m ih =>
    by_cases e : k = m + 1
    · rw [← e]; exact h
    · have h2 := ih (by omega) (by omega)
      by_cases hc : ppC p i (ppIn p L i out m) (at0 L m)
      · rw [ppIn_pos hc]; exact usedA_mono h2
      · rw [ppIn_neg hc]; exact h2
/-- A face that could be paired is used, or its partner is. -/
theorem ppIn_max {p : Int → Prop} {L : List Int} {i : Nat} (hi : i < 6) (out : List (Int × Int)) {s : Int} (hs : s ∈ L) (h0 : band s (2 ^ i) = 0) (hp : p (bor s (2 ^ i))) :
    s ∈ usedA (ppIn p L i out L.length) ∨ bor s (2 ^ i) ∈ usedA (ppIn p L i out L.length) := by
  obtain ⟨k, hk, e⟩ := getD_mem_iff.1 hs
  by_cases hc : ppC p i (ppIn p L i out k) (at0 L k)
  · left
    refine ppIn_mono hi out (k := k + 1) (by omega) (Nat.le_refl _) ?_
    rw [ppIn_pos hc, usedA_snoc, e]
    simp
  · rw [e] at hc
    have : s ∈ usedA (ppIn p L i out k) ∨ bor s (2 ^ i) ∈ usedA (ppIn p L i out k) := by
      refine Classical.byContradiction fun hn => hc ⟨h0, hp, fun h => hn (.inl h), fun h => hn (.inr h)⟩
    rcases this with h | h
    · exact .inl (ppIn_mono hi out (by omega) (Nat.le_refl _) h)
    · exact .inr (ppIn_mono hi out (by omega) (Nat.le_refl _) h)
theorem ppOut_pre {p : Int → Prop} {L : List Int} {j m : Nat} (hj : j ≤ m) (hm : m ≤ 6) : ∃ ns, ppOut p L m = ppOut p L j ++ ns ∧ ∀ P ∈ ns, ∃ i, j ≤ i ∧ i < m ∧ ixP P i ∧ P.1 ∈ L ∧ p P.2 := by
  induction m with
  | zero =>
    have : j = 0 := by omega
    subst this
    exact ⟨[], by simp, by simp⟩
  | succ m ih =>
    by_cases e : j = m + 1
    · exact ⟨[], by rw [e]; simp, by simp⟩
    · obtain ⟨ns, e1, h1⟩ := ih (by omega) (by omega)
      obtain ⟨ns2, e2, h2⟩ := ppIn_grow (p := p) (L := L) (i := m) (by omega) (ppOut p L m) L.length (Nat.le_refl _)
      refine ⟨ns ++ ns2, ?_, fun P hP => ?_⟩
      · show ppIn p L m (ppOut p L m) L.length = _
        rw [e2, e1, List.append_assoc]
      · rcases List.mem_append.1 hP with hP | hP
        · obtain ⟨i, a, b, c⟩ := h1 P hP
          exact ⟨i, a, by omega, c⟩
        · exact ⟨m, by omega, by omega, h2 P hP⟩
theorem mem_usedA {out : List (Int × Int)} {x : Int} : x ∈ usedA out ↔ ∃ P ∈ out, x = P.1 ∨ x = P.2 := by
  unfold usedA
  simp [List.mem_flatMap]
/-- Two pairs with a face in common are one. -/
theorem pair_same : ∀ {out : List (Int × Int)}, (usedA out).Nodup → ∀ {P Q : Int × Int} {x : Int}, P ∈ out → Q ∈ out → (x = P.1 ∨ x = P.2) → (x = Q.1 ∨ x = Q.2) → P = Q
  | [], _, P, Q, x, h, _, _, _ => by simp at h
  | A :: out, hn, P, Q, x, hP, hQ, h1, h2 => by
    have e : usedA (A :: out) = [A.1, A.2] ++ usedA out := rfl
    rw [e, List.nodup_append] at hn
    obtain ⟨_, n2, n3⟩ := hn
    rcases List.mem_cons.1 hP with eP | kP
    · rcases List.mem_cons.1 hQ with eQ | kQ
      · rw [eP, eQ]
      · rw [eP] at h1
        exact absurd rfl (n3 x (by simpa using h1) x (mem_usedA.2 ⟨Q, kQ, h2⟩))
    · rcases List.mem_cons.1 hQ with eQ | kQ
      · rw [eQ] at h2
        exact absurd rfl (n3 x (by simpa using h2) x (mem_usedA.2 ⟨P, kP, h1⟩))
      · exact pair_same n2 kP kQ h1 h2
/-- A used face's pair has come in by then. -/
theorem used_ix {p : Int → Prop} {L : List Int} (hL : allS L) {m j : Nat} (hm : m ≤ 6) (hj : j < m) {P : Int × Int} (hP : P ∈ ppOut p L m) {x : Int} (hx : x = P.1 ∨ x = P.2) (hu : x ∈ usedA (ppOut p L (j + 1))) {i : Nat} (hi : ixP P i) : i ≤ j := by
  obtain ⟨ns, e, _⟩ := ppOut_pre (p := p) (L := L) (j := j + 1) (m := m) (by omega) hm
  obtain ⟨Q, hQ, h2⟩ := mem_usedA.1 hu
  have hQm : Q ∈ ppOut p L m := by rw [e]; exact List.mem_append_left _ hQ
  obtain ⟨hnd, hS⟩ := ppOut_ok (p := p) hL m hm
  have := pair_same hnd hP hQm hx h2
  subst this
  obtain ⟨ns2, e2, h3⟩ := ppOut_pre (p := p) (L := L) (j := 0) (m := j + 1) (by omega) (by omega)
  have h0 : ppOut p L 0 = [] := rfl
  rw [h0, List.nil_append] at e2
  rw [e2] at hQ
  obtain ⟨i', _, h5, h6, _⟩ := h3 P hQ
  have hS1 : isS P.1 := hS _ (mem_usedA.2 ⟨P, hP, .inl rfl⟩)
  have := ixP_uniq hS1 hi h6
  omega
open Classical in
noncomputable def dgD (s : Int) (i j : Nat) : Nat := if j < i then (if tb s j then 2 else 0) else if j = i then 1 else 0
noncomputable def phiD (s : Int) (i : Nat) : Nat → Nat
  | 0 => 0
  | k + 1 => 3 * phiD s i k + dgD s i k
theorem dgD_le (s : Int) (i j : Nat) : dgD s i j ≤ 2 := by
  unfold dgD
  split
  · split <;> omega
  · split <;> omega
theorem phiD_lt {s t : Int} {i i' k0 : Nat} (he : ∀ j, j < k0 → dgD s i j = dgD t i' j) (hl : dgD s i k0 < dgD t i' k0) : ∀ k, k0 < k → phiD s i k < phiD t i' k := by
  have h1 : ∀ k, k ≤ k0 → phiD s i k = phiD t i' k := by
    intro k
    induction k with
    | zero => intro _; rfl
    | succ k ih => intro hk; rw [phiD, phiD, ih (by omega), he k (by omega)]
  intro k
  induction k with
  | zero => intro h; omega
  | succ k ih =>
    intro hk
    rw [phiD, phiD]
    have hs := dgD_le s i k
    by_cases e : k = k0
    · subst e
      rw [h1 k (Nat.le_refl _)]
      omega
    · have := ih (by omega)
      omega
theorem add_key : ∀ x : Nat, x < 64 → ∀ y : Nat, y < 64 → (!(x &&& y == x && pcF 6 y == pcF 6 x + 1) || (List.range 6).any fun i => !(x.testBit i) && (x ||| 2 ^ i == y)) = true := by decide +kernel
/-- A set with one element more. -/
theorem sub_one {a b : Int} (ha : isS a) (hb : isS b) (h : subS a b) (hz : sz b = sz a + 1) : ∃ i, i < 6 ∧ ¬ tb a i ∧ b = bor a (2 ^ i) := by
  obtain ⟨x, hx, rfl⟩ := isS_nat0 ha
  obtain ⟨y, hy, rfl⟩ := isS_nat0 hb
  have h1 := (subS_natI hx hy).1 h
  rw [sz_nat hx, sz_nat hy] at hz
  have hz' : pcF 6 y = pcF 6 x + 1 := by omega
  have := add_key x hx y hy
  simp only [h1, hz', beq_self_eq_true, Bool.and_self, Bool.not_true, Bool.false_or, List.any_eq_true, List.mem_range, Bool.and_eq_true, Bool.not_eq_true', beq_iff_eq] at this
  obtain ⟨i, hi, hb1, hb2⟩ := this
  refine ⟨i, hi, ?_, ?_⟩
  · rw [tb_nat x i hx hi]; simp [hb1]
  · have e2 : (2 : Int) ^ i = ((2 ^ i : Nat) : Int) := pow_nat i
    show (y : Int) = bitop .or .i64 (x : Int) (2 ^ i)
    have hp : 2 ^ i < 64 := by
      have : ∀ i : Nat, i < 6 → 2 ^ i < 64 := by decide
      exact this i hi
    rw [e2, bits_or x (2 ^ i) (by omega) (by omega), hb2]
theorem pp_edge {p : Int → Prop} {L : List Int} (hL : allS L) (hLp : ∀ s, s ∈ L ↔ isS s ∧ p s) {m : Nat} (hm : m ≤ 6) {A B : Int × Int} (hA : A ∈ ppOut p L m) (hB : B ∈ ppOut p L m) (hne : A ≠ B) (hsub : subS B.1 A.2) (hz : sz A.2 = sz B.1 + 1)
    {iA iB : Nat} (hiA : ixP A iA) (hiB : ixP B iB) (hAm : iA < m) (hBm : iB < m) (hpA : p A.2) (hpB : p B.1) : phiD A.1 iA 6 < phiD B.1 iB 6 := by
  obtain ⟨hnd, hS⟩ := ppOut_ok (p := p) hL m hm
  have sA1 : isS A.1 := hS _ (mem_usedA.2 ⟨A, hA, .inl rfl⟩)
  have sA2 : isS A.2 := hS _ (mem_usedA.2 ⟨A, hA, .inr rfl⟩)
  have sB1 : isS B.1 := hS _ (mem_usedA.2 ⟨B, hB, .inl rfl⟩)
  obtain ⟨y, hy, hny, hey⟩ := sub_one sB1 sA2 hsub hz
  obtain ⟨a1, a2, a3⟩ := hiA
  obtain ⟨b1, b2, b3⟩ := hiB
  have tA : ∀ k, k < 6 → (tb A.2 k ↔ tb A.1 k ∨ k = iA) := fun k hk => by rw [a3]; exact bor_tb sA1 a1 hk
  have tB : ∀ k, k < 6 → (tb A.2 k ↔ tb B.1 k ∨ k = y) := fun k hk => by rw [hey]; exact bor_tb sB1 hy hk
  have nA := (band_tb sA1 a1).1 a2
  have nB := (band_tb sB1 b1).1 b2
  have c2 : y ≠ iB := fun e => hne (pair_same hnd hA hB (x := A.2) (.inr rfl) (.inr (by rw [hey, b3, e])))
  have c3 : y ≠ iA := fun e => hne (pair_same hnd hA hB (x := A.1) (.inl rfl) (.inl (tb_ext sA1 sB1 fun k hk => by
    have h1 := tA k hk
    have h2 := tB k hk
    by_cases hk2 : k = iA
    · subst hk2
      exact ⟨fun h => absurd h nA, fun h => absurd (e ▸ h) hny⟩
    · constructor
      · intro h; exact (h2.1 (h1.2 (.inl h))).resolve_right (by rw [e]; exact hk2)
      · intro h; exact (h1.1 (h2.2 (.inl h))).resolve_right hk2)))
  have c1 : ¬ (y < iA ∧ y < iB) := fun ⟨h1, h2⟩ => by
    have hmax := ppIn_max (p := p) (L := L) hy (ppOut p L y) ((hLp _).2 ⟨sB1, hpB⟩) ((band_tb sB1 hy).2 hny) (by rw [← hey]; exact hpA)
    have e : ppIn p L y (ppOut p L y) L.length = ppOut p L (y + 1) := rfl
    rw [e, ← hey] at hmax
    rcases hmax with h | h
    · have := used_ix hL hm (by omega) hB (.inl rfl) h ⟨b1, b2, b3⟩
      omega
    · have := used_ix hL hm (by omega) hA (.inr rfl) h ⟨a1, a2, a3⟩
      omega
  have same : ∀ j, j < iA → j < iB → (tb A.1 j ↔ tb B.1 j) := fun j h1 h2 => by
    have hj : j < 6 := by omega
    have hjy : j ≠ y := fun e => c1 ⟨e ▸ h1, e ▸ h2⟩
    have q1 := tA j hj
    have q2 := tB j hj
    constructor
    · intro h; exact (q2.1 (q1.2 (.inl h))).resolve_right hjy
    · intro h; exact (q1.1 (q2.2 (.inl h))).resolve_right (by omega)
  have hAB : iA ≠ iB := fun e => by
    have h1 := (tA iA a1).2 (.inr rfl)
    rcases (tB iA a1).1 h1 with h | h
    · exact nB (e ▸ h)
    · exact c3 h.symm
  have dg : ∀ j, j < iA → j < iB → dgD A.1 iA j = dgD B.1 iB j := fun j h1 h2 => by
    unfold dgD
    rw [if_pos h1, if_pos h2]
    by_cases h : tb A.1 j
    · rw [if_pos h, if_pos ((same j h1 h2).1 h)]
    · rw [if_neg h, if_neg fun hh => h ((same j h1 h2).2 hh)]
  rcases Nat.lt_or_gt_of_ne hAB with h | h
  · refine phiD_lt (k0 := iA) (fun j hj => dg j hj (by omega)) ?_ 6 a1
    have h1 : tb B.1 iA := ((tB iA a1).1 ((tA iA a1).2 (.inr rfl))).resolve_right fun e => c3 e.symm
    have d1 : dgD A.1 iA iA = 1 := by unfold dgD; rw [if_neg (by omega), if_pos rfl]
    have d2 : dgD B.1 iB iA = 2 := by unfold dgD; rw [if_pos h, if_pos h1]
    omega
  · refine phiD_lt (k0 := iB) (fun j hj => dg j (by omega) hj) ?_ 6 b1
    have h1 : ¬ tb A.1 iB := fun hh => by
      rcases (tB iB b1).1 ((tA iB b1).2 (.inl hh)) with q | q
      · exact nB q
      · exact c2 q.symm
    have d1 : dgD A.1 iA iB = 0 := by unfold dgD; rw [if_pos h, if_neg h1]
    have d2 : dgD B.1 iB iB = 1 := by unfold dgD; rw [if_neg (by omega), if_pos rfl]
    omega
end Go.Proofs.Ytmemomfffehnkaa
namespace Go.Proofs.Ytmemomfffehnkaa
open Go Go.RowKit
set_option maxRecDepth 1000000
set_option linter.unusedSimpArgs false
set_option linter.unusedVariables false
set_option maxHeartbeats 1000000
theorem warsh_up {E : Nat → Nat → Prop} {f : Nat → Nat} (h : ∀ i j, E i j → f i < f j) : ∀ k i j, warsh E k i j → f i < f j
  | 0, i, j, he => h i j he
  | k + 1, i, j, he => by
    rcases he with he | ⟨h1, h2⟩
    · exact warsh_up h k i j he
    · have a := warsh_up h k _ _ h1
      have b := warsh_up h k _ _ h2
      omega
end Go.Proofs.Ytmemomfffehnkaa
namespace Go.Proofs.Ytmemomfffehnkaa
open Go Go.RowKit
set_option maxRecDepth 1000000
set_option linter.unusedSimpArgs false
set_option linter.unusedVariables false
set_option maxHeartbeats 1000000
theorem usedA_take {out : List (Int × Int)} (h : (usedA out).Nodup) (k : Nat) : (usedA (out.take k)).Nodup := by
  have e : usedA out = usedA (out.take k) ++ usedA (out.drop k) := by
    unfold usedA
    rw [← List.flatMap_append, List.take_append_drop]
  rw [e, List.nodup_append] at h
  exact h.1
theorem pp_notused {out : List (Int × Int)} (h : (usedA out).Nodup) {k : Nat} (hk : k < out.length) : (pr0 out k).1 ∉ usedI out k ∧ (pr0 out k).2 ∉ usedI out k := by
  have h1 := usedA_take h (k + 1)
  have e : usedA (out.take (k + 1)) = usedI out (k + 1) := rfl
  rw [e, usedI_succ hk, List.nodup_append] at h1
  obtain ⟨_, _, h3⟩ := h1
  exact ⟨fun hh => h3 _ hh _ (by simp) rfl, fun hh => h3 _ hh _ (by simp) rfl⟩
end Go.Proofs.Ytmemomfffehnkaa
namespace Go.Proofs.Ytmemomfffehnkaa
open Go Go.RowKit
set_option maxRecDepth 1000000
set_option linter.unusedSimpArgs false
set_option linter.unusedVariables false
set_option maxHeartbeats 1000000
theorem addsz_key : ∀ x : Nat, x < 64 → ∀ i : Nat, i < 6 → (x.testBit i || pcF 6 (x ||| 2 ^ i) == pcF 6 x + 1) = true := by decide +kernel
theorem sz_addP {a : Int} (ha : isS a) {i : Nat} (hi : i < 6) (h : ¬ tb a i) : sz (bor a (2 ^ i)) = sz a + 1 := by
  obtain ⟨x, hx, rfl⟩ := isS_nat0 ha
  rw [tb_nat x i hx hi] at h
  have k := addsz_key x hx i hi
  have hp : 2 ^ i < 64 := by
    have : ∀ i : Nat, i < 6 → 2 ^ i < 64 := by decide
    exact this i hi
  have e : bor (x : Int) (2 ^ i) = ((x ||| 2 ^ i : Nat) : Int) := by
    show bitop .or .i64 (x : Int) (2 ^ i) = _
    rw [pow_nat i, bits_or x (2 ^ i) (by omega) (by omega)]
  have hlt : x ||| 2 ^ i < 64 := Nat.or_lt_two_pow (n := 6) (by omega) (by omega)
  rw [e, sz_nat hlt, sz_nat hx]
  simp [h] at k
  omega
/-- The pairing by points is a pairing. -/
theorem pp_pair {n : Int} {l : List Int} (hc : cplx n l) : pairP n l (ppL n l) := by
  have e : ppL n l = ppOut (faceS l) (setsOf (faceS l)) n.toNat := if_pos hc
  have h6 : n.toNat ≤ 6 := by have := hc.2.1; omega
  have hL : allS (setsOf (faceS l)) := allS_setsOf _
  obtain ⟨hnd, hS⟩ := ppOut_ok (p := faceS l) hL n.toNat h6
  refine ⟨hc, fun k hk => ?_⟩
  rw [e] at hk ⊢
  have hmem : pr0 (ppOut (faceS l) (setsOf (faceS l)) n.toNat) k ∈ ppOut (faceS l) (setsOf (faceS l)) n.toNat := by
    unfold pr0
    rw [List.getElem?_eq_getElem hk]
    exact List.getElem_mem hk
  obtain ⟨ns, e2, h2⟩ := ppOut_pre (p := faceS l) (L := setsOf (faceS l)) (j := 0) (m := n.toNat) (by omega) h6
  have h0 : ppOut (faceS l) (setsOf (faceS l)) 0 = [] := rfl
  rw [h0, List.nil_append] at e2
  have hm2 : ∀ P, P ∈ ppOut (faceS l) (setsOf (faceS l)) n.toNat → P ∈ ns := fun P h => by rw [e2] at h; exact h
  obtain ⟨i, _, _, ⟨hi, hb, hP⟩, hm1, hp2⟩ := h2 _ (hm2 _ hmem)
  have s1 : isS (pr0 (ppOut (faceS l) (setsOf (faceS l)) n.toNat) k).1 := hS _ (mem_usedA.2 ⟨_, hmem, .inl rfl⟩)
  have s2 : isS (pr0 (ppOut (faceS l) (setsOf (faceS l)) n.toNat) k).2 := hS _ (mem_usedA.2 ⟨_, hmem, .inr rfl⟩)
  refine ⟨⟨s1, s2, (mem_setsOf.1 hm1).2, hp2, (subS_tb s1 s2).2 fun j hj h => ?_, ?_⟩, pp_notused hnd hk⟩
  · rw [hP]; exact (bor_tb s1 hi hj).2 (.inl h)
  · rw [hP, sz_addP s1 hi ((band_tb s1 hi).1 hb)]; omega
/-- The pairing by points is acyclic. -/
theorem pp_acyclic {n : Int} {l : List Int} (hc : cplx n l) : acycP n l (ppL n l) := by
  have e : ppL n l = ppOut (faceS l) (setsOf (faceS l)) n.toNat := if_pos hc
  have h6 : n.toNat ≤ 6 := by have := hc.2.1; omega
  have hL : allS (setsOf (faceS l)) := allS_setsOf _
  have hpp := pp_pair hc
  refine ⟨hpp, fun i hi hw => ?_⟩
  have hex : ∀ k, ∃ q, k < (ppL n l).length → ixP (pr0 (ppL n l) k) q ∧ q < n.toNat := fun k => by
    by_cases hk : k < (ppL n l).length
    · have hmem : pr0 (ppL n l) k ∈ ppL n l := by
        unfold pr0
        rw [List.getElem?_eq_getElem hk]
        exact List.getElem_mem hk
      obtain ⟨ns, e2, h2⟩ := ppOut_pre (p := faceS l) (L := setsOf (faceS l)) (j := 0) (m := n.toNat) (by omega) h6
      have h0 : ppOut (faceS l) (setsOf (faceS l)) 0 = [] := rfl
      rw [h0, List.nil_append, ← e] at e2
      have hm2 : ∀ P, P ∈ ppL n l → P ∈ ns := fun P h => by rw [e2] at h; exact h
      obtain ⟨q, _, hq, hx, _⟩ := h2 _ (hm2 _ hmem)
      exact ⟨q, fun _ => ⟨hx, hq⟩⟩
    · exact ⟨0, fun h => absurd h hk⟩
  have hlt := warsh_up (E := edgeP (ppL n l)) (f := fun k => phiD (pr0 (ppL n l) k).1 (Classical.choose (hex k)) 6) (fun a b hab => ?_) (ppL n l).length i i hw
  · omega
  · obtain ⟨ha, hb, hne, hsub, hz⟩ := hab
    have hA : pr0 (ppL n l) a ∈ ppL n l := by unfold pr0; rw [List.getElem?_eq_getElem ha]; exact List.getElem_mem ha
    have hB : pr0 (ppL n l) b ∈ ppL n l := by unfold pr0; rw [List.getElem?_eq_getElem hb]; exact List.getElem_mem hb
    obtain ⟨xa, la⟩ := Classical.choose_spec (hex a) ha
    obtain ⟨xb, lb⟩ := Classical.choose_spec (hex b) hb
    have hd : pr0 (ppL n l) a ≠ pr0 (ppL n l) b := fun h => pair_low hpp ha hb hne (by rw [h])
    have key : ∀ A, A ∈ ppL n l → A ∈ ppOut (faceS l) (setsOf (faceS l)) n.toNat := fun A h => by rw [e] at h; exact h
    exact pp_edge hL (fun s => mem_setsOf) h6 (key _ hA) (key _ hB) hd hsub hz xa xb la lb (hpp.2 a ha).1.2.2.2.1 (hpp.2 b hb).1.2.2.1
end Go.Proofs.Ytmemomfffehnkaa
namespace Go.Proofs.Ytmemomfffehnkaa
open Go Go.RowKit
set_option maxRecDepth 1000000
set_option linter.unusedSimpArgs false
set_option linter.unusedVariables false
set_option maxHeartbeats 1000000
theorem sumN_front (f : Nat → Int) : ∀ n, sumN (n + 1) f = f 0 + sumN n fun k => f (k + 1)
  | 0 => by simp [sumN]
  | n + 1 => by
    rw [sumN, sumN_front f n, sumN]
    omega
/-- A sum over a row. -/
def sumL (U : List Int) (w : Int → Int) : Int := sumN U.length fun k => w (at0 U k)
theorem sumL_nil (w : Int → Int) : sumL [] w = 0 := rfl
theorem sumL_cons (a : Int) (U : List Int) (w : Int → Int) : sumL (a :: U) w = w a + sumL U w := by
  unfold sumL
  rw [List.length_cons, sumN_front]
  rfl
theorem sumL_app (U V : List Int) (w : Int → Int) : sumL (U ++ V) w = sumL U w + sumL V w := by
  induction U with
  | nil => rw [List.nil_append, sumL_nil]; omega
  | cons a U ih => rw [List.cons_append, sumL_cons, sumL_cons, ih]; omega
theorem sumN_one {w : Int → Int} {a : Nat} : ∀ n, (sumN n fun u => bI ((u : Int) = (a : Int)) * w u) = if a < n then w a else 0
  | 0 => by simp [sumN]
  | n + 1 => by
    rw [sumN, sumN_one n]
    by_cases h : a < n
    · rw [if_pos h, if_pos (by omega), bI_no (by omega)]; omega
    · by_cases h2 : a = n
      · subst h2
        rw [if_neg h, if_pos (by omega), bI_yes rfl]; omega
      · rw [if_neg h, if_neg (by omega), bI_no (by omega)]; omega
/-- A sum over sets that are all different, as a sum over all numbers. -/
theorem sumL_mem (w : Int → Int) : ∀ {U : List Int}, U.Nodup → allS U → (sumN 64 fun u => bI ((u : Int) ∈ U) * w u) = sumL U w
  | [], _, _ => by
    rw [sumL_nil]
    exact sumN_zero fun k _ => by rw [bI_no (by simp)]; omega
  | a :: U, hn, hS => by
    rw [List.nodup_cons] at hn
    have ih := sumL_mem w hn.2 fun x hx => hS x (List.mem_cons_of_mem _ hx)
    rw [sumL_cons, ← ih]
    obtain ⟨x, hx, rfl⟩ := isS_nat0 (hS a (List.mem_cons_self ..))
    have e : (sumN 64 fun u => bI ((u : Int) ∈ (x : Int) :: U) * w u) = sumN 64 fun u => bI ((u : Int) = (x : Int)) * w u + bI ((u : Int) ∈ U) * w u := sumN_congr fun u hu => by
      by_cases h : (u : Int) = (x : Int)
      · rw [bI_yes h, bI_yes (by rw [h]; exact List.mem_cons_self ..), bI_no (by rw [h]; exact hn.1)]; omega
      · rw [bI_no h]
        by_cases h2 : (u : Int) ∈ U
        · rw [bI_yes h2, bI_yes (List.mem_cons_of_mem _ h2)]; omega
        · rw [bI_no h2, bI_no (fun hh => (List.mem_cons.1 hh).elim h h2)]; omega
    rw [e, sumN_add, sumN_one, if_pos hx]
theorem nodup_setsOf (p : Int → Prop) : (setsOf p).Nodup := setsOf_nodup p
/-- What is in a family is in one of two parts. -/
theorem sumL_split {F N U : List Int} (hF : F.Nodup ∧ allS F) (hN : N.Nodup ∧ allS N) (hU : U.Nodup ∧ allS U) (h : ∀ s, s ∈ F ↔ s ∈ N ∨ s ∈ U) (hd : ∀ s, s ∈ N → s ∈ U → False) (w : Int → Int) : sumL F w = sumL N w + sumL U w := by
  rw [← sumL_mem w hF.1 hF.2, ← sumL_mem w hN.1 hN.2, ← sumL_mem w hU.1 hU.2, ← sumN_add]
  refine sumN_congr fun u _ => ?_
  by_cases h1 : (u : Int) ∈ N
  · rw [bI_yes ((h _).2 (.inl h1)), bI_yes h1, bI_no fun h2 => hd _ h1 h2]; omega
  · by_cases h2 : (u : Int) ∈ U
    · rw [bI_yes ((h _).2 (.inr h2)), bI_yes h2, bI_no h1]; omega
    · rw [bI_no fun hh => ((h _).1 hh).elim h1 h2, bI_no h1, bI_no h2]; omega
theorem sumL_congr {U : List Int} {w v : Int → Int} (h : ∀ s ∈ U, w s = v s) : sumL U w = sumL U v := sumN_congr fun k hk => h _ (getD_mem' hk)
theorem sumL_len (U : List Int) : sumL U (fun _ => 1) = U.length := by
  induction U with
  | nil => rfl
  | cons a U ih => rw [sumL_cons, ih, List.length_cons]; omega
theorem sumL_used (w : Int → Int) : ∀ list : List (Int × Int), sumL (usedA list) w = sumN list.length fun k => w (pr0 list k).1 + w (pr0 list k).2
  | [] => rfl
  | p :: list => by
    have e : usedA (p :: list) = p.1 :: p.2 :: usedA list := rfl
    rw [e, sumL_cons, sumL_cons, sumL_used w list, List.length_cons, sumN_front]
    have e2 : (fun k => w (pr0 (p :: list) (k + 1)).1 + w (pr0 (p :: list) (k + 1)).2) = fun k => w (pr0 list k).1 + w (pr0 list k).2 := rfl
    rw [e2]
    show _ = w p.1 + w p.2 + _
    omega
theorem usedI_all (list : List (Int × Int)) : usedI list list.length = usedA list := by
  unfold usedI usedA
  rw [List.take_length]
theorem mem_usedI_face {n : Int} {l : List Int} {list : List (Int × Int)} (h : pairP n l list) {s : Int} (hs : s ∈ usedA list) : isS s ∧ faceS l s := by
  obtain ⟨P, hP, e⟩ := mem_usedA.1 hs
  obtain ⟨k, hk, rfl⟩ := mem_pr0.1 hP
  have g := (h.2 k hk).1
  rcases e with rfl | rfl
  · exact ⟨g.1, g.2.2.1⟩
  · exact ⟨g.2.1, g.2.2.2.1⟩
/-- Sums over all faces are sums over those that are not paired and over the pairs. -/
theorem pair_sum {n : Int} {l : List Int} {list : List (Int × Int)} (h : pairP n l list) (w : Int → Int) : sumL (facesL n l) w = sumL (unpL n l list) w + sumN list.length fun k => w (pr0 list k).1 + w (pr0 list k).2 := by
  have hu := pair_used h list.length (Nat.le_refl _)
  rw [usedI_all] at hu
  have e1 : unpL n l list = setsOf fun s => faceS l s ∧ s ∉ usedA list := by
    unfold unpL
    rw [if_pos h, usedI_all]
  rw [facesL_of h.1, ← sumL_used, e1]
  refine sumL_split ⟨setsOf_nodup _, allS_setsOf _⟩ ⟨setsOf_nodup _, allS_setsOf _⟩ hu (fun s => ?_) (fun s h1 h2 => (mem_setsOf.1 h1).2.2 h2) w
  rw [mem_setsOf, mem_setsOf]
  constructor
  · rintro ⟨a, b⟩
    by_cases hh : s ∈ usedA list
    · exact .inr hh
    · exact .inl ⟨a, b, hh⟩
  · rintro (⟨a, b, _⟩ | hh)
    · exact ⟨a, b⟩
    · exact mem_usedI_face h hh
theorem unp_len {n : Int} {l : List Int} {list : List (Int × Int)} (h : pairP n l list) : ((unpL n l list).length : Int) = ((facesL n l).length : Int) - 2 * (list.length : Int) := by
  have := pair_sum h fun _ => 1
  have e0 : (sumN list.length fun _ => (1 : Int) + 1) = 2 * sumN list.length fun _ => 1 := by rw [← sumN_mul]; rfl
  rw [sumL_len, sumL_len, e0] at this
  have e : ∀ m : Nat, (sumN m fun _ => 1) = (m : Int) := fun m => by
    induction m with
    | zero => rfl
    | succ m ih => rw [sumN, ih]; omega
  rw [e] at this
  omega
/-- The sign of a face in the Euler number. -/
def sgE (s : Int) : Int := 2 * (sz s % 2) - 1
theorem pair_euler {n : Int} {l : List Int} {list : List (Int × Int)} (h : pairP n l list) : sumL (facesL n l) sgE = sumL (unpL n l list) sgE := by
  have := pair_sum h sgE
  rw [sumN_zero (f := fun k => sgE (pr0 list k).1 + sgE (pr0 list k).2)] at this
  · omega
  · intro k hk
    have := (h.2 k hk).1.2.2.2.2.2
    unfold sgE
    omega
/-- Numbers by size, with signs. -/
theorem szRow_sgn {l : List Int} {m : Nat} (h : ∀ k, k < l.length → sz (at0 l k) < (m : Int)) : (sumN m fun k => (2 * ((k : Int) % 2) - 1) * cntZ l k) = sumL l sgE := by
  have e : (sumN m fun k => (2 * ((k : Int) % 2) - 1) * cntZ l k) = sumN m fun z => sumN l.length fun k => (2 * ((z : Int) % 2) - 1) * bI (sz (at0 l k) = (z : Int)) := sumN_congr fun z _ => by rw [cntZ_sum, ← sumN_mul]
  rw [e, sumN_swap]
  refine sumN_congr fun k hk => ?_
  have h0 : 0 ≤ sz (at0 l k) := by unfold sz; omega
  have hk2 := h k hk
  obtain ⟨a, ha⟩ := Int.eq_ofNat_of_zero_le h0
  have e2 : (sumN m fun z => (2 * ((z : Int) % 2) - 1) * bI (sz (at0 l k) = (z : Int))) = sumN m fun z => bI ((z : Int) = (a : Int)) * (fun u => 2 * (u % 2) - 1) (z : Int) := sumN_congr fun z _ => by
    rw [Int.mul_comm, ha]
    congr 1
    exact bI_congr ⟨fun h => h.symm, fun h => h.symm⟩
  rw [e2, sumN_one (w := fun u => 2 * (u % 2) - 1) (a := a) m, if_pos (by omega)]
  unfold sgE
  rw [ha]
end Go.Proofs.Ytmemomfffehnkaa
namespace Go.Proofs.Ytmemomfffehnkaa
open Go Go.RowKit
set_option maxRecDepth 1000000
set_option linter.unusedSimpArgs false
set_option linter.unusedVariables false
set_option maxHeartbeats 1000000
/-- How many places lead to a place. -/
noncomputable def hgt (E : Nat → Nat → Prop) (m i : Nat) : Nat := (sumN m fun j => bI (warsh E m j i)).toNat
theorem hgt_lt {E : Nat → Nat → Prop} {m : Nat} (ha : ∀ i, i < m → ¬ warsh E m i i) {j i : Nat} (hj : j < m) (he : E j i) : hgt E m j < hgt E m i := by
  have h0 : 0 ≤ sumN m fun k => bI (warsh E m k j) := sumN_nn fun k _ => (bI_nn _).1
  have h1 : (sumN m fun k => bI (warsh E m k j)) < sumN m fun k => bI (warsh E m k i) := by
    refine sumN_lt (i := j) (fun k _ => bI_le fun h => warsh_trans m hj h (warsh_of m he)) hj ?_
    rw [bI_no (ha j hj), bI_yes (warsh_of m he)]
    omega
  unfold hgt
  omega
theorem sgnM_mod {p : Int} {R C : List Int} {i j : Nat} (hi : i < R.length) (hj : j < C.length) : at0 (atR (modM p (sgnM R C)) i) j = sgnZ (at0 R i) (at0 C j) % p := by
  have h1 : i < (sgnM R C).length := by rw [sgnM_len]; exact hi
  rw [modM_at h1, rowF_at (by rw [sgnM_at hi]; simpa using hj), sgnM_at hi]
  congr 1
  simp [at0, hj]
theorem okM_sgn {p : Int} (hp : fpP p) (R C : List Int) : okM p C.length (modM p (sgnM R C)) := okM_mod hp fun i hi => by
  rw [sgnM_len] at hi
  rw [sgnM_at hi]
  simp
/-- The number of pairs whose upper face has a size. -/
noncomputable def hiN (list : List (Int × Int)) (z : Int) : Int := sumN list.length fun k => bI (sz (pr0 list k).2 = z)
theorem hiN_idx (list : List (Int × Int)) (z : Int) : hiN list z = (((List.range list.length).filter fun k => dec (sz (pr0 list k).2 = z)).length : Nat) := by
  rw [sumN_filter]
  exact sumN_congr fun k _ => bI_congr dec_iff.symm
theorem rkZ_W {p : Int} {q : Int → Prop} {k : Int} (h : 0 < (szS q (k - 1)).length) : rkZ p q k = (rkW p (szS q k).length (modM p (sgnM (szS q (k - 1)) (szS q k))) : Nat) := by
  unfold rkZ rnk rkW
  rw [sgnM_at h]
  simp
theorem unit_mod {p : Int} {a x : Int} (ha : a = 1 ∨ a = -1) (h : p ∣ a % p * x) : p ∣ x := by
  have h1 : p ∣ a % p * x - a * x := by
    rw [← Int.sub_mul]
    exact Int.dvd_mul_of_dvd_left (mod_sub a p)
  have h2 := (dvd_cong h1).1 h
  rcases ha with rfl | rfl
  · rwa [Int.one_mul] at h2
  · rw [Int.neg_one_mul] at h2
    exact Int.dvd_neg.1 h2
theorem sgnZ_unit {r s : Int} (h : subS r s) : sgnZ r s = 1 ∨ sgnZ r s = -1 := by
  rw [sgnZ_yes h]
  have := Int.emod_two_eq (sz (band s (bnot s r - 1)))
  omega
/-- The rank of a border is not less than the number of pairs that go there. -/
theorem rank_pairs {p n : Int} {l : List Int} {list : List (Int × Int)} (hp : fpP p) (h : acycP n l list) (z : Int) : hiN list z ≤ rkZ p (faceS l) z := by
  obtain ⟨hP, hA⟩ := h
  rw [hiN_idx]
  obtain ⟨idx, hidx⟩ : ∃ idx, ((List.range list.length).filter fun k => dec (sz (pr0 list k).2 = z)) = idx := ⟨_, rfl⟩
  rw [hidx]
  have hnd : idx.Nodup := by rw [← hidx]; exact List.nodup_range.filter _
  have hmem : ∀ k, k ∈ idx → k < list.length ∧ sz (pr0 list k).2 = z := fun k hk => by
    rw [← hidx, List.mem_filter, List.mem_range, dec_iff] at hk
    exact hk
  by_cases h0 : idx.length = 0
  · rw [h0]
    exact (rkZ_bnd hp _ _).1
  have hat : ∀ t, t < idx.length → idx[t]?.getD 0 ∈ idx := fun t ht => by
    rw [List.getElem?_eq_getElem ht]
    exact List.getElem_mem ht
  have hlo : ∀ t, ∃ i, t < idx.length → i < (szS (faceS l) (z - 1)).length ∧ at0 (szS (faceS l) (z - 1)) i = (pr0 list (idx[t]?.getD 0)).1 := fun t => by
    by_cases ht : t < idx.length
    · obtain ⟨h1, h2⟩ := hmem _ (hat t ht)
      have g := (hP.2 _ h1).1
      have : (pr0 list (idx[t]?.getD 0)).1 ∈ szS (faceS l) (z - 1) := mem_szS.2 ⟨g.1, g.2.2.1, by have := g.2.2.2.2.2; omega⟩
      obtain ⟨i, a, b⟩ := getD_mem_iff.1 this
      exact ⟨i, fun _ => ⟨a, b⟩⟩
    · exact ⟨0, fun hh => absurd hh ht⟩
  have hhi : ∀ t, ∃ i, t < idx.length → i < (szS (faceS l) z).length ∧ at0 (szS (faceS l) z) i = (pr0 list (idx[t]?.getD 0)).2 := fun t => by
    by_cases ht : t < idx.length
    · obtain ⟨h1, h2⟩ := hmem _ (hat t ht)
      have g := (hP.2 _ h1).1
      have : (pr0 list (idx[t]?.getD 0)).2 ∈ szS (faceS l) z := mem_szS.2 ⟨g.2.1, g.2.2.2.1, h2⟩
      obtain ⟨i, a, b⟩ := getD_mem_iff.1 this
      exact ⟨i, fun _ => ⟨a, b⟩⟩
    · exact ⟨0, fun hh => absurd hh ht⟩
  have hI := fun t => Classical.choose_spec (hlo t)
  have hJ := fun t => Classical.choose_spec (hhi t)
  have hpos : 0 < (szS (faceS l) (z - 1)).length := by have := (hI 0 (by omega)).1; omega
  rw [rkZ_W hpos]
  refine Int.ofNat_le.2 (rank_lowH (m := idx.length) hp (okM_sgn hp _ _) (fun t => Classical.choose (hlo t)) (fun t => Classical.choose (hhi t)) (fun t => hgt (edgeP list) list.length (idx[t]?.getD 0)) (fun t ht => by rw [modM_len, sgnM_len]; exact (hI t ht).1) (fun t ht => (hJ t ht).1) (fun t ht x hx => ?_) (fun s t hs ht hne hnd2 => ?_))
  · rw [sgnM_mod (hI t ht).1 (hJ t ht).1, (hI t ht).2, (hJ t ht).2] at hx
    exact unit_mod (sgnZ_unit (hP.2 _ (hmem _ (hat t ht)).1).1.2.2.2.2.1) hx
  · rw [sgnM_mod (hI s hs).1 (hJ t ht).1, (hI s hs).2, (hJ t ht).2] at hnd2
    obtain ⟨s1, s2⟩ := hmem _ (hat s hs)
    obtain ⟨t1, t2⟩ := hmem _ (hat t ht)
    have hsub : subS (pr0 list (idx[s]?.getD 0)).1 (pr0 list (idx[t]?.getD 0)).2 := Classical.byContradiction fun hn => hnd2 (by rw [sgnZ_no hn, Int.zero_emod]; exact Int.dvd_zero p)
    have hne2 : idx[t]?.getD 0 ≠ idx[s]?.getD 0 := fun e => by
      rw [List.getElem?_eq_getElem hs, List.getElem?_eq_getElem ht] at e
      exact hne ((List.getElem_inj hnd).1 e.symm)
    refine hgt_lt hA t1 ⟨t1, s1, hne2, hsub, ?_⟩
    have g := (hP.2 _ s1).1.2.2.2.2.2
    omega
theorem loN_hiN {n : Int} {l : List Int} {list : List (Int × Int)} (h : pairP n l list) (z : Int) : (sumN list.length fun k => bI (sz (pr0 list k).1 = z)) = hiN list (z + 1) := sumN_congr fun k hk => bI_congr (by
  have g := (h.2 k hk).1.2.2.2.2.2
  omega)
theorem sumL_cnt (l : List Int) (z : Nat) : sumL l (fun s => bI (sz s = (z : Int))) = cntZ l z := (cntZ_sum l z).symm
theorem szS_faces {n : Int} {l : List Int} (hc : cplx n l) (z : Nat) : ((szS (faceS l) z).length : Int) = cntZ (facesL n l) z := by
  rw [facesL_of hc]
  unfold cntZ szS
  rw [filt_setsOf]
/-- There are not more holes than faces without a pair. -/
theorem hole_le {p n : Int} {l : List Int} {list : List (Int × Int)} (hp : fpP p) (h : acycP n l list) (k : Nat) : holV p (faceS l) k ≤ cntZ (unpL n l list) k := by
  have h1 := pair_sum h.1 fun s => bI (sz s = (k : Int))
  rw [sumL_cnt, sumL_cnt, sumN_add, loN_hiN h.1] at h1
  have h2 := rank_pairs hp h (k : Int)
  have h3 := rank_pairs hp h ((k : Int) + 1)
  have h4 : (sumN list.length fun j => bI (sz (pr0 list j).2 = (k : Int))) = hiN list k := rfl
  rw [h4] at h1
  have h5 := szS_faces h.1.1 k
  unfold holV
  omega
end Go.Proofs.Ytmemomfffehnkaa
