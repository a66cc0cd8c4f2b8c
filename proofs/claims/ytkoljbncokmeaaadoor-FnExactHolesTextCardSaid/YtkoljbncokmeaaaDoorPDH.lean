import Derived.Test.YtkoljbncokmeaaaDoorPDD
import Derived.Test.YtkoljbncokmeaaaDoorPDG
import Derived.Test.YtkoljbncokmeaaaDoorPDC
namespace Go.Proofs.YtkoljbncokmeaaaDoor
open Go Go.RowKit
set_option maxRecDepth 1000000
set_option linter.unusedSimpArgs false
set_option linter.unusedVariables false
set_option maxHeartbeats 1000000
theorem swI_inv (k i a : Nat) : swI k i (swI k i a) = a := by
  unfold swI
  by_cases e1 : a = k
  · rw [if_pos e1]
    by_cases e2 : i = k
    · rw [if_pos e2, e2, e1]
    · rw [if_neg e2, if_pos rfl, e1]
  · rw [if_neg e1]
    by_cases e2 : a = i
    · rw [if_pos e2, if_pos rfl, e2]
    · rw [if_neg e2, if_neg e1, if_neg e2]
theorem dv_sw {top t : Int} {n w K k i j : Nat} {f : Nat → Nat → Int} (hk : k < n) (hw : k < w) (hi : i < n) (hj : j < w) (h : dv top n w K t f) : dv top n w K t (swF k i j f) := fun Z R C hR hC hr hc => by
  have e : (fun a b => swF k i j f a b + top * Z a b) = fun a b => (fun x y => f x y + top * Z (swI k i x) (swI k j y)) (swI k i a) (swI k j b) := by
    funext a b
    show swF k i j f a b + top * Z a b = f (swI k i a) (swI k j b) + top * Z (swI k i (swI k i a)) (swI k j (swI k j b))
    rw [swI_inv, swI_inv]
    rfl
  rw [e, dtL_map (f := fun x y => f x y + top * Z (swI k i x) (swI k j y)) _ _ (by omega)]
  refine h _ _ _ (by simpa using hR) (by simpa using hC) (fun r hm => ?_) (fun c hm => ?_)
  · obtain ⟨a, ha, e⟩ := List.mem_map.1 hm
    exact e ▸ swI_lt hk hi (hr a ha)
  · obtain ⟨a, ha, e⟩ := List.mem_map.1 hm
    exact e ▸ swI_lt hw hj (hc a ha)
theorem swF_inv (k i j : Nat) (f : Nat → Nat → Int) : swF k i j (swF k i j f) = f := by
  funext a b
  unfold swF
  rw [swI_inv, swI_inv]
theorem dv_sw_iff {top t : Int} {n w K k i j : Nat} {f : Nat → Nat → Int} (hk : k < n) (hw : k < w) (hi : i < n) (hj : j < w) : dv top n w K t f ↔ dv top n w K t (swF k i j f) :=
  ⟨dv_sw hk hw hi hj, fun h => by have := dv_sw hk hw hi hj h; rwa [swF_inv] at this⟩
/-- A product over a list. -/
def prL (e : Nat → Int) : List Nat → Int
  | [] => 1
  | a :: l => e a * prL e l
theorem prL_perm {e : Nat → Int} {l m : List Nat} (h : l.Perm m) : prL e l = prL e m := by
  induction h with
  | nil => rfl
  | cons x _ ih => simp only [prL, ih]
  | swap x y l => simp only [prL]; rw [Int.mul_left_comm]
  | trans _ _ h1 h2 => rw [h1, h2]
theorem prL_congr {e g : Nat → Int} : ∀ {l : List Nat}, (∀ a ∈ l, e a = g a) → prL e l = prL g l
  | [], _ => rfl
  | a :: l, h => by
    simp only [prL]
    rw [h a List.mem_cons_self, prL_congr fun x hx => h x (List.mem_cons_of_mem _ hx)]
theorem prS_shift (e : Nat → Int) : ∀ n, prS e (n + 1) = e 0 * prS (fun a => e (a + 1)) n := fun n => by
  have h := prS_skip e n 0 (by omega)
  rw [h]
  congr 1
theorem prS_list (e : Nat → Int) : ∀ l : List Nat, prS (fun i => e (l.getD i 0)) l.length = prL e l
  | [] => rfl
  | a :: l => by
    have ih := prS_list e l
    rw [List.length_cons, prS_shift]
    simp only [prL]
    rw [← ih]
    rfl
theorem prL_range (e : Nat → Int) : ∀ n, prL e (List.range n) = prS e n := fun n => by
  rw [← prS_list, List.length_range]
  exact prS_congr n fun i hi => by simp [List.getD_eq_getElem?_getD, hi]
/-- Rows that are multiples. -/
theorem dt_rowdvd {n : Nat} {M : Nat → Nat → Int} {e : Nat → Int} (h : ∀ a b, a < n → b < n → e a ∣ M a b) : prS e n ∣ dtM n M := by
  have h1 := dt_scale (fun _ => 0) n (fun _ => 1) e fun a b => M a b / e a
  have h2 : dtM n (fun a b => e a * 1 * (M a b / e a)) = dtM n M := dtM_congr n fun a b ha hb => by
    rw [Int.mul_one]
    exact Int.mul_ediv_cancel' (h a b ha hb)
  rw [← h2, h1, Int.mul_assoc]
  exact Int.dvd_mul_right _ _
theorem dtL_rowdvd {R C : List Nat} {f : Nat → Nat → Int} {e : Nat → Int} (hl : R.length ≤ C.length) (h : ∀ a ∈ R, ∀ b ∈ C, e a ∣ f a b) : prL e R ∣ dtL f R C := by
  rw [← prS_list]
  exact dt_rowdvd fun a b ha hb => h _ (gD_mem ha) _ (gD_mem (by omega))
/-- Diagonals. -/
theorem dt_diag (d : Nat → Int) : ∀ n, dtM n (fun a b => if a = b then d a else 0) = prS d n
  | 0 => rfl
  | n + 1 => by
    rw [dtM_succ, smS_one (s := 0) (n + 1) (by omega) fun i _ hi => by rw [if_neg hi, Int.zero_mul, Int.mul_zero]]
    rw [if_pos rfl, prS_shift]
    have : dtM n (fun a b => if skI 0 a = b + 1 then d (skI 0 a) else 0) = dtM n (fun a b => if a = b then (fun a => d (a + 1)) a else 0) := dtM_congr n fun a b _ _ => by
      rw [skI_ge (by omega)]
      by_cases e : a = b
      · rw [if_pos (by omega), if_pos e]
      · rw [if_neg (by omega), if_neg e]
    rw [this, dt_diag]
    show 1 * _ = _
    rw [Int.one_mul]
theorem nodup_gD {l : List Nat} (h : l.Nodup) {a b : Nat} (ha : a < l.length) (hb : b < l.length) (e : l.getD a 0 = l.getD b 0) : a = b := by
  have e1 : l.getD a 0 = l[a] := by simp [List.getD_eq_getElem?_getD, ha]
  have e2 : l.getD b 0 = l[b] := by simp [List.getD_eq_getElem?_getD, hb]
  rw [e1, e2] at e
  rw [List.nodup_iff_pairwise_ne, List.pairwise_iff_getElem] at h
  rcases Nat.lt_trichotomy a b with h1 | h1 | h1
  · exact absurd e (h a b ha hb h1)
  · exact h1
  · exact absurd e.symm (h b a hb ha h1)
theorem dtL_diag {f : Nat → Nat → Int} {d : Nat → Int} {S : List Nat} (hS : S.Nodup) (h : ∀ a ∈ S, ∀ b ∈ S, f a b = if a = b then d a else 0) : dtL f S S = prL d S := by
  unfold dtL
  rw [← prS_list, ← dt_diag (fun i => d (S.getD i 0))]
  refine dtM_congr _ fun a b ha hb => ?_
  rw [h _ (gD_mem ha) _ (gD_mem hb)]
  by_cases e : a = b
  · rw [if_pos (by rw [e]), if_pos e]
  · rw [if_neg fun h => e (nodup_gD hS ha hb h), if_neg e]
/-- Equal rows in a list. -/
theorem dtL_dup {f : Nat → Nat → Int} {R C : List Nat} (h : ¬ R.Nodup) : dtL f R C = 0 := by
  have : ∃ a b, a < b ∧ b < R.length ∧ R.getD a 0 = R.getD b 0 := by
    refine Classical.byContradiction fun hn => h ?_
    rw [List.nodup_iff_pairwise_ne, List.pairwise_iff_getElem]
    intro i j hi hj hij e
    refine hn ⟨i, j, hij, hj, ?_⟩
    simp [List.getD_eq_getElem?_getD, hi, hj, e]
  obtain ⟨a, b, hab, hb, e⟩ := this
  unfold dtL
  exact dt_eq2 (p := a) (q := b) (by omega) hb (by omega) fun c => by rw [e]
theorem nodup_small : ∀ (K : Nat) (R : List Nat), R.Nodup → (∀ r ∈ R, r < K) → R.length ≤ K
  | 0, R, _, h => by
    cases R with
    | nil => simp
    | cons a R => have := h a List.mem_cons_self; omega
  | K + 1, R, hR, h => by
    by_cases hm : K ∈ R
    · have := nodup_small K (R.erase K) (hR.erase _) fun r hr => by
        have h1 := h r (List.mem_of_mem_erase hr)
        have h2 : r ≠ K := fun e => by subst e; exact (hR.not_mem_erase) hr
        omega
      have h3 := List.length_erase_of_mem hm
      omega
    · have := nodup_small K R hR fun r hr => by
        have h1 := h r hr
        have h2 : r ≠ K := fun e => hm (e ▸ hr)
        omega
      omega
theorem nodup_big {R : List Nat} {K : Nat} (hR : R.Nodup) (hl : K < R.length) : ∃ m ∈ R, K ≤ m := by
  refine Classical.byContradiction fun hn => ?_
  have h1 : ∀ r ∈ R, r < K := fun r hr => Nat.lt_of_not_le fun hk => hn ⟨r, hr, hk⟩
  have := nodup_small K R hR h1
  omega
/-- The first numbers of a chain of divisors have the least product. -/
theorem chain_prod {e : Nat → Int} (he : ∀ i j, i ≤ j → e i ∣ e j) : ∀ (K : Nat) (R : List Nat), R.Nodup → R.length = K → prS e K ∣ prL e R
  | 0, R, _, hl => by
    rw [List.length_eq_zero_iff.1 hl]
    exact Int.dvd_refl _
  | K + 1, R, hR, hl => by
    obtain ⟨m, hm, hK⟩ := nodup_big hR (K := K) (by omega)
    have hp := List.perm_cons_erase hm
    rw [prL_perm hp]
    have ih := chain_prod he K (R.erase m) (hR.erase _) (by have := List.length_erase_of_mem hm; omega)
    show prS e K * e K ∣ e m * prL e (R.erase m)
    rw [Int.mul_comm]
    exact Int.mul_dvd_mul (he K m hK) ih
/-- All products of K of the numbers. -/
def pD (t : Int) (K : Nat) (e : Nat → Int) : Prop := ∀ R : List Nat, R.Nodup → R.length = K → t ∣ prL e R
theorem pD_range {t : Int} {K : Nat} {e : Nat → Int} (h : pD t K e) : t ∣ prS e K := by
  have := h (List.range K) List.nodup_range List.length_range
  rwa [prL_range] at this
theorem pD_step {t : Int} {K i j : Nat} {e g : Nat → Int} (hij : i ≠ j) (hg : ∀ q, q ≠ i → q ≠ j → g q = e q) (h1 : g i ∣ e i) (h2 : g i ∣ e j) (h3 : e i ∣ g j) (h4 : e j ∣ g j) (h5 : g i * g j = e i * e j) (h6 : ∀ X, t ∣ e i * X → t ∣ e j * X → t ∣ g i * X) : pD t K e ↔ pD t K g := by
  have both : ∀ R : List Nat, R.Nodup → i ∈ R → j ∈ R → prL e R = prL g R := fun R hR hi hj => by
    have hj2 : j ∈ R.erase i := (List.mem_erase_of_ne (Ne.symm hij)).2 hj
    have p1 := List.perm_cons_erase hi
    have p2 := List.perm_cons_erase hj2
    rw [prL_perm p1, prL_perm (e := g) p1]
    simp only [prL]
    rw [prL_perm p2, prL_perm (e := g) p2]
    simp only [prL]
    rw [← Int.mul_assoc, ← Int.mul_assoc, h5]
    congr 1
    refine prL_congr fun a ha => (hg a ?_ ?_).symm
    · have := List.mem_of_mem_erase ha
      intro e; subst e
      exact (hR.not_mem_erase) this
    · intro e; subst e
      exact ((hR.erase i).not_mem_erase) ha
  have one : ∀ (R : List Nat) (x y : Nat), R.Nodup → x ∈ R → y ∉ R → (x = i ∧ y = j ∨ x = j ∧ y = i) → prL e R = e x * prL e (R.erase x) ∧ prL g R = g x * prL e (R.erase x) ∧ (y :: R.erase x).Nodup ∧ (y :: R.erase x).length = R.length ∧ prL e (y :: R.erase x) = e y * prL e (R.erase x) ∧ prL g (y :: R.erase x) = g y * prL e (R.erase x) := fun R x y hR hx hy hxy => by
    have p1 := List.perm_cons_erase hx
    have hc : prL g (R.erase x) = prL e (R.erase x) := prL_congr fun a ha => by
      have n1 : a ≠ x := fun e => by subst e; exact (hR.not_mem_erase) ha
      have n2 : a ≠ y := fun e => by subst e; exact hy (List.mem_of_mem_erase ha)
      rcases hxy with ⟨rfl, rfl⟩ | ⟨rfl, rfl⟩
      · exact hg a n1 n2
      · exact hg a n2 n1
    refine ⟨by rw [prL_perm p1]; rfl, by rw [prL_perm p1]; show g x * _ = _; rw [hc], List.nodup_cons.2 ⟨fun hm => hy (List.mem_of_mem_erase hm), hR.erase _⟩, ?_, rfl, by show g y * _ = _; rw [hc]⟩
    rw [List.length_cons, List.length_erase_of_mem hx]
    have := List.length_pos_of_mem hx
    omega
  have none : ∀ R : List Nat, i ∉ R → j ∉ R → prL e R = prL g R := fun R hi hj => prL_congr fun a ha => (hg a (fun e => hi (e ▸ ha)) fun e => hj (e ▸ ha)).symm
  constructor
  · intro h R hR hl
    by_cases hi : i ∈ R <;> by_cases hj : j ∈ R
    · rw [← both R hR hi hj]; exact h R hR hl
    · obtain ⟨a1, a2, a3, a4, a5, a6⟩ := one R i j hR hi hj (.inl ⟨rfl, rfl⟩)
      rw [a2]
      refine h6 _ ?_ ?_
      · rw [← a1]; exact h R hR hl
      · rw [← a5]; exact h _ a3 (by omega)
    · obtain ⟨a1, a2, a3, a4, a5, a6⟩ := one R j i hR hj hi (.inr ⟨rfl, rfl⟩)
      rw [a2]
      have := h R hR hl
      rw [a1] at this
      exact Int.dvd_trans this (Int.mul_dvd_mul h4 (Int.dvd_refl _))
    · rw [← none R hi hj]; exact h R hR hl
  · intro h R hR hl
    by_cases hi : i ∈ R <;> by_cases hj : j ∈ R
    · rw [both R hR hi hj]; exact h R hR hl
    · obtain ⟨a1, a2, a3, a4, a5, a6⟩ := one R i j hR hi hj (.inl ⟨rfl, rfl⟩)
      rw [a1]
      have := h R hR hl
      rw [a2] at this
      exact Int.dvd_trans this (Int.mul_dvd_mul h1 (Int.dvd_refl _))
    · obtain ⟨a1, a2, a3, a4, a5, a6⟩ := one R j i hR hj hi (.inr ⟨rfl, rfl⟩)
      rw [a1]
      have := h _ a3 (by omega)
      rw [a6] at this
      exact Int.dvd_trans this (Int.mul_dvd_mul h2 (Int.dvd_refl _))
    · rw [none R hi hj]; exact h R hR hl
/-- A number that divides both multiples divides the multiple of the greatest common divisor. -/
theorem gcd_mul_dvd {t a b X : Int} (h1 : t ∣ a * X) (h2 : t ∣ b * X) : t ∣ ((Int.gcd a b : Nat) : Int) * X := by
  have h3 : t ∣ ((Int.gcd (X * a) (X * b) : Nat) : Int) := Int.dvd_coe_gcd (by rw [Int.mul_comm]; exact h1) (by rw [Int.mul_comm]; exact h2)
  rw [Int.gcd_mul_left, Int.natCast_mul] at h3
  rw [Int.mul_comm]
  rcases Int.natAbs_eq X with h | h
  · rw [h]; exact h3
  · rw [h, Int.neg_mul]
    exact (Int.dvd_neg).2 h3
end Go.Proofs.YtkoljbncokmeaaaDoor
namespace Go.Proofs.YtkoljbncokmeaaaDoor
open Go Go.RowKit
/-- The same; at the start rows may be unfolded, too. -/
theorem fn_lend3 {P : Program} {f : FuncId} {nt : Nat} {sc : SC} {rvs : List (Nat × Option Nat)} {lends : List FuncId} (hc : fnCode P lends f = some (nt, sc, rvs)) (hm : P.follows .mixedOrders = true) {Γ : Env} (hΓ : EnvOk P Γ) {i : Nat} {G : List V → List V → Option (V × List V)}
    (h : ∀ args cells r cells', G args cells = some (r, cells') → (∀ a ∈ args, bndN a) → args.length ≤ nt ∧ ∀ w0 U0 L0 N0, CutI 1 (vc ⟨P, w0, U0, L0, N0, 1, nt⟩ Γ lends sc (foldE 1 (retE 1 rvs r fun H => hget H 0 = some cells' ∧ cells'.all (nonm 6) = true))) (initT 0 args) ([(0, cells)], 1)) : LendOk P f i G := by
  obtain ⟨fd, c, hf, hb, hname, hnt, h1, h2⟩ := fnCode_inv hc
  refine ⟨⟨fd, hf, by simp [hb], hname⟩, ?_⟩
  intro args cells r cells' hG l U w cargs T hU hT hargs hrow
  have hbnd : ∀ a ∈ args, bndN a := by
    intro x hx
    obtain ⟨j, hj⟩ := List.getElem?_of_mem hx
    obtain ⟨c', g1, g2⟩ := hargs.get0 hj
    exact bndN_ok g2
  obtain ⟨hlen, hvc⟩ := h args cells r cells' hG hbnd
  obtain ⟨⟨l1, s1, hsub1, hv⟩⟩ := hvc w U T (fun n => if n = 0 then some l else none)
  have hw := vc_ok (C := ⟨P, w, U, T, fun n => if n = 0 then some l else none, 1, nt⟩) hΓ hm lends c sc _ _ _ h1 hv
  refine calls_of_wp hf hb ?_
  rw [hnt]
  have hcl := hargs.len
  have hTl := RH.lt hrow
  have hk0 : Kept (fun n => if n = 0 then some l else none) (fun n => if n = 0 then some l else none) U (Un w U w T) w w := ⟨fun b hb => ⟨rfl, (hU b hb).1, (hU b hb).2, .inl hb⟩, fun _ _ h => h, fun _ _ _ _ => SameAt.shape rfl⟩
  have hst : Ctx.St ⟨P, w, U, T, fun n => if n = 0 then some l else none, 1, nt⟩ (initT 0 args) ([(0, cells)], 1) { tmps := cargs.toArray ++ Array.replicate (nt - cargs.toArray.size) Go.undef, defers := [] } w := by
    refine ⟨fun n => if n = 0 then some l else none, T, ?_, rfl, ?_, hrow.kept hk0 (fun _ _ => rfl), hT, fun b hb => .inl hb, KeepBut.refl _ _, fun n hn => ?_, fun _ _ => rfl, Nat.le_refl _, hTl, fun h => absurd h (by show ¬ (1 = 0); omega)⟩
    · simp; omega
    · refine init_slots ?_ []
      exact hargs.kept hk0 (by simp)
    · have : n ≠ 0 := fun e => by subst e; exact absurd hn (by show ¬ (1 ≤ 0); omega)
      simp [this]
  refine wp_mono (hw _ w (hsub1 _ rfl _ _ hst)) ?_
  rintro e a' w' ⟨l9, s9, hq9, hs9⟩
  obtain ⟨⟨l', s', hsub9, hq⟩⟩ := hq9
  obtain ⟨N, T2, hr⟩ := hsub9 _ rfl _ _ hs9
  have fin : (match resV l' s' rvs with
      | some vs => mt 1 s'.1 (resOf vs) r fun H => hget H 0 = some cells' ∧ cells'.all (nonm 6) = true
      | none => False) → a'.defers = [] ∧ ∃ v, (results fd a'.tmps).run P w' = .ok v w' ∧ ∃ c F T', Ending.returned v = .returned c ∧ (F ++ T').Nodup ∧ (∀ b ∈ F ++ T', b ∈ T ∨ (w.heap.size ≤ b ∧ b < w'.heap.size)) ∧
      RV (fun n => if n = 0 then some l else none) (fun b => U b ∨ (w.heap.size ≤ b ∧ b < w'.heap.size ∧ b ∉ F ++ T')) w' r c F ∧
      RH (fun n => if n = 0 then some l else none) (fun b => U b ∨ (w.heap.size ≤ b ∧ b < w'.heap.size ∧ b ∉ F ++ T')) w' [(0, cells')] T' ∧ KeepBut T w w' := by
    intro hq
    split at hq
    · rename_i vs hvs
      obtain ⟨cs, e1, e2⟩ := resV_ok (P := P) hr.sl hr.hp _ _ _ h2 hvs
      obtain ⟨Fp, T', H', m1, m3, ⟨D, m2⟩, hg, hnm⟩ := mt_ok s'.1 T2 _ _ _ _ hq (resOf_ok e2) hr.hp
      obtain ⟨X, T1, d1, _, d3⟩ := m3.del hg
      have hN : N 0 = some l := by
        have := hr.nl 0 (by show 0 < 1; omega)
        simpa using this
      have hfun : (fun n => if n < 1 then N n else none) = fun n => if n = 0 then some l else none := by
        funext n
        by_cases e : n = 0
        · subst e; simp [hN]
        · have : ¬ n < 1 := by omega
          simp [e, this]
      rw [hfun] at m1
      have hX : ∀ x ∈ X, x ∈ T' := fun x hx => d3.mem_iff.2 (by simp [hx])
      have hsub : ∀ x ∈ Fp ++ X, x ∈ T2 := fun x hx => m2.mem_iff.1 (by
        rcases List.mem_append.1 hx with h | h
        · simp [h]
        · simp [hX x h])
      have hTlt := RH.lt hr.hp
      have hkk : Kept (fun n => if n = 0 then some l else none) (fun n => if n = 0 then some l else none) (Un w U w' T2) (fun b => U b ∨ (w.heap.size ≤ b ∧ b < w'.heap.size ∧ b ∉ Fp ++ X)) w' w' := ⟨fun b hbU => ⟨rfl, by
        obtain ⟨u1, u2, u3⟩ := hbU
        rcases u3 with u3 | u3
        · exact .inl u3
        · exact .inr ⟨u3, u1, fun hx => u2 (hsub b hx)⟩⟩, fun _ _ h => h, fun _ _ _ _ => SameAt.shape rfl⟩
      have hnd : (Fp ++ X).Nodup := by
        have p1 := m2.nodup_iff.2 hr.nd
        have p2 : (Fp ++ T').Nodup := (List.nodup_append.1 p1).1
        have p3 : (Fp ++ (X ++ T1)).Nodup := ((List.Perm.append_left Fp d3).nodup_iff).1 p2
        rw [← List.append_assoc] at p3
        exact (List.nodup_append.1 p3).1
      refine ⟨hr.dfr, _, results_run e1, _, Fp, X, rfl, hnd, fun b hb => ?_, m1.kept hkk (fun _ _ => rfl), ?_, hr.fr⟩
      · rcases hr.own b (hsub b hb) with h | h
        · exact .inl h
        · exact .inr ⟨h, hTlt b (hsub b hb)⟩
      · rcases d1 with ⟨q1, rfl, rfl⟩ | ⟨b, base, arr, e, cs, F, q1, q2, q3, q4, rfl⟩ | ⟨b, es, clk, D, q1, q2, rfl, q4, rfl⟩
        rotate_right
        · rw [hN] at q1
          simp only [Option.some.injEq] at q1
          exact .consM 0 D b es clk [] [] _ (by simp [q1]) q2 q4 .nil rfl
        · rw [hN] at q1
          simp only [Option.some.injEq] at q1
          exact .consE 0 [] [] (by simp [q1]) .nil
        · rw [hN] at q1
          simp only [Option.some.injEq] at q1
          exact .cons 0 cells' b base arr e cs F [] [] _ (by simp [q1]) q2 q3 (q4.mapN fun v c G' hm hr' => (nonm_ok (fun b hb => (hkk.u b hb).2) 6 v c G' (List.all_eq_true.1 hnm v hm) hr')) .nil (by simp)
    · exact hq.elim
  cases e with
  | normal => exact fin hq
  | ret => exact fin hq
  | _ => exact hq.elim
end Go.Proofs.YtkoljbncokmeaaaDoor
namespace Go.Proofs.YtkoljbncokmeaaaDoor
open Go Go.RowKit
set_option maxRecDepth 1000000
set_option linter.unusedSimpArgs false
set_option linter.unusedVariables false
set_option maxHeartbeats 1000000
def sc_i_swapTo_L0 : SC := (.seq (.reg [⟨(some 27), none, (.bin false .lss (.t 26) (.t 25))⟩]) (.seq (.cond (.t 27) .skip (.exit 0)) (.seq (.block 1 (.cut (.reg [⟨(some 28), none, (.idx 1 (.t 24) (.t 26))⟩, ⟨(some 29), none, (.ld none .nil (.t 28))⟩, ⟨(some 9), none, (.mov (.t 29))⟩]) (.dreg [⟨⟨(some 30), none, (.mov (.t 9))⟩, false, false⟩, ⟨⟨(some 31), none, (.mov (.t 1))⟩, false, false⟩, ⟨⟨(some 32), none, (.mov (.t 9))⟩, false, true⟩, ⟨⟨(some 33), none, (.mov (.t 3))⟩, false, true⟩, ⟨⟨(some 34), none, (.mov (.t 9))⟩, false, false⟩, ⟨⟨(some 35), none, (.mov (.t 3))⟩, false, false⟩, ⟨⟨(some 36), none, (.idx 1 (.t 34) (.t 35))⟩, false, false⟩, ⟨⟨(some 37), none, (.ld none (.int .i64 0) (.t 36))⟩, false, false⟩, ⟨⟨(some 38), none, (.mov (.t 9))⟩, false, false⟩, ⟨⟨(some 39), none, (.mov (.t 1))⟩, false, false⟩, ⟨⟨(some 40), none, (.idx 1 (.t 38) (.t 39))⟩, false, false⟩, ⟨⟨(some 41), none, (.ld none (.int .i64 0) (.t 40))⟩, false, false⟩, ⟨⟨(some 42), none, (.idx 1 (.t 30) (.t 31))⟩, false, false⟩, ⟨⟨none, none, (.st 1 (.t 42) (.t 37))⟩, true, false⟩, ⟨⟨(some 43), none, (.idx 1 (.t 32) (.t 33))⟩, false, false⟩, ⟨⟨none, none, (.st 1 (.t 43) (.t 41))⟩, true, false⟩]))) (.reg [⟨(some 44), none, (.bin false .add (.t 26) (.c (.int .i64 1)))⟩, ⟨(some 26), none, (.mov (.t 44))⟩]))))
def sc_i_swapTo : SC := (.seq (.dreg [⟨⟨(some 10), none, (.mov (.t 0))⟩, false, false⟩, ⟨⟨(some 11), none, (.mov (.t 1))⟩, false, false⟩, ⟨⟨(some 12), none, (.mov (.t 0))⟩, false, true⟩, ⟨⟨(some 13), none, (.mov (.t 2))⟩, false, true⟩, ⟨⟨(some 14), none, (.mov (.t 0))⟩, false, false⟩, ⟨⟨(some 15), none, (.mov (.t 2))⟩, false, false⟩, ⟨⟨(some 16), none, (.idx 1 (.t 14) (.t 15))⟩, false, false⟩, ⟨⟨(some 17), none, (.ld none .nil (.t 16))⟩, false, false⟩, ⟨⟨(some 18), none, (.mov (.t 0))⟩, false, false⟩, ⟨⟨(some 19), none, (.mov (.t 1))⟩, false, false⟩, ⟨⟨(some 20), none, (.idx 1 (.t 18) (.t 19))⟩, false, false⟩, ⟨⟨(some 21), none, (.ld none .nil (.t 20))⟩, false, false⟩, ⟨⟨(some 22), none, (.idx 1 (.t 10) (.t 11))⟩, false, false⟩, ⟨⟨none, none, (.st 1 (.t 22) (.t 17))⟩, true, false⟩, ⟨⟨(some 23), none, (.idx 1 (.t 12) (.t 13))⟩, false, false⟩, ⟨⟨none, none, (.st 1 (.t 23) (.t 21))⟩, true, false⟩]) (.seq (.reg [⟨(some 24), none, (.mov (.t 0))⟩, ⟨(some 25), none, (.len (.t 24))⟩, ⟨(some 26), none, (.mov (.c (.int .i64 0)))⟩]) (.block 0 (.loop sc_i_swapTo_L0))))
theorem code_i_swapTo : fnCode Tryd.prog [666666] 68 = some (45, sc_i_swapTo, []) := by kernel_rfl
noncomputable def G_i_swapTo : List V → List V → Option (V × List V)
  | [.sl 0 1 0 m, .int .i64 k, .int .i64 i, .int .i64 j], cells => (dRowsV cells).bind fun M => @ite _ (m = M.length ∧ dimM M ∧ 0 ≤ k ∧ k < M.length ∧ k < wdM M ∧ 0 ≤ i ∧ i < M.length ∧ 0 ≤ j ∧ j < wdM M) (Classical.propDecidable _) (some (.tup [], rowsV (swpR M k.toNat i.toNat j.toNat))) none
  | _, _ => none
theorem ln_i_swapTo : LendOk Tryd.prog 68 0 G_i_swapTo := by
  have env := envNil_ok (P := Tryd.prog)
  refine fn_lend3 code_i_swapTo mixed env ?_
  intro args cells r cells' hG hb
  unfold G_i_swapTo at hG
  split at hG
  case h_2 => simp at hG
  rename_i m k i j
  obtain ⟨M, h1, h2⟩ := Option.bind_eq_some_iff.1 hG
  have hc := dRowsV_inv h1
  subst hc
  simp only [Option.ite_none_right_eq_some, Option.some.injEq, Prod.mk.injEq] at h2
  obtain ⟨⟨rfl, ⟨hr, hn, hw⟩, hk0, hk1, hk2, hi0, hi1, hj0, hj1⟩, rfl, rfl⟩ := h2
  obtain ⟨k, rfl⟩ : ∃ n : Nat, k = n := ⟨k.toNat, by omega⟩
  obtain ⟨i, rfl⟩ : ∃ n : Nat, i = n := ⟨i.toNat, by omega⟩
  obtain ⟨j, rfl⟩ : ∃ n : Nat, j = n := ⟨j.toNat, by omega⟩
  simp only [Int.toNat_natCast]
  clear hG h1 hb
  unfold swpR
  have hself := matF_self hr
  generalize wdM M = w at *
  generalize hf : ent M = f at *
  generalize hnn : M.length = n at *
  rw [← hself]
  clear hself hr hf
  have hkn : k < n := by omega
  have hkw : k < w := by omega
  have hin : i < n := by omega
  have hjw : j < w := by omega
  refine ⟨by simp, fun w0 U0 L0 N0 => ?_⟩
  have loop : ∀ (g : Nat → Nat → Int) (Q : Post) (T0 : Tm) (H0 : Hp), SubI 1 T0 H0 [(1, .int .i64 (k : Int)), (3, .int .i64 (j : Int)), (24, .sl 0 1 0 n), (25, .int .i64 (n : Int)), (26, .int .i64 ((0 : Nat) : Int))] ([(0, rowsV (matF n w g))], 1) →
      Q (.exit 0) [] ([(0, rowsV (matF n w fun a b => g a (swI k j b)))], 1) →
      LoopI ⟨Tryd.prog, w0, U0, L0, N0, 1, 45⟩ [666666] sc_i_swapTo_L0 Q T0 H0 := by
    intro g Q T0 H0 hsub q1
    refine loopQ env mixed (fun t : Nat => [(1, .int .i64 (k : Int)), (3, .int .i64 (j : Int)), (24, .sl 0 1 0 n), (25, .int .i64 (n : Int)), (26, .int .i64 (t : Int))]) (fun t => ([(0, rowsV (matF n w (swC k j t g)))], 1)) (fun t => t ≤ n) (fun t => n - t) 0 (by simp) (by rw [swC_zero]; exact hsub) ?_
    intro t ht
    by_cases hlt : t < n
    · have hat := matF_at (w := w) (f := swC k j t g) hlt
      rw [swC_row] at hat
      have hl : (matF n w (swC k j t g)).length = n := matF_len _ _ _
      have hs := rowF_swap (g := g t) hkw hjw
      have hst := rowsV_matF_set (w := w) (f := swC k j t g) (fun b => g t (swI k j b)) hlt
      rw [swC_step] at hst
      have e1 := rowF_at (g := g t) hkw
      have e2 := rowF_at (g := g t) hjw
      have hrl : (rowF w (g t)).length = w := rowF_len _ _
      have hrl2 : (rowF w fun b => g t (swI k j b)).length = w := rowF_len _ _
      have hsr : ((rowF w (g t)).set j (g t k)).set k (g t j) = rowF w fun b => g t (swI k j b) := by
        rw [← hs]
        by_cases e : k = j
        · subst e; rfl
        · rw [List.set_comm _ _ (fun h => e h.symm)]
      generalize (rowF w fun b => g t (swI k j b)) = r2 at *
      generalize rowF w (g t) = r1 at *
      generalize matF n w (swC k j t g) = Mt at *
      simp -implicitDefEqProofs [sc_i_swapTo_L0, freeOk, hlt, hl, hat, hkw, hjw, hrl, e1, e2, hsr]
      repeat' (first | omega | apply And.intro)
      refine CutI.of (l' := [(1, .int .i64 (k : Int)), (3, .int .i64 (j : Int)), (9, .sl 1 1 0 w), (24, .sl 0 1 0 n), (25, .int .i64 (n : Int)), (26, .int .i64 (t : Int))]) (SubI.slots rfl (by simp)) ?_
      simp -implicitDefEqProofs [freeOk, hlt, hl, hat, hkw, hjw, hrl, e1, e2, hs, hsr]
      repeat' (first | omega | apply And.intro)
      refine Again.of (t + 1) (by omega) (by omega) ?_
      refine SubI.fold 0 1 t 1 w (cn := ints r2) (co := (rowsV Mt).set t (.sl 1 1 0 w)) (by simp) (by simp) (by simp [hl, hlt]) (by simp [hrl2]) ?_
      refine SubI.ren (fun m => if m = 0 then some 0 else none) ?_ ?_ ?_ (by simp) (by simp)
      · simp (disch := omega) [subT, renV, ren1, wrapI]
      · simp [subH, renL, ren1, List.set_set, hst]
      · intro m hm
        simp only at hm
        rw [if_neg (by omega)]
    · have : t = n := by omega
      subst this
      rw [← swC_full] at q1
      simp -implicitDefEqProofs [sc_i_swapTo_L0]
      exact SubQ.of (SubI.slots rfl (by simp)) q1
  have hres : matF n w (swF k i j f) = matF n w fun a b => (fun a b => f (swI k i a) b) a (swI k j b) := rfl
  rw [hres]
  have hsp := swp_matF (w := w) (f := f) hkn hin
  rw [show (fun a b => f (swI k i a) b) = fun a => f (swI k i a) from rfl]
  have hl : (matF n w f).length = n := matF_len _ _ _
  have hai := matF_at (w := w) (f := f) hin
  have hak := matF_at (w := w) (f := f) hkn
  have hli : (rowF w (f i)).length = w := rowF_len _ _
  have hlk : (rowF w (f k)).length = w := rowF_len _ _
  have hlo := loop fun a => f (swI k i a)
  have fin : ∀ (M' : List (List Int)), nonm 6 (.tup []) = true ∧ (rowsV M').all (nonm 6) = true := fun M' => ⟨rfl, by simp⟩
  by_cases hik : i = k
  · subst hik
    have hsm : matF n w (fun a => f (swI i i a)) = matF n w f := matF_congr fun a b _ _ => by rw [swI_same]
    rw [hsm] at hlo
    have hself := rowsV_self (M := matF n w f) (i := i) (by omega)
    rw [hai] at hself
    generalize rowF w (f i) = ri at *
    generalize matF n w f = M0 at *
    refine CutI.of (l' := [(0, .sl 0 1 0 n), (1, .int .i64 (i : Int)), (2, .int .i64 (i : Int)), (3, .int .i64 (j : Int))]) (s' := ([(1, ints ri), (0, (rowsV M0).set i (.sl 1 1 0 w))], 2)) ?_ ?_
    · refine SubI.unfold 0 i 1 (co := rowsV M0) (cn := ints ri) rfl (by rw [rowsV_get (by omega), hai]) (by omega) ?_
      exact SubI.slots (by simp [hli]) (by simp [initT])
    simp -implicitDefEqProofs [sc_i_swapTo, freeOk, hin, hl, hai, hli]
    repeat' (first | omega | apply And.intro)
    refine hlo _ _ _ ?_ ?_
    · refine SubI.fold 0 1 i 1 w (cn := ints ri) (co := (rowsV M0).set i (.sl 1 1 0 w)) (by simp) (by simp) (by simp [hl, hin]) (by simp [hli]) ?_
      refine SubI.ren (fun m => if m = 0 then some 0 else none) ?_ ?_ ?_ (by simp) (by simp)
      · simp [subT, renV, ren1]
      · simp [subH, renL, ren1, List.set_set, hself]
      · intro m hm
        simp only at hm
        rw [if_neg (by omega)]
    · refine CutI.of (l' := []) (SubI.slots rfl (by simp)) ?_
      simp -implicitDefEqProofs
  · have hki : ¬ k = i := fun e => hik e.symm
    have hcell := swp_fold (M := matF n w f) (d := k) (a := i) hki (.sl 1 1 0 w) (.sl 2 1 0 w)
    rw [hsp, hak, hai] at hcell
    generalize rowF w (f i) = ri at *
    generalize rowF w (f k) = rk at *
    generalize matF n w f = M0 at *
    refine CutI.of (l' := [(0, .sl 0 1 0 n), (1, .int .i64 (k : Int)), (2, .int .i64 (i : Int)), (3, .int .i64 (j : Int))]) (s' := ([(2, ints rk), (1, ints ri), (0, ((rowsV M0).set i (.sl 1 1 0 w)).set k (.sl 2 1 0 w))], 3)) ?_ ?_
    · refine SubI.unfold 0 i 1 (co := rowsV M0) (cn := ints ri) rfl (by rw [rowsV_get (by omega), hai]) (by omega) ?_
      refine SubI.unfold 0 k 1 (co := (rowsV M0).set i (.sl 1 1 0 w)) (cn := ints rk) (by simp [hli]) (by rw [List.getElem?_set_ne hik, rowsV_get (by omega), hak]) (by omega) ?_
      exact SubI.slots (by simp [hli, hlk]) (by simp [initT])
    simp -implicitDefEqProofs [sc_i_swapTo, freeOk, hin, hkn, hl, hai, hak, hli, hlk, hik, hki]
    repeat' (first | omega | apply And.intro)
    refine hlo _ _ _ ?_ ?_
    · refine SubI.fold 0 1 k 1 w (cn := ints ri) (co := ((((rowsV M0).set i (.sl 1 1 0 w)).set k (.sl 2 1 0 w)).set k (.sl 1 1 0 w)).set i (.sl 2 1 0 w)) (by simp) (by simp) (by simp [hl, hkn, hik, hki]) (by simp [hli]) ?_
      refine SubI.fold 0 2 i 1 w (cn := ints rk) (co := (((((rowsV M0).set i (.sl 1 1 0 w)).set k (.sl 2 1 0 w)).set k (.sl 1 1 0 w)).set i (.sl 2 1 0 w)).set k (.own 1 (ints ri))) (by simp) (by simp) (by simp [hl, hin, hik, hki]) (by simp [hlk]) ?_
      have hcell2 : ((((((rowsV M0).set i (.sl 1 1 0 w)).set k (.sl 2 1 0 w)).set k (.sl 1 1 0 w)).set i (.sl 2 1 0 w)).set k (.own 1 (ints ri))).set i (.own 1 (ints rk)) = rowsV (matF n w fun a => f (swI k i a)) := by
        rw [← hcell]
        apply List.ext_getElem (by simp)
        intro q h1 h2
        simp only [List.getElem_set]
        by_cases e1 : i = q
        · simp [e1]
        · by_cases e2 : k = q
          · simp [e1, e2]
          · simp [e1, e2]
      rw [hcell2]
      refine SubI.ren (fun m => if m = 0 then some 0 else none) ?_ ?_ ?_ (by simp) (by simp)
      · simp [subT, renV, ren1]
      · simp [subH, renL, ren1]
      · intro m hm
        simp only at hm
        rw [if_neg (by omega)]
    · refine CutI.of (l' := []) (SubI.slots rfl (by simp)) ?_
      simp -implicitDefEqProofs
end Go.Proofs.YtkoljbncokmeaaaDoor
namespace Go.Proofs.YtkoljbncokmeaaaDoor
open Go Go.RowKit
set_option maxRecDepth 1000000
set_option linter.unusedSimpArgs false
set_option linter.unusedVariables false
set_option maxHeartbeats 1000000
theorem tdivB {a b : Int} {B : Nat} (h : -(B : Int) ≤ a ∧ a ≤ B) : -(B : Int) ≤ a.tdiv b ∧ a.tdiv b ≤ B := by
  have h1 := Int.natAbs_tdiv_le_natAbs a b
  omega
theorem mulB2 {a b : Int} {A B : Nat} (h : -(A : Int) ≤ a ∧ a ≤ A) (h2 : -(B : Int) ≤ b ∧ b ≤ B) : -((A * B : Nat) : Int) ≤ a * b ∧ a * b ≤ ((A * B : Nat) : Int) := by
  have h1 : (a * b).natAbs ≤ A * B := by
    rw [Int.natAbs_mul]
    exact Nat.mul_le_mul (by omega) (by omega)
  omega
/-- Multiples of the corner's row are taken from the rows below; then of the corner's column from the columns behind. -/
def rwV (k : Nat) (f : Nat → Nat → Int) (a b : Nat) : Int := f a b - (f a k).tdiv (f k k) * f k b
def clV (k : Nat) (f : Nat → Nat → Int) (a b : Nat) : Int := f a b - (f k b).tdiv (f k k) * f a k
noncomputable def rwS (k : Nat) (f : Nat → Nat → Int) (i a b : Nat) : Int := @ite _ (k < a ∧ a < i ∧ k ≤ b) (Classical.propDecidable _) (rwV k f a b) (f a b)
noncomputable def clS (k : Nat) (f : Nat → Nat → Int) (j a b : Nat) : Int := @ite _ (k ≤ a ∧ k < b ∧ b < j) (Classical.propDecidable _) (clV k f a b) (f a b)
noncomputable def rwF (k : Nat) (f : Nat → Nat → Int) (a b : Nat) : Int := @ite _ (k < a ∧ k ≤ b) (Classical.propDecidable _) (rwV k f a b) (f a b)
noncomputable def clF (k : Nat) (f : Nat → Nat → Int) (a b : Nat) : Int := @ite _ (k ≤ a ∧ k < b) (Classical.propDecidable _) (clV k f a b) (f a b)
noncomputable def rstF (k : Nat) (f : Nat → Nat → Int) : Nat → Nat → Int := clF k (rwF k f)
/-- A row in work. -/
noncomputable def rowW (w k : Nat) (old new : Nat → Int) (j : Nat) : List Int := rowF w fun b => @ite _ (k ≤ b ∧ b < j) (Classical.propDecidable _) (new b) (old b)
@[simp] theorem rowW_len (w k : Nat) (old new : Nat → Int) (j : Nat) : (rowW w k old new j).length = w := rowF_len _ _
theorem rowW_start {w k : Nat} {old new : Nat → Int} : rowW w k old new k = rowF w old := rowF_congr fun b _ => by rw [if_neg (by omega)]
theorem rowW_set {w k j : Nat} {old new : Nat → Int} (hk : k ≤ j) (hj : j < w) : (rowW w k old new j).set j (new j) = rowW w k old new (j + 1) := by
  unfold rowW
  rw [rowF_set hj]
  refine rowF_congr fun b hb => ?_
  by_cases e : b = j
  · rw [if_pos e, e, if_pos (by omega)]
  · rw [if_neg e]
    by_cases h : k ≤ b ∧ b < j
    · rw [if_pos h, if_pos (by omega)]
    · rw [if_neg h, if_neg (by omega)]
theorem rowW_at {w k j : Nat} {old new : Nat → Int} (hj : j < w) : at0 (rowW w k old new j) j = old j := by
  unfold rowW
  rw [rowF_at hj, if_neg (by omega)]
theorem rowW_at2 {w k b : Nat} {old new : Nat → Int} (hb : b < w) (hk : k ≤ b) : at0 (rowW w k old new w) b = new b := by
  unfold rowW
  rw [rowF_at hb, if_pos ⟨hk, hb⟩]
theorem rwS_start {n w k : Nat} (f : Nat → Nat → Int) : matF n w (rwS k f (k + 1)) = matF n w f := matF_congr fun a b _ _ => by unfold rwS; rw [if_neg (by omega)]
theorem rwS_row {w k i : Nat} {f : Nat → Nat → Int} : rowF w (rwS k f i i) = rowF w (f i) := rowF_congr fun b _ => by unfold rwS; rw [if_neg (by omega)]
theorem rwS_top {w k i : Nat} {f : Nat → Nat → Int} : rowF w (rwS k f i k) = rowF w (f k) := rowF_congr fun b _ => by unfold rwS; rw [if_neg (by omega)]
theorem rwS_step {n w k i : Nat} {f : Nat → Nat → Int} (hi : k < i) (hin : i < n) : (matF n w (rwS k f i)).set i (rowW w k (f i) (rwV k f i) w) = matF n w (rwS k f (i + 1)) := by
  unfold rowW
  rw [matF_set _ hin]
  refine matF_congr fun a b _ hb => ?_
  by_cases e : a = i
  · subst e
    rw [if_pos rfl]
    unfold rwS
    by_cases h : k ≤ b
    · rw [if_pos ⟨h, hb⟩, if_pos (by omega)]
    · rw [if_neg (by omega), if_neg (by omega)]
  · rw [if_neg e]
    unfold rwS
    by_cases h : k < a ∧ a < i ∧ k ≤ b
    · rw [if_pos h, if_pos (by omega)]
    · rw [if_neg h, if_neg (by omega)]
theorem rwS_full {n w k : Nat} (f : Nat → Nat → Int) : matF n w (rwS k f n) = matF n w (rwF k f) := matF_congr fun a b ha _ => by
  unfold rwS rwF
  by_cases h : k < a ∧ k ≤ b
  · rw [if_pos h, if_pos (by omega)]
  · rw [if_neg h, if_neg (by omega)]
/-- The columns before j are done, and column j in the rows before i. -/
noncomputable def clT (k : Nat) (f : Nat → Nat → Int) (j i a b : Nat) : Int := @ite _ (k ≤ a ∧ k < b ∧ (b < j ∨ (b = j ∧ a < i))) (Classical.propDecidable _) (clV k f a b) (f a b)
theorem clT_start {n w k j : Nat} (f : Nat → Nat → Int) : matF n w (clT k f j k) = matF n w (clS k f j) := matF_congr fun a b _ _ => by
  unfold clT clS
  by_cases h : k ≤ a ∧ k < b ∧ b < j
  · rw [if_pos (by omega), if_pos h]
  · rw [if_neg (by omega), if_neg h]
theorem clT_full {n w k j : Nat} (f : Nat → Nat → Int) : matF n w (clT k f j n) = matF n w (clS k f (j + 1)) := matF_congr fun a b ha _ => by
  unfold clT clS
  by_cases h : k ≤ a ∧ k < b ∧ b < j + 1
  · rw [if_pos (by omega), if_pos h]
  · rw [if_neg (by omega), if_neg h]
theorem clS_start {n w k : Nat} (f : Nat → Nat → Int) : matF n w (clS k f (k + 1)) = matF n w f := matF_congr fun a b _ _ => by unfold clS; rw [if_neg (by omega)]
theorem clS_full {n w k : Nat} (f : Nat → Nat → Int) : matF n w (clS k f w) = matF n w (clF k f) := matF_congr fun a b _ hb => by
  unfold clS clF
  by_cases h : k ≤ a ∧ k < b
  · rw [if_pos (by omega), if_pos h]
  · rw [if_neg (by omega), if_neg h]
theorem clT_set {n w k j i : Nat} {f : Nat → Nat → Int} (hi : k ≤ i) (hin : i < n) (hj : k < j) (hjw : j < w) : (matF n w (clT k f j i)).set i ((rowF w (clT k f j i i)).set j (clV k f i j)) = matF n w (clT k f j (i + 1)) := by
  rw [rowF_set hjw, matF_set _ hin]
  refine matF_congr fun a b _ hb => ?_
  by_cases e : a = i
  · subst e
    rw [if_pos rfl]
    unfold clT
    by_cases e2 : b = j
    · rw [if_pos e2, e2, if_pos (by omega)]
    · rw [if_neg e2]
      by_cases h : k ≤ a ∧ k < b ∧ (b < j ∨ b = j ∧ a < a)
      · rw [if_pos h, if_pos (by omega)]
      · rw [if_neg h, if_neg (by omega)]
  · rw [if_neg e]
    unfold clT
    by_cases h : k ≤ a ∧ k < b ∧ (b < j ∨ (b = j ∧ a < i))
    · rw [if_pos h, if_pos (by omega)]
    · rw [if_neg h, if_neg (by omega)]
theorem clT_old {k j i a : Nat} {f : Nat → Nat → Int} (h : i ≤ a) : clT k f j i a j = f a j := by unfold clT; rw [if_neg (by omega)]
theorem clT_k {k j i a : Nat} {f : Nat → Nat → Int} : clT k f j i a k = f a k := by unfold clT; rw [if_neg (by omega)]
theorem rowsV_two {M : List (List Int)} {i k : Nat} (h : ¬ i = k) (hk : k < M.length) (r : List Int) (x y : V) : ((((rowsV M).set i x).set k y).set i (.own 1 (ints r))).set k (.own 1 (ints (atR M k))) = rowsV (M.set i r) := by
  rw [← rowsV_set]
  apply List.ext_getElem (by simp)
  intro q h1 h2
  have h1' : q < M.length := by simpa using h1
  simp only [List.getElem_set]
  by_cases e1 : k = q
  · subst e1
    simp [h, rowsV, atR_eq hk]
  · by_cases e2 : i = q
    · simp [e1, e2]
    · simp [e1, e2]
theorem clS_top {k j : Nat} {f : Nat → Nat → Int} {b : Nat} (h : j ≤ b ∨ b ≤ k) : clS k f j k b = f k b := by unfold clS; rw [if_neg (by omega)]
theorem clS_done {k j : Nat} {f : Nat → Nat → Int} (h : k < j) : clS k f (j + 1) k j = clF k f k j := by
  unfold clS clF
  rw [if_pos (by omega), if_pos (by omega)]
theorem rwF_top {k : Nat} {f : Nat → Nat → Int} {b : Nat} : rwF k f k b = f k b := by unfold rwF; rw [if_neg (by omega)]
def sc_s_l15Rest_L6 : SC := (.cut (.seq (.reg [⟨(some 107), none, (.mov (.t 12))⟩, ⟨(some 108), none, (.mov (.t 0))⟩, ⟨(some 109), none, (.len (.t 108))⟩, ⟨(some 110), none, (.bin false .lss (.t 107) (.t 109))⟩]) (.cond (.t 110) .skip (.exit 6))) (.seq (.block 7 (.dreg [⟨⟨(some 113), none, (.mov (.t 0))⟩, false, false⟩, ⟨⟨(some 114), none, (.mov (.t 12))⟩, false, false⟩, ⟨⟨(some 115), none, (.idx 1 (.t 113) (.t 114))⟩, false, false⟩, ⟨⟨(some 116), none, (.ld none .nil (.t 115))⟩, false, false⟩, ⟨⟨(some 117), none, (.mov (.t 10))⟩, false, false⟩, ⟨⟨(some 118), none, (.mov (.t 0))⟩, false, false⟩, ⟨⟨(some 119), none, (.mov (.t 12))⟩, false, false⟩, ⟨⟨(some 120), none, (.idx 1 (.t 118) (.t 119))⟩, false, false⟩, ⟨⟨(some 121), none, (.ld none .nil (.t 120))⟩, false, false⟩, ⟨⟨(some 122), none, (.mov (.t 10))⟩, false, false⟩, ⟨⟨(some 123), none, (.idx 1 (.t 121) (.t 122))⟩, false, false⟩, ⟨⟨(some 124), none, (.ld none (.int .i64 0) (.t 123))⟩, false, false⟩, ⟨⟨(some 125), none, (.mov (.t 11))⟩, false, false⟩, ⟨⟨(some 126), none, (.mov (.t 0))⟩, false, false⟩, ⟨⟨(some 127), none, (.mov (.t 12))⟩, false, false⟩, ⟨⟨(some 128), none, (.idx 1 (.t 126) (.t 127))⟩, false, false⟩, ⟨⟨(some 129), none, (.ld none .nil (.t 128))⟩, false, false⟩, ⟨⟨(some 130), none, (.mov (.t 1))⟩, false, false⟩, ⟨⟨(some 131), none, (.idx 1 (.t 129) (.t 130))⟩, false, false⟩, ⟨⟨(some 132), none, (.ld none (.int .i64 0) (.t 131))⟩, false, false⟩, ⟨⟨(some 133), none, (.bin false .mul (.t 125) (.t 132))⟩, false, false⟩, ⟨⟨(some 134), none, (.bin false .sub (.t 124) (.t 133))⟩, false, false⟩, ⟨⟨(some 135), none, (.idx 1 (.t 116) (.t 117))⟩, false, false⟩, ⟨⟨none, none, (.st 1 (.t 135) (.t 134))⟩, true, false⟩])) (.reg [⟨(some 111), none, (.mov (.t 12))⟩, ⟨(some 112), none, (.bin false .add (.t 111) (.c (.int .i64 1)))⟩, ⟨(some 12), none, (.mov (.t 112))⟩])))
def sc_s_l15Rest_L4 : SC := (.cut (.seq (.reg [⟨(some 82), none, (.mov (.t 10))⟩, ⟨(some 83), none, (.mov (.t 0))⟩, ⟨(some 84), none, (.mov (.t 1))⟩, ⟨(some 85), none, (.idx 1 (.t 83) (.t 84))⟩, ⟨(some 86), none, (.ld none .nil (.t 85))⟩, ⟨(some 87), none, (.len (.t 86))⟩, ⟨(some 88), none, (.bin false .lss (.t 82) (.t 87))⟩]) (.cond (.t 88) .skip (.exit 4))) (.seq (.block 5 (.seq (.dreg [⟨⟨(some 91), none, (.mov (.t 0))⟩, false, false⟩, ⟨⟨(some 92), none, (.mov (.t 1))⟩, false, false⟩, ⟨⟨(some 93), none, (.idx 1 (.t 91) (.t 92))⟩, false, false⟩, ⟨⟨(some 94), none, (.ld none .nil (.t 93))⟩, false, false⟩, ⟨⟨(some 95), none, (.mov (.t 10))⟩, false, false⟩, ⟨⟨(some 96), none, (.idx 1 (.t 94) (.t 95))⟩, false, false⟩, ⟨⟨(some 97), none, (.ld none (.int .i64 0) (.t 96))⟩, false, false⟩, ⟨⟨(some 98), none, (.mov (.t 0))⟩, false, false⟩, ⟨⟨(some 99), none, (.mov (.t 1))⟩, false, false⟩, ⟨⟨(some 100), none, (.idx 1 (.t 98) (.t 99))⟩, false, false⟩, ⟨⟨(some 101), none, (.ld none .nil (.t 100))⟩, false, false⟩, ⟨⟨(some 102), none, (.mov (.t 1))⟩, false, false⟩, ⟨⟨(some 103), none, (.idx 1 (.t 101) (.t 102))⟩, false, false⟩, ⟨⟨(some 104), none, (.ld none (.int .i64 0) (.t 103))⟩, false, false⟩, ⟨⟨(some 105), none, (.bin false .quo (.t 97) (.t 104))⟩, false, false⟩, ⟨⟨(some 11), none, (.mov (.t 105))⟩, false, false⟩]) (.seq (.seq (.reg [⟨(some 106), none, (.mov (.t 1))⟩, ⟨(some 12), none, (.mov (.t 106))⟩]) (.block 6 (.loop sc_s_l15Rest_L6))) (.reg [⟨(some 136), none, (.mov (.t 6))⟩, ⟨(some 137), none, (.mov (.t 136))⟩, ⟨(some 138), (some (137, true)), (.mov (.t 0))⟩, ⟨(some 139), (some (137, true)), (.mov (.t 1))⟩, ⟨(some 140), (some (137, true)), (.idx 1 (.t 138) (.t 139))⟩, ⟨(some 141), (some (137, true)), (.ld none .nil (.t 140))⟩, ⟨(some 142), (some (137, true)), (.mov (.t 10))⟩, ⟨(some 143), (some (137, true)), (.idx 1 (.t 141) (.t 142))⟩, ⟨(some 144), (some (137, true)), (.ld none (.int .i64 0) (.t 143))⟩, ⟨(some 145), (some (137, true)), (.bin false .eql (.t 144) (.c (.int .i64 0)))⟩, ⟨(some 146), none, (.pick (.t 137) (.t 145) (.c (.bool false)))⟩, ⟨(some 6), none, (.mov (.t 146))⟩])))) (.reg [⟨(some 89), none, (.mov (.t 10))⟩, ⟨(some 90), none, (.bin false .add (.t 89) (.c (.int .i64 1)))⟩, ⟨(some 10), none, (.mov (.t 90))⟩])))
def sc_s_l15Rest_L2 : SC := (.cut (.seq (.reg [⟨(some 37), none, (.mov (.t 9))⟩, ⟨(some 38), none, (.mov (.t 0))⟩, ⟨(some 39), none, (.mov (.t 7))⟩, ⟨(some 40), none, (.idx 1 (.t 38) (.t 39))⟩, ⟨(some 41), none, (.ld none .nil (.t 40))⟩, ⟨(some 42), none, (.len (.t 41))⟩, ⟨(some 43), none, (.bin false .lss (.t 37) (.t 42))⟩]) (.cond (.t 43) .skip (.exit 2))) (.seq (.block 3 (.dreg [⟨⟨(some 46), none, (.mov (.t 0))⟩, false, false⟩, ⟨⟨(some 47), none, (.mov (.t 7))⟩, false, false⟩, ⟨⟨(some 48), none, (.idx 1 (.t 46) (.t 47))⟩, false, false⟩, ⟨⟨(some 49), none, (.ld none .nil (.t 48))⟩, false, false⟩, ⟨⟨(some 50), none, (.mov (.t 9))⟩, false, false⟩, ⟨⟨(some 51), none, (.mov (.t 0))⟩, false, false⟩, ⟨⟨(some 52), none, (.mov (.t 7))⟩, false, false⟩, ⟨⟨(some 53), none, (.idx 1 (.t 51) (.t 52))⟩, false, false⟩, ⟨⟨(some 54), none, (.ld none .nil (.t 53))⟩, false, false⟩, ⟨⟨(some 55), none, (.mov (.t 9))⟩, false, false⟩, ⟨⟨(some 56), none, (.idx 1 (.t 54) (.t 55))⟩, false, false⟩, ⟨⟨(some 57), none, (.ld none (.int .i64 0) (.t 56))⟩, false, false⟩, ⟨⟨(some 58), none, (.mov (.t 8))⟩, false, false⟩, ⟨⟨(some 59), none, (.mov (.t 0))⟩, false, false⟩, ⟨⟨(some 60), none, (.mov (.t 1))⟩, false, false⟩, ⟨⟨(some 61), none, (.idx 1 (.t 59) (.t 60))⟩, false, false⟩, ⟨⟨(some 62), none, (.ld none .nil (.t 61))⟩, false, false⟩, ⟨⟨(some 63), none, (.mov (.t 9))⟩, false, false⟩, ⟨⟨(some 64), none, (.idx 1 (.t 62) (.t 63))⟩, false, false⟩, ⟨⟨(some 65), none, (.ld none (.int .i64 0) (.t 64))⟩, false, false⟩, ⟨⟨(some 66), none, (.bin false .mul (.t 58) (.t 65))⟩, false, false⟩, ⟨⟨(some 67), none, (.bin false .sub (.t 57) (.t 66))⟩, false, false⟩, ⟨⟨(some 68), none, (.idx 1 (.t 49) (.t 50))⟩, false, false⟩, ⟨⟨none, none, (.st 1 (.t 68) (.t 67))⟩, true, false⟩])) (.reg [⟨(some 44), none, (.mov (.t 9))⟩, ⟨(some 45), none, (.bin false .add (.t 44) (.c (.int .i64 1)))⟩, ⟨(some 9), none, (.mov (.t 45))⟩])))
def sc_s_l15Rest_L0 : SC := (.cut (.seq (.reg [⟨(some 15), none, (.mov (.t 7))⟩, ⟨(some 16), none, (.mov (.t 0))⟩, ⟨(some 17), none, (.len (.t 16))⟩, ⟨(some 18), none, (.bin false .lss (.t 15) (.t 17))⟩]) (.cond (.t 18) .skip (.exit 0))) (.seq (.block 1 (.seq (.dreg [⟨⟨(some 21), none, (.mov (.t 0))⟩, false, false⟩, ⟨⟨(some 22), none, (.mov (.t 7))⟩, false, false⟩, ⟨⟨(some 23), none, (.idx 1 (.t 21) (.t 22))⟩, false, false⟩, ⟨⟨(some 24), none, (.ld none .nil (.t 23))⟩, false, false⟩, ⟨⟨(some 25), none, (.mov (.t 1))⟩, false, false⟩, ⟨⟨(some 26), none, (.idx 1 (.t 24) (.t 25))⟩, false, false⟩, ⟨⟨(some 27), none, (.ld none (.int .i64 0) (.t 26))⟩, false, false⟩, ⟨⟨(some 28), none, (.mov (.t 0))⟩, false, false⟩, ⟨⟨(some 29), none, (.mov (.t 1))⟩, false, false⟩, ⟨⟨(some 30), none, (.idx 1 (.t 28) (.t 29))⟩, false, false⟩, ⟨⟨(some 31), none, (.ld none .nil (.t 30))⟩, false, false⟩, ⟨⟨(some 32), none, (.mov (.t 1))⟩, false, false⟩, ⟨⟨(some 33), none, (.idx 1 (.t 31) (.t 32))⟩, false, false⟩, ⟨⟨(some 34), none, (.ld none (.int .i64 0) (.t 33))⟩, false, false⟩, ⟨⟨(some 35), none, (.bin false .quo (.t 27) (.t 34))⟩, false, false⟩, ⟨⟨(some 8), none, (.mov (.t 35))⟩, false, false⟩]) (.seq (.seq (.reg [⟨(some 36), none, (.mov (.t 1))⟩, ⟨(some 9), none, (.mov (.t 36))⟩]) (.block 2 (.loop sc_s_l15Rest_L2))) (.reg [⟨(some 69), none, (.mov (.t 6))⟩, ⟨(some 70), none, (.mov (.t 69))⟩, ⟨(some 71), (some (70, true)), (.mov (.t 0))⟩, ⟨(some 72), (some (70, true)), (.mov (.t 7))⟩, ⟨(some 73), (some (70, true)), (.idx 1 (.t 71) (.t 72))⟩, ⟨(some 74), (some (70, true)), (.ld none .nil (.t 73))⟩, ⟨(some 75), (some (70, true)), (.mov (.t 1))⟩, ⟨(some 76), (some (70, true)), (.idx 1 (.t 74) (.t 75))⟩, ⟨(some 77), (some (70, true)), (.ld none (.int .i64 0) (.t 76))⟩, ⟨(some 78), (some (70, true)), (.bin false .eql (.t 77) (.c (.int .i64 0)))⟩, ⟨(some 79), none, (.pick (.t 70) (.t 78) (.c (.bool false)))⟩, ⟨(some 6), none, (.mov (.t 79))⟩])))) (.reg [⟨(some 19), none, (.mov (.t 7))⟩, ⟨(some 20), none, (.bin false .add (.t 19) (.c (.int .i64 1)))⟩, ⟨(some 7), none, (.mov (.t 20))⟩])))
def sc_s_l15Rest : SC := (.seq (.reg [⟨(some 4), none, (.mov (.c .nil))⟩, ⟨(some 5), none, (.mov (.c (.bool false)))⟩]) (.seq (.reg [⟨(some 6), none, (.mov (.c (.bool true)))⟩]) (.seq (.seq (.reg [⟨(some 13), none, (.mov (.t 1))⟩, ⟨(some 14), none, (.bin false .add (.t 13) (.c (.int .i64 1)))⟩, ⟨(some 7), none, (.mov (.t 14))⟩]) (.block 0 (.loop sc_s_l15Rest_L0))) (.seq (.seq (.reg [⟨(some 80), none, (.mov (.t 1))⟩, ⟨(some 81), none, (.bin false .add (.t 80) (.c (.int .i64 1)))⟩, ⟨(some 10), none, (.mov (.t 81))⟩]) (.block 4 (.loop sc_s_l15Rest_L4))) (.seq (.reg [⟨(some 147), none, (.mov (.t 0))⟩, ⟨(some 148), none, (.mov (.t 6))⟩, ⟨(some 4), none, (.mov (.t 147))⟩, ⟨(some 5), none, (.mov (.t 148))⟩]) .ret)))))
theorem code_s_l15Rest : fnCode Tryd.prog [666666, 555555] 63 = some (149, sc_s_l15Rest, [(4, none), (5, none)]) := by kernel_rfl
def clnP (n w k : Nat) (f : Nat → Nat → Int) : Prop := (∀ a, k < a → a < n → rwF k f a k = 0) ∧ ∀ b, k < b → b < w → rstF k f k b = 0
structure rstO (k : Nat) (M : List (List Int)) : Prop where
  dim : dimM M
  kn : k < M.length
  kw : k < wdM M
  nz : ent M k k ≠ 0
  b0 : bdE 1073741824 M.length (wdM M) (ent M)
  b1 : bdE 1073741824 M.length (wdM M) (rwF k (ent M))
  b2 : bdE 1073741824 M.length (wdM M) (rstF k (ent M))
noncomputable def rstR (M : List (List Int)) (k : Nat) : List (List Int) := matF M.length (wdM M) (rstF k (ent M))
noncomputable def G_s_l15Rest : List V → List V → Option (V × List V)
  | [.sl 0 1 0 m, .int .i64 k], cells => (dRowsV cells).bind fun M => @ite _ (m = M.length ∧ 0 ≤ k ∧ rstO k.toNat M) (Classical.propDecidable _) (some (.tup [.sl 0 1 0 m, .bool (dec (clnP M.length (wdM M) k.toNat (ent M)))], rowsV (rstR M k.toNat))) none
  | _, _ => none
theorem quoB {n w a b c d : Nat} {f : Nat → Nat → Int} (h : bdE 1073741824 n w f) (ha : a < n) (hb : b < w) : IntKind.i64.wrap ((f a b).tdiv (f c d)) = (f a b).tdiv (f c d) ∧ -1073741824 ≤ (f a b).tdiv (f c d) ∧ (f a b).tdiv (f c d) ≤ 1073741824 := by
  have h1 := tdivB (b := f c d) (B := 1073741824) (h a b ha hb)
  exact ⟨wrapI _ (by omega) (by omega), by omega, by omega⟩
theorem subB {x q y : Int} (hx : -1073741824 ≤ x ∧ x ≤ 1073741824) (hq : -1073741824 ≤ q ∧ q ≤ 1073741824) (hy : -1073741824 ≤ y ∧ y ≤ 1073741824) : IntKind.i64.wrap (q * y) = q * y ∧ IntKind.i64.wrap (x - q * y) = x - q * y := by
  have h1 := mulB2 (A := 1073741824) (B := 1073741824) hq hy
  exact ⟨wrapI _ (by omega) (by omega), wrapI _ (by omega) (by omega)⟩
theorem ln_s_l15Rest : LendOk Tryd.prog 63 0 G_s_l15Rest := by
  have env := envNil_ok (P := Tryd.prog)
  refine fn_lend code_s_l15Rest mixed env ?_
  intro args cells r cells' hG hb
  unfold G_s_l15Rest at hG
  split at hG
  case h_2 => simp at hG
  rename_i m k
  obtain ⟨M, h1, h2⟩ := Option.bind_eq_some_iff.1 hG
  have hc := dRowsV_inv h1
  subst hc
  simp only [Option.ite_none_right_eq_some, Option.some.injEq, Prod.mk.injEq] at h2
  obtain ⟨⟨rfl, hk0, ⟨⟨hr, hn, hw⟩, hkn, hkw, hnz, b0, b1, b2⟩⟩, rfl, rfl⟩ := h2
  obtain ⟨k, rfl⟩ : ∃ n : Nat, k = n := ⟨k.toNat, by omega⟩
  simp only [Int.toNat_natCast] at *
  clear hG h1 hb
  unfold rstR
  have hself := matF_self hr
  generalize wdM M = w at *
  generalize hf : ent M = f at *
  generalize hnn : M.length = n at *
  rw [← hself]
  clear hself hr hf
  refine ⟨by simp, fun w0 U0 L0 N0 => ?_⟩
  have hw1 : IntKind.i64.wrap ((k : Int) + 1) = ((k + 1 : Nat) : Int) := by rw [wrapI _ (by omega) (by omega)]; rfl
  -- a row is changed
  have rowL : ∀ (i : Nat) (Mi : List (List Int)) (cl : Bool) (Q : Post) (T0 : Tm), k < i → i < n → Mi.length = n →
      subE T0 [(0, .sl 0 1 0 n), (1, .int .i64 (k : Int)), (6, .bool cl), (7, .int .i64 (i : Int)), (8, .int .i64 ((f i k).tdiv (f k k))), (9, .int .i64 (k : Int))] →
      Q (.exit 2) [(0, .sl 0 1 0 n), (1, .int .i64 (k : Int)), (6, .bool cl), (7, .int .i64 (i : Int))] ([(2, ints (rowF w (f k))), (1, ints (rowW w k (f i) (rwV k f i) w)), (0, ((rowsV Mi).set i (.sl 1 1 0 w)).set k (.sl 2 1 0 w))], 3) →
      LoopI ⟨Tryd.prog, w0, U0, L0, N0, 1, 149⟩ [666666, 555555] sc_s_l15Rest_L2 Q T0 ([(2, ints (rowF w (f k))), (1, ints (rowF w (f i))), (0, ((rowsV Mi).set i (.sl 1 1 0 w)).set k (.sl 2 1 0 w))], 3) := by
    intro i Mi cl Q T0 hki hin hml hsub q1
    have hik : ¬ i = k := by omega
    have hki' : ¬ k = i := by omega
    obtain ⟨hq1, hq2, hq3⟩ := quoB (c := k) (d := k) b0 hin hkw
    have hqd : ∀ j, rwV k f i j = f i j - (f i k).tdiv (f k k) * f k j := fun j => rfl
    generalize rwV k f i = new at *
    generalize (f i k).tdiv (f k k) = q at *
    have hstart := rowW_start (w := w) (k := k) (old := f i) (new := new)
    refine loopQ env mixed (fun j : Nat => [(0, .sl 0 1 0 n), (1, .int .i64 (k : Int)), (6, .bool cl), (7, .int .i64 (i : Int)), (8, .int .i64 q), (9, .int .i64 (j : Int))]) (fun j => ([(2, ints (rowF w (f k))), (1, ints (rowW w k (f i) new j)), (0, ((rowsV Mi).set i (.sl 1 1 0 w)).set k (.sl 2 1 0 w))], 3)) (fun j => k ≤ j ∧ j ≤ w) (fun j => w - j) k ⟨Nat.le_refl k, by omega⟩ (SubI.slots (by rw [hstart]) hsub) ?_
    rintro j ⟨hkj, hjw⟩
    by_cases hlt : j < w
    · have hat := rowW_at (k := k) (old := f i) (new := new) hlt
      have hset := rowW_set (old := f i) (new := new) hkj hlt
      have hrl := rowW_len w k (f i) new j
      have hrk : (rowF w (f k)).length = w := rowF_len _ _
      have hek := rowF_at (g := f k) hlt
      obtain ⟨w1, w2⟩ := subB (b0 i j hin hlt) ⟨hq2, hq3⟩ (b0 k j hkn hlt)
      rw [← hqd j] at w2
      have w3 := hqd j
      generalize rowW w k (f i) new j = g at *
      generalize rowF w (f k) = rk at *
      simp -implicitDefEqProofs [sc_s_l15Rest_L2, hin, hkn, hik, hki', hml, hlt, hrl]
      repeat' (first | omega | apply And.intro)
      refine CutI.of (l' := [(0, .sl 0 1 0 n), (1, .int .i64 (k : Int)), (6, .bool cl), (7, .int .i64 (i : Int)), (8, .int .i64 q), (9, .int .i64 (j : Int))]) (SubI.slots rfl (by simp)) ?_
      simp -implicitDefEqProofs [freeOk, hin, hkn, hik, hki', hml, hlt, hrl, hrk, hat, hek, w1, ← w3, w2, hset]
      repeat' (first | omega | apply And.intro)
      exact Again.of (j + 1) (by omega) (by omega) (SubI.slots (by simp) (by simp (disch := omega) [wrapI]))
    · have : j = w := by omega
      subst this
      simp -implicitDefEqProofs [sc_s_l15Rest_L2, hin, hkn, hik, hki', hml]
      repeat' (first | omega | apply And.intro)
      exact SubQ.of (SubI.slots rfl (by simp)) q1
  have hlenS := fun i => matF_len n w (rwS k f i)
  simp -implicitDefEqProofs [sc_s_l15Rest, hw1]
  have hC0 : dec (∀ a, k < a → a < k + 1 → rwF k f a k = 0) = true := dec_true fun a h1 h2 => by omega
  have hC0b : (true : Bool) = dec (∀ a, k < a → a < k + 1 → rwF k f a k = 0) := hC0.symm
  refine loopI env mixed (fun i : Nat => [(0, .sl 0 1 0 n), (1, .int .i64 (k : Int)), (6, .bool (dec (∀ a, k < a → a < i → rwF k f a k = 0))), (7, .int .i64 (i : Int))]) (fun i => ([(0, rowsV (matF n w (rwS k f i)))], 1)) (fun i => k < i ∧ i ≤ n) (fun i => n - i) (k + 1) (by omega) (SubI.slots (by simp [rwS_start]) (by simp [hC0])) ?_
  rintro i ⟨hki, hin⟩
  by_cases hlt : i < n
  · have hik : ¬ i = k := by omega
    have hki' : ¬ k = i := by omega
    have hml := hlenS i
    have hai := matF_at (w := w) (f := rwS k f i) hlt
    rw [rwS_row] at hai
    have hak := matF_at (w := w) (f := rwS k f i) hkn
    rw [rwS_top] at hak
    have hst := rwS_step (w := w) (f := f) hki hlt
    obtain ⟨hq1, hq2, hq3⟩ := quoB (c := k) (d := k) b0 hlt hkw
    have hel := rowF_at (g := f i) hkw
    have hek := rowF_at (g := f k) hkw
    have hli : (rowF w (f i)).length = w := rowF_len _ _
    have hlk : (rowF w (f k)).length = w := rowF_len _ _
    have hin2 := rowL i (matF n w (rwS k f i))
    have hnew : at0 (rowW w k (f i) (rwV k f i) w) k = rwF k f i k := by
      rw [rowW_at2 hkw (Nat.le_refl k)]
      unfold rwF
      rw [if_pos ⟨hki, Nat.le_refl k⟩]
    have hnl := rowW_len w k (f i) (rwV k f i) w
    have hcl : dec (∀ a, k < a → a < i + 1 → rwF k f a k = 0) = (dec (∀ a, k < a → a < i → rwF k f a k = 0) && dec (rwF k f i k = 0)) := by
      by_cases h1 : ∀ a, k < a → a < i → rwF k f a k = 0
      · by_cases h2 : rwF k f i k = 0
        · rw [dec_true h1, dec_true h2, dec_true fun a ha1 ha2 => ?_]
          · rfl
          · rcases Nat.lt_succ_iff_lt_or_eq.1 ha2 with h | rfl
            · exact h1 a ha1 h
            · exact h2
        · rw [dec_false h2, dec_false fun h => h2 (h i hki (by omega)), Bool.and_false]
      · rw [dec_false h1, dec_false fun h => h1 fun a ha1 ha2 => h a ha1 (by omega), Bool.false_and]
    generalize dec (∀ a, k < a → a < i → rwF k f a k = 0) = cl at *
    generalize hzz : rwF k f i k = z at *
    have htw := rowsV_two (M := matF n w (rwS k f i)) (i := i) (k := k) hik (by omega) (rowW w k (f i) (rwV k f i) w) (.sl 1 1 0 w) (.sl 2 1 0 w)
    rw [hst, hak] at htw
    generalize rowW w k (f i) (rwV k f i) w = ri2 at *
    generalize rowF w (f i) = ri at *
    generalize rowF w (f k) = rk at *
    generalize matF n w (rwS k f i) = Mi at *
    simp -implicitDefEqProofs [sc_s_l15Rest_L0, hlt, hml]
    refine CutI.of (l' := [(0, .sl 0 1 0 n), (1, .int .i64 (k : Int)), (6, .bool cl), (7, .int .i64 (i : Int))]) (s' := ([(2, ints rk), (1, ints ri), (0, ((rowsV Mi).set i (.sl 1 1 0 w)).set k (.sl 2 1 0 w))], 3)) ?_ ?_
    · refine SubI.unfold 0 i 1 (co := rowsV Mi) (cn := ints ri) rfl (by rw [rowsV_get (by omega), hai]) (by omega) ?_
      refine SubI.unfold 0 k 1 (co := (rowsV Mi).set i (.sl 1 1 0 w)) (cn := ints rk) (by simp [hli]) (by rw [List.getElem?_set_ne hik, rowsV_get (by omega), hak]) (by omega) ?_
      exact SubI.slots (by simp [hli, hlk]) (by simp)
    simp -implicitDefEqProofs [freeOk, hlt, hkn, hml, hik, hki', hli, hlk, hkw, hel, hek, hnz, hq1]
    repeat' (first | omega | apply And.intro)
    refine hin2 cl _ _ hki hlt hml (by simp) ?_
    have fin : ∀ (T : Tm) (c2 : Bool) (T2 : Tm), subE T [(0, .sl 0 1 0 n), (1, .int .i64 (k : Int)), (6, .bool c2), (7, .int .i64 (((i + 1 : Nat)) : Int))] →
        SubI 1 T ([(2, ints rk), (1, ints ri2), (0, ((rowsV Mi).set i (.sl 1 1 0 w)).set k (.sl 2 1 0 w))], 3) [(0, .sl 0 1 0 n), (1, .int .i64 (k : Int)), (6, .bool c2), (7, .int .i64 (((i + 1 : Nat)) : Int))] ([(0, rowsV (matF n w (rwS k f (i + 1))))], 1) := fun T c2 T2 hT => by
      refine SubI.fold 0 1 i 1 w (cn := ints ri2) (co := ((rowsV Mi).set i (.sl 1 1 0 w)).set k (.sl 2 1 0 w)) rfl rfl (by simp [hml, hlt, hik, hki']) (by simp [hnl]) ?_
      refine SubI.fold 0 2 k 1 w (cn := ints rk) (co := (((rowsV Mi).set i (.sl 1 1 0 w)).set k (.sl 2 1 0 w)).set i (.own 1 (ints ri2))) (by simp) (by simp) (by simp [hml, hkn, hik, hki']) (by simp [hlk]) ?_
      rw [htw]
      simp only [subE_cons, subE_nil, and_true] at hT
      obtain ⟨e1, e2, e3, e4⟩ := hT
      refine SubI.ren (fun m => if m = 0 then some 0 else none) ?_ ?_ ?_ (by simp) (by simp)
      · simp [subT, renV, ren1, ← e1, ← e2, ← e3, ← e4]
      · simp [subH, renL, ren1]
      · intro m hm
        simp only at hm
        rw [if_neg (by omega)]
    cases cl with
    | false =>
      rw [Bool.false_and] at hcl
      simp -implicitDefEqProofs [hlt, hkn, hml, hik, hki', hkw]
      repeat' (first | omega | apply And.intro)
      refine Again.of (i + 1) (by omega) (by omega) ?_
      rw [hcl]
      exact fin _ _ [] (by simp (disch := omega) [wrapI])
    | true =>
      rw [Bool.true_and] at hcl
      by_cases hz : z = 0
      · rw [dec_true hz] at hcl
        simp -implicitDefEqProofs [hlt, hkn, hml, hik, hki', hkw, hnl, hnew, hz]
        repeat' (first | omega | apply And.intro)
        refine Again.of (i + 1) (by omega) (by omega) ?_
        rw [hcl]
        exact fin _ _ [] (by simp (disch := omega) [wrapI])
      · rw [dec_false hz] at hcl
        simp -implicitDefEqProofs [hlt, hkn, hml, hik, hki', hkw, hnl, hnew, hz]
        repeat' (first | omega | apply And.intro)
        refine Again.of (i + 1) (by omega) (by omega) ?_
        rw [hcl]
        exact fin _ _ [] (by simp (disch := omega) [wrapI, hz])
  · have : i = n := by omega
    subst this
    rw [rwS_full]
    have hres : dec (clnP i w k f) = (dec (∀ a, k < a → a < i → rwF k f a k = 0) && dec (∀ b, k < b → b < w → rstF k f k b = 0)) := by
      by_cases h1 : ∀ a, k < a → a < i → rwF k f a k = 0
      · by_cases h2 : ∀ b, k < b → b < w → rstF k f k b = 0
        · rw [dec_true h1, dec_true h2, dec_true ⟨h1, h2⟩]; rfl
        · rw [dec_false h2, dec_false fun h => h2 h.2, Bool.and_false]
      · rw [dec_false h1, dec_false fun h => h1 h.1, Bool.false_and]
    rw [hres]
    have hkk : rwF k f k k = f k k := rwF_top
    rw [← hkk] at hnz
    unfold rstF
    generalize hc1 : dec (∀ a, k < a → a < i → rwF k f a k = 0) = c1 at *
    have b2' : bdE 1073741824 i w (clF k (rwF k f)) := b2
    clear b2 hres hlt rowL hlenS hC0 hC0b hkk b0
    generalize rwF k f = g at *
    simp -implicitDefEqProofs [sc_s_l15Rest_L0, hw1]
    have hC0 : dec (∀ b, k < b → b < k + 1 → clF k g k b = 0) = true := dec_true fun a h1 h2 => by omega
    refine loopQ env mixed (fun j : Nat => [(0, .sl 0 1 0 i), (1, .int .i64 (k : Int)), (6, .bool (c1 && dec (∀ b, k < b → b < j → clF k g k b = 0))), (10, .int .i64 (j : Int))]) (fun j => ([(0, rowsV (matF i w (clS k g j)))], 1)) (fun j => k < j ∧ j ≤ w) (fun j => w - j) (k + 1) (by omega) (SubI.slots (by simp [clS_start]) (by simp [hC0])) ?_
    rintro j ⟨hkj, hjw⟩
    have hml := matF_len i w (clS k g j)
    have hak := matF_at (w := w) (f := clS k g j) hkn
    have hlk : (rowF w (clS k g j k)).length = w := rowF_len _ _
    have hself := rowsV_self (M := matF i w (clS k g j)) (i := k) (by omega)
    by_cases hlt : j < w
    · have hek := rowF_at (g := clS k g j k) hkw
      rw [clS_top (.inr (Nat.le_refl k))] at hek
      have hej := rowF_at (g := clS k g j k) hlt
      rw [clS_top (.inl (Nat.le_refl j))] at hej
      obtain ⟨hq1, hq2, hq3⟩ := quoB (c := k) (d := k) b1 hkn hlt
      have hcl : dec (∀ b, k < b → b < j + 1 → clF k g k b = 0) = (dec (∀ b, k < b → b < j → clF k g k b = 0) && dec (clF k g k j = 0)) := by
        by_cases h1 : ∀ b, k < b → b < j → clF k g k b = 0
        · by_cases h2 : clF k g k j = 0
          · rw [dec_true h1, dec_true h2, dec_true fun a ha1 ha2 => ?_]
            · rfl
            · rcases Nat.lt_succ_iff_lt_or_eq.1 ha2 with h | rfl
              · exact h1 a ha1 h
              · exact h2
          · rw [dec_false h2, dec_false fun h => h2 (h j hkj (by omega)), Bool.and_false]
        · rw [dec_false h1, dec_false fun h => h1 fun a ha1 ha2 => h a ha1 (by omega), Bool.false_and]
      have hcl2 : (c1 && dec (∀ b, k < b → b < j + 1 → clF k g k b = 0)) = ((c1 && dec (∀ b, k < b → b < j → clF k g k b = 0)) && dec (clF k g k j = 0)) := by rw [hcl, Bool.and_assoc]
      generalize (c1 && dec (∀ b, k < b → b < j → clF k g k b = 0)) = cl at *
      clear hcl
      -- a column is changed
      have colL : ∀ (Q : Post) (T0 : Tm) (H0 : Hp), SubI 1 T0 H0 [(0, .sl 0 1 0 i), (1, .int .i64 (k : Int)), (6, .bool cl), (10, .int .i64 (j : Int)), (11, .int .i64 ((g k j).tdiv (g k k))), (12, .int .i64 (k : Int))] ([(0, rowsV (matF i w (clS k g j)))], 1) →
          Q (.exit 6) [(0, .sl 0 1 0 i), (1, .int .i64 (k : Int)), (6, .bool cl), (10, .int .i64 (j : Int))] ([(0, rowsV (matF i w (clS k g (j + 1))))], 1) →
          LoopI ⟨Tryd.prog, w0, U0, L0, N0, 1, 149⟩ [666666, 555555] sc_s_l15Rest_L6 Q T0 H0 := by
        intro Q T0 H0 hsub q1
        have hqd : ∀ a, clV k g a j = g a j - (g k j).tdiv (g k k) * g a k := fun a => rfl
        have hsetT := fun (a : Nat) h1 h2 => clT_set (n := i) (w := w) (k := k) (j := j) (i := a) (f := g) h1 h2 hkj hlt
        generalize hnv : (fun a => clV k g a j) = nv at *
        have hnv' : ∀ a, clV k g a j = nv a := fun a => by rw [← hnv]
        simp only [hnv'] at hqd hsetT
        generalize (g k j).tdiv (g k k) = q at *
        refine loopQ env mixed (fun a : Nat => [(0, .sl 0 1 0 i), (1, .int .i64 (k : Int)), (6, .bool cl), (10, .int .i64 (j : Int)), (11, .int .i64 q), (12, .int .i64 (a : Int))]) (fun a => ([(0, rowsV (matF i w (clT k g j a)))], 1)) (fun a => k ≤ a ∧ a ≤ i) (fun a => i - a) k ⟨Nat.le_refl k, by omega⟩ (by rw [clT_start]; exact hsub) ?_
        rintro a ⟨hka, hai⟩
        have hml := matF_len i w (clT k g j a)
        by_cases hlt3 : a < i
        · have haa := matF_at (w := w) (f := clT k g j a) hlt3
          have hla : (rowF w (clT k g j a a)).length = w := rowF_len _ _
          have e1 := rowF_at (g := clT k g j a a) hlt
          rw [clT_old (Nat.le_refl a)] at e1
          have e2 := rowF_at (g := clT k g j a a) hkw
          rw [clT_k] at e2
          have hst := hsetT a hka hlt3
          obtain ⟨w1, w2⟩ := subB (b1 a j hlt3 hlt) ⟨hq2, hq3⟩ (b1 a k hlt3 hkw)
          have w3 := hqd a
          rw [← w3] at w2
          have hst2 : ∀ v, ((rowsV (matF i w (clT k g j a))).set a v).set a (.own 1 (ints ((rowF w (clT k g j a a)).set j (nv a)))) = rowsV (matF i w (clT k g j (a + 1))) := fun v => by
            rw [List.set_set, rowsV_set, hst]
          generalize rowF w (clT k g j a a) = ra at *
          generalize matF i w (clT k g j a) = Ma at *
          simp -implicitDefEqProofs [sc_s_l15Rest_L6, hlt3, hml]
          refine CutI.of (l' := [(0, .sl 0 1 0 i), (1, .int .i64 (k : Int)), (6, .bool cl), (10, .int .i64 (j : Int)), (11, .int .i64 q), (12, .int .i64 (a : Int))]) (s' := ([(1, ints ra), (0, (rowsV Ma).set a (.sl 1 1 0 w))], 2)) ?_ ?_
          · refine SubI.unfold 0 a 1 (co := rowsV Ma) (cn := ints ra) rfl (by rw [rowsV_get (by omega), haa]) (by omega) ?_
            exact SubI.slots (by simp [hla]) (by simp)
          simp -implicitDefEqProofs [freeOk, hlt3, hml, hla, hkw, hlt, e1, e2, w1, ← w3, w2]
          repeat' (first | omega | apply And.intro)
          refine Again.of (a + 1) (by omega) (by omega) ?_
          refine SubI.fold 0 1 a 1 w (cn := ints (ra.set j (nv a))) (co := (rowsV Ma).set a (.sl 1 1 0 w)) (by simp) (by simp) (by simp [hml, hlt3]) (by simp [hla]) ?_
          rw [hst2]
          refine SubI.ren (fun m => if m = 0 then some 0 else none) ?_ ?_ ?_ (by simp) (by simp)
          · simp (disch := omega) [subT, renV, ren1, wrapI]
          · simp [subH, renL, ren1]
          · intro m hm
            simp only at hm
            rw [if_neg (by omega)]
        · have : a = i := by omega
          subst this
          rw [← clT_full] at q1
          simp -implicitDefEqProofs [sc_s_l15Rest_L6, hml]
          exact SubQ.of (SubI.slots rfl (by simp)) q1
      have hml2 := matF_len i w (clS k g (j + 1))
      have hak2 := matF_at (w := w) (f := clS k g (j + 1)) hkn
      have hlk2 : (rowF w (clS k g (j + 1) k)).length = w := rowF_len _ _
      have hself2 := rowsV_self (M := matF i w (clS k g (j + 1))) (i := k) (by omega)
      have hej2 := rowF_at (g := clS k g (j + 1) k) hlt
      rw [clS_done hkj] at hej2
      rw [hak2] at hself2
      rw [hak] at hself
      generalize hqv : (g k j).tdiv (g k k) = q at *
      generalize clF k g k j = z at *
      generalize rowF w (clS k g (j + 1) k) = rk2 at *
      generalize hM2 : matF i w (clS k g (j + 1)) = M2 at *
      generalize rowF w (clS k g j k) = rk at *
      generalize matF i w (clS k g j) = M1 at *
      simp -implicitDefEqProofs [sc_s_l15Rest_L4, hlt, hkn, hml, hak, hlk]
      repeat' (first | omega | apply And.intro)
      refine CutI.of (l' := [(0, .sl 0 1 0 i), (1, .int .i64 (k : Int)), (6, .bool cl), (10, .int .i64 (j : Int))]) (SubI.slots rfl (by simp)) ?_
      simp -implicitDefEqProofs [freeOk, hlt, hkn, hkw, hml, hlk, hek, hej, hnz, hqv, hq1]
      repeat' (first | omega | apply And.intro)
      refine colL _ _ _ ?_ ?_
      · refine SubI.fold 0 1 k 1 w (cn := ints rk) (co := (rowsV M1).set k (.sl 1 1 0 w)) (by simp) (by simp) (by simp [hml, hkn]) (by simp [hlk]) ?_
        rw [List.set_set, hself]
        refine SubI.ren (fun m => if m = 0 then some 0 else none) ?_ ?_ ?_ (by simp) (by simp)
        · simp (disch := omega) [subT, renV, ren1, wrapI, hqv, hq1]
        · simp [subH, renL, ren1]
        · intro m hm
          simp only at hm
          rw [if_neg (by omega)]
      cases cl with
      | false =>
        rw [Bool.false_and] at hcl2
        simp -implicitDefEqProofs [hlt, hkn, hml2]
        repeat' (first | omega | apply And.intro)
        exact Again.of (j + 1) (by omega) (by omega) (SubI.slots (by simp [hM2]) (by simp (disch := omega) [wrapI, hcl2]))
      | true =>
        rw [Bool.true_and] at hcl2
        by_cases hz : z = 0
        · rw [dec_true hz] at hcl2
          simp -implicitDefEqProofs [hlt, hkn, hml2, hak2, hlk2, hej2, hz]
          repeat' (first | omega | apply And.intro)
          refine Again.of (j + 1) (by omega) (by omega) ?_
          rw [hcl2]
          refine SubI.fold 0 1 k 1 w (cn := ints rk2) (co := (rowsV M2).set k (.sl 1 1 0 w)) (by simp) (by simp) (by simp [hml2, hkn]) (by simp [hlk2]) ?_
          rw [List.set_set, hself2]
          refine SubI.ren (fun m => if m = 0 then some 0 else none) ?_ ?_ ?_ (by simp) (by simp)
          · simp (disch := omega) [subT, renV, ren1, wrapI]
          · simp [subH, renL, ren1, hM2]
          · intro m hm
            simp only at hm
            rw [if_neg (by omega)]
        · rw [dec_false hz] at hcl2
          simp -implicitDefEqProofs [hlt, hkn, hml2, hak2, hlk2, hej2, hz]
          repeat' (first | omega | apply And.intro)
          refine Again.of (j + 1) (by omega) (by omega) ?_
          rw [hcl2]
          refine SubI.fold 0 1 k 1 w (cn := ints rk2) (co := (rowsV M2).set k (.sl 1 1 0 w)) (by simp) (by simp) (by simp [hml2, hkn]) (by simp [hlk2]) ?_
          rw [List.set_set, hself2]
          refine SubI.ren (fun m => if m = 0 then some 0 else none) ?_ ?_ ?_ (by simp) (by simp)
          · simp (disch := omega) [subT, renV, ren1, wrapI, hz]
          · simp [subH, renL, ren1, hM2]
          · intro m hm
            simp only at hm
            rw [if_neg (by omega)]
    · have : j = w := by omega
      subst this
      rw [hak] at hself
      rw [clS_full] at *
      generalize rowF j (clS k g j k) = rk at *
      generalize matF i j (clF k g) = M1 at *
      generalize (c1 && dec (∀ b, k < b → b < j → clF k g k b = 0)) = cl at *
      simp -implicitDefEqProofs [sc_s_l15Rest_L4, hkn, hml, hak, hlk]
      refine SubQ.of (l1 := [(0, .sl 0 1 0 i), (6, .bool cl)]) (s1 := ([(0, rowsV M1)], 1)) ?_ ?_
      · refine SubI.fold 0 1 k 1 j (cn := ints rk) (co := (rowsV M1).set k (.sl 1 1 0 j)) (by simp) (by simp) (by simp [hml, hkn]) (by simp [hlk]) ?_
        rw [List.set_set, hself]
        refine SubI.ren (fun m => if m = 0 then some 0 else none) ?_ ?_ ?_ (by simp) (by simp)
        · simp [subT, renV, ren1]
        · simp [subH, renL, ren1]
        · intro m hm
          simp only at hm
          rw [if_neg (by omega)]
      simp -implicitDefEqProofs
end Go.Proofs.YtkoljbncokmeaaaDoor
namespace Go.Proofs.YtkoljbncokmeaaaDoor
open Go Go.RowKit
set_option maxRecDepth 1000000
set_option linter.unusedSimpArgs false
set_option linter.unusedVariables false
set_option maxHeartbeats 1000000
/-- The first number other than 0 from a corner on. -/
noncomputable def nzJ (f : Nat → Nat → Int) (i : Nat) : Nat → Nat → Nat
  | 0, j => j
  | n + 1, j => @ite _ (f i j = 0) (Classical.propDecidable _) (nzJ f i n (j + 1)) j
noncomputable def nzI (f : Nat → Nat → Int) (w k : Nat) : Nat → Nat → Int × Int
  | 0, _ => (-1, -1)
  | n + 1, i => @ite _ (nzJ f i (w - k) k < w) (Classical.propDecidable _) ((i : Int), ((nzJ f i (w - k) k : Nat) : Int)) (nzI f w k n (i + 1))
noncomputable def nzZ (f : Nat → Nat → Int) (n w k : Nat) : Int × Int := nzI f w k (n - k) k
theorem nzJ_yes {f : Nat → Nat → Int} {i n j : Nat} (h : f i j = 0) : nzJ f i (n + 1) j = nzJ f i n (j + 1) := by rw [nzJ, if_pos h]
theorem nzJ_no {f : Nat → Nat → Int} {i n j : Nat} (h : ¬ f i j = 0) : nzJ f i (n + 1) j = j := by rw [nzJ, if_neg h]
theorem nzI_yes {f : Nat → Nat → Int} {w k n i : Nat} (h : nzJ f i (w - k) k < w) : nzI f w k (n + 1) i = ((i : Int), ((nzJ f i (w - k) k : Nat) : Int)) := by rw [nzI, if_pos h]
theorem nzI_no {f : Nat → Nat → Int} {w k n i : Nat} (h : ¬ nzJ f i (w - k) k < w) : nzI f w k (n + 1) i = nzI f w k n (i + 1) := by rw [nzI, if_neg h]
theorem nzJ_spec (f : Nat → Nat → Int) (i : Nat) : ∀ n j, j ≤ nzJ f i n j ∧ nzJ f i n j ≤ j + n ∧ (∀ b, j ≤ b → b < nzJ f i n j → f i b = 0) ∧ (nzJ f i n j < j + n → f i (nzJ f i n j) ≠ 0)
  | 0, j => ⟨Nat.le_refl _, Nat.le_refl _, fun b h1 h2 => by simp [nzJ] at h2; omega, fun h => by simp [nzJ] at h⟩
  | n + 1, j => by
    by_cases h : f i j = 0
    · rw [nzJ_yes h]
      obtain ⟨h1, h2, h3, h4⟩ := nzJ_spec f i n (j + 1)
      refine ⟨by omega, by omega, fun b hb hb2 => ?_, fun hh => h4 (by omega)⟩
      by_cases e : b = j
      · rw [e]; exact h
      · exact h3 b (by omega) hb2
    · rw [nzJ_no h]
      exact ⟨Nat.le_refl _, by omega, fun b h1 h2 => by omega, fun _ => h⟩
theorem nzI_spec (f : Nat → Nat → Int) (w k : Nat) : ∀ n i, (nzI f w k n i = (-1, -1) ∧ ∀ a b, i ≤ a → a < i + n → k ≤ b → b < w → f a b = 0) ∨ ∃ a b : Nat, nzI f w k n i = ((a : Int), (b : Int)) ∧ i ≤ a ∧ a < i + n ∧ k ≤ b ∧ b < w ∧ f a b ≠ 0
  | 0, i => .inl ⟨rfl, fun a b h1 h2 => by omega⟩
  | n + 1, i => by
    obtain ⟨h1, h2, h3, h4⟩ := nzJ_spec f i (w - k) k
    by_cases h : nzJ f i (w - k) k < w
    · rw [nzI_yes h]
      exact .inr ⟨_, _, rfl, Nat.le_refl _, by omega, h1, h, h4 (by omega)⟩
    · rw [nzI_no h]
      rcases nzI_spec f w k n (i + 1) with ⟨e, hz⟩ | ⟨a, b, e, c1, c2, c3, c4, c5⟩
      · refine .inl ⟨e, fun a b ha1 ha2 hb1 hb2 => ?_⟩
        by_cases e2 : a = i
        · rw [e2]; exact h3 b hb1 (by omega)
        · exact hz a b (by omega) (by omega) hb1 hb2
      · exact .inr ⟨a, b, e, by omega, by omega, c3, c4, c5⟩
theorem nzZ_spec (f : Nat → Nat → Int) (n w k : Nat) : (nzZ f n w k = (-1, -1) ∧ ∀ a b, k ≤ a → a < n → k ≤ b → b < w → f a b = 0) ∨ ∃ a b : Nat, nzZ f n w k = ((a : Int), (b : Int)) ∧ k ≤ a ∧ a < n ∧ k ≤ b ∧ b < w ∧ f a b ≠ 0 := by
  rcases nzI_spec f w k (n - k) k with ⟨e, hz⟩ | ⟨a, b, e, c1, c2, c3, c4, c5⟩
  · exact .inl ⟨e, fun a b h1 h2 h3 h4 => hz a b h1 (by omega) h3 h4⟩
  · exact .inr ⟨a, b, e, c1, by omega, c3, c4, c5⟩
def sc_i_findNonZero_L2 : SC := (.seq (.seq (.reg [⟨(some 16), none, (.mov (.t 7))⟩, ⟨(some 17), none, (.mov (.t 0))⟩, ⟨(some 18), none, (.mov (.t 6))⟩, ⟨(some 19), none, (.idx 1 (.t 17) (.t 18))⟩, ⟨(some 20), none, (.ld none .nil (.t 19))⟩, ⟨(some 21), none, (.len (.t 20))⟩, ⟨(some 22), none, (.bin false .lss (.t 16) (.t 21))⟩]) (.cond (.t 22) .skip (.exit 2))) (.seq (.block 3 (.seq (.reg [⟨(some 25), none, (.mov (.t 0))⟩, ⟨(some 26), none, (.mov (.t 6))⟩, ⟨(some 27), none, (.idx 1 (.t 25) (.t 26))⟩, ⟨(some 28), none, (.ld none .nil (.t 27))⟩, ⟨(some 29), none, (.mov (.t 7))⟩, ⟨(some 30), none, (.idx 1 (.t 28) (.t 29))⟩, ⟨(some 31), none, (.ld none (.int .i64 0) (.t 30))⟩, ⟨(some 32), none, (.bin false .neq (.t 31) (.c (.int .i64 0)))⟩]) (.cond (.t 32) (.seq (.reg [⟨(some 33), none, (.mov (.t 6))⟩, ⟨(some 34), none, (.mov (.t 7))⟩, ⟨(some 4), none, (.mov (.t 33))⟩, ⟨(some 5), none, (.mov (.t 34))⟩]) .ret) .skip))) (.reg [⟨(some 23), none, (.mov (.t 7))⟩, ⟨(some 24), none, (.bin false .add (.t 23) (.c (.int .i64 1)))⟩, ⟨(some 7), none, (.mov (.t 24))⟩])))
def sc_i_findNonZero_L0 : SC := (.seq (.seq (.reg [⟨(some 9), none, (.mov (.t 6))⟩, ⟨(some 10), none, (.mov (.t 0))⟩, ⟨(some 11), none, (.len (.t 10))⟩, ⟨(some 12), none, (.bin false .lss (.t 9) (.t 11))⟩]) (.cond (.t 12) .skip (.exit 0))) (.seq (.block 1 (.seq (.reg [⟨(some 15), none, (.mov (.t 1))⟩, ⟨(some 7), none, (.mov (.t 15))⟩]) (.block 2 (.loop sc_i_findNonZero_L2)))) (.reg [⟨(some 13), none, (.mov (.t 6))⟩, ⟨(some 14), none, (.bin false .add (.t 13) (.c (.int .i64 1)))⟩, ⟨(some 6), none, (.mov (.t 14))⟩])))
def sc_i_findNonZero : SC := (.seq (.reg [⟨(some 4), none, (.mov (.c (.int .i64 0)))⟩, ⟨(some 5), none, (.mov (.c (.int .i64 0)))⟩]) (.seq (.seq (.reg [⟨(some 8), none, (.mov (.t 1))⟩, ⟨(some 6), none, (.mov (.t 8))⟩]) (.block 0 (.loop sc_i_findNonZero_L0))) (.seq (.reg [⟨(some 4), none, (.mov (.c (.int .i64 (-1))))⟩, ⟨(some 5), none, (.mov (.c (.int .i64 (-1))))⟩]) .ret)))
theorem code_i_findNonZero : fnCode Tryd.prog [] 67 = some (35, sc_i_findNonZero, [(4, none), (5, none)]) := by kernel_rfl
noncomputable def F_i_findNonZero : List V → Option V := F2 dLL dI fun M k => @ite _ (lowB M ∧ 0 ≤ k ∧ k ≤ 64) (Classical.propDecidable _) (some (.tup [.int .i64 (nzZ (ent M) M.length (wdM M) k.toNat).1, .int .i64 (nzZ (ent M) M.length (wdM M) k.toNat).2])) none
theorem fn_i_findNonZero : FnOk Tryd.prog 67 F_i_findNonZero := by
  have env := envNil_ok (P := Tryd.prog)
  refine fn_ok code_i_findNonZero mixed env ?_
  intro args r h hb
  obtain ⟨_, _, M, k, rfl, h1, h2, h4⟩ := F2_inv h
  cases dLL_inv h1
  cases dI_inv h2
  simp only [Option.ite_none_right_eq_some, Option.some.injEq] at h4
  obtain ⟨⟨⟨hr, hbd, hn, hw⟩, hk0, hk1⟩, rfl⟩ := h4
  clear h
  obtain ⟨k, rfl⟩ : ∃ q : Nat, k = q := ⟨k.toNat, by omega⟩
  rw [Int.toNat_natCast]
  refine ⟨by simp, fun w0 U0 L0 N0 => ?_⟩
  clear hb
  generalize wdM M = w at *
  unfold nzZ
  generalize hR : nzI (ent M) w k (M.length - k) k = R
  simp -implicitDefEqProofs [sc_i_findNonZero]
  refine loopI env mixed (fun i : Nat => [(0, .list 1 (rowsL M)), (1, .int .i64 (k : Int)), (6, .int .i64 (i : Int))]) (fun _ => ([], 0)) (fun i => k ≤ i ∧ (i ≤ M.length ∨ i = k) ∧ nzI (ent M) w k (M.length - i) i = R) (fun i => M.length - i) k ⟨Nat.le_refl k, .inr rfl, hR⟩ (SubI.slots rfl (by simp)) ?_
  rintro i ⟨hki, ht, hI⟩
  by_cases hlt : i < M.length
  · have hri := hr i hlt
    rw [show M.length - i = (M.length - (i + 1)) + 1 by omega] at hI
    generalize hq : nzJ (ent M) i (w - k) k = q at *
    simp -implicitDefEqProofs [sc_i_findNonZero_L0, hlt]
    refine loopQ env mixed (fun j : Nat => [(0, .list 1 (rowsL M)), (1, .int .i64 (k : Int)), (6, .int .i64 (i : Int)), (7, .int .i64 (j : Int))]) (fun _ => ([], 0)) (fun j => k ≤ j ∧ (j ≤ w ∨ j = k) ∧ nzJ (ent M) i (w - j) j = q) (fun j => w - j) k ⟨Nat.le_refl k, .inr rfl, hq⟩ (SubI.slots rfl (by simp)) ?_
    rintro j ⟨hkj, hu, hJ⟩
    by_cases hlt2 : j < w
    · rw [show w - j = (w - (j + 1)) + 1 by omega] at hJ
      by_cases hz : at0 (atR M i) j = 0
      · rw [nzJ_yes (show ent M i j = 0 from hz)] at hJ
        simp -implicitDefEqProofs [sc_i_findNonZero_L2, hlt, hri, hlt2, rowsL_dR hlt, hz]
        repeat' (first | omega | apply And.intro)
        exact Again.of (j + 1) ⟨by omega, by omega, hJ⟩ (by omega) (SubI.slots rfl (by simp (disch := omega) [wrapI]))
      · rw [nzJ_no (show ¬ ent M i j = 0 from hz)] at hJ
        subst hJ
        rw [nzI_yes (by rw [hq]; exact hlt2), hq] at hI
        subst hI
        simp -implicitDefEqProofs [sc_i_findNonZero_L2, hlt, hri, hlt2, rowsL_dR hlt, hz]
        repeat' (first | omega | apply And.intro)
        refine SubQ.of (l1 := [(4, .int .i64 (i : Int)), (5, .int .i64 (j : Int))]) (SubI.slots rfl (by simp)) ?_
        simp -implicitDefEqProofs
    · have : q = j := by rw [← hJ, show w - j = 0 by omega]; rfl
      rw [nzI_no (by rw [hq]; omega)] at hI
      simp -implicitDefEqProofs [sc_i_findNonZero_L2, hlt, hri, hlt2, rowsL_dR hlt]
      repeat' (first | omega | apply And.intro)
      refine SubQ.of (l1 := [(0, .list 1 (rowsL M)), (1, .int .i64 (k : Int)), (6, .int .i64 (i : Int))]) (SubI.slots rfl (by simp)) ?_
      simp -implicitDefEqProofs
      exact Again.of (i + 1) ⟨by omega, by omega, hI⟩ (by omega) (SubI.slots rfl (by simp (disch := omega) [wrapI]))
  · have : R = (-1, -1) := by rw [← hI, show M.length - i = 0 by omega]; rfl
    subst this
    simp -implicitDefEqProofs [sc_i_findNonZero_L0, hlt]
end Go.Proofs.YtkoljbncokmeaaaDoor
