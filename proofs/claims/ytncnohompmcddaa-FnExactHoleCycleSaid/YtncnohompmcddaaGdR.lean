import Derived.Test.YtncnohompmcddaaGdQ
namespace Go.Proofs.Ytncnohompmcddaa
open Go Go.RowKit
set_option maxRecDepth 1000000
set_option linter.unusedSimpArgs false
set_option linter.unusedVariables false
set_option maxHeartbeats 1000000
theorem fndZ_zero {M : List (List Int)} {j : Nat} (k : Nat) : ∀ i, (∀ q, i ≤ q → q < i + k → at0 (atR M q) j = 0) → fndZ M j k i = i + k := by
  induction k with
  | zero => intro i _; rfl
  | succ k ih =>
    intro i h
    rw [fndZ_yes (h i (Nat.le_refl _) (by omega)), ih (i + 1) fun q h1 h2 => h q (by omega) (by omega)]
    omega
theorem fndZ_hit {M : List (List Int)} {j : Nat} (k : Nat) : ∀ i, fndZ M j k i < i + k → at0 (atR M (fndZ M j k i)) j ≠ 0 := by
  induction k with
  | zero => intro i h; simp [fndZ] at h
  | succ k ih =>
    intro i h
    by_cases hz : at0 (atR M i) j = 0
    · rw [fndZ_yes hz] at h ⊢
      exact ih (i + 1) (by omega)
    · rw [fndZ_no hz]; exact hz
/-- A matrix with one more column. -/
def wideG (M : List (List Int)) (x : List Int) (i : Nat) : List Int := atR M i ++ [at0 x i]
noncomputable def wideM (M : List (List Int)) (x : List Int) : List (List Int) := pM M (wideG M x) M.length
@[simp] theorem wideM_len (M : List (List Int)) (x : List Int) : (wideM M x).length = M.length := by simp [wideM]
theorem wideM_at {M : List (List Int)} (x : List Int) {i : Nat} (h : i < M.length) : atR (wideM M x) i = atR M i ++ [at0 x i] := pM_lt h h
theorem at0_wide {M : List (List Int)} {x : List Int} {w i j : Nat} (h : i < M.length) (hw : (atR M i).length = w) : at0 (atR (wideM M x) i) j = if j < w then at0 (atR M i) j else if j = w then at0 x i else 0 := by
  rw [wideM_at x h, at0_app, hw]
  by_cases h1 : j < w
  · simp [h1]
  · by_cases h2 : j = w
    · simp [h2, at0]
    · have : ∃ q, j - w = q + 1 := ⟨j - w - 1, by omega⟩
      obtain ⟨q, hq⟩ := this
      simp [h1, h2, hq, at0]
theorem mod_wide {M : List (List Int)} {x : List Int} {p : Int} {w : Nat} (hx : inP p x) (hl : x.length = M.length) (hw : ∀ i, i < M.length → (atR M i).length = w) : modM p (wideM M x) = wideM (modM p M) x := atR_ext (by simp) fun i hi => by
  rw [modM_len, wideM_len] at hi
  have hi2 : i < (modM p M).length := by simpa using hi
  rw [modM_at (by simpa using hi), wideM_at x hi2]
  have hwi := hw i hi
  have h1 : (atR (wideM M x) i).length = w + 1 := by rw [wideM_at x hi]; simp [hwi]
  apply at0_ext
  · rw [rowF_len, h1, List.length_append, modM_at hi, rowF_len, hwi]; rfl
  · intro j hj
    rw [rowF_len] at hj
    rw [rowF_at hj, at0_wide hi hwi, at0_app, modM_at hi, rowF_len, hwi]
    by_cases h2 : j < w
    · rw [if_pos h2, if_pos h2, rowF_at h2]
    · have h3 : j = w := by omega
      subst h3
      obtain ⟨e1, e2⟩ := hx i (by omega)
      rw [if_neg h2, if_pos rfl, if_neg h2, Nat.sub_self, Int.emod_eq_of_lt e1 e2]
      simp [at0]
/-- The numbers of the last column at the pivots' places. -/
def filK (R : List (List Int)) (P : List Int) (w : Nat) : Nat → List Int
  | 0 => List.replicate w 0
  | i + 1 => (filK R P w i).set (at0 P i).toNat (at0 (atR R i) w)
@[simp] theorem filK_len (R : List (List Int)) (P : List Int) (w : Nat) : ∀ i, (filK R P w i).length = w
  | 0 => by simp [filK]
  | i + 1 => by simp [filK, filK_len R P w i]
noncomputable def flR (p : Int) (M : List (List Int)) (x : List Int) (w : Nat) : List (List Int) × List Int := redS p (modM p (wideM M x)) w
def filO (R : List (List Int)) (P : List Int) (w : Nat) : Prop := ∀ i, P.length ≤ i → i < R.length → at0 (atR R i) w = 0
open Classical in
noncomputable def filL (R : List (List Int)) (P : List Int) (w : Nat) : List Int := if filO R P w then filK R P w P.length else []
theorem filL_yes {R : List (List Int)} {P : List Int} {w : Nat} (h : filO R P w) : filL R P w = filK R P w P.length := if_pos h
theorem filL_no {R : List (List Int)} {P : List Int} {w : Nat} (h : ¬ filO R P w) : filL R P w = [] := if_neg h
theorem red_last {p : Int} {w : Nat} {R : List (List Int)} {P : List Int} (hP : P.length ≤ R.length) : (filO R P w → redC p w (R, P) = (R, P)) ∧ (¬ filO R P w → ∃ R2, redC p w (R, P) = (R2, P ++ [(w : Int)]) ∧ R2.length = R.length) := by
  constructor
  · intro h
    refine redC_no fun ⟨h1, h2⟩ => ?_
    rw [fndZ_zero (R.length - P.length) P.length fun q h3 h4 => h q h3 (by omega)] at h2
    omega
  · intro h
    obtain ⟨i, h1, h2, h3⟩ : ∃ i, P.length ≤ i ∧ i < R.length ∧ at0 (atR R i) w ≠ 0 := Classical.byContradiction fun hn => h fun i h1 h2 => Classical.byContradiction fun h3 => hn ⟨i, h1, h2, h3⟩
    have hb := fndZ_bnd R w (R.length - P.length) P.length
    by_cases hf : fndZ R w (R.length - P.length) P.length < R.length
    · exact ⟨_, redC_yes rfl (by omega) hf, by simp⟩
    · exfalso
      -- no row was found
      have key : ∀ k d, fndZ R w k d = d + k → ∀ q, d ≤ q → q < d + k → at0 (atR R q) w = 0 := by
        intro k
        induction k with
        | zero => intro d _ q h1 h2; omega
        | succ k ih =>
          intro d hd q h1 h2
          by_cases hz : at0 (atR R d) w = 0
          · by_cases e : q = d
            · rw [e]; exact hz
            · rw [fndZ_yes hz] at hd
              exact ih (d + 1) (by omega) q (by omega) (by omega)
          · rw [fndZ_no hz] at hd; omega
      exact h3 (key (R.length - P.length) P.length (by omega) i h1 (by omega))
theorem redS_nil (p : Int) (j : Nat) : redS p [] j = ([], []) := by
  induction j with
  | zero => rfl
  | succ j ih =>
    rw [redS, ih]
    exact redC_no fun h => by simp at h
def filP (M : List (List Int)) (c : Int) (x : List Int) (p : Int) : Prop := fpP p ∧ inP p x ∧ x.length = M.length ∧ M.length ≤ 64 ∧ 0 ≤ c ∧ c ≤ 64 ∧ ∀ i, i < M.length → (atR M i).length = c.toNat
noncomputable def F_s_l16Fill : List V → Option V := F4 dLL dI dL dI fun M c x p => @ite _ (filP M c x p) (Classical.propDecidable _) (some (.tup [.own 1 (ints (filL (flR p M x c.toNat).1 (flR p M x c.toNat).2 c.toNat)), .bool (dec (filO (flR p M x c.toNat).1 (flR p M x c.toNat).2 c.toNat))])) none
def sc_s_l16Fill_L2 : SC := (.seq (.seq (.reg [⟨(some 46), none, (.mov (.t 15))⟩, ⟨(some 47), none, (.mov (.t 13))⟩, ⟨(some 48), none, (.len (.t 47))⟩, ⟨(some 49), none, (.bin false .lss (.t 46) (.t 48))⟩]) (.cond (.t 49) .skip (.exit 2))) (.seq (.block 3 (.seq (.seq (.reg [⟨(some 52), none, (.mov (.t 13))⟩, ⟨(some 53), none, (.mov (.t 15))⟩, ⟨(some 54), none, (.idx 1 (.t 52) (.t 53))⟩, ⟨(some 55), none, (.ld none (.int .i64 0) (.t 54))⟩, ⟨(some 56), none, (.mov (.t 1))⟩, ⟨(some 57), none, (.bin false .eql (.t 55) (.t 56))⟩]) (.cond (.t 57) (.seq (.reg [⟨(some 58), none, (.mks 0 1 [] [])⟩, ⟨(some 8), none, (.mov (.t 58))⟩, ⟨(some 9), none, (.mov (.c (.bool false)))⟩]) .ret) .skip)) (.dreg [⟨⟨(some 59), none, (.mov (.t 14))⟩, false, false⟩, ⟨⟨(some 60), none, (.mov (.t 13))⟩, false, false⟩, ⟨⟨(some 61), none, (.mov (.t 15))⟩, false, false⟩, ⟨⟨(some 62), none, (.idx 1 (.t 60) (.t 61))⟩, false, false⟩, ⟨⟨(some 63), none, (.ld none (.int .i64 0) (.t 62))⟩, false, false⟩, ⟨⟨(some 64), none, (.mov (.t 12))⟩, false, false⟩, ⟨⟨(some 65), none, (.mov (.t 15))⟩, false, false⟩, ⟨⟨(some 66), none, (.idx 1 (.t 64) (.t 65))⟩, false, false⟩, ⟨⟨(some 67), none, (.ld none .nil (.t 66))⟩, false, false⟩, ⟨⟨(some 68), none, (.mov (.t 1))⟩, false, false⟩, ⟨⟨(some 69), none, (.idx 1 (.t 67) (.t 68))⟩, false, false⟩, ⟨⟨(some 70), none, (.ld none (.int .i64 0) (.t 69))⟩, false, false⟩, ⟨⟨(some 71), none, (.idx 1 (.t 59) (.t 63))⟩, false, false⟩, ⟨⟨none, none, (.st 1 (.t 71) (.t 70))⟩, true, false⟩]))) (.reg [⟨(some 50), none, (.mov (.t 15))⟩, ⟨(some 51), none, (.bin false .add (.t 50) (.c (.int .i64 1)))⟩, ⟨(some 15), none, (.mov (.t 51))⟩])))
def sc_s_l16Fill_L0 : SC := (.seq (.seq (.reg [⟨(some 17), none, (.mov (.t 11))⟩, ⟨(some 18), none, (.mov (.t 0))⟩, ⟨(some 19), none, (.len (.t 18))⟩, ⟨(some 20), none, (.bin false .lss (.t 17) (.t 19))⟩]) (.cond (.t 20) .skip (.exit 0))) (.seq (.block 1 (.treg (.fst ⟨(some 23), none, (.mov (.t 10))⟩ true (.fst ⟨(some 25), none, (.mov (.t 0))⟩ true (.fst ⟨(some 26), none, (.mov (.t 11))⟩ true (.fst ⟨(some 27), none, (.idx 1 (.t 25) (.t 26))⟩ true (.fst ⟨(some 28), none, (.ld none .nil (.t 27))⟩ true (.fst ⟨(some 30), none, (.mov (.t 2))⟩ true (.fst ⟨(some 31), none, (.mov (.t 11))⟩ true (.fst ⟨(some 32), none, (.idx 1 (.t 30) (.t 31))⟩ true (.fst ⟨(some 33), none, (.ld none (.int .i64 0) (.t 32))⟩ true (.alt ⟨(some 24), none, (.mks 0 1 [] [])⟩ true (.alt ⟨(some 29), none, (.app 1 8 (.t 24) (.t 28))⟩ true (.alt ⟨(some 34), none, (.mks 1 1 [(.int .i64 0)] [(0, (1, (.t 33)))])⟩ true (.alt ⟨(some 35), none, (.app 1 8 (.t 29) (.t 34))⟩ true (.alt ⟨(some 36), none, (.mks 1 1 [.nil] [(0, (1, (.t 35)))])⟩ true (.alt ⟨(some 37), none, (.app 1 24 (.t 23) (.t 36))⟩ true (.fst ⟨(some 10), none, (.mov (.t 37))⟩ false .done) .stop) .stop) .stop) .stop) (.alt ⟨(some 34), none, (.mks 1 1 [(.int .i64 0)] [(0, (1, (.t 33)))])⟩ true (.alt ⟨(some 29), none, (.app 1 8 (.t 24) (.t 28))⟩ true (.alt ⟨(some 35), none, (.app 1 8 (.t 29) (.t 34))⟩ true (.alt ⟨(some 36), none, (.mks 1 1 [.nil] [(0, (1, (.t 35)))])⟩ true (.alt ⟨(some 37), none, (.app 1 24 (.t 23) (.t 36))⟩ true (.fst ⟨(some 10), none, (.mov (.t 37))⟩ false .done) .stop) .stop) .stop) .stop) .stop)) (.alt ⟨(some 34), none, (.mks 1 1 [(.int .i64 0)] [(0, (1, (.t 33)))])⟩ true (.alt ⟨(some 24), none, (.mks 0 1 [] [])⟩ true (.alt ⟨(some 29), none, (.app 1 8 (.t 24) (.t 28))⟩ true (.alt ⟨(some 35), none, (.app 1 8 (.t 29) (.t 34))⟩ true (.alt ⟨(some 36), none, (.mks 1 1 [.nil] [(0, (1, (.t 35)))])⟩ true (.alt ⟨(some 37), none, (.app 1 24 (.t 23) (.t 36))⟩ true (.fst ⟨(some 10), none, (.mov (.t 37))⟩ false .done) .stop) .stop) .stop) .stop) .stop) .stop))))))))))))) (.reg [⟨(some 21), none, (.mov (.t 11))⟩, ⟨(some 22), none, (.bin false .add (.t 21) (.c (.int .i64 1)))⟩, ⟨(some 11), none, (.mov (.t 22))⟩])))
def sc_s_l16Fill : SC := (.seq (.reg [⟨(some 8), none, (.mov (.c .nil))⟩, ⟨(some 9), none, (.mov (.c (.bool false)))⟩]) (.seq (.reg [⟨(some 16), none, (.mks 0 1 [] [])⟩, ⟨(some 10), none, (.mov (.t 16))⟩]) (.seq (.seq (.reg [⟨(some 11), none, (.mov (.c (.int .i64 0)))⟩]) (.block 0 (.loop sc_s_l16Fill_L0))) (.seq (.reg [⟨(some 39), none, (.mov (.t 10))⟩, ⟨(some 40), none, (.mov (.t 3))⟩, ⟨(some 41), none, (.call 52 [(.t 39), (.t 40)])⟩, ⟨(some 38), none, (.mov (.t 41))⟩, ⟨(some 42), none, (.ext 0 (.t 38))⟩, ⟨(some 43), none, (.ext 1 (.t 38))⟩, ⟨(some 12), none, (.mov (.t 42))⟩, ⟨(some 13), none, (.mov (.t 43))⟩]) (.seq (.reg [⟨(some 44), none, (.mov (.t 1))⟩, ⟨(some 45), none, (.mk 1 8 [(.int .i64 0)] (.t 44) (.t 44))⟩, ⟨(some 14), none, (.mov (.t 45))⟩]) (.seq (.seq (.reg [⟨(some 15), none, (.mov (.c (.int .i64 0)))⟩]) (.block 2 (.loop sc_s_l16Fill_L2))) (.seq (.reg [⟨(some 72), none, (.mov (.t 14))⟩, ⟨(some 8), none, (.mov (.t 72))⟩, ⟨(some 9), none, (.mov (.c (.bool true)))⟩]) .ret)))))))
theorem code_s_l16Fill : fnCode Try.prog [999999] 90 = some (73, sc_s_l16Fill, [(8, none), (9, none)]) := by kernel_rfl
theorem fn_s_l16Fill : FnOk Try.prog 90 F_s_l16Fill := by
  have env := (envNil_ok (P := Try.prog)).add fn_s_l13Reduce
  refine fn_ok code_s_l16Fill mixed env ?_
  intro args r h hb
  obtain ⟨_, _, _, _, M, c, x, p, rfl, h1, h2, h3, h5, h4⟩ := F4_inv h
  cases dLL_inv h1
  cases dI_inv h2
  cases dL_inv h3
  cases dI_inv h5
  simp only [Option.ite_none_right_eq_some, Option.some.injEq] at h4
  obtain ⟨⟨hp, hx, hxl, hml, hc0, hc6, hw⟩, rfl⟩ := h4
  clear h
  obtain ⟨w, rfl⟩ : ∃ n : Nat, c = n := ⟨c.toNat, by omega⟩
  rw [Int.toNat_natCast] at hw ⊢
  refine ⟨by simp, fun w0 U0 L0 N0 => ?_⟩
  clear hb
  have hwl := wideM_len M x
  have hwa := fun (i : Nat) (hi : i < M.length) => wideM_at x hi
  have hrl : ∀ i, i < (wideM M x).length → (atR (wideM M x) i).length = w + 1 := fun i hi => by
    rw [wideM_len] at hi
    rw [hwa i hi, List.length_append, hw i hi]; rfl
  have hF : ∃ R P, F_s_l13Reduce [.list 1 (rowsL (wideM M x)), .int .i64 p] = some (.tup [.own 1 (rowsV R), .own 1 (ints P)]) ∧ (R, P) = redS p (modM p (wideM M x)) (w + 1) := by
    refine ⟨(redS p (modM p (wideM M x)) (w + 1)).1, (redS p (modM p (wideM M x)) (w + 1)).2, ?_, rfl⟩
    simp only [F_s_l13Reduce, F2_mk, dLL_list, dI_int, Option.bind_some]
    have hrec : recM (wideM M x) := ⟨⟨by omega, fun i hi => by rw [hrl i hi]; omega⟩, fun i hi => by rw [hrl i hi, hrl 0 (by omega)]⟩
    rw [if_pos ⟨hp, hrec⟩]
    by_cases h0 : 0 < M.length
    · rw [hrl 0 (by omega)]
    · have e : wideM M x = [] := List.length_eq_zero_iff.1 (by omega)
      have e2 : modM p [] = [] := List.length_eq_zero_iff.1 (by simp)
      rw [e, e2, redS_nil, redS_nil]
  obtain ⟨R, P, hFR, hRP⟩ := hF
  have hfl : flR p M x w = redS p (modM p (wideM M x)) w := rfl
  have hI := redI_all hp (okM_mod (p := p) hp hrl) w
  have hR : (R, P) = redC p w (flR p M x w) := hRP
  rw [← hfl] at hI
  have hI2 := redI_all hp (okM_mod (p := p) hp hrl) (w + 1)
  rw [← hRP] at hI2
  obtain ⟨hokR, _, hPR, _, _⟩ := hI2
  simp only at hokR hPR
  clear hRP hfl
  generalize flR p M x w = x1 at *
  obtain ⟨R1, P1⟩ := x1
  obtain ⟨_, hl1, hp1, hj1, hs1⟩ := hI
  simp only [modM_len, hwl] at hl1 hp1 hj1 hs1
  obtain ⟨hlast1, hlast2⟩ := red_last (p := p) (w := w) hp1
  simp only
  generalize wideM M x = O at *
  simp -implicitDefEqProofs [sc_s_l16Fill]
  refine loopI env mixed (fun i : Nat => [(0, .list 1 (rowsL M)), (1, .int .i64 (w : Int)), (2, .list 1 (ints x)), (3, .int .i64 p), (10, .sl 0 1 0 i), (11, .int .i64 (i : Int))]) (fun i => ([(0, rowsV (O.take i))], 1)) (fun i => i ≤ M.length) (fun i => M.length - i) 0 (by simp) (SubI.slots (by simp) (by simp)) ?_
  intro i hi
  by_cases hlt : i < M.length
  · have hiO : i < O.length := by omega
    have hix : i < x.length := by omega
    have hal := hrl i hiO
    have hai := hwa i hlt
    have hwi := hw i hlt
    have hsn := rowsV_snoc hiO (.sl 4 1 0 (w + 1))
    have gl : (rowsV (O.take i)).length = i := by simp; omega
    have hd0 := rowsL_drop0 hlt .nil
    have htt : (O.take i).take i = O.take i := List.take_of_length_le (by simp; omega)
    have hrow : ints ((atR M i).take w) ++ [V.int .i64 (at0 x i)] = ints (atR O i) := by
      rw [List.take_of_length_le (by omega), hai, ← ints_app]
      rfl
    have fin : ∀ (T : Tm) (z : Nat) (Z : List V), z ≠ 4 → z ≠ 6 → subE T [(0, .list 1 (rowsL M)), (1, .int .i64 (w : Int)), (2, .list 1 (ints x)), (3, .int .i64 p), (10, .sl 6 1 0 (i + 1)), (11, .int .i64 ((i + 1 : Nat) : Int))] →
        SubI 0 T ([(6, rowsV (O.take i) ++ [.sl 4 1 0 (w + 1)]), (5, [.sl 4 1 0 (w + 1)]), (4, ints (atR O i)), (z, Z)], 7) [(0, .list 1 (rowsL M)), (1, .int .i64 (w : Int)), (2, .list 1 (ints x)), (3, .int .i64 p), (10, .sl 0 1 0 (i + 1)), (11, .int .i64 ((i + 1 : Nat) : Int))] ([(0, rowsV (O.take (i + 1)))], 1) := fun T z Z hz1 hz2 hT => by
      refine SubI.fold 6 4 i 1 (w + 1) (cn := ints (atR O i)) (co := rowsV (O.take i) ++ [.sl 4 1 0 (w + 1)]) (by simp) (by simp) (by rw [List.getElem?_append_right (by omega), gl, Nat.sub_self]; rfl) (by simp [hal]) ?_
      simp only [subE_cons, subE_nil, and_true] at hT
      obtain ⟨t1, t2, t3, t4, t5, t6⟩ := hT
      rw [hsn]
      refine SubI.ren (fun m => if m = 0 then some 6 else none) ?_ ?_ ?_ (by simp) (by simp)
      · simp [subT, renV, ren1, ← t1, ← t2, ← t3, ← t4, ← t5, ← t6]
      · simp [subH, renL, ren1]
      · intro m hm
        simp only at hm
        rw [if_neg (by omega)]
    simp -implicitDefEqProofs [sc_s_l16Fill_L0, freeOk, hlt, hix, hd0, hwi, gl]
    rw [htt, hrow]
    refine ⟨by omega, by omega, ⟨⟨by omega, by omega, by omega, ?_⟩, by omega, by omega, by omega, ?_⟩, by omega, by omega, by omega, ?_⟩
    · exact Again.of (i + 1) (by omega) (by omega) (fin _ 3 _ (by omega) (by omega) (by simp (disch := omega) [wrapI]))
    · exact Again.of (i + 1) (by omega) (by omega) (fin _ 2 _ (by omega) (by omega) (by simp (disch := omega) [wrapI]))
    · exact Again.of (i + 1) (by omega) (by omega) (fin _ 1 _ (by omega) (by omega) (by simp (disch := omega) [wrapI]))
  · have : i = M.length := by omega
    subst this
    have ht : O.take M.length = O := List.take_of_length_le (by omega)
    rw [ht]
    have hw1 : (0 : Int) ≤ w := by omega
    simp -implicitDefEqProofs [sc_s_l16Fill_L0, hwl, ht, hFR]
    refine ⟨by omega, ?_⟩
    have hR2 : R.length = M.length := by
      by_cases hO : filO R1 P1 w
      · have e := hR.trans (hlast1 hO)
        rw [show R = R1 from congrArg Prod.fst e]; exact hl1
      · obtain ⟨R2, e1, e2⟩ := hlast2 hO
        have e := hR.trans e1
        rw [show R = R2 from congrArg Prod.fst e, e2]; exact hl1
    have hA : filO R1 P1 w → R = R1 ∧ P = P1 := fun hO => by
      have e := hR.trans (hlast1 hO)
      exact ⟨congrArg Prod.fst e, congrArg Prod.snd e⟩
    have hB : ¬ filO R1 P1 w → P = P1 ++ [(w : Int)] := fun hO => by
      obtain ⟨R2, e1, _⟩ := hlast2 hO
      exact congrArg Prod.snd (hR.trans e1)
    have hPq : ∀ q, q < P1.length → q < P.length ∧ at0 P q = at0 P1 q := fun q hq => by
      by_cases hO : filO R1 P1 w
      · rw [(hA hO).2]; exact ⟨hq, rfl⟩
      · rw [hB hO, List.length_append, at0_app, if_pos hq]
        exact ⟨by omega, rfl⟩
    clear hR hlast1 hlast2 hFR hwa hrl
    refine loopU env mixed (fun i : Nat => [(1, .int .i64 (w : Int)), (12, .sl 1 1 0 R.length), (13, .sl 2 1 0 P.length), (14, .sl 3 1 0 w), (15, .int .i64 (i : Int))]) (fun i => ([(3, ints (filK R P w i)), (2, ints P), (1, rowsV R), (0, rowsV O)], 4)) (fun i => i ≤ P1.length) (fun i => P1.length - i) 0 (by simp) (SubI.slots (by simp [filK]) (by simp)) ?_
    intro i hi
    by_cases hlt2 : i < P1.length
    · obtain ⟨hiP, hiq⟩ := hPq i hlt2
      obtain ⟨e1, e2⟩ := hj1 i hlt2
      rw [← hiq] at e1 e2
      have hiR : i < R.length := by omega
      obtain ⟨hrl, _⟩ := hokR i hiR
      obtain ⟨q, hq⟩ : ∃ q : Nat, at0 P i = q := ⟨(at0 P i).toNat, by omega⟩
      have hqw : q < w := by omega
      have hqn : ¬ ((q : Int) = (w : Int)) := by omega
      have hstep : filK R P w (i + 1) = (filK R P w i).set q (at0 (atR R i) w) := by rw [filK, hq, Int.toNat_natCast]
      have hkl := filK_len R P w i
      have hself := rowsV_self (M := R) (i := i) hiR
      refine ⟨[(1, .int .i64 (w : Int)), (12, .sl 1 1 0 R.length), (13, .sl 2 1 0 P.length), (14, .sl 3 1 0 w), (15, .int .i64 (i : Int))], ([(4, ints (atR R i)), (3, ints (filK R P w i)), (2, ints P), (1, (rowsV R).set i (.sl 4 1 0 (w + 1))), (0, rowsV O)], 5), ?_, ?_⟩
      · refine SubI.unfold 1 i 1 (co := rowsV R) (cn := ints (atR R i)) rfl (by rw [rowsV_get hiR]) (by omega) ?_
        exact SubI.slots (by simp [hrl]) (by simp)
      generalize filK R P w i = g at *
      simp -implicitDefEqProofs [sc_s_l16Fill_L2, hiP, hiR, hq, hqn, hqw, hkl, hrl]
      repeat' (first | omega | apply And.intro)
      refine Again.of (i + 1) (by omega) (by omega) ?_
      refine SubI.fold 1 4 i 1 (w + 1) (cn := ints (atR R i)) (co := (rowsV R).set i (.sl 4 1 0 (w + 1))) rfl rfl (by simp [hiR]) (by simp [hrl]) ?_
      refine SubI.ren (fun m => if m = 0 then some 0 else if m = 1 then some 1 else if m = 2 then some 2 else if m = 3 then some 3 else none) ?_ ?_ ?_ (by simp) (by simp)
      · simp (disch := omega) [subT, renV, ren1, wrapI]
      · simp [subH, renL, ren1, hself, hstep]
      · intro m hm
        simp only at hm
        rw [if_neg (by omega), if_neg (by omega), if_neg (by omega), if_neg (by omega)]
    · have hi2 : i = P1.length := by omega
      refine ⟨[(1, .int .i64 (w : Int)), (12, .sl 1 1 0 R.length), (13, .sl 2 1 0 P.length), (14, .sl 3 1 0 w), (15, .int .i64 (i : Int))], ([(3, ints (filK R P w i)), (2, ints P), (1, rowsV R), (0, rowsV O)], 4), SubI.slots rfl (by simp), ?_⟩
      by_cases hO : filO R1 P1 w
      · obtain ⟨eR, eP⟩ := hA hO
        subst eR eP
        rw [filL_yes hO, dec_true hO]
        subst hi2
        have htk : (filK R P w P.length).take w = filK R P w P.length := List.take_of_length_le (by simp)
        simp -implicitDefEqProofs [sc_s_l16Fill_L2, htk]
        try omega
      · have eP := hB hO
        rw [filL_no hO, dec_false hO]
        have hiP : i < P.length := by rw [eP, hi2]; simp
        have hat : at0 P i = w := by rw [eP, hi2, at0_app]; simp [at0]
        simp -implicitDefEqProofs [sc_s_l16Fill_L2, hiP, hat]
        try omega
end Go.Proofs.Ytncnohompmcddaa
