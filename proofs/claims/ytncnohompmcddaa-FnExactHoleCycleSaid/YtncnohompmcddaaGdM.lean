import Derived.Test.YtncnohompmcddaaGdL
namespace Go.Proofs.Ytncnohompmcddaa
open Go Go.RowKit
set_option maxRecDepth 1000000
set_option linter.unusedSimpArgs false
set_option linter.unusedVariables false
set_option maxHeartbeats 1000000
/-- A row of zeros whose first t places are taken from g. -/
noncomputable def zK (m : Nat) (g : Nat → Int) (t : Nat) : List Int := rowF m fun q => @ite _ (q < t) (Classical.propDecidable _) (g q) 0
@[simp] theorem zK_len (m : Nat) (g : Nat → Int) (t : Nat) : (zK m g t).length = m := by simp [zK]
theorem zK_zero (m : Nat) (g : Nat → Int) : zK m g 0 = List.replicate m 0 := by
  rw [rowF_zero]
  exact rowF_congr fun j _ => by rw [if_neg (by omega)]
theorem zK_full (m : Nat) (g : Nat → Int) : zK m g m = rowF m g := rowF_congr fun j hj => by rw [if_pos hj]
theorem zK_set {m : Nat} {g : Nat → Int} {j : Nat} (h : j < m) : (zK m g j).set j (g j) = zK m g (j + 1) := by
  unfold zK
  rw [rowF_set h]
  refine rowF_congr fun i hi => ?_
  by_cases e : i = j
  · rw [if_pos e, e, if_pos (by omega)]
  · rw [if_neg e]
    by_cases h3 : i < j
    · rw [if_pos h3, if_pos (by omega)]
    · rw [if_neg h3, if_neg (by omega)]
/-- The remainders of a matrix. -/
noncomputable def modG (p : Int) (M : List (List Int)) (i : Nat) : List Int := rowF (atR M i).length fun j => at0 (atR M i) j % p
noncomputable def modM (p : Int) (M : List (List Int)) : List (List Int) := pM M (modG p M) M.length
@[simp] theorem modM_len (p : Int) (M : List (List Int)) : (modM p M).length = M.length := by simp [modM]
theorem modM_at {p : Int} {M : List (List Int)} {i : Nat} (h : i < M.length) : atR (modM p M) i = rowF (atR M i).length fun j => at0 (atR M i) j % p := pM_lt h h
theorem okM_mod {p : Int} {w : Nat} {M : List (List Int)} (hp : fpP p) (h : ∀ i, i < M.length → (atR M i).length = w) : okM p w (modM p M) := fun i hi => by
  rw [modM_len] at hi
  rw [modM_at hi]
  refine ⟨by rw [rowF_len]; exact h i hi, fun j hj => ?_⟩
  rw [rowF_at (by rw [h i hi]; exact hj)]
  exact emodB hp
def lowM (M : List (List Int)) : Prop := M.length ≤ 64 ∧ ∀ i, i < M.length → (atR M i).length ≤ 128
noncomputable def F_i_modMatrix : List V → Option V := F2 dLL dI fun M p => @ite _ (fpP p ∧ lowM M) (Classical.propDecidable _) (some (.own 1 (rowsV (modM p M)))) none
theorem renL_set {r : Nat → Option Nat} {v v' : V} : ∀ {c c' : List V} {d : Nat}, renL r c = some c' → ren1 r v = some v' → renL r (c.set d v) = some (c'.set d v') := by
  intro c
  induction c with
  | nil => intro c' d h _; simp [renL] at h; subst h; rfl
  | cons a c ih =>
    intro c' d h hv
    unfold renL at h
    split at h
    · rename_i a' q e1 e2
      simp only [Option.some.injEq] at h
      subst h
      cases d with
      | zero => simp only [List.set_cons_zero, renL, hv, e2]
      | succ d => simp only [List.set_cons_succ, renL, e1, ih e2 hv]
    · simp at h
theorem renL_rowsV (r : Nat → Option Nat) (m : List (List Int)) : renL r (rowsV m) = some (rowsV m) := rowsV_ren r m
def dRowsV : List V → Option (List (List Int))
  | [] => some []
  | .own 1 c :: r => (dInts c).bind fun l => (dRowsV r).map (l :: ·)
  | _ => none
@[simp] theorem dRowsV_rowsV (m : List (List Int)) : dRowsV (rowsV m) = some m := by
  induction m with
  | nil => rfl
  | cons a m ih =>
    have e : rowsV (a :: m) = .own 1 (ints a) :: rowsV m := rfl
    simp [e, dRowsV, ih]
theorem dRowsV_inv : ∀ {c : List V} {m : List (List Int)}, dRowsV c = some m → c = rowsV m := by
  intro c
  induction c with
  | nil => intro m h; simp [dRowsV] at h; subst h; rfl
  | cons v c ih =>
    intro m h
    unfold dRowsV at h
    split at h
    · simp_all
    · rename_i n r e
      injection e with e1 e2
      subst e1 e2
      obtain ⟨l, h1, h2⟩ := Option.bind_eq_some_iff.1 h
      obtain ⟨q, h3, rfl⟩ := Option.map_eq_some_iff.1 h2
      rw [dInts_inv h1, ih h3]
      rfl
    · simp at h
theorem fn_inv_at {p : Int} (hp : fpP p) (a : Int) : F_s_InverseMod [.int .i64 a, .int .i64 p] = some (.int .i64 (invZ a p)) := by
  simp only [F_s_InverseMod, F2_mk, dI_int, Option.bind_some]
  rw [if_pos hp]
theorem rowsV_set2 (M : List (List Int)) (d : Nat) (r : List Int) (v : V) : (rowsV (M.set d r)).set d v = (rowsV M).set d v := by
  rw [← rowsV_set, List.set_set]
/-- One row more is done, another one has a name. -/
theorem rowsV_step {M : List (List Int)} {d i : Nat} (h : i ≠ d) (r : List Int) (v y : V) : ((((rowsV M).set d v).set i y).set i (.own 1 (ints r))) = (rowsV (M.set i r)).set d v := by
  rw [List.set_set, ← rowsV_set, List.set_comm _ _ (Ne.symm h)]
structure matI (p : Int) (w m : Nat) (M : List (List Int)) : Prop where
  hp : fpP p
  hm : M.length = m
  ok : okM p w M
  hw : w ≤ 128
  hl : m ≤ 64
def sc_s_l13Clear_L4 : SC := (.seq (.seq (.reg [⟨(some 62), none, (.mov (.t 13))⟩, ⟨(some 63), none, (.mov (.t 0))⟩, ⟨(some 64), none, (.mov (.t 11))⟩, ⟨(some 65), none, (.idx 1 (.t 63) (.t 64))⟩, ⟨(some 66), none, (.ld none .nil (.t 65))⟩, ⟨(some 67), none, (.len (.t 66))⟩, ⟨(some 68), none, (.bin false .lss (.t 62) (.t 67))⟩, ⟨(some 69), none, (.mov (.t 68))⟩, ⟨(some 70), (some (69, true)), (.mov (.t 11))⟩, ⟨(some 71), (some (69, true)), (.mov (.t 1))⟩, ⟨(some 72), (some (69, true)), (.bin false .neq (.t 70) (.t 71))⟩, ⟨(some 73), none, (.pick (.t 69) (.t 72) (.c (.bool false)))⟩]) (.cond (.t 73) .skip (.exit 4))) (.seq (.block 5 (.dreg [⟨⟨(some 76), none, (.mov (.t 0))⟩, false, false⟩, ⟨⟨(some 77), none, (.mov (.t 11))⟩, false, false⟩, ⟨⟨(some 78), none, (.idx 1 (.t 76) (.t 77))⟩, false, false⟩, ⟨⟨(some 79), none, (.ld none .nil (.t 78))⟩, false, false⟩, ⟨⟨(some 80), none, (.mov (.t 13))⟩, false, false⟩, ⟨⟨(some 81), none, (.mov (.t 0))⟩, false, false⟩, ⟨⟨(some 82), none, (.mov (.t 11))⟩, false, false⟩, ⟨⟨(some 83), none, (.idx 1 (.t 81) (.t 82))⟩, false, false⟩, ⟨⟨(some 84), none, (.ld none .nil (.t 83))⟩, false, false⟩, ⟨⟨(some 85), none, (.mov (.t 13))⟩, false, false⟩, ⟨⟨(some 86), none, (.idx 1 (.t 84) (.t 85))⟩, false, false⟩, ⟨⟨(some 87), none, (.ld none (.int .i64 0) (.t 86))⟩, false, false⟩, ⟨⟨(some 88), none, (.mov (.t 12))⟩, false, false⟩, ⟨⟨(some 89), none, (.mov (.t 0))⟩, false, false⟩, ⟨⟨(some 90), none, (.mov (.t 1))⟩, false, false⟩, ⟨⟨(some 91), none, (.idx 1 (.t 89) (.t 90))⟩, false, false⟩, ⟨⟨(some 92), none, (.ld none .nil (.t 91))⟩, false, false⟩, ⟨⟨(some 93), none, (.mov (.t 13))⟩, false, false⟩, ⟨⟨(some 94), none, (.idx 1 (.t 92) (.t 93))⟩, false, false⟩, ⟨⟨(some 95), none, (.ld none (.int .i64 0) (.t 94))⟩, false, false⟩, ⟨⟨(some 96), none, (.bin false .mul (.t 88) (.t 95))⟩, false, false⟩, ⟨⟨(some 97), none, (.bin false .sub (.t 87) (.t 96))⟩, false, false⟩, ⟨⟨(some 98), none, (.mov (.t 3))⟩, false, false⟩, ⟨⟨(some 99), none, (.call 55 [(.t 97), (.t 98)])⟩, false, false⟩, ⟨⟨(some 100), none, (.idx 1 (.t 79) (.t 80))⟩, false, false⟩, ⟨⟨none, none, (.st 1 (.t 100) (.t 99))⟩, true, false⟩])) (.reg [⟨(some 74), none, (.mov (.t 13))⟩, ⟨(some 75), none, (.bin false .add (.t 74) (.c (.int .i64 1)))⟩, ⟨(some 13), none, (.mov (.t 75))⟩])))
def sc_s_l13Clear_L2 : SC := (.seq (.seq (.reg [⟨(some 49), none, (.mov (.t 11))⟩, ⟨(some 50), none, (.mov (.t 0))⟩, ⟨(some 51), none, (.len (.t 50))⟩, ⟨(some 52), none, (.bin false .lss (.t 49) (.t 51))⟩]) (.cond (.t 52) .skip (.exit 2))) (.seq (.block 3 (.seq (.reg [⟨(some 55), none, (.mov (.t 0))⟩, ⟨(some 56), none, (.mov (.t 11))⟩, ⟨(some 57), none, (.idx 1 (.t 55) (.t 56))⟩, ⟨(some 58), none, (.ld none .nil (.t 57))⟩, ⟨(some 59), none, (.mov (.t 2))⟩, ⟨(some 60), none, (.idx 1 (.t 58) (.t 59))⟩, ⟨(some 61), none, (.ld none (.int .i64 0) (.t 60))⟩, ⟨(some 12), none, (.mov (.t 61))⟩]) (.seq (.reg [⟨(some 13), none, (.mov (.c (.int .i64 0)))⟩]) (.block 4 (.loop sc_s_l13Clear_L4))))) (.reg [⟨(some 53), none, (.mov (.t 11))⟩, ⟨(some 54), none, (.bin false .add (.t 53) (.c (.int .i64 1)))⟩, ⟨(some 11), none, (.mov (.t 54))⟩])))
def sc_s_l13Clear_L0 : SC := (.seq (.seq (.reg [⟨(some 23), none, (.mov (.t 10))⟩, ⟨(some 24), none, (.mov (.t 0))⟩, ⟨(some 25), none, (.mov (.t 1))⟩, ⟨(some 26), none, (.idx 1 (.t 24) (.t 25))⟩, ⟨(some 27), none, (.ld none .nil (.t 26))⟩, ⟨(some 28), none, (.len (.t 27))⟩, ⟨(some 29), none, (.bin false .lss (.t 23) (.t 28))⟩]) (.cond (.t 29) .skip (.exit 0))) (.seq (.block 1 (.dreg [⟨⟨(some 32), none, (.mov (.t 0))⟩, false, false⟩, ⟨⟨(some 33), none, (.mov (.t 1))⟩, false, false⟩, ⟨⟨(some 34), none, (.idx 1 (.t 32) (.t 33))⟩, false, false⟩, ⟨⟨(some 35), none, (.ld none .nil (.t 34))⟩, false, false⟩, ⟨⟨(some 36), none, (.mov (.t 10))⟩, false, false⟩, ⟨⟨(some 37), none, (.mov (.t 0))⟩, false, false⟩, ⟨⟨(some 38), none, (.mov (.t 1))⟩, false, false⟩, ⟨⟨(some 39), none, (.idx 1 (.t 37) (.t 38))⟩, false, false⟩, ⟨⟨(some 40), none, (.ld none .nil (.t 39))⟩, false, false⟩, ⟨⟨(some 41), none, (.mov (.t 10))⟩, false, false⟩, ⟨⟨(some 42), none, (.idx 1 (.t 40) (.t 41))⟩, false, false⟩, ⟨⟨(some 43), none, (.ld none (.int .i64 0) (.t 42))⟩, false, false⟩, ⟨⟨(some 44), none, (.mov (.t 9))⟩, false, false⟩, ⟨⟨(some 45), none, (.bin false .mul (.t 43) (.t 44))⟩, false, false⟩, ⟨⟨(some 46), none, (.mov (.t 3))⟩, false, false⟩, ⟨⟨(some 47), none, (.bin false .rem (.t 45) (.t 46))⟩, false, false⟩, ⟨⟨(some 48), none, (.idx 1 (.t 35) (.t 36))⟩, false, false⟩, ⟨⟨none, none, (.st 1 (.t 48) (.t 47))⟩, true, false⟩])) (.reg [⟨(some 30), none, (.mov (.t 10))⟩, ⟨(some 31), none, (.bin false .add (.t 30) (.c (.int .i64 1)))⟩, ⟨(some 10), none, (.mov (.t 31))⟩])))
def sc_s_l13Clear : SC := (.seq (.reg [⟨(some 8), none, (.mov (.c .nil))⟩]) (.seq (.reg [⟨(some 14), none, (.mov (.t 0))⟩, ⟨(some 15), none, (.mov (.t 1))⟩, ⟨(some 16), none, (.idx 1 (.t 14) (.t 15))⟩, ⟨(some 17), none, (.ld none .nil (.t 16))⟩, ⟨(some 18), none, (.mov (.t 2))⟩, ⟨(some 19), none, (.idx 1 (.t 17) (.t 18))⟩, ⟨(some 20), none, (.ld none (.int .i64 0) (.t 19))⟩, ⟨(some 21), none, (.mov (.t 3))⟩, ⟨(some 22), none, (.call 107 [(.t 20), (.t 21)])⟩, ⟨(some 9), none, (.mov (.t 22))⟩]) (.seq (.seq (.reg [⟨(some 10), none, (.mov (.c (.int .i64 0)))⟩]) (.block 0 (.loop sc_s_l13Clear_L0))) (.seq (.seq (.reg [⟨(some 11), none, (.mov (.c (.int .i64 0)))⟩]) (.block 2 (.loop sc_s_l13Clear_L2))) (.seq (.reg [⟨(some 101), none, (.mov (.t 0))⟩, ⟨(some 8), none, (.mov (.t 101))⟩]) .ret)))))
theorem code_s_l13Clear : fnCode Try.prog [] 87 = some (102, sc_s_l13Clear, [(8, none)]) := by kernel_rfl
noncomputable def G_s_l13Clear : List V → List V → Option (V × List V)
  | [.sl 0 1 0 m, .int .i64 d, .int .i64 j, .int .i64 p], cells => (dRowsV cells).bind fun M => @ite _ (∃ w, matI p w m M ∧ 0 ≤ d ∧ d < m ∧ 0 ≤ j ∧ j < w) (Classical.propDecidable _) (some (.sl 0 1 0 m, rowsV (clrM p (sclM p M d.toNat j.toNat) d.toNat j.toNat))) none
  | _, _ => none
theorem ln_s_l13Clear : LendOk Try.prog 87 0 G_s_l13Clear := by
  have env := ((envNil_ok (P := Try.prog)).add fn_s_InverseMod).add fn_s_l13Mod
  refine fn_lend code_s_l13Clear mixed env ?_
  intro args cells r cells' hG hb
  unfold G_s_l13Clear at hG
  split at hG
  case h_2 => simp at hG
  rename_i m d j p
  obtain ⟨M, h1, h2⟩ := Option.bind_eq_some_iff.1 hG
  have hc := dRowsV_inv h1
  subst hc
  simp only [Option.ite_none_right_eq_some, Option.some.injEq, Prod.mk.injEq] at h2
  obtain ⟨⟨w, ⟨hp, rfl, hok, hw, hml⟩, hd0, hd1, hj0, hj1⟩, rfl, rfl⟩ := h2
  obtain ⟨d, rfl⟩ : ∃ n : Nat, d = n := ⟨d.toNat, by omega⟩
  obtain ⟨j, rfl⟩ : ∃ n : Nat, j = n := ⟨j.toNat, by omega⟩
  have hdm : d < M.length := by omega
  have hjw : j < w := by omega
  clear hG h1 hb
  rw [Int.toNat_natCast, Int.toNat_natCast]
  refine ⟨by simp, fun w0 U0 L0 N0 => ?_⟩
  have hFI := fn_inv_at hp
  have hFm := fn_restMod_at hp
  obtain ⟨p1, p2, p3⟩ := fpP_bnd hp
  obtain ⟨hrl, hre⟩ := hok d hdm
  have hok1 := okM_scl hp hok j hdm
  have hM1 : sclM p M d j = M.set d (sclR p (invZ (at0 (atR M d) j) p) (atR M d)) := rfl
  have hM1l := sclM_len p M d j
  have hrs : atR (sclM p M d j) d = sclR p (invZ (at0 (atR M d) j) p) (atR M d) := by rw [hM1, atR_set, if_pos ⟨rfl, hdm⟩]
  obtain ⟨f1, f2⟩ := invZ_bnd (a := at0 (atR M d) j) hp
  simp -implicitDefEqProofs [sc_s_l13Clear, hdm, hrl, hjw, hFI]
  generalize hf : invZ (at0 (atR M d) j) p = f at *
  generalize hrd : atR M d = rd at *
  repeat' (first | omega | apply And.intro)
  refine loopI env mixed (fun t : Nat => [(0, .sl 0 1 0 M.length), (1, .int .i64 (d : Int)), (2, .int .i64 (j : Int)), (3, .int .i64 p), (9, .int .i64 f), (10, .int .i64 (t : Int))]) (fun t => ([(1, ints (pK rd (sclG p f rd) t)), (0, (rowsV M).set d (.sl 1 1 0 w))], 2)) (fun t => t ≤ w) (fun t => w - t) 0 (by simp) (SubI.slots (by simp [pK_zero]) (by simp)) ?_
  intro t ht
  by_cases hlt : t < w
  · have hat := pK_at (r := rd) (g := sclG p f rd) (t := t) (by omega) (Nat.le_refl t)
    have hset := pK_set (r := rd) (g := sclG p f rd) (t := t) (by omega)
    have hgl := pK_len rd (sclG p f rd) t
    obtain ⟨e1, e2⟩ := hre t hlt
    obtain ⟨m1, m2⟩ := mulB p2 e1 e2 f1 f2
    have hwr : IntKind.i64.wrap (at0 rd t * f) = at0 rd t * f := wrapI _ (by omega) (by omega)
    have htm := tmod_nn p m1
    have hg : sclG p f rd t = at0 rd t * f % p := rfl
    rw [hg] at hset
    generalize pK rd (sclG p f rd) t = g at *
    simp -implicitDefEqProofs [sc_s_l13Clear_L0, hdm, hlt, hgl, hrl, hat, hwr, htm, p3, hset]
    repeat' (first | omega | apply And.intro)
    exact Again.of (t + 1) (by omega) (by omega) (SubI.slots (by simp) (by simp (disch := omega) [wrapI]))
  · have : t = w := by omega
    subst this
    have hfull : pK rd (sclG p f rd) rd.length = sclR p f rd := pK_full rd (sclG p f rd)
    rw [hrl] at hfull
    rw [hfull]
    simp -implicitDefEqProofs [sc_s_l13Clear_L0, hdm, hlt]
    have hcell := rowsV_set2 M d (sclR p f rd) (.sl 1 1 0 t)
    rw [← hM1] at hcell
    rw [← hcell]
    rw [← hrs]
    generalize sclM p M d j = M1 at *
    have hGd := clrG_d p M1 d j
    have hGn := fun (i : Nat) (h : i ≠ d) => clrG_ne (p := p) (M := M1) (d := d) (j := j) h
    have hfin : pM M1 (clrG p M1 d j) M.length = clrM p M1 d j := by rw [← hM1l]; rfl
    rw [← hfin]
    obtain ⟨hr1, hr2⟩ := hok1 d (by omega)
    generalize clrG p M1 d j = G at *
    generalize hrr : atR M1 d = rs at *
    have hdm1 : d < M1.length := by omega
    refine loopQ env mixed (fun i : Nat => [(0, .sl 0 1 0 M.length), (1, .int .i64 (d : Int)), (2, .int .i64 (j : Int)), (3, .int .i64 p), (11, .int .i64 (i : Int))]) (fun i => ([(1, ints rs), (0, (rowsV (pM M1 G i)).set d (.sl 1 1 0 t))], 2)) (fun i => i ≤ M.length) (fun i => M.length - i) 0 (by simp) (SubI.slots (by simp [pM_zero]) (by simp)) ?_
    intro i hi
    have hml2 := pM_len M1 G i
    by_cases hlt2 : i < M.length
    · have him : i < M1.length := by omega
      by_cases hid : i = d
      · subst hid
        have hk : pM M1 G (i + 1) = pM M1 G i := pM_keep him (by rw [hGd, hrr])
        simp -implicitDefEqProofs [sc_s_l13Clear_L2, hdm, hdm1, hml2, hM1l, hjw, hr1]
        repeat' (first | omega | apply And.intro)
        refine loopQ env mixed (fun _ : Unit => [(0, .sl 0 1 0 M.length), (1, .int .i64 (i : Int)), (2, .int .i64 (j : Int)), (3, .int .i64 p), (11, .int .i64 (i : Int)), (13, .int .i64 0)]) (fun _ => ([(1, ints rs), (0, (rowsV (pM M1 G i)).set i (.sl 1 1 0 t))], 2)) (fun _ => True) (fun _ => 0) () trivial (SubI.slots (by simp) (by simp)) ?_
        intro _ _
        have ht0 : 0 < t := by omega
        simp -implicitDefEqProofs [sc_s_l13Clear_L4, hdm, hdm1, hml2, hM1l, ht0]
        refine SubQ.of (l1 := [(0, .sl 0 1 0 M.length), (1, .int .i64 (i : Int)), (2, .int .i64 (j : Int)), (3, .int .i64 p), (11, .int .i64 (i : Int))]) (SubI.slots rfl (by simp)) ?_
        simp -implicitDefEqProofs
        exact Again.of (i + 1) (by omega) (by omega) (SubI.slots (by simp [hk]) (by simp (disch := omega) [wrapI]))
      · have hid' : d ≠ i := fun e => hid e.symm
        have hidI : ¬ ((i : Int) = (d : Int)) := by omega
        obtain ⟨hs1, hs2⟩ := hok1 i him
        have hge := pM_ge (M := M1) (G := G) him (Nat.le_refl i)
        have hset := pM_set (M := M1) (G := G) him
        have hGi := hGn i hid
        generalize pM M1 G i = Mi at *
        generalize atR M1 i = ri at *
        obtain ⟨c1, c2⟩ := hs2 j hjw
        simp -implicitDefEqProofs [sc_s_l13Clear_L2, hlt2, him, hml2, hM1l, hjw, hid, hid', hge, hs1]
        repeat' (first | omega | apply And.intro)
        generalize hcc : at0 ri j = c at *
        refine loopQ env mixed (fun q : Nat => [(0, .sl 0 1 0 M.length), (1, .int .i64 (d : Int)), (2, .int .i64 (j : Int)), (3, .int .i64 p), (11, .int .i64 (i : Int)), (12, .int .i64 c), (13, .int .i64 (q : Int))]) (fun q => ([(2, ints (pK ri (elG p c ri rs) q)), (1, ints rs), (0, ((rowsV Mi).set d (.sl 1 1 0 t)).set i (.sl 2 1 0 t))], 3)) (fun q => q ≤ t) (fun q => t - q) 0 (by simp) (SubI.slots (by simp [pK_zero]) (by simp)) ?_
        intro q hq
        by_cases hlt3 : q < t
        · have hat := pK_at (r := ri) (g := elG p c ri rs) (t := q) (by omega) (Nat.le_refl q)
          have hst : (pK ri (elG p c ri rs) q).set q ((at0 ri q - c * at0 rs q) % p) = pK ri (elG p c ri rs) (q + 1) := pK_set (r := ri) (g := elG p c ri rs) (t := q) (by omega)
          have hgl := pK_len ri (elG p c ri rs) q
          obtain ⟨e1, e2⟩ := hs2 q hlt3
          obtain ⟨e3, e4⟩ := hr2 q hlt3
          obtain ⟨m1, m2⟩ := mulB p2 c1 c2 e3 e4
          have hw1 : IntKind.i64.wrap (c * at0 rs q) = c * at0 rs q := wrapI _ (by omega) (by omega)
          have hw2 : IntKind.i64.wrap (at0 ri q - c * at0 rs q) = at0 ri q - c * at0 rs q := wrapI _ (by omega) (by omega)
          generalize pK ri (elG p c ri rs) q = g at *
          simp -implicitDefEqProofs [sc_s_l13Clear_L4, hFm, hdm, hdm1, hlt2, him, hml2, hM1l, hid, hid', hidI, hlt3, hgl, hs1, hr1, hat, hw1, hw2, hst]
          repeat' (first | omega | apply And.intro)
          exact Again.of (q + 1) (by omega) (by omega) (SubI.slots (by simp) (by simp (disch := omega) [wrapI]))
        · have : q = t := by omega
          subst this
          have hfu : pK ri (elG p c ri rs) ri.length = G i := by rw [hGi]; exact pK_full ri (elG p c ri rs)
          rw [hs1] at hfu
          rw [hfu]
          have hgil : (G i).length = q := by rw [hGi, elimR_len, hs1]
          simp -implicitDefEqProofs [sc_s_l13Clear_L4, hdm, hdm1, hlt2, him, hml2, hM1l, hid, hid', hidI]
          refine SubQ.of (l1 := [(0, .sl 0 1 0 M.length), (1, .int .i64 (d : Int)), (2, .int .i64 (j : Int)), (3, .int .i64 p), (11, .int .i64 (i : Int))]) (s1 := ([(1, ints rs), (0, (rowsV (pM M1 G (i + 1))).set d (.sl 1 1 0 q))], 2)) ?_ ?_
          · refine SubI.fold 0 2 i 1 q (cn := ints (G i)) (co := ((rowsV Mi).set d (.sl 1 1 0 q)).set i (.sl 2 1 0 q)) (by simp) (by simp) (by simp [hml2, him]) (by simp [hgil]) ?_
            have hstep := rowsV_step (M := Mi) hid (G i) (.sl 1 1 0 q) (.sl 2 1 0 q)
            rw [hset] at hstep
            rw [hstep]
            refine SubI.ren (fun m => if m = 0 then some 0 else if m = 1 then some 1 else none) ?_ ?_ ?_ (by simp) (by simp)
            · simp [subT, renV, ren1]
            · simp only [subH, renL_set (renL_rowsV _ _) (show ren1 (fun m => if m = 0 then some 0 else if m = 1 then some 1 else none) (.sl 1 1 0 q) = some (.sl 1 1 0 q) from rfl)]
              simp [subH, renL, ren1]
            · intro m hm
              simp only at hm
              rw [if_neg (by omega), if_neg (by omega)]
          · simp -implicitDefEqProofs
            exact Again.of (i + 1) (by omega) (by omega) (SubI.slots (by simp) (by simp (disch := omega) [wrapI]))
    · have : i = M.length := by omega
      subst this
      have hself := rowsV_self (M := pM M1 G M.length) (i := d) (by omega)
      rw [pM_lt hdm1 (by omega), hGd] at hself
      simp -implicitDefEqProofs [sc_s_l13Clear_L2]
      refine SubQ.of (l1 := [(0, .sl 0 1 0 M.length)]) (s1 := ([(0, rowsV (pM M1 G M.length))], 2)) ?_ ?_
      · refine SubI.fold 0 1 d 1 t (cn := ints rs) (co := (rowsV (pM M1 G M.length)).set d (.sl 1 1 0 t)) rfl rfl (by simp [hml2, hdm1]) (by simp [hr1]) ?_
        exact SubI.slots (by simp [hself]) (by simp)
      · simp -implicitDefEqProofs
end Go.Proofs.Ytncnohompmcddaa
