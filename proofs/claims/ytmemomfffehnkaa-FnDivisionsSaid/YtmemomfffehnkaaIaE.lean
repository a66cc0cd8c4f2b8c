import Derived.Test.YtmemomfffehnkaaIaB
import Derived.Test.YtmemomfffehnkaaKX
namespace Go.Proofs.Ytmemomfffehnkaa
open Go Go.RowKit
set_option maxRecDepth 1000000
set_option linter.unusedSimpArgs false
set_option linter.unusedVariables false
set_option maxHeartbeats 1000000
/-- Below a facet from the k-th on. -/
def laterP (l : List Int) (k : Nat) (u : Int) : Prop := ∃ j, k ≤ j ∧ j < l.length ∧ subS u (at0 l j)
/-- In one of the intervals so far. -/
def covP (l head : List Int) (u : Int) : Prop := ∃ j, j < head.length ∧ inIv l head u j
def disP (l head : List Int) : Prop := ∀ u, isS u → ∀ m, m < head.length → ∀ j, j < m → inIv l head u j → ¬ inIv l head u m
theorem later_face {l : List Int} {u : Int} : laterP l 0 u ↔ faceS l u := by
  constructor
  · rintro ⟨j, _, h1, h2⟩
    exact ⟨_, getD_mem' h1, h2⟩
  · rintro ⟨f, h1, h2⟩
    obtain ⟨j, hj, e⟩ := getD_mem_iff.1 h1
    exact ⟨j, Nat.zero_le _, hj, e ▸ h2⟩
theorem inIv_app {l head t : List Int} {u : Int} {k : Nat} (h : k < head.length) : inIv l (head ++ t) u k ↔ inIv l head u k := by unfold inIv; rw [at0_appL h]
theorem ex_cov {l head : List Int} (h : exD (dvD l) head) {u : Int} (hu : isS u) (hf : laterP l 0 u) : covP l head u ∨ laterP l head.length u := by
  obtain ⟨t, h1, h2, h3⟩ := h
  have h4 := (h3 u (mem_setsOf.2 ⟨hu, later_face.1 hf⟩)).2 rfl
  have h5 : ∃ k, k < (head ++ t).length ∧ inIv l (head ++ t) u k := Classical.byContradiction fun hn => by
    rw [cntIv_zero fun j hj hi => hn ⟨j, hj, hi⟩] at h4
    omega
  obtain ⟨k, hk, hi⟩ := h5
  by_cases hkh : k < head.length
  · exact .inl ⟨k, hkh, (inIv_app hkh).1 hi⟩
  · exact .inr ⟨k, by omega, by omega, hi.2⟩
theorem dv_of {l head : List Int} (hl : head.length = l.length) (hh : hdD l head) (hd : disP l head) (hc : ∀ u, isS u → laterP l 0 u → covP l head u) : dvD l head := by
  refine ⟨hl, hh.2, fun u hu => ?_⟩
  obtain ⟨hs, hf⟩ := mem_setsOf.1 hu
  obtain ⟨j, hj, hi⟩ := hc u hs (later_face.2 hf)
  have h1 := cntIv_one (facets := l) (lows := head) (u := u) (m := head.length) fun k hk j hj h => hd u hs k hk j hj h.1 h.2
  have h2 := cntIv_hit hj hi
  have h3 := cntIv_bnd l head u j
  exact ⟨h1, fun _ => by omega⟩
theorem ex_dis {l head : List Int} {s u : Int} (h : exD (dvD l) (head ++ [s])) (hu : isS u) (h1 : subS s u) (h2 : subS u (at0 l head.length)) : ¬ covP l head u := by
  rintro ⟨j, hj, hi⟩
  have hlt := (ex_set h).1
  obtain ⟨t, h3, h4, h5⟩ := h
  have hf : faceS l u := ⟨_, getD_mem' hlt, h2⟩
  have h6 := (h5 u (mem_setsOf.2 ⟨hu, hf⟩)).1
  have hi2 : inIv l (head ++ [s] ++ t) u j := by
    rw [List.append_assoc]
    exact (inIv_app hj).2 hi
  have hi3 : inIv l (head ++ [s] ++ t) u head.length := by
    unfold inIv
    rw [at0_appL (by simp), at0_snoc]
    exact ⟨h1, h2⟩
  have c1 := cntIv_hit (facets := l) (lows := head ++ [s] ++ t) hj hi2
  have c2 := cntIv_hit (facets := l) (lows := head ++ [s] ++ t) (m := (head ++ [s] ++ t).length) (by simp) hi3
  have c3 := cntIv_bnd l (head ++ [s] ++ t) u j
  omega
theorem cov_snoc {l head : List Int} {s u : Int} : covP l (head ++ [s]) u ↔ covP l head u ∨ (subS s u ∧ subS u (at0 l head.length)) := by
  constructor
  · rintro ⟨j, hj, hi⟩
    rw [List.length_append, List.length_singleton] at hj
    by_cases e : j = head.length
    · subst e
      unfold inIv at hi
      rw [at0_snoc] at hi
      exact .inr hi
    · exact .inl ⟨j, by omega, (inIv_app (by omega)).1 hi⟩
  · rintro (⟨j, hj, hi⟩ | h)
    · exact ⟨j, by simp; omega, (inIv_app hj).2 hi⟩
    · refine ⟨head.length, by simp, ?_⟩
      unfold inIv
      rw [at0_snoc]
      exact h
theorem dis_snoc {l head : List Int} {s : Int} (hd : disP l head) (h : ∀ u, isS u → subS s u → subS u (at0 l head.length) → ¬ covP l head u) : disP l (head ++ [s]) := by
  intro u hu m hm j hj h1 h2
  rw [List.length_append, List.length_singleton] at hm
  rw [inIv_app (by omega)] at h1
  by_cases e : m = head.length
  · subst e
    unfold inIv at h2
    rw [at0_snoc] at h2
    exact h u hu h2.1 h2.2 ⟨j, hj, h1⟩
  · rw [inIv_app (by omega)] at h2
    exact hd u hu m (by omega) j hj h1 h2
open Classical in
/-- The list of lows behind the search. -/
noncomputable def fdR (l head : List Int) : List Int := if exD (dvD l) head then fdO l head else head
theorem fdR_yes {l head : List Int} (h : exD (dvD l) head) : fdR l head = fdO l head := if_pos h
theorem fdR_no {l head : List Int} (h : ¬ exD (dvD l) head) : fdR l head = head := if_neg h
def sc_i_divComplete_L0 : SC := (.seq (.seq (.reg [⟨(some 33), none, (.mov (.t 7))⟩, ⟨(some 34), none, (.mov (.t 0))⟩, ⟨(some 35), none, (.nck (.t 34))⟩, ⟨(some 36), none, (.fad 0 (.t 35))⟩, ⟨(some 37), none, (.ld none .nil (.t 36))⟩, ⟨(some 38), none, (.mov (.t 1))⟩, ⟨(some 39), none, (.idx 1 (.t 37) (.t 38))⟩, ⟨(some 40), none, (.ld none (.int .i64 0) (.t 39))⟩, ⟨(some 41), none, (.bin false .leq (.t 33) (.t 40))⟩]) (.cond (.t 41) .skip (.exit 0))) (.seq (.block 1 (.seq (.seq (.reg [⟨(some 44), none, (.mov (.t 7))⟩, ⟨(some 45), none, (.mov (.t 0))⟩, ⟨(some 46), none, (.nck (.t 45))⟩, ⟨(some 47), none, (.fad 0 (.t 46))⟩, ⟨(some 48), none, (.ld none .nil (.t 47))⟩, ⟨(some 49), none, (.mov (.t 1))⟩, ⟨(some 50), none, (.idx 1 (.t 48) (.t 49))⟩, ⟨(some 51), none, (.ld none (.int .i64 0) (.t 50))⟩, ⟨(some 52), none, (.bin false .andNot (.t 44) (.t 51))⟩, ⟨(some 53), none, (.bin false .neq (.t 52) (.c (.int .i64 0)))⟩]) (.cond (.t 53) (.exit 1) .skip)) (.seq (.reg [⟨(some 54), none, (.mov (.t 7))⟩, ⟨(some 55), none, (.mov (.t 0))⟩, ⟨(some 56), none, (.nck (.t 55))⟩, ⟨(some 57), none, (.fad 0 (.t 56))⟩, ⟨(some 58), none, (.ld none .nil (.t 57))⟩, ⟨(some 59), none, (.mov (.t 1))⟩, ⟨(some 60), none, (.idx 1 (.t 58) (.t 59))⟩, ⟨(some 61), none, (.ld none (.int .i64 0) (.t 60))⟩, ⟨(some 62), none, (.call 204 [(.t 54), (.t 61)])⟩, ⟨(some 8), none, (.mov (.t 62))⟩]) (.seq (.seq (.reg [⟨(some 63), none, (.mov (.t 8))⟩, ⟨(some 64), none, (.mov (.t 2))⟩, ⟨(some 65), none, (.bin false .and (.t 63) (.t 64))⟩, ⟨(some 66), none, (.bin false .neq (.t 65) (.c (.int .u64 0)))⟩]) (.cond (.t 66) (.exit 1) .skip)) (.cut (.reg [⟨(some 67), none, (.mov (.t 0))⟩, ⟨(some 68), none, (.mov (.t 0))⟩, ⟨(some 69), none, (.nck (.t 68))⟩, ⟨(some 70), none, (.fad 2 (.t 69))⟩, ⟨(some 71), none, (.ld none .nil (.t 70))⟩, ⟨(some 72), none, (.mov (.t 7))⟩, ⟨(some 73), none, (.mks 1 1 [(.int .i64 0)] [(0, (1, (.t 72)))])⟩, ⟨(some 74), none, (.app 1 8 (.t 71) (.t 73))⟩, ⟨(some 75), none, (.nck (.t 67))⟩, ⟨(some 76), none, (.fad 2 (.t 75))⟩, ⟨none, none, (.st 1 (.t 76) (.t 74))⟩]) (.cut (.seq (.reg [⟨(some 77), none, (.mov (.t 0))⟩, ⟨(some 78), none, (.mov (.t 1))⟩, ⟨(some 79), none, (.bin false .add (.t 78) (.c (.int .i64 1)))⟩, ⟨(some 80), none, (.mov (.t 2))⟩, ⟨(some 81), none, (.mov (.t 8))⟩, ⟨(some 82), none, (.bin false .or (.t 80) (.t 81))⟩, ⟨(some 83), none, (.call 202 [(.t 77), (.t 79), (.t 82)])⟩]) (.cond (.t 83) (.seq (.reg [⟨(some 6), none, (.mov (.c (.bool true)))⟩]) .ret) .skip)) (.dreg [⟨⟨(some 84), none, (.mov (.t 0))⟩, false, false⟩, ⟨⟨(some 85), none, (.mov (.t 0))⟩, false, false⟩, ⟨⟨(some 86), none, (.nck (.t 85))⟩, false, false⟩, ⟨⟨(some 87), none, (.fad 2 (.t 86))⟩, false, false⟩, ⟨⟨(some 88), none, (.ld none .nil (.t 87))⟩, false, false⟩, ⟨⟨(some 89), none, (.mov (.t 0))⟩, false, false⟩, ⟨⟨(some 90), none, (.nck (.t 89))⟩, false, false⟩, ⟨⟨(some 91), none, (.fad 2 (.t 90))⟩, false, false⟩, ⟨⟨(some 92), none, (.ld none .nil (.t 91))⟩, false, false⟩, ⟨⟨(some 93), none, (.len (.t 92))⟩, false, false⟩, ⟨⟨(some 94), none, (.bin false .sub (.t 93) (.c (.int .i64 1)))⟩, false, false⟩, ⟨⟨(some 95), none, (.sli 1 (.t 88) none (some (.t 94)) none)⟩, false, false⟩, ⟨⟨(some 96), none, (.nck (.t 84))⟩, false, false⟩, ⟨⟨(some 97), none, (.fad 2 (.t 96))⟩, false, false⟩, ⟨⟨none, none, (.st 1 (.t 97) (.t 95))⟩, true, false⟩]))))))) (.reg [⟨(some 42), none, (.mov (.t 7))⟩, ⟨(some 43), none, (.bin false .add (.t 42) (.c (.int .i64 1)))⟩, ⟨(some 7), none, (.mov (.t 43))⟩])))
def sc_i_divComplete : SC := (.cut (.reg [⟨(some 6), none, (.mov (.c (.bool false)))⟩]) (.seq (.seq (.dreg [⟨⟨(some 9), none, (.mov (.t 0))⟩, false, false⟩, ⟨⟨(some 10), none, (.nck (.t 9))⟩, false, false⟩, ⟨⟨(some 11), none, (.fad 1 (.t 10))⟩, false, false⟩, ⟨⟨(some 12), none, (.ld none .nil (.t 11))⟩, false, false⟩, ⟨⟨(some 13), none, (.idx 1 (.t 12) (.c (.int .i64 0)))⟩, false, false⟩, ⟨⟨(some 14), none, (.ld none (.int .u64 0) (.t 13))⟩, false, false⟩, ⟨⟨(some 15), none, (.mov (.t 2))⟩, false, false⟩, ⟨⟨(some 16), none, (.bin false .andNot (.t 14) (.t 15))⟩, false, false⟩, ⟨⟨(some 17), none, (.mov (.t 0))⟩, false, false⟩, ⟨⟨(some 18), none, (.nck (.t 17))⟩, false, false⟩, ⟨⟨(some 19), none, (.fad 1 (.t 18))⟩, false, false⟩, ⟨⟨(some 20), none, (.ld none .nil (.t 19))⟩, false, false⟩, ⟨⟨(some 21), none, (.mov (.t 1))⟩, false, false⟩, ⟨⟨(some 22), none, (.idx 1 (.t 20) (.t 21))⟩, false, false⟩, ⟨⟨(some 23), none, (.ld none (.int .u64 0) (.t 22))⟩, false, false⟩, ⟨⟨(some 24), none, (.bin false .andNot (.t 16) (.t 23))⟩, false, false⟩, ⟨⟨(some 25), none, (.bin false .neq (.t 24) (.c (.int .u64 0)))⟩, false, false⟩]) (.cond (.t 25) (.seq (.reg [⟨(some 6), none, (.mov (.c (.bool false)))⟩]) .ret) .skip)) (.seq (.seq (.reg [⟨(some 26), none, (.mov (.t 1))⟩, ⟨(some 27), none, (.mov (.t 0))⟩, ⟨(some 28), none, (.nck (.t 27))⟩, ⟨(some 29), none, (.fad 0 (.t 28))⟩, ⟨(some 30), none, (.ld none .nil (.t 29))⟩, ⟨(some 31), none, (.len (.t 30))⟩, ⟨(some 32), none, (.bin false .eql (.t 26) (.t 31))⟩]) (.cond (.t 32) (.seq (.reg [⟨(some 6), none, (.mov (.c (.bool true)))⟩]) .ret) .skip)) (.seq (.seq (.reg [⟨(some 7), none, (.mov (.c (.int .i64 0)))⟩]) (.block 0 (.loop sc_i_divComplete_L0))) (.seq (.reg [⟨(some 6), none, (.mov (.c (.bool false)))⟩]) .ret)))))
theorem code_i_divComplete : fnCode Try.prog [202, 888888, 666666] 202 = some (98, sc_i_divComplete, [(6, none)]) := by kernel_rfl
noncomputable def G_i_divC (n : Nat) : List V → List V → Option (V × List V)
  | [.pt 0 0, .int .i64 i, .int .u64 cov], [a, b, .own 1 c] => (dL a).bind fun l => (dInts c).bind fun head =>
      @ite _ (b = .list 1 (uRow (l.length + 1) (laterP l)) ∧ allS l ∧ l.length ≤ 6 ∧ i = head.length ∧ cov = fam (covP l head) ∧ hdD l head ∧ disP l head ∧ l.length - head.length < n) (Classical.propDecidable _)
        (some (.bool (dec (exD (dvD l) head)), [.list 1 (ints l), .list 1 (uRow (l.length + 1) (laterP l)), .own 1 (ints (fdR l head))])) none
  | _, _ => none
theorem G_i_divC_at {n : Nat} {l head : List Int} (hS : allS l) (hl : l.length ≤ 6) (hh : hdD l head) (hd : disP l head) (hn : l.length - head.length < n) :
    G_i_divC n [.pt 0 0, .int .i64 (head.length : Int), .int .u64 (fam (covP l head))] [.list 1 (ints l), .list 1 (uRow (l.length + 1) (laterP l)), .own 1 (ints head)] =
      some (.bool (dec (exD (dvD l) head)), [.list 1 (ints l), .list 1 (uRow (l.length + 1) (laterP l)), .own 1 (ints (fdR l head))]) := by
  simp only [G_i_divC, dL_list, dInts_ints, Option.bind_some]
  rw [if_pos ⟨rfl, hS, hl, rfl, rfl, hh, hd, hn⟩]
theorem ln_i_divC (n : Nat) : LendOk Try.prog 202 0 (G_i_divC n) := by
  induction n with
  | zero =>
    refine ⟨callable_of code_i_divComplete, fun args cells r cells' hG => ?_⟩
    unfold G_i_divC at hG
    split at hG
    · obtain ⟨l, _, hG⟩ := Option.bind_eq_some_iff.1 hG
      obtain ⟨head, _, hG⟩ := Option.bind_eq_some_iff.1 hG
      simp only [Option.ite_none_right_eq_some] at hG
      exact absurd hG.1.2.2.2.2.2.2.2 (Nat.not_lt_zero _)
    · simp at hG
  | succ n ih =>
  have env := ((envNil_ok (P := Try.prog)).add fn_i_intervalOf).addl ih
  refine fn_lend2 code_i_divComplete mixed env ?_
  intro args cells r cells' hG hb
  unfold G_i_divC at hG
  split at hG
  case h_2 => simp at hG
  rename_i i cov a b c
  obtain ⟨l, h1, hG1⟩ := Option.bind_eq_some_iff.1 hG
  obtain ⟨head, h2, hG2⟩ := Option.bind_eq_some_iff.1 hG1
  clear hG hG1
  have hc := dInts_inv h2
  cases dL_inv h1
  subst hc
  simp only [Option.ite_none_right_eq_some, Option.some.injEq, Prod.mk.injEq] at hG2
  obtain ⟨⟨rfl, hS, hl6, rfl, rfl, hh, hd, hn⟩, rfl, rfl⟩ := hG2
  clear h1 h2 hb
  refine ⟨by simp, fun w0 U0 L0 N0 => ?_⟩
  have hhl := hh.1
  have hhS := hdD_allS hh
  have u0 : ∀ h : 0 < (uRow (l.length + 1) (laterP l)).length, (uRow (l.length + 1) (laterP l))[0]'h = .int .u64 (fam (laterP l 0)) := fun h => by simp [uRow]
  have u1 : ∀ h : head.length < (uRow (l.length + 1) (laterP l)).length, (uRow (l.length + 1) (laterP l))[head.length]'h = .int .u64 (fam (laterP l head.length)) := fun h => by simp [uRow]
  have u2 : ∀ h : l.length < (uRow (l.length + 1) (laterP l)).length, (uRow (l.length + 1) (laterP l))[l.length]'h = .int .u64 (fam (laterP l l.length)) := fun h => by simp [uRow]
  have unA : (uRow (l.length + 1) (laterP l)).all (nonm 5) = true := uRow_nm 4 _ _
  have hw : head.length < l.length + 1 := by omega
  generalize hUR : uRow (l.length + 1) (laterP l) = UR at *
  have hURl : UR.length = l.length + 1 := by rw [← hUR]; simp
  simp -implicitDefEqProofs [-List.all_eq_true, unA, sc_i_divComplete]
  refine CutI.of (l' := [(0, .pt 0 0), (1, .int .i64 (head.length : Int)), (2, .int .u64 (fam (covP l head)))]) (s' := ([(0, [.list 1 (ints l), .list 1 UR, .own 1 (ints head)])], 1)) (SubI.slots rfl (by simp)) ?_
  by_cases hA : (fam fun u => (laterP l 0 u ∧ ¬ covP l head u) ∧ ¬ laterP l head.length u) = 0
  rotate_left
  · have hno : ¬ exD (dvD l) head := fun h => hA (fam_zero.2 fun u hu hq => by
      rcases ex_cov h hu hq.1.1 with h1 | h1
      · exact hq.1.2 h1
      · exact hq.2 h1)
    rw [dec_false hno, fdR_no hno]
    simp -implicitDefEqProofs [-List.all_eq_true, unA, u0, u1, hURl, hw, hA]
    repeat' (first | omega | apply And.intro)
    refine foldE_id ?_
    simp [-List.all_eq_true, unA]
  have hcov : ∀ u, isS u → laterP l 0 u → ¬ covP l head u → laterP l head.length u := fun u hu h1 h2 => Classical.byContradiction fun h3 => fam_zero.1 hA u hu ⟨⟨h1, h2⟩, h3⟩
  by_cases hf : head.length = l.length
  · have hdv : dvD l head := dv_of hf hh hd fun u hu h1 => Classical.byContradiction fun h2 => by
      obtain ⟨j, j1, j2, _⟩ := hcov u hu h1 h2
      omega
    have he := (ex_full hf).2 hdv
    rw [dec_true he, fdR_yes he, fdO_full hf he]
    rw [hf] at hA
    have hww : (l.length : Int) < (l.length : Int) + 1 := by omega
    simp -implicitDefEqProofs [-List.all_eq_true, unA, u0, u2, hURl, hww, hA, hf]
    refine foldE_id ?_
    simp [-List.all_eq_true, unA]
  have hlt : head.length < l.length := by omega
  have hne : ¬ ((head.length : Int) = (l.length : Int)) := by omega
  have hlS := allS_at hS hlt
  have hst := fun (s : Nat) h1 h2 h3 => fdO_step (l := l) (head := head) (s := s) h1 h2 h3
  have hnone := fun h => ex_none (l := l) (head := head) hlt h
  generalize hX : dec (exD (dvD l) head) = X
  generalize hY : fdR l head = Y
  simp -implicitDefEqProofs [-List.all_eq_true, unA, u0, u1, hURl, hw, hA, hne]
  repeat' (first | omega | apply And.intro)
  refine loopI env mixed (fun s : Nat => [(0, .pt 0 0), (1, .int .i64 (head.length : Int)), (2, .int .u64 (fam (covP l head))), (7, .int .i64 (s : Int))]) (fun _ => ([(0, [.list 1 (ints l), .list 1 UR, .own 1 (ints head)])], 1)) (fun s => s ≤ 64 ∧ ∀ u, isS u → u < (s : Int) → ¬ exD (dvD l) (head ++ [u])) (fun s => 64 - s) 0 ⟨by omega, fun u hu h => by have := hu.1; omega⟩ (SubI.slots (by simp) (by simp)) ?_
  rintro s ⟨hs, hI⟩
  by_cases hsl : (s : Int) ≤ at0 l head.length
  rotate_left
  · have hno : ¬ exD (dvD l) head := hnone fun u hu _ h => by
      have h1 := (ex_set h).2.2
      have h2 := subS_le hu hlS h1
      exact hI u hu (by omega) h
    rw [dec_false hno] at hX
    rw [fdR_no hno] at hY
    subst hX hY
    simp -implicitDefEqProofs [-List.all_eq_true, unA, sc_i_divComplete_L0, hlt, hsl]
    repeat' (first | omega | apply And.intro)
    refine foldE_id ?_
    simp [-List.all_eq_true, unA]
  have hs6 : s < 64 := by have := hlS.2; omega
  have hsS := inS s hs6
  by_cases hsub : bitop .andNot .i64 (s : Int) (at0 l head.length) = 0
  rotate_left
  · have hno : ¬ exD (dvD l) (head ++ [(s : Int)]) := fun h => hsub (ex_set h).2.2
    simp -implicitDefEqProofs [-List.all_eq_true, unA, sc_i_divComplete_L0, hlt, hsl, hsub]
    repeat' (first | omega | apply And.intro)
    exact Again.of (s + 1) ⟨by omega, nxt_lt hI hno⟩ (by omega) (SubI.slots (by simp) (by simp (disch := omega) [wrapI]))
  have hsubS : subS (s : Int) (at0 l head.length) := hsub
  by_cases hB : (fam fun u => (subS (s : Int) u ∧ subS u (at0 l head.length)) ∧ covP l head u) = 0
  rotate_left
  · have hno : ¬ exD (dvD l) (head ++ [(s : Int)]) := fun h => hB (fam_zero.2 fun u hu hq => ex_dis h hu hq.1.1 hq.1.2 hq.2)
    simp -implicitDefEqProofs [-List.all_eq_true, unA, sc_i_divComplete_L0, F_i_intervalOf, hlt, hsl, hsub, hB]
    repeat' (first | omega | apply And.intro)
    exact Again.of (s + 1) ⟨by omega, nxt_lt hI hno⟩ (by omega) (SubI.slots (by simp) (by simp (disch := omega) [wrapI]))
  have hdis2 : ∀ u, isS u → subS (s : Int) u → subS u (at0 l head.length) → ¬ covP l head u := fun u hu h1 h2 h3 => fam_zero.1 hB u hu ⟨⟨h1, h2⟩, h3⟩
  have hh2 : hdD l (head ++ [(s : Int)]) := hdD_snoc hh hlt hsS hsubS
  have hd2 := dis_snoc hd hdis2
  have hcv : fam (covP l (head ++ [(s : Int)])) = fam fun u => covP l head u ∨ (subS (s : Int) u ∧ subS u (at0 l head.length)) := fam_congr fun u _ => cov_snoc
  have hG := G_i_divC_at (n := n) hS hl6 hh2 hd2 (by simp; omega)
  rw [hUR, hcv] at hG
  have hnl : (head ++ [(s : Int)]).length = head.length + 1 := by simp
  have hcast : (((head ++ [(s : Int)]).length : Nat) : Int) = (head.length : Int) + 1 := by rw [hnl]; omega
  rw [hcast] at hG
  have hw1 : IntKind.i64.wrap ((head.length : Int) + 1) = (head.length : Int) + 1 := wrapI _ (by omega) (by omega)
  have hnx := nxt_lt (s := s) hI
  have hst2 := fun he => hst s hs6 he hI
  have hsn : ints head ++ [V.int .i64 (s : Int)] = ints (head ++ [(s : Int)]) := by rw [← ints_app]; rfl
  have hts : (head ++ [(s : Int)]).take head.length = head := by simp
  have cut1 : ∀ (T : Tm) (nx : List Int), nx.length = head.length + 1 → subE T [(0, .pt 0 0), (1, .int .i64 (head.length : Int)), (2, .int .u64 (fam (covP l head))), (7, .int .i64 (s : Int)), (8, .int .u64 (fam fun u => subS (s : Int) u ∧ subS u (at0 l head.length)))] →
      SubI 1 T ([(3, ints nx), (2, [.int .i64 (s : Int)]), (0, [.list 1 (ints l), .list 1 UR, .sl 3 1 0 (head.length + 1)])], 4) [(0, .pt 0 0), (1, .int .i64 (head.length : Int)), (2, .int .u64 (fam (covP l head))), (7, .int .i64 (s : Int)), (8, .int .u64 (fam fun u => subS (s : Int) u ∧ subS u (at0 l head.length)))] ([(0, [.list 1 (ints l), .list 1 UR, .own 1 (ints nx)])], 1) := fun T nx hl hT => by
    refine SubI.fold 0 3 2 1 (head.length + 1) (cn := ints nx) (co := [.list 1 (ints l), .list 1 UR, .sl 3 1 0 (head.length + 1)]) rfl rfl rfl (by simp [hl]) ?_
    simp only [subE_cons, subE_nil, and_true] at hT
    obtain ⟨t1, t2, t3, t4, t5⟩ := hT
    refine SubI.ren (fun q => if q = 0 then some 0 else none) ?_ ?_ ?_ (by simp) (by simp)
    · simp [subT, renV, ren1, ← t1, ← t2, ← t3, ← t4, ← t5]
    · simp [-List.all_eq_true, subH, renL, ren1, unA]
    · intro q hq
      simp only at hq
      rw [if_neg (by omega)]
  by_cases he : exD (dvD l) (head ++ [(s : Int)])
  · obtain ⟨e1, e2⟩ := hst2 he
    rw [dec_true he, fdR_yes he] at hG
    rw [dec_true e1] at hX
    rw [fdR_yes e1, e2] at hY
    subst hX hY
    generalize head ++ [(s : Int)] = nx at *
    generalize fdO l nx = O at *
    simp -implicitDefEqProofs [-List.all_eq_true, unA, sc_i_divComplete_L0, F_i_intervalOf, hlt, hsl, hsub, hB, hsn]
    refine ⟨by omega, by omega, CutI.of (cut1 _ nx hnl (by simp)) ?_⟩
    simp -implicitDefEqProofs [-List.all_eq_true, unA, hw1, hG, ren0]
    refine foldE_id ?_
    simp
  · rw [dec_false he, fdR_no he] at hG
    generalize head ++ [(s : Int)] = nx at *
    simp -implicitDefEqProofs [-List.all_eq_true, unA, sc_i_divComplete_L0, F_i_intervalOf, hlt, hsl, hsub, hB, hsn]
    refine ⟨by omega, by omega, CutI.of (cut1 _ nx hnl (by simp)) ?_⟩
    simp -implicitDefEqProofs [-List.all_eq_true, unA, hw1, hG, ren0]
    have hX2 := hnx he
    refine CutI.of (l' := [(0, .pt 0 0), (1, .int .i64 (head.length : Int)), (2, .int .u64 (fam (covP l head))), (7, .int .i64 (s : Int))]) (s' := ([(1, ints nx), (0, [.list 1 (ints l), .list 1 UR, .sl 1 1 0 (head.length + 1)])], 2)) ?_ ?_
    · refine SubI.unfold 0 2 1 (co := [.list 1 (ints l), .list 1 UR, .own 1 (ints nx)]) (cn := ints nx) rfl rfl (by omega) ?_
      exact SubI.slots (by simp [hnl]) (by simp)
    have hw2 : IntKind.i64.wrap (head.length : Int) = (head.length : Int) := wrapI _ (by omega) (by omega)
    simp -implicitDefEqProofs [-List.all_eq_true, unA, hw2, hnl]
    repeat' (first | omega | apply And.intro)
    refine Again.of (s + 1) ⟨by omega, hX2⟩ (by omega) ?_
    refine SubI.shrink 1 head.length (cn := ints nx) rfl (nums_ints nx) ?_
    have e0 : (ints nx).take head.length = ints head := by rw [ints_take, hts]
    refine SubI.fold 0 1 2 1 head.length (cn := ints head) (co := [.list 1 (ints l), .list 1 UR, .sl 1 1 0 head.length]) (by simp [hset, hget, hts]) (by simp [hset, hget, hdel]) rfl (by simp) ?_
    refine SubI.ren (fun q => if q = 0 then some 0 else none) ?_ ?_ ?_ (by simp) (by simp)
    · simp (disch := omega) [subT, renV, ren1, wrapI]
    · simp [-List.all_eq_true, subH, renL, ren1, hset, hdel, unA]
    · intro q hq
      simp only at hq
      rw [if_neg (by omega)]
end Go.Proofs.Ytmemomfffehnkaa
