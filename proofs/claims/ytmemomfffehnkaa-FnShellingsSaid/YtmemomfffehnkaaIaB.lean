import Derived.Test.YtmemomfffehnkaaIaA
import Derived.Test.YtmemomfffehnkaaFnZ
namespace Go.Proofs.Ytmemomfffehnkaa
open Go Go.RowKit
set_option maxRecDepth 1000000
set_option linter.unusedSimpArgs false
set_option linter.unusedVariables false
set_option maxHeartbeats 1000000
theorem cntIv_zero {facets lows : List Int} {u : Int} : ∀ {m : Nat}, (∀ j, j < m → ¬ inIv facets lows u j) → cntIv facets lows u m = 0
  | 0, _ => rfl
  | m + 1, h => by rw [cntIv_neg (h m (by omega)), cntIv_zero fun j hj => h j (by omega)]
theorem cntIv_mono {facets lows : List Int} {u : Int} {j : Nat} : ∀ {m : Nat}, j ≤ m → cntIv facets lows u j ≤ cntIv facets lows u m
  | 0, h => by have : j = 0 := by omega
               subst this; omega
  | m + 1, h => by
    rcases Nat.lt_or_ge m j with h1 | h1
    · have : j = m + 1 := by omega
      subst this; omega
    · have ih := cntIv_mono (facets := facets) (lows := lows) (u := u) h1
      by_cases hi : inIv facets lows u m
      · rw [cntIv_pos hi]; omega
      · rw [cntIv_neg hi]; omega
theorem cntIv_hit {facets lows : List Int} {u : Int} {j m : Nat} (hj : j < m) (h : inIv facets lows u j) : cntIv facets lows u j + 1 ≤ cntIv facets lows u m := by
  rw [← cntIv_pos h]
  exact cntIv_mono hj
theorem cntIv_one {facets lows : List Int} {u : Int} : ∀ {m : Nat}, (∀ k, k < m → ∀ j, j < k → ¬ (inIv facets lows u j ∧ inIv facets lows u k)) → cntIv facets lows u m ≤ 1
  | 0, _ => by simp [cntIv]
  | m + 1, h => by
    by_cases hi : inIv facets lows u m
    · rw [cntIv_pos hi, cntIv_zero fun j hj hh => h m (by omega) j hj ⟨hh, hi⟩]; omega
    · rw [cntIv_neg hi]; exact cntIv_one fun k hk => h k (by omega)
/-- A division, given by its lows. -/
def dvD (l lows : List Int) : Prop := lows.length = l.length ∧ (∀ k, k < lows.length → isS (at0 lows k) ∧ subS (at0 lows k) (at0 l k)) ∧ onceP (setsOf (faceS l)) l lows true
/-- The head of a division as far as single sets tell. -/
def hdD (l head : List Int) : Prop := head.length ≤ l.length ∧ ∀ k, k < head.length → isS (at0 head k) ∧ subS (at0 head k) (at0 l k)
theorem at0_appL {a b : List Int} {k : Nat} (h : k < a.length) : at0 (a ++ b) k = at0 a k := by rw [at0_app, if_pos h]
theorem at0_snoc (a : List Int) (x : Int) : at0 (a ++ [x]) a.length = x := by
  rw [at0_app, if_neg (by omega), Nat.sub_self]
  rfl
theorem hdD_snoc {l head : List Int} {s : Int} (h : hdD l head) (hlt : head.length < l.length) (hs : isS s) (hsub : subS s (at0 l head.length)) : hdD l (head ++ [s]) := by
  obtain ⟨_, h2⟩ := h
  refine ⟨by simp; omega, fun k hk => ?_⟩
  rw [List.length_append, List.length_singleton] at hk
  by_cases e : k = head.length
  · subst e; rw [at0_snoc]; exact ⟨hs, hsub⟩
  · rw [at0_appL (by omega)]; exact h2 k (by omega)
theorem ex_set {l head : List Int} {s : Int} (h : exD (dvD l) (head ++ [s])) : head.length < l.length ∧ isS s ∧ subS s (at0 l head.length) := by
  obtain ⟨t, h1, h2, _⟩ := h
  simp only [List.length_append, List.length_singleton] at h1
  have h3 := h2 head.length (by simp)
  rw [at0_appL (by simp), at0_snoc] at h3
  exact ⟨by omega, h3⟩
theorem ex_full {l head : List Int} (h : head.length = l.length) : exD (dvD l) head ↔ dvD l head := by
  constructor
  · rintro ⟨t, ht⟩
    have h1 := ht.1
    rw [List.length_append] at h1
    have : t = [] := List.length_eq_zero_iff.1 (by omega)
    subst this
    rwa [List.append_nil] at ht
  · intro h
    exact ⟨[], by rwa [List.append_nil]⟩
theorem ex_next {l head : List Int} (h : exD (dvD l) head) (hlt : head.length < l.length) : ∃ u, isS u ∧ exD (dvD l) (head ++ [u]) := by
  obtain ⟨t, ht⟩ := h
  cases t with
  | nil =>
    have := ht.1
    rw [List.append_nil] at this
    omega
  | cons u t =>
    have he : exD (dvD l) (head ++ [u]) := ⟨t, by simpa using ht⟩
    exact ⟨u, (ex_set he).2.1, he⟩
theorem ex_none {l head : List Int} (hlt : head.length < l.length) (h : ∀ u, isS u → u < 64 → ¬ exD (dvD l) (head ++ [u])) : ¬ exD (dvD l) head := fun he => by
  obtain ⟨u, hu, h2⟩ := ex_next he hlt
  exact h u hu hu.2 h2
theorem cntIv_app {l head t : List Int} {u : Int} : ∀ {k : Nat}, k ≤ head.length → cntIv l (head ++ t) u k = cntIv l head u k
  | 0, _ => rfl
  | k + 1, h => by
    have e : inIv l (head ++ t) u k ↔ inIv l head u k := by unfold inIv; rw [at0_appL (by omega)]
    by_cases hi : inIv l head u k
    · rw [cntIv_pos (e.2 hi), cntIv_pos hi, cntIv_app (by omega)]
    · rw [cntIv_neg fun h => hi (e.1 h), cntIv_neg hi, cntIv_app (by omega)]
theorem ex_once {l head : List Int} (h : exD (dvD l) head) : onceP (setsOf (faceS l)) l head false := by
  obtain ⟨t, _, _, h3⟩ := h
  intro u hu
  refine ⟨?_, fun h => by simp at h⟩
  have h4 := (h3 u hu).1
  have h5 := cntIv_mono (facets := l) (lows := head ++ t) (u := u) (j := head.length) (m := (head ++ t).length) (by simp)
  rw [cntIv_app (Nat.le_refl _)] at h5
  omega
theorem hdD_allS {l head : List Int} (h : hdD l head) : allS head := fun x hx => by
  obtain ⟨k, hk, e⟩ := getD_mem_iff.1 hx
  rw [← e]
  exact (h.2 k hk).1
open Classical in
/-- What the search gives. -/
noncomputable def fdO (l head : List Int) : List Int := if exD (dvD l) head then exL (dvD l) (l.length - head.length) head else []
theorem fdO_yes {l head : List Int} (h : exD (dvD l) head) : fdO l head = exL (dvD l) (l.length - head.length) head := if_pos h
theorem fdO_no {l head : List Int} (h : ¬ exD (dvD l) head) : fdO l head = [] := if_neg h
theorem fdO_step {l head : List Int} {s : Nat} (hs : s < 64) (he : exD (dvD l) (head ++ [(s : Int)])) (hm : ∀ u, isS u → u < (s : Int) → ¬ exD (dvD l) (head ++ [u])) : exD (dvD l) head ∧ fdO l head = fdO l (head ++ [(s : Int)]) := by
  have h1 := exD_of _ he
  have h2 := (ex_set he).1
  refine ⟨h1, ?_⟩
  rw [fdO_yes h1, fdO_yes he, List.length_append, List.length_singleton]
  obtain ⟨d, hd⟩ : ∃ d, l.length - head.length = d + 1 := ⟨l.length - head.length - 1, by omega⟩
  rw [show l.length - (head.length + 1) = d by omega, hd]
  exact exL_step d ⟨by omega, by omega⟩ he hm
theorem fdO_full {l head : List Int} (h : head.length = l.length) (he : exD (dvD l) head) : fdO l head = head := by
  rw [fdO_yes he, h, Nat.sub_self]
  rfl
theorem fdO_len (l head : List Int) (h : head.length ≤ l.length) : (fdO l head).length ≤ l.length := by
  by_cases he : exD (dvD l) head
  · rw [fdO_yes he, exL_len]; omega
  · rw [fdO_no he]; exact Nat.zero_le _
/-- Divisions of complexes with few facets. -/
def fdvP (n : Int) (l : List Int) : Prop := cplx n l ∧ l.length ≤ 6 ∧ exD (dvD l) []
open Classical in
noncomputable def fdvL (n : Int) (l : List Int) : List Int := if fdvP n l then fdO l [] else []
theorem fdvL_yes {n : Int} {l : List Int} (h : fdvP n l) : fdvL n l = fdO l [] := if_pos h
theorem fdvL_no {n : Int} {l : List Int} (h : ¬ fdvP n l) : fdvL n l = [] := if_neg h
theorem fdvL_len (n : Int) (l : List Int) : (fdvL n l).length ≤ 64 := by
  by_cases h : fdvP n l
  · rw [fdvL_yes h]
    have := fdO_len l [] (Nat.zero_le _)
    have := h.2.1
    omega
  · rw [fdvL_no h]; exact Nat.zero_le _
noncomputable def F_s_FindDivision : List V → Option V := F1 dC fun c => some (.tup [.own 1 (ints (fdvL c.1 c.2)), .bool (dec (fdvP c.1 c.2))])
def sc_s_l21Find_L0 : SC := (.seq (.seq (.reg [⟨(some 22), none, (.mov (.t 8))⟩, ⟨(some 23), none, (.bin false .lss (.t 22) (.c (.int .i64 64)))⟩]) (.cond (.t 23) .skip (.exit 0))) (.seq (.block 1 (.seq (.reg [⟨(some 26), none, (.mks 0 1 [] [])⟩, ⟨(some 27), none, (.mov (.t 2))⟩, ⟨(some 28), none, (.app 1 8 (.t 26) (.t 27))⟩, ⟨(some 29), none, (.mov (.t 8))⟩, ⟨(some 30), none, (.mks 1 1 [(.int .i64 0)] [(0, (1, (.t 29)))])⟩, ⟨(some 31), none, (.app 1 8 (.t 28) (.t 30))⟩, ⟨(some 9), none, (.mov (.t 31))⟩]) (.seq (.seq (.reg [⟨(some 32), none, (.mov (.t 1))⟩, ⟨(some 33), none, (.mov (.t 2))⟩, ⟨(some 34), none, (.len (.t 33))⟩, ⟨(some 35), none, (.idx 1 (.t 32) (.t 34))⟩, ⟨(some 36), none, (.ld none (.int .i64 0) (.t 35))⟩, ⟨(some 37), none, (.mov (.t 8))⟩, ⟨(some 38), none, (.bin false .and (.t 36) (.t 37))⟩, ⟨(some 39), none, (.mov (.t 8))⟩, ⟨(some 40), none, (.bin false .neq (.t 38) (.t 39))⟩, ⟨(some 41), none, (.mov (.t 40))⟩, ⟨(some 42), (some (41, false)), (.mov (.t 0))⟩, ⟨(some 43), (some (41, false)), (.mov (.t 1))⟩, ⟨(some 44), (some (41, false)), (.mov (.t 9))⟩, ⟨(some 45), (some (41, false)), (.call 205 [(.t 42), (.t 43), (.t 44), (.c (.bool false))])⟩, ⟨(some 46), (some (41, false)), (.un .not (.t 45))⟩, ⟨(some 47), none, (.pick (.t 41) (.c (.bool true)) (.t 46))⟩]) (.cond (.t 47) (.exit 1) .skip)) (.seq (.reg [⟨(some 49), none, (.mov (.t 0))⟩, ⟨(some 50), none, (.mov (.t 1))⟩, ⟨(some 51), none, (.mov (.t 9))⟩, ⟨(some 52), none, (.call 203 [(.t 49), (.t 50), (.t 51)])⟩, ⟨(some 48), none, (.mov (.t 52))⟩, ⟨(some 53), none, (.ext 0 (.t 48))⟩, ⟨(some 54), none, (.ext 1 (.t 48))⟩, ⟨(some 10), none, (.mov (.t 53))⟩, ⟨(some 11), none, (.mov (.t 54))⟩]) (.seq (.reg [⟨(some 55), none, (.mov (.t 11))⟩]) (.cond (.t 55) (.seq (.reg [⟨(some 56), none, (.mov (.t 10))⟩, ⟨(some 6), none, (.mov (.t 56))⟩, ⟨(some 7), none, (.mov (.c (.bool true)))⟩]) .ret) .skip)))))) (.reg [⟨(some 24), none, (.mov (.t 8))⟩, ⟨(some 25), none, (.bin false .add (.t 24) (.c (.int .i64 1)))⟩, ⟨(some 8), none, (.mov (.t 25))⟩])))
def sc_s_l21Find : SC := (.seq (.reg [⟨(some 6), none, (.mov (.c .nil))⟩, ⟨(some 7), none, (.mov (.c (.bool false)))⟩]) (.seq (.seq (.reg [⟨(some 12), none, (.mov (.t 2))⟩, ⟨(some 13), none, (.len (.t 12))⟩, ⟨(some 14), none, (.mov (.t 1))⟩, ⟨(some 15), none, (.len (.t 14))⟩, ⟨(some 16), none, (.bin false .eql (.t 13) (.t 15))⟩]) (.cond (.t 16) (.seq (.reg [⟨(some 17), none, (.mov (.t 2))⟩, ⟨(some 18), none, (.mov (.t 0))⟩, ⟨(some 19), none, (.mov (.t 1))⟩, ⟨(some 20), none, (.mov (.t 2))⟩, ⟨(some 21), none, (.call 205 [(.t 18), (.t 19), (.t 20), (.c (.bool true))])⟩, ⟨(some 6), none, (.mov (.t 17))⟩, ⟨(some 7), none, (.mov (.t 21))⟩]) .ret) .skip)) (.seq (.seq (.reg [⟨(some 8), none, (.mov (.c (.int .i64 0)))⟩]) (.block 0 (.loop sc_s_l21Find_L0))) (.seq (.reg [⟨(some 57), none, (.mks 0 1 [] [])⟩, ⟨(some 6), none, (.mov (.t 57))⟩, ⟨(some 7), none, (.mov (.c (.bool false)))⟩]) .ret))))
theorem code_s_l21Find : fnCode Try.prog [203] 203 = some (58, sc_s_l21Find, [(6, none), (7, none)]) := by kernel_rfl
open Classical in
noncomputable def fdRes (l head : List Int) (m : Nat) : V := if m = l.length then .tup [.sl 0 1 0 m, .bool (dec (dvD l head))] else .tup [.own 1 (ints (fdO l head)), .bool (dec (exD (dvD l) head))]
theorem fdRes_full {l head : List Int} {m : Nat} (h : m = l.length) : fdRes l head m = .tup [.sl 0 1 0 m, .bool (dec (dvD l head))] := if_pos h
theorem fdRes_part {l head : List Int} {m : Nat} (h : ¬ m = l.length) : fdRes l head m = .tup [.own 1 (ints (fdO l head)), .bool (dec (exD (dvD l) head))] := if_neg h
/-- The search with fuel: the head is lent, and comes back where nothing is lacking. -/
noncomputable def G_s_l21Find (n : Nat) : List V → List V → Option (V × List V)
  | [a, b, .sl 0 1 0 m], cells => (dL a).bind fun F => (dL b).bind fun l => (dInts cells).bind fun head =>
      @ite _ (F = setsOf (faceS l) ∧ allS l ∧ l.length ≤ 6 ∧ head.length = m ∧ hdD l head ∧ l.length - m < n) (Classical.propDecidable _) (some (fdRes l head m, ints head)) none
  | _, _ => none
theorem G_s_l21Find_at {n : Nat} {l head : List Int} {m : Nat} (hS : allS l) (hl : l.length ≤ 6) (hm : head.length = m) (hh : hdD l head) (hn : l.length - m < n) :
    G_s_l21Find n [.list 1 (ints (setsOf (faceS l))), .list 1 (ints l), .sl 0 1 0 m] (ints head) = some (fdRes l head m, ints head) := by
  simp only [G_s_l21Find, dL_list, dInts_ints, Option.bind_some]
  rw [if_pos ⟨rfl, hS, hl, hm, hh, hn⟩]
theorem ln_s_l21Find (n : Nat) : LendOk Try.prog 203 2 (G_s_l21Find n) := by
  induction n with
  | zero =>
    refine ⟨callable_of code_s_l21Find, fun args cells r cells' hG => ?_⟩
    unfold G_s_l21Find at hG
    split at hG
    · obtain ⟨F, _, hG⟩ := Option.bind_eq_some_iff.1 hG
      obtain ⟨l, _, hG⟩ := Option.bind_eq_some_iff.1 hG
      obtain ⟨head, _, hG⟩ := Option.bind_eq_some_iff.1 hG
      simp only [Option.ite_none_right_eq_some] at hG
      exact absurd hG.1.2.2.2.2.2 (Nat.not_lt_zero _)
    · simp at hG
  | succ n ih =>
  have env := ((envNil_ok (P := Try.prog)).add fn_s_l21Once).addl ih
  refine fn_lend code_s_l21Find mixed env ?_
  intro args cells r cells' hG hb
  unfold G_s_l21Find at hG
  split at hG
  case h_2 => simp at hG
  rename_i a b m
  obtain ⟨F, h1, hG1⟩ := Option.bind_eq_some_iff.1 hG
  obtain ⟨l, h2, hG2⟩ := Option.bind_eq_some_iff.1 hG1
  obtain ⟨head, h3, hG3⟩ := Option.bind_eq_some_iff.1 hG2
  clear hG hG1 hG2
  have hc := dInts_inv h3
  cases dL_inv h1
  cases dL_inv h2
  subst hc
  simp only [Option.ite_none_right_eq_some, Option.some.injEq, Prod.mk.injEq] at hG3
  obtain ⟨⟨rfl, hS, hl6, rfl, hh, hn⟩, rfl, rfl⟩ := hG3
  clear h1 h2 h3 hb
  refine ⟨by simp, fun w0 U0 L0 N0 => ?_⟩
  have hFS := allS_setsOf (faceS l)
  have hhS := hdD_allS hh
  have hml : head.length ≤ l.length := hh.1
  by_cases hf : head.length = l.length
  · have hF : F_s_l21Once [.list 1 (ints (setsOf (faceS l))), .list 1 (ints l), .list 1 (ints head), .bool true] = some (.bool (dec (dvD l head))) := by
      simp only [F_s_l21Once, F4_mk, dL_list, dB_bool, Option.bind_some]
      rw [if_pos ⟨hFS, hS, hhS, by omega⟩]
      congr 2
      rw [Bool.eq_iff_iff, dec_iff, dec_iff]
      exact ⟨fun h => ⟨by omega, hh.2, h⟩, fun h => h.2.2⟩
    rw [fdRes_full hf]
    generalize setsOf (faceS l) = FL at *
    generalize dec (dvD l head) = v at *
    have htk : head.take l.length = head := List.take_of_length_le (by omega)
    simp -implicitDefEqProofs [sc_s_l21Find, hf, htk, hF]
  have hlt : head.length < l.length := by omega
  rw [fdRes_part hf]
  have hne : ¬ ((head.length : Int) = (l.length : Int)) := by omega
  have hOs := fun (s : Nat) h1 h2 h3 => fdO_step (l := l) (head := head) (s := s) h1 h2 h3
  have hOn : ¬ exD (dvD l) head → fdO l head = [] := fdO_no
  have hEn := fun h => ex_none (l := l) (head := head) hlt h
  generalize fdO l head = O at *
  simp -implicitDefEqProofs [sc_s_l21Find, hne]
  refine loopI env mixed (fun s : Nat => [(0, .list 1 (ints (setsOf (faceS l)))), (1, .list 1 (ints l)), (2, .sl 0 1 0 head.length), (8, .int .i64 (s : Int))]) (fun _ => ([(0, ints head)], 1)) (fun s => s ≤ 64 ∧ ∀ u, isS u → u < (s : Int) → ¬ exD (dvD l) (head ++ [u])) (fun s => 64 - s) 0 ⟨by omega, fun u hu h => by have := hu.1; omega⟩ (SubI.slots (by simp) (by simp)) ?_
  rintro s ⟨hs, hI⟩
  by_cases hs6 : s < 64
  rotate_left
  · have hno := hEn fun u hu h => hI u hu (by omega)
    have e := hOn hno
    have hd := dec_false hno
    subst e
    have hs64 : s = 64 := by omega
    subst hs64
    simp -implicitDefEqProofs [sc_s_l21Find_L0, hd]
  have hs6' : (s : Int) < 64 := by omega
  have hsS := inS s hs6
  have hsn : ints head ++ [V.int .i64 (s : Int)] = ints (head ++ [(s : Int)]) := by rw [← ints_app]; rfl
  have hlS := allS_at hS hlt
  have hml2 : head.length < l.length := by omega
  by_cases hsub : band (at0 l head.length) (s : Int) = s
  rotate_left
  · have hno : ¬ exD (dvD l) (head ++ [(s : Int)]) := fun h => hsub (by
      have h2 := (ex_set h).2.2
      exact (subS_iff' hsS hlS).1 h2)
    simp -implicitDefEqProofs [sc_s_l21Find_L0, hs6', hml2, hsub, hsn]
    repeat' (first | omega | apply And.intro)
    refine Again.of (s + 1) ⟨by omega, nxt_lt hI hno⟩ (by omega) (SubI.ren (fun qq => if qq = 0 then some 0 else none) ?_ ?_ ?_ (by simp) (by simp))
    · simp (disch := omega) [subT, renV, ren1, wrapI]
    · simp [subH, renL, ren1]
    · intro qq hm
      simp only at hm
      rw [if_neg (by omega)]
  have hsubS := (subS_iff' hsS hlS).2 hsub
  have hh2 : hdD l (head ++ [(s : Int)]) := hdD_snoc hh hlt hsS hsubS
  have hF : F_s_l21Once [.list 1 (ints (setsOf (faceS l))), .list 1 (ints l), .list 1 (ints (head ++ [(s : Int)])), .bool false] = some (.bool (dec (onceP (setsOf (faceS l)) l (head ++ [(s : Int)]) false))) := by
    simp only [F_s_l21Once, F4_mk, dL_list, dB_bool, Option.bind_some]
    rw [if_pos ⟨hFS, hS, hdD_allS hh2, by simp; omega⟩]
  by_cases hon : onceP (setsOf (faceS l)) l (head ++ [(s : Int)]) false
  rotate_left
  · have hno : ¬ exD (dvD l) (head ++ [(s : Int)]) := fun h => hon (ex_once h)
    rw [dec_false hon] at hF
    have hnx := nxt_lt hI hno
    have hnl : (head ++ [(s : Int)]).length = head.length + 1 := by simp
    have hgl : (head ++ [(s : Int)]).take (head.length + 1) = head ++ [(s : Int)] := List.take_of_length_le (by simp)
    generalize head ++ [(s : Int)] = nx at *
    simp -implicitDefEqProofs [sc_s_l21Find_L0, hs6', hml2, hsub, hsn, hF, hnl, hgl]
    repeat' (first | omega | apply And.intro)
    refine Again.of (s + 1) ⟨by omega, hnx⟩ (by omega) (SubI.ren (fun qq => if qq = 0 then some 0 else none) ?_ ?_ ?_ (by simp) (by simp))
    · simp (disch := omega) [subT, renV, ren1, wrapI]
    · simp [subH, renL, ren1]
    · intro qq hm
      simp only at hm
      rw [if_neg (by omega)]
  rw [dec_true hon] at hF
  have hnl : (head ++ [(s : Int)]).length = head.length + 1 := by simp
  have hgl : (head ++ [(s : Int)]).take (head.length + 1) = head ++ [(s : Int)] := List.take_of_length_le (by simp)
  have hG := G_s_l21Find_at (n := n) hS hl6 hnl hh2 (by omega)
  have hnx := nxt_lt (s := s) hI
  have hst := fun he => hOs s hs6 he hI
  have back : ∀ (T : Tm) (H : List (Nat × List V)) (k : Nat), ¬ exD (dvD l) (head ++ [(s : Int)]) → subE T [(0, .list 1 (ints (setsOf (faceS l)))), (1, .list 1 (ints l)), (2, .sl 0 1 0 head.length), (8, .int .i64 ((s + 1 : Nat) : Int))] → subH (fun qq => if qq = 0 then some 0 else none) H [(0, ints head)] →
      Again 1 (fun s : Nat => [(0, .list 1 (ints (setsOf (faceS l)))), (1, .list 1 (ints l)), (2, .sl 0 1 0 head.length), (8, .int .i64 (s : Int))]) (fun _ => ([(0, ints head)], 1)) (fun s => s ≤ 64 ∧ ∀ u, isS u → u < (s : Int) → ¬ exD (dvD l) (head ++ [u])) (fun s => 64 - s) s T (H, k) := fun T H k hno hT hH => by
    refine Again.of (s + 1) ⟨by omega, hnx hno⟩ (by omega) (SubI.ren (fun qq => if qq = 0 then some 0 else none) ?_ hH ?_ (by simp) (by simp))
    · simp only [subE_cons, subE_nil, and_true] at hT
      obtain ⟨t1, t2, t3, t4⟩ := hT
      simp [subT, renV, ren1, ← t1, ← t2, ← t3, ← t4]
    · intro qq hm
      simp only at hm
      rw [if_neg (by omega)]
  clear hI hOs hOn hEn hnx
  have hnlx : ∀ a b c d, nolist 5 (.sl a b c d) = true := fun _ _ _ _ => rfl
  have hrn : ∀ (x : List Int) a, List.map (ren0 a 4) (ints x) = ints x := fun x a => by simp [ints, ren0]
  by_cases hf2 : head.length + 1 = l.length
  · rw [fdRes_full hf2] at hG
    have hfe := ex_full (l := l) (head := head ++ [(s : Int)]) (by omega)
    have hfo := fun he => fdO_full (l := l) (head := head ++ [(s : Int)]) (by omega) he
    generalize head ++ [(s : Int)] = nx at *
    generalize setsOf (faceS l) = FL at *
    by_cases he : dvD l nx
    · rw [dec_true he] at hG
      obtain ⟨e1, e2⟩ := hst (hfe.2 he)
      rw [hfo (hfe.2 he)] at e2
      have e4 := dec_true e1
      subst e2
      simp -implicitDefEqProofs [sc_s_l21Find_L0, ren0, hs6', hml2, hsub, hsn, hF, hG, e4, hnl, hgl, hnlx, hrn]
      repeat' (first | omega | apply And.intro)
    · rw [dec_false he] at hG
      simp -implicitDefEqProofs [sc_s_l21Find_L0, ren0, hs6', hml2, hsub, hsn, hF, hG, hnl, hgl, hnlx, hrn]
      repeat' (first | omega | apply And.intro)
      exact back _ _ _ (fun h => he (hfe.1 h)) (by simp (disch := omega) [wrapI]) (by simp [subH, renL, ren1])
  · rw [fdRes_part hf2] at hG
    by_cases he : exD (dvD l) (head ++ [(s : Int)])
    · rw [dec_true he] at hG
      obtain ⟨e1, e2⟩ := hst he
      have e4 := dec_true e1
      generalize head ++ [(s : Int)] = nx at *
      generalize setsOf (faceS l) = FL at *
      rw [← e2] at hG
      simp -implicitDefEqProofs [sc_s_l21Find_L0, ren0, hs6', hml2, hsub, hsn, hF, hG, e4, hnl, hgl, hnlx, hrn]
      repeat' (first | omega | apply And.intro)
    · rw [dec_false he] at hG
      generalize head ++ [(s : Int)] = nx at *
      generalize setsOf (faceS l) = FL at *
      generalize fdO l nx = Z at *
      simp -implicitDefEqProofs [sc_s_l21Find_L0, ren0, hs6', hml2, hsub, hsn, hF, hG, hnl, hgl, hnlx, hrn]
      repeat' (first | omega | apply And.intro)
      exact back _ _ _ he (by simp (disch := omega) [wrapI]) (by simp [subH, renL, ren1])
end Go.Proofs.Ytmemomfffehnkaa
