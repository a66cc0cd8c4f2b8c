import Derived.Test.YtmemomfffehnkaaIbA
namespace Go.Proofs.Ytmemomfffehnkaa
open Go Go.RowKit
set_option maxRecDepth 1000000
set_option linter.unusedSimpArgs false
set_option linter.unusedVariables false
set_option maxHeartbeats 1000000
def sc_s_l19Find_L0 : SC := (.seq (.seq (.reg [⟨(some 15), none, (.mov (.t 6))⟩, ⟨(some 16), none, (.mov (.t 0))⟩, ⟨(some 17), none, (.len (.t 16))⟩, ⟨(some 18), none, (.bin false .lss (.t 15) (.t 17))⟩]) (.cond (.t 18) .skip (.exit 0))) (.seq (.block 1 (.seq (.seq (.reg [⟨(some 21), none, (.mov (.t 1))⟩, ⟨(some 22), none, (.mov (.t 0))⟩, ⟨(some 23), none, (.mov (.t 6))⟩, ⟨(some 24), none, (.idx 1 (.t 22) (.t 23))⟩, ⟨(some 25), none, (.ld none (.int .i64 0) (.t 24))⟩, ⟨(some 26), none, (.call 134 [(.t 21), (.t 25)])⟩, ⟨(some 27), none, (.mov (.t 26))⟩, ⟨(some 28), (some (27, false)), (.mov (.t 1))⟩, ⟨(some 29), (some (27, false)), (.mov (.t 0))⟩, ⟨(some 30), (some (27, false)), (.mov (.t 6))⟩, ⟨(some 31), (some (27, false)), (.idx 1 (.t 29) (.t 30))⟩, ⟨(some 32), (some (27, false)), (.ld none (.int .i64 0) (.t 31))⟩, ⟨(some 33), (some (27, false)), (.call 153 [(.t 28), (.t 32)])⟩, ⟨(some 34), (some (27, false)), (.un .not (.t 33))⟩, ⟨(some 35), none, (.pick (.t 27) (.c (.bool true)) (.t 34))⟩]) (.cond (.t 35) (.exit 1) .skip)) (.seq (.treg (.fst ⟨(some 37), none, (.mov (.t 0))⟩ true (.fst ⟨(some 39), none, (.mov (.t 1))⟩ true (.fst ⟨(some 41), none, (.mov (.t 0))⟩ true (.fst ⟨(some 42), none, (.mov (.t 6))⟩ true (.fst ⟨(some 43), none, (.idx 1 (.t 41) (.t 42))⟩ true (.alt ⟨(some 38), none, (.mks 0 1 [] [])⟩ true (.alt ⟨(some 40), none, (.app 1 8 (.t 38) (.t 39))⟩ true (.fst ⟨(some 44), none, (.ld none (.int .i64 0) (.t 43))⟩ false (.alt ⟨(some 45), none, (.mks 1 1 [(.int .i64 0)] [(0, (1, (.t 44)))])⟩ true (.alt ⟨(some 46), none, (.app 1 8 (.t 40) (.t 45))⟩ true (.alt ⟨(some 47), none, (.call 147 [(.t 37), (.t 46)])⟩ true (.fst ⟨(some 36), none, (.mov (.t 47))⟩ false (.fst ⟨(some 48), none, (.ext 0 (.t 36))⟩ false (.fst ⟨(some 49), none, (.ext 1 (.t 36))⟩ false (.fst ⟨(some 7), none, (.mov (.t 48))⟩ false (.fst ⟨(some 8), none, (.mov (.t 49))⟩ false .done))))) .stop) .stop) .stop)) (.alt ⟨(some 44), none, (.ld none (.int .i64 0) (.t 43))⟩ false (.alt ⟨(some 40), none, (.app 1 8 (.t 38) (.t 39))⟩ true (.alt ⟨(some 45), none, (.mks 1 1 [(.int .i64 0)] [(0, (1, (.t 44)))])⟩ true (.alt ⟨(some 46), none, (.app 1 8 (.t 40) (.t 45))⟩ true (.alt ⟨(some 47), none, (.call 147 [(.t 37), (.t 46)])⟩ true (.fst ⟨(some 36), none, (.mov (.t 47))⟩ false (.fst ⟨(some 48), none, (.ext 0 (.t 36))⟩ false (.fst ⟨(some 49), none, (.ext 1 (.t 36))⟩ false (.fst ⟨(some 7), none, (.mov (.t 48))⟩ false (.fst ⟨(some 8), none, (.mov (.t 49))⟩ false .done))))) .stop) .stop) .stop) (.alt ⟨(some 45), none, (.mks 1 1 [(.int .i64 0)] [(0, (1, (.t 44)))])⟩ true (.alt ⟨(some 40), none, (.app 1 8 (.t 38) (.t 39))⟩ true (.alt ⟨(some 46), none, (.app 1 8 (.t 40) (.t 45))⟩ true (.alt ⟨(some 47), none, (.call 147 [(.t 37), (.t 46)])⟩ true (.fst ⟨(some 36), none, (.mov (.t 47))⟩ false (.fst ⟨(some 48), none, (.ext 0 (.t 36))⟩ false (.fst ⟨(some 49), none, (.ext 1 (.t 36))⟩ false (.fst ⟨(some 7), none, (.mov (.t 48))⟩ false (.fst ⟨(some 8), none, (.mov (.t 49))⟩ false .done))))) .stop) .stop) .stop) .stop)) .stop)) (.alt ⟨(some 44), none, (.ld none (.int .i64 0) (.t 43))⟩ false (.alt ⟨(some 38), none, (.mks 0 1 [] [])⟩ true (.alt ⟨(some 40), none, (.app 1 8 (.t 38) (.t 39))⟩ true (.alt ⟨(some 45), none, (.mks 1 1 [(.int .i64 0)] [(0, (1, (.t 44)))])⟩ true (.alt ⟨(some 46), none, (.app 1 8 (.t 40) (.t 45))⟩ true (.alt ⟨(some 47), none, (.call 147 [(.t 37), (.t 46)])⟩ true (.fst ⟨(some 36), none, (.mov (.t 47))⟩ false (.fst ⟨(some 48), none, (.ext 0 (.t 36))⟩ false (.fst ⟨(some 49), none, (.ext 1 (.t 36))⟩ false (.fst ⟨(some 7), none, (.mov (.t 48))⟩ false (.fst ⟨(some 8), none, (.mov (.t 49))⟩ false .done))))) .stop) .stop) .stop) (.alt ⟨(some 45), none, (.mks 1 1 [(.int .i64 0)] [(0, (1, (.t 44)))])⟩ true (.alt ⟨(some 40), none, (.app 1 8 (.t 38) (.t 39))⟩ true (.alt ⟨(some 46), none, (.app 1 8 (.t 40) (.t 45))⟩ true (.alt ⟨(some 47), none, (.call 147 [(.t 37), (.t 46)])⟩ true (.fst ⟨(some 36), none, (.mov (.t 47))⟩ false (.fst ⟨(some 48), none, (.ext 0 (.t 36))⟩ false (.fst ⟨(some 49), none, (.ext 1 (.t 36))⟩ false (.fst ⟨(some 7), none, (.mov (.t 48))⟩ false (.fst ⟨(some 8), none, (.mov (.t 49))⟩ false .done))))) .stop) .stop) .stop) .stop)) (.alt ⟨(some 45), none, (.mks 1 1 [(.int .i64 0)] [(0, (1, (.t 44)))])⟩ true (.alt ⟨(some 38), none, (.mks 0 1 [] [])⟩ true (.alt ⟨(some 40), none, (.app 1 8 (.t 38) (.t 39))⟩ true (.alt ⟨(some 46), none, (.app 1 8 (.t 40) (.t 45))⟩ true (.alt ⟨(some 47), none, (.call 147 [(.t 37), (.t 46)])⟩ true (.fst ⟨(some 36), none, (.mov (.t 47))⟩ false (.fst ⟨(some 48), none, (.ext 0 (.t 36))⟩ false (.fst ⟨(some 49), none, (.ext 1 (.t 36))⟩ false (.fst ⟨(some 7), none, (.mov (.t 48))⟩ false (.fst ⟨(some 8), none, (.mov (.t 49))⟩ false .done))))) .stop) .stop) .stop) .stop) .stop)) .stop)))))))) (.seq (.reg [⟨(some 50), none, (.mov (.t 8))⟩]) (.cond (.t 50) (.seq (.reg [⟨(some 51), none, (.mov (.t 7))⟩, ⟨(some 4), none, (.mov (.t 51))⟩, ⟨(some 5), none, (.mov (.c (.bool true)))⟩]) .ret) .skip))))) (.reg [⟨(some 19), none, (.mov (.t 6))⟩, ⟨(some 20), none, (.bin false .add (.t 19) (.c (.int .i64 1)))⟩, ⟨(some 6), none, (.mov (.t 20))⟩])))
def sc_s_l19Find : SC := (.seq (.reg [⟨(some 4), none, (.mov (.c .nil))⟩, ⟨(some 5), none, (.mov (.c (.bool false)))⟩]) (.seq (.seq (.reg [⟨(some 9), none, (.mov (.t 1))⟩, ⟨(some 10), none, (.len (.t 9))⟩, ⟨(some 11), none, (.mov (.t 0))⟩, ⟨(some 12), none, (.len (.t 11))⟩, ⟨(some 13), none, (.bin false .eql (.t 10) (.t 12))⟩]) (.cond (.t 13) (.seq (.reg [⟨(some 14), none, (.mov (.t 1))⟩, ⟨(some 4), none, (.mov (.t 14))⟩, ⟨(some 5), none, (.mov (.c (.bool true)))⟩]) .ret) .skip)) (.seq (.seq (.reg [⟨(some 6), none, (.mov (.c (.int .i64 0)))⟩]) (.block 0 (.loop sc_s_l19Find_L0))) (.seq (.reg [⟨(some 52), none, (.mks 0 1 [] [])⟩, ⟨(some 4), none, (.mov (.t 52))⟩, ⟨(some 5), none, (.mov (.c (.bool false)))⟩]) .ret))))
theorem code_s_l19Find : fnCode Try.prog [147] 147 = some (53, sc_s_l19Find, [(4, none), (5, none)]) := by kernel_rfl
open Classical in
noncomputable def shRes (F head : List Int) (m : Nat) : V := if m = F.length then .tup [.sl 0 1 0 m, .bool true] else .tup [.own 1 (ints (shO F head)), .bool (dec (exD (shD F) head))]
theorem shRes_full {F head : List Int} {m : Nat} (h : m = F.length) : shRes F head m = .tup [.sl 0 1 0 m, .bool true] := if_pos h
theorem shRes_part {F head : List Int} {m : Nat} (h : ¬ m = F.length) : shRes F head m = .tup [.own 1 (ints (shO F head)), .bool (dec (exD (shD F) head))] := if_neg h
noncomputable def G_s_l19Find (n : Nat) : List V → List V → Option (V × List V)
  | [a, .sl 0 1 0 m], cells => (dL a).bind fun F => (dInts cells).bind fun head =>
      @ite _ (sfP F ∧ head.length = m ∧ shOk F head ∧ F.length - m < n) (Classical.propDecidable _) (some (shRes F head m, ints head)) none
  | _, _ => none
theorem G_s_l19Find_at {n : Nat} {F head : List Int} {m : Nat} (hF : sfP F) (hm : head.length = m) (hh : shOk F head) (hn : F.length - m < n) :
    G_s_l19Find n [.list 1 (ints F), .sl 0 1 0 m] (ints head) = some (shRes F head m, ints head) := by
  simp only [G_s_l19Find, dL_list, dInts_ints, Option.bind_some]
  rw [if_pos ⟨hF, hm, hh, hn⟩]
theorem ln_s_l19Find (n : Nat) : LendOk Try.prog 147 1 (G_s_l19Find n) := by
  induction n with
  | zero =>
    refine ⟨callable_of code_s_l19Find, fun args cells r cells' hG => ?_⟩
    unfold G_s_l19Find at hG
    split at hG
    · obtain ⟨F, _, hG⟩ := Option.bind_eq_some_iff.1 hG
      obtain ⟨head, _, hG⟩ := Option.bind_eq_some_iff.1 hG
      simp only [Option.ite_none_right_eq_some] at hG
      exact absurd hG.1.2.2.2 (Nat.not_lt_zero _)
    · simp at hG
  | succ n ih =>
  have env := (((envNil_ok (P := Try.prog)).add fn_s_l2Has).add fn_s_l19Fits).addl ih
  refine fn_lend code_s_l19Find mixed env ?_
  intro args cells r cells' hG hb
  unfold G_s_l19Find at hG
  split at hG
  case h_2 => simp at hG
  rename_i a m
  obtain ⟨F, h1, hG1⟩ := Option.bind_eq_some_iff.1 hG
  obtain ⟨head, h3, hG2⟩ := Option.bind_eq_some_iff.1 hG1
  clear hG hG1
  have hc := dInts_inv h3
  cases dL_inv h1
  subst hc
  simp only [Option.ite_none_right_eq_some, Option.some.injEq, Prod.mk.injEq] at hG2
  obtain ⟨⟨hF, rfl, hh, hn⟩, rfl, rfl⟩ := hG2
  clear h1 h3 hb
  refine ⟨by simp, fun w0 U0 L0 N0 => ?_⟩
  have hhS := shOk_allS hF.s hh
  have hml : head.length ≤ F.length := hh.1
  have h8 := hF.l
  by_cases hf : head.length = F.length
  · rw [shRes_full hf]
    have htk : head.take F.length = head := List.take_of_length_le (by omega)
    simp -implicitDefEqProofs [sc_s_l19Find, hf, htk]
  have hlt : head.length < F.length := by omega
  rw [shRes_part hf]
  have hne : ¬ ((head.length : Int) = (F.length : Int)) := by omega
  have hOs := fun (k : Nat) h1 h2 h3 => shO_step (F := F) (head := head) (k := k) hF h1 h2 h3
  have hOn : ¬ exD (shD F) head → shO F head = [] := shO_no
  have hEn := fun h => sh_none (F := F) (head := head) hF.s hlt h
  generalize shO F head = O at *
  simp -implicitDefEqProofs [sc_s_l19Find, hne]
  refine loopI env mixed (fun k : Nat => [(0, .list 1 (ints F)), (1, .sl 0 1 0 head.length), (6, .int .i64 (k : Int))]) (fun _ => ([(0, ints head)], 1)) (fun k => k ≤ F.length ∧ ∀ j, j < k → ¬ exD (shD F) (head ++ [at0 F j])) (fun k => F.length - k) 0 ⟨by omega, fun u hu => by omega⟩ (SubI.slots (by simp) (by simp)) ?_
  rintro k ⟨hk, hI⟩
  by_cases hkF : k < F.length
  rotate_left
  · have hkF : k = F.length := by omega
    subst hkF
    have hno := hEn hI
    have e := hOn hno
    have hd := dec_false hno
    subst e
    simp -implicitDefEqProofs [sc_s_l19Find_L0, hd]
  have hsF : at0 F k ∈ F := getD_mem' hkF
  have hsS := hF.s _ hsF
  by_cases hmem : at0 F k ∈ head
  · have hno : ¬ exD (shD F) (head ++ [at0 F k]) := fun h => (sh_set h).2.2.1 hmem
    have hnx := shn_lt hI hno
    simp -implicitDefEqProofs [sc_s_l19Find_L0, F_s_l2Has, hkF, hmem]
    repeat' (first | omega | apply And.intro)
    exact Again.of (k + 1) ⟨by omega, hnx⟩ (by omega) (SubI.slots (by simp) (by simp (disch := omega) [wrapI]))
  have hF1 : F_s_l19Fits [.list 1 (ints head), .int .i64 (at0 F k)] = some (.bool (dec (fitsS head (at0 F k)))) := by
    simp only [F_s_l19Fits, F2_mk, dL_list, dI_int, Option.bind_some]
    rw [if_pos ⟨hhS, hsS⟩]
  have hfi := sh_fits hF hh hsF hmem
  by_cases hfit : fitsS head (at0 F k)
  rotate_left
  · have hno : ¬ exD (shD F) (head ++ [at0 F k]) := fun h => hfit (hfi.2 (sh_set h).2.2.2)
    have hnx := shn_lt hI hno
    rw [dec_false hfit] at hF1
    simp -implicitDefEqProofs [sc_s_l19Find_L0, F_s_l2Has, hF1, hkF, hmem]
    repeat' (first | omega | apply And.intro)
    exact Again.of (k + 1) ⟨by omega, hnx⟩ (by omega) (SubI.slots (by simp) (by simp (disch := omega) [wrapI]))
  rw [dec_true hfit] at hF1
  have hh2 : shOk F (head ++ [at0 F k]) := shOk_snoc hh hlt hsF hmem (hfi.1 hfit)
  have hsn : ints head ++ [V.int .i64 (at0 F k)] = ints (head ++ [at0 F k]) := by rw [← ints_app]; rfl
  have hnl : (head ++ [at0 F k]).length = head.length + 1 := by simp
  have hgl : (head ++ [at0 F k]).take (head.length + 1) = head ++ [at0 F k] := List.take_of_length_le (by simp)
  have hG := G_s_l19Find_at (n := n) hF hnl hh2 (by omega)
  have hnx := shn_lt (k := k) hI
  have hst := fun he => hOs k hkF he hI
  have back : ∀ (T : Tm) (H : List (Nat × List V)) (q : Nat), ¬ exD (shD F) (head ++ [at0 F k]) → subE T [(0, .list 1 (ints F)), (1, .sl 0 1 0 head.length), (6, .int .i64 ((k + 1 : Nat) : Int))] → subH (fun qq => if qq = 0 then some 0 else none) H [(0, ints head)] →
      Again 1 (fun k : Nat => [(0, .list 1 (ints F)), (1, .sl 0 1 0 head.length), (6, .int .i64 (k : Int))]) (fun _ => ([(0, ints head)], 1)) (fun k => k ≤ F.length ∧ ∀ j, j < k → ¬ exD (shD F) (head ++ [at0 F j])) (fun k => F.length - k) k T (H, q) := fun T H q hno hT hH => by
    refine Again.of (k + 1) ⟨by omega, hnx hno⟩ (by omega) (SubI.ren (fun qq => if qq = 0 then some 0 else none) ?_ hH ?_ (by simp) (by simp))
    · simp only [subE_cons, subE_nil, and_true] at hT
      obtain ⟨t1, t2, t3⟩ := hT
      simp [subT, renV, ren1, ← t1, ← t2, ← t3]
    · intro qq hm
      simp only at hm
      rw [if_neg (by omega)]
  clear hI hOs hOn hEn hnx
  have hnlx : ∀ a b c d, nolist 5 (.sl a b c d) = true := fun _ _ _ _ => rfl
  have hrn : ∀ (x : List Int) a, List.map (ren0 a 4) (ints x) = ints x := fun x a => by simp [ints, ren0]
  by_cases hf2 : head.length + 1 = F.length
  · rw [shRes_full hf2] at hG
    have he := sh_full (F := F) (head := head ++ [at0 F k]) (by omega) hh2
    obtain ⟨e1, e2⟩ := hst he
    rw [shO_full (by omega) he] at e2
    have e4 := dec_true e1
    generalize head ++ [at0 F k] = nx at *
    subst e2
    simp -implicitDefEqProofs [sc_s_l19Find_L0, F_s_l2Has, freeOk, ren0, hF1, hkF, hmem, hsn, hG, e4, hnl, hgl, hnlx, hrn]
    repeat' (first | omega | apply And.intro)
  · rw [shRes_part hf2] at hG
    by_cases he : exD (shD F) (head ++ [at0 F k])
    · rw [dec_true he] at hG
      obtain ⟨e1, e2⟩ := hst he
      have e4 := dec_true e1
      generalize head ++ [at0 F k] = nx at *
      rw [← e2] at hG
      simp -implicitDefEqProofs [sc_s_l19Find_L0, F_s_l2Has, freeOk, ren0, hF1, hkF, hmem, hsn, hG, e4, hnl, hgl, hnlx, hrn]
      repeat' (first | omega | apply And.intro)
    · rw [dec_false he] at hG
      generalize head ++ [at0 F k] = nx at *
      generalize shO F nx = Z at *
      simp -implicitDefEqProofs [sc_s_l19Find_L0, F_s_l2Has, freeOk, ren0, hF1, hkF, hmem, hsn, hG, hnl, hgl, hnlx, hrn]
      repeat' (first | omega | apply And.intro)
      all_goals exact back _ _ _ he (by simp (disch := omega) [wrapI]) (by simp [subH, renL, ren1])
end Go.Proofs.Ytmemomfffehnkaa
