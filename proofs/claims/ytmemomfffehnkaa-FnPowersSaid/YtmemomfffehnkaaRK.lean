import Derived.Test.YtmemomfffehnkaaRJ
import Derived.Test.YtmemomfffehnkaaRI
import Derived.Test.YtmemomfffehnkaaRH
import Derived.Test.YtmemomfffehnkaaRF
import Derived.Test.YtmemomfffehnkaaRD
namespace Go.Proofs.Ytmemomfffehnkaa
open Go Go.RowKit
set_option maxRecDepth 1000000
set_option linter.unusedSimpArgs false
set_option linter.unusedVariables false
set_option maxHeartbeats 1000000
def sc_l_sameLists_L0 : SC := (.seq (.seq (.reg [⟨(some 11), none, (.mov (.t 5))⟩, ⟨(some 12), none, (.mov (.t 0))⟩, ⟨(some 13), none, (.len (.t 12))⟩, ⟨(some 14), none, (.bin false .lss (.t 11) (.t 13))⟩]) (.cond (.t 14) .skip (.exit 0))) (.seq (.block 1 (.seq (.dreg [⟨⟨(some 17), none, (.mov (.t 0))⟩, false, false⟩, ⟨⟨(some 18), none, (.mov (.t 5))⟩, false, false⟩, ⟨⟨(some 19), none, (.idx 1 (.t 17) (.t 18))⟩, false, false⟩, ⟨⟨(some 20), none, (.ld none .nil (.t 19))⟩, false, false⟩, ⟨⟨(some 21), none, (.mov (.t 1))⟩, false, false⟩, ⟨⟨(some 22), none, (.mov (.t 5))⟩, false, false⟩, ⟨⟨(some 23), none, (.idx 1 (.t 21) (.t 22))⟩, false, false⟩, ⟨⟨(some 24), none, (.ld none .nil (.t 23))⟩, false, false⟩, ⟨⟨(some 25), none, (.call 19 [(.t 20), (.t 24)])⟩, false, false⟩, ⟨⟨(some 26), none, (.un .not (.t 25))⟩, false, false⟩]) (.cond (.t 26) (.seq (.reg [⟨(some 4), none, (.mov (.c (.bool false)))⟩]) .ret) .skip))) (.reg [⟨(some 15), none, (.mov (.t 5))⟩, ⟨(some 16), none, (.bin false .add (.t 15) (.c (.int .i64 1)))⟩, ⟨(some 5), none, (.mov (.t 16))⟩])))
def sc_l_sameLists : SC := (.seq (.reg [⟨(some 4), none, (.mov (.c (.bool false)))⟩]) (.seq (.seq (.reg [⟨(some 6), none, (.mov (.t 0))⟩, ⟨(some 7), none, (.len (.t 6))⟩, ⟨(some 8), none, (.mov (.t 1))⟩, ⟨(some 9), none, (.len (.t 8))⟩, ⟨(some 10), none, (.bin false .neq (.t 7) (.t 9))⟩]) (.cond (.t 10) (.seq (.reg [⟨(some 4), none, (.mov (.c (.bool false)))⟩]) .ret) .skip)) (.seq (.seq (.reg [⟨(some 5), none, (.mov (.c (.int .i64 0)))⟩]) (.block 0 (.loop sc_l_sameLists_L0))) (.seq (.reg [⟨(some 4), none, (.mov (.c (.bool true)))⟩]) .ret))))
theorem code_l_sameLists : fnCode Try.prog [] 55 = some (27, sc_l_sameLists, [(4, none)]) := by kernel_rfl
theorem rowsL_dropS {a : List (List Int)} {k : Nat} (h : k < a.length) (v : V) : (rowsL (a.drop k))[0]?.getD v = .list 1 (ints (atR a k)) := by
  rw [← rowsL_drop, List.getElem?_drop, Nat.add_zero, rowsL, List.getElem?_map, List.getElem?_eq_getElem h]
  simp [atR, h]
noncomputable def F_l_sameLists : List V → Option V := F2 dLL dLL fun a b => some (.bool (dec (a = b)))
theorem fn_l_sameLists : FnOk Try.prog 55 F_l_sameLists := by
  have env := (envNil_ok (P := Try.prog)).add fn_l_sameInts
  refine fn_ok code_l_sameLists mixed env ?_
  intro args r h hb
  obtain ⟨_, _, a, b, rfl, h1, h2, h4⟩ := F2_inv h
  cases dLL_inv h1
  cases dLL_inv h2
  cases h4
  clear h h1 h2
  have hla : a.length ≤ 9223372036854775807 := by simpa using (hb (.list 1 (rowsL a)) (by simp)).1
  refine ⟨by simp, fun w0 U0 L0 N0 => ?_⟩
  clear hb
  generalize hv : dec (a = b) = v
  by_cases hl : a.length = b.length
  rotate_left
  · have hv1 : v = false := hv ▸ dec_false fun h => hl (by rw [h])
    have hl' : ¬ ((a.length : Int) = b.length) := by omega
    simp -implicitDefEqProofs [sc_l_sameLists, hl', hv1]
  simp -implicitDefEqProofs [sc_l_sameLists, hl]
  refine loopI env mixed (fun k : Nat => [(0, .list 1 (rowsL a)), (1, .list 1 (rowsL b)), (5, .int .i64 (k : Int))]) (fun _ => ([], 0)) (fun k => k ≤ a.length ∧ ∀ j, j < k → atR a j = atR b j) (fun k => a.length - k) 0 (by simp) (SubI.slots rfl (by simp)) ?_
  rintro k ⟨hk, hI⟩
  by_cases hlt : k < a.length
  · have hlt2 : k < b.length := by omega
    have hS : F_l_sameInts [.list 1 (ints (atR a k)), .list 1 (ints (atR b k))] = some (.bool (dec (atR a k = atR b k))) := by
      simp only [F_l_sameInts, F2_mk, dL_list, Option.bind_some]
    by_cases he : atR a k = atR b k
    · rw [dec_true he] at hS
      simp -implicitDefEqProofs [sc_l_sameLists_L0, freeOk, hlt, hlt2, rowsL_dropS hlt, rowsL_dropS hlt2, hS, fz, noname, dr, nolist]
      repeat' (first | omega | apply And.intro)
      refine Again.of (k + 1) ⟨by omega, fun j hj => ?_⟩ (by omega) (SubI.slots rfl (by simp (disch := omega) [wrapI]))
      rcases Nat.lt_succ_iff_lt_or_eq.1 hj with h1 | rfl
      · exact hI j h1
      · exact he
    · rw [dec_false he] at hS
      have hv1 : v = false := hv ▸ dec_false fun h => he (by rw [h])
      simp -implicitDefEqProofs [sc_l_sameLists_L0, freeOk, hlt, hlt2, rowsL_dropS hlt, rowsL_dropS hlt2, hS, fz, noname, dr, nolist, hv1]
      try omega
  · have hv1 : v = true := hv ▸ dec_true (List.ext_getElem hl fun j h1 h2 => by have := hI j (by omega); rwa [atR_eq h1, atR_eq h2] at this)
    have hka : k = a.length := by omega
    subst hka
    simp -implicitDefEqProofs [sc_l_sameLists_L0, hl, hv1]
end Go.Proofs.Ytmemomfffehnkaa
namespace Go.Proofs.Ytmemomfffehnkaa
open Go Go.RowKit
set_option maxRecDepth 1000000
set_option linter.unusedSimpArgs false
set_option linter.unusedVariables false
set_option maxHeartbeats 1000000
def sc_i_FirstMonomials : SC := (.seq (.reg [⟨(some 6), none, (.mov (.c .nil))⟩]) (.seq (.reg [⟨(some 8), none, (.mov (.t 0))⟩, ⟨(some 9), none, (.mov (.t 1))⟩, ⟨(some 10), none, (.call 47 [(.t 8), (.t 9)])⟩, ⟨(some 7), none, (.mov (.t 10))⟩]) (.seq (.seq (.reg [⟨(some 11), none, (.mov (.t 2))⟩, ⟨(some 12), none, (.bin false .lss (.t 11) (.c (.int .i64 0)))⟩, ⟨(some 13), none, (.mov (.t 12))⟩, ⟨(some 14), (some (13, false)), (.mov (.t 2))⟩, ⟨(some 15), (some (13, false)), (.mov (.t 7))⟩, ⟨(some 16), (some (13, false)), (.len (.t 15))⟩, ⟨(some 17), (some (13, false)), (.bin false .gtr (.t 14) (.t 16))⟩, ⟨(some 18), none, (.pick (.t 13) (.c (.bool true)) (.t 17))⟩]) (.cond (.t 18) (.seq (.reg [⟨(some 6), none, (.mov (.c .nil))⟩]) .ret) .skip)) (.seq (.reg [⟨(some 19), none, (.mov (.t 7))⟩, ⟨(some 20), none, (.mov (.t 2))⟩, ⟨(some 21), none, (.mov (.t 2))⟩, ⟨(some 22), none, (.sli 1 (.t 19) none (some (.t 20)) (some (.t 21)))⟩, ⟨(some 6), none, (.mov (.t 22))⟩]) .ret))))
theorem code_i_FirstMonomials : fnCode Try.prog [] 57 = some (23, sc_i_FirstMonomials, [(6, none)]) := by kernel_rfl
noncomputable def fmV (n d m : Int) : List (List Int) := @ite _ (0 ≤ m ∧ m ≤ (monV n d).length) (Classical.propDecidable _) ((monV n d).take m.toNat) []
noncomputable def F_i_FirstMonomials : List V → Option V := F3 dI dI dI fun n d m => some (.own 1 (rowsV (fmV n d m)))
theorem fn_i_FirstMonomials : FnOk Try.prog 57 F_i_FirstMonomials := by
  have env := (envNil_ok (P := Try.prog)).add fn_i_MonomialsOf
  refine fn_ok code_i_FirstMonomials mixed env ?_
  intro args r h hb
  obtain ⟨_, _, _, n, d, m, rfl, h1, h2, h3, h4⟩ := F3_inv h
  cases dI_inv h1
  cases dI_inv h2
  cases dI_inv h3
  cases h4
  clear h h1 h2 h3 hb
  refine ⟨by simp, fun w0 U0 L0 N0 => ?_⟩
  have hF : F_i_MonomialsOf [.int .i64 n, .int .i64 d] = some (.own 1 (rowsV (monV n d))) := by
    simp only [F_i_MonomialsOf, F2_mk, dI_int, Option.bind_some]
  have hl := monV_len n d
  by_cases hc : 0 ≤ m ∧ m ≤ (monV n d).length
  rotate_left
  · have e : fmV n d m = [] := if_neg hc
    rw [e]
    generalize monV n d = Z at *
    by_cases a1 : m < 0
    · simp -implicitDefEqProofs [sc_i_FirstMonomials, hF, a1]
    · have a2 : (Z.length : Int) < m := by omega
      simp -implicitDefEqProofs [sc_i_FirstMonomials, hF, a1, a2]
  have e : fmV n d m = (monV n d).take m.toNat := if_pos hc
  rw [e]
  obtain ⟨m, rfl⟩ : ∃ q : Nat, m = q := ⟨m.toNat, by omega⟩
  rw [Int.toNat_natCast]
  generalize monV n d = Z at *
  have a1 : ¬ (m : Int) < 0 := by omega
  have a2 : ¬ (Z.length : Int) < (m : Int) := by omega
  have a3 : m ≤ Z.length := by omega
  simp -implicitDefEqProofs [sc_i_FirstMonomials, hF, a1, a2, a3]
  try omega
end Go.Proofs.Ytmemomfffehnkaa
namespace Go.Proofs.Ytmemomfffehnkaa
open Go Go.RowKit
set_option maxRecDepth 1000000
set_option linter.unusedSimpArgs false
set_option linter.unusedVariables false
set_option maxHeartbeats 1000000
def sc_s_FirstMonomials_L0 : SC := (.seq (.seq (.reg [⟨(some 25), none, (.mov (.t 9))⟩, ⟨(some 26), none, (.mov (.t 2))⟩, ⟨(some 27), none, (.bin false .lss (.t 25) (.t 26))⟩]) (.cond (.t 27) .skip (.exit 0))) (.seq (.block 1 (.reg [⟨(some 30), none, (.mov (.t 8))⟩, ⟨(some 31), none, (.mov (.t 7))⟩, ⟨(some 32), none, (.mov (.t 9))⟩, ⟨(some 33), none, (.idx 1 (.t 31) (.t 32))⟩, ⟨(some 34), none, (.ld none .nil (.t 33))⟩, ⟨(some 35), none, (.mks 1 1 [.nil] [(0, (1, (.t 34)))])⟩, ⟨(some 36), none, (.app 1 24 (.t 30) (.t 35))⟩, ⟨(some 8), none, (.mov (.t 36))⟩])) (.reg [⟨(some 28), none, (.mov (.t 9))⟩, ⟨(some 29), none, (.bin false .add (.t 28) (.c (.int .i64 1)))⟩, ⟨(some 9), none, (.mov (.t 29))⟩])))
def sc_s_FirstMonomials : SC := (.seq (.reg [⟨(some 6), none, (.mov (.c .nil))⟩]) (.seq (.reg [⟨(some 10), none, (.mov (.t 0))⟩, ⟨(some 11), none, (.mov (.t 1))⟩, ⟨(some 12), none, (.call 56 [(.t 10), (.t 11)])⟩, ⟨(some 7), none, (.mov (.t 12))⟩]) (.seq (.seq (.reg [⟨(some 13), none, (.mov (.t 7))⟩, ⟨(some 14), none, (.len (.t 13))⟩, ⟨(some 15), none, (.bin false .eql (.t 14) (.c (.int .i64 0)))⟩, ⟨(some 16), none, (.mov (.t 15))⟩, ⟨(some 17), (some (16, false)), (.mov (.t 2))⟩, ⟨(some 18), (some (16, false)), (.mov (.t 7))⟩, ⟨(some 19), (some (16, false)), (.len (.t 18))⟩, ⟨(some 20), (some (16, false)), (.call 132 [(.t 17), (.c (.int .i64 0)), (.t 19)])⟩, ⟨(some 21), (some (16, false)), (.un .not (.t 20))⟩, ⟨(some 22), none, (.pick (.t 16) (.c (.bool true)) (.t 21))⟩]) (.cond (.t 22) (.seq (.reg [⟨(some 23), none, (.mks 0 1 [] [])⟩, ⟨(some 6), none, (.mov (.t 23))⟩]) .ret) .skip)) (.seq (.reg [⟨(some 24), none, (.mks 0 1 [] [])⟩, ⟨(some 8), none, (.mov (.t 24))⟩]) (.seq (.seq (.reg [⟨(some 9), none, (.mov (.c (.int .i64 0)))⟩]) (.block 0 (.loop sc_s_FirstMonomials_L0))) (.seq (.reg [⟨(some 37), none, (.mov (.t 8))⟩, ⟨(some 6), none, (.mov (.t 37))⟩]) .ret))))))
theorem code_s_FirstMonomials : fnCode Try.prog [] 58 = some (38, sc_s_FirstMonomials, [(6, none)]) := by kernel_rfl
theorem und_step {M : List (List Int)} {k : Nat} (hk : k < M.length) (v : V) : (List.replicate k V.undef ++ (rowsV (M.drop k)).set 0 v).set k V.undef = List.replicate (k + 1) V.undef ++ rowsV (M.drop (k + 1)) := by
  rw [List.drop_eq_getElem_cons hk]
  have e : rowsV (M[k] :: M.drop (k + 1)) = .own 1 (ints M[k]) :: rowsV (M.drop (k + 1)) := rfl
  rw [e, List.set_append_right _ _ (by simp)]
  simp [List.replicate_succ']
theorem und_at {M : List (List Int)} {k : Nat} (hk : k < M.length) (v : V) : (List.replicate k V.undef ++ (rowsV (M.drop k)).set 0 v)[k]? = some v := by
  have e : rowsV (M[k] :: M.drop (k + 1)) = .own 1 (ints M[k]) :: rowsV (M.drop (k + 1)) := rfl
  rw [List.getElem?_append_right (by simp), List.drop_eq_getElem_cons hk, e]
  simp
theorem rows_step {M : List (List Int)} {k : Nat} (hk : k < M.length) (v : V) : (rowsV (M.take k) ++ [v]).set k (.own 1 (ints (atR M k))) = rowsV (M.take (k + 1)) := by
  have e : (rowsV (M.take k)).length = k := by simp; omega
  have e2 : rowsV (M.take (k + 1)) = rowsV (M.take k) ++ [.own 1 (ints M[k])] := by
    rw [List.take_succ_eq_append_getElem hk]
    exact List.map_append
  rw [e2, List.set_append_right _ _ (by omega), e, atR_eq hk]
  simp
theorem und_get {M : List (List Int)} {k : Nat} (hk : k < M.length) : (List.replicate k V.undef ++ rowsV (M.drop k))[k]? = some (.own 1 (ints (atR M k))) := by
  rw [List.getElem?_append_right (by simp), List.drop_eq_getElem_cons hk]
  simp [rowsV, atR, hk]
noncomputable def F_s_FirstMonomials : List V → Option V := F3 dI dI dI fun n d m => some (.own 1 (rowsV (fmV n d m)))
set_option maxHeartbeats 4000000
theorem fn_s_FirstMonomials : FnOk Try.prog 58 F_s_FirstMonomials := by
  have env := ((envNil_ok (P := Try.prog)).add fn_s_MonomialsOf).add fn_s_l1In
  refine fn_ok code_s_FirstMonomials mixed env ?_
  intro args r h hb
  obtain ⟨_, _, _, n, d, m, rfl, h1, h2, h3, h4⟩ := F3_inv h
  cases dI_inv h1
  cases dI_inv h2
  cases dI_inv h3
  cases h4
  clear h h1 h2 h3 hb
  refine ⟨by simp, fun w0 U0 L0 N0 => ?_⟩
  have hF : F_s_MonomialsOf [.int .i64 n, .int .i64 d] = some (.own 1 (rowsV (monV n d))) := by
    simp only [F_s_MonomialsOf, F2_mk, dI_int, Option.bind_some]
  have hl := monV_len n d
  have hIn : F_s_l1In [.int .i64 m, .int .i64 0, .int .i64 ((monV n d).length : Int)] = some (.bool (decide (0 ≤ m ∧ m ≤ (monV n d).length))) := by
    simp only [F_s_l1In, F3_mk, dI_int, Option.bind_some]
  by_cases hz : monV n d = []
  · have e : fmV n d m = [] := by
      unfold fmV
      rw [hz]; split <;> simp
    rw [e]
    rw [hz] at hF hIn
    simp only [rowsV_nil] at hF
    simp -implicitDefEqProofs [sc_s_FirstMonomials, hF]
  have hz0 : ¬ ((monV n d).length : Int) = 0 := by have := List.length_pos_iff.2 hz; omega
  by_cases hc : 0 ≤ m ∧ m ≤ (monV n d).length
  rotate_left
  · have e : fmV n d m = [] := if_neg hc
    rw [e]
    rw [decide_eq_false hc] at hIn
    generalize monV n d = Z at *
    simp -implicitDefEqProofs [sc_s_FirstMonomials, hF, hIn, hz, hz0]
  have e : fmV n d m = (monV n d).take m.toNat := if_pos hc
  rw [decide_eq_true hc] at hIn
  rw [e]
  obtain ⟨m, rfl⟩ : ∃ q : Nat, m = q := ⟨m.toNat, by omega⟩
  rw [Int.toNat_natCast]
  generalize monV n d = Z at *
  have a3 : m ≤ Z.length := by omega
  simp -implicitDefEqProofs [sc_s_FirstMonomials, hF, hIn, hz, hz0]
  refine loopI env mixed (fun k : Nat => [(2, .int .i64 (m : Int)), (7, .sl 0 1 0 Z.length), (8, .sl 1 1 0 k), (9, .int .i64 (k : Int))]) (fun k => ([(1, rowsV (Z.take k)), (0, List.replicate k V.undef ++ rowsV (Z.drop k))], 2)) (fun k => k ≤ m) (fun k => m - k) 0 (by simp) (SubI.slots (by simp) (by simp)) ?_
  intro k hk
  by_cases hlt : k < m
  · have hkZ : k < Z.length := by omega
    have hki : (k : Int) < (m : Int) := by omega
    have w4 : IntKind.i64.wrap ((k : Int) + 1) = (k : Int) + 1 := wrapI _ (by omega) (by omega)
    have b1 : (k + 1) * 24 ≤ 140737488355328 := by omega
    have htl : (Z.take k).length = k := by simp; omega
    have hg : (List.replicate k V.undef ++ rowsV (Z.drop k))[k]?.getD V.nil = .own 1 (ints (atR Z k)) := by rw [und_get hkZ]; rfl
    simp -implicitDefEqProofs [sc_s_FirstMonomials_L0, freeOk, hki, hkZ, w4, b1, htl, ldU, V.cell, hg]
    have htt : (Z.take k).take k = Z.take k := by rw [List.take_take]; simp
    rw [htt]
    refine ⟨by omega, Again.of (k + 1) (by omega) (by omega) ?_⟩
    refine SubI.forget 0 k (co := List.replicate k V.undef ++ (rowsV (Z.drop k)).set 0 (.sl 2 1 0 (atR Z k).length)) (n := 2) (sz := 1) (off := 0) (len := (atR Z k).length) (by simp [hget]) (und_at hkZ _) ?_
    rw [und_step hkZ]
    refine SubI.fold 4 2 k 1 (atR Z k).length (cn := ints (atR Z k)) (co := rowsV (Z.take k) ++ [.sl 2 1 0 (atR Z k).length]) (by simp [hget, hset]) (by simp [hget, hset, hdel]) (by rw [List.getElem?_append_right (by simp; omega)]; simp [htl]) (by simp) ?_
    rw [rows_step hkZ]
    refine SubI.ren (fun q => if q = 0 then some 0 else if q = 1 then some 4 else none) ?_ ?_ ?_ (by simp) (by simp)
    · simp [subT, renV, ren1]
    · have hu : ∀ (r : Nat → Option Nat) (j : Nat) (M : List (List Int)), renL r (List.replicate j V.undef ++ rowsV M) = some (List.replicate j V.undef ++ rowsV M) := fun r j M => by
        induction j with
        | zero => simp
        | succ j ih => rw [List.replicate_succ, List.cons_append, renL]; simp [ren1, ih]
      simp [subH, hset, hdel, hu]
    · intro q hq
      simp only at hq
      rw [if_neg (by omega), if_neg (by omega)]
  · have e : k = m := by omega
    subst e
    simp -implicitDefEqProofs [sc_s_FirstMonomials_L0, freeOk]
    refine ⟨by omega, ?_⟩
    rw [List.take_take, Nat.min_self]
end Go.Proofs.Ytmemomfffehnkaa
namespace Go.Proofs.Ytmemomfffehnkaa
open Go Go.RowKit
set_option maxRecDepth 1000000
set_option linter.unusedSimpArgs false
set_option linter.unusedVariables false
set_option maxHeartbeats 1000000
def sc_s_DrawAreMonomialCounts : SC := (.seq (.reg [⟨(some 2), none, (.mov (.c .nil))⟩]) (.seq (.reg [⟨(some 6), none, (.mov (.t 0))⟩, ⟨(some 7), none, (.call 128 [(.t 6)])⟩, ⟨(some 3), none, (.mov (.t 7))⟩]) (.seq (.reg [⟨(some 8), none, (.mov (.t 3))⟩, ⟨(some 9), none, (.call 161 [(.t 8)])⟩, ⟨(some 10), none, (.call 42 [(.t 9)])⟩, ⟨(some 4), none, (.mov (.t 10))⟩]) (.seq (.seq (.reg [⟨(some 11), none, (.mov (.t 4))⟩, ⟨(some 12), none, (.len (.t 11))⟩, ⟨(some 13), none, (.bin false .gtr (.t 12) (.c (.int .i64 0)))⟩, ⟨(some 14), none, (.mov (.t 13))⟩, ⟨(some 15), (some (14, true)), (.mov (.t 3))⟩, ⟨(some 16), (some (14, true)), (.call 162 [(.t 15), (.c (.int .i64 2))])⟩, ⟨(some 17), none, (.pick (.t 14) (.t 16) (.c (.bool false)))⟩]) (.cond (.t 17) (.seq (.reg [⟨(some 18), none, (.mov (.t 3))⟩, ⟨(some 19), none, (.mov (.t 4))⟩, ⟨(some 20), none, (.len (.t 19))⟩, ⟨(some 21), none, (.call 129 [(.t 18), (.t 20)])⟩, ⟨(some 5), none, (.mov (.t 21))⟩]) (.treg (.fst ⟨(some 22), none, (.mov (.t 4))⟩ true (.fst ⟨(some 23), none, (.mov (.t 5))⟩ true (.fst ⟨(some 24), none, (.mov (.t 4))⟩ true (.fst ⟨(some 25), none, (.mov (.t 5))⟩ true (.fst ⟨(some 26), none, (.idx 1 (.t 24) (.t 25))⟩ true (.fst ⟨(some 28), none, (.mov (.t 3))⟩ false (.alt ⟨(some 27), none, (.ld none (.int .i64 0) (.t 26))⟩ false (.alt ⟨(some 29), none, (.call 129 [(.t 28), (.c (.int .i64 5))])⟩ true (.fst ⟨(some 30), none, (.bin false .add (.t 27) (.t 29))⟩ false (.fst ⟨(some 31), none, (.bin false .sub (.t 30) (.c (.int .i64 2)))⟩ false (.fst ⟨(some 32), none, (.idx 1 (.t 22) (.t 23))⟩ false (.alt ⟨none, none, (.st 1 (.t 32) (.t 31))⟩ true .done .stop)))) .stop) (.alt ⟨(some 29), none, (.call 129 [(.t 28), (.c (.int .i64 5))])⟩ true (.fst ⟨(some 27), none, (.ld none (.int .i64 0) (.t 26))⟩ false (.fst ⟨(some 30), none, (.bin false .add (.t 27) (.t 29))⟩ false (.fst ⟨(some 31), none, (.bin false .sub (.t 30) (.c (.int .i64 2)))⟩ false (.fst ⟨(some 32), none, (.idx 1 (.t 22) (.t 23))⟩ false (.alt ⟨none, none, (.st 1 (.t 32) (.t 31))⟩ true .done .stop))))) .stop)))))))))) .skip)) (.seq (.reg [⟨(some 33), none, (.mov (.t 4))⟩, ⟨(some 2), none, (.mov (.t 33))⟩]) .ret)))))
theorem code_s_DrawAreMonomialCounts : fnCode Try.prog [129, 777777] 45 = some (34, sc_s_DrawAreMonomialCounts, [(2, none)]) := by kernel_rfl
open Classical in
/-- The drawn counts. -/
noncomputable def amcD (c : Cur) : List Int :=
  let h := hnL (drawN c).1.1 (drawN c).1.2
  let c1 := (drawN c).2
  if 0 < h.length ∧ onceN c1 2 = true then
    let c2 := (belowN c1 2).2
    let k := (belowN c2 h.length).1.toNat
    h.set k (at0 h k + (belowN (belowN c2 h.length).2 5).1 - 2)
  else h
noncomputable def F_s_DrawAreMonomialCounts : List V → Option V := F1 dBy fun b => some (.own 1 (ints (amcD (newCur b))))
theorem hnL_rng {n : Int} {l : List Int} {k : Nat} (hk : k < (hnL n l).length) : -8960 ≤ at0 (hnL n l) k ∧ at0 (hnL n l) k ≤ 8960 := by
  have e : (hnL n l).length = (fctL n l).length := by simp [hnL]
  rw [e] at hk
  have h7 := fct_len n l
  have e2 : at0 (hnL n l) k = hSum (fctL n l) k (k + 1) := by simp [hnL, at0, hk]
  have := hSum_bnd (n := n) (l := l) hk (k + 1) (Nat.le_refl _)
  rw [e2]
  omega
theorem fn_s_DrawAreMonomialCounts : FnOk Try.prog 45 F_s_DrawAreMonomialCounts := by
  have env := (((((envNil_ok (P := Try.prog)).add fn_s_l1New).add fn_s_HNumbers).addl ln_s_l3Draw).addl ln_s_l1Once).addl ln_s_l1Below
  refine fn_ok code_s_DrawAreMonomialCounts mixed env ?_
  intro args r h hb
  obtain ⟨_, b, rfl, h1, h4⟩ := F1_inv h
  obtain ⟨hw, rfl⟩ := dBy_inv h1
  cases h4
  clear h hb h1
  refine ⟨by simp, fun w0 U0 L0 N0 => ?_⟩
  have hN : F_s_l1New [.list 1 (u8s b)] = some (.opt (curC (newCur b))) := by
    simp only [F_s_l1New, F1_mk, dBy_list hw, Option.bind_some]
  have v0 := newCur_wf hw
  generalize newCur b = c0 at *
  have g0 := G_draw v0
  have v1 := drawN_wf v0
  have hF : F_s_HNumbers [.agg [.int .i64 (drawN c0).1.1, .list 1 (ints (drawN c0).1.2)]] = some (.own 1 (ints (hnL (drawN c0).1.1 (drawN c0).1.2))) := by
    simp only [F_s_HNumbers, F1_mk, dC_agg, Option.bind_some]
  have e0 : amcD c0 = amcD c0 := rfl
  conv at e0 => rhs; unfold amcD
  have hr := fun k => hnL_rng (n := (drawN c0).1.1) (l := (drawN c0).1.2) (k := k)
  generalize hnL (drawN c0).1.1 (drawN c0).1.2 = H at *
  generalize amcD c0 = S at *
  generalize drawN c0 = x at *
  obtain ⟨⟨n, l⟩, c⟩ := x
  simp only at e0 g0 v1 hF
  have g1 := G_once v1 2
  have v2 := belowN_wf v1 2
  by_cases hL : 0 < H.length
  rotate_left
  · have hLi : ¬ (0 : Int) < (H.length : Int) := by omega
    rw [if_neg (fun h => hL h.1)] at e0
    rw [e0]
    simp -implicitDefEqProofs [sc_s_DrawAreMonomialCounts, freeOk, ren0, hN, g0, hF, hL, hLi]
  have hLi : (0 : Int) < (H.length : Int) := by omega
  cases ho : onceN c 2 with
  | false =>
    rw [ho] at e0 g1
    rw [if_neg (by simp)] at e0
    rw [e0]
    simp -implicitDefEqProofs [sc_s_DrawAreMonomialCounts, freeOk, ren0, hN, g0, hF, hL, hLi, g1]
  | true =>
    rw [ho] at e0 g1
    rw [if_pos ⟨hL, rfl⟩] at e0
    have g2 := G_below v2 (H.length : Int)
    have r2 := belowN_rng (belowN c 2).2 (n := (H.length : Int)) (by omega)
    have v3 := belowN_wf v2 (H.length : Int)
    generalize belowN (belowN c 2).2 (H.length : Int) = y at *
    obtain ⟨k, hk⟩ := Int.eq_ofNat_of_zero_le r2.1
    rw [hk] at r2 g2 e0
    rw [Int.toNat_natCast] at e0
    have hkl : k < H.length := by omega
    have hrk := hr k hkl
    have g3 := G_below v3 5
    have r3 := belowN_rng y.2 (n := 5) (by omega)
    generalize belowN y.2 5 = z at *
    have w1 : IntKind.i64.wrap (at0 H k + z.1) = at0 H k + z.1 := wrapI _ (by omega) (by omega)
    have w2 : IntKind.i64.wrap (at0 H k + z.1 - 2) = at0 H k + z.1 - 2 := wrapI _ (by omega) (by omega)
    rw [e0]
    simp -implicitDefEqProofs [sc_s_DrawAreMonomialCounts, freeOk, ren0, hN, g0, hF, hL, hLi, g1, g2, g3, hkl, w1, w2]
    refine ⟨by omega, by rw [List.take_of_length_le (by simp)]⟩
end Go.Proofs.Ytmemomfffehnkaa
namespace Go.Proofs.Ytmemomfffehnkaa
open Go Go.RowKit
set_option maxRecDepth 1000000
set_option linter.unusedSimpArgs false
set_option linter.unusedVariables false
set_option maxHeartbeats 1000000
def sc_s_IsShellable : SC := (.seq (.reg [⟨(some 1), none, (.box (.t 0))⟩, ⟨(some 2), none, (.mov (.c (.bool false)))⟩]) (.seq (.reg [⟨(some 6), none, (.ld (some 2) .undef (.t 1))⟩, ⟨(some 7), none, (.call 31 [(.t 6)])⟩, ⟨(some 5), none, (.mov (.t 7))⟩, ⟨(some 8), none, (.ext 0 (.t 5))⟩, ⟨(some 9), none, (.ext 1 (.t 5))⟩, ⟨(some 3), none, (.mov (.t 8))⟩, ⟨(some 4), none, (.mov (.t 9))⟩]) (.seq (.reg [⟨(some 10), none, (.mov (.t 4))⟩, ⟨(some 2), none, (.mov (.t 10))⟩]) .ret)))
theorem code_s_IsShellable : fnCode Try.prog [] 62 = some (11, sc_s_IsShellable, [(2, none)]) := by kernel_rfl
noncomputable def F_s_IsShellable : List V → Option V := F1 dC fun c => some (.bool (dec (fshP c.1 c.2)))
theorem fn_s_IsShellable : FnOk Try.prog 62 F_s_IsShellable := by
  have env := (envNil_ok (P := Try.prog)).add fn_s_FindShelling
  refine fn_ok code_s_IsShellable mixed env ?_
  intro args r h hb
  obtain ⟨_, ⟨n, l⟩, rfl, h1, h4⟩ := F1_inv h
  cases dC_inv h1
  cases h4
  clear h
  refine ⟨by simp, fun w0 U0 L0 N0 => ?_⟩
  simp -implicitDefEqProofs [sc_s_IsShellable, F_s_FindShelling]
end Go.Proofs.Ytmemomfffehnkaa
namespace Go.Proofs.Ytmemomfffehnkaa
open Go Go.RowKit
set_option maxRecDepth 1000000
set_option linter.unusedSimpArgs false
set_option linter.unusedVariables false
set_option maxHeartbeats 1000000
def sc_l_FnPowers_L0 : SC := (.seq (.seq (.reg [⟨(some 100), none, (.mov (.t 15))⟩, ⟨(some 101), none, (.mov (.t 8))⟩, ⟨(some 102), none, (.len (.t 101))⟩, ⟨(some 103), none, (.bin false .lss (.t 100) (.t 102))⟩]) (.cond (.t 103) .skip (.exit 0))) (.seq (.block 1 (.seq (.reg [⟨(some 106), none, (.mov (.t 8))⟩, ⟨(some 107), none, (.mov (.t 15))⟩, ⟨(some 108), none, (.idx 1 (.t 106) (.t 107))⟩, ⟨(some 109), none, (.ld none .nil (.t 108))⟩, ⟨(some 110), none, (.len (.t 109))⟩, ⟨(some 111), none, (.mov (.t 6))⟩, ⟨(some 112), none, (.bin false .neq (.t 110) (.t 111))⟩, ⟨(some 113), none, (.mov (.t 112))⟩, ⟨(some 114), (some (113, false)), (.mov (.t 8))⟩, ⟨(some 115), (some (113, false)), (.mov (.t 15))⟩, ⟨(some 116), (some (113, false)), (.idx 1 (.t 114) (.t 115))⟩, ⟨(some 117), (some (113, false)), (.ld none .nil (.t 116))⟩, ⟨(some 118), (some (113, false)), (.call 61 [(.t 117)])⟩, ⟨(some 119), (some (113, false)), (.mov (.t 7))⟩, ⟨(some 120), (some (113, false)), (.bin false .neq (.t 118) (.t 119))⟩, ⟨(some 121), none, (.pick (.t 113) (.c (.bool true)) (.t 120))⟩]) (.cond (.t 121) (.seq (.reg [⟨(some 2), none, (.mov (.c (.bool false)))⟩]) .ret) .skip))) (.reg [⟨(some 104), none, (.mov (.t 15))⟩, ⟨(some 105), none, (.bin false .add (.t 104) (.c (.int .i64 1)))⟩, ⟨(some 15), none, (.mov (.t 105))⟩])))
def sc_l_FnPowers_T : SC := (.seq (.reg [⟨(some 148), none, (.ld (some 2) .undef (.t 14))⟩, ⟨(some 149), none, (.call 41 [(.t 148)])⟩, ⟨(some 150), none, (.un .not (.t 149))⟩, ⟨(some 151), none, (.mov (.t 150))⟩, ⟨(some 152), (some (151, false)), (.ld (some 2) .undef (.t 14))⟩, ⟨(some 153), (some (151, false)), (.call 62 [(.t 152)])⟩, ⟨(some 154), (some (151, false)), (.un .not (.t 153))⟩, ⟨(some 155), none, (.pick (.t 151) (.c (.bool true)) (.t 154))⟩, ⟨(some 156), none, (.mov (.t 155))⟩, ⟨(some 157), (some (156, false)), (.fad 1 (.t 14))⟩, ⟨(some 158), (some (156, false)), (.ld none .nil (.t 157))⟩, ⟨(some 159), (some (156, false)), (.len (.t 158))⟩, ⟨(some 160), (some (156, false)), (.bin false .eql (.t 159) (.c (.int .i64 0)))⟩, ⟨(some 161), none, (.pick (.t 156) (.c (.bool true)) (.t 160))⟩, ⟨(some 162), none, (.mov (.t 161))⟩, ⟨(some 163), (some (162, false)), (.ld (some 2) .undef (.t 14))⟩, ⟨(some 164), (some (162, false)), (.call 42 [(.t 163)])⟩, ⟨(some 165), (some (162, false)), (.call 53 [(.t 164)])⟩, ⟨(some 166), none, (.pick (.t 162) (.c (.bool true)) (.t 165))⟩, ⟨(some 2), none, (.mov (.t 166))⟩]) .ret)
def sc_l_FnPowers_M : SC := (.cut (.seq (.reg [⟨(some 122), none, (.mov (.t 7))⟩, ⟨(some 123), none, (.bin false .geq (.t 122) (.c (.int .i64 1)))⟩, ⟨(some 124), none, (.mov (.t 123))⟩, ⟨(some 125), (some (124, true)), (.mov (.t 7))⟩, ⟨(some 126), (some (124, true)), (.bin false .leq (.t 125) (.c (.int .i64 4)))⟩, ⟨(some 127), none, (.pick (.t 124) (.t 126) (.c (.bool false)))⟩, ⟨(some 128), none, (.mov (.t 127))⟩, ⟨(some 129), (some (128, true)), (.mov (.t 6))⟩, ⟨(some 130), (some (128, true)), (.bin false .geq (.t 129) (.c (.int .i64 1)))⟩, ⟨(some 131), none, (.pick (.t 128) (.t 130) (.c (.bool false)))⟩, ⟨(some 132), none, (.mov (.t 131))⟩, ⟨(some 133), (some (132, true)), (.mov (.t 6))⟩, ⟨(some 134), (some (132, true)), (.bin false .leq (.t 133) (.c (.int .i64 6)))⟩, ⟨(some 135), none, (.pick (.t 132) (.t 134) (.c (.bool false)))⟩, ⟨(some 136), none, (.mov (.t 135))⟩, ⟨(some 137), (some (136, true)), (.mov (.t 6))⟩, ⟨(some 138), (some (136, true)), (.mov (.t 7))⟩, ⟨(some 139), (some (136, true)), (.call 59 [(.t 137), (.t 138)])⟩, ⟨(some 140), (some (136, true)), (.mov (.t 7))⟩, ⟨(some 141), (some (136, true)), (.call 51 [(.t 139), (.t 140)])⟩, ⟨(some 142), (some (136, true)), (.mov (.t 6))⟩, ⟨(some 143), (some (136, true)), (.mov (.t 7))⟩, ⟨(some 144), (some (136, true)), (.bin false .add (.t 143) (.c (.int .i64 1)))⟩, ⟨(some 145), (some (136, true)), (.call 59 [(.t 142), (.t 144)])⟩, ⟨(some 146), (some (136, true)), (.bin false .neq (.t 141) (.t 145))⟩, ⟨(some 147), none, (.pick (.t 136) (.t 146) (.c (.bool false)))⟩]) (.cond (.t 147) (.seq (.reg [⟨(some 2), none, (.mov (.c (.bool false)))⟩]) .ret) .skip)) sc_l_FnPowers_T)
def sc_l_FnPowers : SC := (.seq (.reg [⟨(some 2), none, (.mov (.c (.bool false)))⟩]) (.seq (.seq (.reg [⟨(some 16), none, (.mov (.t 0))⟩, ⟨(some 17), none, (.call 10 [(.t 16)])⟩]) (.cond (.t 17) (.seq (.reg [⟨(some 2), none, (.mov (.c (.bool true)))⟩]) .ret) .skip)) (.seq (.reg [⟨(some 19), none, (.mov (.t 0))⟩, ⟨(some 20), none, (.call 44 [(.t 19)])⟩, ⟨(some 18), none, (.mov (.t 20))⟩, ⟨(some 21), none, (.ext 0 (.t 18))⟩, ⟨(some 22), none, (.ext 1 (.t 18))⟩, ⟨(some 3), none, (.mov (.t 21))⟩, ⟨(some 4), none, (.mov (.t 22))⟩]) (.seq (.reg [⟨(some 23), none, (.mov (.t 0))⟩, ⟨(some 24), none, (.call 45 [(.t 23)])⟩, ⟨(some 5), none, (.mov (.t 24))⟩]) (.seq (.reg [⟨(some 26), none, (.mov (.t 0))⟩, ⟨(some 27), none, (.call 46 [(.t 26)])⟩, ⟨(some 25), none, (.mov (.t 27))⟩, ⟨(some 28), none, (.ext 0 (.t 25))⟩, ⟨(some 29), none, (.ext 1 (.t 25))⟩, ⟨(some 6), none, (.mov (.t 28))⟩, ⟨(some 7), none, (.mov (.t 29))⟩]) (.seq (.reg [⟨(some 30), none, (.mov (.t 6))⟩, ⟨(some 31), none, (.mov (.t 7))⟩, ⟨(some 32), none, (.call 47 [(.t 30), (.t 31)])⟩, ⟨(some 8), none, (.mov (.t 32))⟩]) (.seq (.reg [⟨(some 34), none, (.mov (.t 0))⟩, ⟨(some 35), none, (.call 48 [(.t 34)])⟩, ⟨(some 33), none, (.mov (.t 35))⟩, ⟨(some 36), none, (.ext 0 (.t 33))⟩, ⟨(some 37), none, (.ext 1 (.t 33))⟩, ⟨(some 38), none, (.ext 2 (.t 33))⟩, ⟨(some 9), none, (.mov (.t 36))⟩, ⟨(some 10), none, (.mov (.t 37))⟩, ⟨(some 11), none, (.mov (.t 38))⟩]) (.seq (.reg [⟨(some 40), none, (.mov (.t 0))⟩, ⟨(some 41), none, (.call 49 [(.t 40)])⟩, ⟨(some 39), none, (.mov (.t 41))⟩, ⟨(some 42), none, (.ext 0 (.t 39))⟩, ⟨(some 43), none, (.ext 1 (.t 39))⟩, ⟨(some 12), none, (.mov (.t 42))⟩, ⟨(some 13), none, (.mov (.t 43))⟩]) (.seq (.reg [⟨(some 44), none, (.mov (.t 0))⟩, ⟨(some 45), none, (.call 50 [(.t 44)])⟩, ⟨(some 14), none, (.new [(.int .i64 0), .nil])⟩, ⟨none, none, (.st 2 (.t 14) (.t 45))⟩]) (.seq (.seq (.reg [⟨(some 46), none, (.mov (.t 3))⟩, ⟨(some 47), none, (.mov (.t 4))⟩, ⟨(some 48), none, (.call 51 [(.t 46), (.t 47)])⟩, ⟨(some 49), none, (.mov (.t 3))⟩, ⟨(some 50), none, (.mov (.t 4))⟩, ⟨(some 51), none, (.call 52 [(.t 49), (.t 50)])⟩, ⟨(some 52), none, (.bin false .neq (.t 48) (.t 51))⟩, ⟨(some 53), none, (.mov (.t 52))⟩, ⟨(some 54), (some (53, false)), (.mov (.t 5))⟩, ⟨(some 55), (some (53, false)), (.call 53 [(.t 54)])⟩, ⟨(some 56), (some (53, false)), (.mov (.t 5))⟩, ⟨(some 57), (some (53, false)), (.call 54 [(.t 56)])⟩, ⟨(some 58), (some (53, false)), (.bin true .neq (.t 55) (.t 57))⟩, ⟨(some 59), none, (.pick (.t 53) (.c (.bool true)) (.t 58))⟩, ⟨(some 60), none, (.mov (.t 59))⟩, ⟨(some 61), (some (60, false)), (.mov (.t 8))⟩, ⟨(some 62), (some (60, false)), (.mov (.t 6))⟩, ⟨(some 63), (some (60, false)), (.mov (.t 7))⟩, ⟨(some 64), (some (60, false)), (.call 56 [(.t 62), (.t 63)])⟩, ⟨(some 65), (some (60, false)), (.call 55 [(.t 61), (.t 64)])⟩, ⟨(some 66), (some (60, false)), (.un .not (.t 65))⟩, ⟨(some 67), none, (.pick (.t 60) (.c (.bool true)) (.t 66))⟩, ⟨(some 68), none, (.mov (.t 67))⟩, ⟨(some 69), (some (68, false)), (.mov (.t 9))⟩, ⟨(some 70), (some (68, false)), (.mov (.t 10))⟩, ⟨(some 71), (some (68, false)), (.mov (.t 11))⟩, ⟨(some 72), (some (68, false)), (.call 57 [(.t 69), (.t 70), (.t 71)])⟩, ⟨(some 73), (some (68, false)), (.mov (.t 9))⟩, ⟨(some 74), (some (68, false)), (.mov (.t 10))⟩, ⟨(some 75), (some (68, false)), (.mov (.t 11))⟩, ⟨(some 76), (some (68, false)), (.call 58 [(.t 73), (.t 74), (.t 75)])⟩, ⟨(some 77), (some (68, false)), (.call 55 [(.t 72), (.t 76)])⟩, ⟨(some 78), (some (68, false)), (.un .not (.t 77))⟩, ⟨(some 79), none, (.pick (.t 68) (.c (.bool true)) (.t 78))⟩, ⟨(some 80), none, (.mov (.t 79))⟩, ⟨(some 81), (some (80, false)), (.mov (.t 12))⟩, ⟨(some 82), (some (80, false)), (.mov (.t 13))⟩, ⟨(some 83), (some (80, false)), (.call 59 [(.t 81), (.t 82)])⟩, ⟨(some 84), (some (80, false)), (.mov (.t 12))⟩, ⟨(some 85), (some (80, false)), (.mov (.t 13))⟩, ⟨(some 86), (some (80, false)), (.call 60 [(.t 84), (.t 85)])⟩, ⟨(some 87), (some (80, false)), (.bin false .neq (.t 83) (.t 86))⟩, ⟨(some 88), none, (.pick (.t 80) (.c (.bool true)) (.t 87))⟩]) (.cond (.t 88) (.seq (.reg [⟨(some 2), none, (.mov (.c (.bool false)))⟩]) .ret) .skip)) (.seq (.seq (.reg [⟨(some 89), none, (.mov (.t 8))⟩, ⟨(some 90), none, (.len (.t 89))⟩, ⟨(some 91), none, (.bin false .gtr (.t 90) (.c (.int .i64 0)))⟩, ⟨(some 92), none, (.mov (.t 91))⟩, ⟨(some 93), (some (92, true)), (.mov (.t 8))⟩, ⟨(some 94), (some (92, true)), (.len (.t 93))⟩, ⟨(some 95), (some (92, true)), (.mov (.t 6))⟩, ⟨(some 96), (some (92, true)), (.mov (.t 7))⟩, ⟨(some 97), (some (92, true)), (.call 59 [(.t 95), (.t 96)])⟩, ⟨(some 98), (some (92, true)), (.bin false .neq (.t 94) (.t 97))⟩, ⟨(some 99), none, (.pick (.t 92) (.t 98) (.c (.bool false)))⟩]) (.cond (.t 99) (.seq (.reg [⟨(some 2), none, (.mov (.c (.bool false)))⟩]) .ret) .skip)) (.cut (.seq (.reg [⟨(some 15), none, (.mov (.c (.int .i64 0)))⟩]) (.block 0 (.loop sc_l_FnPowers_L0))) sc_l_FnPowers_M))))))))))))
theorem code_l_FnPowers : fnCode Try.prog [1000122, 1000148] 5 = some (167, sc_l_FnPowers, [(2, none)]) := by kernel_rfl
open Classical in
noncomputable def F_l_FnPowers : List V → Option V
  | [.list 1 cells] => if ∃ b, (∀ x ∈ b, 0 ≤ x ∧ x < 256) ∧ cells = u8s b then some (.bool true) else none
  | _ => none
theorem numR_R2 {n : Int} {l : List Int} (h : numR n l) : allR l := fun x hx => by have := h.2.2 x hx; unfold inR; omega
set_option maxHeartbeats 20000000
theorem fn_l_FnPowers : FnOk Try.prog 5 F_l_FnPowers := by
  have env := ((((((((((((((((((((((envNil_ok (P := Try.prog)).add fn_l_big).add fn_l_sameLists).add fn_l_total).add fn_s_DrawPowerBound).add fn_s_DrawAreMonomialCounts).add fn_s_DrawMonomialsOf).add fn_s_DrawFirstMonomials).add fn_s_DrawCountMonomials).add fn_s_DrawIsShellable).add fn_i_MonomialsOf).add fn_s_MonomialsOf).add fn_i_PowerBound).add fn_s_PowerBound).add fn_i_AreMonomialCounts).add fn_s_AreMonomialCounts).add fn_i_FirstMonomials).add fn_s_FirstMonomials).add fn_i_CountMonomials).add fn_s_CountMonomials).add fn_s_IsPure).add fn_s_IsShellable).add fn_s_HNumbers
  refine fn_ok code_l_FnPowers mixed env ?_
  intro args r h hb
  unfold F_l_FnPowers at h
  split at h
  case h_2 => simp at h
  rename_i cells
  simp only [Option.ite_none_right_eq_some, Option.some.injEq] at h
  obtain ⟨⟨b, hbr, rfl⟩, rfl⟩ := h
  clear hb
  refine ⟨by simp, fun w0 U0 L0 N0 => ?_⟩
  have hBig : F_l_big [.list 1 (u8s b)] = some (.bool (decide (1048576 < b.length))) := by simp only [F_l_big, u8s_len]
  by_cases hlong : 1048576 < b.length
  · rw [decide_eq_true hlong] at hBig
    simp -implicitDefEqProofs [sc_l_FnPowers, hBig]
  rw [decide_eq_false hlong] at hBig
  have hw : wfb b := ⟨hbr, by omega⟩
  have v0 := newCur_wf hw
  have hD1 : F_s_DrawPowerBound [.list 1 (u8s b)] = some (.tup [.int .i64 (dcM (newCur b)), .int .i64 (dcK (newCur b))]) := by
    simp only [F_s_DrawPowerBound, F_s_DrawCascadeOf, F1_mk, dBy_list hw, Option.bind_some]
  have hD2 : F_s_DrawAreMonomialCounts [.list 1 (u8s b)] = some (.own 1 (ints (amcD (newCur b)))) := by
    simp only [F_s_DrawAreMonomialCounts, F1_mk, dBy_list hw, Option.bind_some]
  have hD3 : F_s_DrawMonomialsOf [.list 1 (u8s b)] = some (.tup [.int .i64 ((belowN (newCur b) 9).1 - 1), .int .i64 ((belowN (belowN (newCur b) 9).2 8).1 - 1)]) := by
    simp only [F_s_DrawMonomialsOf, F1_mk, dBy_list hw, Option.bind_some]
  have hD4 : F_s_DrawFirstMonomials [.list 1 (u8s b)] = some (.tup [.int .i64 (fmN (newCur b)), .int .i64 (fmD (newCur b)), .int .i64 (fmM (newCur b))]) := by
    simp only [F_s_DrawFirstMonomials, F1_mk, dBy_list hw, Option.bind_some]
  have hD5 : F_s_DrawCountMonomials [.list 1 (u8s b)] = some (.tup [.int .i64 ((belowN (newCur b) 9).1 - 1), .int .i64 ((belowN (belowN (newCur b) 9).2 24).1 - 1)]) := by
    simp only [F_s_DrawCountMonomials, F1_mk, dBy_list hw, Option.bind_some]
  have hD6 : F_s_DrawIsShellable [.list 1 (u8s b)] = some (.agg [.int .i64 (bentN (newCur b)).1.1, .own 1 (ints (bentN (newCur b)).1.2)]) := by
    simp only [F_s_DrawIsShellable, F1_mk, dBy_list hw, Option.bind_some]
  have hnm := bentN_num (newCur b)
  have rd1 := belowN_rng (belowN (newCur b) 9).2 (n := 8) (by omega)
  generalize dcM (newCur b) = pm at *
  generalize dcK (newCur b) = pk at *
  generalize amcD (newCur b) = al at *
  generalize hmd : (belowN (belowN (newCur b) 9).2 8).1 - 1 = md at *
  generalize (belowN (belowN (newCur b) 9).2 24).1 - 1 = cd at *
  generalize (belowN (newCur b) 9).1 - 1 = mn at *
  generalize fmN (newCur b) = fn1 at *
  generalize fmD (newCur b) = fd1 at *
  generalize fmM (newCur b) = fm1 at *
  generalize (bentN (newCur b)).1 = x at *
  obtain ⟨n, l⟩ := x
  simp only at hD6 hnm
  clear v0 hw hbr
  have hR1 := numR_R2 hnm
  have hA1 : ∀ m k, F_i_PowerBound [.int .i64 m, .int .i64 k] = some (.int .i64 (pbV m k)) := fun m k => by simp only [F_i_PowerBound, F2_mk, dI_int, Option.bind_some]
  have hA2 : ∀ m k, F_s_PowerBound [.int .i64 m, .int .i64 k] = some (.int .i64 (pbV m k)) := fun m k => by simp only [F_s_PowerBound, F2_mk, dI_int, Option.bind_some]
  have hA3 : F_i_AreMonomialCounts [.list 1 (ints al)] = some (.bool (dec (amcP al))) := by simp only [F_i_AreMonomialCounts, F1_mk, dL_list, Option.bind_some]
  have hA4 : F_s_AreMonomialCounts [.list 1 (ints al)] = some (.bool (dec (amcP al))) := by simp only [F_s_AreMonomialCounts, F1_mk, dL_list, Option.bind_some]
  have hA5 : F_i_MonomialsOf [.int .i64 mn, .int .i64 md] = some (.own 1 (rowsV (monV mn md))) := by simp only [F_i_MonomialsOf, F2_mk, dI_int, Option.bind_some]
  have hA6 : F_s_MonomialsOf [.int .i64 mn, .int .i64 md] = some (.own 1 (rowsV (monV mn md))) := by simp only [F_s_MonomialsOf, F2_mk, dI_int, Option.bind_some]
  have hA7 : F_l_sameLists [.list 1 (rowsL (monV mn md)), .list 1 (rowsL (monV mn md))] = some (.bool true) := by
    simp only [F_l_sameLists, F2_mk, dLL_list, Option.bind_some]
    rw [dec_true (by trivial)]
  have hA8 : F_i_FirstMonomials [.int .i64 fn1, .int .i64 fd1, .int .i64 fm1] = some (.own 1 (rowsV (fmV fn1 fd1 fm1))) := by simp only [F_i_FirstMonomials, F3_mk, dI_int, Option.bind_some]
  have hA9 : F_s_FirstMonomials [.int .i64 fn1, .int .i64 fd1, .int .i64 fm1] = some (.own 1 (rowsV (fmV fn1 fd1 fm1))) := by simp only [F_s_FirstMonomials, F3_mk, dI_int, Option.bind_some]
  have hA10 : F_l_sameLists [.list 1 (rowsL (fmV fn1 fd1 fm1)), .list 1 (rowsL (fmV fn1 fd1 fm1))] = some (.bool true) := by
    simp only [F_l_sameLists, F2_mk, dLL_list, Option.bind_some]
    rw [dec_true (by trivial)]
  have hA11 : ∀ m k, F_i_CountMonomials [.int .i64 m, .int .i64 k] = some (.int .i64 (cmV m k)) := fun m k => by simp only [F_i_CountMonomials, F2_mk, dI_int, Option.bind_some]
  have hA12 : ∀ m k, F_s_CountMonomials [.int .i64 m, .int .i64 k] = some (.int .i64 (cmV m k)) := fun m k => by simp only [F_s_CountMonomials, F2_mk, dI_int, Option.bind_some]
  have hA13 : F_s_IsPure [.agg [.int .i64 n, .list 1 (ints l)]] = some (.bool (pureB n l)) := by
    simp only [F_s_IsPure, F1_mk, dC_agg, Option.bind_some]
    exact if_pos hR1
  have hA14 : F_s_IsShellable [.agg [.int .i64 n, .list 1 (ints l)]] = some (.bool (dec (fshP n l))) := by simp only [F_s_IsShellable, F1_mk, dC_agg, Option.bind_some]
  have hA15 : F_s_HNumbers [.agg [.int .i64 n, .list 1 (ints l)]] = some (.own 1 (ints (hnL n l))) := by simp only [F_s_HNumbers, F1_mk, dC_agg, Option.bind_some]
  have hA16 : F_i_AreMonomialCounts [.list 1 (ints (hnL n l))] = some (.bool (dec (amcP (hnL n l)))) := by simp only [F_i_AreMonomialCounts, F1_mk, dL_list, Option.bind_some]
  have hlen := monV_len mn md
  have q1 := fun h => monV_fact (n := mn) (d := md) h
  have hA17 : ∀ k, k < (monV mn md).length → F_l_total [.list 1 (ints (atR (monV mn md) k))] = some (.int .i64 md) := fun k hk => by
    have hne : monV mn md ≠ [] := by intro e; rw [e] at hk; simp at hk
    obtain ⟨a, b, c⟩ := (q1 hne).1 k hk
    have hmn : mn ≤ 6 := by
      refine Classical.byContradiction fun h => hne (if_neg (by omega))
    simp only [F_l_total, F1_mk, dL_list, Option.bind_some]
    rw [if_pos ⟨c, by omega⟩, b]
  have q2 := fun h => powV_fact (n := mn) (d := md) h
  have q3 := fun h1 h2 h3 => mac_law (n := n) (l := l) h1 h2 h3
  generalize fmV fn1 fd1 fm1 = FM at *
  generalize hMM : monV mn md = MM at *
  generalize hnL n l = HH at *
  have loop : ∀ (l0 : Tm) (s0 : Hp) (Q : Post), SubI 0 l0 s0 [(6, .int .i64 mn), (7, .int .i64 md), (8, .sl 1 1 0 MM.length), (14, .pt 3 0), (15, .int .i64 0)] ([(3, [.int .i64 n, .sl 2 1 0 l.length]), (2, ints l), (1, rowsV MM)], 4) →
      Q (.exit 0) [(6, .int .i64 mn), (7, .int .i64 md), (14, .pt 3 0)] ([(3, [.int .i64 n, .sl 2 1 0 l.length]), (2, ints l), (1, rowsV MM)], 4) →
      LoopI ⟨Try.prog, w0, U0, L0, N0, 0, 167⟩ [1000122, 1000148] sc_l_FnPowers_L0 Q l0 s0 := by
    intro l0 s0 Q hs hQ
    refine loopQ env mixed (fun k : Nat => [(6, .int .i64 mn), (7, .int .i64 md), (8, .sl 1 1 0 MM.length), (14, .pt 3 0), (15, .int .i64 (k : Int))]) (fun _ => ([(3, [.int .i64 n, .sl 2 1 0 l.length]), (2, ints l), (1, rowsV MM)], 4)) (fun k => k ≤ MM.length) (fun k => MM.length - k) 0 (by simp) (by simpa using hs) ?_
    intro k hk
    have hwk : IntKind.i64.wrap ((k : Int) + 1) = (k : Int) + 1 := wrapI _ (by omega) (by omega)
    by_cases hlt : k < MM.length
    · have hne : MM ≠ [] := by intro e; rw [e] at hlt; simp at hlt
      obtain ⟨a, _, _⟩ := (q1 hne).1 k hlt
      have hTt := hA17 k hlt
      have hself := rowsV_self (M := MM) (i := k) hlt
      have htk : (atR MM k).take (atR MM k).length = atR MM k := List.take_of_length_le (Nat.le_refl _)
      have hset : ((rowsV MM).set k (.sl 4 1 0 (atR MM k).length)).set k (.own 1 (ints (atR MM k))) = rowsV MM := by rw [List.set_set]; exact hself
      generalize hrr : atR MM k = rr at *
      simp -implicitDefEqProofs [sc_l_FnPowers_L0, freeOk, hlt, ldU, a, hTt, hwk, hrr]
      refine Again.of (k + 1) (by omega) (by omega) ?_
      refine SubI.fold 1 4 k 1 rr.length (cn := ints rr) (co := (rowsV MM).set k (.sl 4 1 0 rr.length)) (by simp [hget]) (by simp [hget, hdel]) (by simp [hlt]) (by simp) ?_
      rw [hset]
      exact SubI.ren (fun q => if q = 3 then some 3 else if q = 2 then some 2 else if q = 1 then some 1 else none) (by simp [subT, renV, ren1]) (by simp [subH, hset, hdel, renL, ren1]) (by intro q hq; simp only at hq; rw [if_neg (by omega), if_neg (by omega), if_neg (by omega)]) (by simp) (by simp)
    · have hkl : k = MM.length := by omega
      subst hkl
      simp -implicitDefEqProofs [sc_l_FnPowers_L0, freeOk]
      exact SubQ.of (SubI.slots rfl (by simp)) hQ
  have hCnt : 0 < MM.length → (MM.length : Int) = cmV mn md := fun h => (q1 (List.length_pos_iff.1 h)).2
  have wd : IntKind.i64.wrap (md + 1) = md + 1 := wrapI _ (by omega) (by omega)
  have htkl : l.take l.length = l := List.take_of_length_le (Nat.le_refl _)
  have last : vc ⟨Try.prog, w0, U0, L0, N0, 0, 167⟩ ⟨[(42, F_s_HNumbers), (62, F_s_IsShellable), (41, F_s_IsPure), (60, F_s_CountMonomials), (59, F_i_CountMonomials), (58, F_s_FirstMonomials), (57, F_i_FirstMonomials), (54, F_s_AreMonomialCounts), (53, F_i_AreMonomialCounts), (52, F_s_PowerBound), (51, F_i_PowerBound), (56, F_s_MonomialsOf), (47, F_i_MonomialsOf), (50, F_s_DrawIsShellable), (49, F_s_DrawCountMonomials), (48, F_s_DrawFirstMonomials), (46, F_s_DrawMonomialsOf), (45, F_s_DrawAreMonomialCounts), (44, F_s_DrawPowerBound), (61, F_l_total), (55, F_l_sameLists), (10, F_l_big)], [], []⟩ [1000122, 1000148] sc_l_FnPowers_T (retE 0 [(2, none)] (.bool true) fun _ => True) [(14, .pt 3 0)] ([(3, [.int .i64 n, .sl 2 1 0 l.length]), (2, ints l)], 4) := by
    by_cases e1 : pureB n l = true
    · by_cases e2 : fshP n l
      · by_cases e3 : l = []
        · subst e3
          have f1 : F_s_IsPure [.agg [.int .i64 n, .list 1 []]] = some (.bool true) := by rw [← e1]; exact hA13
          have f2 : F_s_IsShellable [.agg [.int .i64 n, .list 1 []]] = some (.bool true) := by rw [← dec_true e2]; exact hA14
          simp -implicitDefEqProofs [sc_l_FnPowers_T, freeOk, f1, f2]
        · have e4 := dec_true (q3 e1 e2 e3)
          have e5 : ¬ ((l.length : Int) = 0) := by have := List.length_pos_iff.2 e3; omega
          simp -implicitDefEqProofs [sc_l_FnPowers_T, freeOk, hA13, hA14, hA15, hA16, e1, dec_true e2, htkl, e3, e4, e5]
      · simp -implicitDefEqProofs [sc_l_FnPowers_T, freeOk, hA13, hA14, e1, dec_false e2, htkl]
    · have e1' : pureB n l = false := by simpa using e1
      simp -implicitDefEqProofs [sc_l_FnPowers_T, freeOk, hA13, e1', htkl]
  have mid : vc ⟨Try.prog, w0, U0, L0, N0, 0, 167⟩ ⟨[(42, F_s_HNumbers), (62, F_s_IsShellable), (41, F_s_IsPure), (60, F_s_CountMonomials), (59, F_i_CountMonomials), (58, F_s_FirstMonomials), (57, F_i_FirstMonomials), (54, F_s_AreMonomialCounts), (53, F_i_AreMonomialCounts), (52, F_s_PowerBound), (51, F_i_PowerBound), (56, F_s_MonomialsOf), (47, F_i_MonomialsOf), (50, F_s_DrawIsShellable), (49, F_s_DrawCountMonomials), (48, F_s_DrawFirstMonomials), (46, F_s_DrawMonomialsOf), (45, F_s_DrawAreMonomialCounts), (44, F_s_DrawPowerBound), (61, F_l_total), (55, F_l_sameLists), (10, F_l_big)], [], []⟩ [1000122, 1000148] sc_l_FnPowers_M (retE 0 [(2, none)] (.bool true) fun _ => True) [(6, .int .i64 mn), (7, .int .i64 md), (14, .pt 3 0)] ([(3, [.int .i64 n, .sl 2 1 0 l.length]), (2, ints l), (1, rowsV MM)], 4) := by
    have fin : ∀ (l0 : Tm), tget l0 14 = .pt 3 0 → CutI 0 (vc ⟨Try.prog, w0, U0, L0, N0, 0, 167⟩ ⟨[(42, F_s_HNumbers), (62, F_s_IsShellable), (41, F_s_IsPure), (60, F_s_CountMonomials), (59, F_i_CountMonomials), (58, F_s_FirstMonomials), (57, F_i_FirstMonomials), (54, F_s_AreMonomialCounts), (53, F_i_AreMonomialCounts), (52, F_s_PowerBound), (51, F_i_PowerBound), (56, F_s_MonomialsOf), (47, F_i_MonomialsOf), (50, F_s_DrawIsShellable), (49, F_s_DrawCountMonomials), (48, F_s_DrawFirstMonomials), (46, F_s_DrawMonomialsOf), (45, F_s_DrawAreMonomialCounts), (44, F_s_DrawPowerBound), (61, F_l_total), (55, F_l_sameLists), (10, F_l_big)], [], []⟩ [1000122, 1000148] sc_l_FnPowers_T (retE 0 [(2, none)] (.bool true) fun _ => True)) l0 ([(3, [.int .i64 n, .sl 2 1 0 l.length]), (2, ints l), (1, rowsV MM)], 4) := fun l0 h =>
      CutI.of (l' := [(14, .pt 3 0)]) (s' := ([(3, [.int .i64 n, .sl 2 1 0 l.length]), (2, ints l)], 4)) (SubI.ren (fun q => if q = 3 then some 3 else if q = 2 then some 2 else none) (by simp [subT, h, renV, ren1]) (by simp [subH, renL, ren1]) (by intro q hq; simp only at hq; rw [if_neg (by omega), if_neg (by omega)]) (by simp) (by simp)) last
    clear last
    by_cases b1 : 1 ≤ md
    rotate_left
    · simp -implicitDefEqProofs [sc_l_FnPowers_M, freeOk, b1]
      exact fin _ (by simp)
    by_cases b2 : md ≤ 4
    rotate_left
    · simp -implicitDefEqProofs [sc_l_FnPowers_M, freeOk, b1, b2]
      exact fin _ (by simp)
    by_cases b3 : 1 ≤ mn
    rotate_left
    · simp -implicitDefEqProofs [sc_l_FnPowers_M, freeOk, b1, b2, b3]
      exact fin _ (by simp)
    by_cases b4 : mn ≤ 6
    rotate_left
    · simp -implicitDefEqProofs [sc_l_FnPowers_M, freeOk, b1, b2, b3, b4]
      exact fin _ (by simp)
    have q2' := q2 ⟨b1, b2, b3, b4⟩
    simp -implicitDefEqProofs [sc_l_FnPowers_M, freeOk, hA1, hA11, wd, b1, b2, b3, b4, q2']
    exact fin _ (by simp)
  clear last
  simp -implicitDefEqProofs [sc_l_FnPowers, freeOk, hBig, hD1, hD2, hD3, hD4, hD5, hD6, hA1, hA2, hA3, hA4, hA5, hA6, hA7, hA8, hA9, hA10, hA11, hA12]
  have cut1 : ∀ (l0 : Tm), tget l0 6 = .int .i64 mn → tget l0 7 = .int .i64 md → tget l0 14 = .pt 3 0 → tget l0 8 = .sl 1 1 0 MM.length → SubI 0 ((15, .int .i64 0) :: l0) ([(6, rowsV FM), (5, rowsV FM), (4, rowsV MM), (3, [.int .i64 n, .sl 2 1 0 l.length]), (2, ints l), (1, rowsV MM), (0, ints al)], 7) [(6, .int .i64 mn), (7, .int .i64 md), (8, .sl 1 1 0 MM.length), (14, .pt 3 0), (15, .int .i64 0)] ([(3, [.int .i64 n, .sl 2 1 0 l.length]), (2, ints l), (1, rowsV MM)], 4) := fun l0 a b c d =>
    SubI.ren (fun q => if q = 3 then some 3 else if q = 2 then some 2 else if q = 1 then some 1 else none) (by simp [subT, a, b, c, d, renV, ren1]) (by simp [subH, renL, ren1]) (by intro q hq; simp only at hq; rw [if_neg (by omega), if_neg (by omega), if_neg (by omega)]) (by simp) (by simp)
  refine ⟨fun h0 => ⟨fun hcc => ?_, hCnt h0⟩, fun h0 => ?_⟩
  all_goals
    refine loop _ _ _ (cut1 _ (by simp) (by simp) (by simp) (by simp)) ?_
    clear loop
    simp -implicitDefEqProofs [freeOk]
    exact CutI.of (SubI.slots rfl (by simp)) mid
end Go.Proofs.Ytmemomfffehnkaa
namespace Go.Proofs.Ytmemomfffehnkaa
open Go.ChangeShapes Go.WideShapes Go.ChangeAt Go.RowKit
set_option maxRecDepth 1000000
set_option linter.unusedSimpArgs false
set_option linter.unusedVariables false
section
variable {H : Type} {enc : TypeId × Value → H} {P : Program} {w : World} {base : Nat} {held : Bool} {N : Nm} {U : Nat → Prop}
theorem wf_u8 {n : Int} (h : (Lit.int .u8 n).wf = true) : 0 ≤ n ∧ n < 256 := by
  have h1 : IntKind.u8.min = 0 := rfl
  have h2 : IntKind.u8.max = 255 := rfl
  simp only [Lit.wf, Bool.and_eq_true, decide_eq_true_eq] at h
  omega
theorem rvs_u8s : ∀ (l : List Int), RVs N U w (u8s l) (l.map (Value.int .u8)) [] := by
  intro l
  induction l with
  | nil => exact .nil
  | cons a l ih => exact .cons _ _ _ _ [] [] _ (.int _ _) ih rfl
theorem rd_bytes1 (hU : ∀ b, b < w.heap.size → U b) {t e : TypeId} {fuel : Nat} {cs : List Value} {x : DataW H × List MemPlace} (ht : P.underlying t = some (.slice e)) (he : P.underlying e = some (.int .u8)) (hc : P.cellsOf e = 1)
    (h : DataW.trod enc P w base (fun _ => true) held fuel t cs = some x) : ∃ v l, cs = [v] ∧ v.cells = #[v] ∧ (∀ n ∈ l, 0 ≤ n ∧ n < 256) ∧ RV N U w (.list 1 (u8s l)) v [] := by
  rcases open_ints ht he hc h with ⟨rfl, _⟩ | ⟨a, len, cap, zs, rfl, _, hl, hm, hz, _, hcell, hw⟩
  · exact ⟨_, [], rfl, rfl, by simp, .listE 1 none 0⟩
  · simp only [if_true] at hz
    rcases Nat.eq_zero_or_pos len with rfl | h0
    · exact ⟨_, [], rfl, rfl, by simp, .listE 1 (some a) cap⟩
    · obtain ⟨b, o, sp⟩ := a
      have h1 := hcell 0 (by omega)
      have hs : sp = none := by simpa [Addr.add] using World.cell?_spot h1
      subst hs
      rw [add_plain] at h1
      refine ⟨_, zs.take len, rfl, rfl, fun n hn => wf_u8 (hw n (List.mem_of_mem_take hn)), ?_⟩
      refine .list 1 _ b o len cap ((zs.take len).map (Value.int .u8)) (hU b (cell_lt h1)) (by simp; omega) hl (by omega) (by omega) ?_ (rvs_u8s _)
      intro j c hj
      simp only [List.getElem?_map, Option.map_eq_some_iff] at hj
      obtain ⟨y, hy, rfl⟩ := hj
      have hjl : j < len := by
        have := (List.getElem?_eq_some_iff.1 hy).1
        simp at this
        omega
      have := hcell j (by omega)
      rw [add_plain] at this
      rw [this]
      rw [List.getElem?_take_of_lt hjl] at hy
      simp [List.getD, hy]
theorem rd_bytes (hU : ∀ b, b < w.heap.size → U b) {t e : TypeId} {v : Value} {d : DataW H} {p : List MemPlace} {r : Reach} {b0 : Nat} (ht : P.underlying t = some (.slice e)) (he : P.underlying e = some (.int .u8)) (hc : P.cellsOf e = 1)
    (hval : Value.okWide P w r b0 t v) (h : DataW.Trod enc P w base (fun _ => true) held t v d p) : ∃ l, (∀ n ∈ l, 0 ≤ n ∧ n < 256) ∧ RV N U w (.list 1 (u8s l)) v [] := by
  obtain ⟨a0, len, cap, rfl⟩ := okWide_slice ht hval
  obtain ⟨fuel, hf⟩ := h
  obtain ⟨v', l, h1, h2, h3, h4⟩ := rd_bytes1 (N := N) hU ht he hc hf
  have e : v' = .slice a0 len cap := by
    have : (Value.slice a0 len cap).cells.toList = [Value.slice a0 len cap] := rfl
    rw [this] at h1
    injection h1 with h1 _
    exact h1.symm
  subst e
  exact ⟨l, h3, h4⟩
end
end Go.Proofs.Ytmemomfffehnkaa
