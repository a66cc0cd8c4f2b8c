import Derived.Test.YtncnohompmcddaaGdB
import Derived.Test.YtncnohompmcddaaGdC
namespace Go.Proofs.Ytncnohompmcddaa
open Go Go.RowKit
set_option maxRecDepth 1000000
set_option linter.unusedSimpArgs false
set_option linter.unusedVariables false
set_option maxHeartbeats 1000000
def sc_i_BorderMatrix : SC := (.seq (.reg [⟨(some 2), none, (.box (.t 0))⟩, ⟨(some 4), none, (.mov (.c .nil))⟩]) (.seq (.seq (.reg [⟨(some 5), none, (.ld (some 2) .undef (.t 2))⟩, ⟨(some 6), none, (.call 38 [(.t 5)])⟩, ⟨(some 7), none, (.un .not (.t 6))⟩, ⟨(some 8), none, (.mov (.t 7))⟩, ⟨(some 9), (some (8, false)), (.mov (.t 1))⟩, ⟨(some 10), (some (8, false)), (.bin false .lss (.t 9) (.c (.int .i64 1)))⟩, ⟨(some 11), none, (.pick (.t 8) (.c (.bool true)) (.t 10))⟩, ⟨(some 12), none, (.mov (.t 11))⟩, ⟨(some 13), (some (12, false)), (.mov (.t 1))⟩, ⟨(some 14), (some (12, false)), (.bin false .gtr (.t 13) (.c (.int .i64 6)))⟩, ⟨(some 15), none, (.pick (.t 12) (.c (.bool true)) (.t 14))⟩]) (.cond (.t 15) (.seq (.reg [⟨(some 4), none, (.mov (.c .nil))⟩]) .ret) .skip)) (.seq (.dreg [⟨⟨(some 16), none, (.ld (some 2) .undef (.t 2))⟩, false, false⟩, ⟨⟨(some 17), none, (.mov (.t 1))⟩, false, false⟩, ⟨⟨(some 18), none, (.bin false .sub (.t 17) (.c (.int .i64 1)))⟩, false, false⟩, ⟨⟨(some 19), none, (.call 57 [(.t 16), (.t 18)])⟩, false, false⟩, ⟨⟨(some 20), none, (.ld (some 2) .undef (.t 2))⟩, false, false⟩, ⟨⟨(some 21), none, (.mov (.t 1))⟩, false, false⟩, ⟨⟨(some 22), none, (.call 57 [(.t 20), (.t 21)])⟩, false, false⟩, ⟨⟨(some 23), none, (.call 80 [(.t 19), (.t 22)])⟩, true, false⟩, ⟨⟨(some 4), none, (.mov (.t 23))⟩, false, false⟩]) .ret)))
theorem code_i_BorderMatrix : fnCode Try.prog [80] 59 = some (24, sc_i_BorderMatrix, [(4, none)]) := by kernel_rfl
theorem borM_ok {n : Int} {l : List Int} {k : Int} : (∀ r ∈ fosL n l (k - 1), ∀ s ∈ fosL n l k, isS r ∧ isS s ∧ sz s = sz r + 1) ∧ (fosL n l (k - 1)).length ≤ 64 ∧ (fosL n l k).length ≤ 64 := by
  refine ⟨fun r hr s hs => ?_, setsOf_len _, setsOf_len _⟩
  obtain ⟨a, _, _, b⟩ := mem_fosL hr
  obtain ⟨c, _, _, d⟩ := mem_fosL hs
  exact ⟨a, c, by omega⟩
theorem fn_i_BorderMatrix : FnOk Try.prog 59 F_i_BorderMatrix := by
  have env := (((envNil_ok (P := Try.prog)).add fn_i_IsComplex).add fn_i_FacesOfSize).add fn_i_borderOf
  refine fn_ok code_i_BorderMatrix mixed env ?_
  intro args r h hb
  obtain ⟨_, _, ⟨n, l⟩, k, rfl, h1, h2, h4⟩ := F2_inv h
  cases dC_inv h1
  cases dI_inv h2
  simp only [Option.ite_none_right_eq_some, Option.some.injEq] at h4
  obtain ⟨⟨hc, hk1, hk6⟩, rfl⟩ := h4
  clear h
  refine ⟨by simp, fun w0 U0 L0 N0 => ?_⟩
  clear hb
  have e0 := cplxB_iff.2 hc
  have g1 : ¬ k < 1 := by omega
  have g2 : ¬ 6 < k := by omega
  have hw : IntKind.i64.wrap (k - 1) = k - 1 := wrapI _ (by omega) (by omega)
  have hF : F_i_borderOf [.list 1 (ints (fosL n l (k - 1))), .list 1 (ints (fosL n l k))] = some (.own 1 (rowsV (borM n l k))) := by
    simp only [F_i_borderOf, F2_mk, dL_list, Option.bind_some]
    rw [if_pos borM_ok]
    rfl
  generalize borM n l k = M at *
  simp -implicitDefEqProofs [sc_i_BorderMatrix, F_s_IsComplex, F_s_FacesOfSize, e0, g1, g2, hw, hF]
def sc_s_l13Border_L2 : SC := (.seq (.seq (.reg [⟨(some 26), none, (.mov (.t 10))⟩, ⟨(some 27), none, (.mov (.t 7))⟩, ⟨(some 28), none, (.len (.t 27))⟩, ⟨(some 29), none, (.bin false .lss (.t 26) (.t 28))⟩]) (.cond (.t 29) .skip (.exit 2))) (.seq (.block 3 (.dreg [⟨⟨(some 32), none, (.mov (.t 9))⟩, false, true⟩, ⟨⟨(some 33), none, (.mov (.t 6))⟩, false, false⟩, ⟨⟨(some 34), none, (.mov (.t 8))⟩, false, false⟩, ⟨⟨(some 35), none, (.idx 1 (.t 33) (.t 34))⟩, false, false⟩, ⟨⟨(some 36), none, (.ld none (.int .i64 0) (.t 35))⟩, false, false⟩, ⟨⟨(some 37), none, (.mov (.t 7))⟩, false, false⟩, ⟨⟨(some 38), none, (.mov (.t 10))⟩, false, false⟩, ⟨⟨(some 39), none, (.idx 1 (.t 37) (.t 38))⟩, false, false⟩, ⟨⟨(some 40), none, (.ld none (.int .i64 0) (.t 39))⟩, false, false⟩, ⟨⟨(some 41), none, (.call 88 [(.t 36), (.t 40)])⟩, false, false⟩, ⟨⟨(some 42), none, (.mks 1 1 [(.int .i64 0)] [(0, (1, (.t 41)))])⟩, true, false⟩, ⟨⟨(some 43), none, (.app 1 8 (.t 32) (.t 42))⟩, true, false⟩, ⟨⟨(some 9), none, (.mov (.t 43))⟩, false, false⟩])) (.reg [⟨(some 30), none, (.mov (.t 10))⟩, ⟨(some 31), none, (.bin false .add (.t 30) (.c (.int .i64 1)))⟩, ⟨(some 10), none, (.mov (.t 31))⟩])))
def sc_s_l13Border_L0 : SC := (.seq (.seq (.reg [⟨(some 19), none, (.mov (.t 8))⟩, ⟨(some 20), none, (.mov (.t 6))⟩, ⟨(some 21), none, (.len (.t 20))⟩, ⟨(some 22), none, (.bin false .lss (.t 19) (.t 21))⟩]) (.cond (.t 22) .skip (.exit 0))) (.seq (.block 1 (.seq (.reg [⟨(some 25), none, (.mks 0 1 [] [])⟩, ⟨(some 9), none, (.mov (.t 25))⟩]) (.seq (.seq (.reg [⟨(some 10), none, (.mov (.c (.int .i64 0)))⟩]) (.block 2 (.loop sc_s_l13Border_L2))) (.reg [⟨(some 44), none, (.mov (.t 5))⟩, ⟨(some 45), none, (.mov (.t 9))⟩, ⟨(some 46), none, (.mks 1 1 [.nil] [(0, (1, (.t 45)))])⟩, ⟨(some 47), none, (.app 1 24 (.t 44) (.t 46))⟩, ⟨(some 5), none, (.mov (.t 47))⟩])))) (.reg [⟨(some 23), none, (.mov (.t 8))⟩, ⟨(some 24), none, (.bin false .add (.t 23) (.c (.int .i64 1)))⟩, ⟨(some 8), none, (.mov (.t 24))⟩])))
def sc_s_l13Border : SC := (.seq (.reg [⟨(some 2), none, (.box (.t 0))⟩, ⟨(some 4), none, (.mov (.c .nil))⟩]) (.seq (.reg [⟨(some 11), none, (.mks 0 1 [] [])⟩, ⟨(some 5), none, (.mov (.t 11))⟩]) (.seq (.reg [⟨(some 12), none, (.ld (some 2) .undef (.t 2))⟩, ⟨(some 13), none, (.mov (.t 1))⟩, ⟨(some 14), none, (.bin false .sub (.t 13) (.c (.int .i64 1)))⟩, ⟨(some 15), none, (.call 51 [(.t 12), (.t 14)])⟩, ⟨(some 6), none, (.mov (.t 15))⟩]) (.seq (.reg [⟨(some 16), none, (.ld (some 2) .undef (.t 2))⟩, ⟨(some 17), none, (.mov (.t 1))⟩, ⟨(some 18), none, (.call 51 [(.t 16), (.t 17)])⟩, ⟨(some 7), none, (.mov (.t 18))⟩]) (.seq (.seq (.reg [⟨(some 8), none, (.mov (.c (.int .i64 0)))⟩]) (.block 0 (.loop sc_s_l13Border_L0))) (.seq (.reg [⟨(some 48), none, (.mov (.t 5))⟩, ⟨(some 4), none, (.mov (.t 48))⟩]) .ret))))))
theorem code_s_l13Border : fnCode Try.prog [] 53 = some (49, sc_s_l13Border, [(4, none)]) := by kernel_rfl
theorem fn_s_l13Border : FnOk Try.prog 53 F_i_BorderMatrix := by
  have env := ((envNil_ok (P := Try.prog)).add fn_s_FacesOfSize).add fn_s_l13Sign
  refine fn_ok code_s_l13Border mixed env ?_
  intro args r h hb
  obtain ⟨_, _, ⟨n, l⟩, k, rfl, h1, h2, h4⟩ := F2_inv h
  cases dC_inv h1
  cases dI_inv h2
  simp only [Option.ite_none_right_eq_some, Option.some.injEq] at h4
  obtain ⟨⟨hc, hk1, hk6⟩, rfl⟩ := h4
  clear h
  refine ⟨by simp, fun w0 U0 L0 N0 => ?_⟩
  clear hb
  have hw : IntKind.i64.wrap (k - 1) = k - 1 := wrapI _ (by omega) (by omega)
  obtain ⟨hRC, hRl, hCl⟩ := borM_ok (n := n) (l := l) (k := k)
  have hF1 : F_s_FacesOfSize [.agg [.int .i64 n, .list 1 (ints l)], .int .i64 (k - 1)] = some (.own 1 (ints (fosL n l (k - 1)))) := by simp [F_s_FacesOfSize]
  have hF2 : F_s_FacesOfSize [.agg [.int .i64 n, .list 1 (ints l)], .int .i64 k] = some (.own 1 (ints (fosL n l k))) := by simp [F_s_FacesOfSize]
  unfold borM
  generalize fosL n l (k - 1) = R at *
  generalize fosL n l k = C at *
  have hml := sgnM_len R C
  have hma := fun (i : Nat) (hi : i < R.length) => sgnM_at (C := C) hi
  generalize sgnM R C = M at *
  simp -implicitDefEqProofs [sc_s_l13Border, hw, hF1, hF2]
  have inner : ∀ (i : Nat) (Q : Post) (T0 : Tm), i < R.length → subE T0 [(5, .sl 1 1 0 i), (6, .sl 2 1 0 R.length), (7, .sl 3 1 0 C.length), (8, .int .i64 (i : Int)), (9, .sl 4 1 0 0), (10, .int .i64 0)] →
      Q (.exit 2) [(5, .sl 1 1 0 i), (6, .sl 2 1 0 R.length), (7, .sl 3 1 0 C.length), (8, .int .i64 (i : Int)), (9, .sl 4 1 0 C.length)] ([(4, ints (atR M i)), (3, ints C), (2, ints R), (1, rowsV (M.take i)), (0, [.int .i64 n, .list 1 (ints l)])], 5) →
      LoopI ⟨Try.prog, w0, U0, L0, N0, 0, 49⟩ [] sc_s_l13Border_L2 Q T0 ([(4, []), (3, ints C), (2, ints R), (1, rowsV (M.take i)), (0, [.int .i64 n, .list 1 (ints l)])], 5) := by
    intro i Q T0 hi hsub q1
    have hal : (atR M i).length = C.length := by rw [hma i hi]; simp
    have hae : ∀ j, j < C.length → at0 (atR M i) j = sgnZ (at0 R i) (at0 C j) := fun j hj => by
      rw [hma i hi, ← rowF_map, rowF_at hj]
    generalize atR M i = A at *
    refine loopQ env mixed (fun j : Nat => [(5, .sl 1 1 0 i), (6, .sl 2 1 0 R.length), (7, .sl 3 1 0 C.length), (8, .int .i64 (i : Int)), (9, .sl 4 1 0 j), (10, .int .i64 (j : Int))]) (fun j => ([(4, ints (A.take j)), (3, ints C), (2, ints R), (1, rowsV (M.take i)), (0, [.int .i64 n, .list 1 (ints l)])], 5)) (fun j => j ≤ C.length) (fun j => C.length - j) 0 (by simp) (SubI.slots (by simp) (by simpa using hsub)) ?_
    intro j hj
    by_cases hlt : j < C.length
    · obtain ⟨c1, c2, c3⟩ := hRC _ (getD_mem' hi) _ (getD_mem' hlt)
      have hF : F_s_l13Sign [.int .i64 (at0 R i), .int .i64 (at0 C j)] = some (.int .i64 (sgnZ (at0 R i) (at0 C j))) := by
        simp only [F_s_l13Sign, F2_mk, dI_int, Option.bind_some]
        rw [if_pos ⟨c1, c2, c3⟩]
      have e : A.take (j + 1) = A.take j ++ [sgnZ (at0 R i) (at0 C j)] := by rw [take_at (by omega), hae j hlt]
      have gl : (A.take j).length = j := by simp; omega
      generalize A.take j = g at *
      simp -implicitDefEqProofs [sc_s_l13Border_L2, freeOk, hF, hlt, hi, gl]
      repeat' (first | omega | apply And.intro)
      refine Again.of (j + 1) (by omega) (by omega) (SubI.ren (fun m => if m = 0 then some 0 else if m = 1 then some 1 else if m = 2 then some 2 else if m = 3 then some 3 else if m = 4 then some 6 else none) ?_ ?_ ?_ (by simp) (by simp))
      · simp (disch := omega) [subT, renV, ren1, wrapI]
      · have ht : g.take j = g := List.take_of_length_le (by omega)
        simp [subH, e, renL, ren1, ht]
        rw [← ints_app]
        rfl
      · intro m hm
        simp only at hm
        rw [if_neg (by omega), if_neg (by omega), if_neg (by omega), if_neg (by omega), if_neg (by omega)]
    · have : j = C.length := by omega
      subst this
      have ht : A.take C.length = A := List.take_of_length_le (by omega)
      simp -implicitDefEqProofs [sc_s_l13Border_L2, ht]
      exact SubQ.of (SubI.slots rfl (by simp)) q1
  refine loopI env mixed (fun i : Nat => [(5, .sl 1 1 0 i), (6, .sl 2 1 0 R.length), (7, .sl 3 1 0 C.length), (8, .int .i64 (i : Int))]) (fun i => ([(3, ints C), (2, ints R), (1, rowsV (M.take i)), (0, [.int .i64 n, .list 1 (ints l)])], 4)) (fun i => i ≤ R.length) (fun i => R.length - i) 0 (by simp) (SubI.slots (by simp) (by simp)) ?_
  intro i hi
  by_cases hlt : i < R.length
  · have hin := inner i
    have hiM : i < M.length := by omega
    have hal : (atR M i).length = C.length := by rw [hma i hlt]; simp
    have hsn := rowsV_snoc hiM (.sl 4 1 0 C.length)
    have gl : (rowsV (M.take i)).length = i := by simp; omega
    simp -implicitDefEqProofs [sc_s_l13Border_L0, hlt]
    refine hin _ _ hlt (by simp) ?_
    simp -implicitDefEqProofs [gl]
    have htt : (M.take i).take i = M.take i := List.take_of_length_le (by simp; omega)
    rw [htt]
    refine ⟨by omega, Again.of (i + 1) (by omega) (by omega) ?_⟩
    refine SubI.fold 6 4 i 1 C.length (cn := ints (atR M i)) (co := rowsV (M.take i) ++ [.sl 4 1 0 C.length]) (by simp) (by simp) (by rw [List.getElem?_append_right (by omega), gl, Nat.sub_self]; rfl) (by simp [hal]) ?_
    rw [hsn]
    refine SubI.ren (fun m => if m = 0 then some 0 else if m = 1 then some 6 else if m = 2 then some 2 else if m = 3 then some 3 else none) ?_ ?_ ?_ (by simp) (by simp)
    · simp (disch := omega) [subT, renV, ren1, wrapI]
    · simp [subH, renL, ren1]
    · intro m hm
      simp only at hm
      rw [if_neg (by omega), if_neg (by omega), if_neg (by omega), if_neg (by omega)]
  · have : i = R.length := by omega
    subst this
    have ht : M.take R.length = M := List.take_of_length_le (by omega)
    simp -implicitDefEqProofs [sc_s_l13Border_L0, ht]
    try omega
end Go.Proofs.Ytncnohompmcddaa
