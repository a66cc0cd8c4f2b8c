import Derived.Test.YtncnohompmcddaaHaB
import Derived.Test.YtncnohompmcddaaGcA
import Derived.Test.YtncnohompmcddaaGdC
namespace Go.Proofs.Ytncnohompmcddaa
open Go Go.RowKit
set_option maxRecDepth 1000000
set_option linter.unusedSimpArgs false
set_option linter.unusedVariables false
set_option maxHeartbeats 1000000
def sc_i_holesIn_L2 : SC := (.seq (.reg [⟨(some 43), none, (.bin false .lss (.t 42) (.t 41))⟩]) (.seq (.cond (.t 43) .skip (.exit 2)) (.seq (.block 3 (.seq (.reg [⟨(some 44), none, (.mov (.t 42))⟩, ⟨(some 9), none, (.mov (.t 44))⟩]) (.dreg [⟨⟨(some 45), none, (.mov (.t 8))⟩, false, false⟩, ⟨⟨(some 46), none, (.mov (.t 9))⟩, false, false⟩, ⟨⟨(some 47), none, (.mov (.t 5))⟩, false, false⟩, ⟨⟨(some 48), none, (.mov (.t 9))⟩, false, false⟩, ⟨⟨(some 49), none, (.idx 1 (.t 47) (.t 48))⟩, false, false⟩, ⟨⟨(some 50), none, (.ld none .nil (.t 49))⟩, false, false⟩, ⟨⟨(some 51), none, (.len (.t 50))⟩, false, false⟩, ⟨⟨(some 52), none, (.mov (.t 6))⟩, false, false⟩, ⟨⟨(some 53), none, (.mov (.t 9))⟩, false, false⟩, ⟨⟨(some 54), none, (.idx 1 (.t 52) (.t 53))⟩, false, false⟩, ⟨⟨(some 55), none, (.ld none (.int .i64 0) (.t 54))⟩, false, false⟩, ⟨⟨(some 56), none, (.bin false .sub (.t 51) (.t 55))⟩, false, false⟩, ⟨⟨(some 57), none, (.mov (.t 6))⟩, false, false⟩, ⟨⟨(some 58), none, (.mov (.t 9))⟩, false, false⟩, ⟨⟨(some 59), none, (.bin false .add (.t 58) (.c (.int .i64 1)))⟩, false, false⟩, ⟨⟨(some 60), none, (.idx 1 (.t 57) (.t 59))⟩, false, false⟩, ⟨⟨(some 61), none, (.ld none (.int .i64 0) (.t 60))⟩, false, false⟩, ⟨⟨(some 62), none, (.bin false .sub (.t 56) (.t 61))⟩, false, false⟩, ⟨⟨(some 63), none, (.idx 1 (.t 45) (.t 46))⟩, false, false⟩, ⟨⟨none, none, (.st 1 (.t 63) (.t 62))⟩, true, false⟩]))) (.reg [⟨(some 64), none, (.bin false .add (.t 42) (.c (.int .i64 1)))⟩, ⟨(some 42), none, (.mov (.t 64))⟩]))))
def sc_i_holesIn_L0 : SC := (.seq (.seq (.reg [⟨(some 16), none, (.mov (.t 7))⟩, ⟨(some 17), none, (.mov (.t 5))⟩, ⟨(some 18), none, (.len (.t 17))⟩, ⟨(some 19), none, (.bin false .lss (.t 16) (.t 18))⟩]) (.cond (.t 19) .skip (.exit 0))) (.seq (.block 1 (.dreg [⟨⟨(some 22), none, (.mov (.t 6))⟩, false, false⟩, ⟨⟨(some 23), none, (.mov (.t 7))⟩, false, false⟩, ⟨⟨(some 24), none, (.mov (.t 5))⟩, false, false⟩, ⟨⟨(some 25), none, (.mov (.t 7))⟩, false, false⟩, ⟨⟨(some 26), none, (.bin false .sub (.t 25) (.c (.int .i64 1)))⟩, false, false⟩, ⟨⟨(some 27), none, (.idx 1 (.t 24) (.t 26))⟩, false, false⟩, ⟨⟨(some 28), none, (.ld none .nil (.t 27))⟩, false, false⟩, ⟨⟨(some 29), none, (.mov (.t 5))⟩, false, false⟩, ⟨⟨(some 30), none, (.mov (.t 7))⟩, false, false⟩, ⟨⟨(some 31), none, (.idx 1 (.t 29) (.t 30))⟩, false, false⟩, ⟨⟨(some 32), none, (.ld none .nil (.t 31))⟩, false, false⟩, ⟨⟨(some 33), none, (.call 80 [(.t 28), (.t 32)])⟩, false, false⟩, ⟨⟨(some 34), none, (.mov (.t 1))⟩, false, false⟩, ⟨⟨(some 35), none, (.call 79 [(.t 33), (.t 34)])⟩, false, false⟩, ⟨⟨(some 36), none, (.idx 1 (.t 22) (.t 23))⟩, false, false⟩, ⟨⟨none, none, (.st 1 (.t 36) (.t 35))⟩, true, false⟩])) (.reg [⟨(some 20), none, (.mov (.t 7))⟩, ⟨(some 21), none, (.bin false .add (.t 20) (.c (.int .i64 1)))⟩, ⟨(some 7), none, (.mov (.t 21))⟩])))
def sc_i_holesIn : SC := (.seq (.reg [⟨(some 4), none, (.mov (.c .nil))⟩]) (.seq (.reg [⟨(some 10), none, (.mov (.t 0))⟩, ⟨(some 11), none, (.call 78 [(.t 10)])⟩, ⟨(some 5), none, (.mov (.t 11))⟩]) (.seq (.reg [⟨(some 12), none, (.mov (.t 5))⟩, ⟨(some 13), none, (.len (.t 12))⟩, ⟨(some 14), none, (.bin false .add (.t 13) (.c (.int .i64 1)))⟩, ⟨(some 15), none, (.mk 1 8 [(.int .i64 0)] (.t 14) (.t 14))⟩, ⟨(some 6), none, (.mov (.t 15))⟩]) (.seq (.seq (.reg [⟨(some 7), none, (.mov (.c (.int .i64 1)))⟩]) (.block 0 (.loop sc_i_holesIn_L0))) (.seq (.reg [⟨(some 37), none, (.mov (.t 5))⟩, ⟨(some 38), none, (.len (.t 37))⟩, ⟨(some 39), none, (.mk 1 8 [(.int .i64 0)] (.t 38) (.t 38))⟩, ⟨(some 8), none, (.mov (.t 39))⟩]) (.seq (.seq (.reg [⟨(some 40), none, (.mov (.t 5))⟩, ⟨(some 41), none, (.len (.t 40))⟩, ⟨(some 42), none, (.mov (.c (.int .i64 0)))⟩]) (.block 2 (.loop sc_i_holesIn_L2))) (.seq (.reg [⟨(some 65), none, (.mov (.t 8))⟩, ⟨(some 4), none, (.mov (.t 65))⟩]) .ret)))))))
theorem code_i_holesIn : fnCode Try.prog [] 45 = some (66, sc_i_holesIn, [(4, none)]) := by kernel_rfl
/-- The ranks of the borders below k, of m + 1 places. -/
noncomputable def rkR (p : Int) (q : Int → Prop) (m k : Nat) : List Int := rowF (m + 1) fun i => @ite _ (i < k) (Classical.propDecidable _) (rkZ p q i) 0
theorem rkR_set {p : Int} {q : Int → Prop} {m k : Nat} (h : k < m + 1) : (rkR p q m k).set k (rkZ p q k) = rkR p q m (k + 1) := by
  unfold rkR
  rw [rowF_set h]
  refine rowF_congr fun i hi => ?_
  by_cases e : i = k
  · rw [if_pos e, if_pos (by omega), e]
  · rw [if_neg e]
    by_cases h3 : i < k
    · rw [if_pos h3, if_pos (by omega)]
    · rw [if_neg h3, if_neg (by omega)]
@[simp] theorem rkR_len (p : Int) (q : Int → Prop) (m k : Nat) : (rkR p q m k).length = m + 1 := by simp [rkR]
theorem rkR_one (p : Int) (q : Int → Prop) (m : Nat) : rkR p q m 1 = List.replicate (m + 1) 0 := by
  rw [rowF_zero]
  refine rowF_congr fun i _ => ?_
  by_cases h : i < 1
  · have : i = 0 := by omega
    subst this
    rw [if_pos h]
    exact rkZ_low p q
  · rw [if_neg h]
theorem rkR_at {p : Int} {q : Int → Prop} {m k i : Nat} (ht : topZ q + 1 = m) (hk : m ≤ k) (h : i < m + 1) : at0 (rkR p q m k) i = rkZ p q i := by
  unfold rkR
  rw [rowF_at h]
  by_cases h1 : i < k
  · rw [if_pos h1]
  · rw [if_neg h1, rkZ_high p q (by omega)]
theorem fn_i_holesIn : FnOk Try.prog 45 F_i_holesIn := by
  have env := (((envNil_ok (P := Try.prog)).add fn_i_bySize).add fn_i_borderOf).add fn_i_rankOf
  refine fn_ok code_i_holesIn mixed env ?_
  intro args r h hb
  obtain ⟨_, _, f, p, rfl, h1, h2, h4⟩ := F2_inv h
  cases dU_inv h1
  cases dI_inv h2
  clear h
  simp only [holG, Option.ite_none_right_eq_some, Option.some.injEq] at h4
  obtain ⟨⟨hf1, hf2, hp⟩, rfl⟩ := h4
  have hf := fam_bitP hf1 hf2
  generalize bitP f = q at *
  subst hf
  refine ⟨by simp, fun w0 U0 L0 N0 => ?_⟩
  clear hb
  have hg := bySG_fam q
  have htb := topZ_bnd q
  obtain ⟨m, hm⟩ : ∃ m : Nat, topZ q + 1 = m := ⟨(topZ q + 1).toNat, by omega⟩
  have hBl : (bySR q).length = m := by unfold bySR; rw [bySz_len]; omega
  have hBa : ∀ i, i < m → atR (bySR q) i = szS q i := fun i hi => by
    unfold bySR
    exact szS_by (by omega)
  have hres : holL p q = zK m (holV p q) m := by
    rw [zK_full]
    unfold holL
    rw [show (topZ q + 1).toNat = m by omega]
  rw [hres]
  generalize bySR q = B at *
  have hm7 : m ≤ 7 := by omega
  have hw0 : IntKind.i64.wrap ((m : Int) + 1) = ((m + 1 : Nat) : Int) := by rw [wrapI _ (by omega) (by omega)]; omega
  have hmm : (0 : Int) ≤ (m : Int) + 1 := by omega
  simp -implicitDefEqProofs [sc_i_holesIn, F_i_bySize, hg, hBl, hw0]
  repeat' (first | omega | apply And.intro)
  refine loopU env mixed (fun k : Nat => [(1, .int .i64 p), (5, .sl 0 1 0 m), (6, .sl 1 1 0 (m + 1)), (7, .int .i64 (k : Int))]) (fun k => ([(1, ints (rkR p q m k)), (0, rowsV B)], 2)) (fun k => 1 ≤ k ∧ (k ≤ m ∨ k = 1)) (fun k => m - k) 1 ⟨by omega, .inr rfl⟩ (SubI.slots (by simp [rkR_one]) (by simp)) ?_
  rintro k ⟨hk1, hk2⟩
  by_cases hlt : k < m
  · have hw1 : IntKind.i64.wrap ((k : Int) - 1) = ((k - 1 : Nat) : Int) := by rw [wrapI _ (by omega) (by omega)]; omega
    have hk1m : k - 1 < m := by omega
    have ha1 := hBa k hlt
    have ha2 := hBa (k - 1) hk1m
    rw [show ((k - 1 : Nat) : Int) = (k : Int) - 1 by omega] at ha2
    have hl1 := szS_len q k
    have hl2 := szS_len q ((k : Int) - 1)
    have hF1 : F_i_borderOf [.list 1 (ints (szS q ((k : Int) - 1))), .list 1 (ints (szS q k))] = some (.own 1 (rowsV (sgnM (szS q ((k : Int) - 1)) (szS q k)))) := by
      simp only [F_i_borderOf, F2_mk, dL_list, Option.bind_some]
      rw [if_pos ⟨szS_ok q k, hl2, hl1⟩]
    have hF2 : F_i_rankOf [.list 1 (rowsL (sgnM (szS q ((k : Int) - 1)) (szS q k))), .int .i64 p] = some (.int .i64 (rkZ p q k)) := by
      simp only [F_i_rankOf, F2_mk, dLL_list, dI_int, Option.bind_some]
      rw [if_pos ⟨hp, rec_sgn _ _ hl2 hl1⟩]
      rfl
    have hset := rkR_set (p := p) (q := q) (m := m) (k := k) (by omega)
    have hrl := rkR_len p q m k
    have hne : k - 1 ≠ k := by omega
    have hne2 : k ≠ k - 1 := by omega
    have hs1 := rowsV_self (M := B) (i := k) (by omega)
    have hs2 := rowsV_self (M := B) (i := k - 1) (by omega)
    rw [ha1] at hs1
    rw [ha2] at hs2
    generalize rkR p q m k = g at *
    generalize szS q ((k : Int) - 1) = r1 at *
    generalize szS q k = r2 at *
    have hcell : ((((rowsV B).set (k - 1) (.sl 2 1 0 r1.length)).set k (.sl 3 1 0 r2.length)).set k (.own 1 (ints r2))).set (k - 1) (.own 1 (ints r1)) = rowsV B := by
      rw [List.set_set, List.set_comm _ _ hne2, List.set_set, hs2, hs1]
    refine ⟨[(1, .int .i64 p), (5, .sl 0 1 0 m), (6, .sl 1 1 0 (m + 1)), (7, .int .i64 (k : Int))], ([(3, ints r2), (2, ints r1), (1, ints g), (0, ((rowsV B).set (k - 1) (.sl 2 1 0 r1.length)).set k (.sl 3 1 0 r2.length))], 4), ?_, ?_⟩
    · refine SubI.unfold 0 (k - 1) 1 (co := rowsV B) (cn := ints r1) rfl (by rw [rowsV_get (by omega), ha2]) (by omega) ?_
      refine SubI.unfold 0 k 1 (co := (rowsV B).set (k - 1) (.sl 2 1 0 ((ints r1).length / 1))) (cn := ints r2) rfl (by rw [List.getElem?_set_ne hne, rowsV_get (by omega), ha1]) (by omega) ?_
      exact SubI.slots (by simp) (by simp)
    simp -implicitDefEqProofs [sc_i_holesIn_L0, hlt, hk1m, hw1, hBl, hne, hne2, hF1, hF2, hrl, hset]
    trace_state
    repeat' (first | omega | apply And.intro)
    refine Again.of (k + 1) ⟨by omega, .inl (by omega)⟩ (by omega) ?_
    refine SubI.fold 0 3 k 1 r2.length (cn := ints r2) (co := ((rowsV B).set (k - 1) (.sl 2 1 0 r1.length)).set k (.sl 3 1 0 r2.length)) rfl rfl (by simp [hBl, hlt]) (by simp) ?_
    refine SubI.fold 0 2 (k - 1) 1 r1.length (cn := ints r1) (co := (((rowsV B).set (k - 1) (.sl 2 1 0 r1.length)).set k (.sl 3 1 0 r2.length)).set k (.own 1 (ints r2))) rfl rfl (by simp [hBl, hk1m, hne, hne2]) (by simp) ?_
    rw [hcell]
    refine SubI.ren (fun m => if m = 0 then some 0 else if m = 1 then some 1 else none) ?_ ?_ ?_ (by simp) (by simp)
    · simp (disch := omega) [subT, renV, ren1, wrapI]
    · simp [subH, renL, ren1]
    · intro m hm
      simp only at hm
      rw [if_neg (by omega), if_neg (by omega)]
  · have hat := fun (i : Nat) (hi : i < m + 1) => rkR_at (p := p) (k := k) hm (by omega) hi
    have hrl := rkR_len p q m k
    refine ⟨[(1, .int .i64 p), (5, .sl 0 1 0 m), (6, .sl 1 1 0 (m + 1)), (7, .int .i64 (k : Int))], ([(1, ints (rkR p q m k)), (0, rowsV B)], 2), SubI.slots rfl (by simp), ?_⟩
    generalize rkR p q m k = g at *
    simp -implicitDefEqProofs [sc_i_holesIn_L0, hlt]
    repeat' (first | omega | apply And.intro)
    refine loopU env mixed (fun i : Nat => [(5, .sl 0 1 0 m), (6, .sl 1 1 0 (m + 1)), (8, .sl 2 1 0 m), (41, .int .i64 (m : Int)), (42, .int .i64 (i : Int))]) (fun i => ([(2, ints (zK m (holV p q) i)), (1, ints g), (0, rowsV B)], 3)) (fun i => i ≤ m) (fun i => m - i) 0 (by simp) (SubI.slots (by simp [zK_zero]) (by simp)) ?_
    intro i hi
    by_cases hlt2 : i < m
    · have ha1 := hBa i hlt2
      have hl1 := szS_len q i
      have hs1 := rowsV_self (M := B) (i := i) (by omega)
      have h1 := hat i (by omega)
      have h2 := hat (i + 1) (by omega)
      have b1 := rkZ_bnd hp q i
      have b2 := rkZ_bnd hp q ((i + 1 : Nat) : Int)
      have hv : holV p q i = ((szS q i).length : Nat) - rkZ p q i - rkZ p q ((i + 1 : Nat) : Int) := by
        unfold holV
        rw [show ((i + 1 : Nat) : Int) = (i : Int) + 1 by omega]
      have hset := zK_set (g := holV p q) hlt2
      have hzl := zK_len m (holV p q) i
      rw [hv] at hset
      rw [ha1] at hs1
      have hw1 : IntKind.i64.wrap ((i : Int) + 1) = ((i + 1 : Nat) : Int) := by rw [wrapI _ (by omega) (by omega)]; omega
      generalize zK m (holV p q) i = z at *
      generalize szS q i = r1 at *
      generalize rkZ p q i = k1 at *
      generalize rkZ p q ((i + 1 : Nat) : Int) = k2 at *
      have hw2 : IntKind.i64.wrap ((r1.length : Int) - k1) = r1.length - k1 := wrapI _ (by omega) (by omega)
      have hw3 : IntKind.i64.wrap ((r1.length : Int) - k1 - k2) = r1.length - k1 - k2 := wrapI _ (by omega) (by omega)
      have hlt3 : i + 1 < m + 1 := by omega
      have hlt4 : i < m + 1 := by omega
      refine ⟨[(5, .sl 0 1 0 m), (6, .sl 1 1 0 (m + 1)), (8, .sl 2 1 0 m), (41, .int .i64 (m : Int)), (42, .int .i64 (i : Int))], ([(3, ints r1), (2, ints z), (1, ints g), (0, (rowsV B).set i (.sl 3 1 0 r1.length))], 4), ?_, ?_⟩
      · refine SubI.unfold 0 i 1 (co := rowsV B) (cn := ints r1) rfl (by rw [rowsV_get (by omega), ha1]) (by omega) ?_
        exact SubI.slots (by simp) (by simp)
      simp -implicitDefEqProofs [sc_i_holesIn_L2, hlt2, hlt3, hlt4, hBl, hrl, hzl, h1, h2, hw1, hw2, hw3, hset]
      repeat' (first | omega | apply And.intro)
      refine Again.of (i + 1) (by omega) (by omega) ?_
      refine SubI.fold 0 3 i 1 r1.length (cn := ints r1) (co := (rowsV B).set i (.sl 3 1 0 r1.length)) rfl rfl (by simp [hBl, hlt2]) (by simp) ?_
      refine SubI.ren (fun m => if m = 0 then some 0 else if m = 1 then some 1 else if m = 2 then some 2 else none) ?_ ?_ ?_ (by simp) (by simp)
      · simp (disch := omega) [subT, renV, ren1, wrapI]
      · simp [subH, renL, ren1, hs1]
      · intro m hm
        simp only at hm
        rw [if_neg (by omega), if_neg (by omega), if_neg (by omega)]
    · have : i = m := by omega
      subst this
      have htk : (zK i (holV p q) i).take i = zK i (holV p q) i := List.take_of_length_le (by simp)
      refine ⟨[(5, .sl 0 1 0 i), (6, .sl 1 1 0 (i + 1)), (8, .sl 2 1 0 i), (41, .int .i64 (i : Int)), (42, .int .i64 (i : Int))], ([(2, ints (zK i (holV p q) i)), (1, ints g), (0, rowsV B)], 3), SubI.slots rfl (by simp), ?_⟩
      simp -implicitDefEqProofs [sc_i_holesIn_L2, htk]
      try omega
end Go.Proofs.Ytncnohompmcddaa
