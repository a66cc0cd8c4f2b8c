import Derived.Test.YtncnohompmcddaaHaJ
import Derived.Test.YtncnohompmcddaaHaD
import Derived.Test.YtncnohompmcddaaKJ
import Derived.Test.YtncnohompmcddaaKI
namespace Go.Proofs.Ytncnohompmcddaa
open Go Go.RowKit
set_option maxRecDepth 1000000
set_option linter.unusedSimpArgs false
set_option linter.unusedVariables false
set_option maxHeartbeats 1000000
def sc_i_BadLink_L2 : SC := (.seq (.reg [⟨(some 44), none, (.bin false .lss (.t 43) (.t 42))⟩]) (.seq (.cond (.t 44) .skip (.exit 2)) (.seq (.block 3 (.seq (.reg [⟨(some 45), none, (.mov (.t 43))⟩, ⟨(some 46), none, (.idx 1 (.t 41) (.t 43))⟩, ⟨(some 47), none, (.ld none (.int .i64 0) (.t 46))⟩, ⟨(some 10), none, (.mov (.t 45))⟩, ⟨(some 11), none, (.mov (.t 47))⟩]) (.seq (.reg [⟨(some 48), none, (.mov (.t 11))⟩, ⟨(some 49), none, (.bin false .neq (.t 48) (.c (.int .i64 0)))⟩, ⟨(some 50), none, (.mov (.t 49))⟩, ⟨(some 51), (some (50, true)), (.mov (.t 10))⟩, ⟨(some 52), (some (50, true)), (.mov (.t 7))⟩, ⟨(some 53), (some (50, true)), (.mov (.t 9))⟩, ⟨(some 54), (some (50, true)), (.call 47 [(.t 53)])⟩, ⟨(some 55), (some (50, true)), (.bin false .sub (.t 52) (.t 54))⟩, ⟨(some 56), (some (50, true)), (.bin false .lss (.t 51) (.t 55))⟩, ⟨(some 57), none, (.pick (.t 50) (.t 56) (.c (.bool false)))⟩]) (.cond (.t 57) (.seq (.reg [⟨(some 58), none, (.mov (.t 9))⟩, ⟨(some 4), none, (.mov (.t 58))⟩, ⟨(some 5), none, (.mov (.c (.bool true)))⟩]) .ret) .skip)))) (.reg [⟨(some 59), none, (.bin false .add (.t 43) (.c (.int .i64 1)))⟩, ⟨(some 43), none, (.mov (.t 59))⟩]))))
def sc_i_BadLink_L0 : SC := (.seq (.reg [⟨(some 34), none, (.bin false .lss (.t 33) (.t 32))⟩]) (.seq (.cond (.t 34) .skip (.exit 0)) (.seq (.block 1 (.seq (.reg [⟨(some 35), none, (.idx 1 (.t 31) (.t 33))⟩, ⟨(some 36), none, (.ld none (.int .i64 0) (.t 35))⟩, ⟨(some 9), none, (.mov (.t 36))⟩]) (.seq (.reg [⟨(some 37), none, (.mov (.t 6))⟩, ⟨(some 38), none, (.mov (.t 9))⟩, ⟨(some 39), none, (.call 46 [(.t 37), (.t 38)])⟩, ⟨(some 40), none, (.mov (.t 1))⟩, ⟨(some 41), none, (.call 45 [(.t 39), (.t 40)])⟩, ⟨(some 42), none, (.len (.t 41))⟩, ⟨(some 43), none, (.mov (.c (.int .i64 0)))⟩]) (.block 2 (.loop sc_i_BadLink_L2))))) (.reg [⟨(some 60), none, (.bin false .add (.t 33) (.c (.int .i64 1)))⟩, ⟨(some 33), none, (.mov (.t 60))⟩]))))
def sc_i_BadLink : SC := (.seq (.reg [⟨(some 2), none, (.box (.t 0))⟩, ⟨(some 4), none, (.mov (.c (.int .i64 0)))⟩, ⟨(some 5), none, (.mov (.c (.bool false)))⟩]) (.seq (.seq (.reg [⟨(some 12), none, (.ld (some 2) .undef (.t 2))⟩, ⟨(some 13), none, (.call 38 [(.t 12)])⟩, ⟨(some 14), none, (.un .not (.t 13))⟩, ⟨(some 15), none, (.mov (.t 14))⟩, ⟨(some 16), (some (15, false)), (.fad 1 (.t 2))⟩, ⟨(some 17), (some (15, false)), (.ld none .nil (.t 16))⟩, ⟨(some 18), (some (15, false)), (.len (.t 17))⟩, ⟨(some 19), (some (15, false)), (.bin false .eql (.t 18) (.c (.int .i64 0)))⟩, ⟨(some 20), none, (.pick (.t 15) (.c (.bool true)) (.t 19))⟩, ⟨(some 21), none, (.mov (.t 20))⟩, ⟨(some 22), (some (21, false)), (.mov (.t 1))⟩, ⟨(some 23), (some (21, false)), (.call 39 [(.t 22)])⟩, ⟨(some 24), (some (21, false)), (.un .not (.t 23))⟩, ⟨(some 25), none, (.pick (.t 21) (.c (.bool true)) (.t 24))⟩]) (.cond (.t 25) (.seq (.reg [⟨(some 4), none, (.mov (.c (.int .i64 0)))⟩, ⟨(some 5), none, (.mov (.c (.bool false)))⟩]) .ret) .skip)) (.seq (.reg [⟨(some 26), none, (.ld (some 2) .undef (.t 2))⟩, ⟨(some 27), none, (.call 41 [(.t 26)])⟩, ⟨(some 6), none, (.mov (.t 27))⟩]) (.seq (.reg [⟨(some 28), none, (.mov (.t 6))⟩, ⟨(some 29), none, (.call 43 [(.t 28)])⟩, ⟨(some 7), none, (.mov (.t 29))⟩]) (.seq (.seq (.reg [⟨(some 30), none, (.mov (.t 6))⟩, ⟨(some 31), none, (.call 44 [(.t 30)])⟩, ⟨(some 32), none, (.len (.t 31))⟩, ⟨(some 33), none, (.mov (.c (.int .i64 0)))⟩]) (.block 0 (.loop sc_i_BadLink_L0))) (.seq (.reg [⟨(some 4), none, (.mov (.c (.int .i64 0)))⟩, ⟨(some 5), none, (.mov (.c (.bool false)))⟩]) .ret))))))
theorem code_i_BadLink : fnCode Try.prog [] 16 = some (61, sc_i_BadLink, [(4, none), (5, none)]) := by kernel_rfl
theorem fn_i_BadLink : FnOk Try.prog 16 F_s_BadLink := by
  have env := ((((((((envNil_ok (P := Try.prog)).add fn_i_IsComplex).add fn_i_IsFieldPrime).add fn_i_facesIn).add fn_i_topSize).add fn_i_setsIn).add fn_i_linkIn).add fn_i_holesIn).add fn_i_SizeOf
  refine fn_ok code_i_BadLink mixed env ?_
  intro args r h hb
  obtain ⟨_, _, ⟨n, l⟩, p, rfl, h1, h2, h4⟩ := F2_inv h
  cases dC_inv h1
  cases dI_inv h2
  cases h4
  clear h
  refine ⟨by simp, fun w0 U0 L0 N0 => ?_⟩
  clear hb
  simp only
  cases e0 : cplxB n l with
  | false =>
    have e : blX n l p = (0, false) := by
      unfold blX blL
      rw [if_neg fun h => by simp [cplxB_iff.2 h.1] at e0]
      exact bdX_none fun i hi => by simp at hi
    rw [e]
    simp -implicitDefEqProofs [sc_i_BadLink, F_s_IsComplex, e0]
  | true =>
  have hc := cplxB_iff.1 e0
  have hS := cplx_isS hc
  by_cases hl : l = []
  · subst hl
    have hnil : setsOf (faceS []) = [] := setsOf_nil.2 fun s _ h => by obtain ⟨f, h1, _⟩ := h; simp at h1
    have e : blX n [] p = (0, false) := by
      unfold blX blL
      rw [hnil]
      exact bdX_none fun i hi => by split at hi <;> simp at hi
    rw [e]
    simp -implicitDefEqProofs [sc_i_BadLink, F_s_IsComplex, e0]
  by_cases hp : fpP p
  rotate_left
  · have e : blX n l p = (0, false) := by
      unfold blX blL
      rw [if_neg fun h => hp h.2]
      exact bdX_none fun i hi => by simp at hi
    have hd := dec_false hp
    rw [e]
    simp -implicitDefEqProofs [sc_i_BadLink, F_s_IsComplex, F_s_IsFieldPrime, e0, hl, hd]
  have hd := dec_true hp
  have hX : blX n l p = bdX (setsOf (faceS l)) (bdP p (faceS l)) := by unfold blX blL; rw [if_pos ⟨hc, hp⟩]
  have hL := allS_setsOf (faceS l)
  have hLl := setsOf_len (faceS l)
  have htb := topZ_bnd (faceS l)
  have hg1 := topG_fam (faceS l)
  have hg2 := setsG_fam (faceS l)
  generalize blX n l p = X at *
  have hhit := fun (i : Nat) h1 h2 h3 => hX.trans (bdX_hit (L := setsOf (faceS l)) (P := bdP p (faceS l)) (i := i) h1 h2 h3)
  have hnone := fun h => hX.trans (bdX_none (L := setsOf (faceS l)) (P := bdP p (faceS l)) h)
  clear hX
  generalize setsOf (faceS l) = L at *
  simp -implicitDefEqProofs [sc_i_BadLink, F_s_IsComplex, F_s_IsFieldPrime, F_i_facesIn, F_i_topSize, F_i_setsIn, e0, hl, hd, hS, hg1, hg2]
  refine loopI env mixed (fun i : Nat => [(1, .int .i64 p), (6, .int .u64 (fam (faceS l))), (7, .int .i64 (topZ (faceS l))), (31, .sl 1 1 0 L.length), (32, .int .i64 (L.length : Int)), (33, .int .i64 (i : Int))]) (fun _ => ([(1, ints L), (0, [.int .i64 n, .list 1 (ints l)])], 2)) (fun i => i ≤ L.length ∧ ∀ j, j < i → ¬ bdP p (faceS l) (at0 L j)) (fun i => L.length - i) 0 (by simp) (SubI.slots (by simp) (by simp)) ?_
  rintro i ⟨hi, hI⟩
  by_cases hlt : i < L.length
  rotate_left
  · have : i = L.length := by omega
    subst this
    have e := hnone hI
    subst e
    simp -implicitDefEqProofs [sc_i_BadLink_L0]
  have hs := allS_at hL hlt
  have h6 := sz_six hs
  have h0 := sz_nn (at0 L i)
  have r1 := sizeOf1_set hs.1 hs.2
  have hg3 := lnkG_fam (faceS l) hs
  have hg4 := holG_fam (lnkP (faceS l) (at0 L i)) hp
  have hbd : bdP p (faceS l) (at0 L i) ↔ ∃ k : Nat, k < (holL p (lnkP (faceS l) (at0 L i))).length ∧ at0 (holL p (lnkP (faceS l) (at0 L i))) k ≠ 0 ∧ (k : Int) < topZ (faceS l) - sz (at0 L i) := Iff.rfl
  have hHl := (holL_len p (lnkP (faceS l) (at0 L i))).2
  have hw : IntKind.i64.wrap (topZ (faceS l) - sz (at0 L i)) = topZ (faceS l) - sz (at0 L i) := wrapI _ (by omega) (by omega)
  generalize holL p (lnkP (faceS l) (at0 L i)) = H at *
  simp -implicitDefEqProofs [sc_i_BadLink_L0, F_i_linkIn, F_i_holesIn, hlt, hg3, hg4]
  repeat' (first | omega | apply And.intro)
  have out : ¬ bdP p (faceS l) (at0 L i) → ∀ j, j < i + 1 → ¬ bdP p (faceS l) (at0 L j) := fun hn j hj => by
    rcases Nat.lt_succ_iff_lt_or_eq.1 hj with h | rfl
    · exact hI j h
    · exact hn
  refine loopI env mixed (fun k : Nat => [(1, .int .i64 p), (6, .int .u64 (fam (faceS l))), (7, .int .i64 (topZ (faceS l))), (9, .int .i64 (at0 L i)), (31, .sl 1 1 0 L.length), (32, .int .i64 (L.length : Int)), (33, .int .i64 (i : Int)), (41, .sl 2 1 0 H.length), (42, .int .i64 (H.length : Int)), (43, .int .i64 (k : Int))]) (fun _ => ([(2, ints H), (1, ints L), (0, [.int .i64 n, .list 1 (ints l)])], 3)) (fun k => k ≤ H.length ∧ ∀ j, j < k → at0 H j = 0 ∨ topZ (faceS l) - sz (at0 L i) ≤ (j : Int)) (fun k => H.length - k) 0 (by simp) (SubI.slots (by simp) (by simp)) ?_
  rintro k ⟨hk, hz⟩
  by_cases hkl : k < H.length
  rotate_left
  · have hn := out fun hb => by
      obtain ⟨j, j1, j2, j3⟩ := hbd.1 hb
      exact (hz j (by omega)).elim j2 fun h => by omega
    simp -implicitDefEqProofs [sc_i_BadLink_L2, hkl]
    repeat' (first | omega | apply And.intro)
    refine Again.of (i + 1) ⟨by omega, hn⟩ (by omega) (SubI.ren (fun m => if m = 0 then some 0 else if m = 1 then some 1 else none) ?_ ?_ ?_ (by simp) (by simp))
    · simp (disch := omega) [subT, renV, ren1, wrapI]
    · simp [subH, renL, ren1]
    · intro m hm
      simp only at hm
      rw [if_neg (by omega), if_neg (by omega)]
  have next : (at0 H k = 0 ∨ topZ (faceS l) - sz (at0 L i) ≤ (k : Int)) → ∀ j, j < k + 1 → at0 H j = 0 ∨ topZ (faceS l) - sz (at0 L i) ≤ (j : Int) := fun h j hj => by
    rcases Nat.lt_succ_iff_lt_or_eq.1 hj with h2 | rfl
    · exact hz j h2
    · exact h
  by_cases hk0 : at0 H k = 0
  · simp -implicitDefEqProofs [sc_i_BadLink_L2, hkl, hk0]
    repeat' (first | omega | apply And.intro)
    exact Again.of (k + 1) ⟨by omega, next (.inl hk0)⟩ (by omega) (SubI.slots (by simp) (by simp (disch := omega) [wrapI]))
  by_cases hkt : (k : Int) < topZ (faceS l) - sz (at0 L i)
  rotate_left
  · simp -implicitDefEqProofs [sc_i_BadLink_L2, F_i_SizeOf, hkl, hk0, r1, hw, hkt]
    repeat' (first | omega | apply And.intro)
    exact Again.of (k + 1) ⟨by omega, next (.inr (by omega))⟩ (by omega) (SubI.slots (by simp) (by simp (disch := omega) [wrapI]))
  have e := hhit i hlt (hbd.2 ⟨k, hkl, hk0, hkt⟩) hI
  subst e
  simp -implicitDefEqProofs [sc_i_BadLink_L2, F_i_SizeOf, hkl, hk0, r1, hw, hkt]
  try omega
end Go.Proofs.Ytncnohompmcddaa
