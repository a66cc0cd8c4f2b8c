import Derived.Test.YtncnohompmcddaaGcJ
import Derived.Test.YtncnohompmcddaaGcO
import Derived.Test.YtncnohompmcddaaKG
namespace Go.Proofs.Ytncnohompmcddaa
open Go Go.RowKit
set_option maxRecDepth 1000000
set_option linter.unusedSimpArgs false
set_option linter.unusedVariables false
set_option maxHeartbeats 1000000
def sc_s_IsChained_L2 : SC := (.seq (.seq (.reg [⟨(some 26), none, (.mov (.t 5))⟩, ⟨(some 27), none, (.fad 1 (.t 1))⟩, ⟨(some 28), none, (.ld none .nil (.t 27))⟩, ⟨(some 29), none, (.len (.t 28))⟩, ⟨(some 30), none, (.bin false .lss (.t 26) (.t 29))⟩]) (.cond (.t 30) .skip (.exit 2))) (.seq (.block 3 (.seq (.dreg [⟨⟨(some 33), none, (.mov (.t 3))⟩, false, false⟩, ⟨⟨(some 34), none, (.fad 1 (.t 1))⟩, false, false⟩, ⟨⟨(some 35), none, (.ld none .nil (.t 34))⟩, false, false⟩, ⟨⟨(some 36), none, (.mov (.t 5))⟩, false, false⟩, ⟨⟨(some 37), none, (.idx 1 (.t 35) (.t 36))⟩, false, false⟩, ⟨⟨(some 38), none, (.ld none (.int .i64 0) (.t 37))⟩, false, false⟩, ⟨⟨(some 39), none, (.call 54 [(.t 33), (.t 38)])⟩, false, false⟩, ⟨⟨(some 40), none, (.un .not (.t 39))⟩, false, false⟩, ⟨⟨(some 41), none, (.mov (.t 40))⟩, false, false⟩, ⟨⟨(some 42), (some (41, true)), (.mov (.t 3))⟩, false, false⟩, ⟨⟨(some 43), (some (41, true)), (.mov (.t 4))⟩, false, false⟩, ⟨⟨(some 44), (some (41, true)), (.idx 1 (.t 42) (.t 43))⟩, false, false⟩, ⟨⟨(some 45), (some (41, true)), (.ld none (.int .i64 0) (.t 44))⟩, false, false⟩, ⟨⟨(some 46), (some (41, true)), (.fad 1 (.t 1))⟩, false, false⟩, ⟨⟨(some 47), (some (41, true)), (.ld none .nil (.t 46))⟩, false, false⟩, ⟨⟨(some 48), (some (41, true)), (.mov (.t 5))⟩, false, false⟩, ⟨⟨(some 49), (some (41, true)), (.idx 1 (.t 47) (.t 48))⟩, false, false⟩, ⟨⟨(some 50), (some (41, true)), (.ld none (.int .i64 0) (.t 49))⟩, false, false⟩, ⟨⟨(some 51), (some (41, true)), (.bin false .and (.t 45) (.t 50))⟩, false, false⟩, ⟨⟨(some 52), (some (41, true)), (.call 36 [(.t 51)])⟩, false, false⟩, ⟨⟨(some 53), (some (41, true)), (.mov (.t 3))⟩, false, false⟩, ⟨⟨(some 54), (some (41, true)), (.mov (.t 4))⟩, false, false⟩, ⟨⟨(some 55), (some (41, true)), (.idx 1 (.t 53) (.t 54))⟩, false, false⟩, ⟨⟨(some 56), (some (41, true)), (.ld none (.int .i64 0) (.t 55))⟩, false, false⟩, ⟨⟨(some 57), (some (41, true)), (.call 36 [(.t 56)])⟩, false, false⟩, ⟨⟨(some 58), (some (41, true)), (.bin false .sub (.t 57) (.c (.int .i64 1)))⟩, false, false⟩, ⟨⟨(some 59), (some (41, true)), (.bin false .eql (.t 52) (.t 58))⟩, false, false⟩, ⟨⟨(some 60), none, (.pick (.t 41) (.t 59) (.c (.bool false)))⟩, false, false⟩]) (.cond (.t 60) (.reg [⟨(some 61), none, (.mov (.t 3))⟩, ⟨(some 62), none, (.fad 1 (.t 1))⟩, ⟨(some 63), none, (.ld none .nil (.t 62))⟩, ⟨(some 64), none, (.mov (.t 5))⟩, ⟨(some 65), none, (.idx 1 (.t 63) (.t 64))⟩, ⟨(some 66), none, (.ld none (.int .i64 0) (.t 65))⟩, ⟨(some 67), none, (.mks 1 1 [(.int .i64 0)] [(0, (1, (.t 66)))])⟩, ⟨(some 68), none, (.app 1 8 (.t 61) (.t 67))⟩, ⟨(some 3), none, (.mov (.t 68))⟩]) .skip))) (.reg [⟨(some 31), none, (.mov (.t 5))⟩, ⟨(some 32), none, (.bin false .add (.t 31) (.c (.int .i64 1)))⟩, ⟨(some 5), none, (.mov (.t 32))⟩])))
def sc_s_IsChained_L0 : SC := (.seq (.seq (.reg [⟨(some 20), none, (.mov (.t 4))⟩, ⟨(some 21), none, (.mov (.t 3))⟩, ⟨(some 22), none, (.len (.t 21))⟩, ⟨(some 23), none, (.bin false .lss (.t 20) (.t 22))⟩]) (.cond (.t 23) .skip (.exit 0))) (.seq (.block 1 (.seq (.reg [⟨(some 5), none, (.mov (.c (.int .i64 0)))⟩]) (.block 2 (.loop sc_s_IsChained_L2)))) (.reg [⟨(some 24), none, (.mov (.t 4))⟩, ⟨(some 25), none, (.bin false .add (.t 24) (.c (.int .i64 1)))⟩, ⟨(some 4), none, (.mov (.t 25))⟩])))
def sc_s_IsChained : SC := (.seq (.reg [⟨(some 1), none, (.box (.t 0))⟩, ⟨(some 2), none, (.mov (.c (.bool false)))⟩]) (.seq (.seq (.reg [⟨(some 6), none, (.ld (some 2) .undef (.t 1))⟩, ⟨(some 7), none, (.call 65 [(.t 6)])⟩, ⟨(some 8), none, (.un .not (.t 7))⟩, ⟨(some 9), none, (.mov (.t 8))⟩, ⟨(some 10), (some (9, false)), (.fad 1 (.t 1))⟩, ⟨(some 11), (some (9, false)), (.ld none .nil (.t 10))⟩, ⟨(some 12), (some (9, false)), (.len (.t 11))⟩, ⟨(some 13), (some (9, false)), (.bin false .eql (.t 12) (.c (.int .i64 0)))⟩, ⟨(some 14), none, (.pick (.t 9) (.c (.bool true)) (.t 13))⟩]) (.cond (.t 14) (.seq (.reg [⟨(some 2), none, (.mov (.c (.bool false)))⟩]) .ret) .skip)) (.seq (.reg [⟨(some 15), none, (.fad 1 (.t 1))⟩, ⟨(some 16), none, (.ld none .nil (.t 15))⟩, ⟨(some 17), none, (.idx 1 (.t 16) (.c (.int .i64 0)))⟩, ⟨(some 18), none, (.ld none (.int .i64 0) (.t 17))⟩, ⟨(some 19), none, (.mks 1 1 [(.int .i64 0)] [(0, (1, (.t 18)))])⟩, ⟨(some 3), none, (.mov (.t 19))⟩]) (.seq (.seq (.reg [⟨(some 4), none, (.mov (.c (.int .i64 0)))⟩]) (.block 0 (.loop sc_s_IsChained_L0))) (.seq (.reg [⟨(some 69), none, (.mov (.t 3))⟩, ⟨(some 70), none, (.len (.t 69))⟩, ⟨(some 71), none, (.fad 1 (.t 1))⟩, ⟨(some 72), none, (.ld none .nil (.t 71))⟩, ⟨(some 73), none, (.len (.t 72))⟩, ⟨(some 74), none, (.bin false .eql (.t 70) (.t 73))⟩, ⟨(some 2), none, (.mov (.t 74))⟩]) .ret)))))
theorem code_s_IsChained : fnCode Try.prog [] 95 = some (75, sc_s_IsChained, [(2, none)]) := by kernel_rfl
noncomputable def chainB (n : Int) (l : List Int) : Bool := dec (pureB n l = true ∧ l ≠ [] ∧ (chainF l (l.length + 1) 0 [at0 l 0]).length = l.length)
open Classical in
noncomputable def F_s_IsChained : List V → Option V := F1 dC fun c => if allR c.2 then some (.bool (chainB c.1 c.2)) else none
theorem natBeq (a b : Nat) : ((a : Int) == (b : Int)) = decide (a = b) := by
  rw [Bool.eq_iff_iff, beq_iff_eq, decide_eq_true_iff]
  omega
theorem fn_s_IsChained : FnOk Try.prog 95 F_s_IsChained := by
  have env := (((envNil_ok (P := Try.prog)).add fn_s_l2Size).add fn_s_l2Has).add fn_s_IsPure
  refine fn_ok code_s_IsChained mixed env ?_
  intro args r h hb
  obtain ⟨_, ⟨n, l⟩, rfl, h1, h4⟩ := F1_inv h
  cases dC_inv h1
  simp only [Option.ite_none_right_eq_some, Option.some.injEq] at h4
  obtain ⟨hR, rfl⟩ := h4
  have hlen := bnd_eC (hb _ (List.mem_cons_self ..))
  simp only at hlen
  refine ⟨by simp, fun w0 U0 L0 N0 => ?_⟩
  generalize hv : chainB n l = v
  cases hp : pureB n l with
  | false =>
    have hv1 : v = false := by rw [← hv]; exact dec_false fun h => by simp [hp] at h
    simp -implicitDefEqProofs [sc_s_IsChained, F_s_IsPure, hR, hp, hv1]
  | true =>
    obtain ⟨hc, hsz⟩ := dec_iff.1 hp
    have hS := cplx_isS hc
    by_cases hne : l = []
    · have hv1 : v = false := by rw [← hv]; exact dec_false fun h => h.2.1 hne
      subst hne
      simp -implicitDefEqProofs [sc_s_IsChained, F_s_IsPure, hR, hp, hv1]
    · have inner : ∀ (k : Nat) (dn : List Int) (Q : Post) (L : Tm), k < dn.length → dn.Nodup → (∀ x ∈ dn, x ∈ l) → subE L [(1, .pt 0 0), (3, .sl 1 1 0 dn.length), (4, .int .i64 (k : Int)), (5, .int .i64 0)] →
          Q (.exit 2) [(1, .pt 0 0), (3, .sl 1 1 0 (growI l (at0 dn k) dn).length), (4, .int .i64 (k : Int))] ([(1, ints (growI l (at0 dn k) dn)), (0, [.int .i64 n, .list 1 (ints l)])], 2) →
          LoopI ⟨Try.prog, w0, U0, L0, N0, 0, 75⟩ [] sc_s_IsChained_L2 Q L ([(1, ints dn), (0, [.int .i64 n, .list 1 (ints l)])], 2) := by
        intro k dn Q L hk hnd hsub hs q1
        refine loopQ env mixed (fun i : Nat => [(1, .pt 0 0), (3, .sl 1 1 0 (growI (l.take i) (at0 dn k) dn).length), (4, .int .i64 (k : Int)), (5, .int .i64 (i : Int))]) (fun i => ([(1, ints (growI (l.take i) (at0 dn k) dn)), (0, [.int .i64 n, .list 1 (ints l)])], 2)) (fun i => i ≤ l.length) (fun i => l.length - i) 0 (by simp)
          (SubI.slots (by simp [growI]) (by simpa [growI] using hs)) ?_
        intro i hi
        obtain ⟨g1, g2, r, g3⟩ := growI_inv (at0 dn k) hnd hsub i hi
        generalize hg : growI (l.take i) (at0 dn k) dn = g at *
        by_cases hlt : i < l.length
        · have hstep := growI_step hlt (at0 dn k) dn
          rw [hg] at hstep
          have hd : at0 g k = at0 dn k := by rw [g3, at0_app, if_pos hk]
          have hkg : k < g.length := by rw [g3]; simp; omega
          have hgl : g.length ≤ l.length := sub_len g1 g2
          by_cases hm : at0 l i ∈ g
          · have hs2 : growI (l.take (i + 1)) (at0 dn k) dn = g := by rw [hstep, if_neg fun h => h.1 hm]
            simp -implicitDefEqProofs [sc_s_IsChained_L2, F_s_l2Has, hlt, hm]
            refine ⟨by omega, Again.of (i + 1) (by omega) (by omega) (SubI.slots (by simp [hs2]) (by simp (disch := omega) [wrapI, hs2]))⟩
          · have hdS : isS (at0 dn k) := hS _ (hsub _ (getD_mem' hk))
            have hfS : isS (at0 l i) := allS_at hS hlt
            have hsz2 : sz (at0 l i) = sz (at0 dn k) := by
              obtain ⟨j, hj, e⟩ := getD_mem_iff.1 (hsub _ (getD_mem' hk))
              rw [hsz i hlt, ← e, hsz j hj]
            have hbe := beside hfS hdS hsz2
            have r1 : band (at0 dn k) (at0 l i) < 9223372036854775808 := by have := (isS_band hdS hfS).2; omega
            have r2 : at0 dn k < 9223372036854775808 := by have := hdS.2; omega
            have hw : IntKind.i64.wrap (sz (at0 dn k) - 1) = sz (at0 dn k) - 1 := wrapI _ (by have := sz_nn (at0 dn k); omega) (by have := sz_le (at0 dn k); omega)
            by_cases hcd : sizeOf1 (bnot (at0 l i) (at0 dn k)) = 1
            · have hs2 : growI (l.take (i + 1)) (at0 dn k) dn = g ++ [at0 l i] := by rw [hstep, if_pos ⟨hm, hcd⟩]
              have hcd2 : sz (band (at0 dn k) (at0 l i)) = sz (at0 dn k) - 1 := by
                exact hbe.2 hcd
              simp -implicitDefEqProofs [sc_s_IsChained_L2, F_s_l2Has, F_s_l2Size, hlt, hm, hd, r1, r2, hw, hcd2, hkg]
              have h64 := nodup_len g1 fun x hx => hS x (g2 x hx)
              refine ⟨by omega, by omega, Again.of (i + 1) (by omega) (by omega) (SubI.ren (fun m => if m = 0 then some 0 else if m = 1 then some 3 else none) ?_ ?_ ?_ (by simp) (by simp))⟩
              · simp (disch := omega) [subT, renV, ren1, wrapI, hs2]
              · simp [subH, hs2, renL, ren1]
                rw [← ints_app]
                rfl
              · intro m hm
                simp only at hm
                rw [if_neg (by omega), if_neg (by omega)]
            · have hs2 : growI (l.take (i + 1)) (at0 dn k) dn = g := by rw [hstep, if_neg fun h => hcd h.2]
              have hcd2 : ¬ sz (band (at0 dn k) (at0 l i)) = sz (at0 dn k) - 1 := fun h => hcd (hbe.1 h)
              simp -implicitDefEqProofs [sc_s_IsChained_L2, F_s_l2Has, F_s_l2Size, hlt, hm, hd, r1, r2, hw, hcd2, hkg]
              refine ⟨by omega, Again.of (i + 1) (by omega) (by omega) (SubI.slots (by simp [hs2]) (by simp (disch := omega) [wrapI, hs2]))⟩
        · have hil : i = l.length := by omega
          subst hil
          have hfull : growI l (at0 dn k) dn = g := by rw [← hg, List.take_length]
          rw [hfull] at q1
          simp -implicitDefEqProofs [sc_s_IsChained_L2]
          exact SubQ.of (SubI.slots rfl (by simp)) q1
      simp -implicitDefEqProofs [sc_s_IsChained, F_s_IsPure, hR, hp, hne]
      refine ⟨List.length_pos_iff.2 hne, ?_⟩
      refine loopI env mixed (fun x : Nat × List Int => [(1, .pt 0 0), (3, .sl 1 1 0 x.2.length), (4, .int .i64 (x.1 : Int))]) (fun x => ([(1, ints x.2), (0, [.int .i64 n, .list 1 (ints l)])], 2))
        (fun x => x.2.Nodup ∧ (∀ y ∈ x.2, y ∈ l) ∧ x.1 ≤ x.2.length ∧ chainF l (l.length + 1 - x.1) x.1 x.2 = chainF l (l.length + 1) 0 [at0 l 0]) (fun x => l.length + 1 - x.1) (0, [at0 l 0])
        ⟨by simp, by simpa using getD_mem' (List.length_pos_iff.2 hne), by simp, rfl⟩ (SubI.slots (by simp) (by simp)) ?_
      rintro ⟨k, dn⟩ ⟨h1, h2, h3, h4⟩
      simp only at h1 h2 h3 h4
      have hdl : dn.length ≤ l.length := sub_len h1 h2
      by_cases hlt : k < dn.length
      · have hS2 : chainF l (l.length + 1 - (k + 1)) (k + 1) (growI l (at0 dn k) dn) = chainF l (l.length + 1) 0 [at0 l 0] := by
          rw [← h4, show l.length + 1 - k = (l.length + 1 - (k + 1)) + 1 by omega, chainF, if_pos hlt]
        obtain ⟨i1, i2, r, i3⟩ := growI_inv (at0 dn k) h1 h2 l.length (Nat.le_refl _)
        rw [List.take_length] at i1 i2 i3
        have i4 : dn.length ≤ (growI l (at0 dn k) dn).length := by rw [i3]; simp
        simp -implicitDefEqProofs [sc_s_IsChained_L0, hlt]
        refine inner k dn _ _ hlt h1 h2 (by simp) ?_
        simp -implicitDefEqProofs
        refine Again.of (k + 1, growI l (at0 dn k) dn) ⟨i1, i2, by simp only; omega, hS2⟩ (by simp only; omega) (SubI.slots (by simp) (by simp (disch := omega) [wrapI]))
      · have hk : k = dn.length := by omega
        have hdn : chainF l (l.length + 1) 0 [at0 l 0] = dn := by rw [← h4, show l.length + 1 - k = (l.length - k) + 1 by omega, chainF, if_neg hlt]
        have hv1 : v = decide (dn.length = l.length) := by
          rw [← hv, Bool.eq_iff_iff, decide_eq_true_iff]
          refine dec_iff.trans ?_
          rw [hdn]
          exact ⟨fun h => h.2.2, fun h => ⟨hp, hne, h⟩⟩
        subst hk
        simp -implicitDefEqProofs [sc_s_IsChained_L0, hv1]
        exact natBeq _ _
def sc_i_IsChained_L2 : SC := (.seq (.reg [⟨(some 38), none, (.bin false .lss (.t 37) (.t 36))⟩]) (.seq (.cond (.t 38) .skip (.exit 2)) (.seq (.block 3 (.seq (.reg [⟨(some 39), none, (.idx 1 (.t 35) (.t 37))⟩, ⟨(some 40), none, (.ld none (.int .i64 0) (.t 39))⟩, ⟨(some 7), none, (.mov (.t 40))⟩]) (.seq (.reg [⟨(some 41), none, (.mov (.t 4))⟩, ⟨(some 42), none, (.mov (.t 7))⟩, ⟨(some 43), none, (.call 68 [(.t 41), (.t 42)])⟩, ⟨(some 44), none, (.un .not (.t 43))⟩, ⟨(some 45), none, (.mov (.t 44))⟩, ⟨(some 46), (some (45, true)), (.mov (.t 7))⟩, ⟨(some 47), (some (45, true)), (.mov (.t 3))⟩, ⟨(some 48), (some (45, true)), (.mov (.t 5))⟩, ⟨(some 49), (some (45, true)), (.idx 1 (.t 47) (.t 48))⟩, ⟨(some 50), (some (45, true)), (.ld none (.int .i64 0) (.t 49))⟩, ⟨(some 51), (some (45, true)), (.bin false .andNot (.t 46) (.t 50))⟩, ⟨(some 52), (some (45, true)), (.call 47 [(.t 51)])⟩, ⟨(some 53), (some (45, true)), (.bin false .eql (.t 52) (.c (.int .i64 1)))⟩, ⟨(some 54), none, (.pick (.t 45) (.t 53) (.c (.bool false)))⟩]) (.cond (.t 54) (.seq (.reg [⟨(some 55), none, (.mov (.t 4))⟩, ⟨(some 56), none, (.mov (.t 7))⟩, ⟨(some 57), none, (.conv .u64 (.t 56))⟩, ⟨(some 58), none, (.bin false .shl (.c (.int .u64 1)) (.t 57))⟩, ⟨(some 59), none, (.bin false .or (.t 55) (.t 58))⟩, ⟨(some 4), none, (.mov (.t 59))⟩]) (.reg [⟨(some 60), none, (.mov (.t 3))⟩, ⟨(some 61), none, (.mov (.t 7))⟩, ⟨(some 62), none, (.mks 1 1 [(.int .i64 0)] [(0, (1, (.t 61)))])⟩, ⟨(some 63), none, (.app 1 8 (.t 60) (.t 62))⟩, ⟨(some 3), none, (.mov (.t 63))⟩])) .skip)))) (.reg [⟨(some 64), none, (.bin false .add (.t 37) (.c (.int .i64 1)))⟩, ⟨(some 37), none, (.mov (.t 64))⟩]))))
def sc_i_IsChained_L0 : SC := (.seq (.seq (.reg [⟨(some 28), none, (.mov (.t 5))⟩, ⟨(some 29), none, (.mov (.t 3))⟩, ⟨(some 30), none, (.len (.t 29))⟩, ⟨(some 31), none, (.bin false .lss (.t 28) (.t 30))⟩]) (.cond (.t 31) .skip (.exit 0))) (.seq (.block 1 (.seq (.reg [⟨(some 34), none, (.fad 1 (.t 1))⟩, ⟨(some 35), none, (.ld none .nil (.t 34))⟩, ⟨(some 36), none, (.len (.t 35))⟩, ⟨(some 37), none, (.mov (.c (.int .i64 0)))⟩]) (.block 2 (.loop sc_i_IsChained_L2)))) (.reg [⟨(some 32), none, (.mov (.t 5))⟩, ⟨(some 33), none, (.bin false .add (.t 32) (.c (.int .i64 1)))⟩, ⟨(some 5), none, (.mov (.t 33))⟩])))
def sc_i_IsChained : SC := (.seq (.reg [⟨(some 1), none, (.box (.t 0))⟩, ⟨(some 2), none, (.mov (.c (.bool false)))⟩]) (.seq (.seq (.reg [⟨(some 8), none, (.ld (some 2) .undef (.t 1))⟩, ⟨(some 9), none, (.call 67 [(.t 8)])⟩, ⟨(some 10), none, (.un .not (.t 9))⟩, ⟨(some 11), none, (.mov (.t 10))⟩, ⟨(some 12), (some (11, false)), (.fad 1 (.t 1))⟩, ⟨(some 13), (some (11, false)), (.ld none .nil (.t 12))⟩, ⟨(some 14), (some (11, false)), (.len (.t 13))⟩, ⟨(some 15), (some (11, false)), (.bin false .eql (.t 14) (.c (.int .i64 0)))⟩, ⟨(some 16), none, (.pick (.t 11) (.c (.bool true)) (.t 15))⟩]) (.cond (.t 16) (.seq (.reg [⟨(some 2), none, (.mov (.c (.bool false)))⟩]) .ret) .skip)) (.seq (.reg [⟨(some 17), none, (.fad 1 (.t 1))⟩, ⟨(some 18), none, (.ld none .nil (.t 17))⟩, ⟨(some 19), none, (.idx 1 (.t 18) (.c (.int .i64 0)))⟩, ⟨(some 20), none, (.ld none (.int .i64 0) (.t 19))⟩, ⟨(some 21), none, (.mks 1 1 [(.int .i64 0)] [(0, (1, (.t 20)))])⟩, ⟨(some 3), none, (.mov (.t 21))⟩]) (.seq (.reg [⟨(some 22), none, (.fad 1 (.t 1))⟩, ⟨(some 23), none, (.ld none .nil (.t 22))⟩, ⟨(some 24), none, (.idx 1 (.t 23) (.c (.int .i64 0)))⟩, ⟨(some 25), none, (.ld none (.int .i64 0) (.t 24))⟩, ⟨(some 26), none, (.conv .u64 (.t 25))⟩, ⟨(some 27), none, (.bin false .shl (.c (.int .u64 1)) (.t 26))⟩, ⟨(some 4), none, (.mov (.t 27))⟩]) (.seq (.seq (.reg [⟨(some 5), none, (.mov (.c (.int .i64 0)))⟩]) (.block 0 (.loop sc_i_IsChained_L0))) (.seq (.reg [⟨(some 65), none, (.mov (.t 3))⟩, ⟨(some 66), none, (.len (.t 65))⟩, ⟨(some 67), none, (.fad 1 (.t 1))⟩, ⟨(some 68), none, (.ld none .nil (.t 67))⟩, ⟨(some 69), none, (.len (.t 68))⟩, ⟨(some 70), none, (.bin false .eql (.t 66) (.t 69))⟩, ⟨(some 2), none, (.mov (.t 70))⟩]) .ret))))))
theorem code_i_IsChained : fnCode Try.prog [] 98 = some (71, sc_i_IsChained, [(2, none)]) := by kernel_rfl
theorem fn_i_IsChained : FnOk Try.prog 98 F_s_IsChained := by
  have env := (((envNil_ok (P := Try.prog)).add fn_i_hasSet).add fn_i_SizeOf).add fn_i_IsPure
  refine fn_ok code_i_IsChained mixed env ?_
  intro args r h hb
  obtain ⟨_, ⟨n, l⟩, rfl, h1, h4⟩ := F1_inv h
  cases dC_inv h1
  simp only [Option.ite_none_right_eq_some, Option.some.injEq] at h4
  obtain ⟨hR, rfl⟩ := h4
  have hlen := bnd_eC (hb _ (List.mem_cons_self ..))
  simp only at hlen
  refine ⟨by simp, fun w0 U0 L0 N0 => ?_⟩
  generalize hv : chainB n l = v
  cases hp : pureB n l with
  | false =>
    have hv1 : v = false := by rw [← hv]; exact dec_false fun h => by simp [hp] at h
    simp -implicitDefEqProofs [sc_i_IsChained, F_s_IsPure, hR, hp, hv1]
  | true =>
    obtain ⟨hc, hsz⟩ := dec_iff.1 hp
    have hS := cplx_isS hc
    by_cases hne : l = []
    · have hv1 : v = false := by rw [← hv]; exact dec_false fun h => h.2.1 hne
      subst hne
      simp -implicitDefEqProofs [sc_i_IsChained, F_s_IsPure, hR, hp, hv1]
    · have inner : ∀ (k : Nat) (dn : List Int) (Q : Post) (L : Tm), k < dn.length → dn.Nodup → (∀ x ∈ dn, x ∈ l) → subE L [(1, .pt 0 0), (3, .sl 1 1 0 dn.length), (4, .int .u64 (fam fun x => x ∈ dn)), (5, .int .i64 (k : Int)), (35, .list 1 (ints l)), (36, .int .i64 l.length), (37, .int .i64 0)] →
          Q (.exit 2) [(1, .pt 0 0), (3, .sl 1 1 0 (growI l (at0 dn k) dn).length), (4, .int .u64 (fam fun x => x ∈ growI l (at0 dn k) dn)), (5, .int .i64 (k : Int))] ([(1, ints (growI l (at0 dn k) dn)), (0, [.int .i64 n, .list 1 (ints l)])], 2) →
          LoopI ⟨Try.prog, w0, U0, L0, N0, 0, 71⟩ [] sc_i_IsChained_L2 Q L ([(1, ints dn), (0, [.int .i64 n, .list 1 (ints l)])], 2) := by
        intro k dn Q L hk hnd hsub hs q1
        refine loopQ env mixed (fun i : Nat => [(1, .pt 0 0), (3, .sl 1 1 0 (growI (l.take i) (at0 dn k) dn).length), (4, .int .u64 (fam fun x => x ∈ growI (l.take i) (at0 dn k) dn)), (5, .int .i64 (k : Int)), (35, .list 1 (ints l)), (36, .int .i64 l.length), (37, .int .i64 (i : Int))]) (fun i => ([(1, ints (growI (l.take i) (at0 dn k) dn)), (0, [.int .i64 n, .list 1 (ints l)])], 2)) (fun i => i ≤ l.length) (fun i => l.length - i) 0 (by simp)
          (SubI.slots (by simp [growI]) (by simpa [growI] using hs)) ?_
        intro i hi
        obtain ⟨g1, g2, r, g3⟩ := growI_inv (at0 dn k) hnd hsub i hi
        generalize hg : growI (l.take i) (at0 dn k) dn = g at *
        by_cases hlt : i < l.length
        · have hstep := growI_step hlt (at0 dn k) dn
          rw [hg] at hstep
          have hd : at0 g k = at0 dn k := by rw [g3, at0_app, if_pos hk]
          have hkg : k < g.length := by rw [g3]; simp; omega
          have hgl : g.length ≤ l.length := sub_len g1 g2
          have hdS : isS (at0 dn k) := hS _ (hsub _ (getD_mem' hk))
          have hfS : isS (at0 l i) := allS_at hS hlt
          have hhas := hasG_fam (p := fun x => x ∈ g) hfS
          by_cases hm : at0 l i ∈ g
          · have hs2 : growI (l.take (i + 1)) (at0 dn k) dn = g := by rw [hstep, if_neg fun h => h.1 hm]
            rw [dec_true hm] at hhas
            simp -implicitDefEqProofs [sc_i_IsChained_L2, F_i_hasSet, hhas, hlt]
            repeat' (first | omega | apply And.intro)
            exact Again.of (i + 1) (by omega) (by omega) (SubI.slots (by simp [hs2]) (by simp (disch := omega) [wrapI, hs2]))
          · have hu := wrapS hfS
            have h1 := fam_one hfS
            rw [dec_false hm] at hhas
            by_cases hcd : sizeOf1 (bnot (at0 l i) (at0 dn k)) = 1
            · have hs2 : growI (l.take (i + 1)) (at0 dn k) dn = g ++ [at0 l i] := by rw [hstep, if_pos ⟨hm, hcd⟩]
              have h64 := nodup_len g1 fun x hx => hS x (g2 x hx)
              simp -implicitDefEqProofs [sc_i_IsChained_L2, F_i_hasSet, hhas, F_i_SizeOf, hlt, hd, hkg, hcd, hu, h1]
              have f0 := hfS.1
              repeat' (first | omega | apply And.intro)
              refine Again.of (i + 1) (by omega) (by omega) (SubI.ren (fun m => if m = 0 then some 0 else if m = 1 then some 3 else none) ?_ ?_ ?_ (by simp) (by simp))
              · simp (disch := omega) [subT, renV, ren1, wrapI, hs2]
              · simp [subH, hs2, renL, ren1]
                rw [← ints_app]
                rfl
              · intro m hm
                simp only at hm
                rw [if_neg (by omega), if_neg (by omega)]
            · have hs2 : growI (l.take (i + 1)) (at0 dn k) dn = g := by rw [hstep, if_neg fun h => hcd h.2]
              simp -implicitDefEqProofs [sc_i_IsChained_L2, F_i_hasSet, hhas, F_i_SizeOf, hlt, hd, hkg, hcd]
              repeat' (first | omega | apply And.intro)
              exact Again.of (i + 1) (by omega) (by omega) (SubI.slots (by simp [hs2]) (by simp (disch := omega) [wrapI, hs2]))
        · have hil : i = l.length := by omega
          subst hil
          have hfull : growI l (at0 dn k) dn = g := by rw [← hg, List.take_length]
          rw [hfull] at q1
          simp -implicitDefEqProofs [sc_i_IsChained_L2]
          exact SubQ.of (SubI.slots rfl (by simp)) q1
      have h0S := allS_at hS (List.length_pos_iff.2 hne)
      have hu0 := wrapS h0S
      have h10 := fam_one h0S
      simp -implicitDefEqProofs [sc_i_IsChained, F_s_IsPure, hR, hp, hne, hu0, h10]
      have hpos := List.length_pos_iff.2 hne
      have f0 := h0S.1
      repeat' (first | omega | apply And.intro)
      refine loopI env mixed (fun x : Nat × List Int => [(1, .pt 0 0), (3, .sl 1 1 0 x.2.length), (4, .int .u64 (fam fun y => y ∈ x.2)), (5, .int .i64 (x.1 : Int))]) (fun x => ([(1, ints x.2), (0, [.int .i64 n, .list 1 (ints l)])], 2))
        (fun x => x.2.Nodup ∧ (∀ y ∈ x.2, y ∈ l) ∧ x.1 ≤ x.2.length ∧ chainF l (l.length + 1 - x.1) x.1 x.2 = chainF l (l.length + 1) 0 [at0 l 0]) (fun x => l.length + 1 - x.1) (0, [at0 l 0])
        ⟨by simp, by simpa using getD_mem' (List.length_pos_iff.2 hne), by simp, rfl⟩ (SubI.slots (by simp) (by simp)) ?_
      rintro ⟨k, dn⟩ ⟨h1, h2, h3, h4⟩
      simp only at h1 h2 h3 h4
      have hdl : dn.length ≤ l.length := sub_len h1 h2
      by_cases hlt : k < dn.length
      · have hS2 : chainF l (l.length + 1 - (k + 1)) (k + 1) (growI l (at0 dn k) dn) = chainF l (l.length + 1) 0 [at0 l 0] := by
          rw [← h4, show l.length + 1 - k = (l.length + 1 - (k + 1)) + 1 by omega, chainF, if_pos hlt]
        obtain ⟨i1, i2, r, i3⟩ := growI_inv (at0 dn k) h1 h2 l.length (Nat.le_refl _)
        rw [List.take_length] at i1 i2 i3
        have i4 : dn.length ≤ (growI l (at0 dn k) dn).length := by rw [i3]; simp
        simp -implicitDefEqProofs [sc_i_IsChained_L0, hlt]
        refine inner k dn _ _ hlt h1 h2 (by simp) ?_
        simp -implicitDefEqProofs
        refine Again.of (k + 1, growI l (at0 dn k) dn) ⟨i1, i2, by simp only; omega, hS2⟩ (by simp only; omega) (SubI.slots (by simp) (by simp (disch := omega) [wrapI]))
      · have hk : k = dn.length := by omega
        have hdn : chainF l (l.length + 1) 0 [at0 l 0] = dn := by rw [← h4, show l.length + 1 - k = (l.length - k) + 1 by omega, chainF, if_neg hlt]
        have hv1 : v = decide (dn.length = l.length) := by
          rw [← hv, Bool.eq_iff_iff, decide_eq_true_iff]
          refine dec_iff.trans ?_
          rw [hdn]
          exact ⟨fun h => h.2.2, fun h => ⟨hp, hne, h⟩⟩
        subst hk
        simp -implicitDefEqProofs [sc_i_IsChained_L0, hv1]
        exact natBeq _ _
end Go.Proofs.Ytncnohompmcddaa
