import Derived.Test.YtmemomfffehnkaaFmA
import Derived.Test.YtmemomfffehnkaaKX
namespace Go.Proofs.Ytmemomfffehnkaa
open Go Go.RowKit
set_option maxRecDepth 1000000
set_option linter.unusedSimpArgs false
set_option linter.unusedVariables false
set_option maxHeartbeats 1000000
def sc_i_IsDivision_L0 : SC := (.seq (.reg [⟨(some 23), none, (.bin false .lss (.t 22) (.t 21))⟩]) (.seq (.cond (.t 23) .skip (.exit 0)) (.seq (.block 1 (.seq (.reg [⟨(some 24), none, (.mov (.t 22))⟩, ⟨(some 25), none, (.idx 1 (.t 20) (.t 22))⟩, ⟨(some 26), none, (.ld none (.int .i64 0) (.t 25))⟩, ⟨(some 6), none, (.mov (.t 24))⟩, ⟨(some 7), none, (.mov (.t 26))⟩]) (.seq (.seq (.reg [⟨(some 27), none, (.mov (.t 7))⟩, ⟨(some 28), none, (.call 180 [(.c (.int .i64 6)), (.t 27)])⟩, ⟨(some 29), none, (.un .not (.t 28))⟩, ⟨(some 30), none, (.mov (.t 29))⟩, ⟨(some 31), (some (30, false)), (.mov (.t 7))⟩, ⟨(some 32), (some (30, false)), (.fad 1 (.t 2))⟩, ⟨(some 33), (some (30, false)), (.ld none .nil (.t 32))⟩, ⟨(some 34), (some (30, false)), (.mov (.t 6))⟩, ⟨(some 35), (some (30, false)), (.idx 1 (.t 33) (.t 34))⟩, ⟨(some 36), (some (30, false)), (.ld none (.int .i64 0) (.t 35))⟩, ⟨(some 37), (some (30, false)), (.bin false .andNot (.t 31) (.t 36))⟩, ⟨(some 38), (some (30, false)), (.bin false .neq (.t 37) (.c (.int .i64 0)))⟩, ⟨(some 39), none, (.pick (.t 30) (.c (.bool true)) (.t 38))⟩]) (.cond (.t 39) (.seq (.reg [⟨(some 4), none, (.mov (.c (.bool false)))⟩]) .ret) .skip)) (.seq (.reg [⟨(some 40), none, (.mov (.t 7))⟩, ⟨(some 41), none, (.fad 1 (.t 2))⟩, ⟨(some 42), none, (.ld none .nil (.t 41))⟩, ⟨(some 43), none, (.mov (.t 6))⟩, ⟨(some 44), none, (.idx 1 (.t 42) (.t 43))⟩, ⟨(some 45), none, (.ld none (.int .i64 0) (.t 44))⟩, ⟨(some 46), none, (.call 204 [(.t 40), (.t 45)])⟩, ⟨(some 8), none, (.mov (.t 46))⟩]) (.seq (.seq (.reg [⟨(some 47), none, (.mov (.t 8))⟩, ⟨(some 48), none, (.mov (.t 5))⟩, ⟨(some 49), none, (.bin false .and (.t 47) (.t 48))⟩, ⟨(some 50), none, (.bin false .neq (.t 49) (.c (.int .u64 0)))⟩]) (.cond (.t 50) (.seq (.reg [⟨(some 4), none, (.mov (.c (.bool false)))⟩]) .ret) .skip)) (.reg [⟨(some 51), none, (.mov (.t 5))⟩, ⟨(some 52), none, (.mov (.t 8))⟩, ⟨(some 53), none, (.bin false .or (.t 51) (.t 52))⟩, ⟨(some 5), none, (.mov (.t 53))⟩])))))) (.reg [⟨(some 54), none, (.bin false .add (.t 22) (.c (.int .i64 1)))⟩, ⟨(some 22), none, (.mov (.t 54))⟩]))))
def sc_i_IsDivision : SC := (.seq (.reg [⟨(some 2), none, (.box (.t 0))⟩, ⟨(some 4), none, (.mov (.c (.bool false)))⟩]) (.seq (.seq (.reg [⟨(some 9), none, (.ld (some 2) .undef (.t 2))⟩, ⟨(some 10), none, (.call 130 [(.t 9)])⟩, ⟨(some 11), none, (.un .not (.t 10))⟩, ⟨(some 12), none, (.mov (.t 11))⟩, ⟨(some 13), (some (12, false)), (.mov (.t 1))⟩, ⟨(some 14), (some (12, false)), (.len (.t 13))⟩, ⟨(some 15), (some (12, false)), (.fad 1 (.t 2))⟩, ⟨(some 16), (some (12, false)), (.ld none .nil (.t 15))⟩, ⟨(some 17), (some (12, false)), (.len (.t 16))⟩, ⟨(some 18), (some (12, false)), (.bin false .neq (.t 14) (.t 17))⟩, ⟨(some 19), none, (.pick (.t 12) (.c (.bool true)) (.t 18))⟩]) (.cond (.t 19) (.seq (.reg [⟨(some 4), none, (.mov (.c (.bool false)))⟩]) .ret) .skip)) (.seq (.reg [⟨(some 5), none, (.mov (.c (.int .u64 0)))⟩]) (.seq (.seq (.reg [⟨(some 20), none, (.mov (.t 1))⟩, ⟨(some 21), none, (.len (.t 20))⟩, ⟨(some 22), none, (.mov (.c (.int .i64 0)))⟩]) (.block 0 (.loop sc_i_IsDivision_L0))) (.seq (.reg [⟨(some 55), none, (.mov (.t 5))⟩, ⟨(some 56), none, (.ld (some 2) .undef (.t 2))⟩, ⟨(some 57), none, (.call 151 [(.t 56)])⟩, ⟨(some 58), none, (.bin false .eql (.t 55) (.t 57))⟩, ⟨(some 4), none, (.mov (.t 58))⟩]) .ret)))))
theorem code_i_IsDivision : fnCode Try.prog [] 114 = some (59, sc_i_IsDivision, [(4, none)]) := by kernel_rfl
theorem cntIv_zeroI {facets lows : List Int} {u : Int} : ∀ {m : Nat}, (∀ j, j < m → ¬ inIv facets lows u j) → cntIv facets lows u m = 0
  | 0, _ => rfl
  | m + 1, h => by rw [cntIv_neg (h m (by omega)), cntIv_zeroI fun j hj => h j (by omega)]
theorem cntIv_monoI {facets lows : List Int} {u : Int} {j : Nat} : ∀ {m : Nat}, j ≤ m → cntIv facets lows u j ≤ cntIv facets lows u m
  | 0, h => by have : j = 0 := by omega
               subst this; omega
  | m + 1, h => by
    rcases Nat.lt_or_ge m j with h1 | h1
    · have : j = m + 1 := by omega
      subst this; omega
    · have ih := cntIv_monoI (facets := facets) (lows := lows) (u := u) h1
      by_cases hi : inIv facets lows u m
      · rw [cntIv_pos hi]; omega
      · rw [cntIv_neg hi]; omega
theorem cntIv_hitI {facets lows : List Int} {u : Int} {j m : Nat} (hj : j < m) (h : inIv facets lows u j) : cntIv facets lows u j + 1 ≤ cntIv facets lows u m := by
  rw [← cntIv_pos h]
  exact cntIv_monoI hj
theorem cntIv_oneI {facets lows : List Int} {u : Int} : ∀ {m : Nat}, (∀ k, k < m → ∀ j, j < k → ¬ (inIv facets lows u j ∧ inIv facets lows u k)) → cntIv facets lows u m ≤ 1
  | 0, _ => by simp [cntIv]
  | m + 1, h => by
    by_cases hi : inIv facets lows u m
    · rw [cntIv_pos hi, cntIv_zeroI fun j hj hh => h m (by omega) j hj ⟨hh, hi⟩]; omega
    · rw [cntIv_neg hi]; exact cntIv_oneI fun k hk => h k (by omega)
theorem isSet6 {x : Int} : isSet 6 x = true ↔ isS x := by
  unfold isSet isS
  rw [decide_eq_true_eq]
  have : (2 : Int) ^ (6 : Int).toNat = 64 := by decide
  rw [this]
  omega
theorem fn_i_IsDivision : FnOk Try.prog 114 F_s_IsDivision := by
  have env := ((((envNil_ok (P := Try.prog)).add fn_i_IsComplex).add fn_i_IsSet).add fn_i_facesIn).add fn_i_intervalOf
  refine fn_ok code_i_IsDivision mixed env ?_
  intro args r h hb
  obtain ⟨_, _, ⟨n, l⟩, lows, rfl, h1, h2, h4⟩ := F2_inv h
  cases dC_inv h1
  cases dL_inv h2
  cases h4
  have hlen := bnd_eC (hb _ (List.mem_cons_self ..))
  simp only at hlen
  refine ⟨by simp, fun w0 U0 L0 N0 => ?_⟩
  generalize hv : dec (divP n l lows) = v
  cases e0 : cplxB n l with
  | false =>
    have hv1 : v = false := hv ▸ dec_false fun h => by simp [cplxB_iff.2 h.1] at e0
    simp -implicitDefEqProofs [sc_i_IsDivision, F_s_IsComplex, e0, hv1]
  | true =>
  have hc := cplxB_iff.1 e0
  have hS := cplx_isS hc
  by_cases e1 : lows.length = l.length
  rotate_left
  · have hv1 : v = false := hv ▸ dec_false fun h => e1 h.2.1
    have e2 : ¬ ((lows.length : Int) = l.length) := by omega
    simp -implicitDefEqProofs [sc_i_IsDivision, F_s_IsComplex, e0, e2, hv1]
  have z0 : (0 : Int) = fam fun u => ∃ j, j < 0 ∧ inIv l lows u j := (fam_zero.2 fun u hu h => by obtain ⟨j, hj, _⟩ := h; omega).symm
  simp -implicitDefEqProofs [sc_i_IsDivision, F_s_IsComplex, e0, e1]
  refine loopI env mixed (fun k : Nat => [(2, .pt 0 0), (5, .int .u64 (fam fun u => ∃ j, j < k ∧ inIv l lows u j)), (20, .list 1 (ints lows)), (21, .int .i64 (l.length : Int)), (22, .int .i64 (k : Int))]) (fun _ => ([(0, [.int .i64 n, .list 1 (ints l)])], 1))
    (fun k => k ≤ l.length ∧ (∀ j, j < k → isS (at0 lows j) ∧ subS (at0 lows j) (at0 l j)) ∧ ∀ u, isS u → ∀ m, m < k → ∀ j, j < m → inIv l lows u j → ¬ inIv l lows u m) (fun k => l.length - k) 0 (by simp) (SubI.slots rfl (by simp only [subE_cons, subE_nil, ← z0]; simp)) ?_
  rintro k ⟨hk, hn, hdis⟩
  by_cases hlt : k < l.length
  · have hlt2 : k < lows.length := by omega
    have hf := allS_at hS hlt
    by_cases g1 : isS (at0 lows k)
    · have g1' := isSet6.2 g1
      by_cases g2 : bnot (at0 lows k) (at0 l k) = 0
      · have cond : ∀ u, (inIv l lows u k ∧ ∃ j, j < k ∧ inIv l lows u j) ↔ ((subS (at0 lows k) u ∧ subS u (at0 l k)) ∧ ∃ j, j < k ∧ inIv l lows u j) := fun u => Iff.rfl
        by_cases g3 : fam (fun u => (subS (at0 lows k) u ∧ subS u (at0 l k)) ∧ ∃ j, j < k ∧ inIv l lows u j) = 0
        · have e : (fam fun u => (∃ j, j < k ∧ inIv l lows u j) ∨ (subS (at0 lows k) u ∧ subS u (at0 l k))) = fam fun u => ∃ j, j < k + 1 ∧ inIv l lows u j := by
            refine fam_congr fun u hu => ⟨?_, ?_⟩
            · rintro (⟨j, h1, h2⟩ | h)
              · exact ⟨j, by omega, h2⟩
              · exact ⟨k, by omega, h⟩
            · rintro ⟨j, h1, h2⟩
              rcases Nat.lt_succ_iff_lt_or_eq.1 h1 with h3 | rfl
              · exact .inl ⟨j, h3, h2⟩
              · exact .inr h2
          simp -implicitDefEqProofs [sc_i_IsDivision_L0, F_i_IsSet, F_i_intervalOf, e1, hlt, g1', g2, g3]
          repeat' (first | omega | apply And.intro)
          refine Again.of (k + 1) ⟨by omega, fun j hj => ?_, fun u hu m hm => ?_⟩ (by omega) (SubI.slots rfl (by simp (disch := omega) only [subE_cons, subE_nil, ← e]; simp (disch := omega) [wrapI]))
          · rcases Nat.lt_succ_iff_lt_or_eq.1 hj with h1 | rfl
            · exact hn j h1
            · exact ⟨g1, g2⟩
          · rcases Nat.lt_succ_iff_lt_or_eq.1 hm with h1 | rfl
            · exact hdis u hu m h1
            · intro j hj h1 h2
              exact fam_zero.1 g3 u hu ⟨h2, j, hj, h1⟩
        · have hv1 : v = false := hv ▸ dec_false fun h => g3 <| fam_zero.2 fun u hu ⟨hh, j, hj, hij⟩ => by
            have ho := h.2.2.2 u (mem_setsOf.2 ⟨hu, _, getD_mem' hlt, hh.2⟩)
            have c1 := cntIv_hitI hj hij
            have c2 := cntIv_hitI (facets := l) hlt2 hh
            have c3 := (cntIv_bnd l lows u j).1
            omega
          simp -implicitDefEqProofs [sc_i_IsDivision_L0, F_i_IsSet, F_i_intervalOf, e1, hlt, g1', g2, g3, hv1]
          try omega
      · have hv1 : v = false := hv ▸ dec_false fun h => g2 (h.2.2.1 k hlt2).2
        simp -implicitDefEqProofs [sc_i_IsDivision_L0, F_i_IsSet, e1, hlt, g1', g2, hv1]
        try omega
    · have hv1 : v = false := hv ▸ dec_false fun h => g1 (h.2.2.1 k hlt2).1
      have g1' : isSet 6 (at0 lows k) = false := by
        cases hh : isSet 6 (at0 lows k) with
        | false => rfl
        | true => exact absurd (isSet6.1 hh) g1
      simp -implicitDefEqProofs [sc_i_IsDivision_L0, F_i_IsSet, e1, hlt, g1', hv1]
      try omega
  · have hkl : k = l.length := by omega
    subst hkl
    have hv1 : ((fam fun u => ∃ j, j < l.length ∧ inIv l lows u j) == fam (faceS l)) = v := by
      rw [← hv, Bool.eq_iff_iff, beq_iff_eq, dec_iff, fam_inj]
      constructor
      · intro h
        refine ⟨hc, e1, fun j hj => hn j (by omega), fun u hu => ?_⟩
        have hu := mem_setsOf.1 hu
        obtain ⟨j, hj, hij⟩ := (h u hu.1).2 hu.2
        have c1 := cntIv_hitI (facets := l) (m := lows.length) (by omega) hij
        have c2 := cntIv_oneI (facets := l) (lows := lows) (u := u) (m := lows.length) fun m hm j hj hh => hdis u hu.1 m (by omega) j hj hh.1 hh.2
        have c3 := (cntIv_bnd l lows u j).1
        exact ⟨c2, fun _ => by omega⟩
      · intro h u hu
        constructor
        · rintro ⟨j, hj, hij⟩
          exact ⟨_, getD_mem' hj, hij.2⟩
        · intro hfc
          have ho := h.2.2.2 u (mem_setsOf.2 ⟨hu, hfc⟩)
          refine Classical.byContradiction fun hne => ?_
          rw [cntIv_zeroI fun j hj hij => hne ⟨j, by omega, hij⟩] at ho
          have := ho.2 rfl
          omega
    simp -implicitDefEqProofs [sc_i_IsDivision_L0, F_i_facesIn, hS]
    exact hv1
end Go.Proofs.Ytmemomfffehnkaa
