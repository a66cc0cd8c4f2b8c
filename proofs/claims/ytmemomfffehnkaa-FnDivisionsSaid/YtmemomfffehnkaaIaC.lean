import Derived.Test.YtmemomfffehnkaaIaB
namespace Go.Proofs.Ytmemomfffehnkaa
open Go Go.RowKit
set_option maxRecDepth 1000000
set_option linter.unusedSimpArgs false
set_option linter.unusedVariables false
set_option maxHeartbeats 1000000
def sc_s_FindDivision : SC := (.seq (.reg [⟨(some 1), none, (.box (.t 0))⟩, ⟨(some 2), none, (.mov (.c .nil))⟩, ⟨(some 3), none, (.mov (.c (.bool false)))⟩]) (.seq (.seq (.reg [⟨(some 6), none, (.ld (some 2) .undef (.t 1))⟩, ⟨(some 7), none, (.call 24 [(.t 6)])⟩, ⟨(some 8), none, (.un .not (.t 7))⟩, ⟨(some 9), none, (.mov (.t 8))⟩, ⟨(some 10), (some (9, false)), (.fad 1 (.t 1))⟩, ⟨(some 11), (some (9, false)), (.ld none .nil (.t 10))⟩, ⟨(some 12), (some (9, false)), (.len (.t 11))⟩, ⟨(some 13), (some (9, false)), (.bin false .gtr (.t 12) (.c (.int .i64 6)))⟩, ⟨(some 14), none, (.pick (.t 9) (.c (.bool true)) (.t 13))⟩]) (.cond (.t 14) (.seq (.reg [⟨(some 15), none, (.mks 0 1 [] [])⟩, ⟨(some 2), none, (.mov (.t 15))⟩, ⟨(some 3), none, (.mov (.c (.bool false)))⟩]) .ret) .skip)) (.seq (.treg (.fst ⟨(some 19), none, (.fad 1 (.t 1))⟩ true (.alt ⟨(some 17), none, (.ld (some 2) .undef (.t 1))⟩ false (.fst ⟨(some 18), none, (.call 43 [(.t 17)])⟩ true (.alt ⟨(some 20), none, (.ld none .nil (.t 19))⟩ false (.alt ⟨(some 21), none, (.mks 0 1 [] [])⟩ true (.alt ⟨(some 22), none, (.call 203 [(.t 18), (.t 20), (.t 21)])⟩ true (.fst ⟨(some 16), none, (.mov (.t 22))⟩ false (.fst ⟨(some 23), none, (.ext 0 (.t 16))⟩ false (.fst ⟨(some 24), none, (.ext 1 (.t 16))⟩ false (.fst ⟨(some 4), none, (.mov (.t 23))⟩ false (.fst ⟨(some 5), none, (.mov (.t 24))⟩ false .done))))) .stop) .stop) (.alt ⟨(some 21), none, (.mks 0 1 [] [])⟩ true (.fst ⟨(some 20), none, (.ld none .nil (.t 19))⟩ false (.alt ⟨(some 22), none, (.call 203 [(.t 18), (.t 20), (.t 21)])⟩ true (.fst ⟨(some 16), none, (.mov (.t 22))⟩ false (.fst ⟨(some 23), none, (.ext 0 (.t 16))⟩ false (.fst ⟨(some 24), none, (.ext 1 (.t 16))⟩ false (.fst ⟨(some 4), none, (.mov (.t 23))⟩ false (.fst ⟨(some 5), none, (.mov (.t 24))⟩ false .done))))) .stop)) .stop))) (.alt ⟨(some 20), none, (.ld none .nil (.t 19))⟩ false (.alt ⟨(some 17), none, (.ld (some 2) .undef (.t 1))⟩ false (.fst ⟨(some 18), none, (.call 43 [(.t 17)])⟩ true (.alt ⟨(some 21), none, (.mks 0 1 [] [])⟩ true (.alt ⟨(some 22), none, (.call 203 [(.t 18), (.t 20), (.t 21)])⟩ true (.fst ⟨(some 16), none, (.mov (.t 22))⟩ false (.fst ⟨(some 23), none, (.ext 0 (.t 16))⟩ false (.fst ⟨(some 24), none, (.ext 1 (.t 16))⟩ false (.fst ⟨(some 4), none, (.mov (.t 23))⟩ false (.fst ⟨(some 5), none, (.mov (.t 24))⟩ false .done))))) .stop) .stop)) (.alt ⟨(some 21), none, (.mks 0 1 [] [])⟩ true (.fst ⟨(some 17), none, (.ld (some 2) .undef (.t 1))⟩ false (.fst ⟨(some 18), none, (.call 43 [(.t 17)])⟩ false (.alt ⟨(some 22), none, (.call 203 [(.t 18), (.t 20), (.t 21)])⟩ true (.fst ⟨(some 16), none, (.mov (.t 22))⟩ false (.fst ⟨(some 23), none, (.ext 0 (.t 16))⟩ false (.fst ⟨(some 24), none, (.ext 1 (.t 16))⟩ false (.fst ⟨(some 4), none, (.mov (.t 23))⟩ false (.fst ⟨(some 5), none, (.mov (.t 24))⟩ false .done))))) .stop))) .stop)) (.alt ⟨(some 21), none, (.mks 0 1 [] [])⟩ true (.fst ⟨(some 17), none, (.ld (some 2) .undef (.t 1))⟩ false (.fst ⟨(some 18), none, (.call 43 [(.t 17)])⟩ false (.fst ⟨(some 20), none, (.ld none .nil (.t 19))⟩ false (.alt ⟨(some 22), none, (.call 203 [(.t 18), (.t 20), (.t 21)])⟩ true (.fst ⟨(some 16), none, (.mov (.t 22))⟩ false (.fst ⟨(some 23), none, (.ext 0 (.t 16))⟩ false (.fst ⟨(some 24), none, (.ext 1 (.t 16))⟩ false (.fst ⟨(some 4), none, (.mov (.t 23))⟩ false (.fst ⟨(some 5), none, (.mov (.t 24))⟩ false .done))))) .stop)))) .stop))))) (.seq (.seq (.reg [⟨(some 25), none, (.mov (.t 5))⟩, ⟨(some 26), none, (.un .not (.t 25))⟩]) (.cond (.t 26) (.seq (.reg [⟨(some 27), none, (.mks 0 1 [] [])⟩, ⟨(some 2), none, (.mov (.t 27))⟩, ⟨(some 3), none, (.mov (.c (.bool false)))⟩]) .ret) .skip)) (.seq (.reg [⟨(some 28), none, (.mov (.t 4))⟩, ⟨(some 2), none, (.mov (.t 28))⟩, ⟨(some 3), none, (.mov (.c (.bool true)))⟩]) .ret)))))
theorem code_s_FindDivision : fnCode Try.prog [203, 777777] 112 = some (29, sc_s_FindDivision, [(2, none), (3, none)]) := by kernel_rfl
theorem fn_s_FindDivision : FnOk Try.prog 112 F_s_FindDivision := by
  have env := ((envNil_ok (P := Try.prog)).add fn_s_IsComplex).add fn_s_FacesOf |>.addl (ln_s_l21Find 7)
  refine fn_ok code_s_FindDivision mixed env ?_
  intro args r h hb
  obtain ⟨_, ⟨n, l⟩, rfl, h1, h4⟩ := F1_inv h
  cases dC_inv h1
  cases h4
  clear h
  refine ⟨by simp, fun w0 U0 L0 N0 => ?_⟩
  clear hb
  simp only
  cases e0 : cplxB n l with
  | false =>
    have hP : ¬ fdvP n l := fun h => by simp [cplxB_iff.2 h.1] at e0
    rw [fdvL_no hP, dec_false hP]
    simp -implicitDefEqProofs [sc_s_FindDivision, F_s_IsComplex, e0]
  | true =>
  have hc := cplxB_iff.1 e0
  have hS := cplx_isS hc
  by_cases h6 : 6 < (l.length : Int)
  · have hP : ¬ fdvP n l := fun h => by have := h.2.1; omega
    rw [fdvL_no hP, dec_false hP]
    simp -implicitDefEqProofs [sc_s_FindDivision, F_s_IsComplex, e0, h6]
  have hl6 : l.length ≤ 6 := by omega
  have hFF : F_s_FacesOf [.agg [.int .i64 n, .list 1 (ints l)]] = some (.own 1 (ints (setsOf (faceS l)))) := by
    rw [← facesL_of hc]
    simp [F_s_FacesOf]
  have hh : hdD l [] := ⟨Nat.zero_le _, fun k hk => absurd hk (Nat.not_lt_zero _)⟩
  have hG := G_s_l21Find_at (n := 7) (m := 0) hS hl6 rfl hh (by omega)
  have hPi : fdvP n l ↔ exD (dvD l) [] := ⟨fun h => h.2.2, fun h => ⟨hc, hl6, h⟩⟩
  have hnlx : ∀ a b c d, nolist 5 (.sl a b c d) = true := fun _ _ _ _ => rfl
  have hrn : ∀ (x : List Int) a, List.map (ren0 a 4) (ints x) = ints x := fun x a => by simp [ints, ren0]
  have hG' : G_s_l21Find 7 [.list 1 (ints (setsOf (faceS l))), .list 1 (ints l), .sl 0 1 0 0] [] = some (fdRes l [] 0, []) := hG
  clear hG
  by_cases h0 : 0 = l.length
  · have hl : l = [] := List.length_eq_zero_iff.1 h0.symm
    rw [fdRes_full h0] at hG'
    have hfe := ex_full (l := l) (head := []) h0
    by_cases he : dvD l []
    · have hP := hPi.2 (hfe.2 he)
      rw [dec_true he] at hG'
      rw [fdvL_yes hP, dec_true hP, fdO_full (l := l) (head := []) h0 (hfe.2 he)]
      subst hl
      generalize setsOf (faceS []) = FL at *
      simp only [ints_nil] at hFF hG'
      simp -implicitDefEqProofs [sc_s_FindDivision, F_s_IsComplex, freeOk, ren0, e0, hFF, hG', hnlx, hrn]
    · have hP : ¬ fdvP n l := fun h => he (hfe.1 (hPi.1 h))
      rw [dec_false he] at hG'
      rw [fdvL_no hP, dec_false hP]
      subst hl
      generalize setsOf (faceS []) = FL at *
      simp only [ints_nil] at hFF hG'
      simp -implicitDefEqProofs [sc_s_FindDivision, F_s_IsComplex, freeOk, ren0, e0, hFF, hG', hnlx, hrn]
  · rw [fdRes_part h0] at hG'
    by_cases he : exD (dvD l) []
    · have hP := hPi.2 he
      rw [dec_true he] at hG'
      rw [fdvL_yes hP, dec_true hP]
      generalize setsOf (faceS l) = FL at *
      generalize fdO l [] = O at *
      simp -implicitDefEqProofs [sc_s_FindDivision, F_s_IsComplex, freeOk, ren0, e0, h6, hFF, hG', hnlx, hrn]
    · have hP : ¬ fdvP n l := fun h => he (hPi.1 h)
      rw [dec_false he] at hG'
      rw [fdvL_no hP, dec_false hP]
      generalize setsOf (faceS l) = FL at *
      generalize fdO l [] = O at *
      simp -implicitDefEqProofs [sc_s_FindDivision, F_s_IsComplex, freeOk, ren0, e0, h6, hFF, hG', hnlx, hrn]
end Go.Proofs.Ytmemomfffehnkaa
