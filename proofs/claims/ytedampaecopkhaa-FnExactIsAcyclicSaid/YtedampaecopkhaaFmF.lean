import Derived.Test.YtedampaecopkhaaFmE
namespace Go.Proofs.Ytedampaecopkhaa
open Go Go.RowKit
set_option maxRecDepth 1000000
set_option linter.unusedSimpArgs false
set_option linter.unusedVariables false
set_option maxHeartbeats 1000000
def sc_s_IsPairing_L0 : SC := (.seq (.seq (.reg [⟨(some 10), none, (.mov (.t 6))⟩, ⟨(some 11), none, (.mov (.t 1))⟩, ⟨(some 12), none, (.len (.t 11))⟩, ⟨(some 13), none, (.bin false .lss (.t 10) (.t 12))⟩]) (.cond (.t 13) .skip (.exit 0))) (.seq (.block 1 (.seq (.reg [⟨(some 16), none, (.mov (.t 1))⟩, ⟨(some 17), none, (.mov (.t 6))⟩, ⟨(some 18), none, (.idx 2 (.t 16) (.t 17))⟩, ⟨(some 19), none, (.fad 0 (.t 18))⟩, ⟨(some 20), none, (.ld none (.int .i64 0) (.t 19))⟩, ⟨(some 7), none, (.mov (.t 20))⟩]) (.seq (.reg [⟨(some 21), none, (.mov (.t 1))⟩, ⟨(some 22), none, (.mov (.t 6))⟩, ⟨(some 23), none, (.idx 2 (.t 21) (.t 22))⟩, ⟨(some 24), none, (.fad 1 (.t 23))⟩, ⟨(some 25), none, (.ld none (.int .i64 0) (.t 24))⟩, ⟨(some 8), none, (.mov (.t 25))⟩]) (.seq (.seq (.reg [⟨(some 26), none, (.ld (some 2) .undef (.t 2))⟩, ⟨(some 27), none, (.mov (.t 7))⟩, ⟨(some 28), none, (.call 113 [(.t 26), (.t 27)])⟩, ⟨(some 29), none, (.un .not (.t 28))⟩, ⟨(some 30), none, (.mov (.t 29))⟩, ⟨(some 31), (some (30, false)), (.ld (some 2) .undef (.t 2))⟩, ⟨(some 32), (some (30, false)), (.mov (.t 8))⟩, ⟨(some 33), (some (30, false)), (.call 113 [(.t 31), (.t 32)])⟩, ⟨(some 34), (some (30, false)), (.un .not (.t 33))⟩, ⟨(some 35), none, (.pick (.t 30) (.c (.bool true)) (.t 34))⟩, ⟨(some 36), none, (.mov (.t 35))⟩, ⟨(some 37), (some (36, false)), (.mov (.t 7))⟩, ⟨(some 38), (some (36, false)), (.mov (.t 8))⟩, ⟨(some 39), (some (36, false)), (.bin false .and (.t 37) (.t 38))⟩, ⟨(some 40), (some (36, false)), (.mov (.t 7))⟩, ⟨(some 41), (some (36, false)), (.bin false .neq (.t 39) (.t 40))⟩, ⟨(some 42), none, (.pick (.t 36) (.c (.bool true)) (.t 41))⟩, ⟨(some 43), none, (.mov (.t 42))⟩, ⟨(some 44), (some (43, false)), (.mov (.t 8))⟩, ⟨(some 45), (some (43, false)), (.call 83 [(.t 44)])⟩, ⟨(some 46), (some (43, false)), (.mov (.t 7))⟩, ⟨(some 47), (some (43, false)), (.call 83 [(.t 46)])⟩, ⟨(some 48), (some (43, false)), (.bin false .sub (.t 45) (.t 47))⟩, ⟨(some 49), (some (43, false)), (.bin false .neq (.t 48) (.c (.int .i64 1)))⟩, ⟨(some 50), none, (.pick (.t 43) (.c (.bool true)) (.t 49))⟩, ⟨(some 51), none, (.mov (.t 50))⟩, ⟨(some 52), (some (51, false)), (.mov (.t 5))⟩, ⟨(some 53), (some (51, false)), (.mov (.t 7))⟩, ⟨(some 54), (some (51, false)), (.call 76 [(.t 52), (.t 53)])⟩, ⟨(some 55), none, (.pick (.t 51) (.c (.bool true)) (.t 54))⟩, ⟨(some 56), none, (.mov (.t 55))⟩, ⟨(some 57), (some (56, false)), (.mov (.t 5))⟩, ⟨(some 58), (some (56, false)), (.mov (.t 8))⟩, ⟨(some 59), (some (56, false)), (.call 76 [(.t 57), (.t 58)])⟩, ⟨(some 60), none, (.pick (.t 56) (.c (.bool true)) (.t 59))⟩]) (.cond (.t 60) (.seq (.reg [⟨(some 4), none, (.mov (.c (.bool false)))⟩]) .ret) .skip)) (.reg [⟨(some 61), none, (.mov (.t 5))⟩, ⟨(some 62), none, (.mov (.t 7))⟩, ⟨(some 63), none, (.mov (.t 8))⟩, ⟨(some 64), none, (.mks 2 1 [(.int .i64 0), (.int .i64 0)] [(0, (1, (.t 62))), (1, (1, (.t 63)))])⟩, ⟨(some 65), none, (.app 1 8 (.t 61) (.t 64))⟩, ⟨(some 5), none, (.mov (.t 65))⟩]))))) (.reg [⟨(some 14), none, (.mov (.t 6))⟩, ⟨(some 15), none, (.bin false .add (.t 14) (.c (.int .i64 1)))⟩, ⟨(some 6), none, (.mov (.t 15))⟩])))
def sc_s_IsPairing : SC := (.seq (.reg [⟨(some 2), none, (.box (.t 0))⟩, ⟨(some 4), none, (.mov (.c (.bool false)))⟩]) (.seq (.reg [⟨(some 9), none, (.mks 0 1 [] [])⟩, ⟨(some 5), none, (.mov (.t 9))⟩]) (.seq (.seq (.reg [⟨(some 6), none, (.mov (.c (.int .i64 0)))⟩]) (.block 0 (.loop sc_s_IsPairing_L0))) (.seq (.reg [⟨(some 66), none, (.ld (some 2) .undef (.t 2))⟩, ⟨(some 67), none, (.call 56 [(.t 66)])⟩, ⟨(some 4), none, (.mov (.t 67))⟩]) .ret))))
theorem code_s_IsPairing : fnCode Try.prog [] 85 = some (68, sc_s_IsPairing, [(4, none)]) := by kernel_rfl
/-- The faces of the first k pairs. -/
def usedI (list : List (Int × Int)) (k : Nat) : List Int := (list.take k).flatMap fun p => [p.1, p.2]
theorem usedI_succ {list : List (Int × Int)} {k : Nat} (h : k < list.length) : usedI list (k + 1) = usedI list k ++ [(pr0 list k).1, (pr0 list k).2] := by
  rw [usedI, take_pr h, List.flatMap_append]
  simp [usedI]
def pairGood (l : List Int) (p : Int × Int) : Prop := isS p.1 ∧ isS p.2 ∧ faceS l p.1 ∧ faceS l p.2 ∧ subS p.1 p.2 ∧ sz p.2 - sz p.1 = 1
def pairP (n : Int) (l : List Int) (list : List (Int × Int)) : Prop := cplx n l ∧ ∀ k, k < list.length → pairGood l (pr0 list k) ∧ (pr0 list k).1 ∉ usedI list k ∧ (pr0 list k).2 ∉ usedI list k
theorem used_step {l : List Int} {list : List (Int × Int)} {k : Nat} (h : k < list.length) (h1 : (usedI list k).Nodup) (h2 : allS (usedI list k)) (g : pairGood l (pr0 list k)) (a : (pr0 list k).1 ∉ usedI list k) (b : (pr0 list k).2 ∉ usedI list k) :
    (usedI list (k + 1)).Nodup ∧ allS (usedI list (k + 1)) := by
  rw [usedI_succ h]
  have hne : (pr0 list k).1 ≠ (pr0 list k).2 := fun e => by have := g.2.2.2.2.2; rw [e] at this; omega
  constructor
  · rw [List.nodup_append]
    refine ⟨h1, by simpa using hne, ?_⟩
    intro x hx y hy e
    subst e
    simp only [List.mem_cons, List.not_mem_nil, or_false] at hy
    rcases hy with rfl | rfl
    · exact a hx
    · exact b hx
  · intro x hx
    rcases List.mem_append.1 hx with h | h
    · exact h2 x h
    · simp only [List.mem_cons, List.not_mem_nil, or_false] at h
      rcases h with rfl | rfl
      · exact g.1
      · exact g.2.1
noncomputable def F_s_IsPairing : List V → Option V := F2 dC dP fun c list => some (.bool (dec (pairP c.1 c.2 list)))
theorem fn_s_IsPairing : FnOk Try.prog 85 F_s_IsPairing := by
  have env := ((((envNil_ok (P := Try.prog)).add fn_s_HasFace).add fn_s_IsComplex).add fn_s_l2Has).add fn_s_l2Size
  refine fn_ok code_s_IsPairing mixed env ?_
  intro args r h hb
  obtain ⟨_, _, ⟨n, l⟩, list, rfl, h1, h2, h4⟩ := F2_inv h
  cases dC_inv h1
  cases dP_inv h2
  cases h4
  have hlen := bnd_prs (hb (.list 2 (prs list)) (by simp))
  refine ⟨by simp, fun w0 U0 L0 N0 => ?_⟩
  generalize hv : dec (pairP n l list) = v
  simp -implicitDefEqProofs [sc_s_IsPairing]
  refine loopI env mixed (fun k : Nat => [(1, .list 2 (prs list)), (2, .pt 0 0), (5, .sl 1 1 0 (usedI list k).length), (6, .int .i64 (k : Int))]) (fun k => ([(1, ints (usedI list k)), (0, [.int .i64 n, .list 1 (ints l)])], 2))
    (fun k => k ≤ list.length ∧ ((usedI list k).Nodup ∧ allS (usedI list k)) ∧ ∀ m, m < k → pairGood l (pr0 list m) ∧ (pr0 list m).1 ∉ usedI list m ∧ (pr0 list m).2 ∉ usedI list m) (fun k => list.length - k) 0
    ⟨by omega, ⟨by simp [usedI], by simp [usedI, allS]⟩, by omega⟩ (SubI.slots (by simp [usedI]) (by simp [usedI])) ?_
  rintro k ⟨hk, ⟨hu1, hu2⟩, hn⟩
  have hu64 := nodup_len hu1 hu2
  by_cases hlt : k < list.length
  · have hd := prs_at hlt
    have bad : ¬ (cplx n l ∧ pairGood l (pr0 list k) ∧ (pr0 list k).1 ∉ usedI list k ∧ (pr0 list k).2 ∉ usedI list k) → v = false := fun h => hv ▸ dec_false fun hp => h ⟨hp.1, hp.2 k hlt⟩
    have next : pairGood l (pr0 list k) → (pr0 list k).1 ∉ usedI list k → (pr0 list k).2 ∉ usedI list k → k + 1 ≤ list.length ∧ ((usedI list (k + 1)).Nodup ∧ allS (usedI list (k + 1))) ∧ ∀ m, m < k + 1 → pairGood l (pr0 list m) ∧ (pr0 list m).1 ∉ usedI list m ∧ (pr0 list m).2 ∉ usedI list m := fun g a b => by
      refine ⟨by omega, used_step hlt hu1 hu2 g a b, fun m hm => ?_⟩
      rcases Nat.lt_succ_iff_lt_or_eq.1 hm with h1 | rfl
      · exact hn m h1
      · exact ⟨g, a, b⟩
    have hus := usedI_succ hlt
    generalize hp : pr0 list k = p at *
    obtain ⟨a, b⟩ := p
    simp only at *
    cases e0 : hasFaceB n l a with
    | false =>
      have hv1 := bad fun h => by
        have : hasFaceB n l a = true := dec_true ⟨h.1, h.2.1.1, h.2.1.2.2.1⟩
        simp [this] at e0
      simp -implicitDefEqProofs [sc_s_IsPairing_L0, F_s_HasFace, hlt, hd, e0, hv1]
      try omega
    | true =>
    cases e1 : hasFaceB n l b with
    | false =>
      have hv1 := bad fun h => by
        have : hasFaceB n l b = true := dec_true ⟨h.1, h.2.1.2.1, h.2.1.2.2.2.1⟩
        simp [this] at e1
      simp -implicitDefEqProofs [sc_s_IsPairing_L0, F_s_HasFace, hlt, hd, e0, e1, hv1]
      try omega
    | true =>
    obtain ⟨hc, ha, hfa⟩ := dec_iff.1 e0
    obtain ⟨_, hbS, hfb⟩ := dec_iff.1 e1
    by_cases h3 : band a b = a
    rotate_left
    · have hv1 := bad fun h => h3 ((subS_iff ha hbS).1 h.2.1.2.2.2.2.1)
      simp -implicitDefEqProofs [sc_s_IsPairing_L0, F_s_HasFace, hlt, hd, e0, e1, h3, hv1]
      try omega
    have r1 : a < 9223372036854775808 := by have := ha.2; omega
    have r2 : b < 9223372036854775808 := by have := hbS.2; omega
    have hw : IntKind.i64.wrap (sz b - sz a) = sz b - sz a := wrapI _ (by have := sz_nn b; have := sz_le a; omega) (by have := sz_le b; have := sz_nn a; omega)
    by_cases h4 : sz b - sz a = 1
    rotate_left
    · have hv1 := bad fun h => h4 h.2.1.2.2.2.2.2
      simp -implicitDefEqProofs [sc_s_IsPairing_L0, F_s_HasFace, F_s_l2Size, hlt, hd, e0, e1, h3, r1, r2, hw, h4, hv1]
      try omega
    have hw1 : IntKind.i64.wrap 1 = 1 := wrapI 1 (by omega) (by omega)
    by_cases u1 : a ∈ usedI list k
    · have hv1 := bad fun h => h.2.2.1 u1
      simp -implicitDefEqProofs [sc_s_IsPairing_L0, F_s_HasFace, F_s_l2Size, F_s_l2Has, hlt, hd, e0, e1, h3, r1, r2, hw1, h4, u1, hv1]
      try omega
    by_cases u2 : b ∈ usedI list k
    · have hv1 := bad fun h => h.2.2.2 u2
      simp -implicitDefEqProofs [sc_s_IsPairing_L0, F_s_HasFace, F_s_l2Size, F_s_l2Has, hlt, hd, e0, e1, h3, r1, r2, hw1, h4, u1, u2, hv1]
      try omega
    have hnx := next ⟨ha, hbS, hfa, hfb, (subS_iff ha hbS).2 h3, h4⟩ u1 u2
    simp -implicitDefEqProofs [sc_s_IsPairing_L0, F_s_HasFace, F_s_l2Size, F_s_l2Has, hlt, hd, e0, e1, h3, r1, r2, hw1, h4, u1, u2]
    repeat' (first | omega | apply And.intro)
    refine Again.of (k + 1) hnx (by omega) (SubI.ren (fun m => if m = 0 then some 0 else if m = 1 then some 3 else none) ?_ ?_ ?_ (by simp) (by simp))
    · simp (disch := omega) [subT, renV, ren1, wrapI, hus]
    · simp [subH, hus, renL, ren1]
      rw [← ints_app]
      rfl
    · intro m hm
      simp only at hm
      rw [if_neg (by omega), if_neg (by omega)]
  · have hkl : k = list.length := by omega
    have hv1 : cplxB n l = v := by
      rw [← hv, Bool.eq_iff_iff, cplxB_iff, dec_iff]
      exact ⟨fun h => ⟨h, fun m hm => hn m (by omega)⟩, fun h => h.1⟩
    subst hkl
    simp -implicitDefEqProofs [sc_s_IsPairing_L0, F_s_IsComplex, hv1]
end Go.Proofs.Ytedampaecopkhaa
