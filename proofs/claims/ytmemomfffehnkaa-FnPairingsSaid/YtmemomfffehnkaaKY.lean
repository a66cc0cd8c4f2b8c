import Derived.Test.YtmemomfffehnkaaKI
import Derived.Test.YtmemomfffehnkaaKJ
import Derived.Test.YtmemomfffehnkaaKG
import Derived.Test.YtmemomfffehnkaaIaA
import Derived.Test.YtmemomfffehnkaaKQ
namespace Go.Proofs.Ytmemomfffehnkaa
open Go Go.RowKit
set_option maxRecDepth 1000000
set_option linter.unusedSimpArgs false
set_option linter.unusedVariables false
set_option maxHeartbeats 1000000
def sc_i_pairedIn_L0 : SC := (.seq (.reg [⟨(some 19), none, (.bin false .lss (.t 18) (.t 17))⟩]) (.seq (.cond (.t 19) .skip (.exit 0)) (.seq (.block 1 (.seq (.reg [⟨(some 20), none, (.idx 2 (.t 16) (.t 18))⟩, ⟨(some 21), none, (.ld (some 2) .undef (.t 20))⟩, ⟨(some 9), none, (.new [(.int .i64 0), (.int .i64 0)])⟩, ⟨none, none, (.st 2 (.t 9) (.t 21))⟩]) (.seq (.seq (.reg [⟨(some 22), none, (.fad 0 (.t 2))⟩, ⟨(some 23), none, (.ld none (.int .i64 0) (.t 22))⟩, ⟨(some 24), none, (.fad 0 (.t 9))⟩, ⟨(some 25), none, (.ld none (.int .i64 0) (.t 24))⟩, ⟨(some 26), none, (.call 180 [(.t 23), (.t 25)])⟩, ⟨(some 27), none, (.un .not (.t 26))⟩, ⟨(some 28), none, (.mov (.t 27))⟩, ⟨(some 29), (some (28, false)), (.fad 0 (.t 2))⟩, ⟨(some 30), (some (28, false)), (.ld none (.int .i64 0) (.t 29))⟩, ⟨(some 31), (some (28, false)), (.fad 1 (.t 9))⟩, ⟨(some 32), (some (28, false)), (.ld none (.int .i64 0) (.t 31))⟩, ⟨(some 33), (some (28, false)), (.call 180 [(.t 30), (.t 32)])⟩, ⟨(some 34), (some (28, false)), (.un .not (.t 33))⟩, ⟨(some 35), none, (.pick (.t 28) (.c (.bool true)) (.t 34))⟩]) (.cond (.t 35) (.seq (.reg [⟨(some 4), none, (.mov (.c (.int .u64 0)))⟩, ⟨(some 5), none, (.mov (.c (.bool false)))⟩]) .ret) .skip)) (.seq (.seq (.dreg [⟨⟨(some 36), none, (.fad 0 (.t 9))⟩, false, false⟩, ⟨⟨(some 37), none, (.ld none (.int .i64 0) (.t 36))⟩, false, false⟩, ⟨⟨(some 38), none, (.fad 1 (.t 9))⟩, false, false⟩, ⟨⟨(some 39), none, (.ld none (.int .i64 0) (.t 38))⟩, false, false⟩, ⟨⟨(some 40), none, (.bin false .andNot (.t 37) (.t 39))⟩, false, false⟩, ⟨⟨(some 41), none, (.bin false .neq (.t 40) (.c (.int .i64 0)))⟩, false, false⟩, ⟨⟨(some 42), none, (.mov (.t 41))⟩, false, false⟩, ⟨⟨(some 43), (some (42, false)), (.fad 1 (.t 9))⟩, false, false⟩, ⟨⟨(some 44), (some (42, false)), (.ld none (.int .i64 0) (.t 43))⟩, false, false⟩, ⟨⟨(some 45), (some (42, false)), (.call 181 [(.t 44)])⟩, false, false⟩, ⟨⟨(some 46), (some (42, false)), (.fad 0 (.t 9))⟩, false, false⟩, ⟨⟨(some 47), (some (42, false)), (.ld none (.int .i64 0) (.t 46))⟩, false, false⟩, ⟨⟨(some 48), (some (42, false)), (.call 181 [(.t 47)])⟩, false, false⟩, ⟨⟨(some 49), (some (42, false)), (.bin false .add (.t 48) (.c (.int .i64 1)))⟩, false, false⟩, ⟨⟨(some 50), (some (42, false)), (.bin false .neq (.t 45) (.t 49))⟩, false, false⟩, ⟨⟨(some 51), none, (.pick (.t 42) (.c (.bool true)) (.t 50))⟩, false, false⟩]) (.cond (.t 51) (.seq (.reg [⟨(some 4), none, (.mov (.c (.int .u64 0)))⟩, ⟨(some 5), none, (.mov (.c (.bool false)))⟩]) .ret) .skip)) (.seq (.reg [⟨(some 52), none, (.fad 0 (.t 9))⟩, ⟨(some 53), none, (.ld none (.int .i64 0) (.t 52))⟩, ⟨(some 54), none, (.conv .u64 (.t 53))⟩, ⟨(some 55), none, (.bin false .shl (.c (.int .u64 1)) (.t 54))⟩, ⟨(some 56), none, (.fad 1 (.t 9))⟩, ⟨(some 57), none, (.ld none (.int .i64 0) (.t 56))⟩, ⟨(some 58), none, (.conv .u64 (.t 57))⟩, ⟨(some 59), none, (.bin false .shl (.c (.int .u64 1)) (.t 58))⟩, ⟨(some 60), none, (.bin false .or (.t 55) (.t 59))⟩, ⟨(some 10), none, (.mov (.t 60))⟩]) (.seq (.seq (.reg [⟨(some 61), none, (.mov (.t 10))⟩, ⟨(some 62), none, (.mov (.t 6))⟩, ⟨(some 63), none, (.bin false .andNot (.t 61) (.t 62))⟩, ⟨(some 64), none, (.bin false .neq (.t 63) (.c (.int .u64 0)))⟩, ⟨(some 65), none, (.mov (.t 64))⟩, ⟨(some 66), (some (65, false)), (.mov (.t 10))⟩, ⟨(some 67), (some (65, false)), (.mov (.t 7))⟩, ⟨(some 68), (some (65, false)), (.bin false .and (.t 66) (.t 67))⟩, ⟨(some 69), (some (65, false)), (.bin false .neq (.t 68) (.c (.int .u64 0)))⟩, ⟨(some 70), none, (.pick (.t 65) (.c (.bool true)) (.t 69))⟩]) (.cond (.t 70) (.seq (.reg [⟨(some 4), none, (.mov (.c (.int .u64 0)))⟩, ⟨(some 5), none, (.mov (.c (.bool false)))⟩]) .ret) .skip)) (.reg [⟨(some 71), none, (.mov (.t 7))⟩, ⟨(some 72), none, (.mov (.t 10))⟩, ⟨(some 73), none, (.bin false .or (.t 71) (.t 72))⟩, ⟨(some 7), none, (.mov (.t 73))⟩]))))))) (.reg [⟨(some 74), none, (.bin false .add (.t 18) (.c (.int .i64 1)))⟩, ⟨(some 18), none, (.mov (.t 74))⟩]))))
def sc_i_pairedIn : SC := (.seq (.reg [⟨(some 2), none, (.box (.t 0))⟩, ⟨(some 4), none, (.mov (.c (.int .u64 0)))⟩, ⟨(some 5), none, (.mov (.c (.bool false)))⟩]) (.seq (.seq (.reg [⟨(some 11), none, (.ld (some 2) .undef (.t 2))⟩, ⟨(some 12), none, (.call 130 [(.t 11)])⟩, ⟨(some 13), none, (.un .not (.t 12))⟩]) (.cond (.t 13) (.seq (.reg [⟨(some 4), none, (.mov (.c (.int .u64 0)))⟩, ⟨(some 5), none, (.mov (.c (.bool false)))⟩]) .ret) .skip)) (.seq (.reg [⟨(some 14), none, (.ld (some 2) .undef (.t 2))⟩, ⟨(some 15), none, (.call 151 [(.t 14)])⟩, ⟨(some 6), none, (.mov (.t 15))⟩]) (.seq (.reg [⟨(some 7), none, (.mov (.c (.int .u64 0)))⟩]) (.seq (.seq (.reg [⟨(some 16), none, (.mov (.t 1))⟩, ⟨(some 17), none, (.len (.t 16))⟩, ⟨(some 18), none, (.mov (.c (.int .i64 0)))⟩]) (.block 0 (.loop sc_i_pairedIn_L0))) (.seq (.reg [⟨(some 75), none, (.mov (.t 7))⟩, ⟨(some 4), none, (.mov (.t 75))⟩, ⟨(some 5), none, (.mov (.c (.bool true)))⟩]) .ret))))))
theorem code_i_pairedIn : fnCode Try.prog [] 188 = some (76, sc_i_pairedIn, [(4, none), (5, none)]) := by kernel_rfl
theorem isSet_face {n : Int} {l : List Int} (hc : cplx n l) {s : Int} (hs : isS s) (h : faceS l s) : isSet n s = true := by
  obtain ⟨f, hf, hsf⟩ := h
  obtain ⟨j, hj, rfl⟩ := getD_mem_iff.1 hf
  have h1 := (hc.2.2 j hj).1
  have h2 := subS_le hs (cplx_isS hc _ hf) hsf
  simp only [isSet, decide_eq_true_eq] at h1 ⊢
  exact ⟨h1.1, h1.2.1, hs.1, by omega⟩
open Classical in
noncomputable def usedF (n : Int) (l : List Int) (list : List (Int × Int)) : Int := if pairP n l list then fam fun x => x ∈ usedI list list.length else 0
noncomputable def F_i_pairedIn : List V → Option V := F2 dC dP fun c list => some (.tup [.int .u64 (usedF c.1 c.2 list), .bool (dec (pairP c.1 c.2 list))])
theorem fn_i_pairedIn : FnOk Try.prog 188 F_i_pairedIn := by
  have env := ((((envNil_ok (P := Try.prog)).add fn_i_IsComplex).add fn_i_IsSet).add fn_i_SizeOf).add fn_i_facesIn
  refine fn_ok code_i_pairedIn mixed env ?_
  intro args r h hb
  obtain ⟨_, _, ⟨n, l⟩, list, rfl, h1, h2, h4⟩ := F2_inv h
  cases dC_inv h1
  cases dP_inv h2
  cases h4
  have hlen := bnd_prs (hb (.list 2 (prs list)) (by simp))
  refine ⟨by simp, fun w0 U0 L0 N0 => ?_⟩
  generalize hv : dec (pairP n l list) = v
  generalize hu : usedF n l list = uf
  have no : ¬ pairP n l list → v = false ∧ uf = 0 := fun h => ⟨hv ▸ dec_false h, by rw [← hu, usedF, if_neg h]⟩
  cases e0 : cplxB n l with
  | false =>
    obtain ⟨hv1, hu1⟩ := no fun h => by simp [cplxB_iff.2 h.1] at e0
    simp -implicitDefEqProofs [sc_i_pairedIn, F_s_IsComplex, e0, hv1, hu1]
  | true =>
  have hc := cplxB_iff.1 e0
  have hS := cplx_isS hc
  have z0 : (0 : Int) = fam fun x => x ∈ usedI list 0 := (fam_zero.2 fun u _ h => by simp [usedI] at h).symm
  simp -implicitDefEqProofs [sc_i_pairedIn, F_s_IsComplex, F_i_facesIn, e0, hS]
  refine loopI env mixed (fun k : Nat => [(2, .pt 0 0), (6, .int .u64 (fam (faceS l))), (7, .int .u64 (fam fun x => x ∈ usedI list k)), (16, .list 2 (prs list)), (17, .int .i64 (list.length : Int)), (18, .int .i64 (k : Int))]) (fun k => ([(0, [.int .i64 n, .list 1 (ints l)])], 1))
    (fun k => k ≤ list.length ∧ ∀ m, m < k → pairGood l (pr0 list m) ∧ (pr0 list m).1 ∉ usedI list m ∧ (pr0 list m).2 ∉ usedI list m) (fun k => list.length - k) 0
    ⟨by omega, by omega⟩ (SubI.slots rfl (by simp only [subE_cons, subE_nil, ← z0]; simp)) ?_
  rintro k ⟨hk, hn⟩
  by_cases hlt : k < list.length
  · have hd := prs_at hlt
    have bad : ¬ (pairGood l (pr0 list k) ∧ (pr0 list k).1 ∉ usedI list k ∧ (pr0 list k).2 ∉ usedI list k) → v = false ∧ uf = 0 := fun h => no fun hp => h (hp.2 k hlt)
    have next : pairGood l (pr0 list k) → (pr0 list k).1 ∉ usedI list k → (pr0 list k).2 ∉ usedI list k → k + 1 ≤ list.length ∧ ∀ m, m < k + 1 → pairGood l (pr0 list m) ∧ (pr0 list m).1 ∉ usedI list m ∧ (pr0 list m).2 ∉ usedI list m := fun g a b => by
      refine ⟨by omega, fun m hm => ?_⟩
      rcases Nat.lt_succ_iff_lt_or_eq.1 hm with h1 | rfl
      · exact hn m h1
      · exact ⟨g, a, b⟩
    have hus := usedI_succ hlt
    generalize hp : pr0 list k = p at *
    obtain ⟨a, b⟩ := p
    simp only at *
    cases e1 : isSet n a with
    | false =>
      obtain ⟨hv1, hu1⟩ := bad fun h => by simp [isSet_face hc h.1.1 h.1.2.2.1] at e1
      simp -implicitDefEqProofs [sc_i_pairedIn_L0, F_i_IsSet, hlt, hd, e1, hv1, hu1]
      try omega
    | true =>
    cases e2 : isSet n b with
    | false =>
      obtain ⟨hv1, hu1⟩ := bad fun h => by simp [isSet_face hc h.1.2.1 h.1.2.2.2.1] at e2
      simp -implicitDefEqProofs [sc_i_pairedIn_L0, F_i_IsSet, hlt, hd, e1, e2, hv1, hu1]
      try omega
    | true =>
    have ha : isS a := isSet_pos e1
    have hbS : isS b := isSet_pos e2
    by_cases h3 : bnot a b = 0
    rotate_left
    · obtain ⟨hv1, hu1⟩ := bad fun h => h3 h.1.2.2.2.2.1
      simp -implicitDefEqProofs [sc_i_pairedIn_L0, F_i_IsSet, hlt, hd, e1, e2, h3, hv1, hu1]
      try omega
    have r1 := sizeOf1_set ha.1 ha.2
    have r2 := sizeOf1_set hbS.1 hbS.2
    have hw : IntKind.i64.wrap (sz a + 1) = sz a + 1 := wrapI _ (by have := sz_nn a; omega) (by have := sz_le a; omega)
    by_cases h4 : sz b = sz a + 1
    rotate_left
    · obtain ⟨hv1, hu1⟩ := bad fun h => h4 (by have : sz b - sz a = 1 := h.1.2.2.2.2.2; omega)
      simp -implicitDefEqProofs [sc_i_pairedIn_L0, F_i_IsSet, F_i_SizeOf, hlt, hd, e1, e2, h3, r1, r2, hw, h4, hv1, hu1]
      try omega
    have u1 := wrapS ha
    have u2 := wrapS hbS
    have o1 := fam_one ha
    have o2 := fam_one hbS
    have p1 := ha.1
    have p2 := hbS.1
    by_cases h5 : fam (fun u => (u = a ∨ u = b) ∧ ¬ faceS l u) = 0
    rotate_left
    · obtain ⟨hv1, hu1⟩ := bad fun h => h5 (fam_zero.2 fun u hu hh => by
        rcases hh.1 with rfl | rfl
        · exact hh.2 h.1.2.2.1
        · exact hh.2 h.1.2.2.2.1)
      simp -implicitDefEqProofs [sc_i_pairedIn_L0, F_i_IsSet, F_i_SizeOf, hlt, hd, e1, e2, h3, r1, r2, hw, h4, u1, u2, o1, o2, p1, p2, h5, hv1, hu1]
      try omega
    by_cases h6 : fam (fun u => (u = a ∨ u = b) ∧ u ∈ usedI list k) = 0
    rotate_left
    · obtain ⟨hv1, hu1⟩ := bad fun h => h6 (fam_zero.2 fun u hu hh => by
        rcases hh.1 with rfl | rfl
        · exact h.2.1 hh.2
        · exact h.2.2 hh.2)
      simp -implicitDefEqProofs [sc_i_pairedIn_L0, F_i_IsSet, F_i_SizeOf, hlt, hd, e1, e2, h3, r1, r2, hw, h4, u1, u2, o1, o2, p1, p2, h5, h6, hv1, hu1]
      try omega
    have f1 : faceS l a := Classical.byContradiction fun h => fam_zero.1 h5 a ha ⟨.inl rfl, h⟩
    have f2 : faceS l b := Classical.byContradiction fun h => fam_zero.1 h5 b hbS ⟨.inr rfl, h⟩
    have n1 : a ∉ usedI list k := fun h => fam_zero.1 h6 a ha ⟨.inl rfl, h⟩
    have n2 : b ∉ usedI list k := fun h => fam_zero.1 h6 b hbS ⟨.inr rfl, h⟩
    have hnx := next ⟨ha, hbS, f1, f2, h3, by show sz b - sz a = 1; omega⟩ n1 n2
    have e : (fam fun u => u ∈ usedI list k ∨ u = a ∨ u = b) = fam fun u => u ∈ usedI list (k + 1) := fam_congr fun u _ => by rw [hus]; simp
    simp -implicitDefEqProofs [sc_i_pairedIn_L0, F_i_IsSet, F_i_SizeOf, hlt, hd, e1, e2, h3, r1, r2, hw, h4, u1, u2, o1, o2, p1, p2, h5, h6, e]
    repeat' (first | omega | apply And.intro)
    refine Again.of (k + 1) hnx (by omega) (SubI.ren (fun m => if m = 0 then some 0 else none) ?_ ?_ ?_ (by simp) (by simp))
    · simp (disch := omega) [subT, renV, ren1, wrapI]
    · simp [subH, renL, ren1]
    · intro m hm
      simp only at hm
      rw [if_neg (by omega)]
  · have hkl : k = list.length := by omega
    have hP : pairP n l list := ⟨hc, fun m hm => hn m (by omega)⟩
    have hv1 : v = true := hv ▸ dec_true hP
    have hu1 : (fam fun x => x ∈ usedI list list.length) = uf := by rw [← hu, usedF, if_pos hP]
    subst hkl
    simp -implicitDefEqProofs [sc_i_pairedIn_L0, hv1, hu1]
end Go.Proofs.Ytmemomfffehnkaa
namespace Go.Proofs.Ytmemomfffehnkaa
open Go Go.RowKit
set_option maxRecDepth 1000000
set_option linter.unusedSimpArgs false
set_option linter.unusedVariables false
set_option maxHeartbeats 1000000
def sc_s_UnpairedFaces_L2 : SC := (.seq (.seq (.reg [⟨(some 38), none, (.mov (.t 9))⟩, ⟨(some 39), none, (.mov (.t 8))⟩, ⟨(some 40), none, (.len (.t 39))⟩, ⟨(some 41), none, (.bin false .lss (.t 38) (.t 40))⟩]) (.cond (.t 41) .skip (.exit 2))) (.seq (.block 3 (.seq (.reg [⟨(some 44), none, (.mov (.t 6))⟩, ⟨(some 45), none, (.mov (.t 8))⟩, ⟨(some 46), none, (.mov (.t 9))⟩, ⟨(some 47), none, (.idx 1 (.t 45) (.t 46))⟩, ⟨(some 48), none, (.ld none (.int .i64 0) (.t 47))⟩, ⟨(some 49), none, (.call 134 [(.t 44), (.t 48)])⟩, ⟨(some 50), none, (.un .not (.t 49))⟩]) (.cond (.t 50) (.reg [⟨(some 51), none, (.mov (.t 5))⟩, ⟨(some 52), none, (.mov (.t 8))⟩, ⟨(some 53), none, (.mov (.t 9))⟩, ⟨(some 54), none, (.idx 1 (.t 52) (.t 53))⟩, ⟨(some 55), none, (.ld none (.int .i64 0) (.t 54))⟩, ⟨(some 56), none, (.mks 1 1 [(.int .i64 0)] [(0, (1, (.t 55)))])⟩, ⟨(some 57), none, (.app 1 8 (.t 51) (.t 56))⟩, ⟨(some 5), none, (.mov (.t 57))⟩]) .skip))) (.reg [⟨(some 42), none, (.mov (.t 9))⟩, ⟨(some 43), none, (.bin false .add (.t 42) (.c (.int .i64 1)))⟩, ⟨(some 9), none, (.mov (.t 43))⟩])))
def sc_s_UnpairedFaces_L0 : SC := (.seq (.seq (.reg [⟨(some 17), none, (.mov (.t 7))⟩, ⟨(some 18), none, (.mov (.t 1))⟩, ⟨(some 19), none, (.len (.t 18))⟩, ⟨(some 20), none, (.bin false .lss (.t 17) (.t 19))⟩]) (.cond (.t 20) .skip (.exit 0))) (.seq (.block 1 (.dreg [⟨⟨(some 23), none, (.mov (.t 6))⟩, false, true⟩, ⟨⟨(some 24), none, (.mov (.t 1))⟩, false, false⟩, ⟨⟨(some 25), none, (.mov (.t 7))⟩, false, false⟩, ⟨⟨(some 26), none, (.idx 2 (.t 24) (.t 25))⟩, false, false⟩, ⟨⟨(some 27), none, (.fad 0 (.t 26))⟩, false, false⟩, ⟨⟨(some 28), none, (.ld none (.int .i64 0) (.t 27))⟩, false, false⟩, ⟨⟨(some 29), none, (.mov (.t 1))⟩, false, false⟩, ⟨⟨(some 30), none, (.mov (.t 7))⟩, false, false⟩, ⟨⟨(some 31), none, (.idx 2 (.t 29) (.t 30))⟩, false, false⟩, ⟨⟨(some 32), none, (.fad 1 (.t 31))⟩, false, false⟩, ⟨⟨(some 33), none, (.ld none (.int .i64 0) (.t 32))⟩, false, false⟩, ⟨⟨(some 34), none, (.mks 2 1 [(.int .i64 0), (.int .i64 0)] [(0, (1, (.t 28))), (1, (1, (.t 33)))])⟩, true, false⟩, ⟨⟨(some 35), none, (.app 1 8 (.t 23) (.t 34))⟩, true, false⟩, ⟨⟨(some 6), none, (.mov (.t 35))⟩, false, false⟩])) (.reg [⟨(some 21), none, (.mov (.t 7))⟩, ⟨(some 22), none, (.bin false .add (.t 21) (.c (.int .i64 1)))⟩, ⟨(some 7), none, (.mov (.t 22))⟩])))
def sc_s_UnpairedFaces : SC := (.seq (.reg [⟨(some 2), none, (.box (.t 0))⟩, ⟨(some 4), none, (.mov (.c .nil))⟩]) (.seq (.reg [⟨(some 10), none, (.mks 0 1 [] [])⟩, ⟨(some 5), none, (.mov (.t 10))⟩]) (.seq (.seq (.reg [⟨(some 11), none, (.ld (some 2) .undef (.t 2))⟩, ⟨(some 12), none, (.mov (.t 1))⟩, ⟨(some 13), none, (.call 86 [(.t 11), (.t 12)])⟩, ⟨(some 14), none, (.un .not (.t 13))⟩]) (.cond (.t 14) (.seq (.reg [⟨(some 15), none, (.mov (.t 5))⟩, ⟨(some 4), none, (.mov (.t 15))⟩]) .ret) .skip)) (.seq (.reg [⟨(some 16), none, (.mks 0 1 [] [])⟩, ⟨(some 6), none, (.mov (.t 16))⟩]) (.seq (.seq (.reg [⟨(some 7), none, (.mov (.c (.int .i64 0)))⟩]) (.block 0 (.loop sc_s_UnpairedFaces_L0))) (.seq (.reg [⟨(some 36), none, (.ld (some 2) .undef (.t 2))⟩, ⟨(some 37), none, (.call 43 [(.t 36)])⟩, ⟨(some 8), none, (.mov (.t 37))⟩]) (.seq (.seq (.reg [⟨(some 9), none, (.mov (.c (.int .i64 0)))⟩]) (.block 2 (.loop sc_s_UnpairedFaces_L2))) (.seq (.reg [⟨(some 58), none, (.mov (.t 5))⟩, ⟨(some 4), none, (.mov (.t 58))⟩]) .ret))))))))
theorem code_s_UnpairedFaces : fnCode Try.prog [] 91 = some (59, sc_s_UnpairedFaces, [(4, none)]) := by kernel_rfl
theorem pair_used {n : Int} {l : List Int} {list : List (Int × Int)} (h : pairP n l list) : ∀ k, k ≤ list.length → (usedI list k).Nodup ∧ allS (usedI list k) := by
  intro k
  induction k with
  | zero => intro _; exact ⟨by simp [usedI], by simp [usedI, allS]⟩
  | succ k ih =>
    intro hk
    obtain ⟨a, b⟩ := ih (by omega)
    obtain ⟨g, c, d⟩ := h.2 k (by omega)
    exact used_step (by omega) a b g c d
theorem usedI_len (list : List (Int × Int)) : ∀ k, k ≤ list.length → (usedI list k).length = 2 * k := by
  intro k
  induction k with
  | zero => intro _; simp [usedI]
  | succ k ih => intro hk; rw [usedI_succ (by omega), List.length_append, ih (by omega)]; simp; omega
open Classical in
/-- The faces that are in no pair. -/
noncomputable def unpL (n : Int) (l : List Int) (list : List (Int × Int)) : List Int := if pairP n l list then setsOf fun s => faceS l s ∧ s ∉ usedI list list.length else []
noncomputable def F_s_UnpairedFaces : List V → Option V := F2 dC dP fun c list => some (.own 1 (ints (unpL c.1 c.2 list)))
theorem fn_s_UnpairedFaces : FnOk Try.prog 91 F_s_UnpairedFaces := by
  have env := (((envNil_ok (P := Try.prog)).add fn_s_FacesOf).add fn_s_l2Has).add fn_s_IsPairing
  refine fn_ok code_s_UnpairedFaces mixed env ?_
  intro args r h hb
  obtain ⟨_, _, ⟨n, l⟩, list, rfl, h1, h2, h4⟩ := F2_inv h
  cases dC_inv h1
  cases dP_inv h2
  cases h4
  have hlen := bnd_prs (hb (.list 2 (prs list)) (by simp))
  refine ⟨by simp, fun w0 U0 L0 N0 => ?_⟩
  clear h hb
  by_cases hP : pairP n l list
  rotate_left
  · have e : unpL n l list = [] := by simp [unpL, hP]
    have hd := dec_false hP
    rw [e]
    simp -implicitDefEqProofs [sc_s_UnpairedFaces, F_s_IsPairing, hd]
  have hd := dec_true hP
  have hU := pair_used hP
  have hFS : allS (facesL n l) := allS_setsOf _
  have hFl : (facesL n l).length ≤ 64 := setsOf_len _
  have hres : unpL n l list = (facesL n l).filter fun s => dec (s ∉ usedI list list.length) := by
    rw [facesL_of hP.1, filt_setsOf]
    simp [unpL, hP]
  rw [hres]
  simp -implicitDefEqProofs [sc_s_UnpairedFaces, F_s_IsPairing, hd]
  refine loopI env mixed (fun k : Nat => [(1, .list 2 (prs list)), (2, .pt 0 0), (5, .sl 1 1 0 0), (6, .sl 2 1 0 (usedI list k).length), (7, .int .i64 (k : Int))]) (fun k => ([(2, ints (usedI list k)), (1, []), (0, [.int .i64 n, .list 1 (ints l)])], 3)) (fun k => k ≤ list.length) (fun k => list.length - k) 0 (by simp) (SubI.slots (by simp [usedI]) (by simp [usedI])) ?_
  intro k hk
  have h64 := nodup_len (hU k hk).1 (hU k hk).2
  by_cases hlt : k < list.length
  · have hda := prs_at hlt
    have hus := usedI_succ hlt
    generalize usedI list k = U at *
    simp -implicitDefEqProofs [sc_s_UnpairedFaces_L0, freeOk, hlt, hda]
    repeat' (first | omega | apply And.intro)
    refine Again.of (k + 1) (by omega) (by omega) (SubI.ren (fun m => if m = 0 then some 0 else if m = 1 then some 1 else if m = 2 then some 4 else none) ?_ ?_ ?_ (by simp) (by simp))
    · simp (disch := omega) [subT, renV, ren1, wrapI, hus]
    · simp [subH, hus, renL, ren1]
      rw [← ints_app]
      rfl
    · intro m hm
      simp only at hm
      rw [if_neg (by omega), if_neg (by omega), if_neg (by omega)]
  · have hkl : k = list.length := by omega
    subst hkl
    simp -implicitDefEqProofs [sc_s_UnpairedFaces_L0, F_s_FacesOf]
    generalize usedI list list.length = U at *
    generalize facesL n l = L at *
    generalize hq : (fun s => dec (s ∉ U)) = q
    refine loopI env mixed (fun k : Nat => [(5, .sl 1 1 0 ((L.take k).filter q).length), (6, .sl 2 1 0 U.length), (8, .sl 3 1 0 L.length), (9, .int .i64 (k : Int))]) (fun k => ([(3, ints L), (2, ints U), (1, ints ((L.take k).filter q)), (0, [.int .i64 n, .list 1 (ints l)])], 4)) (fun k => k ≤ L.length) (fun k => L.length - k) 0 (by simp) (SubI.slots (by simp) (by simp)) ?_
    intro k hk
    have gl := filt_len L k q
    by_cases hlt : k < L.length
    · by_cases hm : at0 L k ∈ U
      · have e := filt_neg hlt (q := q) (by rw [← hq]; exact dec_false fun h => h hm)
        generalize (L.take k).filter q = g at *
        simp -implicitDefEqProofs [sc_s_UnpairedFaces_L2, F_s_l2Has, hlt, hm]
        repeat' (first | omega | apply And.intro)
        exact Again.of (k + 1) (by omega) (by omega) (SubI.slots (by simp only [e]) (by simp (disch := omega) [wrapI, e]))
      · have e := filt_pos hlt (q := q) (by rw [← hq]; exact dec_true hm)
        generalize (L.take k).filter q = g at *
        simp -implicitDefEqProofs [sc_s_UnpairedFaces_L2, F_s_l2Has, hlt, hm]
        repeat' (first | omega | apply And.intro)
        refine Again.of (k + 1) (by omega) (by omega) (SubI.ren (fun m => if m = 0 then some 0 else if m = 1 then some 5 else if m = 2 then some 2 else if m = 3 then some 3 else none) ?_ ?_ ?_ (by simp) (by simp))
        · simp only [e]
          simp (disch := omega) [subT, renV, ren1, wrapI]
        · simp only [e]
          simp [subH, renL, ren1]
          rw [← ints_app]
          rfl
        · intro m hm
          simp only at hm
          rw [if_neg (by omega), if_neg (by omega), if_neg (by omega), if_neg (by omega)]
    · have : k = L.length := by omega
      subst this
      simp -implicitDefEqProofs [sc_s_UnpairedFaces_L2]
end Go.Proofs.Ytmemomfffehnkaa
namespace Go.Proofs.Ytmemomfffehnkaa
open Go Go.RowKit
set_option maxRecDepth 1000000
set_option linter.unusedSimpArgs false
set_option linter.unusedVariables false
set_option maxHeartbeats 1000000
/-- Paths by points below k. -/
def warsh (E : Nat → Nat → Prop) : Nat → Nat → Nat → Prop
  | 0, i, j => E i j
  | k + 1, i, j => warsh E k i j ∨ (warsh E k i k ∧ warsh E k k j)
theorem warsh_row {E : Nat → Nat → Prop} {k j : Nat} : warsh E (k + 1) k j ↔ warsh E k k j :=
  ⟨fun h => h.elim id fun h => h.2, .inl⟩
theorem warsh_col {E : Nat → Nat → Prop} {k i : Nat} : warsh E (k + 1) i k ↔ warsh E k i k :=
  ⟨fun h => h.elim id fun h => h.1, .inl⟩
theorem warsh_trans {E : Nat → Nat → Prop} : ∀ (k : Nat) {v i j : Nat}, v < k → warsh E k i v → warsh E k v j → warsh E k i j := by
  intro k
  induction k with
  | zero => intro v i j hv; omega
  | succ k ih =>
    intro v i j hv h1 h2
    by_cases e : v = k
    · subst e
      exact .inr ⟨warsh_col.1 h1, warsh_row.1 h2⟩
    · have hv2 : v < k := by omega
      rcases h1 with h1 | ⟨h1, h3⟩
      · rcases h2 with h2 | ⟨h2, h4⟩
        · exact .inl (ih hv2 h1 h2)
        · exact .inr ⟨ih hv2 h1 h2, h4⟩
      · rcases h2 with h2 | ⟨h2, h4⟩
        · exact .inr ⟨h1, ih hv2 h3 h2⟩
        · exact .inr ⟨h1, h4⟩
theorem warsh_of {E : Nat → Nat → Prop} : ∀ (k : Nat) {i j : Nat}, E i j → warsh E k i j
  | 0, _, _, h => h
  | k + 1, _, _, h => .inl (warsh_of k h)
/-- A set that is closed holds all that is reached. -/
theorem warsh_closed {E : Nat → Nat → Prop} {a : Nat} {M : Nat → Prop} (h0 : ∀ j, E a j → M j) (hM : ∀ i j, M i → E i j → M j) : ∀ (k : Nat) {i j : Nat}, (i = a ∨ M i) → warsh E k i j → M j := by
  intro k
  induction k with
  | zero =>
    intro i j hi h
    rcases hi with rfl | hi
    · exact h0 j h
    · exact hM i j hi h
  | succ k ih =>
    intro i j hi h
    rcases h with h | ⟨h1, h2⟩
    · exact ih hi h
    · exact ih (.inr (ih hi h1)) h2
/-- From pair i to pair j: the lower face of j lies in the upper one of i. -/
def edgeP (list : List (Int × Int)) (i j : Nat) : Prop := i < list.length ∧ j < list.length ∧ i ≠ j ∧ subS (pr0 list j).1 (pr0 list i).2 ∧ sz (pr0 list i).2 = sz (pr0 list j).1 + 1
theorem mem_usedI {list : List (Int × Int)} {j : Nat} : ∀ {k : Nat}, k ≤ list.length → j < k → (pr0 list j).1 ∈ usedI list k := by
  intro k
  induction k with
  | zero => intro _ h; omega
  | succ k ih =>
    intro hk hj
    rw [usedI_succ (by omega)]
    by_cases e : j = k
    · subst e; simp
    · exact List.mem_append_left _ (ih (by omega) (by omega))
theorem pair_low {n : Int} {l : List Int} {list : List (Int × Int)} (h : pairP n l list) {i k : Nat} (hi : i < list.length) (hk : k < list.length) (hne : i ≠ k) : (pr0 list i).1 ≠ (pr0 list k).1 := by
  intro e
  rcases Nat.lt_or_gt_of_ne hne with h1 | h1
  · exact (h.2 k hk).2.1 (e ▸ mem_usedI (by omega) h1)
  · exact (h.2 i hi).2.1 (e.symm ▸ mem_usedI (by omega) h1)
theorem pair_len {n : Int} {l : List Int} {list : List (Int × Int)} (h : pairP n l list) : list.length ≤ 32 := by
  obtain ⟨a, b⟩ := pair_used h list.length (Nat.le_refl _)
  have h1 := nodup_len a b
  rw [usedI_len list _ (Nat.le_refl _)] at h1
  omega
/-- A row of m marks. -/
noncomputable def boolRow (m : Nat) (P : Nat → Prop) : List V := (List.range m).map fun j => V.bool (dec (P j))
@[simp] theorem boolRow_len (m : Nat) (P : Nat → Prop) : (boolRow m P).length = m := by simp [boolRow]
theorem boolRow_get {m : Nat} {P : Nat → Prop} {k : Nat} (hk : k < m) (d : V) : (boolRow m P)[k]?.getD d = .bool (dec (P k)) := by simp [boolRow, hk]
@[simp high] theorem boolRow_getD {m : Nat} {P : Nat → Prop} {k : Nat} (hk : k < m) (d : V) : (boolRow m P).getD k d = .bool (dec (P k)) := by
  rw [List.getD_eq_getElem?_getD, boolRow_get hk]
theorem boolRow_congr {m : Nat} {P Q : Nat → Prop} (h : ∀ j, j < m → (P j ↔ Q j)) : boolRow m P = boolRow m Q := by
  apply List.ext_getElem (by simp)
  intro j h1 h2
  simp only [boolRow_len] at h2
  simp [boolRow, dec, h j h2]
theorem boolRow_set {m : Nat} {P : Nat → Prop} {k : Nat} (hk : k < m) : (boolRow m P).set k (.bool true) = boolRow m fun j => P j ∨ j = k := by
  apply List.ext_getElem (by simp)
  intro j h1 h2
  simp only [boolRow_len] at h2
  rw [List.getElem_set]
  split
  · rename_i e; subst e; simp [boolRow, dec]
  · rename_i e
    have : ¬ j = k := fun h => e h.symm
    simp [boolRow, dec, this]
theorem boolRow_none (m : Nat) : List.replicate m (V.bool false) = boolRow m fun _ => False := by
  show _ = (List.range m).map fun _ => V.bool (dec False)
  rw [dec_false fun h => h, List.map_const', List.length_range]
@[simp] theorem boolRow_cell (m : Nat) (P : Nat → Prop) : (boolRow m P).all V.cell = true := by simp [boolRow, V.cell]
@[simp] theorem boolRow_nm (j m : Nat) (P : Nat → Prop) : (boolRow m P).all (nonm (j + 1)) = true := by simp [boolRow]
@[simp] theorem boolRow_nl (j m : Nat) (P : Nat → Prop) : (boolRow m P).all (nolist (j + 1)) = true := by simp [boolRow]
@[simp] theorem boolRow_take (m : Nat) (P : Nat → Prop) : (boolRow m P).take m = boolRow m P := List.take_of_length_le (by simp)
@[simp] theorem boolRow_ren (r : Nat → Option Nat) (m : Nat) (P : Nat → Prop) : renL r (boolRow m P) = some (boolRow m P) := by
  unfold boolRow
  generalize List.range m = l
  induction l with
  | nil => rfl
  | cons a l ih => simp [renL, ren1, ih]
/-- How many below k are not marked. -/
noncomputable def cntU (M : Nat → Prop) : Nat → Nat
  | 0 => 0
  | k + 1 => if dec (M k) = true then cntU M k else cntU M k + 1
theorem cntU_le (M : Nat → Prop) : ∀ k, cntU M k ≤ k
  | 0 => Nat.le_refl _
  | k + 1 => by have := cntU_le M k; simp only [cntU]; split <;> omega
theorem cntU_same {M : Nat → Prop} {j : Nat} : ∀ {k : Nat}, k ≤ j → cntU (fun i => M i ∨ i = j) k = cntU M k
  | 0, _ => rfl
  | k + 1, h => by
    have ih := cntU_same (M := M) (j := j) (k := k) (by omega)
    have e : dec (M k ∨ k = j) = dec (M k) := by
      rw [Bool.eq_iff_iff, dec_iff, dec_iff]
      exact ⟨fun h2 => h2.resolve_right (by omega), .inl⟩
    simp only [cntU, e, ih]
theorem cntU_mark {M : Nat → Prop} {j : Nat} (hj : ¬ M j) : ∀ {k : Nat}, j < k → cntU (fun i => M i ∨ i = j) k + 1 = cntU M k
  | 0, h => by omega
  | k + 1, h => by
    by_cases e : j = k
    · subst e
      have h1 : dec (M j ∨ True) = true := dec_true (.inr trivial)
      have h2 : dec (M j) = false := dec_false hj
      simp only [cntU]
      rw [h1, h2, if_pos rfl, if_neg (by simp), cntU_same (Nat.le_refl j)]
    · have ih := cntU_mark hj (k := k) (by omega)
      have e2 : dec (M k ∨ k = j) = dec (M k) := by
        rw [Bool.eq_iff_iff, dec_iff, dec_iff]
        exact ⟨fun h2 => h2.resolve_right (fun h3 => e h3.symm), .inl⟩
      simp only [cntU, e2]
      split <;> omega
def acycP (n : Int) (l : List Int) (list : List (Int × Int)) : Prop := pairP n l list ∧ ∀ i, i < list.length → ¬ warsh (edgeP list) list.length i i
end Go.Proofs.Ytmemomfffehnkaa
namespace Go.Proofs.Ytmemomfffehnkaa
open Go Go.RowKit
set_option maxRecDepth 1000000
set_option linter.unusedSimpArgs false
set_option linter.unusedVariables false
set_option maxHeartbeats 1000000
/-- The pairs are fit for the search. -/
def reachOk (list : List (Int × Int)) : Prop := list.length ≤ 32 ∧ (∀ i, i < list.length → isS (pr0 list i).1 ∧ isS (pr0 list i).2) ∧ ∀ i k, i < list.length → k < list.length → i ≠ k → (pr0 list i).1 ≠ (pr0 list k).1
theorem pair_reach {n : Int} {l : List Int} {list : List (Int × Int)} (h : pairP n l list) : reachOk list :=
  ⟨pair_len h, fun i hi => ⟨(h.2 i hi).1.1, (h.2 i hi).1.2.1⟩, fun i k hi hk hne => pair_low h hi hk hne⟩
noncomputable def F_s_IsAcyclic : List V → Option V := F2 dC dP fun c list => some (.bool (dec (acycP c.1 c.2 list)))
end Go.Proofs.Ytmemomfffehnkaa
namespace Go.Proofs.Ytmemomfffehnkaa
open Go Go.RowKit
set_option maxRecDepth 1000000
set_option linter.unusedSimpArgs false
set_option linter.unusedVariables false
set_option maxHeartbeats 1000000
def sc_s_UnpairedCounts_L0 : SC := (.seq (.seq (.reg [⟨(some 26), none, (.mov (.t 7))⟩, ⟨(some 27), none, (.mov (.t 6))⟩, ⟨(some 28), none, (.len (.t 27))⟩, ⟨(some 29), none, (.bin false .lss (.t 26) (.t 28))⟩]) (.cond (.t 29) .skip (.exit 0))) (.seq (.block 1 (.dreg [⟨⟨(some 32), none, (.mov (.t 5))⟩, false, false⟩, ⟨⟨(some 33), none, (.mov (.t 6))⟩, false, false⟩, ⟨⟨(some 34), none, (.mov (.t 7))⟩, false, false⟩, ⟨⟨(some 35), none, (.idx 1 (.t 33) (.t 34))⟩, false, false⟩, ⟨⟨(some 36), none, (.ld none (.int .i64 0) (.t 35))⟩, false, false⟩, ⟨⟨(some 37), none, (.call 156 [(.t 36)])⟩, false, false⟩, ⟨⟨(some 38), none, (.mov (.t 5))⟩, false, false⟩, ⟨⟨(some 39), none, (.mov (.t 6))⟩, false, false⟩, ⟨⟨(some 40), none, (.mov (.t 7))⟩, false, false⟩, ⟨⟨(some 41), none, (.idx 1 (.t 39) (.t 40))⟩, false, false⟩, ⟨⟨(some 42), none, (.ld none (.int .i64 0) (.t 41))⟩, false, false⟩, ⟨⟨(some 43), none, (.call 156 [(.t 42)])⟩, false, false⟩, ⟨⟨(some 44), none, (.idx 1 (.t 38) (.t 43))⟩, false, false⟩, ⟨⟨(some 45), none, (.ld none (.int .i64 0) (.t 44))⟩, false, false⟩, ⟨⟨(some 46), none, (.bin false .add (.t 45) (.c (.int .i64 1)))⟩, false, false⟩, ⟨⟨(some 47), none, (.idx 1 (.t 32) (.t 37))⟩, false, false⟩, ⟨⟨none, none, (.st 1 (.t 47) (.t 46))⟩, true, false⟩])) (.reg [⟨(some 30), none, (.mov (.t 7))⟩, ⟨(some 31), none, (.bin false .add (.t 30) (.c (.int .i64 1)))⟩, ⟨(some 7), none, (.mov (.t 31))⟩])))
def sc_s_UnpairedCounts : SC := (.seq (.reg [⟨(some 2), none, (.box (.t 0))⟩, ⟨(some 4), none, (.mov (.c .nil))⟩]) (.seq (.seq (.reg [⟨(some 8), none, (.ld (some 2) .undef (.t 2))⟩, ⟨(some 9), none, (.mov (.t 1))⟩, ⟨(some 10), none, (.call 86 [(.t 8), (.t 9)])⟩, ⟨(some 11), none, (.un .not (.t 10))⟩, ⟨(some 12), none, (.mov (.t 11))⟩, ⟨(some 13), (some (12, false)), (.fad 1 (.t 2))⟩, ⟨(some 14), (some (12, false)), (.ld none .nil (.t 13))⟩, ⟨(some 15), (some (12, false)), (.len (.t 14))⟩, ⟨(some 16), (some (12, false)), (.bin false .eql (.t 15) (.c (.int .i64 0)))⟩, ⟨(some 17), none, (.pick (.t 12) (.c (.bool true)) (.t 16))⟩]) (.cond (.t 17) (.seq (.reg [⟨(some 18), none, (.mks 0 1 [] [])⟩, ⟨(some 4), none, (.mov (.t 18))⟩]) .ret) .skip)) (.seq (.reg [⟨(some 19), none, (.ld (some 2) .undef (.t 2))⟩, ⟨(some 20), none, (.call 155 [(.t 19)])⟩, ⟨(some 21), none, (.bin false .add (.t 20) (.c (.int .i64 2)))⟩, ⟨(some 22), none, (.mk 1 8 [(.int .i64 0)] (.t 21) (.t 21))⟩, ⟨(some 5), none, (.mov (.t 22))⟩]) (.seq (.reg [⟨(some 23), none, (.ld (some 2) .undef (.t 2))⟩, ⟨(some 24), none, (.mov (.t 1))⟩, ⟨(some 25), none, (.call 91 [(.t 23), (.t 24)])⟩, ⟨(some 6), none, (.mov (.t 25))⟩]) (.seq (.seq (.reg [⟨(some 7), none, (.mov (.c (.int .i64 0)))⟩]) (.block 0 (.loop sc_s_UnpairedCounts_L0))) (.seq (.reg [⟨(some 48), none, (.mov (.t 5))⟩, ⟨(some 4), none, (.mov (.t 48))⟩]) .ret))))))
theorem code_s_UnpairedCounts : fnCode Try.prog [] 92 = some (49, sc_s_UnpairedCounts, [(4, none)]) := by kernel_rfl
open Classical in
noncomputable def upcL (n : Int) (l : List Int) (list : List (Int × Int)) : List Int := if pairP n l list then szRow (topZ (faceS l) + 1).toNat (unpL n l list) else []
theorem unpL_ok {n : Int} {l : List Int} {list : List (Int × Int)} : allS (unpL n l list) ∧ (unpL n l list).length ≤ 64 ∧ ∀ s ∈ unpL n l list, sz s ≤ topZ (faceS l) := by
  unfold unpL
  split
  · refine ⟨allS_setsOf _, setsOf_len _, fun s hs => ?_⟩
    obtain ⟨a, b⟩ := mem_setsOf.1 hs
    exact topZ_ge a b.1
  · exact ⟨by simp [allS], by simp, by simp⟩
noncomputable def F_s_UnpairedCounts : List V → Option V := F2 dC dP fun c list => some (.own 1 (ints (upcL c.1 c.2 list)))
theorem fn_s_UnpairedCounts : FnOk Try.prog 92 F_s_UnpairedCounts := by
  have env := ((((envNil_ok (P := Try.prog)).add fn_s_IsPairing).add fn_s_DimOf).add fn_s_l2Size).add fn_s_UnpairedFaces
  refine fn_ok code_s_UnpairedCounts mixed env ?_
  intro args r h hb
  obtain ⟨_, _, ⟨n, l⟩, list, rfl, h1, h2, h4⟩ := F2_inv h
  cases dC_inv h1
  cases dP_inv h2
  cases h4
  clear h
  refine ⟨by simp, fun w0 U0 L0 N0 => ?_⟩
  clear hb
  by_cases hP : pairP n l list
  rotate_left
  · have hd := dec_false hP
    have e : upcL n l list = [] := by unfold upcL; rw [if_neg hP]
    rw [e]
    simp -implicitDefEqProofs [sc_s_UnpairedCounts, F_s_IsPairing, hd]
  have hd := dec_true hP
  have e : upcL n l list = szRow (topZ (faceS l) + 1).toNat (unpL n l list) := by unfold upcL; rw [if_pos hP]
  rw [e]
  obtain ⟨hS, hNl, hle⟩ := unpL_ok (n := n) (l := l) (list := list)
  have hc := hP.1
  have hdim : dimZ n l = topZ (faceS l) - 1 := by unfold dimZ; rw [if_pos hc]
  have htb := topZ_bnd (faceS l)
  obtain ⟨m, hm⟩ : ∃ m : Nat, topZ (faceS l) + 1 = m := ⟨(topZ (faceS l) + 1).toNat, by omega⟩
  have hm2 : (topZ (faceS l) + 1).toNat = m := by omega
  rw [hm2]
  have hw : IntKind.i64.wrap (dimZ n l + 2) = m := by rw [wrapI _ (by omega) (by omega)]; omega
  by_cases h0 : l = []
  · subst h0
    have hm0 : m = 0 := by
      rw [topZ_nil] at hm
      omega
    subst hm0
    simp -implicitDefEqProofs [sc_s_UnpairedCounts, F_s_IsPairing, hd, szRow]
  have hpos := List.length_pos_iff.2 h0
  generalize hN : unpL n l list = N at *
  simp -implicitDefEqProofs [sc_s_UnpairedCounts, F_s_IsPairing, F_s_DimOf, F_s_UnpairedFaces, hd, h0, hw, hN]
  repeat' (first | omega | apply And.intro)
  refine loopI env mixed (fun k : Nat => [(5, .sl 1 1 0 m), (6, .sl 2 1 0 N.length), (7, .int .i64 (k : Int))]) (fun k => ([(2, ints N), (1, ints (szRow m (N.take k))), (0, [.int .i64 n, .list 1 (ints l)])], 3)) (fun k => k ≤ N.length) (fun k => N.length - k) 0 (by simp) (SubI.slots (by simp [szRow_none]) (by simp)) ?_
  intro k hk
  by_cases hlt : k < N.length
  · have hf := allS_at hS hlt
    have hle2 := hle _ (getD_mem' hlt)
    have r1 : at0 N k < 9223372036854775808 := by have := hf.2; omega
    obtain ⟨z, hz⟩ : ∃ z : Nat, sz (at0 N k) = z := ⟨(sz (at0 N k)).toNat, by have := sz_nn (at0 N k); omega⟩
    have hzm : z < m := by omega
    have hcb := cntZ_bnd N k z
    have hw2 : IntKind.i64.wrap (cntZ (N.take k) z + 1) = cntZ (N.take k) z + 1 := wrapI _ (by omega) (by omega)
    have hst := szRow_step hlt hz hzm
    have ha := at0_szRow (N.take k) hzm
    simp -implicitDefEqProofs [sc_s_UnpairedCounts_L0, F_s_l2Size, hlt, r1, hz, hzm, ha, hw2, hst]
    repeat' (first | omega | apply And.intro)
    exact Again.of (k + 1) (by omega) (by omega) (SubI.slots (by simp) (by simp (disch := omega) [wrapI]))
  · have : k = N.length := by omega
    subst this
    simp -implicitDefEqProofs [sc_s_UnpairedCounts_L0]
def sc_i_UnpairedCounts_L0 : SC := (.seq (.reg [⟨(some 31), none, (.bin false .lss (.t 30) (.t 29))⟩]) (.seq (.cond (.t 31) .skip (.exit 0)) (.seq (.block 1 (.seq (.reg [⟨(some 32), none, (.idx 1 (.t 28) (.t 30))⟩, ⟨(some 33), none, (.ld none (.int .i64 0) (.t 32))⟩, ⟨(some 10), none, (.mov (.t 33))⟩]) (.reg [⟨(some 34), none, (.mov (.t 8))⟩, ⟨(some 35), none, (.mov (.t 10))⟩, ⟨(some 36), none, (.call 181 [(.t 35)])⟩, ⟨(some 37), none, (.idx 1 (.t 34) (.t 36))⟩, ⟨(some 38), none, (.ld none (.int .i64 0) (.t 37))⟩, ⟨(some 39), none, (.bin false .add (.t 38) (.c (.int .i64 1)))⟩, ⟨(some 40), none, (.idx 1 (.t 34) (.t 36))⟩, ⟨none, none, (.st 1 (.t 40) (.t 39))⟩]))) (.reg [⟨(some 41), none, (.bin false .add (.t 30) (.c (.int .i64 1)))⟩, ⟨(some 30), none, (.mov (.t 41))⟩]))))
def sc_i_UnpairedCounts : SC := (.seq (.reg [⟨(some 2), none, (.box (.t 0))⟩, ⟨(some 4), none, (.mov (.c .nil))⟩]) (.seq (.reg [⟨(some 12), none, (.ld (some 2) .undef (.t 2))⟩, ⟨(some 13), none, (.mov (.t 1))⟩, ⟨(some 14), none, (.call 188 [(.t 12), (.t 13)])⟩, ⟨(some 11), none, (.mov (.t 14))⟩, ⟨(some 15), none, (.ext 0 (.t 11))⟩, ⟨(some 16), none, (.ext 1 (.t 11))⟩, ⟨(some 5), none, (.mov (.t 15))⟩, ⟨(some 6), none, (.mov (.t 16))⟩]) (.seq (.seq (.reg [⟨(some 17), none, (.mov (.t 6))⟩, ⟨(some 18), none, (.un .not (.t 17))⟩]) (.cond (.t 18) (.seq (.reg [⟨(some 4), none, (.mov (.c .nil))⟩]) .ret) .skip)) (.seq (.reg [⟨(some 19), none, (.ld (some 2) .undef (.t 2))⟩, ⟨(some 20), none, (.call 151 [(.t 19)])⟩, ⟨(some 7), none, (.mov (.t 20))⟩]) (.seq (.reg [⟨(some 21), none, (.mov (.t 7))⟩, ⟨(some 22), none, (.call 150 [(.t 21)])⟩, ⟨(some 23), none, (.bin false .add (.t 22) (.c (.int .i64 1)))⟩, ⟨(some 24), none, (.mk 1 8 [(.int .i64 0)] (.t 23) (.t 23))⟩, ⟨(some 8), none, (.mov (.t 24))⟩]) (.seq (.seq (.reg [⟨(some 25), none, (.mov (.t 7))⟩, ⟨(some 26), none, (.mov (.t 5))⟩, ⟨(some 27), none, (.bin false .andNot (.t 25) (.t 26))⟩, ⟨(some 28), none, (.call 187 [(.t 27)])⟩, ⟨(some 29), none, (.len (.t 28))⟩, ⟨(some 30), none, (.mov (.c (.int .i64 0)))⟩]) (.block 0 (.loop sc_i_UnpairedCounts_L0))) (.seq (.reg [⟨(some 42), none, (.mov (.t 8))⟩, ⟨(some 4), none, (.mov (.t 42))⟩]) .ret)))))))
theorem code_i_UnpairedCounts : fnCode Try.prog [] 84 = some (43, sc_i_UnpairedCounts, [(4, none)]) := by kernel_rfl
theorem fn_i_UnpairedCounts : FnOk Try.prog 84 F_s_UnpairedCounts := by
  have env := (((((envNil_ok (P := Try.prog)).add fn_i_pairedIn).add fn_i_facesIn).add fn_i_topSize).add fn_i_setsIn).add fn_i_SizeOf
  refine fn_ok code_i_UnpairedCounts mixed env ?_
  intro args r h hb
  obtain ⟨_, _, ⟨n, l⟩, list, rfl, h1, h2, h4⟩ := F2_inv h
  cases dC_inv h1
  cases dP_inv h2
  cases h4
  clear h
  refine ⟨by simp, fun w0 U0 L0 N0 => ?_⟩
  clear hb
  by_cases hP : pairP n l list
  rotate_left
  · have hd := dec_false hP
    have e : upcL n l list = [] := by unfold upcL; rw [if_neg hP]
    rw [e]
    simp -implicitDefEqProofs [sc_i_UnpairedCounts, F_i_pairedIn, hd]
  have hd := dec_true hP
  have e : upcL n l list = szRow (topZ (faceS l) + 1).toNat (unpL n l list) := by unfold upcL; rw [if_pos hP]
  rw [e]
  obtain ⟨hS, hNl, hle⟩ := unpL_ok (n := n) (l := l) (list := list)
  have hc := hP.1
  have hSl := cplx_isS hc
  have hu : usedF n l list = fam fun x => x ∈ usedI list list.length := by rw [usedF, if_pos hP]
  have hs := setsG_fam fun s => faceS l s ∧ ¬ s ∈ usedI list list.length
  have e2 : unpL n l list = setsOf fun s => faceS l s ∧ ¬ s ∈ usedI list list.length := by simp only [unpL, if_pos hP]
  rw [← e2] at hs
  have htb := topZ_bnd (faceS l)
  have hg := topG_fam (faceS l)
  obtain ⟨m, hm⟩ : ∃ m : Nat, topZ (faceS l) + 1 = m := ⟨(topZ (faceS l) + 1).toNat, by omega⟩
  have hm2 : (topZ (faceS l) + 1).toNat = m := by omega
  rw [hm2]
  have hw : IntKind.i64.wrap (topZ (faceS l) + 1) = m := by rw [wrapI _ (by omega) (by omega), hm]
  clear e2
  generalize unpL n l list = N at *
  simp -implicitDefEqProofs [sc_i_UnpairedCounts, F_i_pairedIn, F_i_facesIn, F_i_topSize, F_i_setsIn, hd, hSl, hu, hg, hw, hs]
  repeat' (first | omega | apply And.intro)
  refine loopI env mixed (fun k : Nat => [(8, .sl 1 1 0 m), (28, .sl 2 1 0 N.length), (29, .int .i64 (N.length : Int)), (30, .int .i64 (k : Int))]) (fun k => ([(2, ints N), (1, ints (szRow m (N.take k))), (0, [.int .i64 n, .list 1 (ints l)])], 3)) (fun k => k ≤ N.length) (fun k => N.length - k) 0 (by simp) (SubI.slots (by simp [szRow_none]) (by simp)) ?_
  intro k hk
  by_cases hlt : k < N.length
  · have hf := allS_at hS hlt
    have r1 := sizeOf1_set hf.1 hf.2
    have hle2 := hle _ (getD_mem' hlt)
    obtain ⟨z, hz⟩ : ∃ z : Nat, sz (at0 N k) = z := ⟨(sz (at0 N k)).toNat, by have := sz_nn (at0 N k); omega⟩
    have hzm : z < m := by omega
    have hcb := cntZ_bnd N k z
    have hw2 : IntKind.i64.wrap (cntZ (N.take k) z + 1) = cntZ (N.take k) z + 1 := wrapI _ (by omega) (by omega)
    have hst := szRow_step hlt hz hzm
    have ha := at0_szRow (N.take k) hzm
    rw [hz] at r1
    simp -implicitDefEqProofs [sc_i_UnpairedCounts_L0, F_i_SizeOf, hlt, r1, hzm, ha, hw2, hst]
    repeat' (first | omega | apply And.intro)
    exact Again.of (k + 1) (by omega) (by omega) (SubI.slots (by simp) (by simp (disch := omega) [wrapI]))
  · have : k = N.length := by omega
    subst this
    simp -implicitDefEqProofs [sc_i_UnpairedCounts_L0]
end Go.Proofs.Ytmemomfffehnkaa
namespace Go.Proofs.Ytmemomfffehnkaa
open Go Go.RowKit
set_option maxRecDepth 1000000
set_option linter.unusedSimpArgs false
set_option linter.unusedVariables false
set_option maxHeartbeats 1000000
def sc_i_UnpairedFaces : SC := (.seq (.reg [⟨(some 2), none, (.box (.t 0))⟩, ⟨(some 4), none, (.mov (.c .nil))⟩]) (.seq (.reg [⟨(some 8), none, (.ld (some 2) .undef (.t 2))⟩, ⟨(some 9), none, (.mov (.t 1))⟩, ⟨(some 10), none, (.call 188 [(.t 8), (.t 9)])⟩, ⟨(some 7), none, (.mov (.t 10))⟩, ⟨(some 11), none, (.ext 0 (.t 7))⟩, ⟨(some 12), none, (.ext 1 (.t 7))⟩, ⟨(some 5), none, (.mov (.t 11))⟩, ⟨(some 6), none, (.mov (.t 12))⟩]) (.seq (.seq (.reg [⟨(some 13), none, (.mov (.t 6))⟩, ⟨(some 14), none, (.un .not (.t 13))⟩]) (.cond (.t 14) (.seq (.reg [⟨(some 4), none, (.mov (.c .nil))⟩]) .ret) .skip)) (.seq (.reg [⟨(some 15), none, (.ld (some 2) .undef (.t 2))⟩, ⟨(some 16), none, (.call 151 [(.t 15)])⟩, ⟨(some 17), none, (.mov (.t 5))⟩, ⟨(some 18), none, (.bin false .andNot (.t 16) (.t 17))⟩, ⟨(some 19), none, (.call 187 [(.t 18)])⟩, ⟨(some 4), none, (.mov (.t 19))⟩]) .ret))))
theorem code_i_UnpairedFaces : fnCode Try.prog [] 83 = some (20, sc_i_UnpairedFaces, [(4, none)]) := by kernel_rfl
theorem fn_i_UnpairedFaces : FnOk Try.prog 83 F_s_UnpairedFaces := by
  have env := (((envNil_ok (P := Try.prog)).add fn_i_pairedIn).add fn_i_facesIn).add fn_i_setsIn
  refine fn_ok code_i_UnpairedFaces mixed env ?_
  intro args r h hb
  obtain ⟨_, _, ⟨n, l⟩, list, rfl, h1, h2, h4⟩ := F2_inv h
  cases dC_inv h1
  cases dP_inv h2
  cases h4
  refine ⟨by simp, fun w0 U0 L0 N0 => ?_⟩
  clear h hb
  by_cases hP : pairP n l list
  · have hd := dec_true hP
    have hS := cplx_isS hP.1
    have hu : usedF n l list = fam fun x => x ∈ usedI list list.length := by rw [usedF, if_pos hP]
    have hs := setsG_fam fun s => faceS l s ∧ ¬ s ∈ usedI list list.length
    have e : unpL n l list = setsOf fun s => faceS l s ∧ ¬ s ∈ usedI list list.length := by simp only [unpL, if_pos hP]
    rw [e]
    simp -implicitDefEqProofs [sc_i_UnpairedFaces, F_i_pairedIn, F_i_facesIn, F_i_setsIn, hd, hS, hu, hs]
  · have hd := dec_false hP
    have e : unpL n l list = [] := by simp [unpL, hP]
    rw [e]
    simp -implicitDefEqProofs [sc_i_UnpairedFaces, F_i_pairedIn, hd]
end Go.Proofs.Ytmemomfffehnkaa
