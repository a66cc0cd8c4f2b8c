import Derived.Test.YtmemomfffehnkaaPE
namespace Go.Proofs.Ytmemomfffehnkaa
open Go Go.RowKit
set_option maxRecDepth 1000000
set_option linter.unusedSimpArgs false
set_option linter.unusedVariables false
set_option maxHeartbeats 1000000
def sc_i_subsetFamily_L0 : SC := (.seq (.block 1 (.seq (.reg [⟨(some 10), none, (.mov (.t 3))⟩, ⟨(some 11), none, (.mov (.t 4))⟩, ⟨(some 12), none, (.conv .u64 (.t 11))⟩, ⟨(some 13), none, (.bin false .shl (.c (.int .u64 1)) (.t 12))⟩, ⟨(some 14), none, (.bin false .or (.t 10) (.t 13))⟩, ⟨(some 3), none, (.mov (.t 14))⟩]) (.seq (.reg [⟨(some 15), none, (.mov (.t 4))⟩, ⟨(some 16), none, (.bin false .eql (.t 15) (.c (.int .i64 0)))⟩]) (.cond (.t 16) (.seq (.reg [⟨(some 17), none, (.mov (.t 3))⟩, ⟨(some 2), none, (.mov (.t 17))⟩]) .ret) .skip)))) (.reg [⟨(some 6), none, (.mov (.t 4))⟩, ⟨(some 7), none, (.bin false .sub (.t 6) (.c (.int .i64 1)))⟩, ⟨(some 8), none, (.mov (.t 0))⟩, ⟨(some 9), none, (.bin false .and (.t 7) (.t 8))⟩, ⟨(some 4), none, (.mov (.t 9))⟩]))
def sc_i_subsetFamily : SC := (.seq (.reg [⟨(some 2), none, (.mov (.c (.int .u64 0)))⟩]) (.seq (.reg [⟨(some 3), none, (.mov (.c (.int .u64 0)))⟩]) (.seq (.reg [⟨(some 5), none, (.mov (.t 0))⟩, ⟨(some 4), none, (.mov (.t 5))⟩]) (.block 0 (.loop sc_i_subsetFamily_L0)))))
theorem code_i_subsetFamily : fnCode Try.prog [] 183 = some (18, sc_i_subsetFamily, [(2, none)]) := by kernel_rfl
open Classical in
noncomputable def F_i_subsetFamily : List V → Option V := F1 dI fun s => if isS s then some (.int .u64 (fam fun t => subS t s)) else none
theorem fn_i_subsetFamily : FnOk Try.prog 183 F_i_subsetFamily := by
  refine fn_ok code_i_subsetFamily mixed envNil_ok ?_
  intro args r h hb
  obtain ⟨_, s, rfl, h1, h4⟩ := F1_inv h
  cases dI_inv h1
  simp only [Option.ite_none_right_eq_some, Option.some.injEq] at h4
  obtain ⟨hs, rfl⟩ := h4
  refine ⟨by simp, fun w0 U0 L0 N0 => ?_⟩
  generalize hv : fam (fun t => subS t s) = v
  have e0 : (0 : Int) = fam fun u => subS u s ∧ s < u := (fam_zero.2 fun u hu h => by have := subS_le hu hs h.1; omega).symm
  simp -implicitDefEqProofs [sc_i_subsetFamily]
  refine loopI envNil_ok mixed (fun t : Int => [(0, .int .i64 s), (3, .int .u64 (fam fun u => subS u s ∧ t < u)), (4, .int .i64 t)]) (fun _ => ([], 0)) (fun t => isS t ∧ subS t s) (fun t => t.toNat) s ⟨hs, subS_refl hs⟩ (SubI.slots rfl (by simp [← e0])) ?_
  rintro t ⟨ht, hts⟩
  have hu := wrapS ht
  have h1 := fam_one ht
  by_cases h0 : t = 0
  · subst h0
    have h2 : IntKind.u64.wrap 1 = fam fun t => t = 0 := by simpa using fam_one isS_zero
    have e : (fam fun u => (subS u s ∧ 0 < u) ∨ u = 0) = v := by
      rw [← hv]
      refine fam_congr fun u hu => ⟨?_, fun h => ?_⟩
      · rintro (h | rfl)
        · exact h.1
        · exact subS_zero hs
      · by_cases hz : u = 0
        · exact .inr hz
        · exact .inl ⟨h, by have := hu.1; omega⟩
    simp -implicitDefEqProofs [sc_i_subsetFamily_L0, hu, h2, e]
  · obtain ⟨n1, n2, n3, n4⟩ := sub_next hs ht hts h0
    have hw : IntKind.i64.wrap (t - 1) = t - 1 := wrapI _ (by have := ht.1; omega) (by have := ht.2; omega)
    have e : (fam fun u => (subS u s ∧ t < u) ∨ u = t) = fam fun u => subS u s ∧ band (t - 1) s < u := by
      refine fam_congr fun u hu => ⟨?_, fun h => ?_⟩
      · rintro (h | rfl)
        · exact ⟨h.1, by omega⟩
        · exact ⟨hts, n3⟩
      · rcases Int.lt_trichotomy u t with h3 | h3 | h3
        · exact absurd (n4 u hu h.1 h3) (by omega)
        · exact .inr h3
        · exact .inl ⟨h.1, h3⟩
    simp -implicitDefEqProofs [sc_i_subsetFamily_L0, hu, h1, h0, hw, e]
    have f0 := ht.1
    repeat' (first | omega | apply And.intro)
    exact Again.of (band (t - 1) s) ⟨n1, n2⟩ (by have := n1.1; omega) (SubI.slots rfl (by simp))
def sc_i_facesIn_L0 : SC := (.seq (.reg [⟨(some 10), none, (.bin false .lss (.t 9) (.t 8))⟩]) (.seq (.cond (.t 10) .skip (.exit 0)) (.seq (.block 1 (.seq (.reg [⟨(some 11), none, (.idx 1 (.t 7) (.t 9))⟩, ⟨(some 12), none, (.ld none (.int .i64 0) (.t 11))⟩, ⟨(some 5), none, (.mov (.t 12))⟩]) (.reg [⟨(some 13), none, (.mov (.t 3))⟩, ⟨(some 14), none, (.mov (.t 5))⟩, ⟨(some 15), none, (.call 183 [(.t 14)])⟩, ⟨(some 16), none, (.bin false .or (.t 13) (.t 15))⟩, ⟨(some 3), none, (.mov (.t 16))⟩]))) (.reg [⟨(some 17), none, (.bin false .add (.t 9) (.c (.int .i64 1)))⟩, ⟨(some 9), none, (.mov (.t 17))⟩]))))
def sc_i_facesIn : SC := (.seq (.reg [⟨(some 1), none, (.box (.t 0))⟩, ⟨(some 2), none, (.mov (.c (.int .u64 0)))⟩]) (.seq (.reg [⟨(some 3), none, (.mov (.c (.int .u64 0)))⟩]) (.seq (.seq (.reg [⟨(some 6), none, (.fad 1 (.t 1))⟩, ⟨(some 7), none, (.ld none .nil (.t 6))⟩, ⟨(some 8), none, (.len (.t 7))⟩, ⟨(some 9), none, (.mov (.c (.int .i64 0)))⟩]) (.block 0 (.loop sc_i_facesIn_L0))) (.seq (.reg [⟨(some 18), none, (.mov (.t 3))⟩, ⟨(some 2), none, (.mov (.t 18))⟩]) .ret))))
theorem code_i_facesIn : fnCode Try.prog [] 151 = some (19, sc_i_facesIn, [(2, none)]) := by kernel_rfl
open Classical in
noncomputable def F_i_facesIn : List V → Option V := F1 dC fun c => if allS c.2 then some (.int .u64 (fam (faceS c.2))) else none
theorem fn_i_facesIn : FnOk Try.prog 151 F_i_facesIn := by
  have env := (envNil_ok (P := Try.prog)).add fn_i_subsetFamily
  refine fn_ok code_i_facesIn mixed env ?_
  intro args r h hb
  obtain ⟨_, ⟨n, l⟩, rfl, h1, h4⟩ := F1_inv h
  cases dC_inv h1
  simp only [Option.ite_none_right_eq_some, Option.some.injEq] at h4
  obtain ⟨hS, rfl⟩ := h4
  have hlen := bnd_eC (hb _ (List.mem_cons_self ..))
  simp only at hlen
  refine ⟨by simp, fun w0 U0 L0 N0 => ?_⟩
  have e0 : (0 : Int) = fam (faceS []) := (fam_zero.2 fun u hu h => by obtain ⟨f, h1, _⟩ := h; simp at h1).symm
  simp -implicitDefEqProofs [sc_i_facesIn]
  refine loopI env mixed (fun k : Nat => [(3, .int .u64 (fam (faceS (l.take k)))), (7, .list 1 (ints l)), (8, .int .i64 l.length), (9, .int .i64 (k : Int))]) (fun _ => ([(0, [.int .i64 n, .list 1 (ints l)])], 1)) (fun k => k ≤ l.length) (fun k => l.length - k) 0 (by simp) (SubI.slots rfl (by simp [← e0])) ?_
  intro k hk
  by_cases hlt : k < l.length
  · have hf := allS_at hS hlt
    have e : (fam fun s => faceS (l.take k) s ∨ subS s (at0 l k)) = fam (faceS (l.take (k + 1))) := by
      rw [take_at hlt]
      exact fam_congr fun s _ => faceS_snoc.symm
    simp -implicitDefEqProofs [sc_i_facesIn_L0, F_i_subsetFamily, hlt, hf, e]
    repeat' (first | omega | apply And.intro)
    refine Again.of (k + 1) (by omega) (by omega) (SubI.slots rfl (by simp (disch := omega) [wrapI]))
  · have : k = l.length := by omega
    subst this
    simp -implicitDefEqProofs [sc_i_facesIn_L0]
def sc_s_l3Has_L0 : SC := (.seq (.seq (.reg [⟨(some 6), none, (.mov (.t 5))⟩, ⟨(some 7), none, (.fad 1 (.t 2))⟩, ⟨(some 8), none, (.ld none .nil (.t 7))⟩, ⟨(some 9), none, (.len (.t 8))⟩, ⟨(some 10), none, (.bin false .lss (.t 6) (.t 9))⟩]) (.cond (.t 10) .skip (.exit 0))) (.seq (.block 1 (.seq (.reg [⟨(some 13), none, (.fad 1 (.t 2))⟩, ⟨(some 14), none, (.ld none .nil (.t 13))⟩, ⟨(some 15), none, (.mov (.t 5))⟩, ⟨(some 16), none, (.idx 1 (.t 14) (.t 15))⟩, ⟨(some 17), none, (.ld none (.int .i64 0) (.t 16))⟩, ⟨(some 18), none, (.mov (.t 1))⟩, ⟨(some 19), none, (.bin false .and (.t 17) (.t 18))⟩, ⟨(some 20), none, (.mov (.t 1))⟩, ⟨(some 21), none, (.bin false .eql (.t 19) (.t 20))⟩]) (.cond (.t 21) (.seq (.reg [⟨(some 4), none, (.mov (.c (.bool true)))⟩]) .ret) .skip))) (.reg [⟨(some 11), none, (.mov (.t 5))⟩, ⟨(some 12), none, (.bin false .add (.t 11) (.c (.int .i64 1)))⟩, ⟨(some 5), none, (.mov (.t 12))⟩])))
def sc_s_l3Has : SC := (.seq (.reg [⟨(some 2), none, (.box (.t 0))⟩, ⟨(some 4), none, (.mov (.c (.bool false)))⟩]) (.seq (.seq (.reg [⟨(some 5), none, (.mov (.c (.int .i64 0)))⟩]) (.block 0 (.loop sc_s_l3Has_L0))) (.seq (.reg [⟨(some 4), none, (.mov (.c (.bool false)))⟩]) .ret)))
theorem code_s_l3Has : fnCode Try.prog [] 158 = some (22, sc_s_l3Has, [(4, none)]) := by kernel_rfl
open Classical in
noncomputable def F_s_l3Has : List V → Option V := F2 dC dI fun c s => if allS c.2 ∧ isS s then some (.bool (dec (faceS c.2 s))) else none
theorem fn_s_l3Has : FnOk Try.prog 158 F_s_l3Has := by
  refine fn_ok code_s_l3Has mixed envNil_ok ?_
  intro args r h hb
  obtain ⟨_, _, ⟨n, l⟩, s, rfl, h1, h2, h4⟩ := F2_inv h
  cases dC_inv h1
  cases dI_inv h2
  simp only [Option.ite_none_right_eq_some, Option.some.injEq] at h4
  obtain ⟨⟨hS, hs⟩, rfl⟩ := h4
  have hlen := bnd_eC (hb _ (List.mem_cons_self ..))
  simp only at hlen
  refine ⟨by simp, fun w0 U0 L0 N0 => ?_⟩
  generalize hv : dec (faceS l s) = v
  simp -implicitDefEqProofs [sc_s_l3Has]
  refine loopI envNil_ok mixed (fun k : Nat => [(1, .int .i64 s), (2, .pt 0 0), (5, .int .i64 (k : Int))]) (fun _ => ([(0, [.int .i64 n, .list 1 (ints l)])], 1)) (fun k => k ≤ l.length ∧ ∀ j, j < k → ¬ subS s (at0 l j)) (fun k => l.length - k) 0 (by simp) (SubI.slots rfl (by simp)) ?_
  rintro k ⟨hk, hn⟩
  by_cases hlt : k < l.length
  · have hf := allS_at hS hlt
    by_cases he : band (at0 l k) s = s
    · have hv1 : v = true := hv ▸ dec_true ⟨_, getD_mem' hlt, (subS_iff' hs hf).2 he⟩
      simp -implicitDefEqProofs [sc_s_l3Has_L0, hlt, he, hv1]
      try omega
    · simp -implicitDefEqProofs [sc_s_l3Has_L0, hlt, he]
      repeat' (first | omega | apply And.intro)
      refine Again.of (k + 1) ⟨by omega, fun j hj => ?_⟩ (by omega) (SubI.slots rfl (by simp (disch := omega) [wrapI]))
      rcases Nat.lt_succ_iff_lt_or_eq.1 hj with h1 | rfl
      · exact hn j h1
      · exact fun h => he ((subS_iff' hs hf).1 h)
  · have hv1 : v = false := by
      rw [← hv]
      refine dec_false ?_
      rintro ⟨f, h1, h2⟩
      obtain ⟨j, hj, rfl⟩ := getD_mem_iff.1 h1
      exact hn j (by omega) h2
    simp -implicitDefEqProofs [sc_s_l3Has_L0, hlt, hv1]
end Go.Proofs.Ytmemomfffehnkaa
namespace Go.Proofs.Ytmemomfffehnkaa
open Go Go.RowKit
set_option maxRecDepth 1000000
set_option linter.unusedSimpArgs false
set_option linter.unusedVariables false
set_option maxHeartbeats 1000000
def sc_s_l2Order_L4 : SC := (.seq (.seq (.reg [⟨(some 26), none, (.mov (.t 7))⟩, ⟨(some 27), none, (.bin false .lss (.t 26) (.c (.int .i64 64)))⟩]) (.cond (.t 27) .skip (.exit 4))) (.seq (.block 5 (.seq (.reg [⟨(some 30), none, (.mov (.t 3))⟩, ⟨(some 31), none, (.mov (.t 7))⟩, ⟨(some 32), none, (.idx 1 (.t 30) (.t 31))⟩, ⟨(some 33), none, (.ld none (.bool false) (.t 32))⟩, ⟨(some 34), none, (.mov (.t 33))⟩, ⟨(some 35), (some (34, true)), (.mov (.t 7))⟩, ⟨(some 36), (some (34, true)), (.call 156 [(.t 35)])⟩, ⟨(some 37), (some (34, true)), (.mov (.t 6))⟩, ⟨(some 38), (some (34, true)), (.bin false .eql (.t 36) (.t 37))⟩, ⟨(some 39), none, (.pick (.t 34) (.t 38) (.c (.bool false)))⟩]) (.cond (.t 39) (.reg [⟨(some 40), none, (.mov (.t 5))⟩, ⟨(some 41), none, (.mov (.t 7))⟩, ⟨(some 42), none, (.mks 1 1 [(.int .i64 0)] [(0, (1, (.t 41)))])⟩, ⟨(some 43), none, (.app 1 8 (.t 40) (.t 42))⟩, ⟨(some 5), none, (.mov (.t 43))⟩]) .skip))) (.reg [⟨(some 28), none, (.mov (.t 7))⟩, ⟨(some 29), none, (.bin false .add (.t 28) (.c (.int .i64 1)))⟩, ⟨(some 7), none, (.mov (.t 29))⟩])))
def sc_s_l2Order_L2 : SC := (.seq (.seq (.reg [⟨(some 22), none, (.mov (.t 6))⟩, ⟨(some 23), none, (.bin false .leq (.t 22) (.c (.int .i64 6)))⟩]) (.cond (.t 23) .skip (.exit 2))) (.seq (.block 3 (.seq (.reg [⟨(some 7), none, (.mov (.c (.int .i64 0)))⟩]) (.block 4 (.loop sc_s_l2Order_L4)))) (.reg [⟨(some 24), none, (.mov (.t 6))⟩, ⟨(some 25), none, (.bin false .add (.t 24) (.c (.int .i64 1)))⟩, ⟨(some 6), none, (.mov (.t 25))⟩])))
def sc_s_l2Order_L0 : SC := (.seq (.seq (.reg [⟨(some 9), none, (.mov (.t 4))⟩, ⟨(some 10), none, (.mov (.t 0))⟩, ⟨(some 11), none, (.len (.t 10))⟩, ⟨(some 12), none, (.bin false .lss (.t 9) (.t 11))⟩]) (.cond (.t 12) .skip (.exit 0))) (.seq (.block 1 (.reg [⟨(some 15), none, (.mov (.t 3))⟩, ⟨(some 16), none, (.mov (.t 0))⟩, ⟨(some 17), none, (.mov (.t 4))⟩, ⟨(some 18), none, (.idx 1 (.t 16) (.t 17))⟩, ⟨(some 19), none, (.ld none (.int .i64 0) (.t 18))⟩, ⟨(some 20), none, (.idx 1 (.t 15) (.t 19))⟩, ⟨none, none, (.st 1 (.t 20) (.c (.bool true)))⟩])) (.reg [⟨(some 13), none, (.mov (.t 4))⟩, ⟨(some 14), none, (.bin false .add (.t 13) (.c (.int .i64 1)))⟩, ⟨(some 4), none, (.mov (.t 14))⟩])))
def sc_s_l2Order : SC := (.seq (.reg [⟨(some 2), none, (.mov (.c .nil))⟩]) (.seq (.reg [⟨(some 8), none, (.mk 1 1 [(.bool false)] (.c (.int .i64 64)) (.c (.int .i64 64)))⟩, ⟨(some 3), none, (.mov (.t 8))⟩]) (.seq (.seq (.reg [⟨(some 4), none, (.mov (.c (.int .i64 0)))⟩]) (.block 0 (.loop sc_s_l2Order_L0))) (.seq (.reg [⟨(some 21), none, (.mks 0 1 [] [])⟩, ⟨(some 5), none, (.mov (.t 21))⟩]) (.seq (.seq (.reg [⟨(some 6), none, (.mov (.c (.int .i64 0)))⟩]) (.block 2 (.loop sc_s_l2Order_L2))) (.seq (.reg [⟨(some 44), none, (.mov (.t 5))⟩, ⟨(some 2), none, (.mov (.t 44))⟩]) .ret))))))
theorem code_s_l2Order : fnCode Try.prog [] 159 = some (45, sc_s_l2Order, [(2, none)]) := by kernel_rfl
theorem bools_setI {p : Int → Prop} {s : Int} (hs : isS s) : (bools p).set s.toNat (.bool true) = bools fun t => p t ∨ t = s := by
  obtain ⟨k, hk, rfl⟩ := isS_nat hs
  exact bools_set hk
@[simp high] theorem bools_getD {p : Int → Prop} {k : Nat} (hk : k < 64) (d : V) : (bools p).getD k d = .bool (dec (p (k : Int))) := by
  rw [List.getD_eq_getElem?_getD, bools_get hk]
open Classical in
noncomputable def F_s_l2Order : List V → Option V := F1 dL fun l => if allS l then some (.own 1 (ints (setsOf fun s => s ∈ l))) else none
theorem fn_s_l2Order : FnOk Try.prog 159 F_s_l2Order := by
  have env := (envNil_ok (P := Try.prog)).add fn_s_l2Size
  refine fn_ok code_s_l2Order mixed env ?_
  intro args r h hb
  obtain ⟨_, l, rfl, h1, h4⟩ := F1_inv h
  cases dL_inv h1
  simp only [Option.ite_none_right_eq_some, Option.some.injEq] at h4
  obtain ⟨hS, rfl⟩ := h4
  have hlen := bnd_ints (hb _ (List.mem_cons_self ..))
  refine ⟨by simp, fun w0 U0 L0 N0 => ?_⟩
  have inner : ∀ (p : Int → Prop) (z : Nat) (Q : Post) (L : Tm), z ≤ 6 → subE L [(3, .sl 0 1 0 64), (5, .sl 1 1 0 (ordS p z).length), (6, .int .i64 (z : Int)), (7, .int .i64 0)] →
      Q (.exit 4) [(3, .sl 0 1 0 64), (5, .sl 1 1 0 (ordS p (z + 1)).length), (6, .int .i64 (z : Int))] ([(1, ints (ordS p (z + 1))), (0, bools p)], 2) →
      LoopI ⟨Try.prog, w0, U0, L0, N0, 0, 45⟩ [] sc_s_l2Order_L4 Q L ([(1, ints (ordS p z)), (0, bools p)], 2) := by
    intro p z Q L hz hs q1
    have ob := ordS_len p z
    refine loopQ env mixed (fun k : Nat => [(3, .sl 0 1 0 64), (5, .sl 1 1 0 (ordS p z ++ upS (fun s => p s ∧ sz s = z) k).length), (6, .int .i64 (z : Int)), (7, .int .i64 (k : Int))]) (fun k => ([(1, ints (ordS p z ++ upS (fun s => p s ∧ sz s = z) k)), (0, bools p)], 2)) (fun k => k ≤ 64) (fun k => 64 - k) 0 (by simp)
      (SubI.slots (by simp [upS]) (by simpa [upS] using hs)) ?_
    intro k hk
    have ub := upS_len (fun s => p s ∧ sz s = z) k
    by_cases hlt : k < 64
    · have hlt' : (k : Int) < 64 := by omega
      have r1 : (k : Int) < 9223372036854775808 := by omega
      by_cases hp : p (k : Int)
      · have hpd := dec_true hp
        by_cases hsz : sz (k : Int) = (z : Int)
        · have e : upS (fun s => p s ∧ sz s = z) (k + 1) = upS (fun s => p s ∧ sz s = z) k ++ [(k : Int)] := upS_pos ⟨hp, hsz⟩
          have e2 : ordS p z ++ upS (fun s => p s ∧ sz s = z) (k + 1) = (ordS p z ++ upS (fun s => p s ∧ sz s = z) k) ++ [(k : Int)] := by rw [e, List.append_assoc]
          have gl : (ordS p z ++ upS (fun s => p s ∧ sz s = z) k).length ≤ 64 * z + k := by rw [List.length_append]; omega
          generalize hg : ordS p z ++ upS (fun s => p s ∧ sz s = z) k = g at *
          simp -implicitDefEqProofs [sc_s_l2Order_L4, F_s_l2Size, hlt, hlt', r1, hpd, hsz]
          repeat' (first | omega | apply And.intro)
          refine Again.of (k + 1) (by omega) (by omega) (SubI.ren (fun m => if m = 0 then some 0 else if m = 1 then some 3 else none) ?_ ?_ ?_ (by simp) (by simp))
          · have el := congrArg List.length e2
            simp only [List.length_append, List.length_cons, List.length_nil] at el
            simp (disch := omega) [subT, renV, ren1, wrapI, e2]
            omega
          · simp [subH, e2, renL, ren1]
            rw [← ints_app]
            rfl
          · intro m hm
            simp only at hm
            rw [if_neg (by omega), if_neg (by omega)]
        · have e : upS (fun s => p s ∧ sz s = z) (k + 1) = upS (fun s => p s ∧ sz s = z) k := upS_neg fun h => hsz h.2
          simp -implicitDefEqProofs [sc_s_l2Order_L4, F_s_l2Size, hlt, hlt', r1, hpd, hsz]
          repeat' (first | omega | apply And.intro)
          exact Again.of (k + 1) (by omega) (by omega) (SubI.slots (by simp [e]) (by simp (disch := omega) [wrapI, e]))
      · have hpd := dec_false hp
        have e : upS (fun s => p s ∧ sz s = z) (k + 1) = upS (fun s => p s ∧ sz s = z) k := upS_neg fun h => hp h.1
        simp -implicitDefEqProofs [sc_s_l2Order_L4, hlt, hlt', hpd]
        repeat' (first | omega | apply And.intro)
        exact Again.of (k + 1) (by omega) (by omega) (SubI.slots (by simp [e]) (by simp (disch := omega) [wrapI, e]))
    · have : k = 64 := by omega
      subst this
      simp -implicitDefEqProofs [sc_s_l2Order_L4]
      exact SubQ.of (SubI.slots (by simp [ordS]) (by simp [ordS])) q1
  simp -implicitDefEqProofs [sc_s_l2Order]
  refine loopI env mixed (fun k : Nat => [(0, .list 1 (ints l)), (3, .sl 0 1 0 64), (4, .int .i64 (k : Int))]) (fun k => ([(0, bools fun s => s ∈ l.take k)], 1)) (fun k => k ≤ l.length) (fun k => l.length - k) 0 (by simp) (SubI.slots (by simp [← bools_none]) (by simp)) ?_
  intro k hk
  by_cases hlt : k < l.length
  · have hf := allS_at hS hlt
    have e : (bools fun t => t ∈ l.take k ∨ t = at0 l k) = bools fun t => t ∈ l.take (k + 1) := by
      rw [take_at hlt]
      exact bools_congr fun s _ => by simp
    have f0 := hf.1
    have f1 := hf.2
    have f2 : (at0 l k).toNat < 64 := by omega
    have es := bools_setI (p := fun t => t ∈ l.take k) hf
    simp -implicitDefEqProofs [sc_s_l2Order_L0, hlt, f0, f1, f2, es, e]
    repeat' (first | omega | apply And.intro)
    exact Again.of (k + 1) (by omega) (by omega) (SubI.slots (by simp) (by simp (disch := omega) [wrapI]))
  · have : k = l.length := by omega
    subst this
    simp -implicitDefEqProofs [sc_s_l2Order_L0]
    refine loopI env mixed (fun z : Nat => [(3, .sl 0 1 0 64), (5, .sl 1 1 0 (ordS (fun s => s ∈ l) z).length), (6, .int .i64 (z : Int))]) (fun z => ([(1, ints (ordS (fun s => s ∈ l) z)), (0, bools fun s => s ∈ l)], 2)) (fun z => z ≤ 7) (fun z => 7 - z) 0 (by simp) (SubI.slots (by simp [ordS]) (by simp [ordS])) ?_
    intro z hz
    by_cases h7 : z < 7
    · have hz6 : (z : Int) ≤ 6 := by omega
      simp -implicitDefEqProofs [sc_s_l2Order_L2, hz6]
      refine inner _ z _ _ (by omega) (by simp) ?_
      simp -implicitDefEqProofs
      exact Again.of (z + 1) (by omega) (by omega) (SubI.slots (by simp) (by simp (disch := omega) [wrapI]))
    · have : z = 7 := by omega
      subst this
      simp -implicitDefEqProofs [sc_s_l2Order_L2, setsOf_eq]
end Go.Proofs.Ytmemomfffehnkaa
namespace Go.Proofs.Ytmemomfffehnkaa
open Go Go.RowKit
set_option maxRecDepth 1000000
set_option linter.unusedSimpArgs false
set_option linter.unusedVariables false
set_option maxHeartbeats 1000000
def sc_s_FacesOf_L0 : SC := (.seq (.seq (.reg [⟨(some 6), none, (.mov (.t 4))⟩, ⟨(some 7), none, (.bin false .lss (.t 6) (.c (.int .i64 64)))⟩, ⟨(some 8), none, (.mov (.t 7))⟩, ⟨(some 9), (some (8, true)), (.ld (some 2) .undef (.t 1))⟩, ⟨(some 10), (some (8, true)), (.call 24 [(.t 9)])⟩, ⟨(some 11), none, (.pick (.t 8) (.t 10) (.c (.bool false)))⟩]) (.cond (.t 11) .skip (.exit 0))) (.seq (.block 1 (.seq (.reg [⟨(some 14), none, (.ld (some 2) .undef (.t 1))⟩, ⟨(some 15), none, (.mov (.t 4))⟩, ⟨(some 16), none, (.call 158 [(.t 14), (.t 15)])⟩]) (.cond (.t 16) (.reg [⟨(some 17), none, (.mov (.t 3))⟩, ⟨(some 18), none, (.mov (.t 4))⟩, ⟨(some 19), none, (.mks 1 1 [(.int .i64 0)] [(0, (1, (.t 18)))])⟩, ⟨(some 20), none, (.app 1 8 (.t 17) (.t 19))⟩, ⟨(some 3), none, (.mov (.t 20))⟩]) .skip))) (.reg [⟨(some 12), none, (.mov (.t 4))⟩, ⟨(some 13), none, (.bin false .add (.t 12) (.c (.int .i64 1)))⟩, ⟨(some 4), none, (.mov (.t 13))⟩])))
def sc_s_FacesOf : SC := (.seq (.reg [⟨(some 1), none, (.box (.t 0))⟩, ⟨(some 2), none, (.mov (.c .nil))⟩]) (.seq (.reg [⟨(some 5), none, (.mks 0 1 [] [])⟩, ⟨(some 3), none, (.mov (.t 5))⟩]) (.seq (.seq (.reg [⟨(some 4), none, (.mov (.c (.int .i64 0)))⟩]) (.block 0 (.loop sc_s_FacesOf_L0))) (.seq (.reg [⟨(some 21), none, (.mov (.t 3))⟩, ⟨(some 22), none, (.call 159 [(.t 21)])⟩, ⟨(some 2), none, (.mov (.t 22))⟩]) .ret))))
theorem code_s_FacesOf : fnCode Try.prog [] 43 = some (23, sc_s_FacesOf, [(2, none)]) := by kernel_rfl
/-- The faces of a complex, in order. -/
noncomputable def facesL (n : Int) (l : List Int) : List Int := setsOf fun s => cplx n l ∧ faceS l s
theorem facesL_of {n : Int} {l : List Int} (h : cplx n l) : facesL n l = setsOf (faceS l) := setsOf_congr fun s _ => ⟨fun a => a.2, fun a => ⟨h, a⟩⟩
theorem facesL_not {n : Int} {l : List Int} (h : ¬ cplx n l) : facesL n l = [] := by
  rw [← setsOf_none]
  exact setsOf_congr fun s _ => ⟨fun a => h a.1, False.elim⟩
noncomputable def F_s_FacesOf : List V → Option V := F1 dC fun c => some (.own 1 (ints (facesL c.1 c.2)))
theorem fn_s_FacesOf : FnOk Try.prog 43 F_s_FacesOf := by
  have env := (((envNil_ok (P := Try.prog)).add fn_s_l3Has).add fn_s_l2Order).add fn_s_IsComplex
  refine fn_ok code_s_FacesOf mixed env ?_
  intro args r h hb
  obtain ⟨_, ⟨n, l⟩, rfl, h1, h4⟩ := F1_inv h
  cases dC_inv h1
  cases h4
  refine ⟨by simp, fun w0 U0 L0 N0 => ?_⟩
  simp -implicitDefEqProofs [sc_s_FacesOf]
  cases hc : cplxB n l with
  | false =>
    have e : (setsOf fun x => x ∈ ([] : List Int)) = facesL n l := by
      rw [facesL_not fun h => by simp [cplxB_iff.2 h] at hc]
      exact (setsOf_congr (q := fun _ => False) fun s _ => by simp).trans setsOf_none
    refine loopI env mixed (fun _ : Unit => [(1, .pt 0 0), (3, .sl 1 1 0 0), (4, .int .i64 0)]) (fun _ => ([(1, []), (0, [.int .i64 n, .list 1 (ints l)])], 2)) (fun _ => True) (fun _ => 0) () trivial (SubI.slots (by simp) (by simp)) ?_
    intro _ _
    simp at e
    simp -implicitDefEqProofs [sc_s_FacesOf_L0, F_s_IsComplex, hc, F_s_l2Order, allS, e]
  | true =>
    have hcp := cplxB_iff.1 hc
    have hS := cplx_isS hcp
    refine loopI env mixed (fun k : Nat => [(1, .pt 0 0), (3, .sl 1 1 0 (upS (faceS l) k).length), (4, .int .i64 (k : Int))]) (fun k => ([(1, ints (upS (faceS l) k)), (0, [.int .i64 n, .list 1 (ints l)])], 2)) (fun k => k ≤ 64) (fun k => 64 - k) 0 (by simp) (SubI.slots (by simp [upS]) (by simp [upS])) ?_
    intro k hk
    have ub := upS_len (faceS l) k
    by_cases hlt : k < 64
    · have hlt' : (k : Int) < 64 := by omega
      have hkS := inS k hlt
      by_cases hp : faceS l (k : Int)
      · have e : upS (faceS l) (k + 1) = upS (faceS l) k ++ [(k : Int)] := upS_pos hp
        have hpd := dec_true hp
        simp -implicitDefEqProofs [sc_s_FacesOf_L0, F_s_IsComplex, F_s_l3Has, hc, hlt', hS, hkS, hpd]
        repeat' (first | omega | apply And.intro)
        refine Again.of (k + 1) (by omega) (by omega) (SubI.ren (fun m => if m = 0 then some 0 else if m = 1 then some 3 else none) ?_ ?_ ?_ (by simp) (by simp))
        · simp (disch := omega) [subT, renV, ren1, wrapI, e]
        · simp [subH, e, renL, ren1]
          rw [← ints_app]
          rfl
        · intro m hm
          simp only at hm
          rw [if_neg (by omega), if_neg (by omega)]
      · have e : upS (faceS l) (k + 1) = upS (faceS l) k := upS_neg hp
        have hpd := dec_false hp
        simp -implicitDefEqProofs [sc_s_FacesOf_L0, F_s_IsComplex, F_s_l3Has, hc, hlt', hS, hkS, hpd]
        repeat' (first | omega | apply And.intro)
        exact Again.of (k + 1) (by omega) (by omega) (SubI.slots (by simp [e]) (by simp (disch := omega) [wrapI, e]))
    · have : k = 64 := by omega
      subst this
      have e : (setsOf fun x => x ∈ upS (faceS l) 64) = facesL n l := by
        rw [facesL_of hcp]
        exact setsOf_congr fun x hx => by rw [mem_upS64]; exact ⟨fun h => h.2, fun h => ⟨hx, h⟩⟩
      simp -implicitDefEqProofs [sc_s_FacesOf_L0, F_s_l2Order, allS_upS, e]
end Go.Proofs.Ytmemomfffehnkaa
namespace Go.Proofs.Ytmemomfffehnkaa
open Go Go.RowKit
set_option maxRecDepth 1000000
set_option linter.unusedSimpArgs false
set_option linter.unusedVariables false
set_option maxHeartbeats 1000000
def sc_i_pickSets_L0 : SC := (.seq (.seq (.reg [⟨(some 7), none, (.mov (.t 6))⟩, ⟨(some 8), none, (.mov (.t 0))⟩, ⟨(some 9), none, (.conv .u64 (.t 8))⟩, ⟨(some 10), none, (.bin false .shl (.c (.int .i64 1)) (.t 9))⟩, ⟨(some 11), none, (.bin false .lss (.t 7) (.t 10))⟩]) (.cond (.t 11) .skip (.exit 0))) (.seq (.block 1 (.seq (.reg [⟨(some 14), none, (.mov (.t 1))⟩, ⟨(some 15), none, (.mov (.t 6))⟩, ⟨(some 16), none, (.callv (.t 14) [(.t 15)])⟩]) (.cond (.t 16) (.reg [⟨(some 17), none, (.mov (.t 5))⟩, ⟨(some 18), none, (.mov (.t 6))⟩, ⟨(some 19), none, (.conv .u64 (.t 18))⟩, ⟨(some 20), none, (.bin false .shl (.c (.int .u64 1)) (.t 19))⟩, ⟨(some 21), none, (.bin false .or (.t 17) (.t 20))⟩, ⟨(some 5), none, (.mov (.t 21))⟩]) .skip))) (.reg [⟨(some 12), none, (.mov (.t 6))⟩, ⟨(some 13), none, (.bin false .add (.t 12) (.c (.int .i64 1)))⟩, ⟨(some 6), none, (.mov (.t 13))⟩])))
def sc_i_pickSets : SC := (.seq (.reg [⟨(some 4), none, (.mov (.c (.int .u64 0)))⟩]) (.seq (.reg [⟨(some 5), none, (.mov (.c (.int .u64 0)))⟩]) (.seq (.seq (.reg [⟨(some 6), none, (.mov (.c (.int .i64 0)))⟩]) (.block 0 (.loop sc_i_pickSets_L0))) (.seq (.reg [⟨(some 22), none, (.mov (.t 5))⟩, ⟨(some 4), none, (.mov (.t 22))⟩]) .ret))))
theorem code_i_pickSets : fnCode Try.prog [] 227 = some (23, sc_i_pickSets, [(4, none)]) := by kernel_rfl
/-- The contract of pickSets for one function value. -/
noncomputable def F_i_pickSets (f0 : FuncId) (G : List V → Option V) : List V → Option V
  | [.int .i64 n, .fn f caps] => @ite _ (f = f0 ∧ 0 ≤ n ∧ n ≤ 6 ∧ (∀ H, caps.map (dr H 6) = caps) ∧ ∀ s, 0 ≤ s → s < 2 ^ n.toNat → ∃ b, G (.int .i64 s :: caps) = some (.bool b)) (Classical.propDecidable _)
      (some (.int .u64 (fam fun s => s < 2 ^ n.toNat ∧ G (.int .i64 s :: caps) = some (.bool true)))) none
  | _ => none
theorem fn_i_pickSets {f0 : FuncId} {G : List V → Option V} (hf : FnOk Try.prog f0 G) : FnOk Try.prog 227 (F_i_pickSets f0 G) := by
  have env := (envNil_ok (P := Try.prog)).add hf
  refine fn_ok code_i_pickSets mixed env ?_
  intro args r h hb
  unfold F_i_pickSets at h
  split at h
  case h_2 => simp at h
  rename_i n f caps
  simp only [Option.ite_none_right_eq_some, Option.some.injEq] at h
  obtain ⟨⟨rfl, hn0, hn6, hcaps, hG⟩, rfl⟩ := h
  obtain ⟨m, rfl⟩ : ∃ m : Nat, n = m := ⟨n.toNat, by omega⟩
  simp only [Int.toNat_natCast] at *
  have hm : m ≤ 6 := by omega
  have hu : IntKind.u64.wrap (m : Int) = m := wrapU _ (by omega) (by omega)
  have hsh : IntKind.i64.wrap (2 ^ min m IntKind.i64.bits) = 2 ^ m := by
    have : ∀ i : Nat, i ≤ 6 → IntKind.i64.wrap (2 ^ min i IntKind.i64.bits) = 2 ^ i := by decide +kernel
    exact this m hm
  have hp : ∃ M : Nat, M ≤ 64 ∧ (2 : Int) ^ m = M := ⟨2 ^ m, by have : 2 ^ m ≤ 2 ^ 6 := Nat.pow_le_pow_right (by omega) hm; omega, by simp⟩
  refine ⟨by simp, fun w0 U0 L0 N0 => ?_⟩
  have e0 : (0 : Int) = fam fun s => s < ((0 : Nat) : Int) ∧ G (.int .i64 s :: caps) = some (.bool true) := (fam_zero.2 fun u hu h => by have := hu.1; have := h.1; omega).symm
  generalize (2 : Int) ^ m = P2 at *
  obtain ⟨M, hM, rfl⟩ := hp
  simp -implicitDefEqProofs [sc_i_pickSets]
  refine loopI env mixed (fun k : Nat => [(0, .int .i64 (m : Int)), (1, .fn f caps), (5, .int .u64 (fam fun s => s < (k : Int) ∧ G (.int .i64 s :: caps) = some (.bool true))), (6, .int .i64 (k : Int))]) (fun _ => ([], 0)) (fun k => k ≤ M) (fun k => M - k) 0 (by simp) (SubI.slots rfl (by simp only [subE_cons, subE_nil, ← e0]; simp)) ?_
  intro k hk
  by_cases hlt : k < M
  · have hkS := inS k (by omega)
    have hu2 := wrapS hkS
    have h1 := fam_one hkS
    simp only [Int.toNat_natCast] at h1
    have p0 : (0 : Int) ≤ k := by omega
    obtain ⟨b, hb⟩ := hG k (by omega) (by omega)
    have hcl := hcaps []
    cases b with
    | true =>
      have e : (fam fun s => (s < (k : Int) ∧ G (.int .i64 s :: caps) = some (.bool true)) ∨ s = (k : Int)) = fam fun s => s < ((k + 1 : Nat) : Int) ∧ G (.int .i64 s :: caps) = some (.bool true) := by
        refine fam_congr fun s hs => ⟨?_, fun h => ?_⟩
        · rintro (h | rfl)
          · exact ⟨by omega, h.2⟩
          · exact ⟨by omega, hb⟩
        · by_cases a : s = (k : Int)
          · exact .inr a
          · exact .inl ⟨by have := h.1; omega, h.2⟩
      simp -implicitDefEqProofs [sc_i_pickSets_L0, hu, hsh, hlt, hcl, hb, hu2, h1]
      repeat' (first | omega | apply And.intro)
      exact Again.of (k + 1) (by omega) (by omega) (SubI.slots rfl (by simp (disch := omega) only [subE_cons, subE_nil, ← e]; simp (disch := omega) [wrapI]))
    | false =>
      have e : (fam fun s => s < (k : Int) ∧ G (.int .i64 s :: caps) = some (.bool true)) = fam fun s => s < ((k + 1 : Nat) : Int) ∧ G (.int .i64 s :: caps) = some (.bool true) := by
        refine fam_congr fun s hs => ⟨fun h => ⟨by omega, h.2⟩, fun h => ⟨?_, h.2⟩⟩
        by_cases a : s = (k : Int)
        · rw [a, hb] at h; simp at h
        · have := h.1; omega
      simp -implicitDefEqProofs [sc_i_pickSets_L0, hu, hsh, hlt, hcl, hb]
      repeat' (first | omega | apply And.intro)
      exact Again.of (k + 1) (by omega) (by omega) (SubI.slots rfl (by simp (disch := omega) only [subE_cons, subE_nil, ← e]; simp (disch := omega) [wrapI]))
  · have : k = M := by omega
    subst this
    simp -implicitDefEqProofs [sc_i_pickSets_L0, hu, hsh]
end Go.Proofs.Ytmemomfffehnkaa
