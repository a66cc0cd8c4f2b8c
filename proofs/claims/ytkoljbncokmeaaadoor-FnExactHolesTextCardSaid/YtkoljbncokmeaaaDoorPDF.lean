import Derived.Test.YtkoljbncokmeaaaDoorPDE
namespace Go.Proofs.YtkoljbncokmeaaaDoor
open Go Go.RowKit
set_option maxRecDepth 1000000
set_option linter.unusedSimpArgs false
set_option linter.unusedVariables false
set_option maxHeartbeats 1000000
def sc_i_subsetFamily_L0 : SC := (.seq (.block 1 (.seq (.reg [⟨(some 10), none, (.mov (.t 3))⟩, ⟨(some 11), none, (.mov (.t 4))⟩, ⟨(some 12), none, (.conv .u64 (.t 11))⟩, ⟨(some 13), none, (.bin false .shl (.c (.int .u64 1)) (.t 12))⟩, ⟨(some 14), none, (.bin false .or (.t 10) (.t 13))⟩, ⟨(some 3), none, (.mov (.t 14))⟩]) (.seq (.reg [⟨(some 15), none, (.mov (.t 4))⟩, ⟨(some 16), none, (.bin false .eql (.t 15) (.c (.int .i64 0)))⟩]) (.cond (.t 16) (.seq (.reg [⟨(some 17), none, (.mov (.t 3))⟩, ⟨(some 2), none, (.mov (.t 17))⟩]) .ret) .skip)))) (.reg [⟨(some 6), none, (.mov (.t 4))⟩, ⟨(some 7), none, (.bin false .sub (.t 6) (.c (.int .i64 1)))⟩, ⟨(some 8), none, (.mov (.t 0))⟩, ⟨(some 9), none, (.bin false .and (.t 7) (.t 8))⟩, ⟨(some 4), none, (.mov (.t 9))⟩]))
def sc_i_subsetFamily : SC := (.seq (.reg [⟨(some 2), none, (.mov (.c (.int .u64 0)))⟩]) (.seq (.reg [⟨(some 3), none, (.mov (.c (.int .u64 0)))⟩]) (.seq (.reg [⟨(some 5), none, (.mov (.t 0))⟩, ⟨(some 4), none, (.mov (.t 5))⟩]) (.block 0 (.loop sc_i_subsetFamily_L0)))))
theorem code_i_subsetFamily : fnCode Tryd.prog [] 49 = some (18, sc_i_subsetFamily, [(2, none)]) := by kernel_rfl
open Classical in
noncomputable def F_i_subsetFamily : List V → Option V := F1 dI fun s => if isS s then some (.int .u64 (fam fun t => subS t s)) else none
theorem fn_i_subsetFamily : FnOk Tryd.prog 49 F_i_subsetFamily := by
  refine fn_ok code_i_subsetFamily mixed envNil_ok ?_
  intro args r h hb
  obtain ⟨_, s, rfl, h1, h4⟩ := F1_inv h
  cases dI_inv h1
  simp only [Option.ite_none_right_eq_some, Option.some.injEq] at h4
  obtain ⟨hs, rfl⟩ := h4
  refine ⟨by simp, fun w0 U0 L0 N0 => ?_⟩
  generalize hv : fam (fun t => subS t s) = v
  have e0 : (0 : Int) = fam fun u => subS u s ∧ s < u := (fam_zero.2 fun u hu h => by have := subS_le hu hs h.1; omega).symm
  simp -implicitDefEqProofs [sc_i_subsetFamily]
  refine loopI envNil_ok mixed (fun t : Int => [(0, .int .i64 s), (3, .int .u64 (fam fun u => subS u s ∧ t < u)), (4, .int .i64 t)]) (fun _ => ([], 0)) (fun t => isS t ∧ subS t s) (fun t => t.toNat) s ⟨hs, subS_refl hs⟩ (SubI.slots rfl (by simp [← e0])) ?_
  rintro t ⟨ht, hts⟩
  have hu := wrapS ht
  have h1 := fam_one ht
  by_cases h0 : t = 0
  · subst h0
    have h2 : IntKind.u64.wrap 1 = fam fun t => t = 0 := by simpa using fam_one isS_zero
    have e : (fam fun u => (subS u s ∧ 0 < u) ∨ u = 0) = v := by
      rw [← hv]
      refine fam_congr fun u hu => ⟨?_, fun h => ?_⟩
      · rintro (h | rfl)
        · exact h.1
        · exact subS_zero hs
      · by_cases hz : u = 0
        · exact .inr hz
        · exact .inl ⟨h, by have := hu.1; omega⟩
    simp -implicitDefEqProofs [sc_i_subsetFamily_L0, hu, h2, e]
  · obtain ⟨n1, n2, n3, n4⟩ := sub_next hs ht hts h0
    have hw : IntKind.i64.wrap (t - 1) = t - 1 := wrapI _ (by have := ht.1; omega) (by have := ht.2; omega)
    have e : (fam fun u => (subS u s ∧ t < u) ∨ u = t) = fam fun u => subS u s ∧ band (t - 1) s < u := by
      refine fam_congr fun u hu => ⟨?_, fun h => ?_⟩
      · rintro (h | rfl)
        · exact ⟨h.1, by omega⟩
        · exact ⟨hts, n3⟩
      · rcases Int.lt_trichotomy u t with h3 | h3 | h3
        · exact absurd (n4 u hu h.1 h3) (by omega)
        · exact .inr h3
        · exact .inl ⟨h.1, h3⟩
    simp -implicitDefEqProofs [sc_i_subsetFamily_L0, hu, h1, h0, hw, e]
    have f0 := ht.1
    repeat' (first | omega | apply And.intro)
    exact Again.of (band (t - 1) s) ⟨n1, n2⟩ (by have := n1.1; omega) (SubI.slots rfl (by simp))
def sc_i_facesIn_L0 : SC := (.seq (.reg [⟨(some 10), none, (.bin false .lss (.t 9) (.t 8))⟩]) (.seq (.cond (.t 10) .skip (.exit 0)) (.seq (.block 1 (.seq (.reg [⟨(some 11), none, (.idx 1 (.t 7) (.t 9))⟩, ⟨(some 12), none, (.ld none (.int .i64 0) (.t 11))⟩, ⟨(some 5), none, (.mov (.t 12))⟩]) (.reg [⟨(some 13), none, (.mov (.t 3))⟩, ⟨(some 14), none, (.mov (.t 5))⟩, ⟨(some 15), none, (.call 49 [(.t 14)])⟩, ⟨(some 16), none, (.bin false .or (.t 13) (.t 15))⟩, ⟨(some 3), none, (.mov (.t 16))⟩]))) (.reg [⟨(some 17), none, (.bin false .add (.t 9) (.c (.int .i64 1)))⟩, ⟨(some 9), none, (.mov (.t 17))⟩]))))
def sc_i_facesIn : SC := (.seq (.reg [⟨(some 1), none, (.box (.t 0))⟩, ⟨(some 2), none, (.mov (.c (.int .u64 0)))⟩]) (.seq (.reg [⟨(some 3), none, (.mov (.c (.int .u64 0)))⟩]) (.seq (.seq (.reg [⟨(some 6), none, (.fad 1 (.t 1))⟩, ⟨(some 7), none, (.ld none .nil (.t 6))⟩, ⟨(some 8), none, (.len (.t 7))⟩, ⟨(some 9), none, (.mov (.c (.int .i64 0)))⟩]) (.block 0 (.loop sc_i_facesIn_L0))) (.seq (.reg [⟨(some 18), none, (.mov (.t 3))⟩, ⟨(some 2), none, (.mov (.t 18))⟩]) .ret))))
theorem code_i_facesIn : fnCode Tryd.prog [] 30 = some (19, sc_i_facesIn, [(2, none)]) := by kernel_rfl
open Classical in
noncomputable def F_i_facesIn : List V → Option V := F1 dC fun c => if allS c.2 then some (.int .u64 (fam (faceS c.2))) else none
theorem fn_i_facesIn : FnOk Tryd.prog 30 F_i_facesIn := by
  have env := (envNil_ok (P := Tryd.prog)).add fn_i_subsetFamily
  refine fn_ok code_i_facesIn mixed env ?_
  intro args r h hb
  obtain ⟨_, ⟨n, l⟩, rfl, h1, h4⟩ := F1_inv h
  cases dC_inv h1
  simp only [Option.ite_none_right_eq_some, Option.some.injEq] at h4
  obtain ⟨hS, rfl⟩ := h4
  have hlen := bnd_eC (hb _ (List.mem_cons_self ..))
  simp only at hlen
  refine ⟨by simp, fun w0 U0 L0 N0 => ?_⟩
  have e0 : (0 : Int) = fam (faceS []) := (fam_zero.2 fun u hu h => by obtain ⟨f, h1, _⟩ := h; simp at h1).symm
  simp -implicitDefEqProofs [sc_i_facesIn]
  refine loopI env mixed (fun k : Nat => [(3, .int .u64 (fam (faceS (l.take k)))), (7, .list 1 (ints l)), (8, .int .i64 l.length), (9, .int .i64 (k : Int))]) (fun _ => ([(0, [.int .i64 n, .list 1 (ints l)])], 1)) (fun k => k ≤ l.length) (fun k => l.length - k) 0 (by simp) (SubI.slots rfl (by simp [← e0])) ?_
  intro k hk
  by_cases hlt : k < l.length
  · have hf := allS_at hS hlt
    have e : (fam fun s => faceS (l.take k) s ∨ subS s (at0 l k)) = fam (faceS (l.take (k + 1))) := by
      rw [take_at hlt]
      exact fam_congr fun s _ => faceS_snoc.symm
    simp -implicitDefEqProofs [sc_i_facesIn_L0, F_i_subsetFamily, hlt, hf, e]
    repeat' (first | omega | apply And.intro)
    refine Again.of (k + 1) (by omega) (by omega) (SubI.slots rfl (by simp (disch := omega) [wrapI]))
  · have : k = l.length := by omega
    subst this
    simp -implicitDefEqProofs [sc_i_facesIn_L0]
def sc_s_l3Has_L0 : SC := (.seq (.seq (.reg [⟨(some 6), none, (.mov (.t 5))⟩, ⟨(some 7), none, (.fad 1 (.t 2))⟩, ⟨(some 8), none, (.ld none .nil (.t 7))⟩, ⟨(some 9), none, (.len (.t 8))⟩, ⟨(some 10), none, (.bin false .lss (.t 6) (.t 9))⟩]) (.cond (.t 10) .skip (.exit 0))) (.seq (.block 1 (.seq (.reg [⟨(some 13), none, (.fad 1 (.t 2))⟩, ⟨(some 14), none, (.ld none .nil (.t 13))⟩, ⟨(some 15), none, (.mov (.t 5))⟩, ⟨(some 16), none, (.idx 1 (.t 14) (.t 15))⟩, ⟨(some 17), none, (.ld none (.int .i64 0) (.t 16))⟩, ⟨(some 18), none, (.mov (.t 1))⟩, ⟨(some 19), none, (.bin false .and (.t 17) (.t 18))⟩, ⟨(some 20), none, (.mov (.t 1))⟩, ⟨(some 21), none, (.bin false .eql (.t 19) (.t 20))⟩]) (.cond (.t 21) (.seq (.reg [⟨(some 4), none, (.mov (.c (.bool true)))⟩]) .ret) .skip))) (.reg [⟨(some 11), none, (.mov (.t 5))⟩, ⟨(some 12), none, (.bin false .add (.t 11) (.c (.int .i64 1)))⟩, ⟨(some 5), none, (.mov (.t 12))⟩])))
def sc_s_l3Has : SC := (.seq (.reg [⟨(some 2), none, (.box (.t 0))⟩, ⟨(some 4), none, (.mov (.c (.bool false)))⟩]) (.seq (.seq (.reg [⟨(some 5), none, (.mov (.c (.int .i64 0)))⟩]) (.block 0 (.loop sc_s_l3Has_L0))) (.seq (.reg [⟨(some 4), none, (.mov (.c (.bool false)))⟩]) .ret)))
theorem code_s_l3Has : fnCode Tryd.prog [] 58 = some (22, sc_s_l3Has, [(4, none)]) := by kernel_rfl
open Classical in
noncomputable def F_s_l3Has : List V → Option V := F2 dC dI fun c s => if allS c.2 ∧ isS s then some (.bool (dec (faceS c.2 s))) else none
theorem fn_s_l3Has : FnOk Tryd.prog 58 F_s_l3Has := by
  refine fn_ok code_s_l3Has mixed envNil_ok ?_
  intro args r h hb
  obtain ⟨_, _, ⟨n, l⟩, s, rfl, h1, h2, h4⟩ := F2_inv h
  cases dC_inv h1
  cases dI_inv h2
  simp only [Option.ite_none_right_eq_some, Option.some.injEq] at h4
  obtain ⟨⟨hS, hs⟩, rfl⟩ := h4
  have hlen := bnd_eC (hb _ (List.mem_cons_self ..))
  simp only at hlen
  refine ⟨by simp, fun w0 U0 L0 N0 => ?_⟩
  generalize hv : dec (faceS l s) = v
  simp -implicitDefEqProofs [sc_s_l3Has]
  refine loopI envNil_ok mixed (fun k : Nat => [(1, .int .i64 s), (2, .pt 0 0), (5, .int .i64 (k : Int))]) (fun _ => ([(0, [.int .i64 n, .list 1 (ints l)])], 1)) (fun k => k ≤ l.length ∧ ∀ j, j < k → ¬ subS s (at0 l j)) (fun k => l.length - k) 0 (by simp) (SubI.slots rfl (by simp)) ?_
  rintro k ⟨hk, hn⟩
  by_cases hlt : k < l.length
  · have hf := allS_at hS hlt
    by_cases he : band (at0 l k) s = s
    · have hv1 : v = true := hv ▸ dec_true ⟨_, getD_mem' hlt, (subS_iff' hs hf).2 he⟩
      simp -implicitDefEqProofs [sc_s_l3Has_L0, hlt, he, hv1]
      try omega
    · simp -implicitDefEqProofs [sc_s_l3Has_L0, hlt, he]
      repeat' (first | omega | apply And.intro)
      refine Again.of (k + 1) ⟨by omega, fun j hj => ?_⟩ (by omega) (SubI.slots rfl (by simp (disch := omega) [wrapI]))
      rcases Nat.lt_succ_iff_lt_or_eq.1 hj with h1 | rfl
      · exact hn j h1
      · exact fun h => he ((subS_iff' hs hf).1 h)
  · have hv1 : v = false := by
      rw [← hv]
      refine dec_false ?_
      rintro ⟨f, h1, h2⟩
      obtain ⟨j, hj, rfl⟩ := getD_mem_iff.1 h1
      exact hn j (by omega) h2
    simp -implicitDefEqProofs [sc_s_l3Has_L0, hlt, hv1]
end Go.Proofs.YtkoljbncokmeaaaDoor
namespace Go.Proofs.YtkoljbncokmeaaaDoor
open Go Go.RowKit
set_option maxRecDepth 1000000
set_option linter.unusedSimpArgs false
set_option linter.unusedVariables false
set_option maxHeartbeats 1000000
def sc_s_l2Order_L4 : SC := (.seq (.seq (.reg [⟨(some 26), none, (.mov (.t 7))⟩, ⟨(some 27), none, (.bin false .lss (.t 26) (.c (.int .i64 64)))⟩]) (.cond (.t 27) .skip (.exit 4))) (.seq (.block 5 (.seq (.reg [⟨(some 30), none, (.mov (.t 3))⟩, ⟨(some 31), none, (.mov (.t 7))⟩, ⟨(some 32), none, (.idx 1 (.t 30) (.t 31))⟩, ⟨(some 33), none, (.ld none (.bool false) (.t 32))⟩, ⟨(some 34), none, (.mov (.t 33))⟩, ⟨(some 35), (some (34, true)), (.mov (.t 7))⟩, ⟨(some 36), (some (34, true)), (.call 38 [(.t 35)])⟩, ⟨(some 37), (some (34, true)), (.mov (.t 6))⟩, ⟨(some 38), (some (34, true)), (.bin false .eql (.t 36) (.t 37))⟩, ⟨(some 39), none, (.pick (.t 34) (.t 38) (.c (.bool false)))⟩]) (.cond (.t 39) (.reg [⟨(some 40), none, (.mov (.t 5))⟩, ⟨(some 41), none, (.mov (.t 7))⟩, ⟨(some 42), none, (.mks 1 1 [(.int .i64 0)] [(0, (1, (.t 41)))])⟩, ⟨(some 43), none, (.app 1 8 (.t 40) (.t 42))⟩, ⟨(some 5), none, (.mov (.t 43))⟩]) .skip))) (.reg [⟨(some 28), none, (.mov (.t 7))⟩, ⟨(some 29), none, (.bin false .add (.t 28) (.c (.int .i64 1)))⟩, ⟨(some 7), none, (.mov (.t 29))⟩])))
def sc_s_l2Order_L2 : SC := (.seq (.seq (.reg [⟨(some 22), none, (.mov (.t 6))⟩, ⟨(some 23), none, (.bin false .leq (.t 22) (.c (.int .i64 6)))⟩]) (.cond (.t 23) .skip (.exit 2))) (.seq (.block 3 (.seq (.reg [⟨(some 7), none, (.mov (.c (.int .i64 0)))⟩]) (.block 4 (.loop sc_s_l2Order_L4)))) (.reg [⟨(some 24), none, (.mov (.t 6))⟩, ⟨(some 25), none, (.bin false .add (.t 24) (.c (.int .i64 1)))⟩, ⟨(some 6), none, (.mov (.t 25))⟩])))
def sc_s_l2Order_L0 : SC := (.seq (.seq (.reg [⟨(some 9), none, (.mov (.t 4))⟩, ⟨(some 10), none, (.mov (.t 0))⟩, ⟨(some 11), none, (.len (.t 10))⟩, ⟨(some 12), none, (.bin false .lss (.t 9) (.t 11))⟩]) (.cond (.t 12) .skip (.exit 0))) (.seq (.block 1 (.reg [⟨(some 15), none, (.mov (.t 3))⟩, ⟨(some 16), none, (.mov (.t 0))⟩, ⟨(some 17), none, (.mov (.t 4))⟩, ⟨(some 18), none, (.idx 1 (.t 16) (.t 17))⟩, ⟨(some 19), none, (.ld none (.int .i64 0) (.t 18))⟩, ⟨(some 20), none, (.idx 1 (.t 15) (.t 19))⟩, ⟨none, none, (.st 1 (.t 20) (.c (.bool true)))⟩])) (.reg [⟨(some 13), none, (.mov (.t 4))⟩, ⟨(some 14), none, (.bin false .add (.t 13) (.c (.int .i64 1)))⟩, ⟨(some 4), none, (.mov (.t 14))⟩])))
def sc_s_l2Order : SC := (.seq (.reg [⟨(some 2), none, (.mov (.c .nil))⟩]) (.seq (.reg [⟨(some 8), none, (.mk 1 1 [(.bool false)] (.c (.int .i64 64)) (.c (.int .i64 64)))⟩, ⟨(some 3), none, (.mov (.t 8))⟩]) (.seq (.seq (.reg [⟨(some 4), none, (.mov (.c (.int .i64 0)))⟩]) (.block 0 (.loop sc_s_l2Order_L0))) (.seq (.reg [⟨(some 21), none, (.mks 0 1 [] [])⟩, ⟨(some 5), none, (.mov (.t 21))⟩]) (.seq (.seq (.reg [⟨(some 6), none, (.mov (.c (.int .i64 0)))⟩]) (.block 2 (.loop sc_s_l2Order_L2))) (.seq (.reg [⟨(some 44), none, (.mov (.t 5))⟩, ⟨(some 2), none, (.mov (.t 44))⟩]) .ret))))))
theorem code_s_l2Order : fnCode Tryd.prog [] 59 = some (45, sc_s_l2Order, [(2, none)]) := by kernel_rfl
theorem bools_setI {p : Int → Prop} {s : Int} (hs : isS s) : (bools p).set s.toNat (.bool true) = bools fun t => p t ∨ t = s := by
  obtain ⟨k, hk, rfl⟩ := isS_nat hs
  exact bools_set hk
@[simp high] theorem bools_getD {p : Int → Prop} {k : Nat} (hk : k < 64) (d : V) : (bools p).getD k d = .bool (dec (p (k : Int))) := by
  rw [List.getD_eq_getElem?_getD, bools_get hk]
open Classical in
noncomputable def F_s_l2Order : List V → Option V := F1 dL fun l => if allS l then some (.own 1 (ints (setsOf fun s => s ∈ l))) else none
theorem fn_s_l2Order : FnOk Tryd.prog 59 F_s_l2Order := by
  have env := (envNil_ok (P := Tryd.prog)).add fn_s_l2Size
  refine fn_ok code_s_l2Order mixed env ?_
  intro args r h hb
  obtain ⟨_, l, rfl, h1, h4⟩ := F1_inv h
  cases dL_inv h1
  simp only [Option.ite_none_right_eq_some, Option.some.injEq] at h4
  obtain ⟨hS, rfl⟩ := h4
  have hlen := bnd_ints (hb _ (List.mem_cons_self ..))
  refine ⟨by simp, fun w0 U0 L0 N0 => ?_⟩
  have inner : ∀ (p : Int → Prop) (z : Nat) (Q : Post) (L : Tm), z ≤ 6 → subE L [(3, .sl 0 1 0 64), (5, .sl 1 1 0 (ordS p z).length), (6, .int .i64 (z : Int)), (7, .int .i64 0)] →
      Q (.exit 4) [(3, .sl 0 1 0 64), (5, .sl 1 1 0 (ordS p (z + 1)).length), (6, .int .i64 (z : Int))] ([(1, ints (ordS p (z + 1))), (0, bools p)], 2) →
      LoopI ⟨Tryd.prog, w0, U0, L0, N0, 0, 45⟩ [] sc_s_l2Order_L4 Q L ([(1, ints (ordS p z)), (0, bools p)], 2) := by
    intro p z Q L hz hs q1
    have ob := ordS_len p z
    refine loopQ env mixed (fun k : Nat => [(3, .sl 0 1 0 64), (5, .sl 1 1 0 (ordS p z ++ upS (fun s => p s ∧ sz s = z) k).length), (6, .int .i64 (z : Int)), (7, .int .i64 (k : Int))]) (fun k => ([(1, ints (ordS p z ++ upS (fun s => p s ∧ sz s = z) k)), (0, bools p)], 2)) (fun k => k ≤ 64) (fun k => 64 - k) 0 (by simp)
      (SubI.slots (by simp [upS]) (by simpa [upS] using hs)) ?_
    intro k hk
    have ub := upS_len (fun s => p s ∧ sz s = z) k
    by_cases hlt : k < 64
    · have hlt' : (k : Int) < 64 := by omega
      have r1 : (k : Int) < 9223372036854775808 := by omega
      by_cases hp : p (k : Int)
      · have hpd := dec_true hp
        by_cases hsz : sz (k : Int) = (z : Int)
        · have e : upS (fun s => p s ∧ sz s = z) (k + 1) = upS (fun s => p s ∧ sz s = z) k ++ [(k : Int)] := upS_pos ⟨hp, hsz⟩
          have e2 : ordS p z ++ upS (fun s => p s ∧ sz s = z) (k + 1) = (ordS p z ++ upS (fun s => p s ∧ sz s = z) k) ++ [(k : Int)] := by rw [e, List.append_assoc]
          have gl : (ordS p z ++ upS (fun s => p s ∧ sz s = z) k).length ≤ 64 * z + k := by rw [List.length_append]; omega
          generalize hg : ordS p z ++ upS (fun s => p s ∧ sz s = z) k = g at *
          simp -implicitDefEqProofs [sc_s_l2Order_L4, F_s_l2Size, hlt, hlt', r1, hpd, hsz]
          repeat' (first | omega | apply And.intro)
          refine Again.of (k + 1) (by omega) (by omega) (SubI.ren (fun m => if m = 0 then some 0 else if m = 1 then some 3 else none) ?_ ?_ ?_ (by simp) (by simp))
          · have el := congrArg List.length e2
            simp only [List.length_append, List.length_cons, List.length_nil] at el
            simp (disch := omega) [subT, renV, ren1, wrapI, e2]
            omega
          · simp [subH, e2, renL, ren1]
            rw [← ints_app]
            rfl
          · intro m hm
            simp only at hm
            rw [if_neg (by omega), if_neg (by omega)]
        · have e : upS (fun s => p s ∧ sz s = z) (k + 1) = upS (fun s => p s ∧ sz s = z) k := upS_neg fun h => hsz h.2
          simp -implicitDefEqProofs [sc_s_l2Order_L4, F_s_l2Size, hlt, hlt', r1, hpd, hsz]
          repeat' (first | omega | apply And.intro)
          exact Again.of (k + 1) (by omega) (by omega) (SubI.slots (by simp [e]) (by simp (disch := omega) [wrapI, e]))
      · have hpd := dec_false hp
        have e : upS (fun s => p s ∧ sz s = z) (k + 1) = upS (fun s => p s ∧ sz s = z) k := upS_neg fun h => hp h.1
        simp -implicitDefEqProofs [sc_s_l2Order_L4, hlt, hlt', hpd]
        repeat' (first | omega | apply And.intro)
        exact Again.of (k + 1) (by omega) (by omega) (SubI.slots (by simp [e]) (by simp (disch := omega) [wrapI, e]))
    · have : k = 64 := by omega
      subst this
      simp -implicitDefEqProofs [sc_s_l2Order_L4]
      exact SubQ.of (SubI.slots (by simp [ordS]) (by simp [ordS])) q1
  simp -implicitDefEqProofs [sc_s_l2Order]
  refine loopI env mixed (fun k : Nat => [(0, .list 1 (ints l)), (3, .sl 0 1 0 64), (4, .int .i64 (k : Int))]) (fun k => ([(0, bools fun s => s ∈ l.take k)], 1)) (fun k => k ≤ l.length) (fun k => l.length - k) 0 (by simp) (SubI.slots (by simp [← bools_none]) (by simp)) ?_
  intro k hk
  by_cases hlt : k < l.length
  · have hf := allS_at hS hlt
    have e : (bools fun t => t ∈ l.take k ∨ t = at0 l k) = bools fun t => t ∈ l.take (k + 1) := by
      rw [take_at hlt]
      exact bools_congr fun s _ => by simp
    have f0 := hf.1
    have f1 := hf.2
    have f2 : (at0 l k).toNat < 64 := by omega
    have es := bools_setI (p := fun t => t ∈ l.take k) hf
    simp -implicitDefEqProofs [sc_s_l2Order_L0, hlt, f0, f1, f2, es, e]
    repeat' (first | omega | apply And.intro)
    exact Again.of (k + 1) (by omega) (by omega) (SubI.slots (by simp) (by simp (disch := omega) [wrapI]))
  · have : k = l.length := by omega
    subst this
    simp -implicitDefEqProofs [sc_s_l2Order_L0]
    refine loopI env mixed (fun z : Nat => [(3, .sl 0 1 0 64), (5, .sl 1 1 0 (ordS (fun s => s ∈ l) z).length), (6, .int .i64 (z : Int))]) (fun z => ([(1, ints (ordS (fun s => s ∈ l) z)), (0, bools fun s => s ∈ l)], 2)) (fun z => z ≤ 7) (fun z => 7 - z) 0 (by simp) (SubI.slots (by simp [ordS]) (by simp [ordS])) ?_
    intro z hz
    by_cases h7 : z < 7
    · have hz6 : (z : Int) ≤ 6 := by omega
      simp -implicitDefEqProofs [sc_s_l2Order_L2, hz6]
      refine inner _ z _ _ (by omega) (by simp) ?_
      simp -implicitDefEqProofs
      exact Again.of (z + 1) (by omega) (by omega) (SubI.slots (by simp) (by simp (disch := omega) [wrapI]))
    · have : z = 7 := by omega
      subst this
      simp -implicitDefEqProofs [sc_s_l2Order_L2, setsOf_eq]
end Go.Proofs.YtkoljbncokmeaaaDoor
namespace Go.Proofs.YtkoljbncokmeaaaDoor
open Go Go.RowKit
set_option maxRecDepth 1000000
set_option linter.unusedSimpArgs false
set_option linter.unusedVariables false
set_option maxHeartbeats 1000000
def sc_s_FacesOf_L0 : SC := (.seq (.seq (.reg [⟨(some 6), none, (.mov (.t 4))⟩, ⟨(some 7), none, (.bin false .lss (.t 6) (.c (.int .i64 64)))⟩, ⟨(some 8), none, (.mov (.t 7))⟩, ⟨(some 9), (some (8, true)), (.ld (some 2) .undef (.t 1))⟩, ⟨(some 10), (some (8, true)), (.call 10 [(.t 9)])⟩, ⟨(some 11), none, (.pick (.t 8) (.t 10) (.c (.bool false)))⟩]) (.cond (.t 11) .skip (.exit 0))) (.seq (.block 1 (.seq (.reg [⟨(some 14), none, (.ld (some 2) .undef (.t 1))⟩, ⟨(some 15), none, (.mov (.t 4))⟩, ⟨(some 16), none, (.call 58 [(.t 14), (.t 15)])⟩]) (.cond (.t 16) (.reg [⟨(some 17), none, (.mov (.t 3))⟩, ⟨(some 18), none, (.mov (.t 4))⟩, ⟨(some 19), none, (.mks 1 1 [(.int .i64 0)] [(0, (1, (.t 18)))])⟩, ⟨(some 20), none, (.app 1 8 (.t 17) (.t 19))⟩, ⟨(some 3), none, (.mov (.t 20))⟩]) .skip))) (.reg [⟨(some 12), none, (.mov (.t 4))⟩, ⟨(some 13), none, (.bin false .add (.t 12) (.c (.int .i64 1)))⟩, ⟨(some 4), none, (.mov (.t 13))⟩])))
def sc_s_FacesOf : SC := (.seq (.reg [⟨(some 1), none, (.box (.t 0))⟩, ⟨(some 2), none, (.mov (.c .nil))⟩]) (.seq (.reg [⟨(some 5), none, (.mks 0 1 [] [])⟩, ⟨(some 3), none, (.mov (.t 5))⟩]) (.seq (.seq (.reg [⟨(some 4), none, (.mov (.c (.int .i64 0)))⟩]) (.block 0 (.loop sc_s_FacesOf_L0))) (.seq (.reg [⟨(some 21), none, (.mov (.t 3))⟩, ⟨(some 22), none, (.call 59 [(.t 21)])⟩, ⟨(some 2), none, (.mov (.t 22))⟩]) .ret))))
theorem code_s_FacesOf : fnCode Tryd.prog [] 39 = some (23, sc_s_FacesOf, [(2, none)]) := by kernel_rfl
/-- The faces of a complex, in order. -/
noncomputable def facesL (n : Int) (l : List Int) : List Int := setsOf fun s => cplx n l ∧ faceS l s
theorem facesL_of {n : Int} {l : List Int} (h : cplx n l) : facesL n l = setsOf (faceS l) := setsOf_congr fun s _ => ⟨fun a => a.2, fun a => ⟨h, a⟩⟩
theorem facesL_not {n : Int} {l : List Int} (h : ¬ cplx n l) : facesL n l = [] := by
  rw [← setsOf_none]
  exact setsOf_congr fun s _ => ⟨fun a => h a.1, False.elim⟩
noncomputable def F_s_FacesOf : List V → Option V := F1 dC fun c => some (.own 1 (ints (facesL c.1 c.2)))
theorem fn_s_FacesOf : FnOk Tryd.prog 39 F_s_FacesOf := by
  have env := (((envNil_ok (P := Tryd.prog)).add fn_s_l3Has).add fn_s_l2Order).add fn_s_IsComplex
  refine fn_ok code_s_FacesOf mixed env ?_
  intro args r h hb
  obtain ⟨_, ⟨n, l⟩, rfl, h1, h4⟩ := F1_inv h
  cases dC_inv h1
  cases h4
  refine ⟨by simp, fun w0 U0 L0 N0 => ?_⟩
  simp -implicitDefEqProofs [sc_s_FacesOf]
  cases hc : cplxB n l with
  | false =>
    have e : (setsOf fun x => x ∈ ([] : List Int)) = facesL n l := by
      rw [facesL_not fun h => by simp [cplxB_iff.2 h] at hc]
      exact (setsOf_congr (q := fun _ => False) fun s _ => by simp).trans setsOf_none
    refine loopI env mixed (fun _ : Unit => [(1, .pt 0 0), (3, .sl 1 1 0 0), (4, .int .i64 0)]) (fun _ => ([(1, []), (0, [.int .i64 n, .list 1 (ints l)])], 2)) (fun _ => True) (fun _ => 0) () trivial (SubI.slots (by simp) (by simp)) ?_
    intro _ _
    simp at e
    simp -implicitDefEqProofs [sc_s_FacesOf_L0, F_s_IsComplex, hc, F_s_l2Order, allS, e]
  | true =>
    have hcp := cplxB_iff.1 hc
    have hS := cplx_isS hcp
    refine loopI env mixed (fun k : Nat => [(1, .pt 0 0), (3, .sl 1 1 0 (upS (faceS l) k).length), (4, .int .i64 (k : Int))]) (fun k => ([(1, ints (upS (faceS l) k)), (0, [.int .i64 n, .list 1 (ints l)])], 2)) (fun k => k ≤ 64) (fun k => 64 - k) 0 (by simp) (SubI.slots (by simp [upS]) (by simp [upS])) ?_
    intro k hk
    have ub := upS_len (faceS l) k
    by_cases hlt : k < 64
    · have hlt' : (k : Int) < 64 := by omega
      have hkS := inS k hlt
      by_cases hp : faceS l (k : Int)
      · have e : upS (faceS l) (k + 1) = upS (faceS l) k ++ [(k : Int)] := upS_pos hp
        have hpd := dec_true hp
        simp -implicitDefEqProofs [sc_s_FacesOf_L0, F_s_IsComplex, F_s_l3Has, hc, hlt', hS, hkS, hpd]
        repeat' (first | omega | apply And.intro)
        refine Again.of (k + 1) (by omega) (by omega) (SubI.ren (fun m => if m = 0 then some 0 else if m = 1 then some 3 else none) ?_ ?_ ?_ (by simp) (by simp))
        · simp (disch := omega) [subT, renV, ren1, wrapI, e]
        · simp [subH, e, renL, ren1]
          rw [← ints_app]
          rfl
        · intro m hm
          simp only at hm
          rw [if_neg (by omega), if_neg (by omega)]
      · have e : upS (faceS l) (k + 1) = upS (faceS l) k := upS_neg hp
        have hpd := dec_false hp
        simp -implicitDefEqProofs [sc_s_FacesOf_L0, F_s_IsComplex, F_s_l3Has, hc, hlt', hS, hkS, hpd]
        repeat' (first | omega | apply And.intro)
        exact Again.of (k + 1) (by omega) (by omega) (SubI.slots (by simp [e]) (by simp (disch := omega) [wrapI, e]))
    · have : k = 64 := by omega
      subst this
      have e : (setsOf fun x => x ∈ upS (faceS l) 64) = facesL n l := by
        rw [facesL_of hcp]
        exact setsOf_congr fun x hx => by rw [mem_upS64]; exact ⟨fun h => h.2, fun h => ⟨hx, h⟩⟩
      simp -implicitDefEqProofs [sc_s_FacesOf_L0, F_s_l2Order, allS_upS, e]
end Go.Proofs.YtkoljbncokmeaaaDoor
namespace Go.Proofs.YtkoljbncokmeaaaDoor
open Go Go.RowKit
set_option maxRecDepth 1000000
set_option linter.unusedSimpArgs false
set_option linter.unusedVariables false
set_option maxHeartbeats 1000000
end Go.Proofs.YtkoljbncokmeaaaDoor
namespace Go.Proofs.YtkoljbncokmeaaaDoor
open Go Go.RowKit
set_option maxRecDepth 1000000
set_option linter.unusedSimpArgs false
set_option linter.unusedVariables false
set_option maxHeartbeats 1000000
end Go.Proofs.YtkoljbncokmeaaaDoor
namespace Go.Proofs.YtkoljbncokmeaaaDoor
open Go Go.RowKit
set_option maxRecDepth 1000000
set_option linter.unusedSimpArgs false
set_option linter.unusedVariables false
set_option maxHeartbeats 1000000
end Go.Proofs.YtkoljbncokmeaaaDoor
namespace Go.Proofs.YtkoljbncokmeaaaDoor
open Go Go.RowKit
set_option maxRecDepth 1000000
set_option linter.unusedSimpArgs false
set_option linter.unusedVariables false
set_option maxHeartbeats 1000000
end Go.Proofs.YtkoljbncokmeaaaDoor
namespace Go.Proofs.YtkoljbncokmeaaaDoor
open Go Go.RowKit
set_option maxRecDepth 1000000
set_option linter.unusedSimpArgs false
set_option linter.unusedVariables false
set_option maxHeartbeats 1000000
def sc_i_topSize_L0 : SC := (.seq (.seq (.reg [⟨(some 5), none, (.mov (.t 4))⟩, ⟨(some 6), none, (.bin false .lss (.t 5) (.c (.int .i64 64)))⟩]) (.cond (.t 6) .skip (.exit 0))) (.seq (.block 1 (.seq (.reg [⟨(some 9), none, (.mov (.t 0))⟩, ⟨(some 10), none, (.mov (.t 4))⟩, ⟨(some 11), none, (.call 47 [(.t 9), (.t 10)])⟩, ⟨(some 12), none, (.mov (.t 11))⟩, ⟨(some 13), (some (12, true)), (.mov (.t 4))⟩, ⟨(some 14), (some (12, true)), (.call 48 [(.t 13)])⟩, ⟨(some 15), (some (12, true)), (.mov (.t 3))⟩, ⟨(some 16), (some (12, true)), (.bin false .gtr (.t 14) (.t 15))⟩, ⟨(some 17), none, (.pick (.t 12) (.t 16) (.c (.bool false)))⟩]) (.cond (.t 17) (.reg [⟨(some 18), none, (.mov (.t 4))⟩, ⟨(some 19), none, (.call 48 [(.t 18)])⟩, ⟨(some 3), none, (.mov (.t 19))⟩]) .skip))) (.reg [⟨(some 7), none, (.mov (.t 4))⟩, ⟨(some 8), none, (.bin false .add (.t 7) (.c (.int .i64 1)))⟩, ⟨(some 4), none, (.mov (.t 8))⟩])))
def sc_i_topSize : SC := (.seq (.reg [⟨(some 2), none, (.mov (.c (.int .i64 0)))⟩]) (.seq (.reg [⟨(some 3), none, (.mov (.c (.int .i64 (-1))))⟩]) (.seq (.seq (.reg [⟨(some 4), none, (.mov (.c (.int .i64 0)))⟩]) (.block 0 (.loop sc_i_topSize_L0))) (.seq (.reg [⟨(some 20), none, (.mov (.t 3))⟩, ⟨(some 2), none, (.mov (.t 20))⟩]) .ret))))
theorem code_i_topSize : fnCode Tryd.prog [] 46 = some (21, sc_i_topSize, [(2, none)]) := by kernel_rfl
open Classical in
/-- The greatest size of a set below k with a property; -1 if there is none. -/
noncomputable def topF (p : Int → Prop) : Nat → Int
  | 0 => -1
  | k + 1 => if p (k : Int) ∧ topF p k < sz (k : Int) then sz (k : Int) else topF p k
theorem topF_pos {p : Int → Prop} {k : Nat} (h : p (k : Int)) (h2 : topF p k < sz (k : Int)) : topF p (k + 1) = sz (k : Int) := by simp only [topF, if_pos (show p (k : Int) ∧ topF p k < sz (k : Int) from ⟨h, h2⟩)]
theorem topF_neg {p : Int → Prop} {k : Nat} (h : ¬ (p (k : Int) ∧ topF p k < sz (k : Int))) : topF p (k + 1) = topF p k := by simp only [topF, if_neg h]
theorem topF_bnd (p : Int → Prop) : ∀ k, k ≤ 64 → -1 ≤ topF p k ∧ topF p k ≤ 6
  | 0, _ => by simp [topF]
  | k + 1, h => by
    have ih := topF_bnd p k (by omega)
    have := sz_six (inS k (by omega))
    have := sz_nn (k : Int)
    by_cases hc : p (k : Int) ∧ topF p k < sz (k : Int)
    · rw [topF_pos hc.1 hc.2]; omega
    · rw [topF_neg hc]; exact ih
theorem topF_ge {p : Int → Prop} : ∀ {k : Nat} {s : Int}, 0 ≤ s → s < k → p s → sz s ≤ topF p k
  | 0, s, h0, h, _ => by omega
  | k + 1, s, h0, h, hp => by
    by_cases e : s = (k : Int)
    · subst e
      by_cases hc : p (k : Int) ∧ topF p k < sz (k : Int)
      · rw [topF_pos hc.1 hc.2]; omega
      · rw [topF_neg hc]
        have : ¬ (topF p k < sz (k : Int)) := fun h => hc ⟨hp, h⟩
        omega
    · have ih := topF_ge (k := k) h0 (by omega) hp
      by_cases hc : p (k : Int) ∧ topF p k < sz (k : Int)
      · rw [topF_pos hc.1 hc.2]; omega
      · rw [topF_neg hc]; exact ih
theorem topF_hit {p : Int → Prop} : ∀ {k : Nat}, topF p k = -1 ∨ ∃ s : Int, 0 ≤ s ∧ s < k ∧ p s ∧ sz s = topF p k
  | 0 => .inl rfl
  | k + 1 => by
    by_cases hc : p (k : Int) ∧ topF p k < sz (k : Int)
    · rw [topF_pos hc.1 hc.2]
      exact .inr ⟨k, by omega, by omega, hc.1, rfl⟩
    · rw [topF_neg hc]
      rcases topF_hit (p := p) (k := k) with h | ⟨s, a, b, c, d⟩
      · exact .inl h
      · exact .inr ⟨s, a, by omega, c, d⟩
theorem topF_congr {p q : Int → Prop} (h : ∀ s, isS s → (p s ↔ q s)) : ∀ {k : Nat}, k ≤ 64 → topF p k = topF q k
  | 0, _ => rfl
  | k + 1, hk => by
    have ih := topF_congr h (k := k) (by omega)
    have e := h k (inS k (by omega))
    by_cases hc : p (k : Int) ∧ topF p k < sz (k : Int)
    · rw [topF_pos hc.1 hc.2, topF_pos (e.1 hc.1) (by rw [← ih]; exact hc.2)]
    · rw [topF_neg hc, topF_neg fun hq => hc ⟨e.2 hq.1, by rw [ih]; exact hq.2⟩, ih]
theorem topZ_ex (p : Int → Prop) : ∃ m : Int, m = topF p 64 := ⟨_, rfl⟩
noncomputable def topZ (p : Int → Prop) : Int := Classical.choose (topZ_ex p)
theorem topZ_eq (p : Int → Prop) : topZ p = topF p 64 := Classical.choose_spec (topZ_ex p)
theorem topZ_bnd (p : Int → Prop) : -1 ≤ topZ p ∧ topZ p ≤ 6 := by rw [topZ_eq]; exact topF_bnd p 64 (Nat.le_refl _)
theorem topZ_ge {p : Int → Prop} {s : Int} (hs : isS s) (hp : p s) : sz s ≤ topZ p := by rw [topZ_eq]; exact topF_ge hs.1 hs.2 hp
theorem topZ_hit (p : Int → Prop) : topZ p = -1 ∨ ∃ s, isS s ∧ p s ∧ sz s = topZ p := by
  rw [topZ_eq]
  rcases topF_hit (p := p) (k := 64) with h | ⟨s, a, b, c, d⟩
  · exact .inl h
  · exact .inr ⟨s, ⟨a, b⟩, c, d⟩
theorem topZ_congr {p q : Int → Prop} (h : ∀ s, isS s → (p s ↔ q s)) : topZ p = topZ q := by rw [topZ_eq, topZ_eq, topF_congr h (Nat.le_refl _)]
noncomputable def topG (f : Int) : Option V := @ite _ (0 ≤ f ∧ f < 18446744073709551616) (Classical.propDecidable _) (some (.int .i64 (topZ (bitP f)))) none
theorem topG_fam (p : Int → Prop) : topG (fam p) = some (.int .i64 (topZ p)) := by
  unfold topG
  rw [if_pos ⟨fam_nn p, fam_lt p⟩, topZ_congr fun s hs => bitP_fam hs]
noncomputable def F_i_topSize : List V → Option V := F1 dU topG
theorem fn_i_topSize : FnOk Tryd.prog 46 F_i_topSize := by
  have env := ((envNil_ok (P := Tryd.prog)).add fn_i_SizeOf).add fn_i_hasSet
  refine fn_ok code_i_topSize mixed env ?_
  intro args r h hb
  obtain ⟨_, f, rfl, h1, h4⟩ := F1_inv h
  cases dU_inv h1
  clear h
  simp only [topG, Option.ite_none_right_eq_some, Option.some.injEq] at h4
  obtain ⟨⟨hf1, hf2⟩, rfl⟩ := h4
  have hf := fam_bitP hf1 hf2
  generalize bitP f = p at *
  subst hf
  refine ⟨by simp, fun w0 U0 L0 N0 => ?_⟩
  simp -implicitDefEqProofs [sc_i_topSize]
  refine loopI env mixed (fun k : Nat => [(0, .int .u64 (fam p)), (3, .int .i64 (topF p k)), (4, .int .i64 (k : Int))]) (fun _ => ([], 0)) (fun k => k ≤ 64) (fun k => 64 - k) 0 (by simp) (SubI.slots rfl (by simp [topF])) ?_
  intro k hk
  by_cases hlt : k < 64
  · have hlt' : (k : Int) < 64 := by omega
    have hkS := inS k hlt
    have hg := hasG_fam (p := p) hkS
    have r1 := sizeOf1_set hkS.1 hkS.2
    by_cases hp : p (k : Int)
    · rw [dec_true hp] at hg
      by_cases h2 : topF p k < sz (k : Int)
      · have e := topF_pos hp h2
        simp -implicitDefEqProofs [sc_i_topSize_L0, F_i_hasSet, F_i_SizeOf, hlt', hg, r1, h2]
        repeat' (first | omega | apply And.intro)
        exact Again.of (k + 1) (by omega) (by omega) (SubI.slots rfl (by simp (disch := omega) [wrapI, e]))
      · have e := topF_neg (p := p) (k := k) fun h => h2 h.2
        simp -implicitDefEqProofs [sc_i_topSize_L0, F_i_hasSet, F_i_SizeOf, hlt', hg, r1, h2]
        repeat' (first | omega | apply And.intro)
        exact Again.of (k + 1) (by omega) (by omega) (SubI.slots rfl (by simp (disch := omega) [wrapI, e]))
    · rw [dec_false hp] at hg
      have e := topF_neg (p := p) (k := k) fun h => hp h.1
      simp -implicitDefEqProofs [sc_i_topSize_L0, F_i_hasSet, hlt', hg]
      repeat' (first | omega | apply And.intro)
      exact Again.of (k + 1) (by omega) (by omega) (SubI.slots rfl (by simp (disch := omega) [wrapI, e]))
  · have : k = 64 := by omega
    subst this
    simp -implicitDefEqProofs [sc_i_topSize_L0, topZ_eq]
end Go.Proofs.YtkoljbncokmeaaaDoor
namespace Go.Proofs.YtkoljbncokmeaaaDoor
open Go Go.RowKit
set_option maxRecDepth 1000000
set_option linter.unusedSimpArgs false
set_option linter.unusedVariables false
set_option maxHeartbeats 1000000
def sc_s_FacesOfSize_L0 : SC := (.seq (.seq (.reg [⟨(some 11), none, (.mov (.t 7))⟩, ⟨(some 12), none, (.mov (.t 6))⟩, ⟨(some 13), none, (.len (.t 12))⟩, ⟨(some 14), none, (.bin false .lss (.t 11) (.t 13))⟩]) (.cond (.t 14) .skip (.exit 0))) (.seq (.block 1 (.seq (.reg [⟨(some 17), none, (.mov (.t 6))⟩, ⟨(some 18), none, (.mov (.t 7))⟩, ⟨(some 19), none, (.idx 1 (.t 17) (.t 18))⟩, ⟨(some 20), none, (.ld none (.int .i64 0) (.t 19))⟩, ⟨(some 21), none, (.call 38 [(.t 20)])⟩, ⟨(some 22), none, (.mov (.t 1))⟩, ⟨(some 23), none, (.bin false .eql (.t 21) (.t 22))⟩]) (.cond (.t 23) (.reg [⟨(some 24), none, (.mov (.t 5))⟩, ⟨(some 25), none, (.mov (.t 6))⟩, ⟨(some 26), none, (.mov (.t 7))⟩, ⟨(some 27), none, (.idx 1 (.t 25) (.t 26))⟩, ⟨(some 28), none, (.ld none (.int .i64 0) (.t 27))⟩, ⟨(some 29), none, (.mks 1 1 [(.int .i64 0)] [(0, (1, (.t 28)))])⟩, ⟨(some 30), none, (.app 1 8 (.t 24) (.t 29))⟩, ⟨(some 5), none, (.mov (.t 30))⟩]) .skip))) (.reg [⟨(some 15), none, (.mov (.t 7))⟩, ⟨(some 16), none, (.bin false .add (.t 15) (.c (.int .i64 1)))⟩, ⟨(some 7), none, (.mov (.t 16))⟩])))
def sc_s_FacesOfSize : SC := (.seq (.reg [⟨(some 2), none, (.box (.t 0))⟩, ⟨(some 4), none, (.mov (.c .nil))⟩]) (.seq (.reg [⟨(some 8), none, (.mks 0 1 [] [])⟩, ⟨(some 5), none, (.mov (.t 8))⟩]) (.seq (.reg [⟨(some 9), none, (.ld (some 2) .undef (.t 2))⟩, ⟨(some 10), none, (.call 39 [(.t 9)])⟩, ⟨(some 6), none, (.mov (.t 10))⟩]) (.seq (.seq (.reg [⟨(some 7), none, (.mov (.c (.int .i64 0)))⟩]) (.block 0 (.loop sc_s_FacesOfSize_L0))) (.seq (.reg [⟨(some 31), none, (.mov (.t 5))⟩, ⟨(some 4), none, (.mov (.t 31))⟩]) .ret)))))
theorem code_s_FacesOfSize : fnCode Tryd.prog [] 42 = some (32, sc_s_FacesOfSize, [(4, none)]) := by kernel_rfl
/-- The faces of one size, in order. -/
noncomputable def fosL (n : Int) (l : List Int) (k : Int) : List Int := setsOf fun s => cplx n l ∧ faceS l s ∧ sz s = k
theorem fosL_not {n : Int} {l : List Int} {k : Int} (h : ¬ cplx n l) : fosL n l k = [] := setsOf_nil.2 fun _ _ a => h a.1
theorem fosL_of {n : Int} {l : List Int} {k : Int} (h : cplx n l) : fosL n l k = setsOf fun s => faceS l s ∧ sz s = k := setsOf_congr fun s _ => ⟨fun a => a.2, fun a => ⟨h, a⟩⟩
theorem fosL_filt (n : Int) (l : List Int) (k : Int) : fosL n l k = (facesL n l).filter fun s => dec (sz s = k) := by
  by_cases hc : cplx n l
  · rw [facesL_of hc, fosL_of hc, filt_setsOf]
  · rw [facesL_not hc, fosL_not hc]
    rfl
noncomputable def F_s_FacesOfSize : List V → Option V := F2 dC dI fun c k => some (.own 1 (ints (fosL c.1 c.2 k)))
theorem fn_s_FacesOfSize : FnOk Tryd.prog 42 F_s_FacesOfSize := by
  have env := ((envNil_ok (P := Tryd.prog)).add fn_s_l2Size).add fn_s_FacesOf
  refine fn_ok code_s_FacesOfSize mixed env ?_
  intro args r h hb
  obtain ⟨_, _, ⟨n, l⟩, z, rfl, h1, h2, h4⟩ := F2_inv h
  cases dC_inv h1
  cases dI_inv h2
  cases h4
  clear h
  refine ⟨by simp, fun w0 U0 L0 N0 => ?_⟩
  clear hb
  simp -implicitDefEqProofs [sc_s_FacesOfSize, F_s_FacesOf]
  have hL : allS (facesL n l) := allS_setsOf _
  have hLl : (facesL n l).length ≤ 64 := setsOf_len _
  rw [fosL_filt]
  generalize facesL n l = L at *
  generalize hq : (fun s => dec (sz s = z)) = q
  refine loopI env mixed (fun k : Nat => [(1, .int .i64 z), (5, .sl 1 1 0 ((L.take k).filter q).length), (6, .sl 2 1 0 L.length), (7, .int .i64 (k : Int))]) (fun k => ([(2, ints L), (1, ints ((L.take k).filter q)), (0, [.int .i64 n, .list 1 (ints l)])], 3)) (fun k => k ≤ L.length) (fun k => L.length - k) 0 (by simp) (SubI.slots (by simp) (by simp)) ?_
  intro k hk
  have gl := filt_len L k q
  by_cases hlt : k < L.length
  · have hf := allS_at hL hlt
    have r1 : at0 L k < 9223372036854775808 := by have := hf.2; omega
    by_cases h1 : sz (at0 L k) = z
    · have e := filt_pos hlt (q := q) (by rw [← hq]; exact dec_true h1)
      generalize (L.take k).filter q = g at *
      simp -implicitDefEqProofs [sc_s_FacesOfSize_L0, F_s_l2Size, hlt, r1, h1]
      repeat' (first | omega | apply And.intro)
      refine Again.of (k + 1) (by omega) (by omega) (SubI.ren (fun m => if m = 0 then some 0 else if m = 1 then some 4 else if m = 2 then some 2 else none) ?_ ?_ ?_ (by simp) (by simp))
      · simp only [e]
        simp (disch := omega) [subT, renV, ren1, wrapI]
      · simp only [e]
        simp [subH, renL, ren1]
        rw [← ints_app]
        rfl
      · intro m hm
        simp only at hm
        rw [if_neg (by omega), if_neg (by omega), if_neg (by omega)]
    · have e := filt_neg hlt (q := q) (by rw [← hq]; exact dec_false h1)
      generalize (L.take k).filter q = g at *
      simp -implicitDefEqProofs [sc_s_FacesOfSize_L0, F_s_l2Size, hlt, r1, h1]
      repeat' (first | omega | apply And.intro)
      exact Again.of (k + 1) (by omega) (by omega) (SubI.slots (by simp only [e]) (by simp only [e]; simp (disch := omega) [wrapI]))
  · have : k = L.length := by omega
    subst this
    simp -implicitDefEqProofs [sc_s_FacesOfSize_L0]
end Go.Proofs.YtkoljbncokmeaaaDoor
namespace Go.Proofs.YtkoljbncokmeaaaDoor
open Go Go.RowKit
set_option maxRecDepth 1000000
set_option linter.unusedSimpArgs false
set_option linter.unusedVariables false
set_option maxHeartbeats 1000000
/-- The sets of a family by size, those below k. -/
noncomputable def bySz (p : Int → Prop) (m k : Nat) : List (List Int) := (List.range m).map fun (z : Nat) => upS (fun s => p s ∧ sz s = (z : Int)) k
@[simp] theorem bySz_len (p : Int → Prop) (m k : Nat) : (bySz p m k).length = m := by simp [bySz]
theorem bySz_at {p : Int → Prop} {m k z : Nat} (h : z < m) : atR (bySz p m k) z = upS (fun s => p s ∧ sz s = (z : Int)) k := by
  rw [atR_eq (by simpa using h)]
  simp [bySz]
theorem bySz_none (p : Int → Prop) (m : Nat) : bySz p m 0 = List.replicate m [] := by
  apply List.ext_getElem (by simp)
  intro j h1 h2
  simp [bySz, upS]
theorem bySz_skip {p : Int → Prop} {m k : Nat} (h : ¬ p (k : Int)) : bySz p m (k + 1) = bySz p m k := by
  unfold bySz
  refine List.map_congr_left fun z _ => ?_
  rw [upS_neg fun h2 => h h2.1]
theorem bySz_step {p : Int → Prop} {m k z : Nat} (hp : p (k : Int)) (hz : sz (k : Int) = (z : Int)) : (bySz p m k).set z (upS (fun s => p s ∧ sz s = (z : Int)) k ++ [(k : Int)]) = bySz p m (k + 1) := by
  apply List.ext_getElem (by simp)
  intro j h1 h2
  rw [List.getElem_set]
  simp only [bySz, List.getElem_map, List.getElem_range]
  by_cases e : z = j
  · subst e
    rw [if_pos rfl, upS_pos ⟨hp, hz⟩]
  · rw [if_neg e, upS_neg fun h2 => e (by have := h2.2; omega)]
/-- The sets of one size, in order. -/
theorem upS_sets (p : Int → Prop) (z : Int) : upS (fun s => p s ∧ sz s = z) 64 = setsOf fun s => p s ∧ sz s = z := by
  refine sorted_ext ?_ (setsOf_sorted _) fun x => by rw [mem_upS64, mem_setsOf]
  refine upS_sorted.imp_of_mem ?_
  intro a b ha hb hab
  have h1 := (mem_upS64.1 ha).2.2
  have h2 := (mem_upS64.1 hb).2.2
  simp only [before, decide_eq_true_eq]
  omega
theorem bySz_sets {p : Int → Prop} {m z : Nat} (h : z < m) : atR (bySz p m 64) z = setsOf fun s => p s ∧ sz s = (z : Int) := by rw [bySz_at h, upS_sets]
noncomputable def bySR (p : Int → Prop) : List (List Int) := bySz p (topZ p + 1).toNat 64
theorem bySR_congr {p q : Int → Prop} (h : ∀ s, isS s → (p s ↔ q s)) : bySR p = bySR q := by
  unfold bySR bySz
  rw [topZ_congr h]
  refine List.map_congr_left fun z _ => ?_
  exact upS_congr (Nat.le_refl _) fun s hs => by rw [h s hs]
noncomputable def bySG (f : Int) : Option V := @ite _ (0 ≤ f ∧ f < 18446744073709551616) (Classical.propDecidable _) (some (.own 1 (rowsV (bySR (bitP f))))) none
theorem bySG_fam (p : Int → Prop) : bySG (fam p) = some (.own 1 (rowsV (bySR p))) := by
  unfold bySG
  rw [if_pos ⟨fam_nn p, fam_lt p⟩, bySR_congr fun s hs => bitP_fam hs]
noncomputable def F_i_bySize : List V → Option V := F1 dU bySG
def sc_i_bySize_L0 : SC := (.seq (.seq (.reg [⟨(some 10), none, (.mov (.t 4))⟩, ⟨(some 11), none, (.bin false .lss (.t 10) (.c (.int .i64 64)))⟩]) (.cond (.t 11) .skip (.exit 0))) (.seq (.block 1 (.seq (.reg [⟨(some 14), none, (.mov (.t 0))⟩, ⟨(some 15), none, (.mov (.t 4))⟩, ⟨(some 16), none, (.call 47 [(.t 14), (.t 15)])⟩]) (.cond (.t 16) (.seq (.reg [⟨(some 17), none, (.mov (.t 4))⟩, ⟨(some 18), none, (.call 48 [(.t 17)])⟩, ⟨(some 5), none, (.mov (.t 18))⟩]) (.reg [⟨(some 19), none, (.mov (.t 3))⟩, ⟨(some 20), none, (.mov (.t 5))⟩, ⟨(some 21), none, (.mov (.t 3))⟩, ⟨(some 22), none, (.mov (.t 5))⟩, ⟨(some 23), none, (.idx 1 (.t 21) (.t 22))⟩, ⟨(some 24), none, (.ld none .nil (.t 23))⟩, ⟨(some 25), none, (.mov (.t 4))⟩, ⟨(some 26), none, (.mks 1 1 [(.int .i64 0)] [(0, (1, (.t 25)))])⟩, ⟨(some 27), none, (.app 1 8 (.t 24) (.t 26))⟩, ⟨(some 28), none, (.idx 1 (.t 19) (.t 20))⟩, ⟨none, none, (.st 1 (.t 28) (.t 27))⟩])) .skip))) (.reg [⟨(some 12), none, (.mov (.t 4))⟩, ⟨(some 13), none, (.bin false .add (.t 12) (.c (.int .i64 1)))⟩, ⟨(some 4), none, (.mov (.t 13))⟩])))
def sc_i_bySize : SC := (.seq (.reg [⟨(some 2), none, (.mov (.c .nil))⟩]) (.seq (.reg [⟨(some 6), none, (.mov (.t 0))⟩, ⟨(some 7), none, (.call 46 [(.t 6)])⟩, ⟨(some 8), none, (.bin false .add (.t 7) (.c (.int .i64 1)))⟩, ⟨(some 9), none, (.mk 1 24 [.nil] (.t 8) (.t 8))⟩, ⟨(some 3), none, (.mov (.t 9))⟩]) (.seq (.seq (.reg [⟨(some 4), none, (.mov (.c (.int .i64 0)))⟩]) (.block 0 (.loop sc_i_bySize_L0))) (.seq (.reg [⟨(some 29), none, (.mov (.t 3))⟩, ⟨(some 2), none, (.mov (.t 29))⟩]) .ret))))
theorem code_i_bySize : fnCode Tryd.prog [] 29 = some (30, sc_i_bySize, [(2, none)]) := by kernel_rfl
theorem fn_i_bySize : FnOk Tryd.prog 29 F_i_bySize := by
  have env := (((envNil_ok (P := Tryd.prog)).add fn_i_topSize).add fn_i_hasSet).add fn_i_SizeOf
  refine fn_ok code_i_bySize mixed env ?_
  intro args r h hb
  obtain ⟨_, f, rfl, h1, h4⟩ := F1_inv h
  cases dU_inv h1
  clear h
  simp only [bySG, Option.ite_none_right_eq_some, Option.some.injEq] at h4
  obtain ⟨⟨hf1, hf2⟩, rfl⟩ := h4
  have hf := fam_bitP hf1 hf2
  generalize bitP f = p at *
  subst hf
  refine ⟨by simp, fun w0 U0 L0 N0 => ?_⟩
  clear hb
  have hg := topG_fam p
  have htb := topZ_bnd p
  have htg : ∀ s, isS s → p s → sz s ≤ topZ p := fun s hs hp => topZ_ge hs hp
  unfold bySR
  obtain ⟨m, hm⟩ : ∃ m : Nat, topZ p + 1 = m := ⟨(topZ p + 1).toNat, by omega⟩
  have hm2 : (topZ p + 1).toNat = m := by omega
  rw [hm2]
  have hw : IntKind.i64.wrap (topZ p + 1) = m := by rw [wrapI _ (by omega) (by omega), hm]
  simp -implicitDefEqProofs [sc_i_bySize, F_i_topSize, hg, hw]
  repeat' (first | omega | apply And.intro)
  refine loopI env mixed (fun k : Nat => [(0, .int .u64 (fam p)), (3, .sl 0 1 0 m), (4, .int .i64 (k : Int))]) (fun k => ([(0, rowsV (bySz p m k))], 1)) (fun k => k ≤ 64) (fun k => 64 - k) 0 (by simp) (SubI.nilAll 0 1 (by simp; rfl) (by simp) (SubI.slots (by simp [bySz_none, rowsV]) (by simp))) ?_
  intro k hk
  by_cases hlt : k < 64
  · have hlt' : (k : Int) < 64 := by omega
    have hkS := inS k hlt
    have hgs := hasG_fam (p := p) hkS
    by_cases hp : p (k : Int)
    · rw [dec_true hp] at hgs
      have r1 := sizeOf1_set hkS.1 hkS.2
      obtain ⟨z, hz⟩ : ∃ z : Nat, sz (k : Int) = z := ⟨(sz (k : Int)).toNat, by have := sz_nn (k : Int); omega⟩
      have hle := htg _ hkS hp
      have hzm : z < m := by omega
      rw [hz] at r1
      have hst := bySz_step (m := m) hp hz
      have hat := bySz_at (p := p) (k := k) hzm
      have hul := upS_len (fun s => p s ∧ sz s = (z : Int)) k
      generalize upS (fun s => p s ∧ sz s = (z : Int)) k = R at *
      have hg2 := rowsV_getD (m := bySz p m k) (i := z) .nil (by simpa using hzm)
      rw [hat] at hg2
      simp -implicitDefEqProofs [sc_i_bySize_L0, F_i_hasSet, F_i_SizeOf, hlt', hgs, r1, hzm, hat]
      have e3 : ints R ++ [V.int .i64 (k : Int)] = ints (R ++ [(k : Int)]) := by rw [← ints_app]; rfl
      rw [e3]
      refine ⟨by omega, by omega, Again.of (k + 1) (by omega) (by omega) ?_⟩
      refine SubI.fold 0 3 z 1 (R.length + 1) (cn := ints (R ++ [(k : Int)])) (co := (rowsV (bySz p m k)).set z (.sl 3 1 0 (R.length + 1))) (by simp) (by simp) (by simp [hzm]) (by simp) ?_
      refine SubI.ren (fun m => if m = 0 then some 0 else none) ?_ ?_ ?_ (by simp) (by simp)
      · simp (disch := omega) [subT, renV, ren1, wrapI]
      · simp [subH, hst]
      · intro m hm
        simp only at hm
        rw [if_neg (by omega)]
    · rw [dec_false hp] at hgs
      have e := bySz_skip (m := m) hp
      simp -implicitDefEqProofs [sc_i_bySize_L0, F_i_hasSet, hlt', hgs]
      repeat' (first | omega | apply And.intro)
      exact Again.of (k + 1) (by omega) (by omega) (SubI.slots (by simp [e]) (by simp (disch := omega) [wrapI]))
  · have : k = 64 := by omega
    subst this
    have ht : (bySz p m 64).take m = bySz p m 64 := List.take_of_length_le (by simp)
    simp -implicitDefEqProofs [sc_i_bySize_L0, ht]
end Go.Proofs.YtkoljbncokmeaaaDoor
namespace Go.Proofs.YtkoljbncokmeaaaDoor
open Go Go.RowKit
set_option maxRecDepth 1000000
set_option linter.unusedSimpArgs false
set_option linter.unusedVariables false
set_option maxHeartbeats 1000000
/-- How many of the sets have z points. -/
noncomputable def cntZ (l : List Int) (z : Nat) : Int := ((l.filter fun s => dec (sz s = (z : Int))).length : Nat)
/-- For each number below m how many sets have so many points. -/
noncomputable def szRow (m : Nat) (l : List Int) : List Int := (List.range m).map fun z => cntZ l z
@[simp] theorem szRow_take (m : Nat) (l : List Int) : (szRow m l).take m = szRow m l := List.take_of_length_le (by simp [szRow])
@[simp] theorem szRow_len (m : Nat) (l : List Int) : (szRow m l).length = m := by simp [szRow]
theorem at0_szRow {m z : Nat} (l : List Int) (h : z < m) : at0 (szRow m l) z = cntZ l z := by simp [szRow, at0, h]
theorem cntZ_bnd (l : List Int) (k z : Nat) : 0 ≤ cntZ (l.take k) z ∧ cntZ (l.take k) z ≤ k := by
  unfold cntZ
  have h2 : (l.take k).length ≤ k := by simp; omega
  have h3 := List.length_filter_le (fun s => dec (sz s = (z : Int))) (l.take k)
  omega
theorem szRow_step {m : Nat} {l : List Int} {k z : Nat} (h : k < l.length) (hz : sz (at0 l k) = (z : Int)) (hm : z < m) : (szRow m (l.take k)).set z (cntZ (l.take k) z + 1) = szRow m (l.take (k + 1)) := by
  apply at0_ext (by simp)
  intro j hj
  simp only [List.length_set, szRow_len] at hj
  rw [at0_set, at0_szRow _ hj, at0_szRow _ hj]
  by_cases e : z = j
  · subst e
    rw [if_pos ⟨rfl, by simpa using hj⟩]
    unfold cntZ
    rw [filt_pos h (dec_true hz), List.length_append]
    simp
  · rw [if_neg fun h => e h.1]
    unfold cntZ
    rw [filt_neg h (dec_false fun h2 => e (by omega))]
end Go.Proofs.YtkoljbncokmeaaaDoor
namespace Go.Proofs.YtkoljbncokmeaaaDoor
open Go Go.RowKit
set_option maxRecDepth 1000000
set_option linter.unusedSimpArgs false
set_option linter.unusedVariables false
set_option maxHeartbeats 1000000
/-- The sets of a family of one size. -/
noncomputable def szS (q : Int → Prop) (z : Int) : List Int := setsOf fun s => q s ∧ sz s = z
theorem mem_szS {q : Int → Prop} {z s : Int} : s ∈ szS q z ↔ isS s ∧ q s ∧ sz s = z := mem_setsOf
theorem szS_len (q : Int → Prop) (z : Int) : (szS q z).length ≤ 64 := setsOf_len _
theorem szS_ok (q : Int → Prop) (z : Int) : ∀ r ∈ szS q (z - 1), ∀ s ∈ szS q z, isS r ∧ isS s ∧ sz s = sz r + 1 := fun r hr s hs => by
  obtain ⟨a, _, b⟩ := mem_szS.1 hr
  obtain ⟨c, _, d⟩ := mem_szS.1 hs
  exact ⟨a, c, by omega⟩
theorem szS_fos {n : Int} {l : List Int} (hc : cplx n l) (z : Int) : fosL n l z = szS (faceS l) z := fosL_of hc
theorem szS_by {q : Int → Prop} {m z : Nat} (h : z < m) : atR (bySz q m 64) z = szS q z := bySz_sets h
theorem szS_none {q : Int → Prop} {z : Int} (h : ¬ (0 ≤ z ∧ z ≤ topZ q)) : szS q z = [] := setsOf_nil.2 fun s hs hp => h (by
  have h1 := topZ_ge hs hp.1
  have h2 := sz_nn s
  have h3 := hp.2
  omega)
end Go.Proofs.YtkoljbncokmeaaaDoor
namespace Go.Proofs.YtkoljbncokmeaaaDoor
open Go Go.RowKit
set_option maxRecDepth 1000000
set_option linter.unusedSimpArgs false
set_option linter.unusedVariables false
set_option maxHeartbeats 1000000
end Go.Proofs.YtkoljbncokmeaaaDoor
namespace Go.Proofs.YtkoljbncokmeaaaDoor
open Go Go.RowKit
set_option maxRecDepth 1000000
set_option linter.unusedSimpArgs false
set_option linter.unusedVariables false
set_option maxHeartbeats 1000000
def sc_i_FacesOfSize : SC := (.seq (.reg [⟨(some 2), none, (.box (.t 0))⟩, ⟨(some 4), none, (.mov (.c .nil))⟩]) (.seq (.seq (.reg [⟨(some 6), none, (.ld (some 2) .undef (.t 2))⟩, ⟨(some 7), none, (.call 16 [(.t 6)])⟩, ⟨(some 8), none, (.un .not (.t 7))⟩]) (.cond (.t 8) (.seq (.reg [⟨(some 4), none, (.mov (.c .nil))⟩]) .ret) .skip)) (.seq (.reg [⟨(some 9), none, (.ld (some 2) .undef (.t 2))⟩, ⟨(some 10), none, (.call 30 [(.t 9)])⟩, ⟨(some 11), none, (.call 29 [(.t 10)])⟩, ⟨(some 5), none, (.mov (.t 11))⟩]) (.seq (.seq (.reg [⟨(some 12), none, (.mov (.t 1))⟩, ⟨(some 13), none, (.bin false .lss (.t 12) (.c (.int .i64 0)))⟩, ⟨(some 14), none, (.mov (.t 13))⟩, ⟨(some 15), (some (14, false)), (.mov (.t 1))⟩, ⟨(some 16), (some (14, false)), (.mov (.t 5))⟩, ⟨(some 17), (some (14, false)), (.len (.t 16))⟩, ⟨(some 18), (some (14, false)), (.bin false .geq (.t 15) (.t 17))⟩, ⟨(some 19), none, (.pick (.t 14) (.c (.bool true)) (.t 18))⟩]) (.cond (.t 19) (.seq (.reg [⟨(some 4), none, (.mov (.c .nil))⟩]) .ret) .skip)) (.seq (.reg [⟨(some 20), none, (.mov (.t 5))⟩, ⟨(some 21), none, (.mov (.t 1))⟩, ⟨(some 22), none, (.idx 1 (.t 20) (.t 21))⟩, ⟨(some 23), none, (.ld none .nil (.t 22))⟩, ⟨(some 4), none, (.mov (.t 23))⟩]) .ret)))))
theorem code_i_FacesOfSize : fnCode Tryd.prog [] 55 = some (24, sc_i_FacesOfSize, [(4, none)]) := by kernel_rfl
theorem fos_none {n : Int} {l : List Int} {k : Int} (hc : cplx n l) (h : ¬ (0 ≤ k ∧ k < topZ (faceS l) + 1)) : fosL n l k = [] := by
  rw [fosL_of hc]
  refine setsOf_nil.2 fun s hs hp => h ?_
  have h1 := topZ_ge hs hp.1
  have h2 := sz_nn s
  have h3 := hp.2
  omega
theorem fn_i_FacesOfSize : FnOk Tryd.prog 55 F_s_FacesOfSize := by
  have env := (((envNil_ok (P := Tryd.prog)).add fn_i_IsComplex).add fn_i_facesIn).add fn_i_bySize
  refine fn_ok code_i_FacesOfSize mixed env ?_
  intro args r h hb
  obtain ⟨_, _, ⟨n, l⟩, z, rfl, h1, h2, h4⟩ := F2_inv h
  cases dC_inv h1
  cases dI_inv h2
  cases h4
  clear h
  refine ⟨by simp, fun w0 U0 L0 N0 => ?_⟩
  clear hb
  cases e0 : cplxB n l with
  | false =>
    have hc : ¬ cplx n l := fun h => by simp [cplxB_iff.2 h] at e0
    rw [fosL_not hc]
    simp -implicitDefEqProofs [sc_i_FacesOfSize, F_s_IsComplex, e0]
  | true =>
  have hc := cplxB_iff.1 e0
  have hS := cplx_isS hc
  have hg := bySG_fam (faceS l)
  have htb := topZ_bnd (faceS l)
  have hlen : ((bySR (faceS l)).length : Int) = topZ (faceS l) + 1 := by unfold bySR; rw [bySz_len]; omega
  by_cases h0 : z < 0
  · rw [fos_none hc (by omega)]
    simp -implicitDefEqProofs [sc_i_FacesOfSize, F_s_IsComplex, F_i_facesIn, F_i_bySize, e0, hS, hg, h0]
  by_cases h2 : ((bySR (faceS l)).length : Int) ≤ z
  · rw [fos_none hc (by omega)]
    simp -implicitDefEqProofs [sc_i_FacesOfSize, F_s_IsComplex, F_i_facesIn, F_i_bySize, e0, hS, hg, h0, h2]
  obtain ⟨k, rfl⟩ : ∃ k : Nat, z = k := ⟨z.toNat, by omega⟩
  have hk : k < (bySR (faceS l)).length := by omega
  have hat : atR (bySR (faceS l)) k = fosL n l k := by
    rw [fosL_of hc]
    unfold bySR at hk ⊢
    rw [bySz_len] at hk
    exact bySz_sets hk
  generalize fosL n l k = R at *
  generalize bySR (faceS l) = B at *
  simp -implicitDefEqProofs [sc_i_FacesOfSize, F_s_IsComplex, F_i_facesIn, F_i_bySize, e0, hS, hg, h0, h2, hk, hat]
end Go.Proofs.YtkoljbncokmeaaaDoor
namespace Go.Proofs.YtkoljbncokmeaaaDoor
open Go Go.RowKit
set_option maxRecDepth 1000000
set_option linter.unusedSimpArgs false
set_option linter.unusedVariables false
set_option maxHeartbeats 1000000
def fpP (p : Int) : Prop := p = 2 ∨ p = 3 ∨ p = 5
end Go.Proofs.YtkoljbncokmeaaaDoor
namespace Go.Proofs.YtkoljbncokmeaaaDoor
open Go Go.RowKit
set_option maxRecDepth 1000000
set_option linter.unusedSimpArgs false
set_option linter.unusedVariables false
set_option maxHeartbeats 1000000
end Go.Proofs.YtkoljbncokmeaaaDoor
namespace Go.Proofs.YtkoljbncokmeaaaDoor
open Go Go.RowKit
set_option maxRecDepth 1000000
set_option linter.unusedSimpArgs false
set_option linter.unusedVariables false
set_option maxHeartbeats 1000000
end Go.Proofs.YtkoljbncokmeaaaDoor
namespace Go.Proofs.YtkoljbncokmeaaaDoor
open Go Go.RowKit
set_option maxRecDepth 1000000
set_option linter.unusedSimpArgs false
set_option linter.unusedVariables false
set_option maxHeartbeats 1000000
/-- A row by its places. -/
def rowF (m : Nat) (g : Nat → Int) : List Int := (List.range m).map g
@[simp] theorem rowF_len (m : Nat) (g : Nat → Int) : (rowF m g).length = m := by simp [rowF]
theorem rowF_at {m j : Nat} {g : Nat → Int} (h : j < m) : at0 (rowF m g) j = g j := by simp [rowF, at0, h]
theorem rowF_congr {m : Nat} {g h : Nat → Int} (e : ∀ j, j < m → g j = h j) : rowF m g = rowF m h := List.map_congr_left fun j hj => e j (List.mem_range.1 hj)
theorem rowF_set {m j : Nat} {g : Nat → Int} (h : j < m) (v : Int) : (rowF m g).set j v = rowF m fun i => if i = j then v else g i := by
  apply at0_ext (by simp)
  intro i hi
  simp only [List.length_set, rowF_len] at hi
  rw [at0_set, rowF_at hi, rowF_at hi]
  by_cases e : j = i
  · subst e
    rw [if_pos ⟨rfl, by simpa using hi⟩, if_pos rfl]
  · rw [if_neg fun h => e h.1, if_neg fun h => e h.symm]
theorem rowF_map (L : List Int) (f : Int → Int) : rowF L.length (fun j => f (at0 L j)) = L.map f := by
  apply List.ext_getElem (by simp)
  intro j h1 h2
  simp only [rowF_len] at h1
  simp [rowF, at0_eq h1]
theorem rowF_zero (m : Nat) : List.replicate m 0 = rowF m fun _ => 0 := by
  apply List.ext_getElem (by simp)
  intro j h1 h2
  simp [rowF]
end Go.Proofs.YtkoljbncokmeaaaDoor
