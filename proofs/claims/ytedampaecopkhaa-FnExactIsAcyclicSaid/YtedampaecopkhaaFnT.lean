import Derived.Test.YtedampaecopkhaaFnQ
namespace Go.Proofs.Ytedampaecopkhaa
open Go Go.RowKit
set_option maxRecDepth 1000000
set_option linter.unusedSimpArgs false
set_option linter.unusedVariables false
set_option maxHeartbeats 1000000
def sc_s_l2Order_L4 : SC := (.seq (.seq (.reg [⟨(some 26), none, (.mov (.t 7))⟩, ⟨(some 27), none, (.bin false .lss (.t 26) (.c (.int .i64 64)))⟩]) (.cond (.t 27) .skip (.exit 4))) (.seq (.block 5 (.seq (.reg [⟨(some 30), none, (.mov (.t 3))⟩, ⟨(some 31), none, (.mov (.t 7))⟩, ⟨(some 32), none, (.idx 1 (.t 30) (.t 31))⟩, ⟨(some 33), none, (.ld none (.bool false) (.t 32))⟩, ⟨(some 34), none, (.mov (.t 33))⟩, ⟨(some 35), (some (34, true)), (.mov (.t 7))⟩, ⟨(some 36), (some (34, true)), (.call 83 [(.t 35)])⟩, ⟨(some 37), (some (34, true)), (.mov (.t 6))⟩, ⟨(some 38), (some (34, true)), (.bin false .eql (.t 36) (.t 37))⟩, ⟨(some 39), none, (.pick (.t 34) (.t 38) (.c (.bool false)))⟩]) (.cond (.t 39) (.reg [⟨(some 40), none, (.mov (.t 5))⟩, ⟨(some 41), none, (.mov (.t 7))⟩, ⟨(some 42), none, (.mks 1 1 [(.int .i64 0)] [(0, (1, (.t 41)))])⟩, ⟨(some 43), none, (.app 1 8 (.t 40) (.t 42))⟩, ⟨(some 5), none, (.mov (.t 43))⟩]) .skip))) (.reg [⟨(some 28), none, (.mov (.t 7))⟩, ⟨(some 29), none, (.bin false .add (.t 28) (.c (.int .i64 1)))⟩, ⟨(some 7), none, (.mov (.t 29))⟩])))
def sc_s_l2Order_L2 : SC := (.seq (.seq (.reg [⟨(some 22), none, (.mov (.t 6))⟩, ⟨(some 23), none, (.bin false .leq (.t 22) (.c (.int .i64 6)))⟩]) (.cond (.t 23) .skip (.exit 2))) (.seq (.block 3 (.seq (.reg [⟨(some 7), none, (.mov (.c (.int .i64 0)))⟩]) (.block 4 (.loop sc_s_l2Order_L4)))) (.reg [⟨(some 24), none, (.mov (.t 6))⟩, ⟨(some 25), none, (.bin false .add (.t 24) (.c (.int .i64 1)))⟩, ⟨(some 6), none, (.mov (.t 25))⟩])))
def sc_s_l2Order_L0 : SC := (.seq (.seq (.reg [⟨(some 9), none, (.mov (.t 4))⟩, ⟨(some 10), none, (.mov (.t 0))⟩, ⟨(some 11), none, (.len (.t 10))⟩, ⟨(some 12), none, (.bin false .lss (.t 9) (.t 11))⟩]) (.cond (.t 12) .skip (.exit 0))) (.seq (.block 1 (.reg [⟨(some 15), none, (.mov (.t 3))⟩, ⟨(some 16), none, (.mov (.t 0))⟩, ⟨(some 17), none, (.mov (.t 4))⟩, ⟨(some 18), none, (.idx 1 (.t 16) (.t 17))⟩, ⟨(some 19), none, (.ld none (.int .i64 0) (.t 18))⟩, ⟨(some 20), none, (.idx 1 (.t 15) (.t 19))⟩, ⟨none, none, (.st 1 (.t 20) (.c (.bool true)))⟩])) (.reg [⟨(some 13), none, (.mov (.t 4))⟩, ⟨(some 14), none, (.bin false .add (.t 13) (.c (.int .i64 1)))⟩, ⟨(some 4), none, (.mov (.t 14))⟩])))
def sc_s_l2Order : SC := (.seq (.reg [⟨(some 2), none, (.mov (.c .nil))⟩]) (.seq (.reg [⟨(some 8), none, (.mk 1 1 [(.bool false)] (.c (.int .i64 64)) (.c (.int .i64 64)))⟩, ⟨(some 3), none, (.mov (.t 8))⟩]) (.seq (.seq (.reg [⟨(some 4), none, (.mov (.c (.int .i64 0)))⟩]) (.block 0 (.loop sc_s_l2Order_L0))) (.seq (.reg [⟨(some 21), none, (.mks 0 1 [] [])⟩, ⟨(some 5), none, (.mov (.t 21))⟩]) (.seq (.seq (.reg [⟨(some 6), none, (.mov (.c (.int .i64 0)))⟩]) (.block 2 (.loop sc_s_l2Order_L2))) (.seq (.reg [⟨(some 44), none, (.mov (.t 5))⟩, ⟨(some 2), none, (.mov (.t 44))⟩]) .ret))))))
theorem code_s_l2Order : fnCode Try.prog [] 105 = some (45, sc_s_l2Order, [(2, none)]) := by kernel_rfl
theorem bools_setI {p : Int → Prop} {s : Int} (hs : isS s) : (bools p).set s.toNat (.bool true) = bools fun t => p t ∨ t = s := by
  obtain ⟨k, hk, rfl⟩ := isS_nat hs
  exact bools_set hk
@[simp high] theorem bools_getD {p : Int → Prop} {k : Nat} (hk : k < 64) (d : V) : (bools p).getD k d = .bool (dec (p (k : Int))) := by
  rw [List.getD_eq_getElem?_getD, bools_get hk]
open Classical in
noncomputable def F_s_l2Order : List V → Option V := F1 dL fun l => if allS l then some (.own 1 (ints (setsOf fun s => s ∈ l))) else none
theorem fn_s_l2Order : FnOk Try.prog 105 F_s_l2Order := by
  have env := (envNil_ok (P := Try.prog)).add fn_s_l2Size
  refine fn_ok code_s_l2Order mixed env ?_
  intro args r h hb
  obtain ⟨_, l, rfl, h1, h4⟩ := F1_inv h
  cases dL_inv h1
  simp only [Option.ite_none_right_eq_some, Option.some.injEq] at h4
  obtain ⟨hS, rfl⟩ := h4
  have hlen := bnd_ints (hb _ (List.mem_cons_self ..))
  refine ⟨by simp, fun w0 U0 L0 N0 => ?_⟩
  have inner : ∀ (p : Int → Prop) (z : Nat) (Q : Post) (L : Tm), z ≤ 6 → subE L [(3, .sl 0 1 0 64), (5, .sl 1 1 0 (ordS p z).length), (6, .int .i64 (z : Int)), (7, .int .i64 0)] →
      Q (.exit 4) [(3, .sl 0 1 0 64), (5, .sl 1 1 0 (ordS p (z + 1)).length), (6, .int .i64 (z : Int))] ([(1, ints (ordS p (z + 1))), (0, bools p)], 2) →
      LoopI ⟨Try.prog, w0, U0, L0, N0, 0, 45⟩ [] sc_s_l2Order_L4 Q L ([(1, ints (ordS p z)), (0, bools p)], 2) := by
    intro p z Q L hz hs q1
    have ob := ordS_len p z
    refine loopQ env mixed (fun k : Nat => [(3, .sl 0 1 0 64), (5, .sl 1 1 0 (ordS p z ++ upS (fun s => p s ∧ sz s = z) k).length), (6, .int .i64 (z : Int)), (7, .int .i64 (k : Int))]) (fun k => ([(1, ints (ordS p z ++ upS (fun s => p s ∧ sz s = z) k)), (0, bools p)], 2)) (fun k => k ≤ 64) (fun k => 64 - k) 0 (by simp)
      (SubI.slots (by simp [upS]) (by simpa [upS] using hs)) ?_
    intro k hk
    have ub := upS_len (fun s => p s ∧ sz s = z) k
    by_cases hlt : k < 64
    · have hlt' : (k : Int) < 64 := by omega
      have r1 : (k : Int) < 9223372036854775808 := by omega
      by_cases hp : p (k : Int)
      · have hpd := dec_true hp
        by_cases hsz : sz (k : Int) = (z : Int)
        · have e : upS (fun s => p s ∧ sz s = z) (k + 1) = upS (fun s => p s ∧ sz s = z) k ++ [(k : Int)] := upS_pos ⟨hp, hsz⟩
          have e2 : ordS p z ++ upS (fun s => p s ∧ sz s = z) (k + 1) = (ordS p z ++ upS (fun s => p s ∧ sz s = z) k) ++ [(k : Int)] := by rw [e, List.append_assoc]
          have gl : (ordS p z ++ upS (fun s => p s ∧ sz s = z) k).length ≤ 64 * z + k := by rw [List.length_append]; omega
          generalize hg : ordS p z ++ upS (fun s => p s ∧ sz s = z) k = g at *
          simp -implicitDefEqProofs [sc_s_l2Order_L4, F_s_l2Size, hlt, hlt', r1, hpd, hsz]
          repeat' (first | omega | apply And.intro)
          refine Again.of (k + 1) (by omega) (by omega) (SubI.ren (fun m => if m = 0 then some 0 else if m = 1 then some 3 else none) ?_ ?_ ?_ (by simp) (by simp))
          · have el := congrArg List.length e2
            simp only [List.length_append, List.length_cons, List.length_nil] at el
            simp (disch := omega) [subT, renV, ren1, wrapI, e2]
            omega
          · simp [subH, e2, renL, ren1]
            rw [← ints_app]
            rfl
          · intro m hm
            simp only at hm
            rw [if_neg (by omega), if_neg (by omega)]
        · have e : upS (fun s => p s ∧ sz s = z) (k + 1) = upS (fun s => p s ∧ sz s = z) k := upS_neg fun h => hsz h.2
          simp -implicitDefEqProofs [sc_s_l2Order_L4, F_s_l2Size, hlt, hlt', r1, hpd, hsz]
          repeat' (first | omega | apply And.intro)
          exact Again.of (k + 1) (by omega) (by omega) (SubI.slots (by simp [e]) (by simp (disch := omega) [wrapI, e]))
      · have hpd := dec_false hp
        have e : upS (fun s => p s ∧ sz s = z) (k + 1) = upS (fun s => p s ∧ sz s = z) k := upS_neg fun h => hp h.1
        simp -implicitDefEqProofs [sc_s_l2Order_L4, hlt, hlt', hpd]
        repeat' (first | omega | apply And.intro)
        exact Again.of (k + 1) (by omega) (by omega) (SubI.slots (by simp [e]) (by simp (disch := omega) [wrapI, e]))
    · have : k = 64 := by omega
      subst this
      simp -implicitDefEqProofs [sc_s_l2Order_L4]
      exact SubQ.of (SubI.slots (by simp [ordS]) (by simp [ordS])) q1
  simp -implicitDefEqProofs [sc_s_l2Order]
  refine loopI env mixed (fun k : Nat => [(0, .list 1 (ints l)), (3, .sl 0 1 0 64), (4, .int .i64 (k : Int))]) (fun k => ([(0, bools fun s => s ∈ l.take k)], 1)) (fun k => k ≤ l.length) (fun k => l.length - k) 0 (by simp) (SubI.slots (by simp [← bools_none]) (by simp)) ?_
  intro k hk
  by_cases hlt : k < l.length
  · have hf := allS_at hS hlt
    have e : (bools fun t => t ∈ l.take k ∨ t = at0 l k) = bools fun t => t ∈ l.take (k + 1) := by
      rw [take_at hlt]
      exact bools_congr fun s _ => by simp
    have f0 := hf.1
    have f1 := hf.2
    have f2 : (at0 l k).toNat < 64 := by omega
    have es := bools_setI (p := fun t => t ∈ l.take k) hf
    simp -implicitDefEqProofs [sc_s_l2Order_L0, hlt, f0, f1, f2, es, e]
    repeat' (first | omega | apply And.intro)
    exact Again.of (k + 1) (by omega) (by omega) (SubI.slots (by simp) (by simp (disch := omega) [wrapI]))
  · have : k = l.length := by omega
    subst this
    simp -implicitDefEqProofs [sc_s_l2Order_L0]
    refine loopI env mixed (fun z : Nat => [(3, .sl 0 1 0 64), (5, .sl 1 1 0 (ordS (fun s => s ∈ l) z).length), (6, .int .i64 (z : Int))]) (fun z => ([(1, ints (ordS (fun s => s ∈ l) z)), (0, bools fun s => s ∈ l)], 2)) (fun z => z ≤ 7) (fun z => 7 - z) 0 (by simp) (SubI.slots (by simp [ordS]) (by simp [ordS])) ?_
    intro z hz
    by_cases h7 : z < 7
    · have hz6 : (z : Int) ≤ 6 := by omega
      simp -implicitDefEqProofs [sc_s_l2Order_L2, hz6]
      refine inner _ z _ _ (by omega) (by simp) ?_
      simp -implicitDefEqProofs
      exact Again.of (z + 1) (by omega) (by omega) (SubI.slots (by simp) (by simp (disch := omega) [wrapI]))
    · have : z = 7 := by omega
      subst this
      simp -implicitDefEqProofs [sc_s_l2Order_L2, setsOf_eq]
end Go.Proofs.Ytedampaecopkhaa
