import Derived.Test.YtedampaecopkhaaFqB
import Derived.Test.YtedampaecopkhaaFmH
namespace Go.Proofs.Ytedampaecopkhaa
open Go Go.RowKit
set_option maxRecDepth 1000000
set_option linter.unusedSimpArgs false
set_option linter.unusedVariables false
set_option maxHeartbeats 1000000
def sc_s_IsAcyclic_L0 : SC := (.seq (.seq (.reg [⟨(some 10), none, (.mov (.t 5))⟩, ⟨(some 11), none, (.mov (.t 1))⟩, ⟨(some 12), none, (.len (.t 11))⟩, ⟨(some 13), none, (.bin false .lss (.t 10) (.t 12))⟩]) (.cond (.t 13) .skip (.exit 0))) (.seq (.block 1 (.seq (.reg [⟨(some 16), none, (.mov (.t 1))⟩, ⟨(some 17), none, (.mov (.t 5))⟩, ⟨(some 18), none, (.call 86 [(.t 16), (.t 17)])⟩, ⟨(some 19), none, (.mov (.t 5))⟩, ⟨(some 20), none, (.idx 1 (.t 18) (.t 19))⟩, ⟨(some 21), none, (.ld none (.bool false) (.t 20))⟩]) (.cond (.t 21) (.seq (.reg [⟨(some 4), none, (.mov (.c (.bool false)))⟩]) .ret) .skip))) (.reg [⟨(some 14), none, (.mov (.t 5))⟩, ⟨(some 15), none, (.bin false .add (.t 14) (.c (.int .i64 1)))⟩, ⟨(some 5), none, (.mov (.t 15))⟩])))
def sc_s_IsAcyclic : SC := (.seq (.reg [⟨(some 2), none, (.box (.t 0))⟩, ⟨(some 4), none, (.mov (.c (.bool false)))⟩]) (.seq (.seq (.reg [⟨(some 6), none, (.ld (some 2) .undef (.t 2))⟩, ⟨(some 7), none, (.mov (.t 1))⟩, ⟨(some 8), none, (.call 85 [(.t 6), (.t 7)])⟩, ⟨(some 9), none, (.un .not (.t 8))⟩]) (.cond (.t 9) (.seq (.reg [⟨(some 4), none, (.mov (.c (.bool false)))⟩]) .ret) .skip)) (.seq (.seq (.reg [⟨(some 5), none, (.mov (.c (.int .i64 0)))⟩]) (.block 0 (.loop sc_s_IsAcyclic_L0))) (.seq (.reg [⟨(some 4), none, (.mov (.c (.bool true)))⟩]) .ret))))
theorem code_s_IsAcyclic : fnCode Try.prog [] 42 = some (22, sc_s_IsAcyclic, [(4, none)]) := by kernel_rfl
theorem fn_s_IsAcyclic : FnOk Try.prog 42 F_s_IsAcyclic := by
  have env := ((envNil_ok (P := Try.prog)).add fn_s_IsPairing).add fn_s_l18Reach
  refine fn_ok code_s_IsAcyclic mixed env ?_
  intro args r h hb
  obtain ⟨_, _, ⟨n, l⟩, list, rfl, h1, h2, h4⟩ := F2_inv h
  cases dC_inv h1
  cases dP_inv h2
  cases h4
  clear h
  refine ⟨by simp, fun w0 U0 L0 N0 => ?_⟩
  clear hb
  generalize hv : dec (acycP n l list) = v
  by_cases hP : pairP n l list
  rotate_left
  · have hd := dec_false hP
    have hv1 : v = false := hv ▸ dec_false fun h => hP h.1
    simp -implicitDefEqProofs [sc_s_IsAcyclic, F_s_IsPairing, hd, hv1]
  have hd := dec_true hP
  have hR := pair_reach hP
  have h32 := hR.1
  simp -implicitDefEqProofs [sc_s_IsAcyclic, F_s_IsPairing, hd]
  refine loopI env mixed (fun k : Nat => [(1, .list 2 (prs list)), (5, .int .i64 (k : Int))]) (fun _ => ([(0, [.int .i64 n, .list 1 (ints l)])], 1)) (fun k => k ≤ list.length ∧ ∀ j, j < k → ¬ warsh (edgeP list) list.length j j) (fun k => list.length - k) 0 (by simp) (SubI.slots rfl (by simp)) ?_
  rintro k ⟨hk, hno⟩
  by_cases hlt : k < list.length
  · have hF : F_s_l18Reach [.list 2 (prs list), .int .i64 (k : Int)] = some (.own 1 (boolRow list.length fun j => warsh (edgeP list) list.length k j)) := by
      simp only [F_s_l18Reach, F2_mk, dP_list, dI_int, Option.bind_some]
      rw [if_pos ⟨hR, by omega, by omega⟩, Int.toNat_natCast]
    by_cases hc : warsh (edgeP list) list.length k k
    · have hv1 : v = false := hv ▸ dec_false fun h => h.2 k hlt hc
      have hd2 := dec_true hc
      simp -implicitDefEqProofs [sc_s_IsAcyclic_L0, hF, hlt, hd2, hv1]
      try omega
    · have hd2 := dec_false hc
      simp -implicitDefEqProofs [sc_s_IsAcyclic_L0, hF, hlt, hd2]
      repeat' (first | omega | apply And.intro)
      refine Again.of (k + 1) ⟨by omega, fun j hj => ?_⟩ (by omega) (SubI.ren (fun m => if m = 0 then some 0 else none) ?_ ?_ ?_ (by simp) (by simp))
      · rcases Nat.lt_succ_iff_lt_or_eq.1 hj with h1 | rfl
        · exact hno j h1
        · exact hc
      · simp (disch := omega) [subT, renV, ren1, wrapI]
      · simp [subH, renL, ren1]
      · intro m hm
        simp only at hm
        rw [if_neg (by omega)]
  · have hv1 : v = true := hv ▸ dec_true ⟨hP, fun i hi => hno i (by omega)⟩
    simp -implicitDefEqProofs [sc_s_IsAcyclic_L0, hlt, hv1]
def sc_i_IsAcyclic_L8 : SC := (.seq (.reg [⟨(some 97), none, (.bin false .lss (.t 96) (.t 95))⟩]) (.seq (.cond (.t 97) .skip (.exit 8)) (.seq (.block 9 (.seq (.reg [⟨(some 98), none, (.mov (.t 96))⟩, ⟨(some 12), none, (.mov (.t 98))⟩]) (.seq (.reg [⟨(some 99), none, (.mov (.t 5))⟩, ⟨(some 100), none, (.mov (.t 12))⟩, ⟨(some 101), none, (.idx 1 (.t 99) (.t 100))⟩, ⟨(some 102), none, (.ld none (.int .u64 0) (.t 101))⟩, ⟨(some 103), none, (.mov (.t 12))⟩, ⟨(some 104), none, (.call 78 [(.t 102), (.t 103)])⟩]) (.cond (.t 104) (.seq (.reg [⟨(some 4), none, (.mov (.c (.bool false)))⟩]) .ret) .skip)))) (.reg [⟨(some 105), none, (.bin false .add (.t 96) (.c (.int .i64 1)))⟩, ⟨(some 96), none, (.mov (.t 105))⟩]))))
def sc_i_IsAcyclic_L6 : SC := (.seq (.reg [⟨(some 74), none, (.bin false .lss (.t 73) (.t 72))⟩]) (.seq (.cond (.t 74) .skip (.exit 6)) (.seq (.block 7 (.seq (.reg [⟨(some 75), none, (.mov (.t 73))⟩, ⟨(some 11), none, (.mov (.t 75))⟩]) (.seq (.reg [⟨(some 76), none, (.mov (.t 5))⟩, ⟨(some 77), none, (.mov (.t 11))⟩, ⟨(some 78), none, (.idx 1 (.t 76) (.t 77))⟩, ⟨(some 79), none, (.ld none (.int .u64 0) (.t 78))⟩, ⟨(some 80), none, (.mov (.t 10))⟩, ⟨(some 81), none, (.call 78 [(.t 79), (.t 80)])⟩]) (.cond (.t 81) (.dreg [⟨⟨(some 82), none, (.mov (.t 5))⟩, false, false⟩, ⟨⟨(some 83), none, (.mov (.t 11))⟩, false, false⟩, ⟨⟨(some 84), none, (.idx 1 (.t 82) (.t 83))⟩, false, false⟩, ⟨⟨(some 85), none, (.ld none (.int .u64 0) (.t 84))⟩, false, false⟩, ⟨⟨(some 86), none, (.mov (.t 5))⟩, false, false⟩, ⟨⟨(some 87), none, (.mov (.t 10))⟩, false, false⟩, ⟨⟨(some 88), none, (.idx 1 (.t 86) (.t 87))⟩, false, false⟩, ⟨⟨(some 89), none, (.ld none (.int .u64 0) (.t 88))⟩, false, false⟩, ⟨⟨(some 90), none, (.bin false .or (.t 85) (.t 89))⟩, false, false⟩, ⟨⟨(some 91), none, (.idx 1 (.t 82) (.t 83))⟩, false, false⟩, ⟨⟨none, none, (.st 1 (.t 91) (.t 90))⟩, true, false⟩]) .skip)))) (.reg [⟨(some 92), none, (.bin false .add (.t 73) (.c (.int .i64 1)))⟩, ⟨(some 73), none, (.mov (.t 92))⟩]))))
def sc_i_IsAcyclic_L4 : SC := (.seq (.reg [⟨(some 69), none, (.bin false .lss (.t 68) (.t 67))⟩]) (.seq (.cond (.t 69) .skip (.exit 4)) (.seq (.block 5 (.seq (.reg [⟨(some 70), none, (.mov (.t 68))⟩, ⟨(some 10), none, (.mov (.t 70))⟩]) (.seq (.reg [⟨(some 71), none, (.mov (.t 1))⟩, ⟨(some 72), none, (.len (.t 71))⟩, ⟨(some 73), none, (.mov (.c (.int .i64 0)))⟩]) (.block 6 (.loop sc_i_IsAcyclic_L6))))) (.reg [⟨(some 93), none, (.bin false .add (.t 68) (.c (.int .i64 1)))⟩, ⟨(some 68), none, (.mov (.t 93))⟩]))))
def sc_i_IsAcyclic_L2 : SC := (.seq (.reg [⟨(some 30), none, (.bin false .lss (.t 29) (.t 28))⟩]) (.seq (.cond (.t 30) .skip (.exit 2)) (.seq (.block 3 (.seq (.reg [⟨(some 31), none, (.mov (.t 29))⟩, ⟨(some 32), none, (.idx 2 (.t 27) (.t 29))⟩, ⟨(some 33), none, (.ld (some 2) .undef (.t 32))⟩, ⟨(some 9), none, (.new [(.int .i64 0), (.int .i64 0)])⟩, ⟨(some 8), none, (.mov (.t 31))⟩, ⟨none, none, (.st 2 (.t 9) (.t 33))⟩]) (.seq (.dreg [⟨⟨(some 34), none, (.mov (.t 6))⟩, false, false⟩, ⟨⟨(some 35), none, (.mov (.t 8))⟩, false, false⟩, ⟨⟨(some 36), none, (.bin false .neq (.t 34) (.t 35))⟩, false, false⟩, ⟨⟨(some 37), none, (.mov (.t 36))⟩, false, false⟩, ⟨⟨(some 38), (some (37, true)), (.fad 0 (.t 9))⟩, false, false⟩, ⟨⟨(some 39), (some (37, true)), (.ld none (.int .i64 0) (.t 38))⟩, false, false⟩, ⟨⟨(some 40), (some (37, true)), (.fad 1 (.t 7))⟩, false, false⟩, ⟨⟨(some 41), (some (37, true)), (.ld none (.int .i64 0) (.t 40))⟩, false, false⟩, ⟨⟨(some 42), (some (37, true)), (.bin false .andNot (.t 39) (.t 41))⟩, false, false⟩, ⟨⟨(some 43), (some (37, true)), (.bin false .eql (.t 42) (.c (.int .i64 0)))⟩, false, false⟩, ⟨⟨(some 44), none, (.pick (.t 37) (.t 43) (.c (.bool false)))⟩, false, false⟩, ⟨⟨(some 45), none, (.mov (.t 44))⟩, false, false⟩, ⟨⟨(some 46), (some (45, true)), (.fad 1 (.t 7))⟩, false, false⟩, ⟨⟨(some 47), (some (45, true)), (.ld none (.int .i64 0) (.t 46))⟩, false, false⟩, ⟨⟨(some 48), (some (45, true)), (.call 89 [(.t 47)])⟩, false, false⟩, ⟨⟨(some 49), (some (45, true)), (.fad 0 (.t 9))⟩, false, false⟩, ⟨⟨(some 50), (some (45, true)), (.ld none (.int .i64 0) (.t 49))⟩, false, false⟩, ⟨⟨(some 51), (some (45, true)), (.call 89 [(.t 50)])⟩, false, false⟩, ⟨⟨(some 52), (some (45, true)), (.bin false .add (.t 51) (.c (.int .i64 1)))⟩, false, false⟩, ⟨⟨(some 53), (some (45, true)), (.bin false .eql (.t 48) (.t 52))⟩, false, false⟩, ⟨⟨(some 54), none, (.pick (.t 45) (.t 53) (.c (.bool false)))⟩, false, false⟩]) (.cond (.t 54) (.reg [⟨(some 55), none, (.mov (.t 5))⟩, ⟨(some 56), none, (.mov (.t 6))⟩, ⟨(some 57), none, (.idx 1 (.t 55) (.t 56))⟩, ⟨(some 58), none, (.ld none (.int .u64 0) (.t 57))⟩, ⟨(some 59), none, (.mov (.t 8))⟩, ⟨(some 60), none, (.conv .u64 (.t 59))⟩, ⟨(some 61), none, (.bin false .shl (.c (.int .u64 1)) (.t 60))⟩, ⟨(some 62), none, (.bin false .or (.t 58) (.t 61))⟩, ⟨(some 63), none, (.idx 1 (.t 55) (.t 56))⟩, ⟨none, none, (.st 1 (.t 63) (.t 62))⟩]) .skip)))) (.reg [⟨(some 64), none, (.bin false .add (.t 29) (.c (.int .i64 1)))⟩, ⟨(some 29), none, (.mov (.t 64))⟩]))))
def sc_i_IsAcyclic_L0 : SC := (.seq (.reg [⟨(some 23), none, (.bin false .lss (.t 22) (.t 21))⟩]) (.seq (.cond (.t 23) .skip (.exit 0)) (.seq (.block 1 (.seq (.reg [⟨(some 24), none, (.mov (.t 22))⟩, ⟨(some 25), none, (.idx 2 (.t 20) (.t 22))⟩, ⟨(some 26), none, (.ld (some 2) .undef (.t 25))⟩, ⟨(some 7), none, (.new [(.int .i64 0), (.int .i64 0)])⟩, ⟨(some 6), none, (.mov (.t 24))⟩, ⟨none, none, (.st 2 (.t 7) (.t 26))⟩]) (.seq (.reg [⟨(some 27), none, (.mov (.t 1))⟩, ⟨(some 28), none, (.len (.t 27))⟩, ⟨(some 29), none, (.mov (.c (.int .i64 0)))⟩]) (.block 2 (.loop sc_i_IsAcyclic_L2))))) (.reg [⟨(some 65), none, (.bin false .add (.t 22) (.c (.int .i64 1)))⟩, ⟨(some 22), none, (.mov (.t 65))⟩]))))
def sc_i_IsAcyclic : SC := (.seq (.reg [⟨(some 2), none, (.box (.t 0))⟩, ⟨(some 4), none, (.mov (.c (.bool false)))⟩]) (.seq (.seq (.reg [⟨(some 13), none, (.ld (some 2) .undef (.t 2))⟩, ⟨(some 14), none, (.mov (.t 1))⟩, ⟨(some 15), none, (.call 88 [(.t 13), (.t 14)])⟩, ⟨(some 16), none, (.un .not (.t 15))⟩]) (.cond (.t 16) (.seq (.reg [⟨(some 4), none, (.mov (.c (.bool false)))⟩]) .ret) .skip)) (.seq (.reg [⟨(some 17), none, (.mov (.t 1))⟩, ⟨(some 18), none, (.len (.t 17))⟩, ⟨(some 19), none, (.mk 1 8 [(.int .u64 0)] (.t 18) (.t 18))⟩, ⟨(some 5), none, (.mov (.t 19))⟩]) (.seq (.seq (.reg [⟨(some 20), none, (.mov (.t 1))⟩, ⟨(some 21), none, (.len (.t 20))⟩, ⟨(some 22), none, (.mov (.c (.int .i64 0)))⟩]) (.block 0 (.loop sc_i_IsAcyclic_L0))) (.seq (.seq (.reg [⟨(some 66), none, (.mov (.t 1))⟩, ⟨(some 67), none, (.len (.t 66))⟩, ⟨(some 68), none, (.mov (.c (.int .i64 0)))⟩]) (.block 4 (.loop sc_i_IsAcyclic_L4))) (.seq (.seq (.reg [⟨(some 94), none, (.mov (.t 1))⟩, ⟨(some 95), none, (.len (.t 94))⟩, ⟨(some 96), none, (.mov (.c (.int .i64 0)))⟩]) (.block 8 (.loop sc_i_IsAcyclic_L8))) (.seq (.reg [⟨(some 4), none, (.mov (.c (.bool true)))⟩]) .ret)))))))
theorem code_i_IsAcyclic : fnCode Try.prog [] 44 = some (106, sc_i_IsAcyclic, [(4, none)]) := by kernel_rfl
/-- The row while the edges are laid: those of the pairs before i, and of i to those before j. -/
def edgR (list : List (Int × Int)) (i j : Nat) (a : Nat) (t : Int) : Prop := ∃ b : Nat, t = (b : Int) ∧ edgeP list a b ∧ (a < i ∨ (a = i ∧ b < j))
/-- The row within a round of the closure. -/
def clsR (list : List (Int × Int)) (k i : Nat) (a : Nat) (t : Int) : Prop := ∃ b : Nat, t = (b : Int) ∧ b < list.length ∧ warsh (edgeP list) (if a < i then k + 1 else k) a b
theorem warsh_lt {list : List (Int × Int)} : ∀ {k a b : Nat}, warsh (edgeP list) k a b → b < list.length
  | 0, _, _, h => h.2.1
  | k + 1, _, _, h => by
    rcases h with h | ⟨_, h⟩
    · exact warsh_lt h
    · exact warsh_lt h
theorem clsR_zero (list : List (Int × Int)) (a : Nat) (t : Int) (ha : a < list.length) : edgR list list.length 0 a t ↔ clsR list 0 0 a t := by
  unfold edgR clsR
  constructor
  · rintro ⟨b, e, h, _⟩; exact ⟨b, e, h.2.1, by simpa [warsh] using h⟩
  · rintro ⟨b, e, _, h⟩; exact ⟨b, e, by simpa [warsh] using h, .inl ha⟩
theorem clsR_next (list : List (Int × Int)) (k a : Nat) (t : Int) (ha : a < list.length) : clsR list k list.length a t ↔ clsR list (k + 1) 0 a t := by
  unfold clsR
  simp [ha]
theorem clsR_nat {list : List (Int × Int)} {k i a b : Nat} : clsR list k i a (b : Int) ↔ b < list.length ∧ warsh (edgeP list) (if a < i then k + 1 else k) a b := by
  unfold clsR
  constructor
  · rintro ⟨c, e, h⟩
    have : b = c := by omega
    subst this
    exact h
  · rintro h; exact ⟨b, rfl, h⟩
theorem isS_idx {list : List (Int × Int)} (h : list.length ≤ 32) {i : Nat} (hi : i < list.length) : isS (i : Int) := inS i (by omega)
theorem fn_i_IsAcyclic : FnOk Try.prog 44 F_s_IsAcyclic := by
  have env := (((envNil_ok (P := Try.prog)).add fn_i_IsPairing).add fn_i_SizeOf).add fn_i_hasSet
  refine fn_ok code_i_IsAcyclic mixed env ?_
  intro args r h hb
  obtain ⟨_, _, ⟨n, l⟩, list, rfl, h1, h2, h4⟩ := F2_inv h
  cases dC_inv h1
  cases dP_inv h2
  cases h4
  clear h
  refine ⟨by simp, fun w0 U0 L0 N0 => ?_⟩
  clear hb
  generalize hv : dec (acycP n l list) = v
  by_cases hP : pairP n l list
  rotate_left
  · have hd := dec_false hP
    have hv1 : v = false := hv ▸ dec_false fun h => hP h.1
    simp -implicitDefEqProofs [sc_i_IsAcyclic, F_s_IsPairing, hd, hv1]
  have hd := dec_true hP
  obtain ⟨h32, hS, _⟩ := pair_reach hP
  have edges : ∀ (i : Nat) (Q : Post) (T0 : Tm), i < list.length → subE T0 [(1, .list 2 (prs list)), (5, .sl 1 1 0 list.length), (6, .int .i64 (i : Int)), (7, .pt 2 0), (20, .list 2 (prs list)), (21, .int .i64 (list.length : Int)), (22, .int .i64 (i : Int)), (27, .list 2 (prs list)), (28, .int .i64 (list.length : Int)), (29, .int .i64 0)] →
      Q (.exit 2) [(1, .list 2 (prs list)), (5, .sl 1 1 0 list.length), (20, .list 2 (prs list)), (21, .int .i64 (list.length : Int)), (22, .int .i64 (i : Int))] ([(1, uRow list.length (edgR list (i + 1) 0)), (0, [.int .i64 n, .list 1 (ints l)])], 2) →
      LoopI ⟨Try.prog, w0, U0, L0, N0, 0, 106⟩ [] sc_i_IsAcyclic_L2 Q T0 ([(2, [.int .i64 (pr0 list i).1, .int .i64 (pr0 list i).2]), (1, uRow list.length (edgR list i 0)), (0, [.int .i64 n, .list 1 (ints l)])], 3) := by
    intro i Q T0 hi hs q1
    refine loopQ env mixed (fun j : Nat => [(1, .list 2 (prs list)), (5, .sl 1 1 0 list.length), (6, .int .i64 (i : Int)), (7, .pt 2 0), (20, .list 2 (prs list)), (21, .int .i64 (list.length : Int)), (22, .int .i64 (i : Int)), (27, .list 2 (prs list)), (28, .int .i64 (list.length : Int)), (29, .int .i64 (j : Int))])
      (fun j => ([(2, [.int .i64 (pr0 list i).1, .int .i64 (pr0 list i).2]), (1, uRow list.length (edgR list i j)), (0, [.int .i64 n, .list 1 (ints l)])], 3)) (fun j => j ≤ list.length) (fun j => list.length - j) 0 (by simp) (SubI.slots rfl (by simpa using hs)) ?_
    intro j hj
    by_cases hlt : j < list.length
    · have hdj := prs_at hlt
      obtain ⟨s1, s2⟩ := hS i hi
      obtain ⟨s3, s4⟩ := hS j hlt
      have skip : ¬ edgeP list i j → uRow list.length (edgR list i j) = uRow list.length (edgR list i (j + 1)) := fun hne => uRow_congr fun a ha t ht => by
        unfold edgR
        constructor
        · rintro ⟨b, e, h, h2⟩
          exact ⟨b, e, h, h2.elim .inl fun h3 => .inr ⟨h3.1, by omega⟩⟩
        · rintro ⟨b, e, h, h2⟩
          refine ⟨b, e, h, h2.elim .inl fun h3 => .inr ⟨h3.1, ?_⟩⟩
          by_cases eb : b = j
          · subst eb; exact absurd (h3.1 ▸ h) hne
          · omega
      have back : ∀ (l' : Tm), True := fun _ => trivial
      by_cases c1 : i = j
      · have e := skip fun h => h.2.2.1 c1
        have c1' : (i : Int) = j := by omega
        simp -implicitDefEqProofs [sc_i_IsAcyclic_L2, hlt, hdj, c1']
        repeat' (first | omega | apply And.intro)
        refine Again.of (j + 1) (by omega) (by omega) (SubI.ren (fun m => if m = 0 then some 0 else if m = 1 then some 1 else if m = 2 then some 2 else none) ?_ ?_ ?_ (by simp) (by simp))
        · simp (disch := omega) [subT, renV, ren1, wrapI, ← c1']
        · simp [subH, renL, ren1, ← e]
        · intro m hm
          simp only at hm
          rw [if_neg (by omega), if_neg (by omega), if_neg (by omega)]
      have c1' : ¬ ((i : Int) = j) := by omega
      generalize hpi : pr0 list i = pi at *
      generalize hpj : pr0 list j = pj at *
      by_cases c2 : bnot pj.1 pi.2 = 0
      rotate_left
      · have e := skip fun h => c2 (by have := h.2.2.2.1; rwa [hpi, hpj] at this)
        simp -implicitDefEqProofs [sc_i_IsAcyclic_L2, hlt, hdj, c1, c1', c2]
        repeat' (first | omega | apply And.intro)
        refine Again.of (j + 1) (by omega) (by omega) (SubI.ren (fun m => if m = 0 then some 0 else if m = 1 then some 1 else if m = 2 then some 2 else none) ?_ ?_ ?_ (by simp) (by simp))
        · simp (disch := omega) [subT, renV, ren1, wrapI]
        · simp [subH, renL, ren1, ← e]
        · intro m hm
          simp only at hm
          rw [if_neg (by omega), if_neg (by omega), if_neg (by omega)]
      have r1 := sizeOf1_set s2.1 s2.2
      have r2 := sizeOf1_set s3.1 s3.2
      have hw : IntKind.i64.wrap (sz pj.1 + 1) = sz pj.1 + 1 := wrapI _ (by have := sz_nn pj.1; omega) (by have := sz_le pj.1; omega)
      by_cases c3 : sz pi.2 = sz pj.1 + 1
      rotate_left
      · have e := skip fun h => c3 (by have := h.2.2.2.2; rwa [hpi, hpj] at this)
        simp -implicitDefEqProofs [sc_i_IsAcyclic_L2, F_i_SizeOf, hlt, hdj, c1, c1', c2, r1, r2, hw, c3]
        repeat' (first | omega | apply And.intro)
        refine Again.of (j + 1) (by omega) (by omega) (SubI.ren (fun m => if m = 0 then some 0 else if m = 1 then some 1 else if m = 2 then some 2 else none) ?_ ?_ ?_ (by simp) (by simp))
        · simp (disch := omega) [subT, renV, ren1, wrapI]
        · simp [subH, renL, ren1, ← e]
        · intro m hm
          simp only at hm
          rw [if_neg (by omega), if_neg (by omega), if_neg (by omega)]
      have hjS := isS_idx h32 hlt
      have hu := wrapS hjS
      have h1 := fam_one hjS
      simp only [Int.toNat_natCast] at h1
      have p0 : (0 : Int) ≤ j := by omega
      have e : (uRow list.length (edgR list i j)).set i (.int .u64 (fam fun t => edgR list i j i t ∨ t = (j : Int))) = uRow list.length (edgR list i (j + 1)) := by
        rw [uRow_set]
        refine uRow_congr fun a ha t ht => ?_
        have hedge : edgeP list i j := ⟨hi, hlt, c1, by rw [hpi, hpj]; exact c2, by rw [hpi, hpj]; exact c3⟩
        by_cases ea : a = i
        · subst ea
          rw [if_pos rfl]
          unfold edgR
          constructor
          · rintro (⟨b, e, h, h2⟩ | rfl)
            · exact ⟨b, e, h, h2.elim .inl fun h3 => .inr ⟨h3.1, by omega⟩⟩
            · exact ⟨j, rfl, hedge, .inr ⟨rfl, by omega⟩⟩
          · rintro ⟨b, e, h, h2⟩
            by_cases eb : b = j
            · subst eb; exact .inr e
            · exact .inl ⟨b, e, h, h2.elim .inl fun h3 => .inr ⟨h3.1, by omega⟩⟩
        · rw [if_neg ea]
          unfold edgR
          constructor
          · rintro ⟨b, e, h, h2⟩; exact ⟨b, e, h, h2.elim .inl fun h3 => absurd h3.1 ea⟩
          · rintro ⟨b, e, h, h2⟩; exact ⟨b, e, h, h2.elim .inl fun h3 => absurd h3.1 ea⟩
      simp -implicitDefEqProofs [sc_i_IsAcyclic_L2, F_i_SizeOf, hlt, hi, hdj, c1, c1', c2, r1, r2, hw, c3, hu, h1, p0, e]
      repeat' (first | omega | apply And.intro)
      refine Again.of (j + 1) (by omega) (by omega) (SubI.ren (fun m => if m = 0 then some 0 else if m = 1 then some 1 else if m = 2 then some 2 else none) ?_ ?_ ?_ (by simp) (by simp))
      · simp (disch := omega) [subT, renV, ren1, wrapI]
      · simp [subH, renL, ren1]
      · intro m hm
        simp only at hm
        rw [if_neg (by omega), if_neg (by omega), if_neg (by omega)]
    · have hjl : j = list.length := by omega
      subst hjl
      have e : uRow list.length (edgR list i list.length) = uRow list.length (edgR list (i + 1) 0) := uRow_congr fun a ha t ht => by
        unfold edgR
        constructor
        · rintro ⟨b, e, h, h2⟩; exact ⟨b, e, h, .inl (h2.elim (by omega) fun h3 => by omega)⟩
        · rintro ⟨b, e, h, h2⟩
          refine ⟨b, e, h, ?_⟩
          have h3 := h.2.1
          rcases h2 with h2 | h2
          · by_cases ea : a = i
            · exact .inr ⟨ea, h3⟩
            · exact .inl (by omega)
          · omega
      rw [← e] at q1
      simp -implicitDefEqProofs [sc_i_IsAcyclic_L2]
      refine SubQ.of (SubI.ren (fun m => if m = 0 then some 0 else if m = 1 then some 1 else none) ?_ ?_ ?_ (by simp) (by simp)) q1
      · simp [subT, renV, ren1]
      · simp [subH, renL, ren1]
      · intro m hm
        simp only at hm
        rw [if_neg (by omega), if_neg (by omega)]
  have close : ∀ (k : Nat) (Q : Post) (T0 : Tm), k < list.length → subE T0 [(1, .list 2 (prs list)), (5, .sl 1 1 0 list.length), (10, .int .i64 (k : Int)), (67, .int .i64 (list.length : Int)), (68, .int .i64 (k : Int)), (72, .int .i64 (list.length : Int)), (73, .int .i64 0)] →
      Q (.exit 6) [(1, .list 2 (prs list)), (5, .sl 1 1 0 list.length), (67, .int .i64 (list.length : Int)), (68, .int .i64 (k : Int))] ([(1, uRow list.length (clsR list (k + 1) 0)), (0, [.int .i64 n, .list 1 (ints l)])], 2) →
      LoopI ⟨Try.prog, w0, U0, L0, N0, 0, 106⟩ [] sc_i_IsAcyclic_L6 Q T0 ([(1, uRow list.length (clsR list k 0)), (0, [.int .i64 n, .list 1 (ints l)])], 2) := by
    intro k Q T0 hk hs q1
    refine loopQ env mixed (fun i : Nat => [(1, .list 2 (prs list)), (5, .sl 1 1 0 list.length), (10, .int .i64 (k : Int)), (67, .int .i64 (list.length : Int)), (68, .int .i64 (k : Int)), (72, .int .i64 (list.length : Int)), (73, .int .i64 (i : Int))])
      (fun i => ([(1, uRow list.length (clsR list k i)), (0, [.int .i64 n, .list 1 (ints l)])], 2)) (fun i => i ≤ list.length) (fun i => list.length - i) 0 (by simp) (SubI.slots rfl (by simpa using hs)) ?_
    intro i hi
    by_cases hlt : i < list.length
    · have hkS := isS_idx h32 hk
      have hg := hasG_fam (p := clsR list k i i) hkS
      by_cases hc : warsh (edgeP list) k i k
      · have hm : clsR list k i i (k : Int) := clsR_nat.2 ⟨hk, by simpa using hc⟩
        rw [dec_true hm] at hg
        have e : (uRow list.length (clsR list k i)).set i (.int .u64 (fam fun t => clsR list k i i t ∨ clsR list k i k t)) = uRow list.length (clsR list k (i + 1)) := by
          rw [uRow_set]
          refine uRow_congr fun a ha t ht => ?_
          by_cases ea : a = i
          · subst ea
            rw [if_pos rfl]
            unfold clsR
            have e1 : (if a < a then k + 1 else k) = k := by simp
            have e2 : (if a < a + 1 then k + 1 else k) = k + 1 := by simp
            rw [e1, e2]
            constructor
            · rintro (⟨b, e, h, h2⟩ | ⟨b, e, h, h2⟩)
              · exact ⟨b, e, h, .inl h2⟩
              · refine ⟨b, e, h, .inr ⟨hc, ?_⟩⟩
                split at h2
                · exact warsh_row.1 h2
                · exact h2
            · rintro ⟨b, e, h, h2 | ⟨_, h2⟩⟩
              · exact .inl ⟨b, e, h, h2⟩
              · refine .inr ⟨b, e, h, ?_⟩
                split
                · exact warsh_row.2 h2
                · exact h2
          · rw [if_neg ea]
            unfold clsR
            have e1 : (if a < i + 1 then k + 1 else k) = if a < i then k + 1 else k := by
              by_cases h : a < i
              · rw [if_pos h, if_pos (by omega)]
              · rw [if_neg h, if_neg (by omega)]
            rw [e1]
        simp -implicitDefEqProofs [sc_i_IsAcyclic_L6, F_i_hasSet, hlt, hk, hg, e]
        repeat' (first | omega | apply And.intro)
        exact Again.of (i + 1) (by omega) (by omega) (SubI.slots (by simp) (by simp (disch := omega) [wrapI]))
      · have hm : ¬ clsR list k i i (k : Int) := fun h => hc (by simpa using (clsR_nat.1 h).2)
        rw [dec_false hm] at hg
        have e : uRow list.length (clsR list k i) = uRow list.length (clsR list k (i + 1)) := uRow_congr fun a ha t ht => by
          unfold clsR
          by_cases ea : a = i
          · subst ea
            have e1 : (if a < a then k + 1 else k) = k := by simp
            have e2 : (if a < a + 1 then k + 1 else k) = k + 1 := by simp
            rw [e1, e2]
            constructor
            · rintro ⟨b, e, h, h2⟩; exact ⟨b, e, h, .inl h2⟩
            · rintro ⟨b, e, h, h2 | ⟨h2, _⟩⟩
              · exact ⟨b, e, h, h2⟩
              · exact absurd h2 hc
          · have e1 : (if a < i + 1 then k + 1 else k) = if a < i then k + 1 else k := by
              by_cases h : a < i
              · rw [if_pos h, if_pos (by omega)]
              · rw [if_neg h, if_neg (by omega)]
            rw [e1]
        simp -implicitDefEqProofs [sc_i_IsAcyclic_L6, F_i_hasSet, hlt, hg]
        repeat' (first | omega | apply And.intro)
        exact Again.of (i + 1) (by omega) (by omega) (SubI.slots (by simp [← e]) (by simp (disch := omega) [wrapI]))
    · have hil : i = list.length := by omega
      subst hil
      have e : uRow list.length (clsR list k list.length) = uRow list.length (clsR list (k + 1) 0) := uRow_congr fun a ha t ht => clsR_next list k a t ha
      rw [← e] at q1
      simp -implicitDefEqProofs [sc_i_IsAcyclic_L6]
      exact SubQ.of (SubI.slots rfl (by simp)) q1
  simp -implicitDefEqProofs [sc_i_IsAcyclic, F_s_IsPairing, hd]
  repeat' (first | omega | apply And.intro)
  refine loopI env mixed (fun i : Nat => [(1, .list 2 (prs list)), (5, .sl 1 1 0 list.length), (20, .list 2 (prs list)), (21, .int .i64 (list.length : Int)), (22, .int .i64 (i : Int))]) (fun i => ([(1, uRow list.length (edgR list i 0)), (0, [.int .i64 n, .list 1 (ints l)])], 2)) (fun i => i ≤ list.length) (fun i => list.length - i) 0 (by simp) (SubI.slots ?_ (by simp)) ?_
  · have e : uRow list.length (edgR list 0 0) = uRow list.length fun _ _ => False := uRow_congr fun a _ t _ => by
      unfold edgR
      exact ⟨fun ⟨b, _, _, h⟩ => by omega, False.elim⟩
    simp [e, uRow_none]
  intro i hi
  by_cases hlt : i < list.length
  · have hdi := prs_at hlt
    simp -implicitDefEqProofs [sc_i_IsAcyclic_L0, hlt, hdi]
    repeat' (first | omega | apply And.intro)
    refine edges i _ _ hlt (by simp) ?_
    simp -implicitDefEqProofs
    exact Again.of (i + 1) (by omega) (by omega) (SubI.slots (by simp) (by simp (disch := omega) [wrapI]))
  have hil : i = list.length := by omega
  subst hil
  have e0 : uRow list.length (edgR list list.length 0) = uRow list.length (clsR list 0 0) := uRow_congr fun a ha t ht => clsR_zero list a t ha
  rw [e0]
  simp -implicitDefEqProofs [sc_i_IsAcyclic_L0]
  refine loopI env mixed (fun k : Nat => [(1, .list 2 (prs list)), (5, .sl 1 1 0 list.length), (67, .int .i64 (list.length : Int)), (68, .int .i64 (k : Int))]) (fun k => ([(1, uRow list.length (clsR list k 0)), (0, [.int .i64 n, .list 1 (ints l)])], 2)) (fun k => k ≤ list.length) (fun k => list.length - k) 0 (by simp) (SubI.slots (by simp) (by simp)) ?_
  intro k hk
  by_cases hlt : k < list.length
  · simp -implicitDefEqProofs [sc_i_IsAcyclic_L4, hlt]
    repeat' (first | omega | apply And.intro)
    refine close k _ _ hlt (by simp) ?_
    simp -implicitDefEqProofs
    exact Again.of (k + 1) (by omega) (by omega) (SubI.slots (by simp) (by simp (disch := omega) [wrapI]))
  have hkl : k = list.length := by omega
  subst hkl
  simp -implicitDefEqProofs [sc_i_IsAcyclic_L4]
  refine loopI env mixed (fun i : Nat => [(5, .sl 1 1 0 list.length), (95, .int .i64 (list.length : Int)), (96, .int .i64 (i : Int))]) (fun _ => ([(1, uRow list.length (clsR list list.length 0)), (0, [.int .i64 n, .list 1 (ints l)])], 2)) (fun i => i ≤ list.length ∧ ∀ j, j < i → ¬ warsh (edgeP list) list.length j j) (fun i => list.length - i) 0 (by simp) (SubI.slots (by simp) (by simp)) ?_
  rintro i ⟨hi2, hno⟩
  by_cases hlt : i < list.length
  · have hiS := isS_idx h32 hlt
    have hg := hasG_fam (p := clsR list list.length 0 i) hiS
    by_cases hc : warsh (edgeP list) list.length i i
    · have hm : clsR list list.length 0 i (i : Int) := clsR_nat.2 ⟨hlt, by simpa using hc⟩
      rw [dec_true hm] at hg
      have hv1 : v = false := hv ▸ dec_false fun h => h.2 i hlt hc
      simp -implicitDefEqProofs [sc_i_IsAcyclic_L8, F_i_hasSet, hlt, hg, hv1]
      try omega
    · have hm : ¬ clsR list list.length 0 i (i : Int) := fun h => hc (by simpa using (clsR_nat.1 h).2)
      rw [dec_false hm] at hg
      simp -implicitDefEqProofs [sc_i_IsAcyclic_L8, F_i_hasSet, hlt, hg]
      repeat' (first | omega | apply And.intro)
      refine Again.of (i + 1) ⟨by omega, fun j hj => ?_⟩ (by omega) (SubI.slots rfl (by simp (disch := omega) [wrapI]))
      rcases Nat.lt_succ_iff_lt_or_eq.1 hj with h1 | rfl
      · exact hno j h1
      · exact hc
  · have hv1 : v = true := hv ▸ dec_true ⟨hP, fun i hi => hno i (by omega)⟩
    simp -implicitDefEqProofs [sc_i_IsAcyclic_L8, hlt, hv1]
def sc_l_FnExactIsAcyclic : SC := (.seq (.reg [⟨(some 2), none, (.box (.t 0))⟩, ⟨(some 4), none, (.mov (.c (.bool false)))⟩]) (.seq (.reg [⟨(some 5), none, (.mov (.c (.int .i64 1048576)))⟩]) (.seq (.reg [⟨(some 10), none, (.ld (some 2) .undef (.t 2))⟩, ⟨(some 11), none, (.mov (.t 5))⟩, ⟨(some 12), none, (.call 16 [(.t 10), (.t 11)])⟩, ⟨(some 5), none, (.mov (.t 12))⟩]) (.seq (.seq (.reg [⟨(some 13), none, (.mov (.t 5))⟩, ⟨(some 14), none, (.bin false .lss (.t 13) (.c (.int .i64 0)))⟩]) (.cond (.t 14) (.seq (.reg [⟨(some 4), none, (.mov (.c (.bool true)))⟩]) .ret) .skip)) (.seq (.reg [⟨(some 15), none, (.mov (.t 1))⟩, ⟨(some 16), none, (.mov (.t 5))⟩, ⟨(some 17), none, (.call 41 [(.t 15), (.t 16)])⟩, ⟨(some 5), none, (.mov (.t 17))⟩]) (.seq (.seq (.reg [⟨(some 18), none, (.mov (.t 5))⟩, ⟨(some 19), none, (.bin false .lss (.t 18) (.c (.int .i64 0)))⟩]) (.cond (.t 19) (.seq (.reg [⟨(some 4), none, (.mov (.c (.bool true)))⟩]) .ret) .skip)) (.seq (.reg [⟨(some 20), none, (.ld (some 2) .undef (.t 2))⟩, ⟨(some 21), none, (.call 18 [(.t 20)])⟩, ⟨(some 22), none, (.mov (.t 1))⟩, ⟨(some 23), none, (.call 43 [(.t 22)])⟩, ⟨(some 24), none, (.call 42 [(.t 21), (.t 23)])⟩, ⟨(some 6), none, (.mov (.t 24))⟩]) (.seq (.reg [⟨(some 25), none, (.ld (some 2) .undef (.t 2))⟩, ⟨(some 26), none, (.call 18 [(.t 25)])⟩, ⟨(some 7), none, (.new [(.int .i64 0), .nil])⟩, ⟨none, none, (.st 2 (.t 7) (.t 26))⟩]) (.seq (.reg [⟨(some 27), none, (.mov (.t 1))⟩, ⟨(some 28), none, (.call 43 [(.t 27)])⟩, ⟨(some 8), none, (.mov (.t 28))⟩]) (.seq (.reg [⟨(some 29), none, (.ld (some 2) .undef (.t 7))⟩, ⟨(some 30), none, (.mov (.t 8))⟩, ⟨(some 31), none, (.call 44 [(.t 29), (.t 30)])⟩, ⟨(some 9), none, (.mov (.t 31))⟩]) (.seq (.seq (.reg [⟨(some 32), none, (.mov (.t 9))⟩, ⟨(some 33), none, (.mov (.t 6))⟩, ⟨(some 34), none, (.bin true .neq (.t 32) (.t 33))⟩]) (.cond (.t 34) (.seq (.reg [⟨(some 4), none, (.mov (.c (.bool false)))⟩]) .ret) .skip)) (.seq (.seq (.dreg [⟨⟨(some 35), none, (.ld (some 2) .undef (.t 7))⟩, false, false⟩, ⟨⟨(some 36), none, (.ld (some 2) .undef (.t 2))⟩, false, false⟩, ⟨⟨(some 37), none, (.call 18 [(.t 36)])⟩, false, false⟩, ⟨⟨(some 38), none, (.call 20 [(.t 35), (.t 37)])⟩, false, false⟩, ⟨⟨(some 39), none, (.un .not (.t 38))⟩, false, false⟩]) (.cond (.t 39) (.seq (.reg [⟨(some 4), none, (.mov (.c (.bool false)))⟩]) .ret) .skip)) (.seq (.seq (.reg [⟨(some 40), none, (.mov (.t 8))⟩, ⟨(some 41), none, (.mov (.t 1))⟩, ⟨(some 42), none, (.call 43 [(.t 41)])⟩, ⟨(some 43), none, (.call 36 [(.t 40), (.t 42)])⟩, ⟨(some 44), none, (.un .not (.t 43))⟩]) (.cond (.t 44) (.seq (.reg [⟨(some 4), none, (.mov (.c (.bool false)))⟩]) .ret) .skip)) (.seq (.reg [⟨(some 4), none, (.mov (.c (.bool true)))⟩]) .ret))))))))))))))
theorem code_l_FnExactIsAcyclic : fnCode Try.prog [] 10 = some (45, sc_l_FnExactIsAcyclic, [(4, none)]) := by kernel_rfl
open Classical in
noncomputable def F_l_FnExactIsAcyclic : List V → Option V := F2 dC dP fun c0 c1 => if allR c0.2 ∧ allRP c1 then some (.bool true) else none
theorem fn_l_FnExactIsAcyclic : FnOk Try.prog 10 F_l_FnExactIsAcyclic := by
  have env := ((((((((envNil_ok (P := Try.prog)).add fn_s_IsAcyclic).add fn_i_IsAcyclic).add fn_l_szComplex).add fn_l_toComplex).add fn_l_eqComplex).add fn_l_szPairS).add fn_l_toPairS).add fn_l_eqPairS
  refine fn_ok code_l_FnExactIsAcyclic mixed env ?_
  intro args r h hb
  obtain ⟨_, _, ⟨n, l⟩, list, rfl, h1, h2, h9⟩ := F2_inv h
  cases dC_inv h1
  cases dP_inv h2
  simp only [Option.ite_none_right_eq_some, Option.some.injEq] at h9
  obtain ⟨⟨hc0, hc1⟩, rfl⟩ := h9
  refine ⟨by simp, fun w0 U0 L0 N0 => ?_⟩
  by_cases hl2 : 1048576 < l.length
  · have e : leftOf l.length 1048576 = -1 := by simp only [leftOf]; split <;> omega
    simp -implicitDefEqProofs [sc_l_FnExactIsAcyclic, F_l_szComplex, e]
    try omega
  · have e : leftOf l.length 1048576 = 1048576 - l.length := by simp only [leftOf]; split <;> omega
    have hl3 : l.length ≤ 1048576 := by omega
    have hl7 : (l.length : Int) ≤ 1048576 := by omega
    have hl9 : (1048576 : Int) - l.length ≤ 1048576 := by omega
    by_cases hl5 : (1048576 : Int) - l.length < list.length
    · have e2 : leftOf list.length (1048576 - l.length) = -1 := by simp only [leftOf]; split <;> omega
      simp -implicitDefEqProofs [sc_l_FnExactIsAcyclic, F_l_szComplex, F_l_szPairS, e, e2, hl3, hl7, hl9]
      try omega
    have e2 : leftOf list.length (1048576 - l.length) = 1048576 - l.length - list.length := by simp only [leftOf]; split <;> omega
    have hl6 : list.length ≤ 1048576 := by omega
    have htk : (prs list).take (list.length * 2) = prs list := List.take_of_length_le (by simp)
    have hl8 : ¬ ((1048576 : Int) - l.length - list.length < 0) := by omega
    simp -implicitDefEqProofs [sc_l_FnExactIsAcyclic, F_l_szPairS, F_s_IsAcyclic, F_l_szComplex, F_l_toComplex, F_l_eqComplex, F_l_toPairS, F_l_eqPairS, e, e2, hl3, hl6, hl7, hl8, hl9, htk, hc0, hc1]
    try omega
end Go.Proofs.Ytedampaecopkhaa
