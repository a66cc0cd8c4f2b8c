import Derived.Test.YtmemomfffehnkaaKY
import Derived.Test.YtmemomfffehnkaaFqN
import Derived.Test.YtmemomfffehnkaaKJ
namespace Go.Proofs.Ytmemomfffehnkaa
open Go Go.RowKit
set_option maxRecDepth 1000000
set_option linter.unusedSimpArgs false
set_option linter.unusedVariables false
set_option maxHeartbeats 1000000
def sc_s_l18Reach_L2 : SC := (.seq (.seq (.reg [⟨(some 22), none, (.mov (.t 8))⟩, ⟨(some 23), none, (.mov (.t 0))⟩, ⟨(some 24), none, (.len (.t 23))⟩, ⟨(some 25), none, (.bin false .lss (.t 22) (.t 24))⟩]) (.cond (.t 25) .skip (.exit 2))) (.seq (.block 3 (.seq (.dreg [⟨⟨(some 28), none, (.mov (.t 8))⟩, false, false⟩, ⟨⟨(some 29), none, (.mov (.t 7))⟩, false, false⟩, ⟨⟨(some 30), none, (.bin false .neq (.t 28) (.t 29))⟩, false, false⟩, ⟨⟨(some 31), none, (.mov (.t 30))⟩, false, false⟩, ⟨⟨(some 32), (some (31, true)), (.mov (.t 5))⟩, false, false⟩, ⟨⟨(some 33), (some (31, true)), (.mov (.t 8))⟩, false, false⟩, ⟨⟨(some 34), (some (31, true)), (.idx 1 (.t 32) (.t 33))⟩, false, false⟩, ⟨⟨(some 35), (some (31, true)), (.ld none (.bool false) (.t 34))⟩, false, false⟩, ⟨⟨(some 36), (some (31, true)), (.un .not (.t 35))⟩, false, false⟩, ⟨⟨(some 37), none, (.pick (.t 31) (.t 36) (.c (.bool false)))⟩, false, false⟩, ⟨⟨(some 38), none, (.mov (.t 37))⟩, false, false⟩, ⟨⟨(some 39), (some (38, true)), (.mov (.t 0))⟩, false, false⟩, ⟨⟨(some 40), (some (38, true)), (.mov (.t 8))⟩, false, false⟩, ⟨⟨(some 41), (some (38, true)), (.idx 2 (.t 39) (.t 40))⟩, false, false⟩, ⟨⟨(some 42), (some (38, true)), (.fad 0 (.t 41))⟩, false, false⟩, ⟨⟨(some 43), (some (38, true)), (.ld none (.int .i64 0) (.t 42))⟩, false, false⟩, ⟨⟨(some 44), (some (38, true)), (.mov (.t 0))⟩, false, false⟩, ⟨⟨(some 45), (some (38, true)), (.mov (.t 7))⟩, false, false⟩, ⟨⟨(some 46), (some (38, true)), (.idx 2 (.t 44) (.t 45))⟩, false, false⟩, ⟨⟨(some 47), (some (38, true)), (.fad 1 (.t 46))⟩, false, false⟩, ⟨⟨(some 48), (some (38, true)), (.ld none (.int .i64 0) (.t 47))⟩, false, false⟩, ⟨⟨(some 49), (some (38, true)), (.bin false .and (.t 43) (.t 48))⟩, false, false⟩, ⟨⟨(some 50), (some (38, true)), (.mov (.t 0))⟩, false, false⟩, ⟨⟨(some 51), (some (38, true)), (.mov (.t 8))⟩, false, false⟩, ⟨⟨(some 52), (some (38, true)), (.idx 2 (.t 50) (.t 51))⟩, false, false⟩, ⟨⟨(some 53), (some (38, true)), (.fad 0 (.t 52))⟩, false, false⟩, ⟨⟨(some 54), (some (38, true)), (.ld none (.int .i64 0) (.t 53))⟩, false, false⟩, ⟨⟨(some 55), (some (38, true)), (.bin false .eql (.t 49) (.t 54))⟩, false, false⟩, ⟨⟨(some 56), none, (.pick (.t 38) (.t 55) (.c (.bool false)))⟩, false, false⟩, ⟨⟨(some 57), none, (.mov (.t 56))⟩, false, false⟩, ⟨⟨(some 58), (some (57, true)), (.mov (.t 0))⟩, false, false⟩, ⟨⟨(some 59), (some (57, true)), (.mov (.t 8))⟩, false, false⟩, ⟨⟨(some 60), (some (57, true)), (.idx 2 (.t 58) (.t 59))⟩, false, false⟩, ⟨⟨(some 61), (some (57, true)), (.fad 0 (.t 60))⟩, false, false⟩, ⟨⟨(some 62), (some (57, true)), (.ld none (.int .i64 0) (.t 61))⟩, false, false⟩, ⟨⟨(some 63), (some (57, true)), (.mov (.t 0))⟩, false, false⟩, ⟨⟨(some 64), (some (57, true)), (.mov (.t 7))⟩, false, false⟩, ⟨⟨(some 65), (some (57, true)), (.idx 2 (.t 63) (.t 64))⟩, false, false⟩, ⟨⟨(some 66), (some (57, true)), (.fad 0 (.t 65))⟩, false, false⟩, ⟨⟨(some 67), (some (57, true)), (.ld none (.int .i64 0) (.t 66))⟩, false, false⟩, ⟨⟨(some 68), (some (57, true)), (.bin false .neq (.t 62) (.t 67))⟩, false, false⟩, ⟨⟨(some 69), none, (.pick (.t 57) (.t 68) (.c (.bool false)))⟩, false, false⟩, ⟨⟨(some 70), none, (.mov (.t 69))⟩, false, false⟩, ⟨⟨(some 71), (some (70, true)), (.mov (.t 0))⟩, false, false⟩, ⟨⟨(some 72), (some (70, true)), (.mov (.t 7))⟩, false, false⟩, ⟨⟨(some 73), (some (70, true)), (.idx 2 (.t 71) (.t 72))⟩, false, false⟩, ⟨⟨(some 74), (some (70, true)), (.fad 1 (.t 73))⟩, false, false⟩, ⟨⟨(some 75), (some (70, true)), (.ld none (.int .i64 0) (.t 74))⟩, false, false⟩, ⟨⟨(some 76), (some (70, true)), (.call 156 [(.t 75)])⟩, false, false⟩, ⟨⟨(some 77), (some (70, true)), (.mov (.t 0))⟩, false, false⟩, ⟨⟨(some 78), (some (70, true)), (.mov (.t 8))⟩, false, false⟩, ⟨⟨(some 79), (some (70, true)), (.idx 2 (.t 77) (.t 78))⟩, false, false⟩, ⟨⟨(some 80), (some (70, true)), (.fad 0 (.t 79))⟩, false, false⟩, ⟨⟨(some 81), (some (70, true)), (.ld none (.int .i64 0) (.t 80))⟩, false, false⟩, ⟨⟨(some 82), (some (70, true)), (.call 156 [(.t 81)])⟩, false, false⟩, ⟨⟨(some 83), (some (70, true)), (.bin false .sub (.t 76) (.t 82))⟩, false, false⟩, ⟨⟨(some 84), (some (70, true)), (.bin false .eql (.t 83) (.c (.int .i64 1)))⟩, false, false⟩, ⟨⟨(some 85), none, (.pick (.t 70) (.t 84) (.c (.bool false)))⟩, false, false⟩]) (.cond (.t 85) (.seq (.reg [⟨(some 86), none, (.mov (.t 5))⟩, ⟨(some 87), none, (.mov (.t 8))⟩, ⟨(some 88), none, (.idx 1 (.t 86) (.t 87))⟩, ⟨none, none, (.st 1 (.t 88) (.c (.bool true)))⟩]) (.reg [⟨(some 89), none, (.mov (.t 6))⟩, ⟨(some 90), none, (.mov (.t 8))⟩, ⟨(some 91), none, (.mks 1 1 [(.int .i64 0)] [(0, (1, (.t 90)))])⟩, ⟨(some 92), none, (.app 1 8 (.t 89) (.t 91))⟩, ⟨(some 6), none, (.mov (.t 92))⟩])) .skip))) (.reg [⟨(some 26), none, (.mov (.t 8))⟩, ⟨(some 27), none, (.bin false .add (.t 26) (.c (.int .i64 1)))⟩, ⟨(some 8), none, (.mov (.t 27))⟩])))
def sc_s_l18Reach_L0 : SC := (.seq (.seq (.reg [⟨(some 14), none, (.mov (.t 6))⟩, ⟨(some 15), none, (.len (.t 14))⟩, ⟨(some 16), none, (.bin false .gtr (.t 15) (.c (.int .i64 0)))⟩]) (.cond (.t 16) .skip (.exit 0))) (.block 1 (.seq (.reg [⟨(some 17), none, (.mov (.t 6))⟩, ⟨(some 18), none, (.idx 1 (.t 17) (.c (.int .i64 0)))⟩, ⟨(some 19), none, (.ld none (.int .i64 0) (.t 18))⟩, ⟨(some 7), none, (.mov (.t 19))⟩]) (.seq (.reg [⟨(some 20), none, (.mov (.t 6))⟩, ⟨(some 21), none, (.sli 1 (.t 20) (some (.c (.int .i64 1))) none none)⟩, ⟨(some 6), none, (.mov (.t 21))⟩]) (.seq (.reg [⟨(some 8), none, (.mov (.c (.int .i64 0)))⟩]) (.block 2 (.loop sc_s_l18Reach_L2)))))))
def sc_s_l18Reach : SC := (.seq (.reg [⟨(some 4), none, (.mov (.c .nil))⟩]) (.seq (.reg [⟨(some 9), none, (.mov (.t 0))⟩, ⟨(some 10), none, (.len (.t 9))⟩, ⟨(some 11), none, (.mk 1 1 [(.bool false)] (.t 10) (.t 10))⟩, ⟨(some 5), none, (.mov (.t 11))⟩]) (.seq (.reg [⟨(some 12), none, (.mov (.t 1))⟩, ⟨(some 13), none, (.mks 1 1 [(.int .i64 0)] [(0, (1, (.t 12)))])⟩, ⟨(some 6), none, (.mov (.t 13))⟩]) (.seq (.block 0 (.loop sc_s_l18Reach_L0)) (.seq (.reg [⟨(some 93), none, (.mov (.t 5))⟩, ⟨(some 4), none, (.mov (.t 93))⟩]) .ret)))))
theorem code_s_l18Reach : fnCode Try.prog [] 190 = some (94, sc_s_l18Reach, [(4, none)]) := by kernel_rfl
noncomputable def F_s_l18Reach : List V → Option V := F2 dP dI fun list x => @ite _ (reachOk list ∧ 0 ≤ x ∧ x < list.length) (Classical.propDecidable _) (some (.own 1 (boolRow list.length fun j => warsh (edgeP list) list.length x.toNat j))) none
/-- The state of the search: marks, the row, where what is left begins. -/
structure Bfs where
  M : Nat → Prop
  Q : List Int
  off : Nat
def bfsI (list : List (Int × Int)) (a : Nat) (x : Bfs) : Prop :=
  x.off ≤ x.Q.length ∧ (∀ q ∈ x.Q.drop x.off, ∃ t : Nat, q = t ∧ t < list.length ∧ (t = a ∨ x.M t)) ∧ (∀ j, x.M j → j < list.length ∧ warsh (edgeP list) list.length a j) ∧
  (∀ i, (i = a ∨ x.M i) → ((i : Int) ∈ x.Q.drop x.off ∨ ∀ j, edgeP list i j → x.M j)) ∧ (x.Q.length - x.off) + 2 * cntU x.M list.length ≤ 2 * list.length + 1
/-- Within a round: k is the pair at hand, those below i are seen. -/
def bfsJ (list : List (Int × Int)) (a k B : Nat) (y : Nat × Bfs) : Prop :=
  y.1 ≤ list.length ∧ y.2.off ≤ y.2.Q.length ∧ (∀ q ∈ y.2.Q.drop y.2.off, ∃ t : Nat, q = t ∧ t < list.length ∧ (t = a ∨ y.2.M t)) ∧ (∀ j, y.2.M j → j < list.length ∧ warsh (edgeP list) list.length a j) ∧
  (∀ i, (i = a ∨ y.2.M i) → (i = k ∨ (i : Int) ∈ y.2.Q.drop y.2.off ∨ ∀ j, edgeP list i j → y.2.M j)) ∧ (∀ j, j < y.1 → edgeP list k j → y.2.M j) ∧ (y.2.Q.length - y.2.off) + 2 * cntU y.2.M list.length ≤ B ∧ (k = a ∨ y.2.M k)
theorem bfs_skip {list : List (Int × Int)} {a k B i : Nat} {y : Bfs} (h : bfsJ list a k B (i, y)) (hi : i < list.length) (he : edgeP list k i → y.M i) : bfsJ list a k B (i + 1, y) := by
  obtain ⟨_, h2, h3, h4, h5, h6, h7, h8⟩ := h
  refine ⟨hi, h2, h3, h4, h5, fun j hj hjk => ?_, h7, h8⟩
  rcases Nat.lt_succ_iff_lt_or_eq.1 hj with h | rfl
  · exact h6 j h hjk
  · exact he hjk
theorem bfs_mark {list : List (Int × Int)} {a k B i : Nat} {y : Bfs} (h : bfsJ list a k B (i, y)) (hi : i < list.length) (hk : k < list.length) (he : edgeP list k i) (hm : ¬ y.M i) : bfsJ list a k B (i + 1, ⟨fun j => y.M j ∨ j = i, y.Q.drop y.off ++ [(i : Int)], 0⟩) := by
  obtain ⟨_, h2, h3, h4, h5, h6, h7, h8⟩ := h
  simp only at h2 h3 h4 h5 h6 h7 h8
  refine ⟨hi, by simp, fun q hq => ?_, fun j hj => ?_, fun x hx => ?_, fun j hj hjk => ?_, ?_, ?_⟩
  · simp only [List.drop_zero, List.mem_append, List.mem_singleton] at hq
    rcases hq with hq | rfl
    · obtain ⟨t, e, ht, h9⟩ := h3 q hq
      exact ⟨t, e, ht, h9.elim .inl fun h => .inr (.inl h)⟩
    · exact ⟨i, rfl, hi, .inr (.inr rfl)⟩
  · rcases hj with hj | rfl
    · exact h4 j hj
    · refine ⟨hi, ?_⟩
      rcases h8 with rfl | h8
      · exact warsh_of _ he
      · exact warsh_trans _ hk (h4 k h8).2 (warsh_of _ he)
  · simp only [List.drop_zero, List.mem_append, List.mem_singleton]
    rcases hx with hx | hx | rfl
    · rcases h5 x (.inl hx) with h9 | h9 | h9
      · exact .inl h9
      · exact .inr (.inl (.inl h9))
      · exact .inr (.inr fun j hj => .inl (h9 j hj))
    · rcases h5 x (.inr hx) with h9 | h9 | h9
      · exact .inl h9
      · exact .inr (.inl (.inl h9))
      · exact .inr (.inr fun j hj => .inl (h9 j hj))
    · exact .inr (.inl (.inr rfl))
  · rcases Nat.lt_succ_iff_lt_or_eq.1 hj with h9 | rfl
    · exact .inl (h6 j h9 hjk)
    · exact .inr rfl
  · have := cntU_mark hm hi
    simp only [List.length_append, List.length_drop, List.length_cons, List.length_nil]
    omega
  · exact h8.elim .inl fun h => .inr (.inl h)
theorem bfs_pop {list : List (Int × Int)} {a : Nat} {x : Bfs} (h : bfsI list a x) (hlt : x.off < x.Q.length) : ∃ k : Nat, at0 x.Q x.off = k ∧ k < list.length ∧ bfsJ list a k ((x.Q.length - (x.off + 1)) + 2 * cntU x.M list.length) (0, ⟨x.M, x.Q, x.off + 1⟩) := by
  obtain ⟨h1, h2, h3, h4, h5⟩ := h
  have hd : x.Q.drop x.off = at0 x.Q x.off :: x.Q.drop (x.off + 1) := by rw [at0_eq hlt]; exact List.drop_eq_getElem_cons hlt
  rw [hd] at h2 h4
  obtain ⟨k, e, hk, hka⟩ := h2 _ (List.mem_cons_self ..)
  refine ⟨k, e, hk, by simp, hlt, fun q hq => h2 q (List.mem_cons_of_mem _ hq), h3, fun i hi => ?_, fun j hj => by simp only at hj; omega, by simp only; omega, hka⟩
  rcases h4 i hi with h6 | h6
  · rcases List.mem_cons.1 h6 with h7 | h7
    · rw [e] at h7
      exact .inl (by omega)
    · exact .inr (.inl h7)
  · exact .inr (.inr h6)
theorem bfs_back {list : List (Int × Int)} {a k B : Nat} {y : Bfs} (h : bfsJ list a k B (list.length, y)) (hB : B ≤ 2 * list.length + 1) : bfsI list a y := by
  obtain ⟨_, h2, h3, h4, h5, h6, h7, h8⟩ := h
  refine ⟨h2, h3, h4, fun i hi => ?_, by simp only at h7; omega⟩
  rcases h5 i hi with rfl | h9 | h9
  · exact .inr fun j hj => h6 j hj.2.1 hj
  · exact .inl h9
  · exact .inr h9
theorem fn_s_l18Reach : FnOk Try.prog 190 F_s_l18Reach := by
  have env := (envNil_ok (P := Try.prog)).add fn_s_l2Size
  refine fn_ok code_s_l18Reach mixed env ?_
  intro args r h hb
  obtain ⟨_, _, list, x, rfl, h1, h2, h4⟩ := F2_inv h
  cases dP_inv h1
  cases dI_inv h2
  clear h
  simp only [Option.ite_none_right_eq_some, Option.some.injEq] at h4
  obtain ⟨⟨⟨hl32, hS, hlow⟩, hx0, hxm⟩, rfl⟩ := h4
  obtain ⟨a, rfl⟩ : ∃ a : Nat, x = a := ⟨x.toNat, by omega⟩
  have ham : a < list.length := by omega
  rw [Int.toNat_natCast]
  refine ⟨by simp, fun w0 U0 L0 N0 => ?_⟩
  clear hb
  generalize hW : boolRow list.length (fun j => warsh (edgeP list) list.length a j) = W
  have inner : ∀ (k B : Nat) (y0 : Bfs) (Q : Post) (T0 : Tm), k < list.length → B ≤ 2 * list.length + 1 → bfsJ list a k B (0, y0) → subE T0 [(0, .list 2 (prs list)), (5, .sl 0 1 0 list.length), (6, .sl 1 1 y0.off (y0.Q.length - y0.off)), (7, .int .i64 (k : Int)), (8, .int .i64 0)] →
      (∀ y : Bfs, bfsJ list a k B (list.length, y) → Q (.exit 2) [(0, .list 2 (prs list)), (5, .sl 0 1 0 list.length), (6, .sl 1 1 y.off (y.Q.length - y.off))] ([(1, ints y.Q), (0, boolRow list.length y.M)], 2)) →
      LoopI ⟨Try.prog, w0, U0, L0, N0, 0, 94⟩ [] sc_s_l18Reach_L2 Q T0 ([(1, ints y0.Q), (0, boolRow list.length y0.M)], 2) := by
    intro k B y0 Q T0 hk hB hJ0 hs q1
    refine loopQ env mixed (fun y : Nat × Bfs => [(0, .list 2 (prs list)), (5, .sl 0 1 0 list.length), (6, .sl 1 1 y.2.off (y.2.Q.length - y.2.off)), (7, .int .i64 (k : Int)), (8, .int .i64 (y.1 : Int))]) (fun y => ([(1, ints y.2.Q), (0, boolRow list.length y.2.M)], 2))
      (bfsJ list a k B) (fun y => list.length - y.1) (0, y0) hJ0 (SubI.slots rfl (by simpa using hs)) ?_
    rintro ⟨i, y⟩ hJ
    obtain ⟨hi, hoff, _, _, _, _, hBm, _⟩ := id hJ
    simp only at hi hoff hBm
    by_cases hlt : i < list.length
    · have hdi := prs_at hlt
      have hdk := prs_at hk
      obtain ⟨s1, s2⟩ := hS i hlt
      obtain ⟨s3, s4⟩ := hS k hk
      have hQl : y.Q.length - y.off ≤ 65 := by omega
      by_cases c1 : i = k
      · have hnx := bfs_skip hJ hlt fun h => absurd c1.symm h.2.2.1
        subst c1
        simp -implicitDefEqProofs [sc_s_l18Reach_L2, hlt]
        repeat' (first | omega | apply And.intro)
        exact Again.of (i + 1, y) hnx (by simp only; omega) (SubI.slots rfl (by simp (disch := omega) [wrapI]))
      have c1' : ¬ ((i : Int) = k) := by omega
      by_cases c2 : y.M i
      · have hd2 := dec_true c2
        have hnx := bfs_skip hJ hlt fun _ => c2
        simp -implicitDefEqProofs [sc_s_l18Reach_L2, hlt, c1, c1', hd2]
        repeat' (first | omega | apply And.intro)
        exact Again.of (i + 1, y) hnx (by simp only; omega) (SubI.slots rfl (by simp (disch := omega) [wrapI]))
      have hd2 := dec_false c2
      have c4 := hlow i k hlt hk c1
      generalize hpi : pr0 list i = pi at *
      generalize hpk : pr0 list k = pk at *
      by_cases c3 : band pi.1 pk.2 = pi.1
      rotate_left
      · have hnx := bfs_skip hJ hlt fun h => absurd ((subS_iff s1 s4).1 (by have := h.2.2.2.1; rwa [hpi, hpk] at this)) c3
        simp -implicitDefEqProofs [sc_s_l18Reach_L2, hlt, c1, c1', hd2, hdi, hdk, hk, c3]
        repeat' (first | omega | apply And.intro)
        exact Again.of (i + 1, y) hnx (by simp only; omega) (SubI.slots rfl (by simp (disch := omega) [wrapI]))
      have r1 : pk.2 < 9223372036854775808 := by have := s4.2; omega
      have r2 : pi.1 < 9223372036854775808 := by have := s1.2; omega
      have hw : IntKind.i64.wrap (sz pk.2 - sz pi.1) = sz pk.2 - sz pi.1 := wrapI _ (by have := sz_nn pk.2; have := sz_le pi.1; omega) (by have := sz_le pk.2; have := sz_nn pi.1; omega)
      by_cases c5 : sz pk.2 - sz pi.1 = 1
      rotate_left
      · have hnx := bfs_skip hJ hlt fun h => absurd (by have := h.2.2.2.2; rw [hpi, hpk] at this; omega) c5
        simp -implicitDefEqProofs [sc_s_l18Reach_L2, F_s_l2Size, hlt, c1, c1', hd2, hdi, hdk, hk, c3, c4, r1, r2, hw, c5]
        repeat' (first | omega | apply And.intro)
        exact Again.of (i + 1, y) hnx (by simp only; omega) (SubI.slots rfl (by simp (disch := omega) [wrapI]))
      have hw1 : IntKind.i64.wrap 1 = 1 := wrapI 1 (by omega) (by omega)
      have hedge : edgeP list k i := ⟨hk, hlt, fun e => c1 e.symm, by rw [hpi, hpk]; exact (subS_iff s1 s4).2 c3, by rw [hpi, hpk]; omega⟩
      have hnx := bfs_mark hJ hlt hk hedge c2
      have hst := boolRow_set (P := y.M) hlt
      simp -implicitDefEqProofs [sc_s_l18Reach_L2, F_s_l2Size, hlt, c1, c1', hd2, hdi, hdk, hk, c3, c4, r1, r2, hw1, c5, hst]
      repeat' (first | omega | apply And.intro)
      refine Again.of (i + 1, ⟨fun j => y.M j ∨ j = i, y.Q.drop y.off ++ [(i : Int)], 0⟩) hnx (by simp only; omega) (SubI.ren (fun m => if m = 0 then some 0 else if m = 1 then some 3 else none) ?_ ?_ ?_ (by simp) (by simp))
      · simp (disch := omega) [subT, renV, ren1, wrapI]
      · have htk : (y.Q.drop y.off).take (y.Q.length - y.off) = y.Q.drop y.off := List.take_of_length_le (by simp)
        simp [subH, renL, ren1, htk]
        rw [← ints_app]
        rfl
      · intro m hm
        simp only at hm
        rw [if_neg (by omega), if_neg (by omega)]
    · have hil : i = list.length := by omega
      subst hil
      have q2 := q1 y hJ
      simp -implicitDefEqProofs [sc_s_l18Reach_L2]
      exact SubQ.of (SubI.slots rfl (by simp)) q2
  simp -implicitDefEqProofs [sc_s_l18Reach]
  repeat' (first | omega | apply And.intro)
  refine loopI env mixed (fun x : Bfs => [(0, .list 2 (prs list)), (5, .sl 0 1 0 list.length), (6, .sl 1 1 x.off (x.Q.length - x.off))]) (fun x => ([(1, ints x.Q), (0, boolRow list.length x.M)], 2)) (bfsI list a) (fun x => (x.Q.length - x.off) + 2 * cntU x.M list.length) ⟨fun _ => False, [(a : Int)], 0⟩ ?_ (SubI.slots (by simp [boolRow_none]) (by simp)) ?_
  · refine ⟨by simp, fun q hq => ⟨a, by simpa using hq, ham, .inl rfl⟩, fun j hj => hj.elim, fun i hi => .inl ?_, ?_⟩
    · rcases hi with rfl | hi
      · simp
      · exact hi.elim
    · have := cntU_le (fun _ => False) list.length
      simp
      omega
  · rintro ⟨M, Q, off⟩ hI
    obtain ⟨hoff, _, hMw, hcl, hmes⟩ := id hI
    simp only at hoff hMw hcl hmes
    by_cases hlt : off < Q.length
    · obtain ⟨k, hq, hk, hJ⟩ := bfs_pop hI hlt
      simp only at hq hJ
      have hpos : 0 < Q.length - off := by omega
      have e1 : Q.length - off - 1 = Q.length - (off + 1) := by omega
      simp -implicitDefEqProofs [sc_s_l18Reach_L0, hlt, hpos, hq]
      repeat' (first | omega | apply And.intro)
      refine inner k _ ⟨M, Q, off + 1⟩ _ _ hk (by omega) hJ ?_ ?_
      · simp
        try omega
      · intro y hy
        have hyB := hy.2.2.2.2.2.2.1
        have hyI := bfs_back hy (by omega)
        simp only at hyB
        simp -implicitDefEqProofs
        exact Again.of y hyI (by simp only; omega) (SubI.slots rfl (by simp))
    · have hoe : off = Q.length := by omega
      subst hoe
      have hclosed : ∀ i j, (i = a ∨ M i) → edgeP list i j → M j := fun i j hi hj => by
        rcases hcl i hi with h | h
        · simp at h
        · exact h j hj
      have hMW : boolRow list.length M = W := by
        rw [← hW]
        refine boolRow_congr fun j hj => ⟨fun h => (hMw j h).2, fun h => ?_⟩
        exact warsh_closed (M := M) (fun j hj => hclosed a j (.inl rfl) hj) (fun i j hi hj => hclosed i j (.inr hi) hj) _ (.inl rfl) h
      have htk : W.take list.length = W := by rw [← hW]; exact boolRow_take _ _
      have hWl : W.length = list.length := by rw [← hW]; exact boolRow_len _ _
      have hWn : W.all (nonm 6) = true := by rw [← hW]; exact boolRow_nm 5 _ _
      simp -implicitDefEqProofs [sc_s_l18Reach_L0, hMW, htk, hWl, hWn]
end Go.Proofs.Ytmemomfffehnkaa
namespace Go.Proofs.Ytmemomfffehnkaa
open Go Go.RowKit
set_option maxRecDepth 1000000
set_option linter.unusedSimpArgs false
set_option linter.unusedVariables false
set_option maxHeartbeats 1000000
def sc_s_IsAcyclic_L0 : SC := (.seq (.seq (.reg [⟨(some 10), none, (.mov (.t 5))⟩, ⟨(some 11), none, (.mov (.t 1))⟩, ⟨(some 12), none, (.len (.t 11))⟩, ⟨(some 13), none, (.bin false .lss (.t 10) (.t 12))⟩]) (.cond (.t 13) .skip (.exit 0))) (.seq (.block 1 (.seq (.reg [⟨(some 16), none, (.mov (.t 1))⟩, ⟨(some 17), none, (.mov (.t 5))⟩, ⟨(some 18), none, (.call 190 [(.t 16), (.t 17)])⟩, ⟨(some 19), none, (.mov (.t 5))⟩, ⟨(some 20), none, (.idx 1 (.t 18) (.t 19))⟩, ⟨(some 21), none, (.ld none (.bool false) (.t 20))⟩]) (.cond (.t 21) (.seq (.reg [⟨(some 4), none, (.mov (.c (.bool false)))⟩]) .ret) .skip))) (.reg [⟨(some 14), none, (.mov (.t 5))⟩, ⟨(some 15), none, (.bin false .add (.t 14) (.c (.int .i64 1)))⟩, ⟨(some 5), none, (.mov (.t 15))⟩])))
def sc_s_IsAcyclic : SC := (.seq (.reg [⟨(some 2), none, (.box (.t 0))⟩, ⟨(some 4), none, (.mov (.c (.bool false)))⟩]) (.seq (.seq (.reg [⟨(some 6), none, (.ld (some 2) .undef (.t 2))⟩, ⟨(some 7), none, (.mov (.t 1))⟩, ⟨(some 8), none, (.call 86 [(.t 6), (.t 7)])⟩, ⟨(some 9), none, (.un .not (.t 8))⟩]) (.cond (.t 9) (.seq (.reg [⟨(some 4), none, (.mov (.c (.bool false)))⟩]) .ret) .skip)) (.seq (.seq (.reg [⟨(some 5), none, (.mov (.c (.int .i64 0)))⟩]) (.block 0 (.loop sc_s_IsAcyclic_L0))) (.seq (.reg [⟨(some 4), none, (.mov (.c (.bool true)))⟩]) .ret))))
theorem code_s_IsAcyclic : fnCode Try.prog [] 88 = some (22, sc_s_IsAcyclic, [(4, none)]) := by kernel_rfl
theorem fn_s_IsAcyclic : FnOk Try.prog 88 F_s_IsAcyclic := by
  have env := ((envNil_ok (P := Try.prog)).add fn_s_IsPairing).add fn_s_l18Reach
  refine fn_ok code_s_IsAcyclic mixed env ?_
  intro args r h hb
  obtain ⟨_, _, ⟨n, l⟩, list, rfl, h1, h2, h4⟩ := F2_inv h
  cases dC_inv h1
  cases dP_inv h2
  cases h4
  clear h
  refine ⟨by simp, fun w0 U0 L0 N0 => ?_⟩
  clear hb
  generalize hv : dec (acycP n l list) = v
  by_cases hP : pairP n l list
  rotate_left
  · have hd := dec_false hP
    have hv1 : v = false := hv ▸ dec_false fun h => hP h.1
    simp -implicitDefEqProofs [sc_s_IsAcyclic, F_s_IsPairing, hd, hv1]
  have hd := dec_true hP
  have hR := pair_reach hP
  have h32 := hR.1
  simp -implicitDefEqProofs [sc_s_IsAcyclic, F_s_IsPairing, hd]
  refine loopI env mixed (fun k : Nat => [(1, .list 2 (prs list)), (5, .int .i64 (k : Int))]) (fun _ => ([(0, [.int .i64 n, .list 1 (ints l)])], 1)) (fun k => k ≤ list.length ∧ ∀ j, j < k → ¬ warsh (edgeP list) list.length j j) (fun k => list.length - k) 0 (by simp) (SubI.slots rfl (by simp)) ?_
  rintro k ⟨hk, hno⟩
  by_cases hlt : k < list.length
  · have hF : F_s_l18Reach [.list 2 (prs list), .int .i64 (k : Int)] = some (.own 1 (boolRow list.length fun j => warsh (edgeP list) list.length k j)) := by
      simp only [F_s_l18Reach, F2_mk, dP_list, dI_int, Option.bind_some]
      rw [if_pos ⟨hR, by omega, by omega⟩, Int.toNat_natCast]
    by_cases hc : warsh (edgeP list) list.length k k
    · have hv1 : v = false := hv ▸ dec_false fun h => h.2 k hlt hc
      have hd2 := dec_true hc
      simp -implicitDefEqProofs [sc_s_IsAcyclic_L0, hF, hlt, hd2, hv1]
      try omega
    · have hd2 := dec_false hc
      simp -implicitDefEqProofs [sc_s_IsAcyclic_L0, hF, hlt, hd2]
      repeat' (first | omega | apply And.intro)
      refine Again.of (k + 1) ⟨by omega, fun j hj => ?_⟩ (by omega) (SubI.ren (fun m => if m = 0 then some 0 else none) ?_ ?_ ?_ (by simp) (by simp))
      · rcases Nat.lt_succ_iff_lt_or_eq.1 hj with h1 | rfl
        · exact hno j h1
        · exact hc
      · simp (disch := omega) [subT, renV, ren1, wrapI]
      · simp [subH, renL, ren1]
      · intro m hm
        simp only at hm
        rw [if_neg (by omega)]
  · have hv1 : v = true := hv ▸ dec_true ⟨hP, fun i hi => hno i (by omega)⟩
    simp -implicitDefEqProofs [sc_s_IsAcyclic_L0, hlt, hv1]
end Go.Proofs.Ytmemomfffehnkaa
namespace Go.Proofs.Ytmemomfffehnkaa
open Go Go.RowKit
set_option maxRecDepth 1000000
set_option linter.unusedSimpArgs false
set_option linter.unusedVariables false
set_option maxHeartbeats 1000000
def sc_i_IsPairing : SC := (.seq (.reg [⟨(some 2), none, (.box (.t 0))⟩, ⟨(some 4), none, (.mov (.c (.bool false)))⟩]) (.seq (.reg [⟨(some 8), none, (.ld (some 2) .undef (.t 2))⟩, ⟨(some 9), none, (.mov (.t 1))⟩, ⟨(some 10), none, (.call 188 [(.t 8), (.t 9)])⟩, ⟨(some 7), none, (.mov (.t 10))⟩, ⟨(some 11), none, (.ext 0 (.t 7))⟩, ⟨(some 12), none, (.ext 1 (.t 7))⟩, ⟨(some 5), none, (.mov (.t 11))⟩, ⟨(some 6), none, (.mov (.t 12))⟩]) (.seq (.reg [⟨(some 13), none, (.mov (.t 6))⟩, ⟨(some 4), none, (.mov (.t 13))⟩]) .ret)))
theorem code_i_IsPairing : fnCode Try.prog [] 85 = some (14, sc_i_IsPairing, [(4, none)]) := by kernel_rfl
theorem fn_i_IsPairing : FnOk Try.prog 85 F_s_IsPairing := by
  have env := (envNil_ok (P := Try.prog)).add fn_i_pairedIn
  refine fn_ok code_i_IsPairing mixed env ?_
  intro args r h hb
  obtain ⟨_, _, ⟨n, l⟩, list, rfl, h1, h2, h4⟩ := F2_inv h
  cases dC_inv h1
  cases dP_inv h2
  cases h4
  refine ⟨by simp, fun w0 U0 L0 N0 => ?_⟩
  simp -implicitDefEqProofs [sc_i_IsPairing, F_i_pairedIn]
end Go.Proofs.Ytmemomfffehnkaa
namespace Go.Proofs.Ytmemomfffehnkaa
open Go Go.RowKit
set_option maxRecDepth 1000000
set_option linter.unusedSimpArgs false
set_option linter.unusedVariables false
set_option maxHeartbeats 1000000
def sc_i_IsAcyclic_L8 : SC := (.seq (.reg [⟨(some 97), none, (.bin false .lss (.t 96) (.t 95))⟩]) (.seq (.cond (.t 97) .skip (.exit 8)) (.seq (.block 9 (.seq (.reg [⟨(some 98), none, (.mov (.t 96))⟩, ⟨(some 12), none, (.mov (.t 98))⟩]) (.seq (.reg [⟨(some 99), none, (.mov (.t 5))⟩, ⟨(some 100), none, (.mov (.t 12))⟩, ⟨(some 101), none, (.idx 1 (.t 99) (.t 100))⟩, ⟨(some 102), none, (.ld none (.int .u64 0) (.t 101))⟩, ⟨(some 103), none, (.mov (.t 12))⟩, ⟨(some 104), none, (.call 182 [(.t 102), (.t 103)])⟩]) (.cond (.t 104) (.seq (.reg [⟨(some 4), none, (.mov (.c (.bool false)))⟩]) .ret) .skip)))) (.reg [⟨(some 105), none, (.bin false .add (.t 96) (.c (.int .i64 1)))⟩, ⟨(some 96), none, (.mov (.t 105))⟩]))))
def sc_i_IsAcyclic_L6 : SC := (.seq (.reg [⟨(some 74), none, (.bin false .lss (.t 73) (.t 72))⟩]) (.seq (.cond (.t 74) .skip (.exit 6)) (.seq (.block 7 (.seq (.reg [⟨(some 75), none, (.mov (.t 73))⟩, ⟨(some 11), none, (.mov (.t 75))⟩]) (.seq (.reg [⟨(some 76), none, (.mov (.t 5))⟩, ⟨(some 77), none, (.mov (.t 11))⟩, ⟨(some 78), none, (.idx 1 (.t 76) (.t 77))⟩, ⟨(some 79), none, (.ld none (.int .u64 0) (.t 78))⟩, ⟨(some 80), none, (.mov (.t 10))⟩, ⟨(some 81), none, (.call 182 [(.t 79), (.t 80)])⟩]) (.cond (.t 81) (.dreg [⟨⟨(some 82), none, (.mov (.t 5))⟩, false, false⟩, ⟨⟨(some 83), none, (.mov (.t 11))⟩, false, false⟩, ⟨⟨(some 84), none, (.idx 1 (.t 82) (.t 83))⟩, false, false⟩, ⟨⟨(some 85), none, (.ld none (.int .u64 0) (.t 84))⟩, false, false⟩, ⟨⟨(some 86), none, (.mov (.t 5))⟩, false, false⟩, ⟨⟨(some 87), none, (.mov (.t 10))⟩, false, false⟩, ⟨⟨(some 88), none, (.idx 1 (.t 86) (.t 87))⟩, false, false⟩, ⟨⟨(some 89), none, (.ld none (.int .u64 0) (.t 88))⟩, false, false⟩, ⟨⟨(some 90), none, (.bin false .or (.t 85) (.t 89))⟩, false, false⟩, ⟨⟨(some 91), none, (.idx 1 (.t 82) (.t 83))⟩, false, false⟩, ⟨⟨none, none, (.st 1 (.t 91) (.t 90))⟩, true, false⟩]) .skip)))) (.reg [⟨(some 92), none, (.bin false .add (.t 73) (.c (.int .i64 1)))⟩, ⟨(some 73), none, (.mov (.t 92))⟩]))))
def sc_i_IsAcyclic_L4 : SC := (.seq (.reg [⟨(some 69), none, (.bin false .lss (.t 68) (.t 67))⟩]) (.seq (.cond (.t 69) .skip (.exit 4)) (.seq (.block 5 (.seq (.reg [⟨(some 70), none, (.mov (.t 68))⟩, ⟨(some 10), none, (.mov (.t 70))⟩]) (.seq (.reg [⟨(some 71), none, (.mov (.t 1))⟩, ⟨(some 72), none, (.len (.t 71))⟩, ⟨(some 73), none, (.mov (.c (.int .i64 0)))⟩]) (.block 6 (.loop sc_i_IsAcyclic_L6))))) (.reg [⟨(some 93), none, (.bin false .add (.t 68) (.c (.int .i64 1)))⟩, ⟨(some 68), none, (.mov (.t 93))⟩]))))
def sc_i_IsAcyclic_L2 : SC := (.seq (.reg [⟨(some 30), none, (.bin false .lss (.t 29) (.t 28))⟩]) (.seq (.cond (.t 30) .skip (.exit 2)) (.seq (.block 3 (.seq (.reg [⟨(some 31), none, (.mov (.t 29))⟩, ⟨(some 32), none, (.idx 2 (.t 27) (.t 29))⟩, ⟨(some 33), none, (.ld (some 2) .undef (.t 32))⟩, ⟨(some 9), none, (.new [(.int .i64 0), (.int .i64 0)])⟩, ⟨(some 8), none, (.mov (.t 31))⟩, ⟨none, none, (.st 2 (.t 9) (.t 33))⟩]) (.seq (.dreg [⟨⟨(some 34), none, (.mov (.t 6))⟩, false, false⟩, ⟨⟨(some 35), none, (.mov (.t 8))⟩, false, false⟩, ⟨⟨(some 36), none, (.bin false .neq (.t 34) (.t 35))⟩, false, false⟩, ⟨⟨(some 37), none, (.mov (.t 36))⟩, false, false⟩, ⟨⟨(some 38), (some (37, true)), (.fad 0 (.t 9))⟩, false, false⟩, ⟨⟨(some 39), (some (37, true)), (.ld none (.int .i64 0) (.t 38))⟩, false, false⟩, ⟨⟨(some 40), (some (37, true)), (.fad 1 (.t 7))⟩, false, false⟩, ⟨⟨(some 41), (some (37, true)), (.ld none (.int .i64 0) (.t 40))⟩, false, false⟩, ⟨⟨(some 42), (some (37, true)), (.bin false .andNot (.t 39) (.t 41))⟩, false, false⟩, ⟨⟨(some 43), (some (37, true)), (.bin false .eql (.t 42) (.c (.int .i64 0)))⟩, false, false⟩, ⟨⟨(some 44), none, (.pick (.t 37) (.t 43) (.c (.bool false)))⟩, false, false⟩, ⟨⟨(some 45), none, (.mov (.t 44))⟩, false, false⟩, ⟨⟨(some 46), (some (45, true)), (.fad 1 (.t 7))⟩, false, false⟩, ⟨⟨(some 47), (some (45, true)), (.ld none (.int .i64 0) (.t 46))⟩, false, false⟩, ⟨⟨(some 48), (some (45, true)), (.call 181 [(.t 47)])⟩, false, false⟩, ⟨⟨(some 49), (some (45, true)), (.fad 0 (.t 9))⟩, false, false⟩, ⟨⟨(some 50), (some (45, true)), (.ld none (.int .i64 0) (.t 49))⟩, false, false⟩, ⟨⟨(some 51), (some (45, true)), (.call 181 [(.t 50)])⟩, false, false⟩, ⟨⟨(some 52), (some (45, true)), (.bin false .add (.t 51) (.c (.int .i64 1)))⟩, false, false⟩, ⟨⟨(some 53), (some (45, true)), (.bin false .eql (.t 48) (.t 52))⟩, false, false⟩, ⟨⟨(some 54), none, (.pick (.t 45) (.t 53) (.c (.bool false)))⟩, false, false⟩]) (.cond (.t 54) (.reg [⟨(some 55), none, (.mov (.t 5))⟩, ⟨(some 56), none, (.mov (.t 6))⟩, ⟨(some 57), none, (.idx 1 (.t 55) (.t 56))⟩, ⟨(some 58), none, (.ld none (.int .u64 0) (.t 57))⟩, ⟨(some 59), none, (.mov (.t 8))⟩, ⟨(some 60), none, (.conv .u64 (.t 59))⟩, ⟨(some 61), none, (.bin false .shl (.c (.int .u64 1)) (.t 60))⟩, ⟨(some 62), none, (.bin false .or (.t 58) (.t 61))⟩, ⟨(some 63), none, (.idx 1 (.t 55) (.t 56))⟩, ⟨none, none, (.st 1 (.t 63) (.t 62))⟩]) .skip)))) (.reg [⟨(some 64), none, (.bin false .add (.t 29) (.c (.int .i64 1)))⟩, ⟨(some 29), none, (.mov (.t 64))⟩]))))
def sc_i_IsAcyclic_L0 : SC := (.seq (.reg [⟨(some 23), none, (.bin false .lss (.t 22) (.t 21))⟩]) (.seq (.cond (.t 23) .skip (.exit 0)) (.seq (.block 1 (.seq (.reg [⟨(some 24), none, (.mov (.t 22))⟩, ⟨(some 25), none, (.idx 2 (.t 20) (.t 22))⟩, ⟨(some 26), none, (.ld (some 2) .undef (.t 25))⟩, ⟨(some 7), none, (.new [(.int .i64 0), (.int .i64 0)])⟩, ⟨(some 6), none, (.mov (.t 24))⟩, ⟨none, none, (.st 2 (.t 7) (.t 26))⟩]) (.seq (.reg [⟨(some 27), none, (.mov (.t 1))⟩, ⟨(some 28), none, (.len (.t 27))⟩, ⟨(some 29), none, (.mov (.c (.int .i64 0)))⟩]) (.block 2 (.loop sc_i_IsAcyclic_L2))))) (.reg [⟨(some 65), none, (.bin false .add (.t 22) (.c (.int .i64 1)))⟩, ⟨(some 22), none, (.mov (.t 65))⟩]))))
def sc_i_IsAcyclic : SC := (.seq (.reg [⟨(some 2), none, (.box (.t 0))⟩, ⟨(some 4), none, (.mov (.c (.bool false)))⟩]) (.seq (.seq (.reg [⟨(some 13), none, (.ld (some 2) .undef (.t 2))⟩, ⟨(some 14), none, (.mov (.t 1))⟩, ⟨(some 15), none, (.call 85 [(.t 13), (.t 14)])⟩, ⟨(some 16), none, (.un .not (.t 15))⟩]) (.cond (.t 16) (.seq (.reg [⟨(some 4), none, (.mov (.c (.bool false)))⟩]) .ret) .skip)) (.seq (.reg [⟨(some 17), none, (.mov (.t 1))⟩, ⟨(some 18), none, (.len (.t 17))⟩, ⟨(some 19), none, (.mk 1 8 [(.int .u64 0)] (.t 18) (.t 18))⟩, ⟨(some 5), none, (.mov (.t 19))⟩]) (.seq (.seq (.reg [⟨(some 20), none, (.mov (.t 1))⟩, ⟨(some 21), none, (.len (.t 20))⟩, ⟨(some 22), none, (.mov (.c (.int .i64 0)))⟩]) (.block 0 (.loop sc_i_IsAcyclic_L0))) (.seq (.seq (.reg [⟨(some 66), none, (.mov (.t 1))⟩, ⟨(some 67), none, (.len (.t 66))⟩, ⟨(some 68), none, (.mov (.c (.int .i64 0)))⟩]) (.block 4 (.loop sc_i_IsAcyclic_L4))) (.seq (.seq (.reg [⟨(some 94), none, (.mov (.t 1))⟩, ⟨(some 95), none, (.len (.t 94))⟩, ⟨(some 96), none, (.mov (.c (.int .i64 0)))⟩]) (.block 8 (.loop sc_i_IsAcyclic_L8))) (.seq (.reg [⟨(some 4), none, (.mov (.c (.bool true)))⟩]) .ret)))))))
theorem code_i_IsAcyclic : fnCode Try.prog [] 87 = some (106, sc_i_IsAcyclic, [(4, none)]) := by kernel_rfl
/-- The row while the edges are laid: those of the pairs before i, and of i to those before j. -/
def edgR (list : List (Int × Int)) (i j : Nat) (a : Nat) (t : Int) : Prop := ∃ b : Nat, t = (b : Int) ∧ edgeP list a b ∧ (a < i ∨ (a = i ∧ b < j))
/-- The row within a round of the closure. -/
def clsR (list : List (Int × Int)) (k i : Nat) (a : Nat) (t : Int) : Prop := ∃ b : Nat, t = (b : Int) ∧ b < list.length ∧ warsh (edgeP list) (if a < i then k + 1 else k) a b
theorem warsh_lt {list : List (Int × Int)} : ∀ {k a b : Nat}, warsh (edgeP list) k a b → b < list.length
  | 0, _, _, h => h.2.1
  | k + 1, _, _, h => by
    rcases h with h | ⟨_, h⟩
    · exact warsh_lt h
    · exact warsh_lt h
theorem clsR_zero (list : List (Int × Int)) (a : Nat) (t : Int) (ha : a < list.length) : edgR list list.length 0 a t ↔ clsR list 0 0 a t := by
  unfold edgR clsR
  constructor
  · rintro ⟨b, e, h, _⟩; exact ⟨b, e, h.2.1, by simpa [warsh] using h⟩
  · rintro ⟨b, e, _, h⟩; exact ⟨b, e, by simpa [warsh] using h, .inl ha⟩
theorem clsR_next (list : List (Int × Int)) (k a : Nat) (t : Int) (ha : a < list.length) : clsR list k list.length a t ↔ clsR list (k + 1) 0 a t := by
  unfold clsR
  simp [ha]
theorem clsR_nat {list : List (Int × Int)} {k i a b : Nat} : clsR list k i a (b : Int) ↔ b < list.length ∧ warsh (edgeP list) (if a < i then k + 1 else k) a b := by
  unfold clsR
  constructor
  · rintro ⟨c, e, h⟩
    have : b = c := by omega
    subst this
    exact h
  · rintro h; exact ⟨b, rfl, h⟩
theorem isS_idx {list : List (Int × Int)} (h : list.length ≤ 32) {i : Nat} (hi : i < list.length) : isS (i : Int) := inS i (by omega)
theorem fn_i_IsAcyclic : FnOk Try.prog 87 F_s_IsAcyclic := by
  have env := (((envNil_ok (P := Try.prog)).add fn_i_IsPairing).add fn_i_SizeOf).add fn_i_hasSet
  refine fn_ok code_i_IsAcyclic mixed env ?_
  intro args r h hb
  obtain ⟨_, _, ⟨n, l⟩, list, rfl, h1, h2, h4⟩ := F2_inv h
  cases dC_inv h1
  cases dP_inv h2
  cases h4
  clear h
  refine ⟨by simp, fun w0 U0 L0 N0 => ?_⟩
  clear hb
  generalize hv : dec (acycP n l list) = v
  by_cases hP : pairP n l list
  rotate_left
  · have hd := dec_false hP
    have hv1 : v = false := hv ▸ dec_false fun h => hP h.1
    simp -implicitDefEqProofs [sc_i_IsAcyclic, F_s_IsPairing, hd, hv1]
  have hd := dec_true hP
  obtain ⟨h32, hS, _⟩ := pair_reach hP
  have edges : ∀ (i : Nat) (Q : Post) (T0 : Tm), i < list.length → subE T0 [(1, .list 2 (prs list)), (5, .sl 1 1 0 list.length), (6, .int .i64 (i : Int)), (7, .pt 2 0), (20, .list 2 (prs list)), (21, .int .i64 (list.length : Int)), (22, .int .i64 (i : Int)), (27, .list 2 (prs list)), (28, .int .i64 (list.length : Int)), (29, .int .i64 0)] →
      Q (.exit 2) [(1, .list 2 (prs list)), (5, .sl 1 1 0 list.length), (20, .list 2 (prs list)), (21, .int .i64 (list.length : Int)), (22, .int .i64 (i : Int))] ([(1, uRow list.length (edgR list (i + 1) 0)), (0, [.int .i64 n, .list 1 (ints l)])], 2) →
      LoopI ⟨Try.prog, w0, U0, L0, N0, 0, 106⟩ [] sc_i_IsAcyclic_L2 Q T0 ([(2, [.int .i64 (pr0 list i).1, .int .i64 (pr0 list i).2]), (1, uRow list.length (edgR list i 0)), (0, [.int .i64 n, .list 1 (ints l)])], 3) := by
    intro i Q T0 hi hs q1
    refine loopQ env mixed (fun j : Nat => [(1, .list 2 (prs list)), (5, .sl 1 1 0 list.length), (6, .int .i64 (i : Int)), (7, .pt 2 0), (20, .list 2 (prs list)), (21, .int .i64 (list.length : Int)), (22, .int .i64 (i : Int)), (27, .list 2 (prs list)), (28, .int .i64 (list.length : Int)), (29, .int .i64 (j : Int))])
      (fun j => ([(2, [.int .i64 (pr0 list i).1, .int .i64 (pr0 list i).2]), (1, uRow list.length (edgR list i j)), (0, [.int .i64 n, .list 1 (ints l)])], 3)) (fun j => j ≤ list.length) (fun j => list.length - j) 0 (by simp) (SubI.slots rfl (by simpa using hs)) ?_
    intro j hj
    by_cases hlt : j < list.length
    · have hdj := prs_at hlt
      obtain ⟨s1, s2⟩ := hS i hi
      obtain ⟨s3, s4⟩ := hS j hlt
      have skip : ¬ edgeP list i j → uRow list.length (edgR list i j) = uRow list.length (edgR list i (j + 1)) := fun hne => uRow_congr fun a ha t ht => by
        unfold edgR
        constructor
        · rintro ⟨b, e, h, h2⟩
          exact ⟨b, e, h, h2.elim .inl fun h3 => .inr ⟨h3.1, by omega⟩⟩
        · rintro ⟨b, e, h, h2⟩
          refine ⟨b, e, h, h2.elim .inl fun h3 => .inr ⟨h3.1, ?_⟩⟩
          by_cases eb : b = j
          · subst eb; exact absurd (h3.1 ▸ h) hne
          · omega
      have back : ∀ (l' : Tm), True := fun _ => trivial
      by_cases c1 : i = j
      · have e := skip fun h => h.2.2.1 c1
        have c1' : (i : Int) = j := by omega
        simp -implicitDefEqProofs [sc_i_IsAcyclic_L2, hlt, hdj, c1']
        repeat' (first | omega | apply And.intro)
        refine Again.of (j + 1) (by omega) (by omega) (SubI.ren (fun m => if m = 0 then some 0 else if m = 1 then some 1 else if m = 2 then some 2 else none) ?_ ?_ ?_ (by simp) (by simp))
        · simp (disch := omega) [subT, renV, ren1, wrapI, ← c1']
        · simp [subH, renL, ren1, ← e]
        · intro m hm
          simp only at hm
          rw [if_neg (by omega), if_neg (by omega), if_neg (by omega)]
      have c1' : ¬ ((i : Int) = j) := by omega
      generalize hpi : pr0 list i = pi at *
      generalize hpj : pr0 list j = pj at *
      by_cases c2 : bnot pj.1 pi.2 = 0
      rotate_left
      · have e := skip fun h => c2 (by have := h.2.2.2.1; rwa [hpi, hpj] at this)
        simp -implicitDefEqProofs [sc_i_IsAcyclic_L2, hlt, hdj, c1, c1', c2]
        repeat' (first | omega | apply And.intro)
        refine Again.of (j + 1) (by omega) (by omega) (SubI.ren (fun m => if m = 0 then some 0 else if m = 1 then some 1 else if m = 2 then some 2 else none) ?_ ?_ ?_ (by simp) (by simp))
        · simp (disch := omega) [subT, renV, ren1, wrapI]
        · simp [subH, renL, ren1, ← e]
        · intro m hm
          simp only at hm
          rw [if_neg (by omega), if_neg (by omega), if_neg (by omega)]
      have r1 := sizeOf1_set s2.1 s2.2
      have r2 := sizeOf1_set s3.1 s3.2
      have hw : IntKind.i64.wrap (sz pj.1 + 1) = sz pj.1 + 1 := wrapI _ (by have := sz_nn pj.1; omega) (by have := sz_le pj.1; omega)
      by_cases c3 : sz pi.2 = sz pj.1 + 1
      rotate_left
      · have e := skip fun h => c3 (by have := h.2.2.2.2; rwa [hpi, hpj] at this)
        simp -implicitDefEqProofs [sc_i_IsAcyclic_L2, F_i_SizeOf, hlt, hdj, c1, c1', c2, r1, r2, hw, c3]
        repeat' (first | omega | apply And.intro)
        refine Again.of (j + 1) (by omega) (by omega) (SubI.ren (fun m => if m = 0 then some 0 else if m = 1 then some 1 else if m = 2 then some 2 else none) ?_ ?_ ?_ (by simp) (by simp))
        · simp (disch := omega) [subT, renV, ren1, wrapI]
        · simp [subH, renL, ren1, ← e]
        · intro m hm
          simp only at hm
          rw [if_neg (by omega), if_neg (by omega), if_neg (by omega)]
      have hjS := isS_idx h32 hlt
      have hu := wrapS hjS
      have h1 := fam_one hjS
      simp only [Int.toNat_natCast] at h1
      have p0 : (0 : Int) ≤ j := by omega
      have e : (uRow list.length (edgR list i j)).set i (.int .u64 (fam fun t => edgR list i j i t ∨ t = (j : Int))) = uRow list.length (edgR list i (j + 1)) := by
        rw [uRow_set]
        refine uRow_congr fun a ha t ht => ?_
        have hedge : edgeP list i j := ⟨hi, hlt, c1, by rw [hpi, hpj]; exact c2, by rw [hpi, hpj]; exact c3⟩
        by_cases ea : a = i
        · subst ea
          rw [if_pos rfl]
          unfold edgR
          constructor
          · rintro (⟨b, e, h, h2⟩ | rfl)
            · exact ⟨b, e, h, h2.elim .inl fun h3 => .inr ⟨h3.1, by omega⟩⟩
            · exact ⟨j, rfl, hedge, .inr ⟨rfl, by omega⟩⟩
          · rintro ⟨b, e, h, h2⟩
            by_cases eb : b = j
            · subst eb; exact .inr e
            · exact .inl ⟨b, e, h, h2.elim .inl fun h3 => .inr ⟨h3.1, by omega⟩⟩
        · rw [if_neg ea]
          unfold edgR
          constructor
          · rintro ⟨b, e, h, h2⟩; exact ⟨b, e, h, h2.elim .inl fun h3 => absurd h3.1 ea⟩
          · rintro ⟨b, e, h, h2⟩; exact ⟨b, e, h, h2.elim .inl fun h3 => absurd h3.1 ea⟩
      simp -implicitDefEqProofs [sc_i_IsAcyclic_L2, F_i_SizeOf, hlt, hi, hdj, c1, c1', c2, r1, r2, hw, c3, hu, h1, p0, e]
      repeat' (first | omega | apply And.intro)
      refine Again.of (j + 1) (by omega) (by omega) (SubI.ren (fun m => if m = 0 then some 0 else if m = 1 then some 1 else if m = 2 then some 2 else none) ?_ ?_ ?_ (by simp) (by simp))
      · simp (disch := omega) [subT, renV, ren1, wrapI]
      · simp [subH, renL, ren1]
      · intro m hm
        simp only at hm
        rw [if_neg (by omega), if_neg (by omega), if_neg (by omega)]
    · have hjl : j = list.length := by omega
      subst hjl
      have e : uRow list.length (edgR list i list.length) = uRow list.length (edgR list (i + 1) 0) := uRow_congr fun a ha t ht => by
        unfold edgR
        constructor
        · rintro ⟨b, e, h, h2⟩; exact ⟨b, e, h, .inl (h2.elim (by omega) fun h3 => by omega)⟩
        · rintro ⟨b, e, h, h2⟩
          refine ⟨b, e, h, ?_⟩
          have h3 := h.2.1
          rcases h2 with h2 | h2
          · by_cases ea : a = i
            · exact .inr ⟨ea, h3⟩
            · exact .inl (by omega)
          · omega
      rw [← e] at q1
      simp -implicitDefEqProofs [sc_i_IsAcyclic_L2]
      refine SubQ.of (SubI.ren (fun m => if m = 0 then some 0 else if m = 1 then some 1 else none) ?_ ?_ ?_ (by simp) (by simp)) q1
      · simp [subT, renV, ren1]
      · simp [subH, renL, ren1]
      · intro m hm
        simp only at hm
        rw [if_neg (by omega), if_neg (by omega)]
  have close : ∀ (k : Nat) (Q : Post) (T0 : Tm), k < list.length → subE T0 [(1, .list 2 (prs list)), (5, .sl 1 1 0 list.length), (10, .int .i64 (k : Int)), (67, .int .i64 (list.length : Int)), (68, .int .i64 (k : Int)), (72, .int .i64 (list.length : Int)), (73, .int .i64 0)] →
      Q (.exit 6) [(1, .list 2 (prs list)), (5, .sl 1 1 0 list.length), (67, .int .i64 (list.length : Int)), (68, .int .i64 (k : Int))] ([(1, uRow list.length (clsR list (k + 1) 0)), (0, [.int .i64 n, .list 1 (ints l)])], 2) →
      LoopI ⟨Try.prog, w0, U0, L0, N0, 0, 106⟩ [] sc_i_IsAcyclic_L6 Q T0 ([(1, uRow list.length (clsR list k 0)), (0, [.int .i64 n, .list 1 (ints l)])], 2) := by
    intro k Q T0 hk hs q1
    refine loopQ env mixed (fun i : Nat => [(1, .list 2 (prs list)), (5, .sl 1 1 0 list.length), (10, .int .i64 (k : Int)), (67, .int .i64 (list.length : Int)), (68, .int .i64 (k : Int)), (72, .int .i64 (list.length : Int)), (73, .int .i64 (i : Int))])
      (fun i => ([(1, uRow list.length (clsR list k i)), (0, [.int .i64 n, .list 1 (ints l)])], 2)) (fun i => i ≤ list.length) (fun i => list.length - i) 0 (by simp) (SubI.slots rfl (by simpa using hs)) ?_
    intro i hi
    by_cases hlt : i < list.length
    · have hkS := isS_idx h32 hk
      have hg := hasG_fam (p := clsR list k i i) hkS
      by_cases hc : warsh (edgeP list) k i k
      · have hm : clsR list k i i (k : Int) := clsR_nat.2 ⟨hk, by simpa using hc⟩
        rw [dec_true hm] at hg
        have e : (uRow list.length (clsR list k i)).set i (.int .u64 (fam fun t => clsR list k i i t ∨ clsR list k i k t)) = uRow list.length (clsR list k (i + 1)) := by
          rw [uRow_set]
          refine uRow_congr fun a ha t ht => ?_
          by_cases ea : a = i
          · subst ea
            rw [if_pos rfl]
            unfold clsR
            have e1 : (if a < a then k + 1 else k) = k := by simp
            have e2 : (if a < a + 1 then k + 1 else k) = k + 1 := by simp
            rw [e1, e2]
            constructor
            · rintro (⟨b, e, h, h2⟩ | ⟨b, e, h, h2⟩)
              · exact ⟨b, e, h, .inl h2⟩
              · refine ⟨b, e, h, .inr ⟨hc, ?_⟩⟩
                split at h2
                · exact warsh_row.1 h2
                · exact h2
            · rintro ⟨b, e, h, h2 | ⟨_, h2⟩⟩
              · exact .inl ⟨b, e, h, h2⟩
              · refine .inr ⟨b, e, h, ?_⟩
                split
                · exact warsh_row.2 h2
                · exact h2
          · rw [if_neg ea]
            unfold clsR
            have e1 : (if a < i + 1 then k + 1 else k) = if a < i then k + 1 else k := by
              by_cases h : a < i
              · rw [if_pos h, if_pos (by omega)]
              · rw [if_neg h, if_neg (by omega)]
            rw [e1]
        simp -implicitDefEqProofs [sc_i_IsAcyclic_L6, F_i_hasSet, hlt, hk, hg, e]
        repeat' (first | omega | apply And.intro)
        exact Again.of (i + 1) (by omega) (by omega) (SubI.slots (by simp) (by simp (disch := omega) [wrapI]))
      · have hm : ¬ clsR list k i i (k : Int) := fun h => hc (by simpa using (clsR_nat.1 h).2)
        rw [dec_false hm] at hg
        have e : uRow list.length (clsR list k i) = uRow list.length (clsR list k (i + 1)) := uRow_congr fun a ha t ht => by
          unfold clsR
          by_cases ea : a = i
          · subst ea
            have e1 : (if a < a then k + 1 else k) = k := by simp
            have e2 : (if a < a + 1 then k + 1 else k) = k + 1 := by simp
            rw [e1, e2]
            constructor
            · rintro ⟨b, e, h, h2⟩; exact ⟨b, e, h, .inl h2⟩
            · rintro ⟨b, e, h, h2 | ⟨h2, _⟩⟩
              · exact ⟨b, e, h, h2⟩
              · exact absurd h2 hc
          · have e1 : (if a < i + 1 then k + 1 else k) = if a < i then k + 1 else k := by
              by_cases h : a < i
              · rw [if_pos h, if_pos (by omega)]
              · rw [if_neg h, if_neg (by omega)]
            rw [e1]
        simp -implicitDefEqProofs [sc_i_IsAcyclic_L6, F_i_hasSet, hlt, hg]
        repeat' (first | omega | apply And.intro)
        exact Again.of (i + 1) (by omega) (by omega) (SubI.slots (by simp [← e]) (by simp (disch := omega) [wrapI]))
    · have hil : i = list.length := by omega
      subst hil
      have e : uRow list.length (clsR list k list.length) = uRow list.length (clsR list (k + 1) 0) := uRow_congr fun a ha t ht => clsR_next list k a t ha
      rw [← e] at q1
      simp -implicitDefEqProofs [sc_i_IsAcyclic_L6]
      exact SubQ.of (SubI.slots rfl (by simp)) q1
  simp -implicitDefEqProofs [sc_i_IsAcyclic, F_s_IsPairing, hd]
  repeat' (first | omega | apply And.intro)
  refine loopI env mixed (fun i : Nat => [(1, .list 2 (prs list)), (5, .sl 1 1 0 list.length), (20, .list 2 (prs list)), (21, .int .i64 (list.length : Int)), (22, .int .i64 (i : Int))]) (fun i => ([(1, uRow list.length (edgR list i 0)), (0, [.int .i64 n, .list 1 (ints l)])], 2)) (fun i => i ≤ list.length) (fun i => list.length - i) 0 (by simp) (SubI.slots ?_ (by simp)) ?_
  · have e : uRow list.length (edgR list 0 0) = uRow list.length fun _ _ => False := uRow_congr fun a _ t _ => by
      unfold edgR
      exact ⟨fun ⟨b, _, _, h⟩ => by omega, False.elim⟩
    simp [e, uRow_none]
  intro i hi
  by_cases hlt : i < list.length
  · have hdi := prs_at hlt
    simp -implicitDefEqProofs [sc_i_IsAcyclic_L0, hlt, hdi]
    repeat' (first | omega | apply And.intro)
    refine edges i _ _ hlt (by simp) ?_
    simp -implicitDefEqProofs
    exact Again.of (i + 1) (by omega) (by omega) (SubI.slots (by simp) (by simp (disch := omega) [wrapI]))
  have hil : i = list.length := by omega
  subst hil
  have e0 : uRow list.length (edgR list list.length 0) = uRow list.length (clsR list 0 0) := uRow_congr fun a ha t ht => clsR_zero list a t ha
  rw [e0]
  simp -implicitDefEqProofs [sc_i_IsAcyclic_L0]
  refine loopI env mixed (fun k : Nat => [(1, .list 2 (prs list)), (5, .sl 1 1 0 list.length), (67, .int .i64 (list.length : Int)), (68, .int .i64 (k : Int))]) (fun k => ([(1, uRow list.length (clsR list k 0)), (0, [.int .i64 n, .list 1 (ints l)])], 2)) (fun k => k ≤ list.length) (fun k => list.length - k) 0 (by simp) (SubI.slots (by simp) (by simp)) ?_
  intro k hk
  by_cases hlt : k < list.length
  · simp -implicitDefEqProofs [sc_i_IsAcyclic_L4, hlt]
    repeat' (first | omega | apply And.intro)
    refine close k _ _ hlt (by simp) ?_
    simp -implicitDefEqProofs
    exact Again.of (k + 1) (by omega) (by omega) (SubI.slots (by simp) (by simp (disch := omega) [wrapI]))
  have hkl : k = list.length := by omega
  subst hkl
  simp -implicitDefEqProofs [sc_i_IsAcyclic_L4]
  refine loopI env mixed (fun i : Nat => [(5, .sl 1 1 0 list.length), (95, .int .i64 (list.length : Int)), (96, .int .i64 (i : Int))]) (fun _ => ([(1, uRow list.length (clsR list list.length 0)), (0, [.int .i64 n, .list 1 (ints l)])], 2)) (fun i => i ≤ list.length ∧ ∀ j, j < i → ¬ warsh (edgeP list) list.length j j) (fun i => list.length - i) 0 (by simp) (SubI.slots (by simp) (by simp)) ?_
  rintro i ⟨hi2, hno⟩
  by_cases hlt : i < list.length
  · have hiS := isS_idx h32 hlt
    have hg := hasG_fam (p := clsR list list.length 0 i) hiS
    by_cases hc : warsh (edgeP list) list.length i i
    · have hm : clsR list list.length 0 i (i : Int) := clsR_nat.2 ⟨hlt, by simpa using hc⟩
      rw [dec_true hm] at hg
      have hv1 : v = false := hv ▸ dec_false fun h => h.2 i hlt hc
      simp -implicitDefEqProofs [sc_i_IsAcyclic_L8, F_i_hasSet, hlt, hg, hv1]
      try omega
    · have hm : ¬ clsR list list.length 0 i (i : Int) := fun h => hc (by simpa using (clsR_nat.1 h).2)
      rw [dec_false hm] at hg
      simp -implicitDefEqProofs [sc_i_IsAcyclic_L8, F_i_hasSet, hlt, hg]
      repeat' (first | omega | apply And.intro)
      refine Again.of (i + 1) ⟨by omega, fun j hj => ?_⟩ (by omega) (SubI.slots rfl (by simp (disch := omega) [wrapI]))
      rcases Nat.lt_succ_iff_lt_or_eq.1 hj with h1 | rfl
      · exact hno j h1
      · exact hc
  · have hv1 : v = true := hv ▸ dec_true ⟨hP, fun i hi => hno i (by omega)⟩
    simp -implicitDefEqProofs [sc_i_IsAcyclic_L8, hlt, hv1]
end Go.Proofs.Ytmemomfffehnkaa
namespace Go.Proofs.Ytmemomfffehnkaa
open Go Go.RowKit
set_option maxRecDepth 1000000
set_option linter.unusedSimpArgs false
set_option linter.unusedVariables false
set_option maxHeartbeats 1000000
def sc_i_PointPairing_L2 : SC := (.seq (.reg [⟨(some 29), none, (.bin false .lss (.t 28) (.t 27))⟩]) (.seq (.cond (.t 29) .skip (.exit 2)) (.seq (.block 3 (.seq (.reg [⟨(some 30), none, (.idx 1 (.t 26) (.t 28))⟩, ⟨(some 31), none, (.ld none (.int .i64 0) (.t 30))⟩, ⟨(some 9), none, (.mov (.t 31))⟩]) (.seq (.reg [⟨(some 32), none, (.mov (.t 9))⟩, ⟨(some 33), none, (.mov (.t 7))⟩, ⟨(some 34), none, (.bin false .and (.t 32) (.t 33))⟩, ⟨(some 35), none, (.bin false .eql (.t 34) (.c (.int .i64 0)))⟩, ⟨(some 36), none, (.mov (.t 35))⟩, ⟨(some 37), (some (36, true)), (.mov (.t 4))⟩, ⟨(some 38), (some (36, true)), (.mov (.t 9))⟩, ⟨(some 39), (some (36, true)), (.call 182 [(.t 37), (.t 38)])⟩, ⟨(some 40), none, (.pick (.t 36) (.t 39) (.c (.bool false)))⟩, ⟨(some 41), none, (.mov (.t 40))⟩, ⟨(some 42), (some (41, true)), (.mov (.t 4))⟩, ⟨(some 43), (some (41, true)), (.mov (.t 9))⟩, ⟨(some 44), (some (41, true)), (.mov (.t 7))⟩, ⟨(some 45), (some (41, true)), (.bin false .or (.t 43) (.t 44))⟩, ⟨(some 46), (some (41, true)), (.call 182 [(.t 42), (.t 45)])⟩, ⟨(some 47), none, (.pick (.t 41) (.t 46) (.c (.bool false)))⟩]) (.cond (.t 47) (.seq (.reg [⟨(some 48), none, (.mov (.t 5))⟩, ⟨(some 49), none, (.mov (.t 9))⟩, ⟨(some 50), none, (.mov (.t 9))⟩, ⟨(some 51), none, (.mov (.t 7))⟩, ⟨(some 52), none, (.bin false .or (.t 50) (.t 51))⟩, ⟨(some 53), none, (.agg [(.int .i64 0), (.int .i64 0)] [(0, (1, (.t 49))), (1, (1, (.t 52)))])⟩, ⟨(some 54), none, (.mks 1 2 [(.int .i64 0), (.int .i64 0)] [(0, (2, (.t 53)))])⟩, ⟨(some 55), none, (.app 2 16 (.t 48) (.t 54))⟩, ⟨(some 5), none, (.mov (.t 55))⟩]) (.reg [⟨(some 56), none, (.mov (.t 4))⟩, ⟨(some 57), none, (.mov (.t 9))⟩, ⟨(some 58), none, (.conv .u64 (.t 57))⟩, ⟨(some 59), none, (.bin false .shl (.c (.int .u64 1)) (.t 58))⟩, ⟨(some 60), none, (.mov (.t 9))⟩, ⟨(some 61), none, (.mov (.t 7))⟩, ⟨(some 62), none, (.bin false .or (.t 60) (.t 61))⟩, ⟨(some 63), none, (.conv .u64 (.t 62))⟩, ⟨(some 64), none, (.bin false .shl (.c (.int .u64 1)) (.t 63))⟩, ⟨(some 65), none, (.bin false .or (.t 59) (.t 64))⟩, ⟨(some 66), none, (.bin false .andNot (.t 56) (.t 65))⟩, ⟨(some 4), none, (.mov (.t 66))⟩])) .skip)))) (.reg [⟨(some 67), none, (.bin false .add (.t 28) (.c (.int .i64 1)))⟩, ⟨(some 28), none, (.mov (.t 67))⟩]))))
def sc_i_PointPairing_L0 : SC := (.seq (.seq (.reg [⟨(some 16), none, (.mov (.t 6))⟩, ⟨(some 17), none, (.fad 0 (.t 1))⟩, ⟨(some 18), none, (.ld none (.int .i64 0) (.t 17))⟩, ⟨(some 19), none, (.bin false .lss (.t 16) (.t 18))⟩]) (.cond (.t 19) .skip (.exit 0))) (.seq (.block 1 (.seq (.reg [⟨(some 22), none, (.mov (.t 6))⟩, ⟨(some 23), none, (.conv .u64 (.t 22))⟩, ⟨(some 24), none, (.bin false .shl (.c (.int .i64 1)) (.t 23))⟩, ⟨(some 7), none, (.mov (.t 24))⟩]) (.seq (.reg [⟨(some 25), none, (.mov (.t 3))⟩, ⟨(some 26), none, (.call 187 [(.t 25)])⟩, ⟨(some 27), none, (.len (.t 26))⟩, ⟨(some 28), none, (.mov (.c (.int .i64 0)))⟩]) (.block 2 (.loop sc_i_PointPairing_L2))))) (.reg [⟨(some 20), none, (.mov (.t 6))⟩, ⟨(some 21), none, (.bin false .add (.t 20) (.c (.int .i64 1)))⟩, ⟨(some 6), none, (.mov (.t 21))⟩])))
def sc_i_PointPairing : SC := (.seq (.reg [⟨(some 1), none, (.box (.t 0))⟩, ⟨(some 2), none, (.mov (.c .nil))⟩]) (.seq (.seq (.reg [⟨(some 10), none, (.ld (some 2) .undef (.t 1))⟩, ⟨(some 11), none, (.call 130 [(.t 10)])⟩, ⟨(some 12), none, (.un .not (.t 11))⟩]) (.cond (.t 12) (.seq (.reg [⟨(some 2), none, (.mov (.c .nil))⟩]) .ret) .skip)) (.seq (.reg [⟨(some 13), none, (.ld (some 2) .undef (.t 1))⟩, ⟨(some 14), none, (.call 151 [(.t 13)])⟩, ⟨(some 3), none, (.mov (.t 14))⟩]) (.seq (.reg [⟨(some 15), none, (.mov (.t 3))⟩, ⟨(some 4), none, (.mov (.t 15))⟩]) (.seq (.reg [⟨(some 5), none, (.mov (.c .nil))⟩]) (.seq (.seq (.reg [⟨(some 6), none, (.mov (.c (.int .i64 0)))⟩]) (.block 0 (.loop sc_i_PointPairing_L0))) (.seq (.reg [⟨(some 68), none, (.mov (.t 5))⟩, ⟨(some 2), none, (.mov (.t 68))⟩]) .ret)))))))
theorem code_i_PointPairing : fnCode Try.prog [] 82 = some (69, sc_i_PointPairing, [(2, none)]) := by kernel_rfl
theorem fn_i_PointPairing : FnOk Try.prog 82 F_s_PointPairing := by
  have env := ((((envNil_ok (P := Try.prog)).add fn_i_IsComplex).add fn_i_facesIn).add fn_i_hasSet).add fn_i_setsIn
  refine fn_ok code_i_PointPairing mixed env ?_
  intro args r h hb
  obtain ⟨_, ⟨n, l⟩, rfl, h1, h4⟩ := F1_inv h
  cases dC_inv h1
  cases h4
  clear h
  refine ⟨by simp, fun w0 U0 L0 N0 => ?_⟩
  clear hb
  cases e0 : cplxB n l with
  | false =>
    have e : ppL n l = [] := by unfold ppL; rw [if_neg fun h => by simp [cplxB_iff.2 h] at e0]
    rw [e]
    simp -implicitDefEqProofs [sc_i_PointPairing, F_s_IsComplex, e0]
  | true =>
  have hc := cplxB_iff.1 e0
  have e : ppL n l = ppOut (faceS l) (setsOf (faceS l)) n.toNat := by unfold ppL; rw [if_pos hc]
  rw [e]
  have hS := cplx_isS hc
  obtain ⟨hn1, hn6, _⟩ := id hc
  obtain ⟨N, rfl⟩ : ∃ N : Nat, n = N := ⟨n.toNat, by omega⟩
  rw [Int.toNat_natCast]
  have hg0 := setsG_fam (faceS l)
  have hL := allS_setsOf (faceS l)
  have hLl := setsOf_len (faceS l)
  have hLf : ∀ k, k < (setsOf (faceS l)).length → faceS l (at0 (setsOf (faceS l)) k) := fun k hk => (mem_setsOf.1 (getD_mem' hk)).2
  generalize setsOf (faceS l) = L at *
  have inner : ∀ (i : Nat) (Q : Post) (T0 : Tm), i < 6 → subE T0 [(1, .pt 0 0), (3, .int .u64 (fam (faceS l))), (4, .int .u64 (fam fun s => faceS l s ∧ s ∉ usedA (ppOut (faceS l) L i))), (5, .sl 1 2 0 (ppOut (faceS l) L i).length), (6, .int .i64 (i : Int)), (7, .int .i64 (2 ^ i)), (26, .sl 2 1 0 L.length), (27, .int .i64 (L.length : Int)), (28, .int .i64 0)] →
      Q (.exit 2) [(1, .pt 0 0), (3, .int .u64 (fam (faceS l))), (4, .int .u64 (fam fun s => faceS l s ∧ s ∉ usedA (ppOut (faceS l) L (i + 1)))), (5, .sl 1 2 0 (ppOut (faceS l) L (i + 1)).length), (6, .int .i64 (i : Int))] ([(1, prs (ppOut (faceS l) L (i + 1))), (0, [.int .i64 N, .list 1 (ints l)])], 2) →
      LoopI ⟨Try.prog, w0, U0, L0, N0, 0, 69⟩ [] sc_i_PointPairing_L2 Q T0 ([(2, ints L), (1, prs (ppOut (faceS l) L i)), (0, [.int .i64 N, .list 1 (ints l)])], 3) := by
    intro i Q T0 hi hsub q1
    have hok0 := ppOut_ok (p := faceS l) hL i (by omega)
    have hpS := isS_pow hi
    refine loopQ env mixed (fun k : Nat => [(1, .pt 0 0), (3, .int .u64 (fam (faceS l))), (4, .int .u64 (fam fun s => faceS l s ∧ s ∉ usedA (ppIn (faceS l) L i (ppOut (faceS l) L i) k))), (5, .sl 1 2 0 (ppIn (faceS l) L i (ppOut (faceS l) L i) k).length), (6, .int .i64 (i : Int)), (7, .int .i64 (2 ^ i)), (26, .sl 2 1 0 L.length), (27, .int .i64 (L.length : Int)), (28, .int .i64 (k : Int))])
      (fun k => ([(2, ints L), (1, prs (ppIn (faceS l) L i (ppOut (faceS l) L i) k)), (0, [.int .i64 N, .list 1 (ints l)])], 3)) (fun k => k ≤ L.length) (fun k => L.length - k) 0 (by simp) (SubI.slots (by simp [ppIn]) (by simpa [ppIn] using hsub)) ?_
    intro k hk
    have hok := ppIn_ok (p := faceS l) hL hi hok0 k hk
    have hl32 := ppOk_len hok
    by_cases hlt : k < L.length
    · have ha := allS_at hL hlt
      have hfa := hLf k hlt
      have hbS := isS_bor ha hpS
      have skip : ¬ ppC (faceS l) i (ppIn (faceS l) L i (ppOut (faceS l) L i) k) (at0 L k) → ppIn (faceS l) L i (ppOut (faceS l) L i) (k + 1) = ppIn (faceS l) L i (ppOut (faceS l) L i) k := ppIn_neg
      have hit : ppC (faceS l) i (ppIn (faceS l) L i (ppOut (faceS l) L i) k) (at0 L k) → ppIn (faceS l) L i (ppOut (faceS l) L i) (k + 1) = ppIn (faceS l) L i (ppOut (faceS l) L i) k ++ [(at0 L k, bor (at0 L k) (2 ^ i))] := ppIn_pos
      unfold ppC at skip hit
      generalize ppIn (faceS l) L i (ppOut (faceS l) L i) k = g at *
      generalize (2 : Int) ^ i = s at *
      generalize hbb : bor (at0 L k) s = b at *
      have ga := hasG_fam (p := fun t => faceS l t ∧ t ∉ usedA g) ha
      have gb := hasG_fam (p := fun t => faceS l t ∧ t ∉ usedA g) hbS
      by_cases c0 : band (at0 L k) s = 0
      rotate_left
      · have e := skip fun h => c0 h.1
        simp -implicitDefEqProofs [sc_i_PointPairing_L2, hlt, c0]
        repeat' (first | omega | apply And.intro)
        exact Again.of (k + 1) (by omega) (by omega) (SubI.slots (by simp only [e]) (by simp only [subE_cons, subE_nil, e]; simp (disch := omega) [wrapI]))
      by_cases c3 : at0 L k ∈ usedA g
      · have e := skip fun h => h.2.2.1 c3
        rw [dec_false fun h => h.2 c3] at ga
        simp -implicitDefEqProofs [sc_i_PointPairing_L2, F_i_hasSet, hlt, c0, ga]
        repeat' (first | omega | apply And.intro)
        exact Again.of (k + 1) (by omega) (by omega) (SubI.slots (by simp only [e]) (by simp only [subE_cons, subE_nil, e]; simp (disch := omega) [wrapI]))
      rw [dec_true ⟨hfa, c3⟩] at ga
      by_cases c4 : faceS l b ∧ b ∉ usedA g
      rotate_left
      · have e := skip fun h => c4 ⟨h.2.1, h.2.2.2⟩
        rw [dec_false c4] at gb
        simp -implicitDefEqProofs [sc_i_PointPairing_L2, F_i_hasSet, hlt, c0, ga, hbb, gb]
        repeat' (first | omega | apply And.intro)
        exact Again.of (k + 1) (by omega) (by omega) (SubI.slots (by simp only [e]) (by simp only [subE_cons, subE_nil, e]; simp (disch := omega) [wrapI]))
      rw [dec_true c4] at gb
      have e := hit ⟨c0, c4.1, c3, c4.2⟩
      have ep : prs (ppIn (faceS l) L i (ppOut (faceS l) L i) (k + 1)) = prs g ++ [.int .i64 (at0 L k), .int .i64 b] := by rw [e, ← prs_app]; rfl
      have el : (ppIn (faceS l) L i (ppOut (faceS l) L i) (k + 1)).length = g.length + 1 := by rw [e]; simp
      have ef : (fam fun t => (faceS l t ∧ ¬ t ∈ usedA g) ∧ ¬ (t = at0 L k ∨ t = b)) = fam fun t => faceS l t ∧ ¬ t ∈ usedA (ppIn (faceS l) L i (ppOut (faceS l) L i) (k + 1)) := fam_congr fun t _ => by
        rw [e, usedA_snoc]
        simp only [List.mem_append, List.mem_cons, List.not_mem_nil, or_false, not_or, and_assoc]
      simp only [not_or] at ef
      have u1 := wrapS ha
      have u2 := wrapS hbS
      have o1 := fam_one ha
      have o2 := fam_one hbS
      have p1 := ha.1
      have p2 := hbS.1
      simp -implicitDefEqProofs [sc_i_PointPairing_L2, F_i_hasSet, hlt, c0, ga, hbb, gb, u1, u2, o1, o2, p1, p2, ef]
      repeat' (first | omega | apply And.intro)
      refine Again.of (k + 1) (by omega) (by omega) (SubI.ren (fun m => if m = 0 then some 0 else if m = 1 then some 4 else if m = 2 then some 2 else none) ?_ ?_ ?_ (by simp) (by simp))
      · simp (disch := omega) [subT, renV, ren1, wrapI, el]
      · simp [subH, ep, renL, ren1]
        have eg : prs g ++ [.int .i64 (at0 L k), .int .i64 b] = prs (g ++ [(at0 L k, b)]) := by rw [← prs_app]; rfl
        rw [eg]
        exact prs_ren _ _
      · intro m hm
        simp only at hm
        rw [if_neg (by omega), if_neg (by omega), if_neg (by omega)]
    · have hkl : k = L.length := by omega
      subst hkl
      have q2 := q1
      simp only [ppOut] at q2
      generalize ppIn (faceS l) L i (ppOut (faceS l) L i) L.length = g at *
      simp -implicitDefEqProofs [sc_i_PointPairing_L2]
      refine SubQ.of (SubI.ren (fun m => if m = 0 then some 0 else if m = 1 then some 1 else none) ?_ ?_ ?_ (by simp) (by simp)) q2
      · simp [subT, renV, ren1]
      · simp [subH, renL, ren1]
      · intro m hm
        simp only at hm
        rw [if_neg (by omega), if_neg (by omega)]
  simp -implicitDefEqProofs [sc_i_PointPairing, F_s_IsComplex, F_i_facesIn, e0, hS]
  refine loopI env mixed (fun i : Nat => [(1, .pt 0 0), (3, .int .u64 (fam (faceS l))), (4, .int .u64 (fam fun s => faceS l s ∧ s ∉ usedA (ppOut (faceS l) L i))), (5, .sl 1 2 0 (ppOut (faceS l) L i).length), (6, .int .i64 (i : Int))])
    (fun i => ([(1, prs (ppOut (faceS l) L i)), (0, [.int .i64 N, .list 1 (ints l)])], 2)) (fun i => i ≤ N) (fun i => N - i) 0 (by simp) (SubI.nilN 5 2 (by simp) (SubI.slots (by simp [ppOut, usedA]) ?_)) ?_
  · have ef : (fam fun s => faceS l s ∧ s ∉ usedA (ppOut (faceS l) L 0)) = fam (faceS l) := fam_congr fun s _ => by simp [ppOut, usedA]
    simp only [subE_cons, subE_nil, ef]
    simp [ppOut]
  intro i hi
  by_cases hlt : i < N
  · have hu : IntKind.u64.wrap (i : Int) = i := wrapU _ (by omega) (by omega)
    have hsh := shlP (show i < 6 by omega)
    simp -implicitDefEqProofs [sc_i_PointPairing_L0, F_i_setsIn, hlt, hu, hsh, hg0]
    repeat' (first | omega | apply And.intro)
    refine inner i _ _ (by omega) (by simp) ?_
    simp -implicitDefEqProofs
    exact Again.of (i + 1) (by omega) (by omega) (SubI.slots (by simp) (by simp (disch := omega) [wrapI]))
  · have hiN : i = N := by omega
    subst hiN
    simp -implicitDefEqProofs [sc_i_PointPairing_L0]
end Go.Proofs.Ytmemomfffehnkaa
