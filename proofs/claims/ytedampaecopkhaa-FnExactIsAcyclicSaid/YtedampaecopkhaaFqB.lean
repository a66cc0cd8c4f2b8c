import Derived.Test.YtedampaecopkhaaFqL
namespace Go.Proofs.Ytedampaecopkhaa
open Go Go.RowKit
set_option maxRecDepth 1000000
set_option linter.unusedSimpArgs false
set_option linter.unusedVariables false
set_option maxHeartbeats 1000000
def sc_s_l18Reach_L2 : SC := (.seq (.seq (.reg [⟨(some 22), none, (.mov (.t 8))⟩, ⟨(some 23), none, (.mov (.t 0))⟩, ⟨(some 24), none, (.len (.t 23))⟩, ⟨(some 25), none, (.bin false .lss (.t 22) (.t 24))⟩]) (.cond (.t 25) .skip (.exit 2))) (.seq (.block 3 (.seq (.dreg [⟨⟨(some 28), none, (.mov (.t 8))⟩, false, false⟩, ⟨⟨(some 29), none, (.mov (.t 7))⟩, false, false⟩, ⟨⟨(some 30), none, (.bin false .neq (.t 28) (.t 29))⟩, false, false⟩, ⟨⟨(some 31), none, (.mov (.t 30))⟩, false, false⟩, ⟨⟨(some 32), (some (31, true)), (.mov (.t 5))⟩, false, false⟩, ⟨⟨(some 33), (some (31, true)), (.mov (.t 8))⟩, false, false⟩, ⟨⟨(some 34), (some (31, true)), (.idx 1 (.t 32) (.t 33))⟩, false, false⟩, ⟨⟨(some 35), (some (31, true)), (.ld none (.bool false) (.t 34))⟩, false, false⟩, ⟨⟨(some 36), (some (31, true)), (.un .not (.t 35))⟩, false, false⟩, ⟨⟨(some 37), none, (.pick (.t 31) (.t 36) (.c (.bool false)))⟩, false, false⟩, ⟨⟨(some 38), none, (.mov (.t 37))⟩, false, false⟩, ⟨⟨(some 39), (some (38, true)), (.mov (.t 0))⟩, false, false⟩, ⟨⟨(some 40), (some (38, true)), (.mov (.t 8))⟩, false, false⟩, ⟨⟨(some 41), (some (38, true)), (.idx 2 (.t 39) (.t 40))⟩, false, false⟩, ⟨⟨(some 42), (some (38, true)), (.fad 0 (.t 41))⟩, false, false⟩, ⟨⟨(some 43), (some (38, true)), (.ld none (.int .i64 0) (.t 42))⟩, false, false⟩, ⟨⟨(some 44), (some (38, true)), (.mov (.t 0))⟩, false, false⟩, ⟨⟨(some 45), (some (38, true)), (.mov (.t 7))⟩, false, false⟩, ⟨⟨(some 46), (some (38, true)), (.idx 2 (.t 44) (.t 45))⟩, false, false⟩, ⟨⟨(some 47), (some (38, true)), (.fad 1 (.t 46))⟩, false, false⟩, ⟨⟨(some 48), (some (38, true)), (.ld none (.int .i64 0) (.t 47))⟩, false, false⟩, ⟨⟨(some 49), (some (38, true)), (.bin false .and (.t 43) (.t 48))⟩, false, false⟩, ⟨⟨(some 50), (some (38, true)), (.mov (.t 0))⟩, false, false⟩, ⟨⟨(some 51), (some (38, true)), (.mov (.t 8))⟩, false, false⟩, ⟨⟨(some 52), (some (38, true)), (.idx 2 (.t 50) (.t 51))⟩, false, false⟩, ⟨⟨(some 53), (some (38, true)), (.fad 0 (.t 52))⟩, false, false⟩, ⟨⟨(some 54), (some (38, true)), (.ld none (.int .i64 0) (.t 53))⟩, false, false⟩, ⟨⟨(some 55), (some (38, true)), (.bin false .eql (.t 49) (.t 54))⟩, false, false⟩, ⟨⟨(some 56), none, (.pick (.t 38) (.t 55) (.c (.bool false)))⟩, false, false⟩, ⟨⟨(some 57), none, (.mov (.t 56))⟩, false, false⟩, ⟨⟨(some 58), (some (57, true)), (.mov (.t 0))⟩, false, false⟩, ⟨⟨(some 59), (some (57, true)), (.mov (.t 8))⟩, false, false⟩, ⟨⟨(some 60), (some (57, true)), (.idx 2 (.t 58) (.t 59))⟩, false, false⟩, ⟨⟨(some 61), (some (57, true)), (.fad 0 (.t 60))⟩, false, false⟩, ⟨⟨(some 62), (some (57, true)), (.ld none (.int .i64 0) (.t 61))⟩, false, false⟩, ⟨⟨(some 63), (some (57, true)), (.mov (.t 0))⟩, false, false⟩, ⟨⟨(some 64), (some (57, true)), (.mov (.t 7))⟩, false, false⟩, ⟨⟨(some 65), (some (57, true)), (.idx 2 (.t 63) (.t 64))⟩, false, false⟩, ⟨⟨(some 66), (some (57, true)), (.fad 0 (.t 65))⟩, false, false⟩, ⟨⟨(some 67), (some (57, true)), (.ld none (.int .i64 0) (.t 66))⟩, false, false⟩, ⟨⟨(some 68), (some (57, true)), (.bin false .neq (.t 62) (.t 67))⟩, false, false⟩, ⟨⟨(some 69), none, (.pick (.t 57) (.t 68) (.c (.bool false)))⟩, false, false⟩, ⟨⟨(some 70), none, (.mov (.t 69))⟩, false, false⟩, ⟨⟨(some 71), (some (70, true)), (.mov (.t 0))⟩, false, false⟩, ⟨⟨(some 72), (some (70, true)), (.mov (.t 7))⟩, false, false⟩, ⟨⟨(some 73), (some (70, true)), (.idx 2 (.t 71) (.t 72))⟩, false, false⟩, ⟨⟨(some 74), (some (70, true)), (.fad 1 (.t 73))⟩, false, false⟩, ⟨⟨(some 75), (some (70, true)), (.ld none (.int .i64 0) (.t 74))⟩, false, false⟩, ⟨⟨(some 76), (some (70, true)), (.call 83 [(.t 75)])⟩, false, false⟩, ⟨⟨(some 77), (some (70, true)), (.mov (.t 0))⟩, false, false⟩, ⟨⟨(some 78), (some (70, true)), (.mov (.t 8))⟩, false, false⟩, ⟨⟨(some 79), (some (70, true)), (.idx 2 (.t 77) (.t 78))⟩, false, false⟩, ⟨⟨(some 80), (some (70, true)), (.fad 0 (.t 79))⟩, false, false⟩, ⟨⟨(some 81), (some (70, true)), (.ld none (.int .i64 0) (.t 80))⟩, false, false⟩, ⟨⟨(some 82), (some (70, true)), (.call 83 [(.t 81)])⟩, false, false⟩, ⟨⟨(some 83), (some (70, true)), (.bin false .sub (.t 76) (.t 82))⟩, false, false⟩, ⟨⟨(some 84), (some (70, true)), (.bin false .eql (.t 83) (.c (.int .i64 1)))⟩, false, false⟩, ⟨⟨(some 85), none, (.pick (.t 70) (.t 84) (.c (.bool false)))⟩, false, false⟩]) (.cond (.t 85) (.seq (.reg [⟨(some 86), none, (.mov (.t 5))⟩, ⟨(some 87), none, (.mov (.t 8))⟩, ⟨(some 88), none, (.idx 1 (.t 86) (.t 87))⟩, ⟨none, none, (.st 1 (.t 88) (.c (.bool true)))⟩]) (.reg [⟨(some 89), none, (.mov (.t 6))⟩, ⟨(some 90), none, (.mov (.t 8))⟩, ⟨(some 91), none, (.mks 1 1 [(.int .i64 0)] [(0, (1, (.t 90)))])⟩, ⟨(some 92), none, (.app 1 8 (.t 89) (.t 91))⟩, ⟨(some 6), none, (.mov (.t 92))⟩])) .skip))) (.reg [⟨(some 26), none, (.mov (.t 8))⟩, ⟨(some 27), none, (.bin false .add (.t 26) (.c (.int .i64 1)))⟩, ⟨(some 8), none, (.mov (.t 27))⟩])))
def sc_s_l18Reach_L0 : SC := (.seq (.seq (.reg [⟨(some 14), none, (.mov (.t 6))⟩, ⟨(some 15), none, (.len (.t 14))⟩, ⟨(some 16), none, (.bin false .gtr (.t 15) (.c (.int .i64 0)))⟩]) (.cond (.t 16) .skip (.exit 0))) (.block 1 (.seq (.reg [⟨(some 17), none, (.mov (.t 6))⟩, ⟨(some 18), none, (.idx 1 (.t 17) (.c (.int .i64 0)))⟩, ⟨(some 19), none, (.ld none (.int .i64 0) (.t 18))⟩, ⟨(some 7), none, (.mov (.t 19))⟩]) (.seq (.reg [⟨(some 20), none, (.mov (.t 6))⟩, ⟨(some 21), none, (.sli 1 (.t 20) (some (.c (.int .i64 1))) none none)⟩, ⟨(some 6), none, (.mov (.t 21))⟩]) (.seq (.reg [⟨(some 8), none, (.mov (.c (.int .i64 0)))⟩]) (.block 2 (.loop sc_s_l18Reach_L2)))))))
def sc_s_l18Reach : SC := (.seq (.reg [⟨(some 4), none, (.mov (.c .nil))⟩]) (.seq (.reg [⟨(some 9), none, (.mov (.t 0))⟩, ⟨(some 10), none, (.len (.t 9))⟩, ⟨(some 11), none, (.mk 1 1 [(.bool false)] (.t 10) (.t 10))⟩, ⟨(some 5), none, (.mov (.t 11))⟩]) (.seq (.reg [⟨(some 12), none, (.mov (.t 1))⟩, ⟨(some 13), none, (.mks 1 1 [(.int .i64 0)] [(0, (1, (.t 12)))])⟩, ⟨(some 6), none, (.mov (.t 13))⟩]) (.seq (.block 0 (.loop sc_s_l18Reach_L0)) (.seq (.reg [⟨(some 93), none, (.mov (.t 5))⟩, ⟨(some 4), none, (.mov (.t 93))⟩]) .ret)))))
theorem code_s_l18Reach : fnCode Try.prog [] 86 = some (94, sc_s_l18Reach, [(4, none)]) := by kernel_rfl
noncomputable def F_s_l18Reach : List V → Option V := F2 dP dI fun list x => @ite _ (reachOk list ∧ 0 ≤ x ∧ x < list.length) (Classical.propDecidable _) (some (.own 1 (boolRow list.length fun j => warsh (edgeP list) list.length x.toNat j))) none
/-- The state of the search: marks, the row, where what is left begins. -/
structure Bfs where
  M : Nat → Prop
  Q : List Int
  off : Nat
def bfsI (list : List (Int × Int)) (a : Nat) (x : Bfs) : Prop :=
  x.off ≤ x.Q.length ∧ (∀ q ∈ x.Q.drop x.off, ∃ t : Nat, q = t ∧ t < list.length ∧ (t = a ∨ x.M t)) ∧ (∀ j, x.M j → j < list.length ∧ warsh (edgeP list) list.length a j) ∧
  (∀ i, (i = a ∨ x.M i) → ((i : Int) ∈ x.Q.drop x.off ∨ ∀ j, edgeP list i j → x.M j)) ∧ (x.Q.length - x.off) + 2 * cntU x.M list.length ≤ 2 * list.length + 1
/-- Within a round: k is the pair at hand, those below i are seen. -/
def bfsJ (list : List (Int × Int)) (a k B : Nat) (y : Nat × Bfs) : Prop :=
  y.1 ≤ list.length ∧ y.2.off ≤ y.2.Q.length ∧ (∀ q ∈ y.2.Q.drop y.2.off, ∃ t : Nat, q = t ∧ t < list.length ∧ (t = a ∨ y.2.M t)) ∧ (∀ j, y.2.M j → j < list.length ∧ warsh (edgeP list) list.length a j) ∧
  (∀ i, (i = a ∨ y.2.M i) → (i = k ∨ (i : Int) ∈ y.2.Q.drop y.2.off ∨ ∀ j, edgeP list i j → y.2.M j)) ∧ (∀ j, j < y.1 → edgeP list k j → y.2.M j) ∧ (y.2.Q.length - y.2.off) + 2 * cntU y.2.M list.length ≤ B ∧ (k = a ∨ y.2.M k)
theorem bfs_skip {list : List (Int × Int)} {a k B i : Nat} {y : Bfs} (h : bfsJ list a k B (i, y)) (hi : i < list.length) (he : edgeP list k i → y.M i) : bfsJ list a k B (i + 1, y) := by
  obtain ⟨_, h2, h3, h4, h5, h6, h7, h8⟩ := h
  refine ⟨hi, h2, h3, h4, h5, fun j hj hjk => ?_, h7, h8⟩
  rcases Nat.lt_succ_iff_lt_or_eq.1 hj with h | rfl
  · exact h6 j h hjk
  · exact he hjk
theorem bfs_mark {list : List (Int × Int)} {a k B i : Nat} {y : Bfs} (h : bfsJ list a k B (i, y)) (hi : i < list.length) (hk : k < list.length) (he : edgeP list k i) (hm : ¬ y.M i) : bfsJ list a k B (i + 1, ⟨fun j => y.M j ∨ j = i, y.Q.drop y.off ++ [(i : Int)], 0⟩) := by
  obtain ⟨_, h2, h3, h4, h5, h6, h7, h8⟩ := h
  simp only at h2 h3 h4 h5 h6 h7 h8
  refine ⟨hi, by simp, fun q hq => ?_, fun j hj => ?_, fun x hx => ?_, fun j hj hjk => ?_, ?_, ?_⟩
  · simp only [List.drop_zero, List.mem_append, List.mem_singleton] at hq
    rcases hq with hq | rfl
    · obtain ⟨t, e, ht, h9⟩ := h3 q hq
      exact ⟨t, e, ht, h9.elim .inl fun h => .inr (.inl h)⟩
    · exact ⟨i, rfl, hi, .inr (.inr rfl)⟩
  · rcases hj with hj | rfl
    · exact h4 j hj
    · refine ⟨hi, ?_⟩
      rcases h8 with rfl | h8
      · exact warsh_of _ he
      · exact warsh_trans _ hk (h4 k h8).2 (warsh_of _ he)
  · simp only [List.drop_zero, List.mem_append, List.mem_singleton]
    rcases hx with hx | hx | rfl
    · rcases h5 x (.inl hx) with h9 | h9 | h9
      · exact .inl h9
      · exact .inr (.inl (.inl h9))
      · exact .inr (.inr fun j hj => .inl (h9 j hj))
    · rcases h5 x (.inr hx) with h9 | h9 | h9
      · exact .inl h9
      · exact .inr (.inl (.inl h9))
      · exact .inr (.inr fun j hj => .inl (h9 j hj))
    · exact .inr (.inl (.inr rfl))
  · rcases Nat.lt_succ_iff_lt_or_eq.1 hj with h9 | rfl
    · exact .inl (h6 j h9 hjk)
    · exact .inr rfl
  · have := cntU_mark hm hi
    simp only [List.length_append, List.length_drop, List.length_cons, List.length_nil]
    omega
  · exact h8.elim .inl fun h => .inr (.inl h)
theorem bfs_pop {list : List (Int × Int)} {a : Nat} {x : Bfs} (h : bfsI list a x) (hlt : x.off < x.Q.length) : ∃ k : Nat, at0 x.Q x.off = k ∧ k < list.length ∧ bfsJ list a k ((x.Q.length - (x.off + 1)) + 2 * cntU x.M list.length) (0, ⟨x.M, x.Q, x.off + 1⟩) := by
  obtain ⟨h1, h2, h3, h4, h5⟩ := h
  have hd : x.Q.drop x.off = at0 x.Q x.off :: x.Q.drop (x.off + 1) := by rw [at0_eq hlt]; exact List.drop_eq_getElem_cons hlt
  rw [hd] at h2 h4
  obtain ⟨k, e, hk, hka⟩ := h2 _ (List.mem_cons_self ..)
  refine ⟨k, e, hk, by simp, hlt, fun q hq => h2 q (List.mem_cons_of_mem _ hq), h3, fun i hi => ?_, fun j hj => by simp only at hj; omega, by simp only; omega, hka⟩
  rcases h4 i hi with h6 | h6
  · rcases List.mem_cons.1 h6 with h7 | h7
    · rw [e] at h7
      exact .inl (by omega)
    · exact .inr (.inl h7)
  · exact .inr (.inr h6)
theorem bfs_back {list : List (Int × Int)} {a k B : Nat} {y : Bfs} (h : bfsJ list a k B (list.length, y)) (hB : B ≤ 2 * list.length + 1) : bfsI list a y := by
  obtain ⟨_, h2, h3, h4, h5, h6, h7, h8⟩ := h
  refine ⟨h2, h3, h4, fun i hi => ?_, by simp only at h7; omega⟩
  rcases h5 i hi with rfl | h9 | h9
  · exact .inr fun j hj => h6 j hj.2.1 hj
  · exact .inl h9
  · exact .inr h9
theorem fn_s_l18Reach : FnOk Try.prog 86 F_s_l18Reach := by
  have env := (envNil_ok (P := Try.prog)).add fn_s_l2Size
  refine fn_ok code_s_l18Reach mixed env ?_
  intro args r h hb
  obtain ⟨_, _, list, x, rfl, h1, h2, h4⟩ := F2_inv h
  cases dP_inv h1
  cases dI_inv h2
  clear h
  simp only [Option.ite_none_right_eq_some, Option.some.injEq] at h4
  obtain ⟨⟨⟨hl32, hS, hlow⟩, hx0, hxm⟩, rfl⟩ := h4
  obtain ⟨a, rfl⟩ : ∃ a : Nat, x = a := ⟨x.toNat, by omega⟩
  have ham : a < list.length := by omega
  rw [Int.toNat_natCast]
  refine ⟨by simp, fun w0 U0 L0 N0 => ?_⟩
  clear hb
  generalize hW : boolRow list.length (fun j => warsh (edgeP list) list.length a j) = W
  have inner : ∀ (k B : Nat) (y0 : Bfs) (Q : Post) (T0 : Tm), k < list.length → B ≤ 2 * list.length + 1 → bfsJ list a k B (0, y0) → subE T0 [(0, .list 2 (prs list)), (5, .sl 0 1 0 list.length), (6, .sl 1 1 y0.off (y0.Q.length - y0.off)), (7, .int .i64 (k : Int)), (8, .int .i64 0)] →
      (∀ y : Bfs, bfsJ list a k B (list.length, y) → Q (.exit 2) [(0, .list 2 (prs list)), (5, .sl 0 1 0 list.length), (6, .sl 1 1 y.off (y.Q.length - y.off))] ([(1, ints y.Q), (0, boolRow list.length y.M)], 2)) →
      LoopI ⟨Try.prog, w0, U0, L0, N0, 0, 94⟩ [] sc_s_l18Reach_L2 Q T0 ([(1, ints y0.Q), (0, boolRow list.length y0.M)], 2) := by
    intro k B y0 Q T0 hk hB hJ0 hs q1
    refine loopQ env mixed (fun y : Nat × Bfs => [(0, .list 2 (prs list)), (5, .sl 0 1 0 list.length), (6, .sl 1 1 y.2.off (y.2.Q.length - y.2.off)), (7, .int .i64 (k : Int)), (8, .int .i64 (y.1 : Int))]) (fun y => ([(1, ints y.2.Q), (0, boolRow list.length y.2.M)], 2))
      (bfsJ list a k B) (fun y => list.length - y.1) (0, y0) hJ0 (SubI.slots rfl (by simpa using hs)) ?_
    rintro ⟨i, y⟩ hJ
    obtain ⟨hi, hoff, _, _, _, _, hBm, _⟩ := id hJ
    simp only at hi hoff hBm
    by_cases hlt : i < list.length
    · have hdi := prs_at hlt
      have hdk := prs_at hk
      obtain ⟨s1, s2⟩ := hS i hlt
      obtain ⟨s3, s4⟩ := hS k hk
      have hQl : y.Q.length - y.off ≤ 65 := by omega
      by_cases c1 : i = k
      · have hnx := bfs_skip hJ hlt fun h => absurd c1.symm h.2.2.1
        subst c1
        simp -implicitDefEqProofs [sc_s_l18Reach_L2, hlt]
        repeat' (first | omega | apply And.intro)
        exact Again.of (i + 1, y) hnx (by simp only; omega) (SubI.slots rfl (by simp (disch := omega) [wrapI]))
      have c1' : ¬ ((i : Int) = k) := by omega
      by_cases c2 : y.M i
      · have hd2 := dec_true c2
        have hnx := bfs_skip hJ hlt fun _ => c2
        simp -implicitDefEqProofs [sc_s_l18Reach_L2, hlt, c1, c1', hd2]
        repeat' (first | omega | apply And.intro)
        exact Again.of (i + 1, y) hnx (by simp only; omega) (SubI.slots rfl (by simp (disch := omega) [wrapI]))
      have hd2 := dec_false c2
      have c4 := hlow i k hlt hk c1
      generalize hpi : pr0 list i = pi at *
      generalize hpk : pr0 list k = pk at *
      by_cases c3 : band pi.1 pk.2 = pi.1
      rotate_left
      · have hnx := bfs_skip hJ hlt fun h => absurd ((subS_iff s1 s4).1 (by have := h.2.2.2.1; rwa [hpi, hpk] at this)) c3
        simp -implicitDefEqProofs [sc_s_l18Reach_L2, hlt, c1, c1', hd2, hdi, hdk, hk, c3]
        repeat' (first | omega | apply And.intro)
        exact Again.of (i + 1, y) hnx (by simp only; omega) (SubI.slots rfl (by simp (disch := omega) [wrapI]))
      have r1 : pk.2 < 9223372036854775808 := by have := s4.2; omega
      have r2 : pi.1 < 9223372036854775808 := by have := s1.2; omega
      have hw : IntKind.i64.wrap (sz pk.2 - sz pi.1) = sz pk.2 - sz pi.1 := wrapI _ (by have := sz_nn pk.2; have := sz_le pi.1; omega) (by have := sz_le pk.2; have := sz_nn pi.1; omega)
      by_cases c5 : sz pk.2 - sz pi.1 = 1
      rotate_left
      · have hnx := bfs_skip hJ hlt fun h => absurd (by have := h.2.2.2.2; rw [hpi, hpk] at this; omega) c5
        simp -implicitDefEqProofs [sc_s_l18Reach_L2, F_s_l2Size, hlt, c1, c1', hd2, hdi, hdk, hk, c3, c4, r1, r2, hw, c5]
        repeat' (first | omega | apply And.intro)
        exact Again.of (i + 1, y) hnx (by simp only; omega) (SubI.slots rfl (by simp (disch := omega) [wrapI]))
      have hw1 : IntKind.i64.wrap 1 = 1 := wrapI 1 (by omega) (by omega)
      have hedge : edgeP list k i := ⟨hk, hlt, fun e => c1 e.symm, by rw [hpi, hpk]; exact (subS_iff s1 s4).2 c3, by rw [hpi, hpk]; omega⟩
      have hnx := bfs_mark hJ hlt hk hedge c2
      have hst := boolRow_set (P := y.M) hlt
      simp -implicitDefEqProofs [sc_s_l18Reach_L2, F_s_l2Size, hlt, c1, c1', hd2, hdi, hdk, hk, c3, c4, r1, r2, hw1, c5, hst]
      repeat' (first | omega | apply And.intro)
      refine Again.of (i + 1, ⟨fun j => y.M j ∨ j = i, y.Q.drop y.off ++ [(i : Int)], 0⟩) hnx (by simp only; omega) (SubI.ren (fun m => if m = 0 then some 0 else if m = 1 then some 3 else none) ?_ ?_ ?_ (by simp) (by simp))
      · simp (disch := omega) [subT, renV, ren1, wrapI]
      · have htk : (y.Q.drop y.off).take (y.Q.length - y.off) = y.Q.drop y.off := List.take_of_length_le (by simp)
        simp [subH, renL, ren1, htk]
        rw [← ints_app]
        rfl
      · intro m hm
        simp only at hm
        rw [if_neg (by omega), if_neg (by omega)]
    · have hil : i = list.length := by omega
      subst hil
      have q2 := q1 y hJ
      simp -implicitDefEqProofs [sc_s_l18Reach_L2]
      exact SubQ.of (SubI.slots rfl (by simp)) q2
  simp -implicitDefEqProofs [sc_s_l18Reach]
  repeat' (first | omega | apply And.intro)
  refine loopI env mixed (fun x : Bfs => [(0, .list 2 (prs list)), (5, .sl 0 1 0 list.length), (6, .sl 1 1 x.off (x.Q.length - x.off))]) (fun x => ([(1, ints x.Q), (0, boolRow list.length x.M)], 2)) (bfsI list a) (fun x => (x.Q.length - x.off) + 2 * cntU x.M list.length) ⟨fun _ => False, [(a : Int)], 0⟩ ?_ (SubI.slots (by simp [boolRow_none]) (by simp)) ?_
  · refine ⟨by simp, fun q hq => ⟨a, by simpa using hq, ham, .inl rfl⟩, fun j hj => hj.elim, fun i hi => .inl ?_, ?_⟩
    · rcases hi with rfl | hi
      · simp
      · exact hi.elim
    · have := cntU_le (fun _ => False) list.length
      simp
      omega
  · rintro ⟨M, Q, off⟩ hI
    obtain ⟨hoff, _, hMw, hcl, hmes⟩ := id hI
    simp only at hoff hMw hcl hmes
    by_cases hlt : off < Q.length
    · obtain ⟨k, hq, hk, hJ⟩ := bfs_pop hI hlt
      simp only at hq hJ
      have hpos : 0 < Q.length - off := by omega
      have e1 : Q.length - off - 1 = Q.length - (off + 1) := by omega
      simp -implicitDefEqProofs [sc_s_l18Reach_L0, hlt, hpos, hq]
      repeat' (first | omega | apply And.intro)
      refine inner k _ ⟨M, Q, off + 1⟩ _ _ hk (by omega) hJ ?_ ?_
      · simp
        try omega
      · intro y hy
        have hyB := hy.2.2.2.2.2.2.1
        have hyI := bfs_back hy (by omega)
        simp only at hyB
        simp -implicitDefEqProofs
        exact Again.of y hyI (by simp only; omega) (SubI.slots rfl (by simp))
    · have hoe : off = Q.length := by omega
      subst hoe
      have hclosed : ∀ i j, (i = a ∨ M i) → edgeP list i j → M j := fun i j hi hj => by
        rcases hcl i hi with h | h
        · simp at h
        · exact h j hj
      have hMW : boolRow list.length M = W := by
        rw [← hW]
        refine boolRow_congr fun j hj => ⟨fun h => (hMw j h).2, fun h => ?_⟩
        exact warsh_closed (M := M) (fun j hj => hclosed a j (.inl rfl) hj) (fun i j hi hj => hclosed i j (.inr hi) hj) _ (.inl rfl) h
      have htk : W.take list.length = W := by rw [← hW]; exact boolRow_take _ _
      have hWl : W.length = list.length := by rw [← hW]; exact boolRow_len _ _
      have hWn : W.all (nonm 6) = true := by rw [← hW]; exact boolRow_nm 5 _ _
      simp -implicitDefEqProofs [sc_s_l18Reach_L0, hMW, htk, hWl, hWn]
end Go.Proofs.Ytedampaecopkhaa
