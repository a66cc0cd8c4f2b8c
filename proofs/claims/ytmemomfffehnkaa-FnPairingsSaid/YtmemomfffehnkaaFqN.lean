import Derived.Test.YtmemomfffehnkaaKP
import Derived.Test.YtmemomfffehnkaaKG
import Derived.Test.YtmemomfffehnkaaKI
namespace Go.Proofs.Ytmemomfffehnkaa
open Go Go.RowKit
set_option maxRecDepth 1000000
set_option linter.unusedSimpArgs false
set_option linter.unusedVariables false
set_option maxHeartbeats 1000000
def sc_s_PointPairing_L2 : SC := (.seq (.seq (.reg [⟨(some 25), none, (.mov (.t 7))⟩, ⟨(some 26), none, (.mov (.t 4))⟩, ⟨(some 27), none, (.len (.t 26))⟩, ⟨(some 28), none, (.bin false .lss (.t 25) (.t 27))⟩]) (.cond (.t 28) .skip (.exit 2))) (.seq (.block 3 (.seq (.reg [⟨(some 31), none, (.mov (.t 4))⟩, ⟨(some 32), none, (.mov (.t 7))⟩, ⟨(some 33), none, (.idx 1 (.t 31) (.t 32))⟩, ⟨(some 34), none, (.ld none (.int .i64 0) (.t 33))⟩, ⟨(some 8), none, (.mov (.t 34))⟩]) (.seq (.reg [⟨(some 35), none, (.mov (.t 8))⟩, ⟨(some 36), none, (.mov (.t 6))⟩, ⟨(some 37), none, (.conv .u64 (.t 36))⟩, ⟨(some 38), none, (.bin false .shl (.c (.int .i64 1)) (.t 37))⟩, ⟨(some 39), none, (.bin false .or (.t 35) (.t 38))⟩, ⟨(some 9), none, (.mov (.t 39))⟩]) (.seq (.reg [⟨(some 40), none, (.mov (.t 8))⟩, ⟨(some 41), none, (.mov (.t 9))⟩, ⟨(some 42), none, (.bin false .neq (.t 40) (.t 41))⟩, ⟨(some 43), none, (.mov (.t 42))⟩, ⟨(some 44), (some (43, true)), (.ld (some 2) .undef (.t 1))⟩, ⟨(some 45), (some (43, true)), (.mov (.t 9))⟩, ⟨(some 46), (some (43, true)), (.call 158 [(.t 44), (.t 45)])⟩, ⟨(some 47), none, (.pick (.t 43) (.t 46) (.c (.bool false)))⟩, ⟨(some 48), none, (.mov (.t 47))⟩, ⟨(some 49), (some (48, true)), (.mov (.t 5))⟩, ⟨(some 50), (some (48, true)), (.mov (.t 8))⟩, ⟨(some 51), (some (48, true)), (.call 134 [(.t 49), (.t 50)])⟩, ⟨(some 52), (some (48, true)), (.un .not (.t 51))⟩, ⟨(some 53), none, (.pick (.t 48) (.t 52) (.c (.bool false)))⟩, ⟨(some 54), none, (.mov (.t 53))⟩, ⟨(some 55), (some (54, true)), (.mov (.t 5))⟩, ⟨(some 56), (some (54, true)), (.mov (.t 9))⟩, ⟨(some 57), (some (54, true)), (.call 134 [(.t 55), (.t 56)])⟩, ⟨(some 58), (some (54, true)), (.un .not (.t 57))⟩, ⟨(some 59), none, (.pick (.t 54) (.t 58) (.c (.bool false)))⟩]) (.cond (.t 59) (.seq (.reg [⟨(some 60), none, (.mov (.t 5))⟩, ⟨(some 61), none, (.mov (.t 8))⟩, ⟨(some 62), none, (.mov (.t 9))⟩, ⟨(some 63), none, (.mks 2 1 [(.int .i64 0), (.int .i64 0)] [(0, (1, (.t 61))), (1, (1, (.t 62)))])⟩, ⟨(some 64), none, (.app 1 8 (.t 60) (.t 63))⟩, ⟨(some 5), none, (.mov (.t 64))⟩]) (.reg [⟨(some 65), none, (.mov (.t 3))⟩, ⟨(some 66), none, (.mov (.t 8))⟩, ⟨(some 67), none, (.mov (.t 9))⟩, ⟨(some 68), none, (.agg [(.int .i64 0), (.int .i64 0)] [(0, (1, (.t 66))), (1, (1, (.t 67)))])⟩, ⟨(some 69), none, (.mks 1 2 [(.int .i64 0), (.int .i64 0)] [(0, (2, (.t 68)))])⟩, ⟨(some 70), none, (.app 2 16 (.t 65) (.t 69))⟩, ⟨(some 3), none, (.mov (.t 70))⟩])) .skip))))) (.reg [⟨(some 29), none, (.mov (.t 7))⟩, ⟨(some 30), none, (.bin false .add (.t 29) (.c (.int .i64 1)))⟩, ⟨(some 7), none, (.mov (.t 30))⟩])))
def sc_s_PointPairing_L0 : SC := (.seq (.seq (.reg [⟨(some 14), none, (.mov (.t 6))⟩, ⟨(some 15), none, (.fad 0 (.t 1))⟩, ⟨(some 16), none, (.ld none (.int .i64 0) (.t 15))⟩, ⟨(some 17), none, (.bin false .lss (.t 14) (.t 16))⟩, ⟨(some 18), none, (.mov (.t 17))⟩, ⟨(some 19), (some (18, true)), (.mov (.t 4))⟩, ⟨(some 20), (some (18, true)), (.len (.t 19))⟩, ⟨(some 21), (some (18, true)), (.bin false .gtr (.t 20) (.c (.int .i64 0)))⟩, ⟨(some 22), none, (.pick (.t 18) (.t 21) (.c (.bool false)))⟩]) (.cond (.t 22) .skip (.exit 0))) (.seq (.block 1 (.seq (.reg [⟨(some 7), none, (.mov (.c (.int .i64 0)))⟩]) (.block 2 (.loop sc_s_PointPairing_L2)))) (.reg [⟨(some 23), none, (.mov (.t 6))⟩, ⟨(some 24), none, (.bin false .add (.t 23) (.c (.int .i64 1)))⟩, ⟨(some 6), none, (.mov (.t 24))⟩])))
def sc_s_PointPairing : SC := (.seq (.reg [⟨(some 1), none, (.box (.t 0))⟩, ⟨(some 2), none, (.mov (.c .nil))⟩]) (.seq (.reg [⟨(some 10), none, (.mks 0 2 [] [])⟩, ⟨(some 3), none, (.mov (.t 10))⟩]) (.seq (.reg [⟨(some 11), none, (.ld (some 2) .undef (.t 1))⟩, ⟨(some 12), none, (.call 43 [(.t 11)])⟩, ⟨(some 4), none, (.mov (.t 12))⟩]) (.seq (.reg [⟨(some 13), none, (.mks 0 1 [] [])⟩, ⟨(some 5), none, (.mov (.t 13))⟩]) (.seq (.seq (.reg [⟨(some 6), none, (.mov (.c (.int .i64 0)))⟩]) (.block 0 (.loop sc_s_PointPairing_L0))) (.seq (.reg [⟨(some 71), none, (.mov (.t 3))⟩, ⟨(some 2), none, (.mov (.t 71))⟩]) .ret))))))
theorem code_s_PointPairing : fnCode Try.prog [] 90 = some (72, sc_s_PointPairing, [(2, none)]) := by kernel_rfl
theorem shlP {i : Nat} (hi : i < 6) : IntKind.i64.wrap (2 ^ min i IntKind.i64.bits) = 2 ^ i := by
  have : ∀ i : Nat, i < 6 → IntKind.i64.wrap (2 ^ min i IntKind.i64.bits) = 2 ^ i := by decide +kernel
  exact this i hi
/-- The faces of pairs. -/
def usedA (out : List (Int × Int)) : List Int := out.flatMap fun p => [p.1, p.2]
theorem usedA_snoc (out : List (Int × Int)) (p : Int × Int) : usedA (out ++ [p]) = usedA out ++ [p.1, p.2] := by simp [usedA]
theorem usedA_len : ∀ out : List (Int × Int), (usedA out).length = 2 * out.length
  | [] => rfl
  | p :: out => by
    have := usedA_len out
    unfold usedA at *
    simp [this]
    omega
theorem bor_new {a : Int} (ha : isS a) {i : Nat} (hi : i < 6) : (a ≠ bor a (2 ^ i)) ↔ band a (2 ^ i) = 0 := by
  have hp := isS_pow hi
  constructor
  · intro h
    refine (band_none ha hp).2 fun j hj hh => h ?_
    have e := (tb_pow hi hj).1 hh.2
    subst e
    refine tb_ext ha (isS_bor ha hp) fun c hc => ?_
    rw [tb_bor ha hp hc]
    refine ⟨.inl, fun h => h.elim id fun h2 => ?_⟩
    rw [← (tb_pow hi hc).1 h2]
    exact hh.1
  · intro h e
    have h1 := (band_none ha hp).1 h i hi
    have h2 : tb (bor a (2 ^ i)) i := (tb_bor ha hp hi).2 (.inr ((tb_pow hi hi).2 rfl))
    rw [← e] at h2
    exact h1 ⟨h2, (tb_pow hi hi).2 rfl⟩
/-- Does the pairing by point i take the face a. -/
def ppC (p : Int → Prop) (i : Nat) (out : List (Int × Int)) (a : Int) : Prop := band a (2 ^ i) = 0 ∧ p (bor a (2 ^ i)) ∧ a ∉ usedA out ∧ bor a (2 ^ i) ∉ usedA out
open Classical in
/-- The pairs behind the first k faces, for one point. -/
noncomputable def ppIn (p : Int → Prop) (L : List Int) (i : Nat) (out : List (Int × Int)) : Nat → List (Int × Int)
  | 0 => out
  | k + 1 => if ppC p i (ppIn p L i out k) (at0 L k) then ppIn p L i out k ++ [(at0 L k, bor (at0 L k) (2 ^ i))] else ppIn p L i out k
theorem ppIn_pos {p : Int → Prop} {L : List Int} {i k : Nat} {out : List (Int × Int)} (h : ppC p i (ppIn p L i out k) (at0 L k)) : ppIn p L i out (k + 1) = ppIn p L i out k ++ [(at0 L k, bor (at0 L k) (2 ^ i))] := by simp only [ppIn, if_pos h]
theorem ppIn_neg {p : Int → Prop} {L : List Int} {i k : Nat} {out : List (Int × Int)} (h : ¬ ppC p i (ppIn p L i out k) (at0 L k)) : ppIn p L i out (k + 1) = ppIn p L i out k := by simp only [ppIn, if_neg h]
noncomputable def ppOut (p : Int → Prop) (L : List Int) : Nat → List (Int × Int)
  | 0 => []
  | i + 1 => ppIn p L i (ppOut p L i) L.length
def ppOk (out : List (Int × Int)) : Prop := (usedA out).Nodup ∧ allS (usedA out)
theorem ppIn_ok {p : Int → Prop} {L : List Int} (hL : allS L) {i : Nat} (hi : i < 6) {out : List (Int × Int)} (h : ppOk out) : ∀ k, k ≤ L.length → ppOk (ppIn p L i out k) := by
  intro k
  induction k with
  | zero => intro _; exact h
  | succ k ih =>
    intro hk
    obtain ⟨a, b⟩ := ih (by omega)
    have ha := allS_at hL (show k < L.length by omega)
    by_cases hc : ppC p i (ppIn p L i out k) (at0 L k)
    · rw [ppIn_pos hc]
      unfold ppOk
      rw [usedA_snoc]
      have hne := (bor_new ha hi).2 hc.1
      constructor
      · rw [List.nodup_append]
        refine ⟨a, by simpa using hne, ?_⟩
        intro x hx y hy e
        subst e
        simp only [List.mem_cons, List.not_mem_nil, or_false] at hy
        rcases hy with rfl | rfl
        · exact hc.2.2.1 hx
        · exact hc.2.2.2 hx
      · intro x hx
        rcases List.mem_append.1 hx with h | h
        · exact b x h
        · simp only [List.mem_cons, List.not_mem_nil, or_false] at h
          rcases h with rfl | rfl
          · exact ha
          · exact isS_bor ha (isS_pow hi)
    · rw [ppIn_neg hc]; exact ⟨a, b⟩
theorem ppOut_ok {p : Int → Prop} {L : List Int} (hL : allS L) : ∀ i, i ≤ 6 → ppOk (ppOut p L i)
  | 0, _ => by constructor <;> simp [ppOut, usedA, allS]
  | i + 1, h => ppIn_ok hL (by omega) (ppOut_ok hL i (by omega)) _ (Nat.le_refl _)
theorem ppOk_len {out : List (Int × Int)} (h : ppOk out) : out.length ≤ 32 := by
  have h1 := nodup_len h.1 h.2
  rw [usedA_len] at h1
  omega
theorem ppOut_nil (p : Int → Prop) : ∀ i, ppOut p [] i = []
  | 0 => rfl
  | i + 1 => by simp only [ppOut, List.length_nil, ppIn]; exact ppOut_nil p i
open Classical in
noncomputable def ppL (n : Int) (l : List Int) : List (Int × Int) := if cplx n l then ppOut (faceS l) (setsOf (faceS l)) n.toNat else []
noncomputable def F_s_PointPairing : List V → Option V := F1 dC fun c => some (.own 2 (prs (ppL c.1 c.2)))
theorem fn_s_PointPairing : FnOk Try.prog 90 F_s_PointPairing := by
  have env := (((envNil_ok (P := Try.prog)).add fn_s_FacesOf).add fn_s_l2Has).add fn_s_l3Has
  refine fn_ok code_s_PointPairing mixed env ?_
  intro args r h hb
  obtain ⟨_, ⟨n, l⟩, rfl, h1, h4⟩ := F1_inv h
  cases dC_inv h1
  cases h4
  clear h
  refine ⟨by simp, fun w0 U0 L0 N0 => ?_⟩
  clear hb
  simp -implicitDefEqProofs [sc_s_PointPairing, F_s_FacesOf]
  by_cases hc : cplx n l
  rotate_left
  · have e : ppL n l = [] := by unfold ppL; rw [if_neg hc]
    have e2 := facesL_not hc
    rw [e, e2]
    refine loopI env mixed (fun _ : Unit => [(1, .pt 0 0), (3, .sl 1 2 0 0), (4, .sl 2 1 0 0), (5, .sl 3 1 0 0), (6, .int .i64 0)]) (fun _ => ([(3, []), (2, []), (1, []), (0, [.int .i64 n, .list 1 (ints l)])], 4)) (fun _ => True) (fun _ => 0) () trivial (SubI.slots (by simp) (by simp)) ?_
    intro _ _
    by_cases h0 : 0 < n
    · simp -implicitDefEqProofs [sc_s_PointPairing_L0, h0]
    · simp -implicitDefEqProofs [sc_s_PointPairing_L0, h0]
  have e : ppL n l = ppOut (faceS l) (setsOf (faceS l)) n.toNat := by unfold ppL; rw [if_pos hc]
  rw [e, facesL_of hc]
  have hS := cplx_isS hc
  obtain ⟨hn1, hn6, _⟩ := id hc
  obtain ⟨N, rfl⟩ : ∃ N : Nat, n = N := ⟨n.toNat, by omega⟩
  rw [Int.toNat_natCast]
  have hL := allS_setsOf (faceS l)
  have hLl := setsOf_len (faceS l)
  generalize setsOf (faceS l) = L at *
  have inner : ∀ (i : Nat) (Q : Post) (T0 : Tm), i < 6 → subE T0 [(1, .pt 0 0), (3, .sl 1 2 0 (ppOut (faceS l) L i).length), (4, .sl 2 1 0 L.length), (5, .sl 3 1 0 (usedA (ppOut (faceS l) L i)).length), (6, .int .i64 (i : Int)), (7, .int .i64 0)] →
      Q (.exit 2) [(1, .pt 0 0), (3, .sl 1 2 0 (ppOut (faceS l) L (i + 1)).length), (4, .sl 2 1 0 L.length), (5, .sl 3 1 0 (usedA (ppOut (faceS l) L (i + 1))).length), (6, .int .i64 (i : Int))] ([(3, ints (usedA (ppOut (faceS l) L (i + 1)))), (2, ints L), (1, prs (ppOut (faceS l) L (i + 1))), (0, [.int .i64 N, .list 1 (ints l)])], 4) →
      LoopI ⟨Try.prog, w0, U0, L0, N0, 0, 72⟩ [] sc_s_PointPairing_L2 Q T0 ([(3, ints (usedA (ppOut (faceS l) L i))), (2, ints L), (1, prs (ppOut (faceS l) L i)), (0, [.int .i64 N, .list 1 (ints l)])], 4) := by
    intro i Q T0 hi hsub q1
    have hok0 := ppOut_ok (p := faceS l) hL i (by omega)
    have hu : IntKind.u64.wrap (i : Int) = i := wrapU _ (by omega) (by omega)
    have hsh := shlP hi
    have hpS := isS_pow hi
    refine loopQ env mixed (fun k : Nat => [(1, .pt 0 0), (3, .sl 1 2 0 (ppIn (faceS l) L i (ppOut (faceS l) L i) k).length), (4, .sl 2 1 0 L.length), (5, .sl 3 1 0 (usedA (ppIn (faceS l) L i (ppOut (faceS l) L i) k)).length), (6, .int .i64 (i : Int)), (7, .int .i64 (k : Int))])
      (fun k => ([(3, ints (usedA (ppIn (faceS l) L i (ppOut (faceS l) L i) k))), (2, ints L), (1, prs (ppIn (faceS l) L i (ppOut (faceS l) L i) k)), (0, [.int .i64 N, .list 1 (ints l)])], 4)) (fun k => k ≤ L.length) (fun k => L.length - k) 0 (by simp) (SubI.slots (by simp [ppIn]) (by simpa [ppIn] using hsub)) ?_
    intro k hk
    have hok := ppIn_ok (p := faceS l) hL hi hok0 k hk
    have hl32 := ppOk_len hok
    have hul := usedA_len (ppIn (faceS l) L i (ppOut (faceS l) L i) k)
    by_cases hlt : k < L.length
    · have ha := allS_at hL hlt
      have hbS := isS_bor ha hpS
      have hnew := bor_new ha hi
      have skip : ¬ ppC (faceS l) i (ppIn (faceS l) L i (ppOut (faceS l) L i) k) (at0 L k) → ppIn (faceS l) L i (ppOut (faceS l) L i) (k + 1) = ppIn (faceS l) L i (ppOut (faceS l) L i) k := ppIn_neg
      have hit : ppC (faceS l) i (ppIn (faceS l) L i (ppOut (faceS l) L i) k) (at0 L k) → ppIn (faceS l) L i (ppOut (faceS l) L i) (k + 1) = ppIn (faceS l) L i (ppOut (faceS l) L i) k ++ [(at0 L k, bor (at0 L k) (2 ^ i))] := ppIn_pos
      unfold ppC at skip hit
      generalize ppIn (faceS l) L i (ppOut (faceS l) L i) k = g at *
      generalize (2 : Int) ^ i = s at *
      by_cases c1 : at0 L k = bor (at0 L k) s
      · have e := skip fun h => (hnew.2 h.1) c1
        have c1' : bor (at0 L k) s = at0 L k := c1.symm
        simp -implicitDefEqProofs [sc_s_PointPairing_L2, hlt, hu, hsh, c1']
        repeat' (first | omega | apply And.intro)
        exact Again.of (k + 1) (by omega) (by omega) (SubI.slots (by simp only [e]) (by simp only [subE_cons, subE_nil, e]; simp (disch := omega) [wrapI]))
      have c0 := hnew.1 c1
      generalize hbb : bor (at0 L k) s = b at *
      by_cases c2 : faceS l b
      rotate_left
      · have e := skip fun h => c2 h.2.1
        have d2 := dec_false c2
        simp -implicitDefEqProofs [sc_s_PointPairing_L2, F_s_l3Has, hlt, hu, hsh, hbb, c1, hS, hbS, d2]
        repeat' (first | omega | apply And.intro)
        exact Again.of (k + 1) (by omega) (by omega) (SubI.slots (by simp only [e]) (by simp only [subE_cons, subE_nil, e]; simp (disch := omega) [wrapI]))
      have d2 := dec_true c2
      by_cases c3 : at0 L k ∈ usedA g
      · have e := skip fun h => h.2.2.1 c3
        simp -implicitDefEqProofs [sc_s_PointPairing_L2, F_s_l3Has, F_s_l2Has, hlt, hu, hsh, hbb, c1, hS, hbS, d2, c3]
        repeat' (first | omega | apply And.intro)
        exact Again.of (k + 1) (by omega) (by omega) (SubI.slots (by simp only [e]) (by simp only [subE_cons, subE_nil, e]; simp (disch := omega) [wrapI]))
      by_cases c4 : b ∈ usedA g
      · have e := skip fun h => h.2.2.2 c4
        simp -implicitDefEqProofs [sc_s_PointPairing_L2, F_s_l3Has, F_s_l2Has, hlt, hu, hsh, hbb, c1, hS, hbS, d2, c3, c4]
        repeat' (first | omega | apply And.intro)
        exact Again.of (k + 1) (by omega) (by omega) (SubI.slots (by simp only [e]) (by simp only [subE_cons, subE_nil, e]; simp (disch := omega) [wrapI]))
      have e := hit ⟨c0, c2, c3, c4⟩
      have e3 : usedA (ppIn (faceS l) L i (ppOut (faceS l) L i) (k + 1)) = usedA g ++ [at0 L k, b] := by rw [e, usedA_snoc]
      have ep : prs (ppIn (faceS l) L i (ppOut (faceS l) L i) (k + 1)) = prs g ++ [.int .i64 (at0 L k), .int .i64 b] := by rw [e, ← prs_app]; rfl
      have el : (ppIn (faceS l) L i (ppOut (faceS l) L i) (k + 1)).length = g.length + 1 := by rw [e]; simp
      simp -implicitDefEqProofs [sc_s_PointPairing_L2, F_s_l3Has, F_s_l2Has, hlt, hu, hsh, hbb, c1, hS, hbS, d2, c3, c4]
      repeat' (first | omega | apply And.intro)
      refine Again.of (k + 1) (by omega) (by omega) (SubI.ren (fun m => if m = 0 then some 0 else if m = 1 then some 7 else if m = 2 then some 2 else if m = 3 then some 5 else none) ?_ ?_ ?_ (by simp) (by simp))
      · simp (disch := omega) [subT, renV, ren1, wrapI, e3, el]
      · simp [subH, e3, ep, renL, ren1]
        refine ⟨by rw [← ints_app]; rfl, ?_⟩
        have eg : prs g ++ [.int .i64 (at0 L k), .int .i64 b] = prs (g ++ [(at0 L k, b)]) := by rw [← prs_app]; rfl
        rw [eg]
        exact prs_ren _ _
      · intro m hm
        simp only at hm
        rw [if_neg (by omega), if_neg (by omega), if_neg (by omega), if_neg (by omega)]
    · have hkl : k = L.length := by omega
      subst hkl
      simp -implicitDefEqProofs [sc_s_PointPairing_L2]
      exact SubQ.of (SubI.slots rfl (by simp [ppOut])) q1
  by_cases hL0 : L = []
  · subst hL0
    rw [ppOut_nil]
    refine loopI env mixed (fun _ : Unit => [(1, .pt 0 0), (3, .sl 1 2 0 0), (4, .sl 2 1 0 0), (5, .sl 3 1 0 0), (6, .int .i64 0)]) (fun _ => ([(3, []), (2, []), (1, []), (0, [.int .i64 N, .list 1 (ints l)])], 4)) (fun _ => True) (fun _ => 0) () trivial (SubI.slots (by simp) (by simp)) ?_
    intro _ _
    have h0 : 0 < N := by omega
    simp -implicitDefEqProofs [sc_s_PointPairing_L0, h0]
  have hLpos := List.length_pos_iff.2 hL0
  refine loopI env mixed (fun i : Nat => [(1, .pt 0 0), (3, .sl 1 2 0 (ppOut (faceS l) L i).length), (4, .sl 2 1 0 L.length), (5, .sl 3 1 0 (usedA (ppOut (faceS l) L i)).length), (6, .int .i64 (i : Int))])
    (fun i => ([(3, ints (usedA (ppOut (faceS l) L i))), (2, ints L), (1, prs (ppOut (faceS l) L i)), (0, [.int .i64 N, .list 1 (ints l)])], 4)) (fun i => i ≤ N) (fun i => N - i) 0 (by simp) (SubI.slots (by simp [ppOut, usedA]) (by simp [ppOut, usedA])) ?_
  intro i hi
  by_cases hlt : i < N
  · simp -implicitDefEqProofs [sc_s_PointPairing_L0, hlt, hLpos]
    repeat' (first | omega | apply And.intro)
    refine inner i _ _ (by omega) (by simp) ?_
    simp -implicitDefEqProofs
    exact Again.of (i + 1) (by omega) (by omega) (SubI.slots (by simp) (by simp (disch := omega) [wrapI]))
  · have hiN : i = N := by omega
    subst hiN
    simp -implicitDefEqProofs [sc_s_PointPairing_L0]
end Go.Proofs.Ytmemomfffehnkaa
