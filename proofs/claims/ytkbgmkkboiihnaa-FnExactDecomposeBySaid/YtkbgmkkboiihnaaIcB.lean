import Derived.Test.YtkbgmkkboiihnaaIcA
import Derived.Test.YtkbgmkkboiihnaaIaA
namespace Go.Proofs.Ytkbgmkkboiihnaa
open Go Go.RowKit
set_option maxRecDepth 1000000
set_option linter.unusedSimpArgs false
set_option linter.unusedVariables false
set_option maxHeartbeats 1000000
def sc_s_l20Point : SC := (.seq (.reg [⟨(some 2), none, (.box (.t 0))⟩, ⟨(some 4), none, (.mov (.c (.bool false)))⟩]) (.seq (.reg [⟨(some 5), none, (.ld (some 2) .undef (.t 2))⟩, ⟨(some 6), none, (.mov (.t 1))⟩, ⟨(some 7), none, (.call 55 [(.t 5), (.t 6)])⟩, ⟨(some 8), none, (.mov (.t 7))⟩, ⟨(some 9), (some (8, true)), (.ld (some 2) .undef (.t 2))⟩, ⟨(some 10), (some (8, true)), (.mov (.t 1))⟩, ⟨(some 11), (some (8, true)), (.conv .u64 (.t 10))⟩, ⟨(some 12), (some (8, true)), (.bin false .shl (.c (.int .i64 1)) (.t 11))⟩, ⟨(some 13), (some (8, true)), (.call 56 [(.t 9), (.t 12)])⟩, ⟨(some 14), (some (8, true)), (.call 33 [(.t 13)])⟩, ⟨(some 15), none, (.pick (.t 8) (.t 14) (.c (.bool false)))⟩, ⟨(some 16), none, (.mov (.t 15))⟩, ⟨(some 17), (some (16, true)), (.ld (some 2) .undef (.t 2))⟩, ⟨(some 18), (some (16, true)), (.mov (.t 1))⟩, ⟨(some 19), (some (16, true)), (.conv .u64 (.t 18))⟩, ⟨(some 20), (some (16, true)), (.bin false .shl (.c (.int .i64 1)) (.t 19))⟩, ⟨(some 21), (some (16, true)), (.call 39 [(.t 17), (.t 20)])⟩, ⟨(some 22), (some (16, true)), (.call 33 [(.t 21)])⟩, ⟨(some 23), none, (.pick (.t 16) (.t 22) (.c (.bool false)))⟩, ⟨(some 4), none, (.mov (.t 23))⟩]) .ret))
theorem code_s_l20Point : fnCode Try.prog [] 38 = some (24, sc_s_l20Point, [(4, none)]) := by kernel_rfl
def sc_s_l20Fine_L0 : SC := (.seq (.seq (.reg [⟨(some 8), none, (.mov (.t 3))⟩, ⟨(some 9), none, (.fad 0 (.t 1))⟩, ⟨(some 10), none, (.ld none (.int .i64 0) (.t 9))⟩, ⟨(some 11), none, (.bin false .lss (.t 8) (.t 10))⟩]) (.cond (.t 11) .skip (.exit 0))) (.seq (.block 1 (.seq (.reg [⟨(some 14), none, (.ld (some 2) .undef (.t 1))⟩, ⟨(some 15), none, (.mov (.t 3))⟩, ⟨(some 16), none, (.call 38 [(.t 14), (.t 15)])⟩]) (.cond (.t 16) (.seq (.reg [⟨(some 2), none, (.mov (.c (.bool true)))⟩]) .ret) .skip))) (.reg [⟨(some 12), none, (.mov (.t 3))⟩, ⟨(some 13), none, (.bin false .add (.t 12) (.c (.int .i64 1)))⟩, ⟨(some 3), none, (.mov (.t 13))⟩])))
def sc_s_l20Fine : SC := (.seq (.reg [⟨(some 1), none, (.box (.t 0))⟩, ⟨(some 2), none, (.mov (.c (.bool false)))⟩]) (.seq (.seq (.reg [⟨(some 4), none, (.fad 1 (.t 1))⟩, ⟨(some 5), none, (.ld none .nil (.t 4))⟩, ⟨(some 6), none, (.len (.t 5))⟩, ⟨(some 7), none, (.bin false .leq (.t 6) (.c (.int .i64 1)))⟩]) (.cond (.t 7) (.seq (.reg [⟨(some 2), none, (.mov (.c (.bool true)))⟩]) .ret) .skip)) (.seq (.seq (.reg [⟨(some 3), none, (.mov (.c (.int .i64 0)))⟩]) (.block 0 (.loop sc_s_l20Fine_L0))) (.seq (.reg [⟨(some 2), none, (.mov (.c (.bool false)))⟩]) .ret))))
theorem code_s_l20Fine : fnCode Try.prog [] 33 = some (17, sc_s_l20Fine, [(2, none)]) := by kernel_rfl
noncomputable def F_fine (k : Nat) : List V → Option V := F1 dC fun c => @ite _ (cplx c.1 c.2 ∧ pts (faceS c.2) < k) (Classical.propDecidable _) (some (.bool (dec (finI (faceS c.2))))) none
def pntQ (n : Int) (l : List Int) (x : Int) : Prop := shdP n l x ∧ splQ (faceS l) x.toNat
noncomputable def F_pnt (k : Nat) : List V → Option V := F2 dC dI fun c x => @ite _ (cplx c.1 c.2 ∧ pts (faceS c.2) < k + 1 ∧ inR x) (Classical.propDecidable _) (some (.bool (dec (pntQ c.1 c.2 x)))) none
theorem fn_s_l20Point {k : Nat} (hF : FnOk Try.prog 33 (F_fine k)) : FnOk Try.prog 38 (F_pnt k) := by
  have env := ((((envNil_ok (P := Try.prog)).add fn_s_IsShedding).add fn_s_l5Link).add fn_s_l5Without).add hF
  refine fn_ok code_s_l20Point mixed env ?_
  intro args r h hb
  obtain ⟨_, _, ⟨n, l⟩, x, rfl, h1, h2, h4⟩ := F2_inv h
  cases dC_inv h1
  cases dI_inv h2
  clear h
  simp only [Option.ite_none_right_eq_some, Option.some.injEq] at h4
  obtain ⟨⟨hc, hk, hx⟩, rfl⟩ := h4
  refine ⟨by simp, fun w0 U0 L0 N0 => ?_⟩
  clear hb
  by_cases hs : shdP n l x
  rotate_left
  · have hd := dec_false hs
    have hv : dec (pntQ n l x) = false := dec_false fun h => hs h.1
    simp -implicitDefEqProofs [sc_s_l20Point, F_s_IsShedding, hx, hd, hv]
  have hd := dec_true hs
  obtain ⟨_, x0, x1, hq⟩ := id hs
  have hn6 := hc.2.1
  obtain ⟨m, rfl⟩ : ∃ m : Nat, x = m := ⟨x.toNat, by omega⟩
  have hm : m < 6 := by omega
  rw [Int.toNat_natCast] at hq
  have hu : IntKind.u64.wrap (m : Int) = m := wrapU _ (by omega) (by omega)
  have hsh := shl6 hm
  have hpS := isS_pow hm
  have hS := cplx_isS hc
  have hl64 := cplx_len hc
  have c1 := cplx_lnF hc hpS
  have c2 := cplx_wtF hc hpS
  have p1 : pts (faceS (lnF l (2 ^ m))) < k := by
    rw [pts_congr (lnF_face hc hpS)]
    have := pts_lnk (dcl_face hS) hm hq.1
    omega
  have p2 : pts (faceS (wtF l (2 ^ m))) < k := by
    rw [pts_congr (wtF_face hc hpS)]
    have := pts_wto (p := faceS l) hm hq.1
    omega
  have v1 : dec (pntQ n l m) = (dec (finI (faceS (lnF l (2 ^ m)))) && dec (finI (faceS (wtF l (2 ^ m))))) := by
    rw [Bool.eq_iff_iff, dec_iff, Bool.and_eq_true, dec_iff, dec_iff, finI_congr (lnF_face hc hpS), finI_congr (wtF_face hc hpS)]
    unfold pntQ splQ
    rw [Int.toNat_natCast]
    exact ⟨fun h => h.2.2, fun h => ⟨hs, hq, h⟩⟩
  rw [v1]
  have e1 : setsOf (maxP (lnkP (faceS l) (2 ^ m))) = lnF l (2 ^ m) := rfl
  have e2 : setsOf (maxP (wtoP (faceS l) (2 ^ m))) = wtF l (2 ^ m) := rfl
  clear v1 hq
  generalize lnF l (2 ^ m) = A at *
  generalize wtF l (2 ^ m) = B at *
  generalize (2 : Int) ^ m = s at *
  cases hA : dec (finI (faceS A)) with
  | false => simp -implicitDefEqProofs [sc_s_l20Point, F_s_IsShedding, F_s_l5Link, F_s_l5Without, F_fine, hx, hd, hu, hsh, hS, hl64, hpS, hc, e1, e2, c1, c2, p1, p2, hA]
  | true => simp -implicitDefEqProofs [sc_s_l20Point, F_s_IsShedding, F_s_l5Link, F_s_l5Without, F_fine, hx, hd, hu, hsh, hS, hl64, hpS, hc, e1, e2, c1, c2, p1, p2, hA]
theorem fn_s_l20Fine_step {k : Nat} (hF : FnOk Try.prog 38 (F_pnt k)) : FnOk Try.prog 33 (F_fine (k + 1)) := by
  have env := (envNil_ok (P := Try.prog)).add hF
  refine fn_ok code_s_l20Fine mixed env ?_
  intro args r h hb
  obtain ⟨_, ⟨n, l⟩, rfl, h1, h4⟩ := F1_inv h
  cases dC_inv h1
  clear h
  simp only [Option.ite_none_right_eq_some, Option.some.injEq] at h4
  obtain ⟨⟨hc, hk⟩, rfl⟩ := h4
  refine ⟨by simp, fun w0 U0 L0 N0 => ?_⟩
  clear hb
  generalize hv : dec (finI (faceS l)) = v
  obtain ⟨hn1, hn6, _⟩ := id hc
  by_cases hl : l.length ≤ 1
  · have hv1 : v = true := hv ▸ dec_true (finI_iff.2 (.inl (by rw [fin_len hc]; exact hl)))
    have hl' : ((l.length : Int) ≤ 1) := by omega
    simp -implicitDefEqProofs [sc_s_l20Fine, hl', hv1]
    try omega
  have hl' : ¬ ((l.length : Int) ≤ 1) := by omega
  simp -implicitDefEqProofs [sc_s_l20Fine, hl']
  refine loopI env mixed (fun k : Nat => [(1, .pt 0 0), (3, .int .i64 (k : Int))]) (fun _ => ([(0, [.int .i64 n, .list 1 (ints l)])], 1)) (fun j => j ≤ 6 ∧ ∀ i : Nat, i < j → ¬ pntQ n l i) (fun j => 6 - j) 0 (by simp) (SubI.slots rfl (by simp)) ?_
  rintro j ⟨hj, hno⟩
  by_cases hlt : (j : Int) < n
  · have hj6 : j < 6 := by omega
    have hr : inR (j : Int) := ⟨by omega, by omega⟩
    by_cases hs : pntQ n l j
    · have hd := dec_true hs
      have hv1 : v = true := hv ▸ dec_true (finI_iff.2 (.inr ⟨j, hj6, by have := hs.2; rwa [Int.toNat_natCast] at this⟩))
      simp -implicitDefEqProofs [sc_s_l20Fine_L0, F_pnt, hlt, hr, hd, hc, hk, hv1]
    · have hd := dec_false hs
      simp -implicitDefEqProofs [sc_s_l20Fine_L0, F_pnt, hlt, hr, hd, hc, hk]
      repeat' (first | omega | apply And.intro)
      refine Again.of (j + 1) ⟨by omega, fun i hi => ?_⟩ (by omega) (SubI.slots rfl (by simp (disch := omega) [wrapI]))
      rcases Nat.lt_succ_iff_lt_or_eq.1 hi with h1 | rfl
      · exact hno i h1
      · exact hs
  · have hv1 : v = false := hv ▸ dec_false fun h => by
      rcases finI_iff.1 h with h | ⟨i, hi, h⟩
      · rw [fin_len hc] at h; omega
      · have hin : (i : Int) < n := face_pow hc hi h.1.1
        refine hno i (by omega) ⟨⟨hc, by omega, hin, ?_⟩, ?_⟩
        · rw [Int.toNat_natCast]; exact h.1
        · rw [Int.toNat_natCast]; exact h
    simp -implicitDefEqProofs [sc_s_l20Fine_L0, hlt, hv1]
theorem fn_s_l20Fine : ∀ k, FnOk Try.prog 33 (F_fine k) := by
  intro k
  induction k with
  | zero =>
    refine ⟨callable_of code_s_l20Fine, fun args r h => ?_⟩
    obtain ⟨_, ⟨n, l⟩, rfl, h1, h4⟩ := F1_inv h
    simp only [Option.ite_none_right_eq_some] at h4
    omega
  | succ k ih => exact fn_s_l20Fine_step (fn_s_l20Point ih)
end Go.Proofs.Ytkbgmkkboiihnaa
