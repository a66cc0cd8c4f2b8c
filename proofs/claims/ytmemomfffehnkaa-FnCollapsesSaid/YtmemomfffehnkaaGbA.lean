import Derived.Test.YtmemomfffehnkaaGaI
import Derived.Test.YtmemomfffehnkaaGbB
import Derived.Test.YtmemomfffehnkaaM8A
namespace Go.Proofs.Ytmemomfffehnkaa
open Go Go.RowKit
set_option maxRecDepth 1000000
set_option linter.unusedSimpArgs false
set_option linter.unusedVariables false
set_option maxHeartbeats 1000000
/-- The last free face of a complex. -/
noncomputable def lastF (n : Int) (l : List Int) : Int := at0 (freeL n l) ((freeL n l).length - 1)
def stuckP (n : Int) (l : List Int) : Prop := freeL n l = [] ∨ lastF n l = 0
open Classical in
/-- At most k steps, the last free face first. -/
noncomputable def caS (n : Int) : Nat → List Int → List Int → List Int × List Int
  | 0, l, st => (l, st)
  | k + 1, l, st => if stuckP n l then (l, st) else caS n k (delL l (lastF n l)) (st ++ [lastF n l])
theorem caS_stuck {n : Int} {l : List Int} (h : stuckP n l) (st : List Int) : ∀ k, caS n k l st = (l, st)
  | 0 => rfl
  | k + 1 => by unfold caS; rw [if_pos h]
theorem caS_step {n : Int} {l : List Int} (h : ¬ stuckP n l) (st : List Int) (k : Nat) : caS n (k + 1) l st = caS n k (delL l (lastF n l)) (st ++ [lastF n l]) := by
  rw [caS, if_neg h]
structure caI (n : Int) (R : List Int × List Int) (x : Nat × List Int × List Int) : Prop where
  hc : cplx n x.2.1
  hm : (setsOf (faceS x.2.1)).length ≤ x.1
  hl : x.2.2.length + x.1 ≤ 64
  hr : caS n x.1 x.2.1 x.2.2 = R
theorem lastF_spec {n : Int} {l : List Int} (hc : cplx n l) (h : ¬ stuckP n l) : isS (lastF n l) ∧ faceS l (lastF n l) ∧ ∃ t, freeOf (faceS l) (lastF n l) t := by
  have hp : freeL n l ≠ [] := fun e => h (.inl e)
  have := List.length_pos_iff.2 hp
  have hm := mem_setsOf.1 (getD_mem' (l := freeL n l) (j := (freeL n l).length - 1) (by omega))
  exact ⟨hm.1, hm.2.2⟩
theorem caI.step {n : Int} {R : List Int × List Int} {k : Nat} {l st : List Int} (h : caI n R (k, l, st)) (hs : ¬ stuckP n l) : ∃ j, k = j + 1 ∧ caI n R (j, delL l (lastF n l), st ++ [lastF n l]) := by
  have h0 : cplx n l := h.hc
  obtain ⟨h1, h2, _⟩ := lastF_spec h0 hs
  have hm := h.hm
  have hd := delL_less h0 h1 h2
  have hl := h.hl
  simp only at hm hl
  obtain ⟨j, rfl⟩ : ∃ j, k = j + 1 := ⟨k - 1, by omega⟩
  refine ⟨j, rfl, cplx_wto h0 h1, by simp only; omega, by simp only [List.length_append, List.length_singleton]; omega, ?_⟩
  have := h.hr
  simp only at this
  rw [caS_step hs] at this
  exact this
theorem caN_ex (n : Int) (l : List Int) : ∃ m : Int, (cplx n l → m = n) ∧ (¬ cplx n l → m = 0) := by
  by_cases h : cplx n l
  · exact ⟨n, fun _ => rfl, fun h2 => absurd h h2⟩
  · exact ⟨0, fun h2 => absurd h2 h, fun _ => rfl⟩
noncomputable def caN (n : Int) (l : List Int) : Int := Classical.choose (caN_ex n l)
theorem caN_yes {n : Int} {l : List Int} (h : cplx n l) : caN n l = n := (Classical.choose_spec (caN_ex n l)).1 h
theorem caN_no {n : Int} {l : List Int} (h : ¬ cplx n l) : caN n l = 0 := (Classical.choose_spec (caN_ex n l)).2 h
open Classical in
noncomputable def caL (n : Int) (l : List Int) : List Int := if cplx n l then (caS n 64 l []).1 else []
open Classical in
noncomputable def caT (n : Int) (l : List Int) : List Int := if cplx n l then (caS n 64 l []).2 else []
theorem caL_yes {n : Int} {l : List Int} (h : cplx n l) : caL n l = (caS n 64 l []).1 := if_pos h
theorem caL_no {n : Int} {l : List Int} (h : ¬ cplx n l) : caL n l = [] := if_neg h
theorem caT_yes {n : Int} {l : List Int} (h : cplx n l) : caT n l = (caS n 64 l []).2 := if_pos h
theorem caT_no {n : Int} {l : List Int} (h : ¬ cplx n l) : caT n l = [] := if_neg h
theorem caI_start {n : Int} {l : List Int} (h : cplx n l) : caI n (caS n 64 l []) (64, l, []) := ⟨h, setsOf_len _, by simp, rfl⟩
def sc_s_CollapseAll_L0 : SC := (.block 1 (.seq (.reg [⟨(some 17), none, (.ld (some 2) .undef (.t 5))⟩, ⟨(some 18), none, (.call 77 [(.t 17)])⟩, ⟨(some 7), none, (.mov (.t 18))⟩]) (.seq (.seq (.reg [⟨(some 19), none, (.mov (.t 7))⟩, ⟨(some 20), none, (.len (.t 19))⟩, ⟨(some 21), none, (.bin false .eql (.t 20) (.c (.int .i64 0)))⟩, ⟨(some 22), none, (.mov (.t 21))⟩, ⟨(some 23), (some (22, false)), (.mov (.t 7))⟩, ⟨(some 24), (some (22, false)), (.mov (.t 7))⟩, ⟨(some 25), (some (22, false)), (.len (.t 24))⟩, ⟨(some 26), (some (22, false)), (.bin false .sub (.t 25) (.c (.int .i64 1)))⟩, ⟨(some 27), (some (22, false)), (.idx 1 (.t 23) (.t 26))⟩, ⟨(some 28), (some (22, false)), (.ld none (.int .i64 0) (.t 27))⟩, ⟨(some 29), (some (22, false)), (.bin false .eql (.t 28) (.c (.int .i64 0)))⟩, ⟨(some 30), none, (.pick (.t 22) (.c (.bool true)) (.t 29))⟩]) (.cond (.t 30) (.seq (.reg [⟨(some 31), none, (.ld (some 2) .undef (.t 5))⟩, ⟨(some 32), none, (.mov (.t 6))⟩, ⟨none, none, (.st 2 (.t 2) (.t 31))⟩, ⟨(some 3), none, (.mov (.t 32))⟩, ⟨(some 4), none, (.mov (.c (.bool true)))⟩]) .ret) .skip)) (.seq (.reg [⟨(some 33), none, (.mov (.t 7))⟩, ⟨(some 34), none, (.mov (.t 7))⟩, ⟨(some 35), none, (.len (.t 34))⟩, ⟨(some 36), none, (.bin false .sub (.t 35) (.c (.int .i64 1)))⟩, ⟨(some 37), none, (.idx 1 (.t 33) (.t 36))⟩, ⟨(some 38), none, (.ld none (.int .i64 0) (.t 37))⟩, ⟨(some 8), none, (.mov (.t 38))⟩]) (.seq (.reg [⟨(some 39), none, (.mov (.t 6))⟩, ⟨(some 40), none, (.mov (.t 8))⟩, ⟨(some 41), none, (.mks 1 1 [(.int .i64 0)] [(0, (1, (.t 40)))])⟩, ⟨(some 42), none, (.app 1 8 (.t 39) (.t 41))⟩, ⟨(some 6), none, (.mov (.t 42))⟩]) (.reg [⟨(some 43), none, (.ld (some 2) .undef (.t 5))⟩, ⟨(some 44), none, (.mov (.t 8))⟩, ⟨(some 45), none, (.call 176 [(.t 43), (.t 44)])⟩, ⟨none, none, (.st 2 (.t 5) (.t 45))⟩]))))))
def sc_s_CollapseAll : SC := (.seq (.reg [⟨(some 1), none, (.box (.t 0))⟩, ⟨(some 2), none, (.new [(.int .i64 0), .nil])⟩, ⟨(some 3), none, (.mov (.c .nil))⟩, ⟨(some 4), none, (.mov (.c (.bool false)))⟩]) (.seq (.seq (.reg [⟨(some 9), none, (.ld (some 2) .undef (.t 1))⟩, ⟨(some 10), none, (.call 24 [(.t 9)])⟩, ⟨(some 11), none, (.un .not (.t 10))⟩]) (.cond (.t 11) (.seq (.reg [⟨(some 12), none, (.agg [(.int .i64 0), .nil] [])⟩, ⟨(some 13), none, (.mks 0 1 [] [])⟩, ⟨none, none, (.st 2 (.t 2) (.t 12))⟩, ⟨(some 3), none, (.mov (.t 13))⟩, ⟨(some 4), none, (.mov (.c (.bool false)))⟩]) .ret) .skip)) (.seq (.reg [⟨(some 14), none, (.ld (some 2) .undef (.t 1))⟩, ⟨(some 15), none, (.call 178 [(.t 14)])⟩, ⟨(some 5), none, (.new [(.int .i64 0), .nil])⟩, ⟨none, none, (.st 2 (.t 5) (.t 15))⟩]) (.seq (.reg [⟨(some 16), none, (.mks 0 1 [] [])⟩, ⟨(some 6), none, (.mov (.t 16))⟩]) (.block 0 (.loop sc_s_CollapseAll_L0))))))
theorem code_s_CollapseAll : fnCode Try.prog [] 68 = some (46, sc_s_CollapseAll, [(2, (some 2)), (3, none), (4, none)]) := by kernel_rfl
noncomputable def F_s_CollapseAll : List V → Option V := F1 dC fun c => some (.tup [.agg [.int .i64 (caN c.1 c.2), .own 1 (ints (caL c.1 c.2))], .own 1 (ints (caT c.1 c.2)), .bool (dec (cplx c.1 c.2))])
theorem fn_s_CollapseAll : FnOk Try.prog 68 F_s_CollapseAll := by
  have env := ((((envNil_ok (P := Try.prog)).add fn_s_IsComplex).add fn_s_l3Copy).add fn_s_FreeFaces).add fn_s_l5Without
  refine fn_ok code_s_CollapseAll mixed env ?_
  intro args r h hb
  obtain ⟨_, ⟨n, l⟩, rfl, h1, h4⟩ := F1_inv h
  cases dC_inv h1
  cases h4
  refine ⟨by simp, fun w0 U0 L0 N0 => ?_⟩
  clear h hb
  cases e0 : cplxB n l with
  | false =>
    have hc : ¬ cplx n l := fun h => by simp [cplxB_iff.2 h] at e0
    rw [caN_no hc, caL_no hc, caT_no hc, dec_false hc]
    simp -implicitDefEqProofs [sc_s_CollapseAll, F_s_IsComplex, e0]
  | true =>
  have hc := cplxB_iff.1 e0
  have hst := caI_start hc
  have hl64 := cplx_len hc
  have hl20 : l.length ≤ 1048576 := by omega
  rw [caN_yes hc, caL_yes hc, caT_yes hc, dec_true hc]
  generalize caS n 64 l [] = R at *
  simp -implicitDefEqProofs [sc_s_CollapseAll, F_s_IsComplex, F_s_l3Copy, e0, hl20]
  refine loopI env mixed (fun x : Nat × List Int × List Int => [(1, .pt 0 0), (2, .pt 1 0), (5, .pt 3 0), (6, .sl 4 1 0 x.2.2.length)]) (fun x => ([(4, ints x.2.2), (3, [.int .i64 n, .sl 2 1 0 x.2.1.length]), (2, ints x.2.1), (1, [.int .i64 0, .nil]), (0, [.int .i64 n, .list 1 (ints l)])], 5)) (caI n R) (fun x => x.1) (64, l, []) hst (SubI.slots (by simp) (by simp)) ?_
  rintro ⟨k, L, st⟩ hI
  obtain ⟨hcL, hm, hl, hr⟩ := id hI
  simp only at hcL hm hl hr
  have hFF : F_s_FreeFaces [.agg [.int .i64 n, .list 1 (ints L)]] = some (.own 1 (ints (freeL n L))) := by simp [F_s_FreeFaces]
  have hFl : (freeL n L).length ≤ 64 := setsOf_len _
  by_cases hs : stuckP n L
  · have e : R = (L, st) := by rw [← hr, caS_stuck hs]
    subst e
    have hs2 := hs
    unfold stuckP lastF at hs2
    clear hI hr hs hst
    generalize freeL n L = F at *
    by_cases hne : F = []
    · subst hne
      simp -implicitDefEqProofs [sc_s_CollapseAll_L0, hFF]
    · have h0 := hs2.resolve_left hne
      have hpos := List.length_pos_iff.2 hne
      have hw : IntKind.i64.wrap ((F.length : Int) - 1) = ((F.length - 1 : Nat) : Int) := by rw [wrapI _ (by omega) (by omega)]; omega
      have hlast : F.length - 1 < F.length := by omega
      simp -implicitDefEqProofs [sc_s_CollapseAll_L0, hFF, hne, hw, h0]
      try omega
  · obtain ⟨j, rfl, hI2⟩ := hI.step hs
    obtain ⟨q1, q2, _⟩ := lastF_spec hcL hs
    have hFW : F_s_l5Without [.agg [.int .i64 n, .list 1 (ints L)], .int .i64 (lastF n L)] = some (.agg [.int .i64 n, .own 1 (ints (delL L (lastF n L)))]) := by
      simp only [F_s_l5Without, F2_mk, dC_agg, dI_int, Option.bind_some]
      rw [if_pos ⟨hcL, q1⟩]
      rfl
    have hne : freeL n L ≠ [] := fun e => hs (.inl e)
    have hnz : lastF n L ≠ 0 := fun e => hs (.inr e)
    have hpos := List.length_pos_iff.2 hne
    have hw : IntKind.i64.wrap (((freeL n L).length : Int) - 1) = (((freeL n L).length - 1 : Nat) : Int) := by rw [wrapI _ (by omega) (by omega)]; omega
    have hlast : (freeL n L).length - 1 < (freeL n L).length := by omega
    have hdef : at0 (freeL n L) ((freeL n L).length - 1) = lastF n L := rfl
    clear hI hr hs hst
    generalize lastF n L = z at *
    generalize freeL n L = F at *
    generalize delL L z = L2 at *
    simp -implicitDefEqProofs [sc_s_CollapseAll_L0, hFF, hne, hw, hdef, hnz, hFW]
    repeat' (first | omega | apply And.intro)
    refine Again.of (j, L2, st ++ [z]) hI2 (by simp only; omega) (SubI.ren (fun m => if m = 0 then some 0 else if m = 1 then some 1 else if m = 2 then some 8 else if m = 3 then some 3 else if m = 4 then some 7 else none) ?_ ?_ ?_ (by simp) (by simp))
    · simp (disch := omega) [subT, renV, ren1, wrapI]
    · simp [subH, renL, ren1]
      rw [← ints_app]
      rfl
    · intro m hm
      simp only at hm
      rw [if_neg (by omega), if_neg (by omega), if_neg (by omega), if_neg (by omega), if_neg (by omega)]
def sc_i_CollapseAll_L0 : SC := (.block 1 (.seq (.reg [⟨(some 17), none, (.mov (.t 5))⟩, ⟨(some 18), none, (.call 177 [(.t 17)])⟩, ⟨(some 7), none, (.mov (.t 18))⟩]) (.seq (.seq (.reg [⟨(some 19), none, (.mov (.t 7))⟩, ⟨(some 20), none, (.len (.t 19))⟩, ⟨(some 21), none, (.bin false .eql (.t 20) (.c (.int .i64 0)))⟩, ⟨(some 22), none, (.mov (.t 21))⟩, ⟨(some 23), (some (22, false)), (.mov (.t 7))⟩, ⟨(some 24), (some (22, false)), (.mov (.t 7))⟩, ⟨(some 25), (some (22, false)), (.len (.t 24))⟩, ⟨(some 26), (some (22, false)), (.bin false .sub (.t 25) (.c (.int .i64 1)))⟩, ⟨(some 27), (some (22, false)), (.idx 1 (.t 23) (.t 26))⟩, ⟨(some 28), (some (22, false)), (.ld none (.int .i64 0) (.t 27))⟩, ⟨(some 29), (some (22, false)), (.bin false .eql (.t 28) (.c (.int .i64 0)))⟩, ⟨(some 30), none, (.pick (.t 22) (.c (.bool true)) (.t 29))⟩]) (.cond (.t 30) (.seq (.reg [⟨(some 31), none, (.fad 0 (.t 1))⟩, ⟨(some 32), none, (.ld none (.int .i64 0) (.t 31))⟩, ⟨(some 33), none, (.mov (.t 5))⟩, ⟨(some 34), none, (.call 175 [(.t 32), (.t 33)])⟩, ⟨(some 35), none, (.mov (.t 6))⟩, ⟨none, none, (.st 2 (.t 2) (.t 34))⟩, ⟨(some 3), none, (.mov (.t 35))⟩, ⟨(some 4), none, (.mov (.c (.bool true)))⟩]) .ret) .skip)) (.seq (.reg [⟨(some 36), none, (.mov (.t 7))⟩, ⟨(some 37), none, (.mov (.t 7))⟩, ⟨(some 38), none, (.len (.t 37))⟩, ⟨(some 39), none, (.bin false .sub (.t 38) (.c (.int .i64 1)))⟩, ⟨(some 40), none, (.idx 1 (.t 36) (.t 39))⟩, ⟨(some 41), none, (.ld none (.int .i64 0) (.t 40))⟩, ⟨(some 8), none, (.mov (.t 41))⟩]) (.seq (.reg [⟨(some 43), none, (.mov (.t 5))⟩, ⟨(some 44), none, (.mov (.t 8))⟩, ⟨(some 45), none, (.call 174 [(.t 43), (.t 44)])⟩, ⟨(some 42), none, (.mov (.t 45))⟩, ⟨(some 46), none, (.ext 0 (.t 42))⟩, ⟨(some 47), none, (.ext 1 (.t 42))⟩, ⟨(some 9), none, (.mov (.t 46))⟩, ⟨(some 10), none, (.mov (.t 47))⟩]) (.seq (.reg [⟨(some 48), none, (.mov (.t 5))⟩, ⟨(some 49), none, (.mov (.t 8))⟩, ⟨(some 50), none, (.conv .u64 (.t 49))⟩, ⟨(some 51), none, (.bin false .shl (.c (.int .u64 1)) (.t 50))⟩, ⟨(some 52), none, (.mov (.t 9))⟩, ⟨(some 53), none, (.conv .u64 (.t 52))⟩, ⟨(some 54), none, (.bin false .shl (.c (.int .u64 1)) (.t 53))⟩, ⟨(some 55), none, (.bin false .or (.t 51) (.t 54))⟩, ⟨(some 56), none, (.bin false .andNot (.t 48) (.t 55))⟩, ⟨(some 5), none, (.mov (.t 56))⟩]) (.reg [⟨(some 57), none, (.mov (.t 6))⟩, ⟨(some 58), none, (.mov (.t 8))⟩, ⟨(some 59), none, (.mks 1 1 [(.int .i64 0)] [(0, (1, (.t 58)))])⟩, ⟨(some 60), none, (.app 1 8 (.t 57) (.t 59))⟩, ⟨(some 6), none, (.mov (.t 60))⟩])))))))
def sc_i_CollapseAll : SC := (.seq (.reg [⟨(some 1), none, (.box (.t 0))⟩, ⟨(some 2), none, (.new [(.int .i64 0), .nil])⟩, ⟨(some 3), none, (.mov (.c .nil))⟩, ⟨(some 4), none, (.mov (.c (.bool false)))⟩]) (.seq (.seq (.reg [⟨(some 11), none, (.ld (some 2) .undef (.t 1))⟩, ⟨(some 12), none, (.call 130 [(.t 11)])⟩, ⟨(some 13), none, (.un .not (.t 12))⟩]) (.cond (.t 13) (.seq (.reg [⟨(some 14), none, (.agg [(.int .i64 0), .nil] [])⟩, ⟨none, none, (.st 2 (.t 2) (.t 14))⟩, ⟨(some 3), none, (.mov (.c .nil))⟩, ⟨(some 4), none, (.mov (.c (.bool false)))⟩]) .ret) .skip)) (.seq (.reg [⟨(some 15), none, (.ld (some 2) .undef (.t 1))⟩, ⟨(some 16), none, (.call 151 [(.t 15)])⟩, ⟨(some 5), none, (.mov (.t 16))⟩]) (.seq (.reg [⟨(some 6), none, (.mov (.c .nil))⟩]) (.block 0 (.loop sc_i_CollapseAll_L0))))))
theorem code_i_CollapseAll : fnCode Try.prog [] 67 = some (61, sc_i_CollapseAll, [(2, (some 2)), (3, none), (4, none)]) := by kernel_rfl
theorem delL_fam {n : Int} {l : List Int} (hc : cplx n l) {s t : Int} (hs : isS s) (ht : freeOf (faceS l) s t) (hf : faceS l s) : (fam fun u => faceS l u ∧ ¬ (u = s ∨ u = t)) = fam (faceS (delL l s)) := fam_congr fun u hu => by
  rw [delL_face hc hs hu]
  exact col_fam hf ht u hu
theorem fn_i_CollapseAll : FnOk Try.prog 67 F_s_CollapseAll := by
  have env := (((((envNil_ok (P := Try.prog)).add fn_i_IsComplex).add fn_i_facesIn).add fn_i_freeIn).add fn_i_freePartner).add fn_i_complexOf
  refine fn_ok code_i_CollapseAll mixed env ?_
  intro args r h hb
  obtain ⟨_, ⟨n, l⟩, rfl, h1, h4⟩ := F1_inv h
  cases dC_inv h1
  cases h4
  refine ⟨by simp, fun w0 U0 L0 N0 => ?_⟩
  clear h hb
  cases e0 : cplxB n l with
  | false =>
    have hc : ¬ cplx n l := fun h => by simp [cplxB_iff.2 h] at e0
    rw [caN_no hc, caL_no hc, caT_no hc, dec_false hc]
    simp -implicitDefEqProofs [sc_i_CollapseAll, F_s_IsComplex, e0]
  | true =>
  have hc := cplxB_iff.1 e0
  have hS := cplx_isS hc
  have hst := caI_start hc
  rw [caN_yes hc, caL_yes hc, caT_yes hc, dec_true hc]
  generalize caS n 64 l [] = R at *
  simp -implicitDefEqProofs [sc_i_CollapseAll, F_s_IsComplex, F_i_facesIn, e0, hS]
  refine loopI env mixed (fun x : Nat × List Int × List Int => [(1, .pt 0 0), (2, .pt 1 0), (5, .int .u64 (fam (faceS x.2.1))), (6, .sl 2 1 0 x.2.2.length)]) (fun x => ([(2, ints x.2.2), (1, [.int .i64 0, .nil]), (0, [.int .i64 n, .list 1 (ints l)])], 3)) (caI n R) (fun x => x.1) (64, l, []) hst (SubI.nilN 6 1 (by simp) (SubI.slots (by simp) (by simp))) ?_
  rintro ⟨k, L, st⟩ hI
  obtain ⟨hcL, hm, hl, hr⟩ := id hI
  simp only at hcL hm hl hr
  have hfr := freeG_fam (faceS L)
  have hfe := freeL_of hcL
  rw [← hfe] at hfr
  have hFl : (freeL n L).length ≤ 64 := setsOf_len _
  have hcf := cofG_fam n (faceS L)
  rw [cplx_max hcL] at hcf
  by_cases hs : stuckP n L
  · have e : R = (L, st) := by rw [← hr, caS_stuck hs]
    subst e
    have hs2 := hs
    unfold stuckP lastF at hs2
    clear hI hr hs hst hfe
    generalize freeL n L = F at *
    by_cases hne : F = []
    · subst hne
      simp -implicitDefEqProofs [sc_i_CollapseAll_L0, F_i_freeIn, F_i_complexOf, hfr, hcf]
    · have h0 := hs2.resolve_left hne
      have hpos := List.length_pos_iff.2 hne
      have hw : IntKind.i64.wrap ((F.length : Int) - 1) = ((F.length - 1 : Nat) : Int) := by rw [wrapI _ (by omega) (by omega)]; omega
      have hlast : F.length - 1 < F.length := by omega
      simp -implicitDefEqProofs [sc_i_CollapseAll_L0, F_i_freeIn, F_i_complexOf, hfr, hcf, hne, hw, h0]
      try omega
  · obtain ⟨j, rfl, hI2⟩ := hI.step hs
    obtain ⟨q1, q2, t, ht⟩ := lastF_spec hcL hs
    have hg := partG_fam (faceS L) q1
    rw [dec_true ⟨t, ht⟩, partnerV_of ht] at hg
    have hdf := delL_fam hcL q1 ht q2
    simp only [not_or] at hdf
    have hts := ht.1
    have hne : freeL n L ≠ [] := fun e => hs (.inl e)
    have hnz : lastF n L ≠ 0 := fun e => hs (.inr e)
    have hpos := List.length_pos_iff.2 hne
    have hw : IntKind.i64.wrap (((freeL n L).length : Int) - 1) = (((freeL n L).length - 1 : Nat) : Int) := by rw [wrapI _ (by omega) (by omega)]; omega
    have hlast : (freeL n L).length - 1 < (freeL n L).length := by omega
    have hdef : at0 (freeL n L) ((freeL n L).length - 1) = lastF n L := rfl
    clear hI hr hs hst hfe hcf ht
    generalize lastF n L = z at *
    generalize freeL n L = F at *
    generalize delL L z = L2 at *
    have u1 := wrapS q1
    have u2 := wrapS hts
    have o1 := fam_one q1
    have o2 := fam_one hts
    have p1 := q1.1
    have p2 := hts.1
    simp -implicitDefEqProofs [sc_i_CollapseAll_L0, F_i_freeIn, F_i_freePartner, hfr, hne, hw, hdef, hnz, hg, u1, u2, o1, o2, p1, p2, hdf]
    repeat' (first | omega | apply And.intro)
    refine Again.of (j, L2, st ++ [z]) hI2 (by simp only; omega) (SubI.ren (fun m => if m = 0 then some 0 else if m = 1 then some 1 else if m = 2 then some 5 else none) ?_ ?_ ?_ (by simp) (by simp))
    · simp (disch := omega) [subT, renV, ren1, wrapI]
    · simp [subH, renL, ren1]
      rw [← ints_app]
      rfl
    · intro m hm
      simp only at hm
      rw [if_neg (by omega), if_neg (by omega), if_neg (by omega)]
end Go.Proofs.Ytmemomfffehnkaa
