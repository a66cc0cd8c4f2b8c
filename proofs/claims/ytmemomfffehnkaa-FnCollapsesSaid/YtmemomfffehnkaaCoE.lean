import Derived.Test.YtmemomfffehnkaaCoC
import Derived.Test.YtmemomfffehnkaaGaI
namespace Go.Proofs.Ytmemomfffehnkaa
open Go Go.RowKit
set_option maxRecDepth 1000000
set_option linter.unusedSimpArgs false
set_option linter.unusedVariables false
set_option maxHeartbeats 1000000
def sc_s_l17AboveX_L0 : SC := (.seq (.seq (.reg [⟨(some 8), none, (.mov (.t 6))⟩, ⟨(some 9), none, (.mov (.t 0))⟩, ⟨(some 10), none, (.len (.t 9))⟩, ⟨(some 11), none, (.bin false .lss (.t 8) (.t 10))⟩]) (.cond (.t 11) .skip (.exit 0))) (.seq (.block 1 (.seq (.reg [⟨(some 14), none, (.mov (.t 0))⟩, ⟨(some 15), none, (.mov (.t 6))⟩, ⟨(some 16), none, (.idx 1 (.t 14) (.t 15))⟩, ⟨(some 17), none, (.ld none (.int .i64 0) (.t 16))⟩, ⟨(some 18), none, (.mov (.t 1))⟩, ⟨(some 19), none, (.bin false .and (.t 17) (.t 18))⟩, ⟨(some 20), none, (.mov (.t 1))⟩, ⟨(some 21), none, (.bin false .eql (.t 19) (.t 20))⟩, ⟨(some 22), none, (.mov (.t 21))⟩, ⟨(some 23), (some (22, true)), (.mov (.t 0))⟩, ⟨(some 24), (some (22, true)), (.mov (.t 6))⟩, ⟨(some 25), (some (22, true)), (.idx 1 (.t 23) (.t 24))⟩, ⟨(some 26), (some (22, true)), (.ld none (.int .i64 0) (.t 25))⟩, ⟨(some 27), (some (22, true)), (.mov (.t 1))⟩, ⟨(some 28), (some (22, true)), (.bin false .neq (.t 26) (.t 27))⟩, ⟨(some 29), none, (.pick (.t 22) (.t 28) (.c (.bool false)))⟩]) (.cond (.t 29) (.reg [⟨(some 30), none, (.mov (.t 5))⟩, ⟨(some 31), none, (.mov (.t 0))⟩, ⟨(some 32), none, (.mov (.t 6))⟩, ⟨(some 33), none, (.idx 1 (.t 31) (.t 32))⟩, ⟨(some 34), none, (.ld none (.int .i64 0) (.t 33))⟩, ⟨(some 35), none, (.mks 1 1 [(.int .i64 0)] [(0, (1, (.t 34)))])⟩, ⟨(some 36), none, (.app 1 8 (.t 30) (.t 35))⟩, ⟨(some 5), none, (.mov (.t 36))⟩]) .skip))) (.reg [⟨(some 12), none, (.mov (.t 6))⟩, ⟨(some 13), none, (.bin false .add (.t 12) (.c (.int .i64 1)))⟩, ⟨(some 6), none, (.mov (.t 13))⟩])))
def sc_s_l17AboveX : SC := (.seq (.reg [⟨(some 4), none, (.mov (.c .nil))⟩]) (.seq (.reg [⟨(some 7), none, (.mks 0 1 [] [])⟩, ⟨(some 5), none, (.mov (.t 7))⟩]) (.seq (.seq (.reg [⟨(some 6), none, (.mov (.c (.int .i64 0)))⟩]) (.block 0 (.loop sc_s_l17AboveX_L0))) (.seq (.reg [⟨(some 37), none, (.mov (.t 5))⟩, ⟨(some 4), none, (.mov (.t 37))⟩]) .ret))))
theorem code_s_l17AboveX : fnCode Try.prog [] 179 = some (38, sc_s_l17AboveX, [(4, none)]) := by kernel_rfl
/-- The sets of a list beside s that hold s. -/
noncomputable def abvL (l : List Int) (s : Int) : List Int := l.filter fun t => dec (band t s = s ∧ t ≠ s)
noncomputable def F_s_l17AboveX : List V → Option V := F2 dL dI fun l s => @ite _ (l.length ≤ 64) (Classical.propDecidable _) (some (.own 1 (ints (abvL l s)))) none
theorem fn_s_l17AboveX : FnOk Try.prog 179 F_s_l17AboveX := by
  refine fn_ok code_s_l17AboveX mixed envNil_ok ?_
  intro args r h hb
  obtain ⟨_, _, l, s, rfl, h1, h2, h4⟩ := F2_inv h
  cases dL_inv h1
  cases dI_inv h2
  simp only [Option.ite_none_right_eq_some, Option.some.injEq] at h4
  obtain ⟨hl, rfl⟩ := h4
  refine ⟨by simp, fun w0 U0 L0 N0 => ?_⟩
  clear h
  have hall : abvL l s = abvL (l.take l.length) s := by rw [List.take_length]
  rw [hall]
  have gl := fun k => filt_len l k fun t => dec (band t s = s ∧ t ≠ s)
  have pos := fun k (hlt : k < l.length) (h : band (at0 l k) s = s ∧ at0 l k ≠ s) => filt_pos hlt (q := fun t => dec (band t s = s ∧ t ≠ s)) (dec_true h)
  have neg := fun k (hlt : k < l.length) (h : ¬ (band (at0 l k) s = s ∧ at0 l k ≠ s)) => filt_neg hlt (q := fun t => dec (band t s = s ∧ t ≠ s)) (dec_false h)
  have h00 : abvL (l.take 0) s = [] := by simp [abvL]
  obtain ⟨g, hg⟩ : ∃ g : Nat → List Int, g = fun k => abvL (l.take k) s := ⟨_, rfl⟩
  have gk : ∀ k, abvL (l.take k) s = g k := fun k => by rw [hg]
  have gl2 : ∀ k, (g k).length ≤ l.length := fun k => by rw [← gk]; exact gl k
  have pos2 : ∀ k, k < l.length → (band (at0 l k) s = s ∧ at0 l k ≠ s) → g (k + 1) = g k ++ [at0 l k] := fun k a b => by rw [← gk, ← gk]; exact pos k a b
  have neg2 : ∀ k, k < l.length → ¬ (band (at0 l k) s = s ∧ at0 l k ≠ s) → g (k + 1) = g k := fun k a b => by rw [← gk, ← gk]; exact neg k a b
  rw [gk 0] at h00
  rw [gk]
  clear pos neg gl hall gk hg
  simp -implicitDefEqProofs [sc_s_l17AboveX]
  refine loopI envNil_ok mixed (fun k : Nat => [(0, .list 1 (ints l)), (1, .int .i64 s), (5, .sl 0 1 0 (g k).length), (6, .int .i64 (k : Int))]) (fun k => ([(0, ints (g k))], 1)) (fun k => k ≤ l.length) (fun k => l.length - k) 0 (by simp) (SubI.slots (by simp [h00]) (by simp [h00])) ?_
  intro k hk
  have gk := gl2 k
  by_cases hlt : k < l.length
  · have hwk : IntKind.i64.wrap ((k : Int) + 1) = (k : Int) + 1 := wrapI _ (by omega) (by omega)
    have q1 : ((g k).length + 1) * 8 ≤ 140737488355328 := by omega
    by_cases h1 : band (at0 l k) s = s
    · by_cases h2 : at0 l k = s
      · have e := neg2 k hlt fun h => h.2 h2
        have h3 : band s s = s := h2 ▸ h1
        simp -implicitDefEqProofs [sc_s_l17AboveX_L0, hlt, h2, h3, hwk]
        repeat' (first | omega | apply And.intro)
        exact Again.of (k + 1) (by omega) (by omega) (SubI.slots (by simp only [e]) (by simp [e]))
      · have e := pos2 k hlt ⟨h1, h2⟩
        have ha : (ints (g k) ++ [V.int .i64 (at0 l k)]).take ((g k).length + 1) = ints (g k) ++ [V.int .i64 (at0 l k)] := List.take_of_length_le (by simp)
        simp -implicitDefEqProofs [sc_s_l17AboveX_L0, hlt, h1, h2, hwk, q1]
        repeat' (first | omega | apply And.intro)
        refine Again.of (k + 1) (by omega) (by omega) (SubI.ren (fun m => if m = 0 then some 2 else none) ?_ ?_ ?_ (by simp) (by simp))
        · simp [renV, ren1, e]
        · simp [renL, ren1, e]
          try rw [ints_snoc]
        · intro m hm
          simp only at hm
          rw [if_neg (by omega)]
    · have e := neg2 k hlt fun h => h1 h.1
      simp -implicitDefEqProofs [sc_s_l17AboveX_L0, hlt, h1, hwk]
      repeat' (first | omega | apply And.intro)
      exact Again.of (k + 1) (by omega) (by omega) (SubI.slots (by simp only [e]) (by simp [e]))
  · have hkl : k = l.length := by omega
    subst hkl
    simp -implicitDefEqProofs [sc_s_l17AboveX_L0]
def sc_s_DrawCanExpand : SC := (.seq (.reg [⟨(some 2), none, (.new [(.int .i64 0), .nil])⟩, ⟨(some 3), none, (.mov (.c (.int .i64 0)))⟩, ⟨(some 4), none, (.mov (.c (.int .i64 0)))⟩]) (.seq (.reg [⟨(some 13), none, (.mov (.t 0))⟩, ⟨(some 14), none, (.call 63 [(.t 13)])⟩, ⟨(some 12), none, (.mov (.t 14))⟩, ⟨(some 15), none, (.ext 0 (.t 12))⟩, ⟨(some 16), none, (.ext 1 (.t 12))⟩, ⟨(some 5), none, (.new [(.int .i64 0), .nil])⟩, ⟨none, none, (.st 2 (.t 5) (.t 15))⟩, ⟨(some 6), none, (.mov (.t 16))⟩]) (.seq (.reg [⟨(some 17), none, (.mov (.t 0))⟩, ⟨(some 18), none, (.call 128 [(.t 17)])⟩, ⟨(some 7), none, (.mov (.t 18))⟩]) (.seq (.reg [⟨(some 19), none, (.ld (some 2) .undef (.t 5))⟩, ⟨(some 20), none, (.call 43 [(.t 19)])⟩, ⟨(some 21), none, (.mov (.t 6))⟩, ⟨(some 22), none, (.call 179 [(.t 20), (.t 21)])⟩, ⟨(some 8), none, (.mov (.t 22))⟩]) (.seq (.reg [⟨(some 24), none, (.ld (some 2) .undef (.t 5))⟩, ⟨(some 25), none, (.mov (.t 6))⟩, ⟨(some 26), none, (.call 65 [(.t 24), (.t 25)])⟩, ⟨(some 23), none, (.mov (.t 26))⟩, ⟨(some 27), none, (.ext 0 (.t 23))⟩, ⟨(some 28), none, (.ext 1 (.t 23))⟩, ⟨(some 9), none, (.new [(.int .i64 0), .nil])⟩, ⟨none, none, (.st 2 (.t 9) (.t 27))⟩, ⟨(some 10), none, (.mov (.t 28))⟩]) (.seq (.seq (.reg [⟨(some 29), none, (.mov (.t 10))⟩, ⟨(some 30), none, (.mov (.t 29))⟩, ⟨(some 31), (some (30, true)), (.mov (.t 7))⟩, ⟨(some 32), (some (30, true)), (.call 162 [(.t 31), (.c (.int .i64 2))])⟩, ⟨(some 33), none, (.pick (.t 30) (.t 32) (.c (.bool false)))⟩]) (.cond (.t 33) (.seq (.treg (.fst ⟨(some 34), none, (.ld (some 2) .undef (.t 9))⟩ false (.fst ⟨(some 35), none, (.mov (.t 6))⟩ true (.fst ⟨(some 36), none, (.mov (.t 8))⟩ true (.fst ⟨(some 37), none, (.idx 1 (.t 36) (.c (.int .i64 0)))⟩ true (.alt ⟨(some 38), none, (.ld none (.int .i64 0) (.t 37))⟩ false (.alt ⟨none, none, (.st 2 (.t 2) (.t 34))⟩ true (.fst ⟨(some 3), none, (.mov (.t 35))⟩ false (.fst ⟨(some 4), none, (.mov (.t 38))⟩ false .done)) .stop) (.alt ⟨none, none, (.st 2 (.t 2) (.t 34))⟩ true (.fst ⟨(some 38), none, (.ld none (.int .i64 0) (.t 37))⟩ false (.fst ⟨(some 3), none, (.mov (.t 35))⟩ false (.fst ⟨(some 4), none, (.mov (.t 38))⟩ false .done))) .stop))))))) .ret) .skip)) (.seq (.reg [⟨(some 39), none, (.mov (.t 7))⟩, ⟨(some 40), none, (.call 129 [(.t 39), (.c (.int .i64 64))])⟩, ⟨(some 11), none, (.mov (.t 40))⟩]) (.seq (.treg (.fst ⟨(some 42), none, (.mov (.t 11))⟩ true (.fst ⟨(some 43), none, (.mov (.t 7))⟩ false (.fst ⟨(some 46), none, (.mov (.t 11))⟩ true (.alt ⟨(some 41), none, (.ld (some 2) .undef (.t 5))⟩ false (.alt ⟨(some 44), none, (.call 129 [(.t 43), (.c (.int .i64 64))])⟩ true (.fst ⟨(some 45), none, (.bin false .and (.t 42) (.t 44))⟩ true (.alt ⟨none, none, (.st 2 (.t 2) (.t 41))⟩ true (.fst ⟨(some 3), none, (.mov (.t 45))⟩ false (.fst ⟨(some 4), none, (.mov (.t 46))⟩ false .done)) .stop)) .stop) (.alt ⟨(some 44), none, (.call 129 [(.t 43), (.c (.int .i64 64))])⟩ true (.fst ⟨(some 41), none, (.ld (some 2) .undef (.t 5))⟩ false (.fst ⟨(some 45), none, (.bin false .and (.t 42) (.t 44))⟩ true (.alt ⟨none, none, (.st 2 (.t 2) (.t 41))⟩ true (.fst ⟨(some 3), none, (.mov (.t 45))⟩ false (.fst ⟨(some 4), none, (.mov (.t 46))⟩ false .done)) .stop))) .stop)))))) .ret))))))))
theorem code_s_DrawCanExpand : fnCode Try.prog [144, 129, 162] 69 = some (47, sc_s_DrawCanExpand, [(2, (some 2)), (3, none), (4, none)]) := by kernel_rfl
open Classical in
/-- The drawn complex and sets of an expansion. -/
noncomputable def dceX (n : Int) (l : List Int) (s : Int) (c : Cur) : (Int × List Int) × Int × Int :=
  if colP n l s then (if onceN c 2 = true then ((colN n l s, colL n l s), s, at0 (abvL (facesL n l) s) 0) else ((n, l), band (belowN (belowN c 2).2 64).1 (belowN (belowN (belowN c 2).2 64).2 64).1, (belowN (belowN c 2).2 64).1))
  else ((n, l), band (belowN c 64).1 (belowN (belowN c 64).2 64).1, (belowN c 64).1)
noncomputable def dceB (b : List Int) : (Int × List Int) × Int × Int := dceX (bentN (newCur b)).1.1 (bentN (newCur b)).1.2 (dcS (bentN (newCur b)).1.1 (bentN (newCur b)).1.2 (bentN (newCur b)).2) (newCur b)
noncomputable def F_s_DrawCanExpand : List V → Option V := F1 dBy fun b => some (.tup [.agg [.int .i64 (dceB b).1.1, .own 1 (ints (dceB b).1.2)], .int .i64 (dceB b).2.1, .int .i64 (dceB b).2.2])
theorem abv_pos {n : Int} {l : List Int} {s : Int} (h : colP n l s) : 0 < (abvL (facesL n l) s).length := by
  obtain ⟨hc, hs, _, t, ht, ⟨h1, h2, h3⟩, _⟩ := h
  refine List.length_pos_of_mem (a := t) ?_
  unfold abvL
  rw [List.mem_filter, dec_iff, facesL_of hc, mem_setsOf]
  exact ⟨⟨ht, h1⟩, (subS_iff' hs ht).1 h2, h3⟩
theorem fn_s_DrawCanExpand : FnOk Try.prog 69 F_s_DrawCanExpand := by
  have env := (((((((envNil_ok (P := Try.prog)).add fn_s_l1New).add fn_s_DrawCollapseAt).add fn_s_FacesOf).add fn_s_l17AboveX).add fn_s_CollapseAt).addl ln_s_l1Below).addl ln_s_l1Once
  refine fn_ok code_s_DrawCanExpand mixed env ?_
  intro args r h hb
  obtain ⟨_, b, rfl, h1, h4⟩ := F1_inv h
  obtain ⟨hw, rfl⟩ := dBy_inv h1
  cases h4
  clear h hb h1
  refine ⟨by simp, fun w0 U0 L0 N0 => ?_⟩
  have hN : F_s_l1New [.list 1 (u8s b)] = some (.opt (curC (newCur b))) := by
    simp only [F_s_l1New, F1_mk, dBy_list hw, Option.bind_some]
  have hD : F_s_DrawCollapseAt [.list 1 (u8s b)] = some (.tup [.agg [.int .i64 (bentN (newCur b)).1.1, .own 1 (ints (bentN (newCur b)).1.2)], .int .i64 (dcS (bentN (newCur b)).1.1 (bentN (newCur b)).1.2 (bentN (newCur b)).2)]) := by
    simp only [F_s_DrawCollapseAt, F1_mk, dBy_list hw, Option.bind_some]
  have v0 := newCur_wf hw
  have eB : dceB b = dceX (bentN (newCur b)).1.1 (bentN (newCur b)).1.2 (dcS (bentN (newCur b)).1.1 (bentN (newCur b)).1.2 (bentN (newCur b)).2) (newCur b) := rfl
  generalize dceB b = R at *
  generalize dcS (bentN (newCur b)).1.1 (bentN (newCur b)).1.2 (bentN (newCur b)).2 = s at *
  generalize (bentN (newCur b)).1 = x at *
  obtain ⟨n, l⟩ := x
  simp only at hD eB
  generalize newCur b = c at *
  have hFa : F_s_FacesOf [.agg [.int .i64 n, .list 1 (ints l)]] = some (.own 1 (ints (facesL n l))) := by
    simp only [F_s_FacesOf, F1_mk, dC_agg, Option.bind_some]
  have hFl : (facesL n l).length ≤ 64 := setsOf_len _
  have hAb : F_s_l17AboveX [.list 1 (ints (facesL n l)), .int .i64 s] = some (.own 1 (ints (abvL (facesL n l) s))) := by
    simp only [F_s_l17AboveX, F2_mk, dL_list, dI_int, Option.bind_some]
    rw [if_pos hFl]
  have hCA : F_s_CollapseAt [.agg [.int .i64 n, .list 1 (ints l)], .int .i64 s] = some (.tup [.agg [.int .i64 (colN n l s), .own 1 (ints (colL n l s))], .bool (dec (colP n l s))]) := by
    simp only [F_s_CollapseAt, F2_mk, dC_agg, dI_int, Option.bind_some]
  have hap := abv_pos (n := n) (l := l) (s := s)
  have eX : dceX n l s c = @ite _ (colP n l s) (Classical.propDecidable _) (if onceN c 2 = true then ((colN n l s, colL n l s), s, at0 (abvL (facesL n l) s) 0) else ((n, l), band (belowN (belowN c 2).2 64).1 (belowN (belowN (belowN c 2).2 64).2 64).1, (belowN (belowN c 2).2 64).1)) ((n, l), band (belowN c 64).1 (belowN (belowN c 64).2 64).1, (belowN c 64).1) := rfl
  rw [← eB] at eX
  clear eB
  have g1 := G_once v0 2
  have v1 := belowN_wf v0 2
  generalize abvL (facesL n l) s = A at *
  generalize facesL n l = FF at *
  generalize colN n l s = cn at *
  generalize colL n l s = cl at *
  by_cases hc : colP n l s
  · rw [dec_true hc] at hCA
    rw [if_pos hc] at eX
    have hA := hap hc
    cases ho : onceN c 2 with
    | true =>
      rw [ho, if_pos rfl] at eX
      rw [ho] at g1
      rw [eX]
      simp -implicitDefEqProofs [sc_s_DrawCanExpand, freeOk, ren0, hN, hD, hFa, hAb, hCA, g1, hA]
      try omega
    | false =>
      rw [ho, if_neg (by simp)] at eX
      rw [ho] at g1
      generalize (belowN c 2).2 = d at *
      have g2 := G_below v1 64
      have v2 := belowN_wf v1 64
      have g3 := G_below v2 64
      generalize belowN d 64 = y at *
      generalize belowN y.2 64 = z at *
      rw [eX]
      simp -implicitDefEqProofs [sc_s_DrawCanExpand, freeOk, ren0, hN, hD, hFa, hAb, hCA, g1, g2, g3]
  · rw [dec_false hc] at hCA
    rw [if_neg hc] at eX
    have g2 := G_below v0 64
    have v2 := belowN_wf v0 64
    have g3 := G_below v2 64
    generalize belowN c 64 = y at *
    generalize belowN y.2 64 = z at *
    rw [eX]
    simp -implicitDefEqProofs [sc_s_DrawCanExpand, freeOk, ren0, hN, hD, hFa, hAb, hCA, g2, g3]
end Go.Proofs.Ytmemomfffehnkaa
