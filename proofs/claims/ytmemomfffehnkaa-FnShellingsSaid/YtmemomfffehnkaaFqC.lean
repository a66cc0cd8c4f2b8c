import Derived.Test.YtmemomfffehnkaaFoH
namespace Go.Proofs.Ytmemomfffehnkaa
open Go Go.RowKit
set_option maxRecDepth 1000000
set_option linter.unusedSimpArgs false
set_option linter.unusedVariables false
set_option maxHeartbeats 1000000
def sc_s_DivisionFrom_L2 : SC := (.seq (.seq (.reg [⟨(some 26), none, (.mov (.t 9))⟩, ⟨(some 27), none, (.mov (.t 1))⟩, ⟨(some 28), none, (.len (.t 27))⟩, ⟨(some 29), none, (.bin false .lss (.t 26) (.t 28))⟩]) (.cond (.t 29) .skip (.exit 2))) (.seq (.block 3 (.seq (.dreg [⟨⟨(some 32), none, (.mov (.t 1))⟩, false, false⟩, ⟨⟨(some 33), none, (.mov (.t 9))⟩, false, false⟩, ⟨⟨(some 34), none, (.idx 1 (.t 32) (.t 33))⟩, false, false⟩, ⟨⟨(some 35), none, (.ld none (.int .i64 0) (.t 34))⟩, false, false⟩, ⟨⟨(some 36), none, (.fad 1 (.t 2))⟩, false, false⟩, ⟨⟨(some 37), none, (.ld none .nil (.t 36))⟩, false, false⟩, ⟨⟨(some 38), none, (.mov (.t 8))⟩, false, false⟩, ⟨⟨(some 39), none, (.idx 1 (.t 37) (.t 38))⟩, false, false⟩, ⟨⟨(some 40), none, (.ld none (.int .i64 0) (.t 39))⟩, false, false⟩, ⟨⟨(some 41), none, (.bin false .eql (.t 35) (.t 40))⟩, false, false⟩]) (.cond (.t 41) (.reg [⟨(some 42), none, (.mov (.t 7))⟩, ⟨(some 43), none, (.mov (.t 6))⟩, ⟨(some 44), none, (.mov (.t 9))⟩, ⟨(some 45), none, (.idx 1 (.t 43) (.t 44))⟩, ⟨(some 46), none, (.ld none (.int .i64 0) (.t 45))⟩, ⟨(some 47), none, (.mks 1 1 [(.int .i64 0)] [(0, (1, (.t 46)))])⟩, ⟨(some 48), none, (.app 1 8 (.t 42) (.t 47))⟩, ⟨(some 7), none, (.mov (.t 48))⟩]) .skip))) (.reg [⟨(some 30), none, (.mov (.t 9))⟩, ⟨(some 31), none, (.bin false .add (.t 30) (.c (.int .i64 1)))⟩, ⟨(some 9), none, (.mov (.t 31))⟩])))
def sc_s_DivisionFrom_L0 : SC := (.seq (.seq (.reg [⟨(some 19), none, (.mov (.t 8))⟩, ⟨(some 20), none, (.fad 1 (.t 2))⟩, ⟨(some 21), none, (.ld none .nil (.t 20))⟩, ⟨(some 22), none, (.len (.t 21))⟩, ⟨(some 23), none, (.bin false .lss (.t 19) (.t 22))⟩]) (.cond (.t 23) .skip (.exit 0))) (.seq (.block 1 (.seq (.reg [⟨(some 9), none, (.mov (.c (.int .i64 0)))⟩]) (.block 2 (.loop sc_s_DivisionFrom_L2)))) (.reg [⟨(some 24), none, (.mov (.t 8))⟩, ⟨(some 25), none, (.bin false .add (.t 24) (.c (.int .i64 1)))⟩, ⟨(some 8), none, (.mov (.t 25))⟩])))
def sc_s_DivisionFrom : SC := (.seq (.reg [⟨(some 2), none, (.box (.t 0))⟩, ⟨(some 4), none, (.mov (.c .nil))⟩, ⟨(some 5), none, (.mov (.c (.bool false)))⟩]) (.seq (.seq (.reg [⟨(some 10), none, (.ld (some 2) .undef (.t 2))⟩, ⟨(some 11), none, (.mov (.t 1))⟩, ⟨(some 12), none, (.call 37 [(.t 10), (.t 11)])⟩, ⟨(some 13), none, (.un .not (.t 12))⟩]) (.cond (.t 13) (.seq (.reg [⟨(some 14), none, (.mks 0 1 [] [])⟩, ⟨(some 4), none, (.mov (.t 14))⟩, ⟨(some 5), none, (.mov (.c (.bool false)))⟩]) .ret) .skip)) (.seq (.reg [⟨(some 15), none, (.ld (some 2) .undef (.t 2))⟩, ⟨(some 16), none, (.mov (.t 1))⟩, ⟨(some 17), none, (.call 38 [(.t 15), (.t 16)])⟩, ⟨(some 6), none, (.mov (.t 17))⟩]) (.seq (.reg [⟨(some 18), none, (.mks 0 1 [] [])⟩, ⟨(some 7), none, (.mov (.t 18))⟩]) (.seq (.seq (.reg [⟨(some 8), none, (.mov (.c (.int .i64 0)))⟩]) (.block 0 (.loop sc_s_DivisionFrom_L0))) (.seq (.reg [⟨(some 49), none, (.mov (.t 7))⟩, ⟨(some 4), none, (.mov (.t 49))⟩, ⟨(some 5), none, (.mov (.c (.bool true)))⟩]) .ret))))))
theorem code_s_DivisionFrom : fnCode Try.prog [] 109 = some (50, sc_s_DivisionFrom, [(4, none), (5, none)]) := by kernel_rfl
theorem nodup_inj {l : List Int} (h : l.Nodup) {i j : Nat} (hi : i < l.length) (hj : j < l.length) (e : at0 l i = at0 l j) : i = j := by
  rcases Nat.lt_trichotomy i j with h1 | h1 | h1
  · exact absurd (by rw [← e, at0_eq hi]; exact List.mem_take_iff_getElem.2 ⟨i, by omega, rfl⟩) (nodup_at' h hj)
  · exact h1
  · exact absurd (by rw [e, at0_eq hj]; exact List.mem_take_iff_getElem.2 ⟨j, by omega, rfl⟩) (nodup_at' h hi)
/-- The place of a number in a list. -/
def posI (list : List Int) (f : Int) : Nat := list.idxOf f
theorem posI_of {list : List Int} {f : Int} (h : f ∈ list) : posI list f < list.length ∧ at0 list (posI list f) = f := by
  have h1 : posI list f < list.length := List.idxOf_lt_length_iff.2 h
  exact ⟨h1, by rw [at0_eq h1]; exact List.getElem_idxOf h1⟩
theorem posI_eq {list : List Int} (hn : list.Nodup) {f : Int} (hf : f ∈ list) {i : Nat} (hi : i < list.length) : at0 list i = f ↔ i = posI list f := by
  obtain ⟨h1, h2⟩ := posI_of hf
  constructor
  · intro e; exact nodup_inj hn hi h1 (e.trans h2.symm)
  · rintro rfl; exact h2
theorem order_all {n : Int} {l list : List Int} (h : orderB n l list = true) : list.length = l.length ∧ list.Nodup ∧ ∀ f ∈ l, f ∈ list := by
  obtain ⟨_, h1, h2, _⟩ := order_parts h
  have hl : list.length = l.length := by
    simp only [orderB, Bool.and_eq_true, decide_eq_true_eq] at h
    omega
  exact ⟨hl, h1, (nodup_of h1 h2 hl.symm).2⟩
/-- The new parts, in the order of the facets. -/
def divfP (l list fresh : List Int) (k : Nat) : List Int := (List.range k).map fun i => at0 fresh (posI list (at0 l i))
@[simp] theorem divfP_len (l list fresh : List Int) (k : Nat) : (divfP l list fresh k).length = k := by simp [divfP]
theorem divfP_succ (l list fresh : List Int) (k : Nat) : divfP l list fresh (k + 1) = divfP l list fresh k ++ [at0 fresh (posI list (at0 l k))] := by simp [divfP, List.range_succ]
theorem at0_divfP {l list fresh : List Int} {k j : Nat} (h : j < k) : at0 (divfP l list fresh k) j = at0 fresh (posI list (at0 l j)) := by simp [divfP, at0, h]
noncomputable def divfL (n : Int) (l list : List Int) : List Int := if shellB n l list = true then divfP l list (newfP list list.length) l.length else []
noncomputable def F_s_DivisionFrom : List V → Option V := F2 dC dL fun c list => some (.tup [.own 1 (ints (divfL c.1 c.2 list)), .bool (shellB c.1 c.2 list)])
theorem fn_s_DivisionFrom : FnOk Try.prog 109 F_s_DivisionFrom := by
  have env := ((envNil_ok (P := Try.prog)).add fn_s_IsShelling).add fn_s_NewFaces
  refine fn_ok code_s_DivisionFrom mixed env ?_
  intro args r h hb
  obtain ⟨_, _, ⟨n, l⟩, list, rfl, h1, h2, h4⟩ := F2_inv h
  cases dC_inv h1
  cases dL_inv h2
  cases h4
  clear h
  refine ⟨by simp, fun w0 U0 L0 N0 => ?_⟩
  clear hb
  cases hs : shellB n l list with
  | false =>
    have e : divfL n l list = [] := by simp [divfL, hs]
    rw [e]
    simp -implicitDefEqProofs [sc_s_DivisionFrom, F_s_IsShelling, hs]
  | true =>
  have e : divfL n l list = divfP l list (newfP list list.length) l.length := by simp [divfL, hs]
  rw [e]
  have e2 : newfL n l list = newfP list list.length := by simp [newfL, hs]
  have ho := shell_order hs
  have h64 := order_len ho
  obtain ⟨hlen, hnd, hall⟩ := order_all ho
  have hfl : (newfP list list.length).length = list.length := by simp
  simp -implicitDefEqProofs [sc_s_DivisionFrom, F_s_IsShelling, F_s_NewFaces, hs, e2]
  generalize newfP list list.length = fresh at *
  have inner : ∀ (k : Nat) (Q : Post) (T0 : Tm), k < l.length → subE T0 [(1, .list 1 (ints list)), (2, .pt 0 0), (6, .sl 1 1 0 list.length), (7, .sl 2 1 0 k), (8, .int .i64 (k : Int)), (9, .int .i64 0)] →
      Q (.exit 2) [(1, .list 1 (ints list)), (2, .pt 0 0), (6, .sl 1 1 0 list.length), (7, .sl 2 1 0 (k + 1)), (8, .int .i64 (k : Int))] ([(2, ints (divfP l list fresh (k + 1))), (1, ints fresh), (0, [.int .i64 n, .list 1 (ints l)])], 3) →
      LoopI ⟨Try.prog, w0, U0, L0, N0, 0, 50⟩ [] sc_s_DivisionFrom_L2 Q T0 ([(2, ints (divfP l list fresh k)), (1, ints fresh), (0, [.int .i64 n, .list 1 (ints l)])], 3) := by
    intro k Q T0 hk hsub q1
    have hf : at0 l k ∈ list := hall _ (getD_mem' hk)
    obtain ⟨hp1, hp2⟩ := posI_of hf
    have hpe := fun i hi => posI_eq hnd hf (i := i) hi
    have es := divfP_succ l list fresh k
    have gl := divfP_len l list fresh k
    generalize posI list (at0 l k) = p at *
    generalize divfP l list fresh (k + 1) = g2 at *
    generalize divfP l list fresh k = g at *
    refine loopQ env mixed (fun i : Nat => [(1, .list 1 (ints list)), (2, .pt 0 0), (6, .sl 1 1 0 list.length), (7, .sl 2 1 0 (if p < i then k + 1 else k)), (8, .int .i64 (k : Int)), (9, .int .i64 (i : Int))]) (fun i => ([(2, ints (if p < i then g2 else g)), (1, ints fresh), (0, [.int .i64 n, .list 1 (ints l)])], 3)) (fun i => i ≤ list.length) (fun i => list.length - i) 0 (by simp) (SubI.slots (by simp) (by simpa using hsub)) ?_
    intro i hi
    by_cases hlt : i < list.length
    · by_cases hip : i = p
      · subst hip
        have hx : at0 list i = at0 l k := (hpe i hlt).2 rfl
        have n1 : ¬ (i < i) := by omega
        simp only [n1, if_false]
        simp -implicitDefEqProofs [sc_s_DivisionFrom_L2, hlt, hk, hx, hfl, gl]
        repeat' (first | omega | apply And.intro)
        refine Again.of (i + 1) (by omega) (by omega) (SubI.ren (fun m => if m = 0 then some 0 else if m = 1 then some 1 else if m = 2 then some 4 else none) ?_ ?_ ?_ (by simp) (by simp))
        · simp (disch := omega) [subT, renV, ren1, wrapI]
        · have ht : g.take k = g := List.take_of_length_le (by omega)
          simp [subH, es, renL, ren1, ht]
          rw [← ints_app]
          rfl
        · intro m hm
          simp only at hm
          rw [if_neg (by omega), if_neg (by omega), if_neg (by omega)]
      · have hx : ¬ at0 list i = at0 l k := fun h => hip ((hpe i hlt).1 h)
        have e3 : (p < i + 1) = (p < i) := by
          refine propext ⟨fun h => by omega, fun h => by omega⟩
        generalize hgg : (if p < i then g2 else g) = gg
        generalize hkk : (if p < i then k + 1 else k) = kk
        simp -implicitDefEqProofs [sc_s_DivisionFrom_L2, hlt, hk, hx]
        repeat' (first | omega | apply And.intro)
        refine Again.of (i + 1) (by omega) (by omega) (SubI.slots (by simp only [e3, hgg]) (by simp only [e3, hkk]; simp (disch := omega) [wrapI]))
    · have hil : i = list.length := by omega
      subst hil
      simp only [hp1, if_true]
      simp -implicitDefEqProofs [sc_s_DivisionFrom_L2]
      exact SubQ.of (SubI.slots rfl (by simp)) q1
  refine loopI env mixed (fun k : Nat => [(1, .list 1 (ints list)), (2, .pt 0 0), (6, .sl 1 1 0 list.length), (7, .sl 2 1 0 k), (8, .int .i64 (k : Int))]) (fun k => ([(2, ints (divfP l list fresh k)), (1, ints fresh), (0, [.int .i64 n, .list 1 (ints l)])], 3)) (fun k => k ≤ l.length) (fun k => l.length - k) 0 (by simp) (SubI.slots (by simp [divfP]) (by simp [hfl])) ?_
  intro k hk
  by_cases hlt : k < l.length
  · simp -implicitDefEqProofs [sc_s_DivisionFrom_L0, hlt]
    repeat' (first | omega | apply And.intro)
    refine inner k _ _ hlt (by simp) ?_
    simp -implicitDefEqProofs
    exact Again.of (k + 1) (by omega) (by omega) (SubI.slots (by simp) (by simp (disch := omega) [wrapI]))
  · have hkl : k = l.length := by omega
    subst hkl
    have gl := divfP_len l list fresh l.length
    generalize divfP l list fresh l.length = g at *
    have ht : g.take l.length = g := List.take_of_length_le (by omega)
    simp -implicitDefEqProofs [sc_s_DivisionFrom_L0, gl, ht]
end Go.Proofs.Ytmemomfffehnkaa
