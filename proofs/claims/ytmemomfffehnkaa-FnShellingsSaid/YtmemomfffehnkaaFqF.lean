import Derived.Test.YtmemomfffehnkaaFqC
namespace Go.Proofs.Ytmemomfffehnkaa
open Go Go.RowKit
set_option maxRecDepth 1000000
set_option linter.unusedSimpArgs false
set_option linter.unusedVariables false
set_option maxHeartbeats 1000000
def sc_i_DivisionFrom_L2 : SC := (.seq (.reg [⟨(some 33), none, (.bin false .lss (.t 32) (.t 31))⟩]) (.seq (.cond (.t 33) .skip (.exit 2)) (.seq (.block 3 (.seq (.reg [⟨(some 34), none, (.mov (.t 32))⟩, ⟨(some 35), none, (.idx 1 (.t 30) (.t 32))⟩, ⟨(some 36), none, (.ld none (.int .i64 0) (.t 35))⟩, ⟨(some 10), none, (.mov (.t 34))⟩, ⟨(some 11), none, (.mov (.t 36))⟩]) (.seq (.reg [⟨(some 37), none, (.mov (.t 9))⟩, ⟨(some 38), none, (.mov (.t 11))⟩, ⟨(some 39), none, (.bin false .eql (.t 37) (.t 38))⟩]) (.cond (.t 39) (.reg [⟨(some 40), none, (.mov (.t 7))⟩, ⟨(some 41), none, (.mov (.t 10))⟩, ⟨(some 42), none, (.mov (.t 6))⟩, ⟨(some 43), none, (.mov (.t 8))⟩, ⟨(some 44), none, (.idx 1 (.t 42) (.t 43))⟩, ⟨(some 45), none, (.ld none (.int .i64 0) (.t 44))⟩, ⟨(some 46), none, (.idx 1 (.t 40) (.t 41))⟩, ⟨none, none, (.st 1 (.t 46) (.t 45))⟩]) .skip)))) (.reg [⟨(some 47), none, (.bin false .add (.t 32) (.c (.int .i64 1)))⟩, ⟨(some 32), none, (.mov (.t 47))⟩]))))
def sc_i_DivisionFrom_L0 : SC := (.seq (.reg [⟨(some 25), none, (.bin false .lss (.t 24) (.t 23))⟩]) (.seq (.cond (.t 25) .skip (.exit 0)) (.seq (.block 1 (.seq (.reg [⟨(some 26), none, (.mov (.t 24))⟩, ⟨(some 27), none, (.idx 1 (.t 22) (.t 24))⟩, ⟨(some 28), none, (.ld none (.int .i64 0) (.t 27))⟩, ⟨(some 8), none, (.mov (.t 26))⟩, ⟨(some 9), none, (.mov (.t 28))⟩]) (.seq (.reg [⟨(some 29), none, (.fad 1 (.t 2))⟩, ⟨(some 30), none, (.ld none .nil (.t 29))⟩, ⟨(some 31), none, (.len (.t 30))⟩, ⟨(some 32), none, (.mov (.c (.int .i64 0)))⟩]) (.block 2 (.loop sc_i_DivisionFrom_L2))))) (.reg [⟨(some 48), none, (.bin false .add (.t 24) (.c (.int .i64 1)))⟩, ⟨(some 24), none, (.mov (.t 48))⟩]))))
def sc_i_DivisionFrom : SC := (.seq (.reg [⟨(some 2), none, (.box (.t 0))⟩, ⟨(some 4), none, (.mov (.c .nil))⟩, ⟨(some 5), none, (.mov (.c (.bool false)))⟩]) (.seq (.seq (.reg [⟨(some 12), none, (.ld (some 2) .undef (.t 2))⟩, ⟨(some 13), none, (.mov (.t 1))⟩, ⟨(some 14), none, (.call 36 [(.t 12), (.t 13)])⟩, ⟨(some 15), none, (.un .not (.t 14))⟩]) (.cond (.t 15) (.seq (.reg [⟨(some 4), none, (.mov (.c .nil))⟩, ⟨(some 5), none, (.mov (.c (.bool false)))⟩]) .ret) .skip)) (.seq (.reg [⟨(some 16), none, (.ld (some 2) .undef (.t 2))⟩, ⟨(some 17), none, (.mov (.t 1))⟩, ⟨(some 18), none, (.call 32 [(.t 16), (.t 17)])⟩, ⟨(some 6), none, (.mov (.t 18))⟩]) (.seq (.reg [⟨(some 19), none, (.mov (.t 1))⟩, ⟨(some 20), none, (.len (.t 19))⟩, ⟨(some 21), none, (.mk 1 8 [(.int .i64 0)] (.t 20) (.t 20))⟩, ⟨(some 7), none, (.mov (.t 21))⟩]) (.seq (.seq (.reg [⟨(some 22), none, (.mov (.t 1))⟩, ⟨(some 23), none, (.len (.t 22))⟩, ⟨(some 24), none, (.mov (.c (.int .i64 0)))⟩]) (.block 0 (.loop sc_i_DivisionFrom_L0))) (.seq (.reg [⟨(some 49), none, (.mov (.t 7))⟩, ⟨(some 4), none, (.mov (.t 49))⟩, ⟨(some 5), none, (.mov (.c (.bool true)))⟩]) .ret))))))
theorem code_i_DivisionFrom : fnCode Try.prog [] 108 = some (50, sc_i_DivisionFrom, [(4, none), (5, none)]) := by kernel_rfl
/-- The row while the list's first i sets are laid, and of the i-th those before j. -/
def divD (l list fresh : List Int) (i j : Nat) : List Int := (List.range l.length).map fun c => if posI list (at0 l c) < i ∨ (posI list (at0 l c) = i ∧ c < j) then at0 fresh (posI list (at0 l c)) else 0
@[simp] theorem divD_len (l list fresh : List Int) (i j : Nat) : (divD l list fresh i j).length = l.length := by simp [divD]
theorem at0_divD {l list fresh : List Int} {i j c : Nat} (h : c < l.length) : at0 (divD l list fresh i j) c = if posI list (at0 l c) < i ∨ (posI list (at0 l c) = i ∧ c < j) then at0 fresh (posI list (at0 l c)) else 0 := by simp [divD, at0, h]
theorem divD_hit {l list fresh : List Int} {i j : Nat} (hj : j < l.length) (h : posI list (at0 l j) = i) : (divD l list fresh i j).set j (at0 fresh i) = divD l list fresh i (j + 1) := by
  apply at0_ext (by simp)
  intro c hc
  simp only [List.length_set, divD_len] at hc
  rw [at0_set, at0_divD hc, at0_divD hc]
  by_cases e : j = c
  · subst e
    rw [if_pos ⟨rfl, by simpa using hc⟩, if_pos (.inr ⟨h, by omega⟩), h]
  · rw [if_neg fun h => e h.1]
    by_cases h1 : posI list (at0 l c) < i ∨ (posI list (at0 l c) = i ∧ c < j)
    · rw [if_pos h1, if_pos (h1.elim .inl fun h => .inr ⟨h.1, by omega⟩)]
    · rw [if_neg h1, if_neg fun h2 => h1 (h2.elim .inl fun h => .inr ⟨h.1, by omega⟩)]
theorem divD_miss {l list fresh : List Int} {i j : Nat} (h : posI list (at0 l j) ≠ i) : divD l list fresh i j = divD l list fresh i (j + 1) := by
  apply at0_ext (by simp)
  intro c hc
  simp only [divD_len] at hc
  rw [at0_divD hc, at0_divD hc]
  by_cases h1 : posI list (at0 l c) < i ∨ (posI list (at0 l c) = i ∧ c < j)
  · rw [if_pos h1, if_pos (h1.elim .inl fun h => .inr ⟨h.1, by omega⟩)]
  · rw [if_neg h1, if_neg fun h2 => h1 (h2.elim .inl fun h3 => .inr ⟨h3.1, by
      have : c ≠ j := fun e => h (e ▸ h3.1)
      omega⟩)]
theorem divD_next (l list fresh : List Int) (i : Nat) : divD l list fresh i l.length = divD l list fresh (i + 1) 0 := by
  apply at0_ext (by simp)
  intro c hc
  simp only [divD_len] at hc
  rw [at0_divD hc, at0_divD hc]
  by_cases h1 : posI list (at0 l c) < i ∨ (posI list (at0 l c) = i ∧ c < l.length)
  · rw [if_pos h1, if_pos (.inl (by omega))]
  · rw [if_neg h1, if_neg (by omega)]
theorem divD_zero (l list fresh : List Int) : divD l list fresh 0 0 = List.replicate l.length 0 := by
  apply at0_ext (by simp)
  intro c hc
  simp only [divD_len] at hc
  rw [at0_divD hc, if_neg (by omega)]
  simp [at0, hc]
theorem divD_full {l list fresh : List Int} (h : ∀ f ∈ l, f ∈ list) : divD l list fresh list.length 0 = divfP l list fresh l.length := by
  apply at0_ext (by simp)
  intro c hc
  simp only [divD_len] at hc
  rw [at0_divD hc, at0_divfP hc, if_pos (.inl (posI_of (h _ (getD_mem' hc))).1)]
theorem fn_i_DivisionFrom : FnOk Try.prog 108 F_s_DivisionFrom := by
  have env := ((envNil_ok (P := Try.prog)).add fn_i_IsShelling).add fn_i_NewFaces
  refine fn_ok code_i_DivisionFrom mixed env ?_
  intro args r h hb
  obtain ⟨_, _, ⟨n, l⟩, list, rfl, h1, h2, h4⟩ := F2_inv h
  cases dC_inv h1
  cases dL_inv h2
  cases h4
  clear h
  refine ⟨by simp, fun w0 U0 L0 N0 => ?_⟩
  clear hb
  cases hs : shellB n l list with
  | false =>
    have e : divfL n l list = [] := by simp [divfL, hs]
    rw [e]
    simp -implicitDefEqProofs [sc_i_DivisionFrom, F_s_IsShelling, hs]
  | true =>
  have e : divfL n l list = divfP l list (newfP list list.length) l.length := by simp [divfL, hs]
  rw [e]
  have e2 : newfL n l list = newfP list list.length := by simp [newfL, hs]
  have ho := shell_order hs
  have h64 := order_len ho
  obtain ⟨hlen, hnd, hall⟩ := order_all ho
  have hfl : (newfP list list.length).length = list.length := by simp
  rw [← divD_full hall]
  simp -implicitDefEqProofs [sc_i_DivisionFrom, F_s_IsShelling, F_s_NewFaces, hs, e2]
  repeat' (first | omega | apply And.intro)
  generalize newfP list list.length = fresh at *
  have hdz := divD_zero l list fresh
  have inner : ∀ (i : Nat) (Q : Post) (T0 : Tm), i < list.length → subE T0 [(2, .pt 0 0), (6, .sl 1 1 0 list.length), (7, .sl 2 1 0 l.length), (8, .int .i64 (i : Int)), (9, .int .i64 (at0 list i)), (22, .list 1 (ints list)), (23, .int .i64 (list.length : Int)), (24, .int .i64 (i : Int)), (30, .list 1 (ints l)), (31, .int .i64 (l.length : Int)), (32, .int .i64 0)] →
      Q (.exit 2) [(2, .pt 0 0), (6, .sl 1 1 0 list.length), (7, .sl 2 1 0 l.length), (22, .list 1 (ints list)), (23, .int .i64 (list.length : Int)), (24, .int .i64 (i : Int))] ([(2, ints (divD l list fresh (i + 1) 0)), (1, ints fresh), (0, [.int .i64 n, .list 1 (ints l)])], 3) →
      LoopI ⟨Try.prog, w0, U0, L0, N0, 0, 50⟩ [] sc_i_DivisionFrom_L2 Q T0 ([(2, ints (divD l list fresh i 0)), (1, ints fresh), (0, [.int .i64 n, .list 1 (ints l)])], 3) := by
    intro i Q T0 hi hsub q1
    refine loopQ env mixed (fun j : Nat => [(2, .pt 0 0), (6, .sl 1 1 0 list.length), (7, .sl 2 1 0 l.length), (8, .int .i64 (i : Int)), (9, .int .i64 (at0 list i)), (22, .list 1 (ints list)), (23, .int .i64 (list.length : Int)), (24, .int .i64 (i : Int)), (30, .list 1 (ints l)), (31, .int .i64 (l.length : Int)), (32, .int .i64 (j : Int))])
      (fun j => ([(2, ints (divD l list fresh i j)), (1, ints fresh), (0, [.int .i64 n, .list 1 (ints l)])], 3)) (fun j => j ≤ l.length) (fun j => l.length - j) 0 (by simp) (SubI.slots rfl (by simpa using hsub)) ?_
    intro j hj
    by_cases hlt : j < l.length
    · have hf : at0 l j ∈ list := hall _ (getD_mem' hlt)
      have hpe := posI_eq hnd hf hi
      have gl := divD_len l list fresh i j
      by_cases hx : at0 list i = at0 l j
      · have es := divD_hit (fresh := fresh) hlt (hpe.1 hx).symm
        have es2 : ∀ g, g = divD l list fresh i j → g.set j (at0 fresh i) = divD l list fresh i (j + 1) := fun g hg => by rw [hg]; exact es
        simp -implicitDefEqProofs [sc_i_DivisionFrom_L2, hlt, hi, hx, hfl, gl, es]
        repeat' (first | omega | apply And.intro)
        exact Again.of (j + 1) (by omega) (by omega) (SubI.slots (by simp) (by simp (disch := omega) [wrapI, hx]))
      · have es := divD_miss (fresh := fresh) fun h => hx (hpe.2 h.symm)
        simp -implicitDefEqProofs [sc_i_DivisionFrom_L2, hlt, hx]
        repeat' (first | omega | apply And.intro)
        exact Again.of (j + 1) (by omega) (by omega) (SubI.slots (by simp only [es]) (by simp (disch := omega) [wrapI]))
    · have hjl : j = l.length := by omega
      subst hjl
      have es := divD_next l list fresh i
      rw [← es] at q1
      simp -implicitDefEqProofs [sc_i_DivisionFrom_L2]
      exact SubQ.of (SubI.slots rfl (by simp)) q1
  refine loopI env mixed (fun i : Nat => [(2, .pt 0 0), (6, .sl 1 1 0 list.length), (7, .sl 2 1 0 l.length), (22, .list 1 (ints list)), (23, .int .i64 (list.length : Int)), (24, .int .i64 (i : Int))]) (fun i => ([(2, ints (divD l list fresh i 0)), (1, ints fresh), (0, [.int .i64 n, .list 1 (ints l)])], 3)) (fun i => i ≤ list.length) (fun i => list.length - i) 0 (by simp) (SubI.slots (by simp [hdz, hlen]) (by simp [hfl, hlen])) ?_
  intro i hi
  by_cases hlt : i < list.length
  · simp -implicitDefEqProofs [sc_i_DivisionFrom_L0, hlt]
    repeat' (first | omega | apply And.intro)
    refine inner i _ _ hlt (by simp) ?_
    simp -implicitDefEqProofs
    exact Again.of (i + 1) (by omega) (by omega) (SubI.slots (by simp) (by simp (disch := omega) [wrapI]))
  · have hil : i = list.length := by omega
    subst hil
    have gl := divD_len l list fresh list.length 0
    generalize divD l list fresh list.length 0 = g at *
    have ht : g.take l.length = g := List.take_of_length_le (by omega)
    simp -implicitDefEqProofs [sc_i_DivisionFrom_L0, gl, ht]
end Go.Proofs.Ytmemomfffehnkaa
