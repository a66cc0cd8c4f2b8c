import Derived.Test.YtedampaecopkhaaFnH
namespace Go.Proofs.Ytedampaecopkhaa
open Go Go.RowKit
set_option maxRecDepth 1000000
set_option linter.unusedSimpArgs false
set_option linter.unusedVariables false
set_option maxHeartbeats 1000000
def sc_s_l19New_L2 : SC := (.seq (.seq (.reg [⟨(some 20), none, (.mov (.t 8))⟩, ⟨(some 21), none, (.mov (.t 0))⟩, ⟨(some 22), none, (.len (.t 21))⟩, ⟨(some 23), none, (.bin false .lss (.t 20) (.t 22))⟩]) (.cond (.t 23) .skip (.exit 2))) (.seq (.block 3 (.seq (.reg [⟨(some 26), none, (.mov (.t 0))⟩, ⟨(some 27), none, (.mov (.t 8))⟩, ⟨(some 28), none, (.idx 1 (.t 26) (.t 27))⟩, ⟨(some 29), none, (.ld none (.int .i64 0) (.t 28))⟩, ⟨(some 30), none, (.mov (.t 1))⟩, ⟨(some 31), none, (.mov (.t 7))⟩, ⟨(some 32), none, (.bin false .sub (.t 30) (.t 31))⟩, ⟨(some 33), none, (.bin false .and (.t 29) (.t 32))⟩, ⟨(some 34), none, (.mov (.t 1))⟩, ⟨(some 35), none, (.mov (.t 7))⟩, ⟨(some 36), none, (.bin false .sub (.t 34) (.t 35))⟩, ⟨(some 37), none, (.bin false .eql (.t 33) (.t 36))⟩]) (.cond (.t 37) (.reg [⟨(some 38), none, (.mov (.t 5))⟩, ⟨(some 39), none, (.mov (.t 7))⟩, ⟨(some 40), none, (.bin false .or (.t 38) (.t 39))⟩, ⟨(some 5), none, (.mov (.t 40))⟩]) .skip))) (.reg [⟨(some 24), none, (.mov (.t 8))⟩, ⟨(some 25), none, (.bin false .add (.t 24) (.c (.int .i64 1)))⟩, ⟨(some 8), none, (.mov (.t 25))⟩])))
def sc_s_l19New_L0 : SC := (.seq (.seq (.reg [⟨(some 9), none, (.mov (.t 6))⟩, ⟨(some 10), none, (.bin false .lss (.t 9) (.c (.int .i64 6)))⟩]) (.cond (.t 10) .skip (.exit 0))) (.seq (.block 1 (.seq (.reg [⟨(some 13), none, (.mov (.t 6))⟩, ⟨(some 14), none, (.conv .u64 (.t 13))⟩, ⟨(some 15), none, (.bin false .shl (.c (.int .i64 1)) (.t 14))⟩, ⟨(some 7), none, (.mov (.t 15))⟩]) (.seq (.seq (.reg [⟨(some 16), none, (.mov (.t 1))⟩, ⟨(some 17), none, (.mov (.t 7))⟩, ⟨(some 18), none, (.bin false .and (.t 16) (.t 17))⟩, ⟨(some 19), none, (.bin false .eql (.t 18) (.c (.int .i64 0)))⟩]) (.cond (.t 19) (.exit 1) .skip)) (.seq (.reg [⟨(some 8), none, (.mov (.c (.int .i64 0)))⟩]) (.block 2 (.loop sc_s_l19New_L2)))))) (.reg [⟨(some 11), none, (.mov (.t 6))⟩, ⟨(some 12), none, (.bin false .add (.t 11) (.c (.int .i64 1)))⟩, ⟨(some 6), none, (.mov (.t 12))⟩])))
def sc_s_l19New : SC := (.seq (.reg [⟨(some 4), none, (.mov (.c (.int .i64 0)))⟩]) (.seq (.reg [⟨(some 5), none, (.mov (.c (.int .i64 0)))⟩]) (.seq (.seq (.reg [⟨(some 6), none, (.mov (.c (.int .i64 0)))⟩]) (.block 0 (.loop sc_s_l19New_L0))) (.seq (.reg [⟨(some 41), none, (.mov (.t 5))⟩, ⟨(some 4), none, (.mov (.t 41))⟩]) .ret))))
theorem code_s_l19New : fnCode Try.prog [] 69 = some (42, sc_s_l19New, [(4, none)]) := by kernel_rfl
open Classical in
noncomputable def dec (p : Prop) : Bool := decide p
theorem dec_true {p : Prop} (h : p) : dec p = true := by simp [dec, h]
theorem dec_false {p : Prop} (h : ¬ p) : dec p = false := by simp [dec, h]
theorem dec_iff {p : Prop} : dec p = true ↔ p := by simp [dec]
open Classical in
noncomputable def curI (l : List Int) (s : Int) (i : Nat) (o : Int) (k : Nat) : Int := if ∃ j, j < k ∧ band (at0 l j) (s - 2 ^ i) = s - 2 ^ i then bor o (2 ^ i) else o
theorem curI_hit {l : List Int} {s : Int} {i : Nat} {o : Int} {k : Nat} (h : band (at0 l k) (s - 2 ^ i) = s - 2 ^ i) (ho : isS o) (hi : i < 6) : bor (curI l s i o k) (2 ^ i) = curI l s i o (k + 1) := by
  have e : curI l s i o (k + 1) = bor o (2 ^ i) := by
    unfold curI
    rw [if_pos ⟨k, by omega, h⟩]
  rw [e]
  unfold curI
  split
  · exact bor_again ho hi
  · rfl
theorem curI_miss {l : List Int} {s : Int} {i : Nat} {o : Int} {k : Nat} (h : ¬ band (at0 l k) (s - 2 ^ i) = s - 2 ^ i) : curI l s i o (k + 1) = curI l s i o k := by
  have e : (∃ j, j < k + 1 ∧ band (at0 l j) (s - 2 ^ i) = s - 2 ^ i) ↔ ∃ j, j < k ∧ band (at0 l j) (s - 2 ^ i) = s - 2 ^ i := by
    constructor
    · rintro ⟨j, h1, h2⟩
      rcases Nat.lt_succ_iff_lt_or_eq.1 h1 with h3 | rfl
      · exact ⟨j, h3, h2⟩
      · exact absurd h2 h
    · rintro ⟨j, h1, h2⟩
      exact ⟨j, by omega, h2⟩
  unfold curI
  simp only [e]
theorem curI_new {l : List Int} {s : Int} {i : Nat} (ht : tb s i) : curI l s i (newI l s i) l.length = newI l s (i + 1) := by
  have e : (∃ j, j < l.length ∧ band (at0 l j) (s - 2 ^ i) = s - 2 ^ i) ↔ ridge l s i := by
    constructor
    · rintro ⟨j, h1, h2⟩
      exact ⟨ht, _, getD_mem' h1, h2⟩
    · rintro ⟨_, g, h1, h2⟩
      obtain ⟨j, h3, rfl⟩ := getD_mem_iff.1 h1
      exact ⟨j, h3, h2⟩
  unfold curI
  simp only [newI]
  by_cases hr : ridge l s i
  · rw [if_pos hr, if_pos (e.2 hr)]
  · rw [if_neg hr, if_neg fun h => hr (e.1 h)]
open Classical in
noncomputable def F_s_l19New : List V → Option V := F2 dL dI fun l s => if allS l ∧ isS s then some (.int .i64 (newI l s 6)) else none
theorem fn_s_l19New : FnOk Try.prog 69 F_s_l19New := by
  refine fn_ok code_s_l19New mixed envNil_ok ?_
  intro args r h hb
  obtain ⟨_, _, l, s, rfl, h1, h2, h4⟩ := F2_inv h
  cases dL_inv h1
  cases dI_inv h2
  simp only [Option.ite_none_right_eq_some, Option.some.injEq] at h4
  obtain ⟨⟨hl, hs⟩, rfl⟩ := h4
  have hlen := bnd_ints (hb _ (List.mem_cons_self ..))
  refine ⟨by simp, fun w0 U0 L0 N0 => ?_⟩
  have inner : ∀ (i : Nat) (o : Int) (Q : Post) (L : Tm), i < 6 → isS o → tb s i → subE L [(8, .int .i64 0), (0, .list 1 (ints l)), (1, .int .i64 s), (5, .int .i64 o), (6, .int .i64 (i : Int)), (7, .int .i64 (2 ^ i))] →
      Q (.exit 2) [(0, .list 1 (ints l)), (1, .int .i64 s), (5, .int .i64 (curI l s i o l.length)), (6, .int .i64 (i : Int))] ([], 0) → LoopI ⟨Try.prog, w0, U0, L0, N0, 0, 42⟩ [] sc_s_l19New_L2 Q L ([], 0) := by
    intro i o Q L hi ho ht hsub q1
    have hw : IntKind.i64.wrap (s - 2 ^ i) = s - 2 ^ i := by
      have := sub_pow hs hi ht
      exact wrapI _ (by have := this.1; omega) (by have := this.2; omega)
    refine loopQ envNil_ok mixed (fun k : Nat => [(8, .int .i64 (k : Int)), (0, .list 1 (ints l)), (1, .int .i64 s), (5, .int .i64 (curI l s i o k)), (6, .int .i64 (i : Int)), (7, .int .i64 (2 ^ i))]) (fun _ => ([], 0)) (fun k => k ≤ l.length) (fun k => l.length - k) 0 (by simp)
      (SubI.slots rfl (by simpa [curI] using hsub)) ?_
    intro k hk
    by_cases hlt : k < l.length
    · by_cases hit : band (at0 l k) (s - 2 ^ i) = s - 2 ^ i
      · simp -implicitDefEqProofs [sc_s_l19New_L2, hlt, hw, hit]
        refine ⟨by omega, Again.of (k + 1) (by omega) (by omega) (SubI.slots rfl ?_)⟩
        have := curI_hit hit ho hi
        simp (disch := omega) [wrapI, ← this]
      · simp -implicitDefEqProofs [sc_s_l19New_L2, hlt, hw, hit]
        refine ⟨by omega, Again.of (k + 1) (by omega) (by omega) (SubI.slots rfl ?_)⟩
        simp (disch := omega) [wrapI, curI_miss hit]
    · have : k = l.length := by omega
      subst this
      simp -implicitDefEqProofs [sc_s_l19New_L2]
      exact SubQ.of (SubI.slots rfl (by simp)) q1
  simp -implicitDefEqProofs [sc_s_l19New]
  refine loopI envNil_ok mixed (fun i : Nat => [(0, .list 1 (ints l)), (1, .int .i64 s), (5, .int .i64 (newI l s i)), (6, .int .i64 (i : Int))]) (fun _ => ([], 0)) (fun i => i ≤ 6) (fun i => 6 - i) 0 (by simp) (SubI.slots rfl (by simp [newI])) ?_
  intro i hi
  by_cases h6 : i < 6
  · have hu : IntKind.u64.wrap (i : Int) = i := wrapU _ (by omega) (by omega)
    have hsh : IntKind.i64.wrap (2 ^ min i IntKind.i64.bits) = 2 ^ i := by
      have : ∀ i : Nat, i < 6 → IntKind.i64.wrap (2 ^ min i IntKind.i64.bits) = 2 ^ i := by decide +kernel
      exact this i h6
    have h6' : (i : Int) < 6 := by omega
    by_cases ht : band s (2 ^ i) = 0
    · simp -implicitDefEqProofs [sc_s_l19New_L0, h6', hu, hsh, ht]
      have e : newI l s (i + 1) = newI l s i := by
        simp only [newI]
        rw [if_neg]
        exact fun hr => hr.1 ht
      exact Again.of (i + 1) (by omega) (by omega) (SubI.slots rfl (by simp (disch := omega) [wrapI, e]))
    · simp -implicitDefEqProofs [sc_s_l19New_L0, h6', hu, hsh, ht]
      refine inner i _ _ _ h6 (newI_isS l s i (by omega)) ht (by simp) ?_
      simp -implicitDefEqProofs
      refine Again.of (i + 1) (by omega) (by omega) (SubI.slots rfl ?_)
      simp (disch := omega) [wrapI, curI_new ht]
  · have : i = 6 := by omega
    subst this
    simp -implicitDefEqProofs [sc_s_l19New_L0]
def sc_s_l19Fits_L0 : SC := (.seq (.seq (.reg [⟨(some 13), none, (.mov (.t 6))⟩, ⟨(some 14), none, (.mov (.t 0))⟩, ⟨(some 15), none, (.len (.t 14))⟩, ⟨(some 16), none, (.bin false .lss (.t 13) (.t 15))⟩]) (.cond (.t 16) .skip (.exit 0))) (.seq (.block 1 (.seq (.reg [⟨(some 19), none, (.mov (.t 0))⟩, ⟨(some 20), none, (.mov (.t 6))⟩, ⟨(some 21), none, (.idx 1 (.t 19) (.t 20))⟩, ⟨(some 22), none, (.ld none (.int .i64 0) (.t 21))⟩, ⟨(some 23), none, (.mov (.t 1))⟩, ⟨(some 24), none, (.bin false .and (.t 22) (.t 23))⟩, ⟨(some 25), none, (.mov (.t 5))⟩, ⟨(some 26), none, (.bin false .and (.t 24) (.t 25))⟩, ⟨(some 27), none, (.mov (.t 5))⟩, ⟨(some 28), none, (.bin false .eql (.t 26) (.t 27))⟩]) (.cond (.t 28) (.seq (.reg [⟨(some 4), none, (.mov (.c (.bool false)))⟩]) .ret) .skip))) (.reg [⟨(some 17), none, (.mov (.t 6))⟩, ⟨(some 18), none, (.bin false .add (.t 17) (.c (.int .i64 1)))⟩, ⟨(some 6), none, (.mov (.t 18))⟩])))
def sc_s_l19Fits : SC := (.seq (.reg [⟨(some 4), none, (.mov (.c (.bool false)))⟩]) (.seq (.seq (.reg [⟨(some 7), none, (.mov (.t 0))⟩, ⟨(some 8), none, (.len (.t 7))⟩, ⟨(some 9), none, (.bin false .eql (.t 8) (.c (.int .i64 0)))⟩]) (.cond (.t 9) (.seq (.reg [⟨(some 4), none, (.mov (.c (.bool true)))⟩]) .ret) .skip)) (.seq (.reg [⟨(some 10), none, (.mov (.t 0))⟩, ⟨(some 11), none, (.mov (.t 1))⟩, ⟨(some 12), none, (.call 69 [(.t 10), (.t 11)])⟩, ⟨(some 5), none, (.mov (.t 12))⟩]) (.seq (.seq (.reg [⟨(some 6), none, (.mov (.c (.int .i64 0)))⟩]) (.block 0 (.loop sc_s_l19Fits_L0))) (.seq (.reg [⟨(some 4), none, (.mov (.c (.bool true)))⟩]) .ret)))))
theorem code_s_l19Fits : fnCode Try.prog [] 108 = some (29, sc_s_l19Fits, [(4, none)]) := by kernel_rfl
open Classical in
noncomputable def F_s_l19Fits : List V → Option V := F2 dL dI fun l s => if allS l ∧ isS s then some (.bool (dec (fitsS l s))) else none
theorem fn_s_l19Fits : FnOk Try.prog 108 F_s_l19Fits := by
  have env := (envNil_ok (P := Try.prog)).add fn_s_l19New
  refine fn_ok code_s_l19Fits mixed env ?_
  intro args r h hb
  obtain ⟨_, _, l, s, rfl, h1, h2, h4⟩ := F2_inv h
  cases dL_inv h1
  cases dI_inv h2
  simp only [Option.ite_none_right_eq_some, Option.some.injEq] at h4
  obtain ⟨⟨hl, hs⟩, rfl⟩ := h4
  have hlen := bnd_ints (hb _ (List.mem_cons_self ..))
  refine ⟨by simp, fun w0 U0 L0 N0 => ?_⟩
  generalize hv : dec (fitsS l s) = v
  by_cases h0 : l.length = 0
  · have : l = [] := List.eq_nil_of_length_eq_zero h0
    have hv1 : v = true := by rw [← hv]; exact dec_true (.inl this)
    simp -implicitDefEqProofs [sc_s_l19Fits, h0, hv1]
  · simp -implicitDefEqProofs [sc_s_l19Fits, F_s_l19New, hl, hs, h0]
    refine loopI env mixed (fun k : Nat => [(0, .list 1 (ints l)), (1, .int .i64 s), (5, .int .i64 (newI l s 6)), (6, .int .i64 (k : Int))]) (fun _ => ([], 0)) (fun k => k ≤ l.length ∧ ∀ j, j < k → band (band (at0 l j) s) (newI l s 6) ≠ newI l s 6) (fun k => l.length - k) 0 (by simp) (SubI.slots rfl (by simp)) ?_
    rintro k ⟨hk, hn⟩
    by_cases hlt : k < l.length
    · by_cases he : band (band (at0 l k) s) (newI l s 6) = newI l s 6
      · have hv1 : v = false := by
          rw [← hv]
          refine dec_false ?_
          rintro (rfl | hf)
          · simp at h0
          · exact hf _ (getD_mem' hlt) he
        simp -implicitDefEqProofs [sc_s_l19Fits_L0, hlt, he, hv1]
        omega
      · simp -implicitDefEqProofs [sc_s_l19Fits_L0, hlt, he]
        refine ⟨by omega, Again.of (k + 1) ⟨by omega, fun j hj => ?_⟩ (by omega) (SubI.slots rfl (by simp (disch := omega) [wrapI]))⟩
        rcases Nat.lt_succ_iff_lt_or_eq.1 hj with h1 | rfl
        · exact hn j h1
        · exact he
    · have hv1 : v = true := by
        rw [← hv]
        refine dec_true (.inr fun g hg => ?_)
        obtain ⟨j, hj, rfl⟩ := getD_mem_iff.1 hg
        exact hn j (by omega)
      simp -implicitDefEqProofs [sc_s_l19Fits_L0, hlt, hv1]
def sc_i_newPart_L0 : SC := (.seq (.reg [⟨(some 12), none, (.bin false .lss (.t 11) (.t 10))⟩]) (.seq (.cond (.t 12) .skip (.exit 0)) (.seq (.block 1 (.seq (.reg [⟨(some 13), none, (.idx 1 (.t 9) (.t 11))⟩, ⟨(some 14), none, (.ld none (.int .i64 0) (.t 13))⟩, ⟨(some 7), none, (.mov (.t 14))⟩]) (.seq (.reg [⟨(some 15), none, (.mov (.t 1))⟩, ⟨(some 16), none, (.mov (.t 7))⟩, ⟨(some 17), none, (.bin false .andNot (.t 15) (.t 16))⟩, ⟨(some 8), none, (.mov (.t 17))⟩]) (.seq (.reg [⟨(some 18), none, (.mov (.t 8))⟩, ⟨(some 19), none, (.call 89 [(.t 18)])⟩, ⟨(some 20), none, (.bin false .eql (.t 19) (.c (.int .i64 1)))⟩]) (.cond (.t 20) (.reg [⟨(some 21), none, (.mov (.t 5))⟩, ⟨(some 22), none, (.mov (.t 8))⟩, ⟨(some 23), none, (.bin false .or (.t 21) (.t 22))⟩, ⟨(some 5), none, (.mov (.t 23))⟩]) .skip))))) (.reg [⟨(some 24), none, (.bin false .add (.t 11) (.c (.int .i64 1)))⟩, ⟨(some 11), none, (.mov (.t 24))⟩]))))
def sc_i_newPart : SC := (.seq (.reg [⟨(some 4), none, (.mov (.c (.int .i64 0)))⟩]) (.seq (.reg [⟨(some 5), none, (.mov (.c (.int .i64 0)))⟩]) (.seq (.seq (.reg [⟨(some 9), none, (.mov (.t 0))⟩, ⟨(some 10), none, (.len (.t 9))⟩, ⟨(some 11), none, (.mov (.c (.int .i64 0)))⟩]) (.block 0 (.loop sc_i_newPart_L0))) (.seq (.reg [⟨(some 25), none, (.mov (.t 5))⟩, ⟨(some 4), none, (.mov (.t 25))⟩]) .ret))))
theorem code_i_newPart : fnCode Try.prog [] 71 = some (26, sc_i_newPart, [(4, none)]) := by kernel_rfl
open Classical in
noncomputable def F_i_newPart : List V → Option V := F2 dL dI fun l s => if allS l ∧ isS s then some (.int .i64 (partI l s)) else none
theorem fn_i_newPart : FnOk Try.prog 71 F_i_newPart := by
  have env := (envNil_ok (P := Try.prog)).add fn_i_SizeOf
  refine fn_ok code_i_newPart mixed env ?_
  intro args r h hb
  obtain ⟨_, _, l, s, rfl, h1, h2, h4⟩ := F2_inv h
  cases dL_inv h1
  cases dI_inv h2
  simp only [Option.ite_none_right_eq_some, Option.some.injEq] at h4
  obtain ⟨⟨hl, hs⟩, rfl⟩ := h4
  have hlen := bnd_ints (hb _ (List.mem_cons_self ..))
  refine ⟨by simp, fun w0 U0 L0 N0 => ?_⟩
  simp -implicitDefEqProofs [sc_i_newPart]
  refine loopI env mixed (fun k : Nat => [(1, .int .i64 s), (5, .int .i64 (partI (l.take k) s)), (9, .list 1 (ints l)), (10, .int .i64 l.length), (11, .int .i64 (k : Int))]) (fun _ => ([], 0)) (fun k => k ≤ l.length) (fun k => l.length - k) 0 (by simp) (SubI.slots rfl (by simp [partI])) ?_
  intro k hk
  by_cases hlt : k < l.length
  · by_cases he : sizeOf1 (bnot s (at0 l k)) = 1
    · simp -implicitDefEqProofs [sc_i_newPart_L0, F_i_SizeOf, hlt, he]
      refine ⟨by omega, Again.of (k + 1) (by omega) (by omega) (SubI.slots rfl ?_)⟩
      simp (disch := omega) [wrapI, partI_step hlt, he]
    · simp -implicitDefEqProofs [sc_i_newPart_L0, F_i_SizeOf, hlt, he]
      refine ⟨by omega, Again.of (k + 1) (by omega) (by omega) (SubI.slots rfl ?_)⟩
      simp (disch := omega) [wrapI, partI_step hlt, he]
  · have : k = l.length := by omega
    subst this
    simp -implicitDefEqProofs [sc_i_newPart_L0]
def sc_i_shellFits_L0 : SC := (.seq (.reg [⟨(some 14), none, (.bin false .lss (.t 13) (.t 12))⟩]) (.seq (.cond (.t 14) .skip (.exit 0)) (.seq (.block 1 (.seq (.reg [⟨(some 15), none, (.idx 1 (.t 11) (.t 13))⟩, ⟨(some 16), none, (.ld none (.int .i64 0) (.t 15))⟩, ⟨(some 7), none, (.mov (.t 16))⟩]) (.seq (.reg [⟨(some 17), none, (.mov (.t 5))⟩, ⟨(some 18), none, (.mov (.t 7))⟩, ⟨(some 19), none, (.bin false .andNot (.t 17) (.t 18))⟩, ⟨(some 20), none, (.bin false .eql (.t 19) (.c (.int .i64 0)))⟩]) (.cond (.t 20) (.seq (.reg [⟨(some 4), none, (.mov (.c (.bool false)))⟩]) .ret) .skip)))) (.reg [⟨(some 21), none, (.bin false .add (.t 13) (.c (.int .i64 1)))⟩, ⟨(some 13), none, (.mov (.t 21))⟩]))))
def sc_i_shellFits : SC := (.seq (.reg [⟨(some 4), none, (.mov (.c (.bool false)))⟩]) (.seq (.reg [⟨(some 8), none, (.mov (.t 0))⟩, ⟨(some 9), none, (.mov (.t 1))⟩, ⟨(some 10), none, (.call 71 [(.t 8), (.t 9)])⟩, ⟨(some 5), none, (.mov (.t 10))⟩]) (.seq (.seq (.reg [⟨(some 11), none, (.mov (.t 0))⟩, ⟨(some 12), none, (.len (.t 11))⟩, ⟨(some 13), none, (.mov (.c (.int .i64 0)))⟩]) (.block 0 (.loop sc_i_shellFits_L0))) (.seq (.reg [⟨(some 4), none, (.mov (.c (.bool true)))⟩]) .ret))))
theorem code_i_shellFits : fnCode Try.prog [] 110 = some (22, sc_i_shellFits, [(4, none)]) := by kernel_rfl
open Classical in
noncomputable def F_i_shellFits : List V → Option V := F2 dL dI fun l s => if allS l ∧ isS s then some (.bool (dec (fitsI l s))) else none
theorem fn_i_shellFits : FnOk Try.prog 110 F_i_shellFits := by
  have env := (envNil_ok (P := Try.prog)).add fn_i_newPart
  refine fn_ok code_i_shellFits mixed env ?_
  intro args r h hb
  obtain ⟨_, _, l, s, rfl, h1, h2, h4⟩ := F2_inv h
  cases dL_inv h1
  cases dI_inv h2
  simp only [Option.ite_none_right_eq_some, Option.some.injEq] at h4
  obtain ⟨⟨hl, hs⟩, rfl⟩ := h4
  have hlen := bnd_ints (hb _ (List.mem_cons_self ..))
  refine ⟨by simp, fun w0 U0 L0 N0 => ?_⟩
  generalize hv : dec (fitsI l s) = v
  simp -implicitDefEqProofs [sc_i_shellFits, F_i_newPart, hl, hs]
  refine loopI env mixed (fun k : Nat => [(5, .int .i64 (partI l s)), (11, .list 1 (ints l)), (12, .int .i64 l.length), (13, .int .i64 (k : Int))]) (fun _ => ([], 0)) (fun k => k ≤ l.length ∧ ∀ j, j < k → bnot (partI l s) (at0 l j) ≠ 0) (fun k => l.length - k) 0 (by simp) (SubI.slots rfl (by simp)) ?_
  rintro k ⟨hk, hn⟩
  by_cases hlt : k < l.length
  · by_cases he : bnot (partI l s) (at0 l k) = 0
    · have hv1 : v = false := by
        rw [← hv]
        exact dec_false fun hf => hf _ (getD_mem' hlt) he
      simp -implicitDefEqProofs [sc_i_shellFits_L0, hlt, he, hv1]
      omega
    · simp -implicitDefEqProofs [sc_i_shellFits_L0, hlt, he]
      refine ⟨by omega, Again.of (k + 1) ⟨by omega, fun j hj => ?_⟩ (by omega) (SubI.slots rfl (by simp (disch := omega) [wrapI]))⟩
      rcases Nat.lt_succ_iff_lt_or_eq.1 hj with h1 | rfl
      · exact hn j h1
      · exact he
  · have hv1 : v = true := by
      rw [← hv]
      refine dec_true fun g hg => ?_
      obtain ⟨j, hj, rfl⟩ := getD_mem_iff.1 hg
      exact hn j (by omega)
    simp -implicitDefEqProofs [sc_i_shellFits_L0, hlt, hv1]
end Go.Proofs.Ytedampaecopkhaa
