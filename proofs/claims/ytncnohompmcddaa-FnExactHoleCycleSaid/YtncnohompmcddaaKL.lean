import Derived.Test.YtncnohompmcddaaKJ
import Derived.Test.YtncnohompmcddaaKG
namespace Go.Proofs.Ytncnohompmcddaa
open Go Go.RowKit
set_option maxRecDepth 1000000
set_option linter.unusedSimpArgs false
set_option linter.unusedVariables false
set_option maxHeartbeats 1000000
def sc_s_l5Link_L0 : SC := (.seq (.seq (.reg [⟨(some 8), none, (.mov (.t 6))⟩, ⟨(some 9), none, (.fad 1 (.t 2))⟩, ⟨(some 10), none, (.ld none .nil (.t 9))⟩, ⟨(some 11), none, (.len (.t 10))⟩, ⟨(some 12), none, (.bin false .lss (.t 8) (.t 11))⟩]) (.cond (.t 12) .skip (.exit 0))) (.seq (.block 1 (.seq (.reg [⟨(some 15), none, (.fad 1 (.t 2))⟩, ⟨(some 16), none, (.ld none .nil (.t 15))⟩, ⟨(some 17), none, (.mov (.t 6))⟩, ⟨(some 18), none, (.idx 1 (.t 16) (.t 17))⟩, ⟨(some 19), none, (.ld none (.int .i64 0) (.t 18))⟩, ⟨(some 20), none, (.mov (.t 1))⟩, ⟨(some 21), none, (.bin false .and (.t 19) (.t 20))⟩, ⟨(some 22), none, (.mov (.t 1))⟩, ⟨(some 23), none, (.bin false .eql (.t 21) (.t 22))⟩]) (.cond (.t 23) (.reg [⟨(some 24), none, (.mov (.t 5))⟩, ⟨(some 25), none, (.fad 1 (.t 2))⟩, ⟨(some 26), none, (.ld none .nil (.t 25))⟩, ⟨(some 27), none, (.mov (.t 6))⟩, ⟨(some 28), none, (.idx 1 (.t 26) (.t 27))⟩, ⟨(some 29), none, (.ld none (.int .i64 0) (.t 28))⟩, ⟨(some 30), none, (.mov (.t 1))⟩, ⟨(some 31), none, (.bin false .sub (.t 29) (.t 30))⟩, ⟨(some 32), none, (.mks 1 1 [(.int .i64 0)] [(0, (1, (.t 31)))])⟩, ⟨(some 33), none, (.app 1 8 (.t 24) (.t 32))⟩, ⟨(some 5), none, (.mov (.t 33))⟩]) .skip))) (.reg [⟨(some 13), none, (.mov (.t 6))⟩, ⟨(some 14), none, (.bin false .add (.t 13) (.c (.int .i64 1)))⟩, ⟨(some 6), none, (.mov (.t 14))⟩])))
def sc_s_l5Link : SC := (.seq (.reg [⟨(some 2), none, (.box (.t 0))⟩, ⟨(some 4), none, (.new [(.int .i64 0), .nil])⟩]) (.seq (.reg [⟨(some 7), none, (.mks 0 1 [] [])⟩, ⟨(some 5), none, (.mov (.t 7))⟩]) (.seq (.seq (.reg [⟨(some 6), none, (.mov (.c (.int .i64 0)))⟩]) (.block 0 (.loop sc_s_l5Link_L0))) (.seq (.reg [⟨(some 34), none, (.fad 0 (.t 2))⟩, ⟨(some 35), none, (.ld none (.int .i64 0) (.t 34))⟩, ⟨(some 36), none, (.mov (.t 5))⟩, ⟨(some 37), none, (.call 75 [(.t 35), (.t 36)])⟩, ⟨none, none, (.st 2 (.t 4) (.t 37))⟩]) .ret))))
theorem code_s_l5Link : fnCode Try.prog [] 35 = some (38, sc_s_l5Link, [(4, (some 2))]) := by kernel_rfl
theorem lnkL_pos {l : List Int} {k : Nat} (h : k < l.length) {s : Int} (hq : subS s (at0 l k)) : lnkL (l.take (k + 1)) s = lnkL (l.take k) s ++ [at0 l k - s] := by
  unfold lnkL
  rw [filt_pos h (dec_true hq), List.map_append]
  rfl
theorem lnkL_neg {l : List Int} {k : Nat} (h : k < l.length) {s : Int} (hq : ¬ subS s (at0 l k)) : lnkL (l.take (k + 1)) s = lnkL (l.take k) s := by
  unfold lnkL
  rw [filt_neg h (dec_false hq)]
theorem lnkL_len (l : List Int) (k : Nat) (s : Int) : (lnkL (l.take k) s).length ≤ l.length := by
  unfold lnkL
  rw [List.length_map]
  exact filt_len l k _
noncomputable def F_s_l5Link : List V → Option V := F2 dC dI fun c s => @ite _ (allS c.2 ∧ c.2.length ≤ 64 ∧ isS s) (Classical.propDecidable _) (some (.agg [.int .i64 c.1, .own 1 (ints (setsOf (maxP (lnkP (faceS c.2) s))))])) none
theorem fn_s_l5Link : FnOk Try.prog 35 F_s_l5Link := by
  have env := (envNil_ok (P := Try.prog)).add fn_s_l3Make
  refine fn_ok code_s_l5Link mixed env ?_
  intro args r h hb
  obtain ⟨_, _, ⟨n, l⟩, s, rfl, h1, h2, h4⟩ := F2_inv h
  cases dC_inv h1
  cases dI_inv h2
  clear h
  simp only [Option.ite_none_right_eq_some, Option.some.injEq] at h4
  obtain ⟨⟨hS, hl, hs⟩, rfl⟩ := h4
  have hF : F_s_l3Make [.int .i64 n, .list 1 (ints (lnkL l s))] = some (.agg [.int .i64 n, .own 1 (ints (setsOf (maxP (lnkP (faceS l) s))))]) := by
    simp only [F_s_l3Make, F2_mk, dL_list, dI_int, Option.bind_some]
    rw [if_pos (allS_lnkL hS hs), setsOf_congr fun t ht => lnkL_max hS hs ht]
  refine ⟨by simp, fun w0 U0 L0 N0 => ?_⟩
  clear hb
  simp -implicitDefEqProofs [sc_s_l5Link]
  refine loopI env mixed (fun k : Nat => [(1, .int .i64 s), (2, .pt 0 0), (4, .pt 1 0), (5, .sl 2 1 0 (lnkL (l.take k) s).length), (6, .int .i64 (k : Int))]) (fun k => ([(2, ints (lnkL (l.take k) s)), (1, [.int .i64 0, .nil]), (0, [.int .i64 n, .list 1 (ints l)])], 3)) (fun k => k ≤ l.length) (fun k => l.length - k) 0 (by simp) (SubI.slots (by simp [lnkL]) (by simp [lnkL])) ?_
  intro k hk
  have gl := lnkL_len l k s
  by_cases hlt : k < l.length
  · have hf := allS_at hS hlt
    by_cases h1 : band (at0 l k) s = s
    · have hsub := (subS_iff' hs hf).2 h1
      have e := lnkL_pos hlt hsub
      have hw : IntKind.i64.wrap (at0 l k - s) = at0 l k - s := wrapI _ (by have := hf.1; have := hs.2; omega) (by have := hf.2; have := hs.1; omega)
      generalize lnkL (l.take k) s = g at *
      simp -implicitDefEqProofs [sc_s_l5Link_L0, hlt, h1, hw]
      repeat' (first | omega | apply And.intro)
      refine Again.of (k + 1) (by omega) (by omega) (SubI.ren (fun m => if m = 0 then some 0 else if m = 1 then some 1 else if m = 2 then some 4 else none) ?_ ?_ ?_ (by simp) (by simp))
      · simp only [e]
        simp (disch := omega) [subT, renV, ren1, wrapI]
      · simp only [e]
        simp [subH, renL, ren1]
        rw [← ints_app]
        rfl
      · intro m hm
        simp only at hm
        rw [if_neg (by omega), if_neg (by omega), if_neg (by omega)]
    · have e := lnkL_neg hlt fun h => h1 ((subS_iff' hs hf).1 h)
      generalize lnkL (l.take k) s = g at *
      simp -implicitDefEqProofs [sc_s_l5Link_L0, hlt, h1]
      repeat' (first | omega | apply And.intro)
      exact Again.of (k + 1) (by omega) (by omega) (SubI.slots (by simp only [e]) (by simp only [e]; simp (disch := omega) [wrapI]))
  · have : k = l.length := by omega
    subst this
    rw [List.take_length] at *
    generalize lnkL l s = g at *
    generalize setsOf (maxP (lnkP (faceS l) s)) = R at *
    simp -implicitDefEqProofs [sc_s_l5Link_L0, hF]
def sc_s_l5Without_L0 : SC := (.seq (.seq (.reg [⟨(some 11), none, (.mov (.t 7))⟩, ⟨(some 12), none, (.mov (.t 6))⟩, ⟨(some 13), none, (.len (.t 12))⟩, ⟨(some 14), none, (.bin false .lss (.t 11) (.t 13))⟩]) (.cond (.t 14) .skip (.exit 0))) (.seq (.block 1 (.seq (.reg [⟨(some 17), none, (.mov (.t 6))⟩, ⟨(some 18), none, (.mov (.t 7))⟩, ⟨(some 19), none, (.idx 1 (.t 17) (.t 18))⟩, ⟨(some 20), none, (.ld none (.int .i64 0) (.t 19))⟩, ⟨(some 21), none, (.mov (.t 1))⟩, ⟨(some 22), none, (.bin false .and (.t 20) (.t 21))⟩, ⟨(some 23), none, (.mov (.t 1))⟩, ⟨(some 24), none, (.bin false .neq (.t 22) (.t 23))⟩]) (.cond (.t 24) (.reg [⟨(some 25), none, (.mov (.t 5))⟩, ⟨(some 26), none, (.mov (.t 6))⟩, ⟨(some 27), none, (.mov (.t 7))⟩, ⟨(some 28), none, (.idx 1 (.t 26) (.t 27))⟩, ⟨(some 29), none, (.ld none (.int .i64 0) (.t 28))⟩, ⟨(some 30), none, (.mks 1 1 [(.int .i64 0)] [(0, (1, (.t 29)))])⟩, ⟨(some 31), none, (.app 1 8 (.t 25) (.t 30))⟩, ⟨(some 5), none, (.mov (.t 31))⟩]) .skip))) (.reg [⟨(some 15), none, (.mov (.t 7))⟩, ⟨(some 16), none, (.bin false .add (.t 15) (.c (.int .i64 1)))⟩, ⟨(some 7), none, (.mov (.t 16))⟩])))
def sc_s_l5Without : SC := (.seq (.reg [⟨(some 2), none, (.box (.t 0))⟩, ⟨(some 4), none, (.new [(.int .i64 0), .nil])⟩]) (.seq (.reg [⟨(some 8), none, (.mks 0 1 [] [])⟩, ⟨(some 5), none, (.mov (.t 8))⟩]) (.seq (.reg [⟨(some 9), none, (.ld (some 2) .undef (.t 2))⟩, ⟨(some 10), none, (.call 32 [(.t 9)])⟩, ⟨(some 6), none, (.mov (.t 10))⟩]) (.seq (.seq (.reg [⟨(some 7), none, (.mov (.c (.int .i64 0)))⟩]) (.block 0 (.loop sc_s_l5Without_L0))) (.seq (.reg [⟨(some 32), none, (.fad 0 (.t 2))⟩, ⟨(some 33), none, (.ld none (.int .i64 0) (.t 32))⟩, ⟨(some 34), none, (.mov (.t 5))⟩, ⟨(some 35), none, (.call 75 [(.t 33), (.t 34)])⟩, ⟨none, none, (.st 2 (.t 4) (.t 35))⟩]) .ret)))))
noncomputable def F_s_l5Without : List V → Option V := F2 dC dI fun c s => @ite _ (cplx c.1 c.2 ∧ isS s) (Classical.propDecidable _) (some (.agg [.int .i64 c.1, .own 1 (ints (setsOf (maxP (wtoP (faceS c.2) s))))])) none
end Go.Proofs.Ytncnohompmcddaa
namespace Go.Proofs.Ytncnohompmcddaa
open Go Go.RowKit
set_option maxRecDepth 1000000
set_option linter.unusedSimpArgs false
set_option linter.unusedVariables false
set_option maxHeartbeats 1000000
def sc_s_IsShedding_L0 : SC := (.seq (.seq (.reg [⟨(some 37), none, (.mov (.t 7))⟩, ⟨(some 38), none, (.fad 1 (.t 5))⟩, ⟨(some 39), none, (.ld none .nil (.t 38))⟩, ⟨(some 40), none, (.len (.t 39))⟩, ⟨(some 41), none, (.bin false .lss (.t 37) (.t 40))⟩]) (.cond (.t 41) .skip (.exit 0))) (.seq (.block 1 (.seq (.dreg [⟨⟨(some 44), none, (.fad 1 (.t 6))⟩, false, false⟩, ⟨⟨(some 45), none, (.ld none .nil (.t 44))⟩, false, false⟩, ⟨⟨(some 46), none, (.fad 1 (.t 5))⟩, false, false⟩, ⟨⟨(some 47), none, (.ld none .nil (.t 46))⟩, false, false⟩, ⟨⟨(some 48), none, (.mov (.t 7))⟩, false, false⟩, ⟨⟨(some 49), none, (.idx 1 (.t 47) (.t 48))⟩, false, false⟩, ⟨⟨(some 50), none, (.ld none (.int .i64 0) (.t 49))⟩, false, false⟩, ⟨⟨(some 51), none, (.call 54 [(.t 45), (.t 50)])⟩, false, false⟩]) (.cond (.t 51) (.seq (.reg [⟨(some 4), none, (.mov (.c (.bool false)))⟩]) .ret) .skip))) (.reg [⟨(some 42), none, (.mov (.t 7))⟩, ⟨(some 43), none, (.bin false .add (.t 42) (.c (.int .i64 1)))⟩, ⟨(some 7), none, (.mov (.t 43))⟩])))
/-- A point that can be taken away from a family. -/
def shedQ (p : Int → Prop) (i : Nat) : Prop := p (2 ^ i) ∧ ∀ t, isS t → maxP (lnkP p (2 ^ i)) t → ¬ maxP (wtoP p (2 ^ i)) t
theorem lnkP_congr {p q : Int → Prop} (h : ∀ s, isS s → (p s ↔ q s)) {s t : Int} (hs : isS s) (ht : isS t) : lnkP p s t ↔ lnkP q s t := by
  unfold lnkP
  rw [h _ (isS_bor ht hs)]
theorem wtoP_congr {p q : Int → Prop} (h : ∀ s, isS s → (p s ↔ q s)) {s t : Int} (ht : isS t) : wtoP p s t ↔ wtoP q s t := by
  unfold wtoP
  rw [h _ ht]
theorem shedQ_congr {p q : Int → Prop} (h : ∀ s, isS s → (p s ↔ q s)) {i : Nat} (hi : i < 6) : shedQ p i ↔ shedQ q i := by
  have hs := isS_pow hi
  unfold shedQ
  rw [h _ hs]
  have e1 : ∀ t, isS t → (maxP (lnkP p (2 ^ i)) t ↔ maxP (lnkP q (2 ^ i)) t) := fun t ht => maxP_congr (fun u hu => lnkP_congr h hs hu) ht
  have e2 : ∀ t, isS t → (maxP (wtoP p (2 ^ i)) t ↔ maxP (wtoP q (2 ^ i)) t) := fun t ht => maxP_congr (fun u hu => wtoP_congr h hu) ht
  constructor
  · rintro ⟨a, b⟩; exact ⟨a, fun t ht h1 h2 => b t ht ((e1 t ht).2 h1) ((e2 t ht).2 h2)⟩
  · rintro ⟨a, b⟩; exact ⟨a, fun t ht h1 h2 => b t ht ((e1 t ht).1 h1) ((e2 t ht).1 h2)⟩
theorem shl6 {i : Nat} (hi : i < 6) : IntKind.i64.wrap (2 ^ min i IntKind.i64.bits) = 2 ^ i := by
  have : ∀ i : Nat, i < 6 → IntKind.i64.wrap (2 ^ min i IntKind.i64.bits) = 2 ^ i := by decide +kernel
  exact this i hi
def shdP (n : Int) (l : List Int) (x : Int) : Prop := cplx n l ∧ 0 ≤ x ∧ x < n ∧ shedQ (faceS l) x.toNat
noncomputable def F_s_IsShedding : List V → Option V := F2 dC dI fun c x => @ite _ (inR x) (Classical.propDecidable _) (some (.bool (dec (shdP c.1 c.2 x)))) none
theorem cplx_len {n : Int} {l : List Int} (h : cplx n l) : l.length ≤ 64 := by
  have hp : l.Nodup := by
    refine List.pairwise_iff_getElem.2 ?_
    intro i j hi hj hij e
    have hb := cplx_before h hij hj
    have e1 : at0 l i = at0 l j := by rw [at0_eq hi, at0_eq hj, e]
    rw [e1] at hb
    simp only [before, decide_eq_true_eq] at hb
    omega
  exact nodup_len hp (cplx_isS h)
end Go.Proofs.Ytncnohompmcddaa
