import Derived.Test.YtedampaecopkhaaFpD
namespace Go.Proofs.Ytedampaecopkhaa
open Go Go.RowKit
set_option maxRecDepth 1000000
set_option linter.unusedSimpArgs false
set_option linter.unusedVariables false
set_option maxHeartbeats 1000000
def sc_s_IsShedding_L0 : SC := (.seq (.seq (.reg [⟨(some 37), none, (.mov (.t 7))⟩, ⟨(some 38), none, (.fad 1 (.t 5))⟩, ⟨(some 39), none, (.ld none .nil (.t 38))⟩, ⟨(some 40), none, (.len (.t 39))⟩, ⟨(some 41), none, (.bin false .lss (.t 37) (.t 40))⟩]) (.cond (.t 41) .skip (.exit 0))) (.seq (.block 1 (.seq (.dreg [⟨⟨(some 44), none, (.fad 1 (.t 6))⟩, false, false⟩, ⟨⟨(some 45), none, (.ld none .nil (.t 44))⟩, false, false⟩, ⟨⟨(some 46), none, (.fad 1 (.t 5))⟩, false, false⟩, ⟨⟨(some 47), none, (.ld none .nil (.t 46))⟩, false, false⟩, ⟨⟨(some 48), none, (.mov (.t 7))⟩, false, false⟩, ⟨⟨(some 49), none, (.idx 1 (.t 47) (.t 48))⟩, false, false⟩, ⟨⟨(some 50), none, (.ld none (.int .i64 0) (.t 49))⟩, false, false⟩, ⟨⟨(some 51), none, (.call 76 [(.t 45), (.t 50)])⟩, false, false⟩]) (.cond (.t 51) (.seq (.reg [⟨(some 4), none, (.mov (.c (.bool false)))⟩]) .ret) .skip))) (.reg [⟨(some 42), none, (.mov (.t 7))⟩, ⟨(some 43), none, (.bin false .add (.t 42) (.c (.int .i64 1)))⟩, ⟨(some 7), none, (.mov (.t 43))⟩])))
def sc_s_IsShedding : SC := (.seq (.reg [⟨(some 2), none, (.box (.t 0))⟩, ⟨(some 4), none, (.mov (.c (.bool false)))⟩]) (.seq (.seq (.reg [⟨(some 8), none, (.ld (some 2) .undef (.t 2))⟩, ⟨(some 9), none, (.call 56 [(.t 8)])⟩, ⟨(some 10), none, (.un .not (.t 9))⟩, ⟨(some 11), none, (.mov (.t 10))⟩, ⟨(some 12), (some (11, false)), (.mov (.t 1))⟩, ⟨(some 13), (some (11, false)), (.fad 0 (.t 2))⟩, ⟨(some 14), (some (11, false)), (.ld none (.int .i64 0) (.t 13))⟩, ⟨(some 15), (some (11, false)), (.bin false .sub (.t 14) (.c (.int .i64 1)))⟩, ⟨(some 16), (some (11, false)), (.call 58 [(.t 12), (.c (.int .i64 0)), (.t 15)])⟩, ⟨(some 17), (some (11, false)), (.un .not (.t 16))⟩, ⟨(some 18), none, (.pick (.t 11) (.c (.bool true)) (.t 17))⟩, ⟨(some 19), none, (.mov (.t 18))⟩, ⟨(some 20), (some (19, false)), (.ld (some 2) .undef (.t 2))⟩, ⟨(some 21), (some (19, false)), (.mov (.t 1))⟩, ⟨(some 22), (some (19, false)), (.conv .u64 (.t 21))⟩, ⟨(some 23), (some (19, false)), (.bin false .shl (.c (.int .i64 1)) (.t 22))⟩, ⟨(some 24), (some (19, false)), (.call 75 [(.t 20), (.t 23)])⟩, ⟨(some 25), (some (19, false)), (.un .not (.t 24))⟩, ⟨(some 26), none, (.pick (.t 19) (.c (.bool true)) (.t 25))⟩]) (.cond (.t 26) (.seq (.reg [⟨(some 4), none, (.mov (.c (.bool false)))⟩]) .ret) .skip)) (.seq (.reg [⟨(some 27), none, (.ld (some 2) .undef (.t 2))⟩, ⟨(some 28), none, (.mov (.t 1))⟩, ⟨(some 29), none, (.conv .u64 (.t 28))⟩, ⟨(some 30), none, (.bin false .shl (.c (.int .i64 1)) (.t 29))⟩, ⟨(some 31), none, (.call 97 [(.t 27), (.t 30)])⟩, ⟨(some 5), none, (.new [(.int .i64 0), .nil])⟩, ⟨none, none, (.st 2 (.t 5) (.t 31))⟩]) (.seq (.reg [⟨(some 32), none, (.ld (some 2) .undef (.t 2))⟩, ⟨(some 33), none, (.mov (.t 1))⟩, ⟨(some 34), none, (.conv .u64 (.t 33))⟩, ⟨(some 35), none, (.bin false .shl (.c (.int .i64 1)) (.t 34))⟩, ⟨(some 36), none, (.call 98 [(.t 32), (.t 35)])⟩, ⟨(some 6), none, (.new [(.int .i64 0), .nil])⟩, ⟨none, none, (.st 2 (.t 6) (.t 36))⟩]) (.seq (.seq (.reg [⟨(some 7), none, (.mov (.c (.int .i64 0)))⟩]) (.block 0 (.loop sc_s_IsShedding_L0))) (.seq (.reg [⟨(some 4), none, (.mov (.c (.bool true)))⟩]) .ret))))))
theorem code_s_IsShedding : fnCode Try.prog [] 51 = some (52, sc_s_IsShedding, [(4, none)]) := by kernel_rfl
/-- A point that can be taken away from a family. -/
def shedQ (p : Int → Prop) (i : Nat) : Prop := p (2 ^ i) ∧ ∀ t, isS t → maxP (lnkP p (2 ^ i)) t → ¬ maxP (wtoP p (2 ^ i)) t
theorem lnkP_congr {p q : Int → Prop} (h : ∀ s, isS s → (p s ↔ q s)) {s t : Int} (hs : isS s) (ht : isS t) : lnkP p s t ↔ lnkP q s t := by
  unfold lnkP
  rw [h _ (isS_bor ht hs)]
theorem wtoP_congr {p q : Int → Prop} (h : ∀ s, isS s → (p s ↔ q s)) {s t : Int} (ht : isS t) : wtoP p s t ↔ wtoP q s t := by
  unfold wtoP
  rw [h _ ht]
theorem shedQ_congr {p q : Int → Prop} (h : ∀ s, isS s → (p s ↔ q s)) {i : Nat} (hi : i < 6) : shedQ p i ↔ shedQ q i := by
  have hs := isS_pow hi
  unfold shedQ
  rw [h _ hs]
  have e1 : ∀ t, isS t → (maxP (lnkP p (2 ^ i)) t ↔ maxP (lnkP q (2 ^ i)) t) := fun t ht => maxP_congr (fun u hu => lnkP_congr h hs hu) ht
  have e2 : ∀ t, isS t → (maxP (wtoP p (2 ^ i)) t ↔ maxP (wtoP q (2 ^ i)) t) := fun t ht => maxP_congr (fun u hu => wtoP_congr h hu) ht
  constructor
  · rintro ⟨a, b⟩; exact ⟨a, fun t ht h1 h2 => b t ht ((e1 t ht).2 h1) ((e2 t ht).2 h2)⟩
  · rintro ⟨a, b⟩; exact ⟨a, fun t ht h1 h2 => b t ht ((e1 t ht).1 h1) ((e2 t ht).1 h2)⟩
theorem shl6 {i : Nat} (hi : i < 6) : IntKind.i64.wrap (2 ^ min i IntKind.i64.bits) = 2 ^ i := by
  have : ∀ i : Nat, i < 6 → IntKind.i64.wrap (2 ^ min i IntKind.i64.bits) = 2 ^ i := by decide +kernel
  exact this i hi
def shdP (n : Int) (l : List Int) (x : Int) : Prop := cplx n l ∧ 0 ≤ x ∧ x < n ∧ shedQ (faceS l) x.toNat
noncomputable def F_s_IsShedding : List V → Option V := F2 dC dI fun c x => @ite _ (inR x) (Classical.propDecidable _) (some (.bool (dec (shdP c.1 c.2 x)))) none
theorem cplx_len {n : Int} {l : List Int} (h : cplx n l) : l.length ≤ 64 := by
  have hp : l.Nodup := by
    refine List.pairwise_iff_getElem.2 ?_
    intro i j hi hj hij e
    have hb := cplx_before h hij hj
    have e1 : at0 l i = at0 l j := by rw [at0_eq hi, at0_eq hj, e]
    rw [e1] at hb
    simp only [before, decide_eq_true_eq] at hb
    omega
  exact nodup_len hp (cplx_isS h)
theorem fn_s_IsShedding : FnOk Try.prog 51 F_s_IsShedding := by
  have env := ((((((envNil_ok (P := Try.prog)).add fn_s_IsComplex).add fn_s_l1In).add fn_s_l3Has).add fn_s_l5Link).add fn_s_l5Without).add fn_s_l2Has
  refine fn_ok code_s_IsShedding mixed env ?_
  intro args r h hb
  obtain ⟨_, _, ⟨n, l⟩, x, rfl, h1, h2, h4⟩ := F2_inv h
  cases dC_inv h1
  cases dI_inv h2
  clear h
  simp only [Option.ite_none_right_eq_some, Option.some.injEq] at h4
  obtain ⟨hx, rfl⟩ := h4
  refine ⟨by simp, fun w0 U0 L0 N0 => ?_⟩
  clear hb
  generalize hv : dec (shdP n l x) = v
  cases e0 : cplxB n l with
  | false =>
    have hv1 : v = false := hv ▸ dec_false fun h => by simp [cplxB_iff.2 h.1] at e0
    simp -implicitDefEqProofs [sc_s_IsShedding, F_s_IsComplex, e0, hv1]
  | true =>
  have hc := cplxB_iff.1 e0
  have hS := cplx_isS hc
  have hl64 := cplx_len hc
  obtain ⟨hn1, hn6, _⟩ := id hc
  have hw : IntKind.i64.wrap (n - 1) = n - 1 := wrapI _ (by omega) (by omega)
  by_cases g1 : 0 ≤ x ∧ x ≤ n - 1
  rotate_left
  · have hv1 : v = false := hv ▸ dec_false fun h => g1 ⟨h.2.1, by have := h.2.2.1; omega⟩
    have g1' : decide (0 ≤ x ∧ x ≤ n - 1) = false := by simpa using g1
    simp -implicitDefEqProofs [sc_s_IsShedding, F_s_IsComplex, F_s_l1In, e0, hw, g1', hv1]
    try (exact fun a b => absurd ⟨a, b⟩ g1)
  obtain ⟨m, rfl⟩ : ∃ m : Nat, x = m := ⟨x.toNat, by omega⟩
  have hm : m < 6 := by omega
  have hu : IntKind.u64.wrap (m : Int) = m := wrapU _ (by omega) (by omega)
  have hsh := shl6 hm
  have hpS := isS_pow hm
  have hvv : v = dec (shedQ (faceS l) m) := by
    rw [← hv, Bool.eq_iff_iff, dec_iff, dec_iff]
    exact ⟨fun h => h.2.2.2, fun h => ⟨hc, g1.1, by omega, h⟩⟩
  unfold shedQ at hvv
  generalize (2 : Int) ^ m = s at *
  by_cases f1 : faceS l s
  rotate_left
  · have d1 := dec_false f1
    have hv1 : v = false := hvv.trans (dec_false fun h => f1 h.1)
    simp -implicitDefEqProofs [sc_s_IsShedding, F_s_IsComplex, F_s_l1In, F_s_l3Has, e0, hw, g1, hu, hsh, hS, hpS, d1, hv1]
  have d1 := dec_true f1
  have hA : ∀ t, t ∈ setsOf (maxP (lnkP (faceS l) s)) ↔ isS t ∧ maxP (lnkP (faceS l) s) t := fun t => mem_setsOf
  have hB : ∀ t, t ∈ setsOf (maxP (wtoP (faceS l) s)) ↔ isS t ∧ maxP (wtoP (faceS l) s) t := fun t => mem_setsOf
  have hAl := setsOf_len (maxP (lnkP (faceS l) s))
  have hv2 : v = dec (∀ t, t ∈ setsOf (maxP (lnkP (faceS l) s)) → t ∉ setsOf (maxP (wtoP (faceS l) s))) := by
    rw [hvv, Bool.eq_iff_iff, dec_iff, dec_iff]
    constructor
    · rintro ⟨_, h⟩ t h1 h2; exact h t ((hA t).1 h1).1 ((hA t).1 h1).2 ((hB t).1 h2).2
    · intro h; exact ⟨f1, fun t ht h1 h2 => h t ((hA t).2 ⟨ht, h1⟩) ((hB t).2 ⟨ht, h2⟩)⟩
  clear hA hB hvv hv
  simp -implicitDefEqProofs [sc_s_IsShedding, F_s_IsComplex, F_s_l1In, F_s_l3Has, F_s_l5Link, F_s_l5Without, e0, hw, g1, hu, hsh, hS, hpS, d1, hl64, hc]
  generalize setsOf (maxP (lnkP (faceS l) s)) = A at *
  generalize setsOf (maxP (wtoP (faceS l) s)) = B at *
  refine loopI env mixed (fun k : Nat => [(5, .pt 2 0), (6, .pt 4 0), (7, .int .i64 (k : Int))]) (fun _ => ([(4, [.int .i64 n, .sl 3 1 0 B.length]), (3, ints B), (2, [.int .i64 n, .sl 1 1 0 A.length]), (1, ints A), (0, [.int .i64 n, .list 1 (ints l)])], 5))
    (fun k => k ≤ A.length ∧ ∀ j, j < k → at0 A j ∉ B) (fun k => A.length - k) 0 (by simp) (SubI.slots rfl (by simp)) ?_
  rintro k ⟨hk, hno⟩
  by_cases hlt : k < A.length
  · by_cases hm2 : at0 A k ∈ B
    · have hv1 : v = false := hv2.trans (dec_false fun h => h _ (getD_mem' hlt) hm2)
      simp -implicitDefEqProofs [sc_s_IsShedding_L0, F_s_l2Has, hlt, hm2, hv1]
      try omega
    · simp -implicitDefEqProofs [sc_s_IsShedding_L0, F_s_l2Has, hlt, hm2]
      repeat' (first | omega | apply And.intro)
      refine Again.of (k + 1) ⟨by omega, fun j hj => ?_⟩ (by omega) (SubI.slots rfl (by simp (disch := omega) [wrapI]))
      rcases Nat.lt_succ_iff_lt_or_eq.1 hj with h1 | rfl
      · exact hno j h1
      · exact hm2
  · have hv1 : v = true := hv2.trans (dec_true fun t ht => by
      obtain ⟨j, hj, e⟩ := getD_mem_iff.1 ht
      rw [← e]
      exact hno j (by omega))
    have hka : k = A.length := by omega
    subst hka
    simp -implicitDefEqProofs [sc_s_IsShedding_L0, hv1]
end Go.Proofs.Ytedampaecopkhaa
