import Derived.Test.YtkbgmkkboiihnaaIcE
import Derived.Test.YtkbgmkkboiihnaaGbB
namespace Go.Proofs.Ytkbgmkkboiihnaa
open Go Go.RowKit
set_option maxRecDepth 1000000
set_option linter.unusedSimpArgs false
set_option linter.unusedVariables false
set_option maxHeartbeats 1000000
theorem least_lt6 (q : Nat → Prop) : ∀ k, (∀ i, i < k → ¬ q i) ∨ ∃ m, m < k ∧ q m ∧ ∀ i, i < m → ¬ q i
  | 0 => .inl fun i hi => by omega
  | k + 1 => by
    rcases least_lt6 q k with h | ⟨m, a, b, c⟩
    · by_cases hq : q k
      · exact .inr ⟨k, by omega, hq, h⟩
      · refine .inl fun i hi => ?_
        rcases Nat.lt_succ_iff_lt_or_eq.1 hi with h1 | rfl
        · exact h i h1
        · exact hq
    · exact .inr ⟨m, by omega, b, c⟩
/-- The least point with which a family splits. -/
def lsR (p : Int → Prop) (v : Int) : Prop := (v = -1 ∧ ∀ i : Nat, i < 6 → ¬ splQ p i) ∨ ∃ m : Nat, m < 6 ∧ v = m ∧ splQ p m ∧ ∀ i : Nat, i < m → ¬ splQ p i
theorem ls_ex (p : Int → Prop) : ∃ v, lsR p v := by
  rcases least_lt6 (fun i => splQ p i) 6 with h | ⟨m, a, b, c⟩
  · exact ⟨-1, .inl ⟨rfl, h⟩⟩
  · exact ⟨m, .inr ⟨m, a, rfl, b, c⟩⟩
noncomputable def lsZ (p : Int → Prop) : Int := Classical.choose (ls_ex p)
theorem lsZ_spec (p : Int → Prop) : lsR p (lsZ p) := Classical.choose_spec (ls_ex p)
theorem lsR_one {p : Int → Prop} {v w : Int} (h : lsR p v) (k : lsR p w) : v = w := by
  rcases h with ⟨a, b⟩ | ⟨m, a, b, c, d⟩
  · rcases k with ⟨a2, b2⟩ | ⟨m2, a2, b2, c2, d2⟩
    · rw [a, a2]
    · exact absurd c2 (b m2 a2)
  · rcases k with ⟨a2, b2⟩ | ⟨m2, a2, b2, c2, d2⟩
    · exact absurd c (b2 m a)
    · rcases Nat.lt_trichotomy m m2 with h1 | h1 | h1
      · exact absurd c (d2 m h1)
      · rw [b, b2, h1]
      · exact absurd c2 (d m2 h1)
theorem lsZ_congr {p q : Int → Prop} (e : ∀ s, isS s → (p s ↔ q s)) : lsZ p = lsZ q := by
  refine lsR_one (p := q) ?_ (lsZ_spec q)
  rcases lsZ_spec p with ⟨a, b⟩ | ⟨m, a, b, c, d⟩
  · exact .inl ⟨a, fun i hi h => b i hi ((splQ_congr e hi).2 h)⟩
  · exact .inr ⟨m, a, b, (splQ_congr e a).1 c, fun i hi h => d i hi ((splQ_congr e (by omega)).2 h)⟩
/-- The points that are taken away, one behind another. -/
noncomputable def dcb : Nat → (Int → Prop) → List Int
  | 0, _ => []
  | k + 1, p => if dec ((setsOf (maxP p)).length ≤ 1) = true then [] else lsZ p :: dcb k (wtoP p (2 ^ (lsZ p).toNat))
theorem dcb_congr : ∀ (k : Nat) {p q : Int → Prop}, (∀ s, isS s → (p s ↔ q s)) → (∃ i : Nat, i < 6 ∧ splQ p i) ∨ True → dcb k p = dcb k q
  | 0, _, _, _, _ => rfl
  | k + 1, p, q, e, _ => by
    unfold dcb
    rw [setsOf_congr fun s hs => maxP_congr e hs, lsZ_congr e]
    by_cases h : (setsOf (maxP q)).length ≤ 1
    · rw [dec_true h]; rfl
    · rw [dec_false h]
      simp only [Bool.false_eq_true, if_false, List.cons.injEq, true_and]
      refine dcb_congr k (fun t ht => ?_) (.inr trivial)
      exact wtoP_congr e ht
structure dI' (R : List Int) (k : Nat) (p : Int → Prop) (o : List Int) : Prop where
  hf : finI p
  hp : pts p < k
  hl : o.length + k ≤ 7
  hr : o ++ dcb k p = R
theorem dI'.done {R : List Int} {k : Nat} {p : Int → Prop} {o : List Int} (h : dI' R k p o) (hl : (setsOf (maxP p)).length ≤ 1) : o = R := by
  obtain ⟨j, rfl⟩ : ∃ j, k = j + 1 := ⟨k - 1, by have := h.hp; omega⟩
  have := h.hr
  unfold dcb at this
  rw [dec_true hl] at this
  simpa using this
theorem dI'.step {R : List Int} {k : Nat} {p : Int → Prop} {o : List Int} (h : dI' R k p o) (hl : ¬ (setsOf (maxP p)).length ≤ 1) :
    ∃ j m : Nat, k = j + 1 ∧ m < 6 ∧ splQ p m ∧ (∀ i : Nat, i < m → ¬ splQ p i) ∧ ∀ q : Int → Prop, (∀ s, isS s → (q s ↔ wtoP p (2 ^ m) s)) → dI' R j q (o ++ [(m : Int)]) := by
  obtain ⟨j, rfl⟩ : ∃ j, k = j + 1 := ⟨k - 1, by have := h.hp; omega⟩
  have hr := h.hr
  unfold dcb at hr
  rw [dec_false hl] at hr
  simp only [Bool.false_eq_true, if_false] at hr
  rcases lsZ_spec p with ⟨a, b⟩ | ⟨m, a, b, c, d⟩
  · rcases finI_iff.1 h.hf with h1 | ⟨i, hi, hs⟩
    · exact absurd h1 hl
    · exact absurd hs (b i hi)
  · refine ⟨j, m, rfl, a, c, d, fun q hq => ⟨(finI_congr hq).2 c.2.2, ?_, ?_, ?_⟩⟩
    · rw [pts_congr hq]
      have := pts_wto a c.1.1
      have := h.hp
      omega
    · have := h.hl
      simp only [List.length_append, List.length_singleton]
      omega
    · rw [dcb_congr j hq (.inr trivial), ← hr, b, Int.toNat_natCast]
      simp
open Classical in
noncomputable def dcbL (n : Int) (l : List Int) : List Int := if decP n l then dcb 7 (faceS l) else []
theorem dcbL_yes {n : Int} {l : List Int} (h : decP n l) : dcbL n l = dcb 7 (faceS l) := if_pos h
theorem dcbL_no {n : Int} {l : List Int} (h : ¬ decP n l) : dcbL n l = [] := if_neg h
theorem dcb_len : ∀ (k : Nat) (p : Int → Prop), (dcb k p).length ≤ k
  | 0, _ => Nat.le_refl _
  | k + 1, p => by
    unfold dcb
    split
    · simp
    · simpa using dcb_len k _
theorem dcbL_len (n : Int) (l : List Int) : (dcbL n l).length ≤ 64 := by
  unfold dcbL
  split
  · have := dcb_len 7 (faceS l); omega
  · simp
theorem dI'_start {l : List Int} (h : finI (faceS l)) : dI' (dcb 7 (faceS l)) 7 (faceS l) [] := ⟨h, pts_six _, by simp, rfl⟩
noncomputable def F_s_DecomposeBy : List V → Option V := F1 dC fun c => some (.tup [.own 1 (ints (dcbL c.1 c.2)), .bool (dec (decP c.1 c.2))])
def sc_s_DecomposeBy_L2 : SC := (.seq (.seq (.reg [⟨(some 18), none, (.ld (some 2) .undef (.t 5))⟩, ⟨(some 19), none, (.mov (.t 6))⟩, ⟨(some 20), none, (.call 38 [(.t 18), (.t 19)])⟩, ⟨(some 21), none, (.un .not (.t 20))⟩]) (.cond (.t 21) .skip (.exit 2))) (.block 3 (.reg [⟨(some 22), none, (.mov (.t 6))⟩, ⟨(some 23), none, (.bin false .add (.t 22) (.c (.int .i64 1)))⟩, ⟨(some 6), none, (.mov (.t 23))⟩])))
def sc_s_DecomposeBy_L0 : SC := (.seq (.seq (.reg [⟨(some 14), none, (.fad 1 (.t 5))⟩, ⟨(some 15), none, (.ld none .nil (.t 14))⟩, ⟨(some 16), none, (.len (.t 15))⟩, ⟨(some 17), none, (.bin false .gtr (.t 16) (.c (.int .i64 1)))⟩]) (.cond (.t 17) .skip (.exit 0))) (.block 1 (.seq (.reg [⟨(some 6), none, (.mov (.c (.int .i64 0)))⟩]) (.seq (.block 2 (.loop sc_s_DecomposeBy_L2)) (.seq (.reg [⟨(some 24), none, (.mov (.t 4))⟩, ⟨(some 25), none, (.mov (.t 6))⟩, ⟨(some 26), none, (.mks 1 1 [(.int .i64 0)] [(0, (1, (.t 25)))])⟩, ⟨(some 27), none, (.app 1 8 (.t 24) (.t 26))⟩, ⟨(some 4), none, (.mov (.t 27))⟩]) (.reg [⟨(some 28), none, (.ld (some 2) .undef (.t 5))⟩, ⟨(some 29), none, (.mov (.t 6))⟩, ⟨(some 30), none, (.conv .u64 (.t 29))⟩, ⟨(some 31), none, (.bin false .shl (.c (.int .i64 1)) (.t 30))⟩, ⟨(some 32), none, (.call 39 [(.t 28), (.t 31)])⟩, ⟨none, none, (.st 2 (.t 5) (.t 32))⟩]))))))
def sc_s_DecomposeBy : SC := (.seq (.reg [⟨(some 1), none, (.box (.t 0))⟩, ⟨(some 2), none, (.mov (.c .nil))⟩, ⟨(some 3), none, (.mov (.c (.bool false)))⟩]) (.seq (.seq (.reg [⟨(some 7), none, (.ld (some 2) .undef (.t 1))⟩, ⟨(some 8), none, (.call 17 [(.t 7)])⟩, ⟨(some 9), none, (.un .not (.t 8))⟩]) (.cond (.t 9) (.seq (.reg [⟨(some 10), none, (.mks 0 1 [] [])⟩, ⟨(some 2), none, (.mov (.t 10))⟩, ⟨(some 3), none, (.mov (.c (.bool false)))⟩]) .ret) .skip)) (.seq (.reg [⟨(some 11), none, (.mks 0 1 [] [])⟩, ⟨(some 4), none, (.mov (.t 11))⟩]) (.seq (.reg [⟨(some 12), none, (.ld (some 2) .undef (.t 1))⟩, ⟨(some 13), none, (.call 37 [(.t 12)])⟩, ⟨(some 5), none, (.new [(.int .i64 0), .nil])⟩, ⟨none, none, (.st 2 (.t 5) (.t 13))⟩]) (.seq (.block 0 (.loop sc_s_DecomposeBy_L0)) (.seq (.reg [⟨(some 33), none, (.mov (.t 4))⟩, ⟨(some 2), none, (.mov (.t 33))⟩, ⟨(some 3), none, (.mov (.c (.bool true)))⟩]) .ret))))))
theorem code_s_DecomposeBy : fnCode Try.prog [] 19 = some (34, sc_s_DecomposeBy, [(2, none), (3, none)]) := by kernel_rfl
theorem fn_s_DecomposeBy : FnOk Try.prog 19 F_s_DecomposeBy := by
  have env := ((((envNil_ok (P := Try.prog)).add fn_s_IsDecomposable).add fn_s_l3Copy).add (fn_s_l20Point (fn_s_l20Fine 7))).add fn_s_l5Without
  refine fn_ok code_s_DecomposeBy mixed env ?_
  intro args r h hb
  obtain ⟨_, ⟨n, l⟩, rfl, h1, h4⟩ := F1_inv h
  cases dC_inv h1
  cases h4
  refine ⟨by simp, fun w0 U0 L0 N0 => ?_⟩
  clear h hb
  have hID : F_s_IsDecomposable [.agg [.int .i64 n, .list 1 (ints l)]] = some (.bool (dec (decP n l))) := by simp [F_s_IsDecomposable]
  by_cases hP : decP n l
  rotate_left
  · rw [dec_false hP] at hID
    simp only
    rw [dcbL_no hP, dec_false hP]
    simp -implicitDefEqProofs [sc_s_DecomposeBy, hID]
  rw [dec_true hP] at hID
  simp only
  rw [dcbL_yes hP, dec_true hP]
  obtain ⟨hc, hf⟩ := hP
  have hl64 := cplx_len hc
  have hl20 : l.length ≤ 1048576 := by omega
  have hst := dI'_start hf
  generalize dcb 7 (faceS l) = R at *
  have inner : ∀ (L o : List Int) (m : Nat) (Q : Post) (T0 : Tm), cplx n L → m < 6 → splQ (faceS L) m → (∀ i : Nat, i < m → ¬ splQ (faceS L) i) → subE T0 [(4, .sl 1 1 0 o.length), (5, .pt 3 0), (6, .int .i64 0)] →
      Q (.exit 2) [(4, .sl 1 1 0 o.length), (5, .pt 3 0), (6, .int .i64 (m : Int))] ([(3, [.int .i64 n, .sl 2 1 0 L.length]), (2, ints L), (1, ints o), (0, [.int .i64 n, .list 1 (ints l)])], 4) →
      LoopI ⟨Try.prog, w0, U0, L0, N0, 0, 34⟩ [] sc_s_DecomposeBy_L2 Q T0 ([(3, [.int .i64 n, .sl 2 1 0 L.length]), (2, ints L), (1, ints o), (0, [.int .i64 n, .list 1 (ints l)])], 4) := by
    intro L o m Q T0 hcL hm hs hmin hT hQ
    refine loopQ env mixed (fun j : Nat => [(4, .sl 1 1 0 o.length), (5, .pt 3 0), (6, .int .i64 (j : Int))]) (fun _ => ([(3, [.int .i64 n, .sl 2 1 0 L.length]), (2, ints L), (1, ints o), (0, [.int .i64 n, .list 1 (ints l)])], 4)) (fun j => j ≤ m) (fun j => m - j) 0 (by simp) (SubI.slots rfl (by simpa using hT)) ?_
    intro j hj
    have hp8 : pts (faceS L) < 8 := by have := pts_six (faceS L); omega
    have hr : inR (j : Int) := ⟨by omega, by omega⟩
    have hv : dec (pntQ n L j) = dec (splQ (faceS L) j) := by
      rw [Bool.eq_iff_iff, dec_iff, dec_iff]
      unfold pntQ
      rw [Int.toNat_natCast]
      exact ⟨fun h => h.2, fun h => ⟨⟨hcL, by omega, face_pow hcL (by omega) h.1.1, by rw [Int.toNat_natCast]; exact h.1⟩, h⟩⟩
    by_cases e : j = m
    · subst e
      rw [dec_true hs] at hv
      simp -implicitDefEqProofs [sc_s_DecomposeBy_L2, F_pnt, hcL, hp8, hr, hv]
      exact SubQ.of (SubI.slots rfl (by simp)) hQ
    · rw [dec_false (hmin j (by omega))] at hv
      simp -implicitDefEqProofs [sc_s_DecomposeBy_L2, F_pnt, hcL, hp8, hr, hv]
      exact Again.of (j + 1) (by omega) (by omega) (SubI.slots rfl (by simp (disch := omega) [wrapI]))
  simp -implicitDefEqProofs [sc_s_DecomposeBy, F_s_l3Copy, hID, hl20]
  refine loopI env mixed (fun x : Nat × List Int × List Int => [(4, .sl 1 1 0 x.2.2.length), (5, .pt 3 0)]) (fun x => ([(3, [.int .i64 n, .sl 2 1 0 x.2.1.length]), (2, ints x.2.1), (1, ints x.2.2), (0, [.int .i64 n, .list 1 (ints l)])], 4)) (fun x => cplx n x.2.1 ∧ dI' R x.1 (faceS x.2.1) x.2.2) (fun x => x.1) (7, l, []) ⟨hc, hst⟩ (SubI.slots (by simp) (by simp)) ?_
  rintro ⟨k, L, o⟩ ⟨hcL, hI⟩
  simp only at hcL hI
  have hol := hI.hl
  by_cases hl : L.length ≤ 1
  · have e := hI.done (by rw [fin_len hcL]; exact hl)
    subst e
    have hl' : ¬ (1 < (L.length : Int)) := by omega
    simp -implicitDefEqProofs [sc_s_DecomposeBy_L0, hl']
    try omega
  · have hl' : (1 < (L.length : Int)) := by omega
    obtain ⟨j, m, rfl, hm, hs, hmin, hnx⟩ := hI.step (by rw [fin_len hcL]; exact hl)
    have hpS := isS_pow hm
    have hI2 := hnx (faceS (wtF L (2 ^ m))) (wtF_face hcL hpS)
    have hcW := cplx_wtF hcL hpS
    have hu : IntKind.u64.wrap (m : Int) = m := wrapU _ (by omega) (by omega)
    have hsh := shl6 hm
    have hFW : F_s_l5Without [.agg [.int .i64 n, .list 1 (ints L)], .int .i64 (2 ^ m)] = some (.agg [.int .i64 n, .own 1 (ints (wtF L (2 ^ m)))]) := by
      simp only [F_s_l5Without, F2_mk, dC_agg, dI_int, Option.bind_some]
      rw [if_pos ⟨hcL, hpS⟩]
      rfl
    clear hnx hI hst
    simp -implicitDefEqProofs [sc_s_DecomposeBy_L0, hl']
    refine inner L o m _ _ hcL hm hs hmin (by simp) ?_
    generalize wtF L (2 ^ m) = L2 at *
    generalize (2 : Int) ^ m = z at *
    simp -implicitDefEqProofs [hu, hsh, hFW]
    repeat' (first | omega | apply And.intro)
    refine Again.of (j, L2, o ++ [(m : Int)]) ⟨hcW, hI2⟩ (by simp only; omega) (SubI.ren (fun m => if m = 0 then some 0 else if m = 1 then some 5 else if m = 2 then some 6 else if m = 3 then some 3 else none) ?_ ?_ ?_ (by simp) (by simp))
    · simp (disch := omega) [subT, renV, ren1, wrapI]
    · simp [subH, renL, ren1]
      rw [← ints_app]
      rfl
    · intro m hm
      simp only at hm
      rw [if_neg (by omega), if_neg (by omega), if_neg (by omega), if_neg (by omega)]
end Go.Proofs.Ytkbgmkkboiihnaa
