import Derived.Test.YtncnohompmcddaaHbE
import Derived.Test.YtncnohompmcddaaHbK
namespace Go.Proofs.Ytncnohompmcddaa
open Go Go.RowKit
set_option maxRecDepth 1000000
set_option linter.unusedSimpArgs false
set_option linter.unusedVariables false
set_option maxHeartbeats 1000000
def sc_s_DepthBySkeleton_L0 : SC := (.seq (.seq (.reg [⟨(some 9), none, (.mov (.t 6))⟩, ⟨(some 10), none, (.ld (some 2) .undef (.t 2))⟩, ⟨(some 11), none, (.call 42 [(.t 10)])⟩, ⟨(some 12), none, (.bin false .add (.t 11) (.c (.int .i64 1)))⟩, ⟨(some 13), none, (.bin false .leq (.t 9) (.t 12))⟩]) (.cond (.t 13) .skip (.exit 0))) (.seq (.block 1 (.seq (.reg [⟨(some 17), none, (.ld (some 2) .undef (.t 2))⟩, ⟨(some 18), none, (.mov (.t 6))⟩, ⟨(some 19), none, (.call 63 [(.t 17), (.t 18)])⟩, ⟨(some 16), none, (.mov (.t 19))⟩, ⟨(some 20), none, (.ext 0 (.t 16))⟩, ⟨(some 21), none, (.ext 1 (.t 16))⟩, ⟨(some 7), none, (.new [(.int .i64 0), .nil])⟩, ⟨none, none, (.st 2 (.t 7) (.t 20))⟩, ⟨(some 8), none, (.mov (.t 21))⟩]) (.seq (.reg [⟨(some 22), none, (.mov (.t 8))⟩, ⟨(some 23), none, (.mov (.t 22))⟩, ⟨(some 24), (some (23, true)), (.ld (some 2) .undef (.t 7))⟩, ⟨(some 25), (some (23, true)), (.mov (.t 1))⟩, ⟨(some 26), (some (23, true)), (.call 17 [(.t 24), (.t 25)])⟩, ⟨(some 27), none, (.pick (.t 23) (.t 26) (.c (.bool false)))⟩]) (.cond (.t 27) (.reg [⟨(some 28), none, (.mov (.t 6))⟩, ⟨(some 5), none, (.mov (.t 28))⟩]) .skip)))) (.reg [⟨(some 14), none, (.mov (.t 6))⟩, ⟨(some 15), none, (.bin false .add (.t 14) (.c (.int .i64 1)))⟩, ⟨(some 6), none, (.mov (.t 15))⟩])))
def sc_s_DepthBySkeleton : SC := (.seq (.reg [⟨(some 2), none, (.box (.t 0))⟩, ⟨(some 4), none, (.mov (.c (.int .i64 0)))⟩]) (.seq (.reg [⟨(some 5), none, (.mov (.c (.int .i64 (-1))))⟩]) (.seq (.seq (.reg [⟨(some 6), none, (.mov (.c (.int .i64 0)))⟩]) (.block 0 (.loop sc_s_DepthBySkeleton_L0))) (.seq (.reg [⟨(some 29), none, (.mov (.t 5))⟩, ⟨(some 4), none, (.mov (.t 29))⟩]) .ret))))
theorem code_s_DepthBySkeleton : fnCode Try.prog [] 25 = some (30, sc_s_DepthBySkeleton, [(4, none)]) := by kernel_rfl
/-- The skeleton of size k has full depth. -/
def dbS (n : Int) (l : List Int) (p k : Int) : Prop := cplx n l ∧ fpP p ∧ 0 ≤ k ∧ k ≤ topZ (faceS l) ∧ fdP p (skP (faceS l) k)
def dbR (n : Int) (l : List Int) (p v : Int) : Prop := (v = -1 ∧ ∀ k, ¬ dbS n l p k) ∨ (dbS n l p v ∧ ∀ k, dbS n l p k → k ≤ v)
theorem db_ex (n : Int) (l : List Int) (p : Int) : ∃ v, dbR n l p v := by
  have hb := topZ_bnd (faceS l)
  rcases least_nat (fun i => dbS n l p (6 - (i : Int))) 7 with h | ⟨m, a, b, c⟩
  · refine ⟨-1, .inl ⟨rfl, fun k hk => ?_⟩⟩
    obtain ⟨_, _, h1, h2, _⟩ := id hk
    exact h (6 - k).toNat (by omega) (by rw [Int.toNat_of_nonneg (by omega)]; rw [show 6 - (6 - k) = k by omega]; exact hk)
  · refine ⟨6 - m, .inr ⟨b, fun k hk => Classical.byContradiction fun hn => ?_⟩⟩
    obtain ⟨_, _, h1, h2, _⟩ := id hk
    exact c (6 - k).toNat (by omega) (by rw [Int.toNat_of_nonneg (by omega)]; rw [show 6 - (6 - k) = k by omega]; exact hk)
noncomputable def dbF (n : Int) (l : List Int) (p : Int) : Int := Classical.choose (db_ex n l p)
theorem dbF_of {n : Int} {l : List Int} {p v : Int} (h : dbR n l p v) : dbF n l p = v := by
  have hs : dbR n l p (dbF n l p) := Classical.choose_spec (db_ex n l p)
  generalize dbF n l p = y at *
  rcases hs with ⟨e, h1⟩ | ⟨h1, h2⟩ <;> rcases h with ⟨e2, h3⟩ | ⟨h3, h4⟩
  · omega
  · exact absurd h3 (h1 v)
  · exact absurd h1 (h3 _)
  · have := h2 v h3
    have := h4 _ h1
    omega
theorem dbF_no {n : Int} {l : List Int} {p : Int} (h : ∀ k, ¬ dbS n l p k) : dbF n l p = -1 := dbF_of (.inl ⟨rfl, h⟩)
noncomputable def F_s_DepthBySkeleton : List V → Option V := F2 dC dI fun c p => some (.int .i64 (dbF c.1 c.2 p))
theorem cm_sk {n : Int} {l : List Int} {p k : Int} (hc : cplx n l) : cmP n (skS l k) p ↔ fpP p ∧ fdP p (skP (faceS l) k) := by
  unfold cmP
  rw [fdP_congr fun u hu => skS_face (cplx_isS hc) hu]
  exact ⟨fun h => h.2, fun h => ⟨cplx_sk hc k, h⟩⟩
theorem fn_s_DepthBySkeleton : FnOk Try.prog 25 F_s_DepthBySkeleton := by
  have env := (((envNil_ok (P := Try.prog)).add fn_s_DimOf).add fn_s_SkeletonOf).add fn_s_IsCohenMacaulay
  refine fn_ok code_s_DepthBySkeleton mixed env ?_
  intro args r h hb
  obtain ⟨_, _, ⟨n, l⟩, p, rfl, h1, h2, h4⟩ := F2_inv h
  cases dC_inv h1
  cases dI_inv h2
  cases h4
  clear h
  refine ⟨by simp, fun w0 U0 L0 N0 => ?_⟩
  clear hb
  simp only
  have hFD : F_s_DimOf [.agg [.int .i64 n, .list 1 (ints l)]] = some (.int .i64 (dimZ n l)) := by simp [F_s_DimOf]
  have hdb := dimZ_bnd n l
  have hwd : IntKind.i64.wrap (dimZ n l + 1) = dimZ n l + 1 := wrapI _ (by omega) (by omega)
  have hdz : cplx n l → dimZ n l + 1 = topZ (faceS l) := fun hc => by unfold dimZ; rw [if_pos hc]; omega
  have hno : ¬ cplx n l → dimZ n l = -2 := fun h => if_neg h
  have hX : ∀ v, dbR n l p v → dbF n l p = v := fun v h => dbF_of h
  generalize dbF n l p = X at *
  simp -implicitDefEqProofs [sc_s_DepthBySkeleton]
  refine loopI env mixed (fun x : Nat × Int => [(1, .int .i64 p), (2, .pt 0 0), (5, .int .i64 x.2), (6, .int .i64 (x.1 : Int))]) (fun _ => ([(0, [.int .i64 n, .list 1 (ints l)])], 1)) (fun x => x.1 ≤ 7 ∧ ((x.2 = -1 ∧ ∀ j : Nat, j < x.1 → ¬ dbS n l p j) ∨ (dbS n l p x.2 ∧ ∀ j : Nat, j < x.1 → dbS n l p j → (j : Int) ≤ x.2))) (fun x => 7 - x.1) (0, -1) ⟨by simp, .inl ⟨rfl, fun j hj => by simp at hj⟩⟩ (SubI.slots (by simp) (by simp)) ?_
  rintro ⟨k, d⟩ ⟨hk, hI⟩
  simp only at hk hI ⊢
  by_cases hlt : (k : Int) ≤ dimZ n l + 1
  rotate_left
  · have hR : dbR n l p d := by
      have hall : ∀ v, dbS n l p v → ∃ j : Nat, v = j ∧ j < k := fun v hv => by
        obtain ⟨h1, _, h3, h4, _⟩ := hv
        have := hdz h1
        exact ⟨v.toNat, by omega, by omega⟩
      rcases hI with ⟨e, h⟩ | ⟨h, h5⟩
      · exact .inl ⟨e, fun v hv => by obtain ⟨j, rfl, hj⟩ := hall v hv; exact h j hj hv⟩
      · exact .inr ⟨h, fun v hv => by obtain ⟨j, rfl, hj⟩ := hall v hv; exact h5 j hj hv⟩
    have e := hX d hR
    subst e
    simp -implicitDefEqProofs [sc_s_DepthBySkeleton_L0, hFD, hwd, hlt]
  have hc : cplx n l := Classical.byContradiction fun h => by have := hno h; omega
  have hFS : F_s_SkeletonOf [.agg [.int .i64 n, .list 1 (ints l)], .int .i64 (k : Int)] = some (.tup [.agg [.int .i64 n, .own 1 (ints (skS l k))], .bool true]) := by
    simp only [F_s_SkeletonOf, F2_mk, dC_agg, dI_int, Option.bind_some]
    rw [if_pos ⟨hc, by omega, by omega⟩]
  have hFC : F_s_IsCohenMacaulay [.agg [.int .i64 n, .list 1 (ints (skS l k))], .int .i64 p] = some (.bool (dec (cmP n (skS l k) p))) := by simp [F_s_IsCohenMacaulay]
  have hcm : cmP n (skS l k) p ↔ dbS n l p k := (cm_sk hc).trans ⟨fun h => ⟨hc, h.1, by omega, by have := hdz hc; omega, h.2⟩, fun h => ⟨h.2.1, h.2.2.2.2⟩⟩
  generalize skS l k = R at *
  by_cases g2 : cmP n R p
  · rw [dec_true g2] at hFC
    have g3 := hcm.1 g2
    simp -implicitDefEqProofs [sc_s_DepthBySkeleton_L0, hFD, hFS, hFC, hwd, hlt]
    repeat' (first | omega | apply And.intro)
    refine Again.of (k + 1, (k : Int)) ⟨by simp only; omega, .inr ⟨g3, fun j hj _ => by simp only at hj ⊢; omega⟩⟩ (by simp only; omega) (SubI.ren (fun m => if m = 0 then some 0 else none) ?_ ?_ ?_ (by simp) (by simp))
    · simp (disch := omega) [subT, renV, ren1, wrapI]
    · simp [subH, renL, ren1]
    · intro m hm
      simp only at hm
      rw [if_neg (by omega)]
  · rw [dec_false g2] at hFC
    have g3 : ¬ dbS n l p k := fun h => g2 (hcm.2 h)
    simp -implicitDefEqProofs [sc_s_DepthBySkeleton_L0, hFD, hFS, hFC, hwd, hlt]
    repeat' (first | omega | apply And.intro)
    refine Again.of (k + 1, d) ⟨by simp only; omega, ?_⟩ (by simp only; omega) (SubI.ren (fun m => if m = 0 then some 0 else none) ?_ ?_ ?_ (by simp) (by simp))
    · rcases hI with ⟨e, h⟩ | ⟨h, h5⟩
      · refine .inl ⟨e, fun j hj => ?_⟩
        rcases Nat.lt_succ_iff_lt_or_eq.1 hj with h1 | rfl
        · exact h j h1
        · exact g3
      · refine .inr ⟨h, fun j hj hs => ?_⟩
        rcases Nat.lt_succ_iff_lt_or_eq.1 hj with h1 | rfl
        · exact h5 j h1 hs
        · exact absurd hs g3
    · simp (disch := omega) [subT, renV, ren1, wrapI]
    · simp [subH, renL, ren1]
    · intro m hm
      simp only at hm
      rw [if_neg (by omega)]
end Go.Proofs.Ytncnohompmcddaa
