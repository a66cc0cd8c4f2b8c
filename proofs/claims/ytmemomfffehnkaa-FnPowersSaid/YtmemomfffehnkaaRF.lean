import Derived.Test.YtmemomfffehnkaaRE
import Derived.Test.YtmemomfffehnkaaRC
namespace Go.Proofs.Ytmemomfffehnkaa
open Go Go.RowKit
set_option maxRecDepth 1000000
set_option linter.unusedSimpArgs false
set_option linter.unusedVariables false
set_option maxHeartbeats 1000000
def sc_i_Choose : SC := (.seq (.reg [⟨(some 4), none, (.mov (.c (.int .i64 0)))⟩]) (.seq (.seq (.reg [⟨(some 5), none, (.mov (.t 0))⟩, ⟨(some 6), none, (.bin false .lss (.t 5) (.c (.int .i64 0)))⟩, ⟨(some 7), none, (.mov (.t 6))⟩, ⟨(some 8), (some (7, false)), (.mov (.t 0))⟩, ⟨(some 9), (some (7, false)), (.bin false .gtr (.t 8) (.c (.int .i64 60)))⟩, ⟨(some 10), none, (.pick (.t 7) (.c (.bool true)) (.t 9))⟩, ⟨(some 11), none, (.mov (.t 10))⟩, ⟨(some 12), (some (11, false)), (.mov (.t 1))⟩, ⟨(some 13), (some (11, false)), (.bin false .lss (.t 12) (.c (.int .i64 0)))⟩, ⟨(some 14), none, (.pick (.t 11) (.c (.bool true)) (.t 13))⟩, ⟨(some 15), none, (.mov (.t 14))⟩, ⟨(some 16), (some (15, false)), (.mov (.t 1))⟩, ⟨(some 17), (some (15, false)), (.mov (.t 0))⟩, ⟨(some 18), (some (15, false)), (.bin false .gtr (.t 16) (.t 17))⟩, ⟨(some 19), none, (.pick (.t 15) (.c (.bool true)) (.t 18))⟩]) (.cond (.t 19) (.seq (.reg [⟨(some 4), none, (.mov (.c (.int .i64 0)))⟩]) .ret) .skip)) (.seq (.seq (.reg [⟨(some 20), none, (.mov (.t 1))⟩, ⟨(some 21), none, (.mov (.t 0))⟩, ⟨(some 22), none, (.mov (.t 1))⟩, ⟨(some 23), none, (.bin false .sub (.t 21) (.t 22))⟩, ⟨(some 24), none, (.bin false .gtr (.t 20) (.t 23))⟩]) (.cond (.t 24) (.reg [⟨(some 25), none, (.mov (.t 0))⟩, ⟨(some 26), none, (.mov (.t 1))⟩, ⟨(some 27), none, (.bin false .sub (.t 25) (.t 26))⟩, ⟨(some 1), none, (.mov (.t 27))⟩]) .skip)) (.seq (.reg [⟨(some 28), none, (.mov (.t 0))⟩, ⟨(some 29), none, (.mov (.t 1))⟩, ⟨(some 30), none, (.call 167 [(.t 28), (.t 29)])⟩, ⟨(some 4), none, (.mov (.t 30))⟩]) .ret))))
theorem code_i_Choose : fnCode Try.prog [] 172 = some (31, sc_i_Choose, [(4, none)]) := by kernel_rfl
noncomputable def chI (n k : Int) : Int := @ite _ (0 ≤ n ∧ n ≤ 60 ∧ 0 ≤ k ∧ k ≤ n) (Classical.propDecidable _) (@ite _ (n - k < k) (Classical.propDecidable _) (cwV n (n - k)) (cwV n k)) 0
noncomputable def F_i_Choose : List V → Option V := F2 dI dI fun n k => some (.int .i64 (chI n k))
theorem fn_i_Choose : FnOk Try.prog 172 F_i_Choose := by
  have env := (envNil_ok (P := Try.prog)).add fn_i_chooseAny
  refine fn_ok code_i_Choose mixed env ?_
  intro args r h hb
  obtain ⟨_, _, n, k, rfl, h1, h2, h4⟩ := F2_inv h
  cases dI_inv h1
  cases dI_inv h2
  cases h4
  clear h h1 h2 hb
  refine ⟨by simp, fun w0 U0 L0 N0 => ?_⟩
  by_cases hc : 0 ≤ n ∧ n ≤ 60 ∧ 0 ≤ k ∧ k ≤ n
  rotate_left
  · have e : chI n k = 0 := if_neg hc
    rw [e]
    by_cases a1 : n < 0
    · simp -implicitDefEqProofs [sc_i_Choose, a1]
    by_cases a2 : 60 < n
    · simp -implicitDefEqProofs [sc_i_Choose, a1, a2]
    by_cases a3 : k < 0
    · simp -implicitDefEqProofs [sc_i_Choose, a1, a2, a3]
    have a4 : n < k := by omega
    simp -implicitDefEqProofs [sc_i_Choose, a1, a2, a3, a4]
  obtain ⟨n0, n6, k0, kn⟩ := hc
  have e : chI n k = @ite _ (n - k < k) (Classical.propDecidable _) (cwV n (n - k)) (cwV n k) := if_pos ⟨n0, n6, k0, kn⟩
  have a1 : ¬ n < 0 := by omega
  have a2 : ¬ 60 < n := by omega
  have a3 : ¬ k < 0 := by omega
  have a4 : ¬ n < k := by omega
  have w : IntKind.i64.wrap (n - k) = n - k := wrapI _ (by omega) (by omega)
  have hF : ∀ j, F_i_chooseAny [.int .i64 n, .int .i64 j] = some (.int .i64 (cwV n j)) := by
    intro j
    simp only [F_i_chooseAny, F2_mk, dI_int, Option.bind_some]
    exact if_pos (by omega)
  by_cases hk : n - k < k
  · rw [e, if_pos hk]
    simp -implicitDefEqProofs [sc_i_Choose, a1, a2, a3, a4, w, hk, hF]
  · rw [e, if_neg hk]
    simp -implicitDefEqProofs [sc_i_Choose, a1, a2, a3, a4, w, hk, hF]
noncomputable def cmV (n d : Int) : Int := @ite _ (1 ≤ n ∧ n ≤ 6 ∧ 0 ≤ d ∧ d ≤ 20) (Classical.propDecidable _) (cwV (n + d - 1) d) (-1)
theorem cwM_sym : ∀ n : Nat, n < 7 → ∀ d : Nat, d < 21 → (decide (n = 0) || cwM ((n : Int) + (d : Int) - 1) (n - 1) == cwM ((n : Int) + (d : Int) - 1) d) = true := by decide +kernel
theorem cwV_sym {n d : Nat} (hn1 : 1 ≤ n) (hn : n < 7) (hd : d < 21) : cwV ((n : Int) + (d : Int) - 1) ((n : Int) + (d : Int) - 1 - (d : Int)) = cwV ((n : Int) + (d : Int) - 1) (d : Int) := by
  have h := cwM_sym n hn d hd
  simp only [Bool.or_eq_true, decide_eq_true_eq, beq_iff_eq] at h
  have e : (n : Int) + (d : Int) - 1 - (d : Int) = ((n - 1 : Nat) : Int) := by omega
  rw [e, cwV_M (by omega), cwV_M (by omega)]
  omega
def sc_s_CountMonomials : SC := (.seq (.reg [⟨(some 4), none, (.mov (.c (.int .i64 0)))⟩]) (.seq (.seq (.reg [⟨(some 5), none, (.mov (.t 0))⟩, ⟨(some 6), none, (.call 132 [(.t 5), (.c (.int .i64 1)), (.c (.int .i64 6))])⟩, ⟨(some 7), none, (.un .not (.t 6))⟩, ⟨(some 8), none, (.mov (.t 7))⟩, ⟨(some 9), (some (8, false)), (.mov (.t 1))⟩, ⟨(some 10), (some (8, false)), (.call 132 [(.t 9), (.c (.int .i64 0)), (.c (.int .i64 20))])⟩, ⟨(some 11), (some (8, false)), (.un .not (.t 10))⟩, ⟨(some 12), none, (.pick (.t 8) (.c (.bool true)) (.t 11))⟩]) (.cond (.t 12) (.seq (.reg [⟨(some 4), none, (.mov (.c (.int .i64 (-1))))⟩]) .ret) .skip)) (.seq (.reg [⟨(some 13), none, (.mov (.t 0))⟩, ⟨(some 14), none, (.mov (.t 1))⟩, ⟨(some 15), none, (.bin false .add (.t 13) (.t 14))⟩, ⟨(some 16), none, (.bin false .sub (.t 15) (.c (.int .i64 1)))⟩, ⟨(some 17), none, (.mov (.t 1))⟩, ⟨(some 18), none, (.call 170 [(.t 16), (.t 17)])⟩, ⟨(some 4), none, (.mov (.t 18))⟩]) .ret)))
theorem code_s_CountMonomials : fnCode Try.prog [] 60 = some (19, sc_s_CountMonomials, [(4, none)]) := by kernel_rfl
noncomputable def F_s_CountMonomials : List V → Option V := F2 dI dI fun n d => some (.int .i64 (cmV n d))
theorem fn_s_CountMonomials : FnOk Try.prog 60 F_s_CountMonomials := by
  have env := ((envNil_ok (P := Try.prog)).add fn_s_l1In).add fn_s_l11Choose
  refine fn_ok code_s_CountMonomials mixed env ?_
  intro args r h hb
  obtain ⟨_, _, n, d, rfl, h1, h2, h4⟩ := F2_inv h
  cases dI_inv h1
  cases dI_inv h2
  cases h4
  clear h h1 h2 hb
  refine ⟨by simp, fun w0 U0 L0 N0 => ?_⟩
  by_cases hc : 1 ≤ n ∧ n ≤ 6 ∧ 0 ≤ d ∧ d ≤ 20
  rotate_left
  · have e : cmV n d = -1 := if_neg hc
    rw [e]
    by_cases a1 : 1 ≤ n
    · by_cases a2 : n ≤ 6
      · by_cases a3 : 0 ≤ d
        · have a4 : ¬ d ≤ 20 := by omega
          simp -implicitDefEqProofs [sc_s_CountMonomials, F_s_l1In, a1, a2, a3, a4, show ¬ n < 1 by omega, show ¬ 6 < n by omega, show ¬ d < 0 by omega, show 20 < d by omega]
        · simp -implicitDefEqProofs [sc_s_CountMonomials, F_s_l1In, a1, a2, a3, show ¬ n < 1 by omega, show ¬ 6 < n by omega, show d < 0 by omega]
      · simp -implicitDefEqProofs [sc_s_CountMonomials, F_s_l1In, a1, a2, show ¬ n < 1 by omega, show 6 < n by omega]
    · simp -implicitDefEqProofs [sc_s_CountMonomials, F_s_l1In, a1, show n < 1 by omega]
  obtain ⟨n1, n6, d0, d20⟩ := hc
  have e : cmV n d = cwV (n + d - 1) d := if_pos ⟨n1, n6, d0, d20⟩
  have w1 : IntKind.i64.wrap (n + d) = n + d := wrapI _ (by omega) (by omega)
  have w2 : IntKind.i64.wrap (n + d - 1) = n + d - 1 := wrapI _ (by omega) (by omega)
  have hF : F_s_l11Choose [.int .i64 (n + d - 1), .int .i64 d] = some (.int .i64 (cwV (n + d - 1) d)) := by
    simp only [F_s_l11Choose, F2_mk, dI_int, Option.bind_some]
    exact if_pos (by omega)
  rw [e]
  simp -implicitDefEqProofs [sc_s_CountMonomials, F_s_l1In, n1, n6, d0, d20, w1, w2, hF, show ¬ n < 1 by omega, show ¬ 6 < n by omega, show ¬ d < 0 by omega, show ¬ 20 < d by omega]
def sc_i_CountMonomials : SC := (.seq (.reg [⟨(some 4), none, (.mov (.c (.int .i64 0)))⟩]) (.seq (.seq (.reg [⟨(some 5), none, (.mov (.t 0))⟩, ⟨(some 6), none, (.bin false .lss (.t 5) (.c (.int .i64 1)))⟩, ⟨(some 7), none, (.mov (.t 6))⟩, ⟨(some 8), (some (7, false)), (.mov (.t 0))⟩, ⟨(some 9), (some (7, false)), (.bin false .gtr (.t 8) (.c (.int .i64 6)))⟩, ⟨(some 10), none, (.pick (.t 7) (.c (.bool true)) (.t 9))⟩, ⟨(some 11), none, (.mov (.t 10))⟩, ⟨(some 12), (some (11, false)), (.mov (.t 1))⟩, ⟨(some 13), (some (11, false)), (.bin false .lss (.t 12) (.c (.int .i64 0)))⟩, ⟨(some 14), none, (.pick (.t 11) (.c (.bool true)) (.t 13))⟩, ⟨(some 15), none, (.mov (.t 14))⟩, ⟨(some 16), (some (15, false)), (.mov (.t 1))⟩, ⟨(some 17), (some (15, false)), (.bin false .gtr (.t 16) (.c (.int .i64 20)))⟩, ⟨(some 18), none, (.pick (.t 15) (.c (.bool true)) (.t 17))⟩]) (.cond (.t 18) (.seq (.reg [⟨(some 4), none, (.mov (.c (.int .i64 (-1))))⟩]) .ret) .skip)) (.seq (.reg [⟨(some 19), none, (.mov (.t 0))⟩, ⟨(some 20), none, (.mov (.t 1))⟩, ⟨(some 21), none, (.bin false .add (.t 19) (.t 20))⟩, ⟨(some 22), none, (.bin false .sub (.t 21) (.c (.int .i64 1)))⟩, ⟨(some 23), none, (.mov (.t 1))⟩, ⟨(some 24), none, (.call 172 [(.t 22), (.t 23)])⟩, ⟨(some 4), none, (.mov (.t 24))⟩]) .ret)))
theorem code_i_CountMonomials : fnCode Try.prog [] 59 = some (25, sc_i_CountMonomials, [(4, none)]) := by kernel_rfl
noncomputable def F_i_CountMonomials : List V → Option V := F2 dI dI fun n d => some (.int .i64 (cmV n d))
theorem fn_i_CountMonomials : FnOk Try.prog 59 F_i_CountMonomials := by
  have env := (envNil_ok (P := Try.prog)).add fn_i_Choose
  refine fn_ok code_i_CountMonomials mixed env ?_
  intro args r h hb
  obtain ⟨_, _, n, d, rfl, h1, h2, h4⟩ := F2_inv h
  cases dI_inv h1
  cases dI_inv h2
  cases h4
  clear h h1 h2 hb
  refine ⟨by simp, fun w0 U0 L0 N0 => ?_⟩
  by_cases hc : 1 ≤ n ∧ n ≤ 6 ∧ 0 ≤ d ∧ d ≤ 20
  rotate_left
  · have e : cmV n d = -1 := if_neg hc
    rw [e]
    by_cases a1 : 1 ≤ n
    · by_cases a2 : n ≤ 6
      · by_cases a3 : 0 ≤ d
        · have a4 : ¬ d ≤ 20 := by omega
          simp -implicitDefEqProofs [sc_i_CountMonomials, a1, a2, a3, a4, show ¬ n < 1 by omega, show ¬ 6 < n by omega, show ¬ d < 0 by omega, show 20 < d by omega]
        · simp -implicitDefEqProofs [sc_i_CountMonomials, a1, a2, a3, show ¬ n < 1 by omega, show ¬ 6 < n by omega, show d < 0 by omega]
      · simp -implicitDefEqProofs [sc_i_CountMonomials, a1, a2, show ¬ n < 1 by omega, show 6 < n by omega]
    · simp -implicitDefEqProofs [sc_i_CountMonomials, a1, show n < 1 by omega]
  obtain ⟨n1, n6, d0, d20⟩ := hc
  have e : cmV n d = cwV (n + d - 1) d := if_pos ⟨n1, n6, d0, d20⟩
  have w1 : IntKind.i64.wrap (n + d) = n + d := wrapI _ (by omega) (by omega)
  have w2 : IntKind.i64.wrap (n + d - 1) = n + d - 1 := wrapI _ (by omega) (by omega)
  have hF : F_i_Choose [.int .i64 (n + d - 1), .int .i64 d] = some (.int .i64 (cwV (n + d - 1) d)) := by
    simp only [F_i_Choose, F2_mk, dI_int, Option.bind_some]
    obtain ⟨a, rfl⟩ : ∃ a : Nat, n = a := ⟨n.toNat, by omega⟩
    obtain ⟨b, rfl⟩ : ∃ b : Nat, d = b := ⟨d.toNat, by omega⟩
    have e : chI ((a : Int) + (b : Int) - 1) (b : Int) = @ite _ (((a : Int) + (b : Int) - 1) - (b : Int) < (b : Int)) (Classical.propDecidable _) (cwV ((a : Int) + (b : Int) - 1) (((a : Int) + (b : Int) - 1) - (b : Int))) (cwV ((a : Int) + (b : Int) - 1) (b : Int)) := if_pos (by omega)
    rw [e]
    split
    · rw [cwV_sym (by omega) (by omega) (by omega)]
    · rfl
  rw [e]
  simp -implicitDefEqProofs [sc_i_CountMonomials, n1, n6, d0, d20, w1, w2, hF, show ¬ n < 1 by omega, show ¬ 6 < n by omega, show ¬ d < 0 by omega, show ¬ 20 < d by omega]
end Go.Proofs.Ytmemomfffehnkaa
namespace Go.Proofs.Ytmemomfffehnkaa
open Go Go.RowKit
/-- A function that takes the row of argument i away; ahead of the return rows may be folded. -/
theorem fn_take {P : Program} {f : FuncId} {nt : Nat} {sc : SC} {rvs : List (Nat × Option Nat)} {lends : List FuncId} (hc : fnCode P lends f = some (nt, sc, rvs)) (hm : P.follows .mixedOrders = true) {Γ : Env} (hΓ : EnvOk P Γ) {i : Nat} {G : List V → List V → Option V}
    (h : ∀ args cells r, G args cells = some r → (∀ a ∈ args, bndN a) → args.length ≤ nt ∧ nonm 6 r = true ∧ ∀ w0 U0 L0 N0, vc ⟨P, w0, U0, L0, N0, 1, nt⟩ Γ lends sc (foldE 1 (retE 1 rvs r fun _ => True)) (initT 0 args) ([(0, cells)], 1)) : TakeOk P f i G := by
  obtain ⟨fd, c, hf, hb, hname, hnt, h1, h2⟩ := fnCode_inv hc
  refine ⟨⟨fd, hf, by simp [hb], hname⟩, ?_⟩
  intro args cells r hG l U w cargs T hU hT hargs hrow
  have hbnd : ∀ a ∈ args, bndN a := by
    intro x hx
    obtain ⟨j, hj⟩ := List.getElem?_of_mem hx
    obtain ⟨c', g1, g2⟩ := hargs.get0 hj
    exact bndN_ok g2
  obtain ⟨hlen, hno, hvc⟩ := h args cells r hG hbnd
  have hv := hvc w U T (fun n => if n = 0 then some l else none)
  have hw := vc_ok (C := ⟨P, w, U, T, fun n => if n = 0 then some l else none, 1, nt⟩) hΓ hm lends c sc _ _ _ h1 hv
  refine calls_of_wp hf hb ?_
  rw [hnt]
  have hcl := hargs.len
  have hTl := RH.lt hrow
  have hk0 : Kept (fun n => if n = 0 then some l else none) (fun n => if n = 0 then some l else none) U (Un w U w T) w w := ⟨fun b hb => ⟨rfl, (hU b hb).1, (hU b hb).2, .inl hb⟩, fun _ _ h => h, fun _ _ _ _ => SameAt.shape rfl⟩
  have hst : Ctx.St ⟨P, w, U, T, fun n => if n = 0 then some l else none, 1, nt⟩ (initT 0 args) ([(0, cells)], 1) { tmps := cargs.toArray ++ Array.replicate (nt - cargs.toArray.size) Go.undef, defers := [] } w := by
    refine ⟨fun n => if n = 0 then some l else none, T, ?_, rfl, ?_, hrow.kept hk0 (fun _ _ => rfl), hT, fun b hb => .inl hb, KeepBut.refl _ _, fun n hn => ?_, fun _ _ => rfl, Nat.le_refl _, hTl, fun h => absurd h (by show ¬ (1 = 0); omega)⟩
    · simp; omega
    · refine init_slots ?_ []
      exact hargs.kept hk0 (by simp)
    · have : n ≠ 0 := fun e => by subst e; exact absurd hn (by show ¬ (1 ≤ 0); omega)
      simp [this]
  refine wp_mono (hw _ w hst) ?_
  rintro e a' w' ⟨l9, s9, hq9, hs9⟩
  obtain ⟨⟨l', s', hsub9, hq⟩⟩ := hq9
  obtain ⟨N, T2, hr⟩ := hsub9 _ rfl _ _ hs9
  have fin : (match resV l' s' rvs with
      | some vs => mt 1 s'.1 (resOf vs) r fun _ => True
      | none => False) → a'.defers = [] ∧ ∃ v, (results fd a'.tmps).run P w' = .ok v w' ∧ ∃ c F, Ending.returned v = .returned c ∧ F.Nodup ∧ (∀ b ∈ F, b ∈ T ∨ (w.heap.size ≤ b ∧ b < w'.heap.size)) ∧
      RV (fun _ => none) (fun b => U b ∨ (w.heap.size ≤ b ∧ b < w'.heap.size ∧ b ∉ F)) w' r c F ∧ KeepBut T w w' := by
    intro hq
    split at hq
    · rename_i vs hvs
      obtain ⟨cs, e1, e2⟩ := resV_ok (P := P) hr.sl hr.hp _ _ _ h2 hvs
      obtain ⟨Fp, T', H', m1, m3, ⟨D, m2⟩, _⟩ := mt_ok s'.1 T2 _ _ _ _ hq (resOf_ok e2) hr.hp
      have hsub : ∀ x ∈ Fp, x ∈ T2 := fun x hx => m2.mem_iff.1 (by simp [hx])
      have hTlt := RH.lt hr.hp
      have hkk : ∀ b, Un w U w' T2 b → U b ∨ (w.heap.size ≤ b ∧ b < w'.heap.size ∧ b ∉ Fp) := fun b hbU => by
        obtain ⟨u1, u2, u3⟩ := hbU
        rcases u3 with u3 | u3
        · exact .inl u3
        · exact .inr ⟨u3, u1, fun hx => u2 (hsub b hx)⟩
      have hnd : Fp.Nodup := by
        have p1 := m2.nodup_iff.2 hr.nd
        exact (List.nodup_append.1 (List.nodup_append.1 p1).1).1
      refine ⟨hr.dfr, _, results_run e1, _, Fp, rfl, hnd, fun b hb => ?_, nonm_ok hkk 6 r _ Fp hno m1, hr.fr⟩
      rcases hr.own b (hsub b hb) with h | h
      · exact .inl h
      · exact .inr ⟨h, hTlt b (hsub b hb)⟩
    · exact hq.elim
  cases e with
  | normal => exact fin hq
  | ret => exact fin hq
  | _ => exact hq.elim
/-- The same; at the start rows may be unfolded, too. -/
theorem fn_lend3 {P : Program} {f : FuncId} {nt : Nat} {sc : SC} {rvs : List (Nat × Option Nat)} {lends : List FuncId} (hc : fnCode P lends f = some (nt, sc, rvs)) (hm : P.follows .mixedOrders = true) {Γ : Env} (hΓ : EnvOk P Γ) {i : Nat} {G : List V → List V → Option (V × List V)}
    (h : ∀ args cells r cells', G args cells = some (r, cells') → (∀ a ∈ args, bndN a) → args.length ≤ nt ∧ ∀ w0 U0 L0 N0, CutI 1 (vc ⟨P, w0, U0, L0, N0, 1, nt⟩ Γ lends sc (foldE 1 (retE 1 rvs r fun H => hget H 0 = some cells' ∧ cells'.all (nonm 6) = true))) (initT 0 args) ([(0, cells)], 1)) : LendOk P f i G := by
  obtain ⟨fd, c, hf, hb, hname, hnt, h1, h2⟩ := fnCode_inv hc
  refine ⟨⟨fd, hf, by simp [hb], hname⟩, ?_⟩
  intro args cells r cells' hG l U w cargs T hU hT hargs hrow
  have hbnd : ∀ a ∈ args, bndN a := by
    intro x hx
    obtain ⟨j, hj⟩ := List.getElem?_of_mem hx
    obtain ⟨c', g1, g2⟩ := hargs.get0 hj
    exact bndN_ok g2
  obtain ⟨hlen, hvc⟩ := h args cells r cells' hG hbnd
  obtain ⟨⟨l1, s1, hsub1, hv⟩⟩ := hvc w U T (fun n => if n = 0 then some l else none)
  have hw := vc_ok (C := ⟨P, w, U, T, fun n => if n = 0 then some l else none, 1, nt⟩) hΓ hm lends c sc _ _ _ h1 hv
  refine calls_of_wp hf hb ?_
  rw [hnt]
  have hcl := hargs.len
  have hTl := RH.lt hrow
  have hk0 : Kept (fun n => if n = 0 then some l else none) (fun n => if n = 0 then some l else none) U (Un w U w T) w w := ⟨fun b hb => ⟨rfl, (hU b hb).1, (hU b hb).2, .inl hb⟩, fun _ _ h => h, fun _ _ _ _ => SameAt.shape rfl⟩
  have hst : Ctx.St ⟨P, w, U, T, fun n => if n = 0 then some l else none, 1, nt⟩ (initT 0 args) ([(0, cells)], 1) { tmps := cargs.toArray ++ Array.replicate (nt - cargs.toArray.size) Go.undef, defers := [] } w := by
    refine ⟨fun n => if n = 0 then some l else none, T, ?_, rfl, ?_, hrow.kept hk0 (fun _ _ => rfl), hT, fun b hb => .inl hb, KeepBut.refl _ _, fun n hn => ?_, fun _ _ => rfl, Nat.le_refl _, hTl, fun h => absurd h (by show ¬ (1 = 0); omega)⟩
    · simp; omega
    · refine init_slots ?_ []
      exact hargs.kept hk0 (by simp)
    · have : n ≠ 0 := fun e => by subst e; exact absurd hn (by show ¬ (1 ≤ 0); omega)
      simp [this]
  refine wp_mono (hw _ w (hsub1 _ rfl _ _ hst)) ?_
  rintro e a' w' ⟨l9, s9, hq9, hs9⟩
  obtain ⟨⟨l', s', hsub9, hq⟩⟩ := hq9
  obtain ⟨N, T2, hr⟩ := hsub9 _ rfl _ _ hs9
  have fin : (match resV l' s' rvs with
      | some vs => mt 1 s'.1 (resOf vs) r fun H => hget H 0 = some cells' ∧ cells'.all (nonm 6) = true
      | none => False) → a'.defers = [] ∧ ∃ v, (results fd a'.tmps).run P w' = .ok v w' ∧ ∃ c F T', Ending.returned v = .returned c ∧ (F ++ T').Nodup ∧ (∀ b ∈ F ++ T', b ∈ T ∨ (w.heap.size ≤ b ∧ b < w'.heap.size)) ∧
      RV (fun n => if n = 0 then some l else none) (fun b => U b ∨ (w.heap.size ≤ b ∧ b < w'.heap.size ∧ b ∉ F ++ T')) w' r c F ∧
      RH (fun n => if n = 0 then some l else none) (fun b => U b ∨ (w.heap.size ≤ b ∧ b < w'.heap.size ∧ b ∉ F ++ T')) w' [(0, cells')] T' ∧ KeepBut T w w' := by
    intro hq
    split at hq
    · rename_i vs hvs
      obtain ⟨cs, e1, e2⟩ := resV_ok (P := P) hr.sl hr.hp _ _ _ h2 hvs
      obtain ⟨Fp, T', H', m1, m3, ⟨D, m2⟩, hg, hnm⟩ := mt_ok s'.1 T2 _ _ _ _ hq (resOf_ok e2) hr.hp
      obtain ⟨X, T1, d1, _, d3⟩ := m3.del hg
      have hN : N 0 = some l := by
        have := hr.nl 0 (by show 0 < 1; omega)
        simpa using this
      have hfun : (fun n => if n < 1 then N n else none) = fun n => if n = 0 then some l else none := by
        funext n
        by_cases e : n = 0
        · subst e; simp [hN]
        · have : ¬ n < 1 := by omega
          simp [e, this]
      rw [hfun] at m1
      have hX : ∀ x ∈ X, x ∈ T' := fun x hx => d3.mem_iff.2 (by simp [hx])
      have hsub : ∀ x ∈ Fp ++ X, x ∈ T2 := fun x hx => m2.mem_iff.1 (by
        rcases List.mem_append.1 hx with h | h
        · simp [h]
        · simp [hX x h])
      have hTlt := RH.lt hr.hp
      have hkk : Kept (fun n => if n = 0 then some l else none) (fun n => if n = 0 then some l else none) (Un w U w' T2) (fun b => U b ∨ (w.heap.size ≤ b ∧ b < w'.heap.size ∧ b ∉ Fp ++ X)) w' w' := ⟨fun b hbU => ⟨rfl, by
        obtain ⟨u1, u2, u3⟩ := hbU
        rcases u3 with u3 | u3
        · exact .inl u3
        · exact .inr ⟨u3, u1, fun hx => u2 (hsub b hx)⟩⟩, fun _ _ h => h, fun _ _ _ _ => SameAt.shape rfl⟩
      have hnd : (Fp ++ X).Nodup := by
        have p1 := m2.nodup_iff.2 hr.nd
        have p2 : (Fp ++ T').Nodup := (List.nodup_append.1 p1).1
        have p3 : (Fp ++ (X ++ T1)).Nodup := ((List.Perm.append_left Fp d3).nodup_iff).1 p2
        rw [← List.append_assoc] at p3
        exact (List.nodup_append.1 p3).1
      refine ⟨hr.dfr, _, results_run e1, _, Fp, X, rfl, hnd, fun b hb => ?_, m1.kept hkk (fun _ _ => rfl), ?_, hr.fr⟩
      · rcases hr.own b (hsub b hb) with h | h
        · exact .inl h
        · exact .inr ⟨h, hTlt b (hsub b hb)⟩
      · rcases d1 with ⟨q1, rfl, rfl⟩ | ⟨b, base, arr, e, cs, F, q1, q2, q3, q4, rfl⟩ | ⟨b, es, clk, D, q1, q2, rfl, q4, rfl⟩
        rotate_right
        · rw [hN] at q1
          simp only [Option.some.injEq] at q1
          exact .consM 0 D b es clk [] [] _ (by simp [q1]) q2 q4 .nil rfl
        · rw [hN] at q1
          simp only [Option.some.injEq] at q1
          exact .consE 0 [] [] (by simp [q1]) .nil
        · rw [hN] at q1
          simp only [Option.some.injEq] at q1
          exact .cons 0 cells' b base arr e cs F [] [] _ (by simp [q1]) q2 q3 (q4.mapN fun v c G' hm hr' => (nonm_ok (fun b hb => (hkk.u b hb).2) 6 v c G' (List.all_eq_true.1 hnm v hm) hr')) .nil (by simp)
    · exact hq.elim
  cases e with
  | normal => exact fin hq
  | ret => exact fin hq
  | _ => exact hq.elim
theorem rvs_forget {N : Nm} {U : Nat → Prop} {w : World} : ∀ {co : List V} {cs : List Value} {F : List Nat} {j n sz off len : Nat}, RVs N U w co cs F → co[j]? = some (.sl n sz off len) → RVs N U w (co.set j .undef) cs F := by
  intro co
  induction co with
  | nil => intro cs F j n sz off len h hj; simp at hj
  | cons a co ih =>
    intro cs F j n sz off len h hj
    cases h with
    | cons _ _ c cs F1 F2 _ h1 h2 hF =>
      cases j with
      | zero =>
        simp only [List.getElem?_cons_zero, Option.some.injEq] at hj
        subst hj
        have e : F1 = [] := by cases h1 <;> rfl
        subst e
        exact .cons _ _ _ _ [] F2 _ (.undef _) h2 hF
      | succ j => exact .cons _ _ _ _ F1 F2 _ h1 (ih h2 (by simpa using hj)) hF
/-- A cell with a name is forgotten. -/
theorem Sub.forget {k0 : Nat} {l : Tm} {H : List (Nat × List V)} {nx : Nat} (o j : Nat) {co : List V} {n sz off len : Nat} (ho : hget H o = some co) (hj : co[j]? = some (.sl n sz off len)) :
    Sub k0 l (H, nx) l (hset H o (co.set j .undef), nx) := by
  intro C hC a w hst
  obtain ⟨N, T, hr⟩ := hst
  obtain ⟨X, T1, d1, d2, d3⟩ := hr.hp.del ho
  have he : Ent N (Un C.w0 C.U0 w T) w o (co.set j .undef) X := by
    rcases d1.two (fun D e => by subst e; cases j <;> simp at hj) with ⟨e1, rfl, rfl⟩ | ⟨b, base, arr, e, cs, F, e1, e2, e3, e4, rfl⟩
    · simp at hj
    · exact .inr (.inl ⟨b, base, arr, e, cs, F, e1, e2, e3, rvs_forget e4 hj, rfl⟩)
  obtain ⟨T3, m1, m2⟩ := RH.ins (X := X) ho d2 he
  have hperm : T3.Perm T := m2.trans d3.symm
  have hmem : ∀ x, x ∈ T3 ↔ x ∈ T := fun x => hperm.mem_iff
  have hU : ∀ x, Un C.w0 C.U0 w T x → Un C.w0 C.U0 w T3 x := fun x hx => ⟨hx.1, fun hm => hx.2.1 ((hmem x).1 hm), hx.2.2⟩
  have kk := kept_refl N w hU
  exact ⟨N, T3, hr.tsz, hr.dfr, fun i => (hr.sl i).kept kk (by simp), m1.kept kk (fun _ _ => rfl), hperm.nodup_iff.2 hr.nd, fun x hx => hr.own x ((hmem x).1 hx), hr.fr, hr.nx, hr.nl, hr.kn, hr.lh⟩
theorem SubI.forget {k0 : Nat} {l l' : Tm} {s' : Hp} {H : List (Nat × List V)} {nx : Nat} (o j : Nat) {co : List V} {n sz off len : Nat} (ho : hget H o = some co) (hj : co[j]? = some (.sl n sz off len))
    (h : SubI k0 l (hset H o (co.set j .undef), nx) l' s') : SubI k0 l (H, nx) l' s' := ⟨(Sub.forget o j ho hj).trans h.h⟩
end Go.Proofs.Ytmemomfffehnkaa
namespace Go.Proofs.Ytmemomfffehnkaa
open Go Go.RowKit
set_option maxRecDepth 1000000
set_option linter.unusedSimpArgs false
set_option linter.unusedVariables false
set_option maxHeartbeats 1000000
/-- Families of sets as words of 64 bits. -/
theorem inS (k : Nat) (h : k < 64) : isS (k : Int) := by unfold isS; omega
theorem isS_nat {s : Int} (h : isS s) : ∃ k : Nat, k < 64 ∧ s = k := ⟨s.toNat, by unfold isS at h; omega, by unfold isS at h; omega⟩
/-- Is a set part of another. -/
def subS (a b : Int) : Prop := bnot a b = 0
end Go.Proofs.Ytmemomfffehnkaa
namespace Go.Proofs.Ytmemomfffehnkaa
open Go Go.RowKit
set_option maxRecDepth 1000000
set_option linter.unusedSimpArgs false
set_option linter.unusedVariables false
set_option maxHeartbeats 1000000
/-- Sets below 64 as numbers: facts by trial, over numbers that are not below zero. -/
theorem band_nat (a b : Nat) (ha : a < 64) (hb : b < 64) : band a b = ((a &&& b : Nat) : Int) := bits_and a b (by omega) (by omega)
theorem bits_not (a b : Nat) (ha : a < 9223372036854775808) (hb : b < 9223372036854775808) : bitop .andNot .i64 (a : Int) (b : Int) = ((a &&& (2 ^ 64 - 1 - b) : Nat) : Int) := by
  have e : bitop .andNot .i64 (a : Int) (b : Int) = IntKind.i64.wrap ((BitVec.ofInt 64 (a : Int) &&& ~~~ BitVec.ofInt 64 (b : Int)).toNat) := rfl
  have h1 : a &&& (2 ^ 64 - 1 - b) ≤ a := Nat.and_le_left
  rw [e, BitVec.ofInt_natCast, BitVec.ofInt_natCast, BitVec.toNat_and, BitVec.toNat_not, BitVec.toNat_ofNat, BitVec.toNat_ofNat]
  rw [Nat.mod_eq_of_lt (by omega), Nat.mod_eq_of_lt (by omega)]
  exact wrapI _ (by omega) (by omega)
theorem bnot_nat (a b : Nat) (ha : a < 64) (hb : b < 64) : bnot a b = ((a - (a &&& b) : Nat) : Int) := by
  have key : ∀ a : Nat, a < 64 → ∀ b : Nat, b < 64 → a &&& (2 ^ 64 - 1 - b) = a - (a &&& b) := by decide +kernel
  rw [show bnot a b = _ from bits_not a b (by omega) (by omega), key a ha b hb]
theorem subS_nat (a b : Nat) (ha : a < 64) (hb : b < 64) : subS a b ↔ a &&& b = a := by
  unfold subS
  rw [bnot_nat a b ha hb]
  have : a &&& b ≤ a := Nat.and_le_left
  omega
theorem subS_iff {a b : Int} (ha : isS a) (hb : isS b) : subS a b ↔ band a b = a := by
  obtain ⟨x, hx, rfl⟩ := isS_nat ha
  obtain ⟨y, hy, rfl⟩ := isS_nat hb
  rw [subS_nat x y hx hy, band_nat x y hx hy]
  omega
theorem subS_iff' {a b : Int} (ha : isS a) (hb : isS b) : subS a b ↔ band b a = a := by
  obtain ⟨x, hx, rfl⟩ := isS_nat ha
  obtain ⟨y, hy, rfl⟩ := isS_nat hb
  rw [subS_nat x y hx hy, band_nat y x hy hx, Nat.and_comm]
  omega
theorem subS_bits {a b : Int} (ha : isS a) (hb : isS b) : subS a b ↔ ∀ i : Nat, a.toNat.testBit i = true → b.toNat.testBit i = true := by
  obtain ⟨x, hx, rfl⟩ := isS_nat ha
  obtain ⟨y, hy, rfl⟩ := isS_nat hb
  rw [subS_nat x y hx hy]
  simp only [Int.toNat_natCast]
  constructor
  · intro h i hi
    rw [← h, Nat.testBit_and, Bool.and_eq_true] at hi
    exact hi.2
  · intro h
    apply Nat.eq_of_testBit_eq
    intro i
    rw [Nat.testBit_and]
    cases hi : x.testBit i with
    | false => rfl
    | true => simp [h i hi]
theorem subS_refl {a : Int} (ha : isS a) : subS a a := (subS_bits ha ha).2 fun _ h => h
theorem subS_trans {a b c : Int} (ha : isS a) (hb : isS b) (hc : isS c) (h1 : subS a b) (h2 : subS b c) : subS a c :=
  (subS_bits ha hc).2 fun i h => (subS_bits hb hc).1 h2 i ((subS_bits ha hb).1 h1 i h)
/-- Faces. -/
def faceS (l : List Int) (s : Int) : Prop := ∃ f ∈ l, subS s f
open Classical in
/-- The sets below k with a property, from the least to the greatest number. -/
noncomputable def upS (p : Int → Prop) : Nat → List Int
  | 0 => []
  | k + 1 => if p (k : Int) then upS p k ++ [(k : Int)] else upS p k
theorem upS_pos {p : Int → Prop} {k : Nat} (h : p (k : Int)) : upS p (k + 1) = upS p k ++ [(k : Int)] := by simp only [upS, if_pos h]
theorem upS_neg {p : Int → Prop} {k : Nat} (h : ¬ p (k : Int)) : upS p (k + 1) = upS p k := by simp only [upS, if_neg h]
theorem mem_upS {p : Int → Prop} {s : Int} : ∀ {k : Nat}, s ∈ upS p k ↔ 0 ≤ s ∧ s < k ∧ p s := by
  intro k
  induction k with
  | zero => simp only [upS, List.not_mem_nil, false_iff]; omega
  | succ k ih =>
    by_cases h : p (k : Int)
    · rw [upS_pos h, List.mem_append, ih, List.mem_singleton]
      constructor
      · rintro (⟨a, b, c⟩ | rfl)
        · exact ⟨a, by omega, c⟩
        · exact ⟨by omega, by omega, h⟩
      · rintro ⟨a, b, c⟩
        by_cases e : s = (k : Int)
        · exact .inr e
        · exact .inl ⟨a, by omega, c⟩
    · rw [upS_neg h, ih]
      constructor
      · rintro ⟨a, b, c⟩; exact ⟨a, by omega, c⟩
      · rintro ⟨a, b, c⟩
        refine ⟨a, ?_, c⟩
        by_cases e : s = (k : Int)
        · exact absurd (e ▸ c) h
        · omega
theorem mem_upS64 {p : Int → Prop} {s : Int} : s ∈ upS p 64 ↔ isS s ∧ p s := by
  rw [mem_upS]
  unfold isS
  exact ⟨fun ⟨a, b, c⟩ => ⟨⟨a, b⟩, c⟩, fun ⟨⟨a, b⟩, c⟩ => ⟨a, b, c⟩⟩
theorem upS_len (p : Int → Prop) : ∀ k, (upS p k).length ≤ k
  | 0 => by simp [upS]
  | k + 1 => by
    have := upS_len p k
    simp only [upS]
    split <;> simp <;> omega
theorem upS_sorted {p : Int → Prop} : ∀ {k : Nat}, (upS p k).Pairwise (· < ·) := by
  intro k
  induction k with
  | zero => simp [upS]
  | succ k ih =>
    by_cases h : p (k : Int)
    · rw [upS_pos h, List.pairwise_append]
      refine ⟨ih, by simp, ?_⟩
      intro a ha b hb
      rw [mem_upS] at ha
      simp only [List.mem_singleton] at hb
      omega
    · rw [upS_neg h]; exact ih
/-- The sets with a property by size, those of less than z points. -/
noncomputable def ordS (p : Int → Prop) : Nat → List Int
  | 0 => []
  | z + 1 => ordS p z ++ upS (fun s => p s ∧ sz s = z) 64
theorem mem_ordS {p : Int → Prop} {s : Int} : ∀ {z : Nat}, s ∈ ordS p z ↔ isS s ∧ p s ∧ sz s < z := by
  intro z
  induction z with
  | zero => have := sz_nn s; simp only [ordS, List.not_mem_nil, false_iff]; omega
  | succ z ih =>
    rw [ordS, List.mem_append, ih, mem_upS64]
    constructor
    · rintro (⟨a, b, c⟩ | ⟨a, b, c⟩)
      · exact ⟨a, b, by omega⟩
      · exact ⟨a, b, by omega⟩
    · rintro ⟨a, b, c⟩
      by_cases e : sz s = (z : Int)
      · exact .inr ⟨a, b, e⟩
      · exact .inl ⟨a, b, by omega⟩
theorem sz_six {s : Int} (h : isS s) : sz s ≤ 6 := forS (p := fun s => sz s ≤ 6) (by decide +kernel) h
theorem ordS_len (p : Int → Prop) : ∀ z, (ordS p z).length ≤ 64 * z
  | 0 => by simp [ordS]
  | z + 1 => by
    have := ordS_len p z
    have := upS_len (fun s => p s ∧ sz s = z) 64
    simp only [ordS, List.length_append]
    omega
theorem allS_upS (p : Int → Prop) {k : Nat} (hk : k ≤ 64) : allS (upS p k) := fun x hx => by
  have := mem_upS.1 hx
  exact ⟨this.1, by omega⟩
theorem ordS_sorted {p : Int → Prop} : ∀ {z : Nat}, (ordS p z).Pairwise fun a b => before a b = true := by
  intro z
  induction z with
  | zero => simp [ordS]
  | succ z ih =>
    rw [ordS, List.pairwise_append]
    refine ⟨ih, ?_, ?_⟩
    · refine upS_sorted.imp_of_mem ?_
      intro a b ha hb hab
      have h1 := (mem_upS64.1 ha).2.2
      have h2 := (mem_upS64.1 hb).2.2
      simp only [before, decide_eq_true_eq]
      omega
    · intro a ha b hb
      have h1 := (mem_ordS.1 ha).2.2
      have h2 := (mem_upS64.1 hb).2.2
      simp only [before, decide_eq_true_eq]
      omega
/-- A sorted list is given by its members. -/
theorem sorted_ext {l m : List Int} (hl : l.Pairwise fun a b => before a b = true) (hm : m.Pairwise fun a b => before a b = true) (h : ∀ x, x ∈ l ↔ x ∈ m) : l = m := by
  have irr : ∀ a : Int, before a a = true → False := fun a h => by simp only [before, decide_eq_true_eq] at h; omega
  induction l generalizing m with
  | nil => cases m with
    | nil => rfl
    | cons b m => exact absurd ((h b).2 (by simp)) (by simp)
  | cons a l ih => cases m with
    | nil => exact absurd ((h a).1 (by simp)) (by simp)
    | cons b m =>
      rw [List.pairwise_cons] at hl hm
      have hab : a = b := by
        rcases List.mem_cons.1 ((h a).1 (by simp)) with e | e
        · exact e
        · rcases List.mem_cons.1 ((h b).2 (by simp)) with e2 | e2
          · exact e2.symm
          · exact (irr a (before_trans (hl.1 b e2) (hm.1 a e))).elim
      subst hab
      rw [ih hl.2 hm.2]
      intro x
      constructor
      · intro hx
        rcases List.mem_cons.1 ((h x).1 (by simp [hx])) with e | e
        · subst e; exact (irr _ (hl.1 _ hx)).elim
        · exact e
      · intro hx
        rcases List.mem_cons.1 ((h x).2 (by simp [hx])) with e | e
        · subst e; exact (irr _ (hm.1 _ hx)).elim
        · exact e
theorem sets_ex (p : Int → Prop) : ∃ l : List Int, (l.Pairwise fun a b => before a b = true) ∧ ∀ x, x ∈ l ↔ isS x ∧ p x :=
  ⟨ordS p 7, ordS_sorted, fun s => by
    rw [mem_ordS]
    constructor
    · rintro ⟨a, b, _⟩; exact ⟨a, b⟩
    · rintro ⟨a, b⟩; have := sz_six a; exact ⟨a, b, by omega⟩⟩
/-- All sets with a property, in order. -/
noncomputable def setsOf (p : Int → Prop) : List Int := Classical.choose (sets_ex p)
theorem setsOf_sorted (p : Int → Prop) : (setsOf p).Pairwise fun a b => before a b = true := (Classical.choose_spec (sets_ex p)).1
theorem mem_setsOf {p : Int → Prop} {s : Int} : s ∈ setsOf p ↔ isS s ∧ p s := (Classical.choose_spec (sets_ex p)).2 s
theorem setsOf_eq (p : Int → Prop) : ordS p 7 = setsOf p := sorted_ext ordS_sorted (setsOf_sorted p) fun s => by
  rw [mem_ordS, mem_setsOf]
  constructor
  · rintro ⟨a, b, _⟩; exact ⟨a, b⟩
  · rintro ⟨a, b⟩; have := sz_six a; exact ⟨a, b, by omega⟩
theorem setsOf_congr {p q : Int → Prop} (h : ∀ s, isS s → (p s ↔ q s)) : setsOf p = setsOf q := sorted_ext (setsOf_sorted p) (setsOf_sorted q) fun s => by
  rw [mem_setsOf, mem_setsOf]
  exact ⟨fun ⟨a, b⟩ => ⟨a, (h s a).1 b⟩, fun ⟨a, b⟩ => ⟨a, (h s a).2 b⟩⟩
theorem setsOf_none : setsOf (fun _ => False) = [] := by
  apply List.eq_nil_iff_forall_not_mem.2
  intro s hs
  exact (mem_setsOf.1 hs).2
theorem allS_setsOf (p : Int → Prop) : allS (setsOf p) := fun x hx => (mem_setsOf.1 hx).1
theorem setsOf_nodup (p : Int → Prop) : (setsOf p).Nodup := by
  refine (setsOf_sorted p).imp ?_
  intro a b h e
  subst e
  simp only [before, decide_eq_true_eq] at h
  omega
theorem setsOf_len (p : Int → Prop) : (setsOf p).length ≤ 64 := nodup_len (setsOf_nodup p) (allS_setsOf p)
theorem filter_setsOf (p : Int → Prop) (q : Int → Bool) : (setsOf p).filter q = setsOf fun s => p s ∧ q s = true :=
  sorted_ext ((setsOf_sorted p).filter q) (setsOf_sorted _) fun x => by simp only [List.mem_filter, mem_setsOf, and_assoc]
/-- A row of 64 marks. -/
noncomputable def bools (p : Int → Prop) : List V := (List.range 64).map fun (k : Nat) => V.bool (dec (p (k : Int)))
@[simp] theorem bools_len (p : Int → Prop) : (bools p).length = 64 := by simp [bools]
theorem bools_get {p : Int → Prop} {k : Nat} (hk : k < 64) (d : V) : (bools p)[k]?.getD d = .bool (dec (p (k : Int))) := by simp [bools, hk]
theorem bools_set {p : Int → Prop} {k : Nat} (hk : k < 64) : (bools p).set k (.bool true) = bools fun s => p s ∨ s = (k : Int) := by
  apply List.ext_getElem (by simp)
  intro j h1 h2
  simp only [bools_len] at h2
  rw [List.getElem_set]
  split
  · rename_i e
    subst e
    simp [bools, dec]
  · rename_i e
    have : ¬ ((j : Int) = k) := by omega
    simp [bools, dec, this]
theorem bools_congr {p q : Int → Prop} (h : ∀ s, isS s → (p s ↔ q s)) : bools p = bools q := by
  apply List.ext_getElem (by simp)
  intro j h1 h2
  simp only [bools_len] at h2
  simp [bools, dec, h j (inS j h2)]
theorem bools_none : List.replicate 64 (V.bool false) = bools fun _ => False := by
  show _ = (List.range 64).map fun _ => V.bool (dec False)
  rw [dec_false fun h => h, List.map_const', List.length_range]
@[simp] theorem bools_cell (p : Int → Prop) : (bools p).all V.cell = true := by simp [bools, V.cell]
@[simp] theorem bools_ren (r : Nat → Option Nat) (p : Int → Prop) : renL r (bools p) = some (bools p) := by
  unfold bools
  generalize List.range 64 = l
  induction l with
  | nil => rfl
  | cons a l ih => simp [renL, ren1, ih]
end Go.Proofs.Ytmemomfffehnkaa
namespace Go.Proofs.Ytmemomfffehnkaa
open Go Go.RowKit
set_option maxRecDepth 1000000
set_option linter.unusedSimpArgs false
set_option linter.unusedVariables false
set_option maxHeartbeats 1000000
/-- The maximal sets of a family. -/
def maxP (p : Int → Prop) (s : Int) : Prop := p s ∧ ∀ t, isS t → p t → subS s t → t = s
theorem filt_pos {l : List Int} {k : Nat} (h : k < l.length) {q : Int → Bool} (hq : q (at0 l k) = true) : (l.take (k + 1)).filter q = (l.take k).filter q ++ [at0 l k] := by
  rw [take_at h, List.filter_append]
  simp [hq]
theorem filt_neg {l : List Int} {k : Nat} (h : k < l.length) {q : Int → Bool} (hq : q (at0 l k) = false) : (l.take (k + 1)).filter q = (l.take k).filter q := by
  rw [take_at h, List.filter_append]
  simp [hq]
theorem filt_len (l : List Int) (k : Nat) (q : Int → Bool) : ((l.take k).filter q).length ≤ l.length := by
  have h1 := List.length_filter_le q (l.take k)
  have h2 : (l.take k).length ≤ l.length := by simp; omega
  omega
theorem filt_setsOf (p : Int → Prop) (q : Int → Prop) : (setsOf p).filter (fun s => dec (q s)) = setsOf fun s => p s ∧ q s := by
  rw [filter_setsOf]
  exact setsOf_congr fun s _ => by rw [dec_iff]
end Go.Proofs.Ytmemomfffehnkaa
namespace Go.Proofs.Ytmemomfffehnkaa
open Go Go.RowKit
set_option maxRecDepth 1000000
set_option linter.unusedSimpArgs false
set_option linter.unusedVariables false
set_option maxHeartbeats 1000000
theorem pc_sub : ∀ x : Nat, x < 64 → ∀ y : Nat, y < 64 → (x &&& y != x || decide (pcF 6 x ≤ pcF 6 y) && (x == y || decide (pcF 6 x < pcF 6 y))) = true := by decide +kernel
theorem sz_sub {a b : Int} (ha : isS a) (hb : isS b) (h : subS a b) : sz a ≤ sz b ∧ (a ≠ b → sz a < sz b) := by
  obtain ⟨x, hx, rfl⟩ := isS_nat ha
  obtain ⟨y, hy, rfl⟩ := isS_nat hb
  have k := pc_sub x hx y hy
  rw [subS_nat x y hx hy] at h
  simp only [sz, Int.toNat_natCast, pc6 x hx, pc6 y hy]
  simp only [Bool.or_eq_true, bne_iff_ne, Bool.and_eq_true, decide_eq_true_eq, beq_iff_eq] at k
  rcases k with k | ⟨k1, k2⟩
  · exact absurd h k
  · refine ⟨by omega, fun hne => ?_⟩
    rcases k2 with k2 | k2
    · subst k2; exact absurd rfl hne
    · omega
theorem before_at {l : List Int} (h : l.Pairwise fun a b => before a b = true) {i j : Nat} (hij : i < j) (hj : j < l.length) : before (at0 l i) (at0 l j) = true := by
  have := List.pairwise_iff_getElem.1 h i j (by omega) hj hij
  rwa [← at0_eq, ← at0_eq] at this
theorem max_iff_all (p : Int → Prop) {k : Nat} (hk : k < (setsOf p).length) : maxP p (at0 (setsOf p) k) ↔ ∀ j, j < (setsOf p).length → at0 (setsOf p) k ≠ at0 (setsOf p) j → ¬ subS (at0 (setsOf p) k) (at0 (setsOf p) j) := by
  obtain ⟨hs, hp⟩ := mem_setsOf.1 (getD_mem' hk)
  constructor
  · rintro ⟨_, h⟩ j hj hne hsub
    obtain ⟨ht, hpt⟩ := mem_setsOf.1 (getD_mem' hj)
    exact hne (h _ ht hpt hsub).symm
  · intro h
    refine ⟨hp, fun t ht hpt hst => Classical.byContradiction fun hne => ?_⟩
    obtain ⟨j, hj, e⟩ := getD_mem_iff.1 (mem_setsOf.2 ⟨ht, hpt⟩)
    exact h j hj (fun e2 => hne (e2.trans e).symm) (by rw [e]; exact hst)
theorem filt_max (p : Int → Prop) : (setsOf p).filter (fun s => dec (maxP p s)) = setsOf (maxP p) := by
  rw [filt_setsOf]
  exact setsOf_congr fun s _ => ⟨fun h => h.2, fun h => ⟨h.1, h⟩⟩
/-- By points. -/
theorem subS_tb {a b : Int} (ha : isS a) (hb : isS b) : subS a b ↔ ∀ i, i < 6 → tb a i → tb b i := by
  constructor
  · intro h i hi
    have e := (subS_iff ha hb).1 h
    intro h2
    rw [← e] at h2
    exact ((band_bits ha hb hi).1 h2).2
  · intro h
    refine (subS_iff ha hb).2 (tb_ext (isS_band ha hb) ha fun i hi => ?_)
    rw [band_bits ha hb hi]
    exact ⟨fun h => h.1, fun h2 => ⟨h2, h i hi h2⟩⟩
theorem tb_bnot_iff {a b : Int} (ha : isS a) (hb : isS b) {i : Nat} (hi : i < 6) : tb (bnot a b) i ↔ tb a i ∧ ¬ tb b i := by
  obtain ⟨x, hx, rfl⟩ := isS_nat ha
  obtain ⟨y, hy, rfl⟩ := isS_nat hb
  rw [bnot_nat x y hx hy, tb_nat _ i (by omega) hi, tb_nat x i hx hi, tb_nat y i hy hi, bnot_bits x y i hx hy hi]
  cases x.testBit i <;> cases y.testBit i <;> simp
end Go.Proofs.Ytmemomfffehnkaa
namespace Go.Proofs.Ytmemomfffehnkaa
open Go Go.RowKit
set_option maxRecDepth 1000000
set_option linter.unusedSimpArgs false
set_option linter.unusedVariables false
set_option maxHeartbeats 1000000
def sc_s_l3Has_L0 : SC := (.seq (.seq (.reg [⟨(some 6), none, (.mov (.t 5))⟩, ⟨(some 7), none, (.fad 1 (.t 2))⟩, ⟨(some 8), none, (.ld none .nil (.t 7))⟩, ⟨(some 9), none, (.len (.t 8))⟩, ⟨(some 10), none, (.bin false .lss (.t 6) (.t 9))⟩]) (.cond (.t 10) .skip (.exit 0))) (.seq (.block 1 (.seq (.reg [⟨(some 13), none, (.fad 1 (.t 2))⟩, ⟨(some 14), none, (.ld none .nil (.t 13))⟩, ⟨(some 15), none, (.mov (.t 5))⟩, ⟨(some 16), none, (.idx 1 (.t 14) (.t 15))⟩, ⟨(some 17), none, (.ld none (.int .i64 0) (.t 16))⟩, ⟨(some 18), none, (.mov (.t 1))⟩, ⟨(some 19), none, (.bin false .and (.t 17) (.t 18))⟩, ⟨(some 20), none, (.mov (.t 1))⟩, ⟨(some 21), none, (.bin false .eql (.t 19) (.t 20))⟩]) (.cond (.t 21) (.seq (.reg [⟨(some 4), none, (.mov (.c (.bool true)))⟩]) .ret) .skip))) (.reg [⟨(some 11), none, (.mov (.t 5))⟩, ⟨(some 12), none, (.bin false .add (.t 11) (.c (.int .i64 1)))⟩, ⟨(some 5), none, (.mov (.t 12))⟩])))
def sc_s_l3Has : SC := (.seq (.reg [⟨(some 2), none, (.box (.t 0))⟩, ⟨(some 4), none, (.mov (.c (.bool false)))⟩]) (.seq (.seq (.reg [⟨(some 5), none, (.mov (.c (.int .i64 0)))⟩]) (.block 0 (.loop sc_s_l3Has_L0))) (.seq (.reg [⟨(some 4), none, (.mov (.c (.bool false)))⟩]) .ret)))
theorem code_s_l3Has : fnCode Try.prog [] 158 = some (22, sc_s_l3Has, [(4, none)]) := by kernel_rfl
open Classical in
noncomputable def F_s_l3Has : List V → Option V := F2 dC dI fun c s => if allS c.2 ∧ isS s then some (.bool (dec (faceS c.2 s))) else none
theorem fn_s_l3Has : FnOk Try.prog 158 F_s_l3Has := by
  refine fn_ok code_s_l3Has mixed envNil_ok ?_
  intro args r h hb
  obtain ⟨_, _, ⟨n, l⟩, s, rfl, h1, h2, h4⟩ := F2_inv h
  cases dC_inv h1
  cases dI_inv h2
  simp only [Option.ite_none_right_eq_some, Option.some.injEq] at h4
  obtain ⟨⟨hS, hs⟩, rfl⟩ := h4
  have hlen := bnd_eC (hb _ (List.mem_cons_self ..))
  simp only at hlen
  refine ⟨by simp, fun w0 U0 L0 N0 => ?_⟩
  generalize hv : dec (faceS l s) = v
  simp -implicitDefEqProofs [sc_s_l3Has]
  refine loopI envNil_ok mixed (fun k : Nat => [(1, .int .i64 s), (2, .pt 0 0), (5, .int .i64 (k : Int))]) (fun _ => ([(0, [.int .i64 n, .list 1 (ints l)])], 1)) (fun k => k ≤ l.length ∧ ∀ j, j < k → ¬ subS s (at0 l j)) (fun k => l.length - k) 0 (by simp) (SubI.slots rfl (by simp)) ?_
  rintro k ⟨hk, hn⟩
  by_cases hlt : k < l.length
  · have hf := allS_at hS hlt
    by_cases he : band (at0 l k) s = s
    · have hv1 : v = true := hv ▸ dec_true ⟨_, getD_mem' hlt, (subS_iff' hs hf).2 he⟩
      simp -implicitDefEqProofs [sc_s_l3Has_L0, hlt, he, hv1]
      try omega
    · simp -implicitDefEqProofs [sc_s_l3Has_L0, hlt, he]
      repeat' (first | omega | apply And.intro)
      refine Again.of (k + 1) ⟨by omega, fun j hj => ?_⟩ (by omega) (SubI.slots rfl (by simp (disch := omega) [wrapI]))
      rcases Nat.lt_succ_iff_lt_or_eq.1 hj with h1 | rfl
      · exact hn j h1
      · exact fun h => he ((subS_iff' hs hf).1 h)
  · have hv1 : v = false := by
      rw [← hv]
      refine dec_false ?_
      rintro ⟨f, h1, h2⟩
      obtain ⟨j, hj, rfl⟩ := getD_mem_iff.1 h1
      exact hn j (by omega) h2
    simp -implicitDefEqProofs [sc_s_l3Has_L0, hlt, hv1]
end Go.Proofs.Ytmemomfffehnkaa
namespace Go.Proofs.Ytmemomfffehnkaa
open Go Go.RowKit
set_option maxRecDepth 1000000
set_option linter.unusedSimpArgs false
set_option linter.unusedVariables false
set_option maxHeartbeats 1000000
def sc_s_l2Order_L4 : SC := (.seq (.seq (.reg [⟨(some 26), none, (.mov (.t 7))⟩, ⟨(some 27), none, (.bin false .lss (.t 26) (.c (.int .i64 64)))⟩]) (.cond (.t 27) .skip (.exit 4))) (.seq (.block 5 (.seq (.reg [⟨(some 30), none, (.mov (.t 3))⟩, ⟨(some 31), none, (.mov (.t 7))⟩, ⟨(some 32), none, (.idx 1 (.t 30) (.t 31))⟩, ⟨(some 33), none, (.ld none (.bool false) (.t 32))⟩, ⟨(some 34), none, (.mov (.t 33))⟩, ⟨(some 35), (some (34, true)), (.mov (.t 7))⟩, ⟨(some 36), (some (34, true)), (.call 156 [(.t 35)])⟩, ⟨(some 37), (some (34, true)), (.mov (.t 6))⟩, ⟨(some 38), (some (34, true)), (.bin false .eql (.t 36) (.t 37))⟩, ⟨(some 39), none, (.pick (.t 34) (.t 38) (.c (.bool false)))⟩]) (.cond (.t 39) (.reg [⟨(some 40), none, (.mov (.t 5))⟩, ⟨(some 41), none, (.mov (.t 7))⟩, ⟨(some 42), none, (.mks 1 1 [(.int .i64 0)] [(0, (1, (.t 41)))])⟩, ⟨(some 43), none, (.app 1 8 (.t 40) (.t 42))⟩, ⟨(some 5), none, (.mov (.t 43))⟩]) .skip))) (.reg [⟨(some 28), none, (.mov (.t 7))⟩, ⟨(some 29), none, (.bin false .add (.t 28) (.c (.int .i64 1)))⟩, ⟨(some 7), none, (.mov (.t 29))⟩])))
def sc_s_l2Order_L2 : SC := (.seq (.seq (.reg [⟨(some 22), none, (.mov (.t 6))⟩, ⟨(some 23), none, (.bin false .leq (.t 22) (.c (.int .i64 6)))⟩]) (.cond (.t 23) .skip (.exit 2))) (.seq (.block 3 (.seq (.reg [⟨(some 7), none, (.mov (.c (.int .i64 0)))⟩]) (.block 4 (.loop sc_s_l2Order_L4)))) (.reg [⟨(some 24), none, (.mov (.t 6))⟩, ⟨(some 25), none, (.bin false .add (.t 24) (.c (.int .i64 1)))⟩, ⟨(some 6), none, (.mov (.t 25))⟩])))
def sc_s_l2Order_L0 : SC := (.seq (.seq (.reg [⟨(some 9), none, (.mov (.t 4))⟩, ⟨(some 10), none, (.mov (.t 0))⟩, ⟨(some 11), none, (.len (.t 10))⟩, ⟨(some 12), none, (.bin false .lss (.t 9) (.t 11))⟩]) (.cond (.t 12) .skip (.exit 0))) (.seq (.block 1 (.reg [⟨(some 15), none, (.mov (.t 3))⟩, ⟨(some 16), none, (.mov (.t 0))⟩, ⟨(some 17), none, (.mov (.t 4))⟩, ⟨(some 18), none, (.idx 1 (.t 16) (.t 17))⟩, ⟨(some 19), none, (.ld none (.int .i64 0) (.t 18))⟩, ⟨(some 20), none, (.idx 1 (.t 15) (.t 19))⟩, ⟨none, none, (.st 1 (.t 20) (.c (.bool true)))⟩])) (.reg [⟨(some 13), none, (.mov (.t 4))⟩, ⟨(some 14), none, (.bin false .add (.t 13) (.c (.int .i64 1)))⟩, ⟨(some 4), none, (.mov (.t 14))⟩])))
def sc_s_l2Order : SC := (.seq (.reg [⟨(some 2), none, (.mov (.c .nil))⟩]) (.seq (.reg [⟨(some 8), none, (.mk 1 1 [(.bool false)] (.c (.int .i64 64)) (.c (.int .i64 64)))⟩, ⟨(some 3), none, (.mov (.t 8))⟩]) (.seq (.seq (.reg [⟨(some 4), none, (.mov (.c (.int .i64 0)))⟩]) (.block 0 (.loop sc_s_l2Order_L0))) (.seq (.reg [⟨(some 21), none, (.mks 0 1 [] [])⟩, ⟨(some 5), none, (.mov (.t 21))⟩]) (.seq (.seq (.reg [⟨(some 6), none, (.mov (.c (.int .i64 0)))⟩]) (.block 2 (.loop sc_s_l2Order_L2))) (.seq (.reg [⟨(some 44), none, (.mov (.t 5))⟩, ⟨(some 2), none, (.mov (.t 44))⟩]) .ret))))))
theorem code_s_l2Order : fnCode Try.prog [] 159 = some (45, sc_s_l2Order, [(2, none)]) := by kernel_rfl
theorem bools_setI {p : Int → Prop} {s : Int} (hs : isS s) : (bools p).set s.toNat (.bool true) = bools fun t => p t ∨ t = s := by
  obtain ⟨k, hk, rfl⟩ := isS_nat hs
  exact bools_set hk
@[simp high] theorem bools_getD {p : Int → Prop} {k : Nat} (hk : k < 64) (d : V) : (bools p).getD k d = .bool (dec (p (k : Int))) := by
  rw [List.getD_eq_getElem?_getD, bools_get hk]
open Classical in
noncomputable def F_s_l2Order : List V → Option V := F1 dL fun l => if allS l then some (.own 1 (ints (setsOf fun s => s ∈ l))) else none
theorem fn_s_l2Order : FnOk Try.prog 159 F_s_l2Order := by
  have env := (envNil_ok (P := Try.prog)).add fn_s_l2Size
  refine fn_ok code_s_l2Order mixed env ?_
  intro args r h hb
  obtain ⟨_, l, rfl, h1, h4⟩ := F1_inv h
  cases dL_inv h1
  simp only [Option.ite_none_right_eq_some, Option.some.injEq] at h4
  obtain ⟨hS, rfl⟩ := h4
  have hlen := bnd_ints (hb _ (List.mem_cons_self ..))
  refine ⟨by simp, fun w0 U0 L0 N0 => ?_⟩
  have inner : ∀ (p : Int → Prop) (z : Nat) (Q : Post) (L : Tm), z ≤ 6 → subE L [(3, .sl 0 1 0 64), (5, .sl 1 1 0 (ordS p z).length), (6, .int .i64 (z : Int)), (7, .int .i64 0)] →
      Q (.exit 4) [(3, .sl 0 1 0 64), (5, .sl 1 1 0 (ordS p (z + 1)).length), (6, .int .i64 (z : Int))] ([(1, ints (ordS p (z + 1))), (0, bools p)], 2) →
      LoopI ⟨Try.prog, w0, U0, L0, N0, 0, 45⟩ [] sc_s_l2Order_L4 Q L ([(1, ints (ordS p z)), (0, bools p)], 2) := by
    intro p z Q L hz hs q1
    have ob := ordS_len p z
    refine loopQ env mixed (fun k : Nat => [(3, .sl 0 1 0 64), (5, .sl 1 1 0 (ordS p z ++ upS (fun s => p s ∧ sz s = z) k).length), (6, .int .i64 (z : Int)), (7, .int .i64 (k : Int))]) (fun k => ([(1, ints (ordS p z ++ upS (fun s => p s ∧ sz s = z) k)), (0, bools p)], 2)) (fun k => k ≤ 64) (fun k => 64 - k) 0 (by simp)
      (SubI.slots (by simp [upS]) (by simpa [upS] using hs)) ?_
    intro k hk
    have ub := upS_len (fun s => p s ∧ sz s = z) k
    by_cases hlt : k < 64
    · have hlt' : (k : Int) < 64 := by omega
      have r1 : (k : Int) < 9223372036854775808 := by omega
      by_cases hp : p (k : Int)
      · have hpd := dec_true hp
        by_cases hsz : sz (k : Int) = (z : Int)
        · have e : upS (fun s => p s ∧ sz s = z) (k + 1) = upS (fun s => p s ∧ sz s = z) k ++ [(k : Int)] := upS_pos ⟨hp, hsz⟩
          have e2 : ordS p z ++ upS (fun s => p s ∧ sz s = z) (k + 1) = (ordS p z ++ upS (fun s => p s ∧ sz s = z) k) ++ [(k : Int)] := by rw [e, List.append_assoc]
          have gl : (ordS p z ++ upS (fun s => p s ∧ sz s = z) k).length ≤ 64 * z + k := by rw [List.length_append]; omega
          generalize hg : ordS p z ++ upS (fun s => p s ∧ sz s = z) k = g at *
          simp -implicitDefEqProofs [sc_s_l2Order_L4, F_s_l2Size, hlt, hlt', r1, hpd, hsz]
          repeat' (first | omega | apply And.intro)
          refine Again.of (k + 1) (by omega) (by omega) (SubI.ren (fun m => if m = 0 then some 0 else if m = 1 then some 3 else none) ?_ ?_ ?_ (by simp) (by simp))
          · have el := congrArg List.length e2
            simp only [List.length_append, List.length_cons, List.length_nil] at el
            simp (disch := omega) [subT, renV, ren1, wrapI, e2]
            omega
          · simp [subH, e2, renL, ren1]
            rw [← ints_app]
            rfl
          · intro m hm
            simp only at hm
            rw [if_neg (by omega), if_neg (by omega)]
        · have e : upS (fun s => p s ∧ sz s = z) (k + 1) = upS (fun s => p s ∧ sz s = z) k := upS_neg fun h => hsz h.2
          simp -implicitDefEqProofs [sc_s_l2Order_L4, F_s_l2Size, hlt, hlt', r1, hpd, hsz]
          repeat' (first | omega | apply And.intro)
          exact Again.of (k + 1) (by omega) (by omega) (SubI.slots (by simp [e]) (by simp (disch := omega) [wrapI, e]))
      · have hpd := dec_false hp
        have e : upS (fun s => p s ∧ sz s = z) (k + 1) = upS (fun s => p s ∧ sz s = z) k := upS_neg fun h => hp h.1
        simp -implicitDefEqProofs [sc_s_l2Order_L4, hlt, hlt', hpd]
        repeat' (first | omega | apply And.intro)
        exact Again.of (k + 1) (by omega) (by omega) (SubI.slots (by simp [e]) (by simp (disch := omega) [wrapI, e]))
    · have : k = 64 := by omega
      subst this
      simp -implicitDefEqProofs [sc_s_l2Order_L4]
      exact SubQ.of (SubI.slots (by simp [ordS]) (by simp [ordS])) q1
  simp -implicitDefEqProofs [sc_s_l2Order]
  refine loopI env mixed (fun k : Nat => [(0, .list 1 (ints l)), (3, .sl 0 1 0 64), (4, .int .i64 (k : Int))]) (fun k => ([(0, bools fun s => s ∈ l.take k)], 1)) (fun k => k ≤ l.length) (fun k => l.length - k) 0 (by simp) (SubI.slots (by simp [← bools_none]) (by simp)) ?_
  intro k hk
  by_cases hlt : k < l.length
  · have hf := allS_at hS hlt
    have e : (bools fun t => t ∈ l.take k ∨ t = at0 l k) = bools fun t => t ∈ l.take (k + 1) := by
      rw [take_at hlt]
      exact bools_congr fun s _ => by simp
    have f0 := hf.1
    have f1 := hf.2
    have f2 : (at0 l k).toNat < 64 := by omega
    have es := bools_setI (p := fun t => t ∈ l.take k) hf
    simp -implicitDefEqProofs [sc_s_l2Order_L0, hlt, f0, f1, f2, es, e]
    repeat' (first | omega | apply And.intro)
    exact Again.of (k + 1) (by omega) (by omega) (SubI.slots (by simp) (by simp (disch := omega) [wrapI]))
  · have : k = l.length := by omega
    subst this
    simp -implicitDefEqProofs [sc_s_l2Order_L0]
    refine loopI env mixed (fun z : Nat => [(3, .sl 0 1 0 64), (5, .sl 1 1 0 (ordS (fun s => s ∈ l) z).length), (6, .int .i64 (z : Int))]) (fun z => ([(1, ints (ordS (fun s => s ∈ l) z)), (0, bools fun s => s ∈ l)], 2)) (fun z => z ≤ 7) (fun z => 7 - z) 0 (by simp) (SubI.slots (by simp [ordS]) (by simp [ordS])) ?_
    intro z hz
    by_cases h7 : z < 7
    · have hz6 : (z : Int) ≤ 6 := by omega
      simp -implicitDefEqProofs [sc_s_l2Order_L2, hz6]
      refine inner _ z _ _ (by omega) (by simp) ?_
      simp -implicitDefEqProofs
      exact Again.of (z + 1) (by omega) (by omega) (SubI.slots (by simp) (by simp (disch := omega) [wrapI]))
    · have : z = 7 := by omega
      subst this
      simp -implicitDefEqProofs [sc_s_l2Order_L2, setsOf_eq]
end Go.Proofs.Ytmemomfffehnkaa
namespace Go.Proofs.Ytmemomfffehnkaa
open Go Go.RowKit
set_option maxRecDepth 1000000
set_option linter.unusedSimpArgs false
set_option linter.unusedVariables false
set_option maxHeartbeats 1000000
def sc_s_FacesOf_L0 : SC := (.seq (.seq (.reg [⟨(some 6), none, (.mov (.t 4))⟩, ⟨(some 7), none, (.bin false .lss (.t 6) (.c (.int .i64 64)))⟩, ⟨(some 8), none, (.mov (.t 7))⟩, ⟨(some 9), (some (8, true)), (.ld (some 2) .undef (.t 1))⟩, ⟨(some 10), (some (8, true)), (.call 24 [(.t 9)])⟩, ⟨(some 11), none, (.pick (.t 8) (.t 10) (.c (.bool false)))⟩]) (.cond (.t 11) .skip (.exit 0))) (.seq (.block 1 (.seq (.reg [⟨(some 14), none, (.ld (some 2) .undef (.t 1))⟩, ⟨(some 15), none, (.mov (.t 4))⟩, ⟨(some 16), none, (.call 158 [(.t 14), (.t 15)])⟩]) (.cond (.t 16) (.reg [⟨(some 17), none, (.mov (.t 3))⟩, ⟨(some 18), none, (.mov (.t 4))⟩, ⟨(some 19), none, (.mks 1 1 [(.int .i64 0)] [(0, (1, (.t 18)))])⟩, ⟨(some 20), none, (.app 1 8 (.t 17) (.t 19))⟩, ⟨(some 3), none, (.mov (.t 20))⟩]) .skip))) (.reg [⟨(some 12), none, (.mov (.t 4))⟩, ⟨(some 13), none, (.bin false .add (.t 12) (.c (.int .i64 1)))⟩, ⟨(some 4), none, (.mov (.t 13))⟩])))
def sc_s_FacesOf : SC := (.seq (.reg [⟨(some 1), none, (.box (.t 0))⟩, ⟨(some 2), none, (.mov (.c .nil))⟩]) (.seq (.reg [⟨(some 5), none, (.mks 0 1 [] [])⟩, ⟨(some 3), none, (.mov (.t 5))⟩]) (.seq (.seq (.reg [⟨(some 4), none, (.mov (.c (.int .i64 0)))⟩]) (.block 0 (.loop sc_s_FacesOf_L0))) (.seq (.reg [⟨(some 21), none, (.mov (.t 3))⟩, ⟨(some 22), none, (.call 159 [(.t 21)])⟩, ⟨(some 2), none, (.mov (.t 22))⟩]) .ret))))
theorem code_s_FacesOf : fnCode Try.prog [] 43 = some (23, sc_s_FacesOf, [(2, none)]) := by kernel_rfl
/-- The faces of a complex, in order. -/
noncomputable def facesL (n : Int) (l : List Int) : List Int := setsOf fun s => cplx n l ∧ faceS l s
theorem facesL_of {n : Int} {l : List Int} (h : cplx n l) : facesL n l = setsOf (faceS l) := setsOf_congr fun s _ => ⟨fun a => a.2, fun a => ⟨h, a⟩⟩
theorem facesL_not {n : Int} {l : List Int} (h : ¬ cplx n l) : facesL n l = [] := by
  rw [← setsOf_none]
  exact setsOf_congr fun s _ => ⟨fun a => h a.1, False.elim⟩
noncomputable def F_s_FacesOf : List V → Option V := F1 dC fun c => some (.own 1 (ints (facesL c.1 c.2)))
theorem fn_s_FacesOf : FnOk Try.prog 43 F_s_FacesOf := by
  have env := (((envNil_ok (P := Try.prog)).add fn_s_l3Has).add fn_s_l2Order).add fn_s_IsComplex
  refine fn_ok code_s_FacesOf mixed env ?_
  intro args r h hb
  obtain ⟨_, ⟨n, l⟩, rfl, h1, h4⟩ := F1_inv h
  cases dC_inv h1
  cases h4
  refine ⟨by simp, fun w0 U0 L0 N0 => ?_⟩
  simp -implicitDefEqProofs [sc_s_FacesOf]
  cases hc : cplxB n l with
  | false =>
    have e : (setsOf fun x => x ∈ ([] : List Int)) = facesL n l := by
      rw [facesL_not fun h => by simp [cplxB_iff.2 h] at hc]
      exact (setsOf_congr (q := fun _ => False) fun s _ => by simp).trans setsOf_none
    refine loopI env mixed (fun _ : Unit => [(1, .pt 0 0), (3, .sl 1 1 0 0), (4, .int .i64 0)]) (fun _ => ([(1, []), (0, [.int .i64 n, .list 1 (ints l)])], 2)) (fun _ => True) (fun _ => 0) () trivial (SubI.slots (by simp) (by simp)) ?_
    intro _ _
    simp at e
    simp -implicitDefEqProofs [sc_s_FacesOf_L0, F_s_IsComplex, hc, F_s_l2Order, allS, e]
  | true =>
    have hcp := cplxB_iff.1 hc
    have hS := cplx_isS hcp
    refine loopI env mixed (fun k : Nat => [(1, .pt 0 0), (3, .sl 1 1 0 (upS (faceS l) k).length), (4, .int .i64 (k : Int))]) (fun k => ([(1, ints (upS (faceS l) k)), (0, [.int .i64 n, .list 1 (ints l)])], 2)) (fun k => k ≤ 64) (fun k => 64 - k) 0 (by simp) (SubI.slots (by simp [upS]) (by simp [upS])) ?_
    intro k hk
    have ub := upS_len (faceS l) k
    by_cases hlt : k < 64
    · have hlt' : (k : Int) < 64 := by omega
      have hkS := inS k hlt
      by_cases hp : faceS l (k : Int)
      · have e : upS (faceS l) (k + 1) = upS (faceS l) k ++ [(k : Int)] := upS_pos hp
        have hpd := dec_true hp
        simp -implicitDefEqProofs [sc_s_FacesOf_L0, F_s_IsComplex, F_s_l3Has, hc, hlt', hS, hkS, hpd]
        repeat' (first | omega | apply And.intro)
        refine Again.of (k + 1) (by omega) (by omega) (SubI.ren (fun m => if m = 0 then some 0 else if m = 1 then some 3 else none) ?_ ?_ ?_ (by simp) (by simp))
        · simp (disch := omega) [subT, renV, ren1, wrapI, e]
        · simp [subH, e, renL, ren1]
          rw [← ints_app]
          rfl
        · intro m hm
          simp only at hm
          rw [if_neg (by omega), if_neg (by omega)]
      · have e : upS (faceS l) (k + 1) = upS (faceS l) k := upS_neg hp
        have hpd := dec_false hp
        simp -implicitDefEqProofs [sc_s_FacesOf_L0, F_s_IsComplex, F_s_l3Has, hc, hlt', hS, hkS, hpd]
        repeat' (first | omega | apply And.intro)
        exact Again.of (k + 1) (by omega) (by omega) (SubI.slots (by simp [e]) (by simp (disch := omega) [wrapI, e]))
    · have : k = 64 := by omega
      subst this
      have e : (setsOf fun x => x ∈ upS (faceS l) 64) = facesL n l := by
        rw [facesL_of hcp]
        exact setsOf_congr fun x hx => by rw [mem_upS64]; exact ⟨fun h => h.2, fun h => ⟨hx, h⟩⟩
      simp -implicitDefEqProofs [sc_s_FacesOf_L0, F_s_l2Order, allS_upS, e]
end Go.Proofs.Ytmemomfffehnkaa
namespace Go.Proofs.Ytmemomfffehnkaa
open Go Go.RowKit
set_option maxRecDepth 1000000
set_option linter.unusedSimpArgs false
set_option linter.unusedVariables false
set_option maxHeartbeats 1000000
theorem lst_nat (q : Nat → Prop) (k : Nat) : (∀ i, i < k → ¬ q i) ∨ ∃ m, m < k ∧ q m ∧ ∀ i, i < m → ¬ q i := by
  induction k with
  | zero => exact .inl fun i hi => by omega
  | succ k ih =>
    rcases ih with h | ⟨m, a, b, c⟩
    · by_cases hq : q k
      · exact .inr ⟨k, by omega, hq, h⟩
      · refine .inl fun i hi => ?_
        rcases Nat.lt_succ_iff_lt_or_eq.1 hi with h1 | rfl
        · exact h i h1
        · exact hq
    · exact .inr ⟨m, by omega, b, c⟩
/-- A list that D likes begins so. -/
def exD (D : List Int → Prop) (head : List Int) : Prop := ∃ t, D (head ++ t)
theorem exD_of {D : List Int → Prop} {head : List Int} (s : Int) (h : exD D (head ++ [s])) : exD D head := by
  obtain ⟨t, ht⟩ := h
  exact ⟨s :: t, by simpa using ht⟩
/-- The least next number with which it goes on. -/
theorem nx_ex (D : List Int → Prop) (head : List Int) : ∃ s : Int, (∃ u, isS u ∧ exD D (head ++ [u])) → isS s ∧ exD D (head ++ [s]) ∧ ∀ u, isS u → u < s → ¬ exD D (head ++ [u]) := by
  rcases lst_nat (fun i => exD D (head ++ [(i : Int)])) 64 with h | ⟨m, a, b, c⟩
  · refine ⟨0, fun ⟨u, hu, he⟩ => ?_⟩
    have h1 := hu.1
    have h2 := hu.2
    exact absurd (by rw [Int.toNat_of_nonneg h1]; exact he) (h u.toNat (by omega))
  · refine ⟨m, fun _ => ⟨⟨by omega, by omega⟩, b, fun u hu hlt he => ?_⟩⟩
    have h1 := hu.1
    exact c u.toNat (by omega) (by rw [Int.toNat_of_nonneg h1]; exact he)
noncomputable def nxS (D : List Int → Prop) (head : List Int) : Int := Classical.choose (nx_ex D head)
theorem nxS_spec {D : List Int → Prop} {head : List Int} (h : ∃ u, isS u ∧ exD D (head ++ [u])) : isS (nxS D head) ∧ exD D (head ++ [nxS D head]) ∧ ∀ u, isS u → u < nxS D head → ¬ exD D (head ++ [u]) := Classical.choose_spec (nx_ex D head) h
theorem nxS_eq {D : List Int → Prop} {head : List Int} {s : Int} (hs : isS s) (he : exD D (head ++ [s])) (hm : ∀ u, isS u → u < s → ¬ exD D (head ++ [u])) : nxS D head = s := by
  obtain ⟨h1, h2, h3⟩ := nxS_spec ⟨s, hs, he⟩
  rcases Int.lt_trichotomy (nxS D head) s with h | h | h
  · exact absurd h2 (hm _ h1 h)
  · exact h
  · exact absurd he (h3 s hs h)
/-- The first list that D likes with n more numbers. -/
noncomputable def exL (D : List Int → Prop) : Nat → List Int → List Int
  | 0, head => head
  | n + 1, head => exL D n (head ++ [nxS D head])
theorem exL_step {D : List Int → Prop} {head : List Int} {s : Int} (n : Nat) (hs : isS s) (he : exD D (head ++ [s])) (hm : ∀ u, isS u → u < s → ¬ exD D (head ++ [u])) : exL D (n + 1) head = exL D n (head ++ [s]) := by
  rw [exL, nxS_eq hs he hm]
theorem callable_of {P : Program} {lends : List FuncId} {f : FuncId} {x : Nat × SC × List (Nat × Option Nat)} (h : fnCode P lends f = some x) : Callable P f := by
  obtain ⟨nt, sc, rvs⟩ := x
  obtain ⟨fd, c, hf, hb, hname, _⟩ := fnCode_inv h
  exact ⟨fd, hf, by simp [hb], hname⟩
theorem cutI_id {k0 : Nat} {K : Tm → Hp → Prop} {l : Tm} {s : Hp} (hk : K l s) : CutI k0 K l s := CutI.of ⟨Sub.refl k0 l s⟩ hk
end Go.Proofs.Ytmemomfffehnkaa
