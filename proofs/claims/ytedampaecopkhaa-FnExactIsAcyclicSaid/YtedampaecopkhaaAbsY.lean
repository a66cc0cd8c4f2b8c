/- Functions that write into a row of their caller. -/
import Derived.Test.YtedampaecopkhaaAbsX
namespace Go.Proofs.Ytedampaecopkhaa
open Go Go.RowKit

/-- The length of a slice with a name, also within a struct. -/
def bndS : V → Prop
  | .sl _ _ _ len => len ≤ 9223372036854775807
  | _ => True
def bndN : V → Prop
  | .agg ps => ∀ x ∈ ps, bndS x
  | v => bndS v
section
variable {N : Nm} {U : Nat → Prop} {w : World}
theorem bndS_ok {v : V} {c : Value} {F : List Nat} (h : RV N U w v c F) : bndS v := by
  cases h <;> simp only [bndS]
  case sl hlc hm hz => simp only [maxLen] at hm; omega
  case slE => omega
  case slZ => omega
theorem bndN_ok {v : V} {c : Value} {F : List Nat} (h : RV N U w v c F) : bndN v := by
  cases h
  case agg parts cs h =>
    intro x hx
    obtain ⟨j, hj⟩ := List.getElem?_of_mem hx
    obtain ⟨c', Fj, A, B, g1, g2, _⟩ := h.get hj
    exact bndS_ok g2
  case sl n sz off len b base cap arr e fz hn hb hs hlc hm hz => exact bndS_ok (N := N) (U := U) (w := w) (.sl n sz off len b base cap arr e fz hn hb hs hlc hm hz)
  case slE n sz hn => exact bndS_ok (N := N) (U := U) (w := w) (.slE n sz hn)
  case slZ n sz off b base o arr e fz hn hb ho hz => exact bndS_ok (N := N) (U := U) (w := w) (.slZ n sz off b base o arr e fz hn hb ho hz)
  all_goals trivial
end
theorem fn_lend {P : Program} {f : FuncId} {nt : Nat} {sc : SC} {rvs : List (Nat × Option Nat)} {lends : List FuncId} (hc : fnCode P lends f = some (nt, sc, rvs)) (hm : P.follows .mixedOrders = true) {Γ : Env} (hΓ : EnvOk P Γ) {i : Nat} {G : List V → List V → Option (V × List V)}
    (h : ∀ args cells r cells', G args cells = some (r, cells') → (∀ a ∈ args, bndN a) → args.length ≤ nt ∧ ∀ w0 U0 L0 N0, vc ⟨P, w0, U0, L0, N0, 1, nt⟩ Γ lends sc (retE 1 rvs r fun H => hget H 0 = some cells' ∧ cells'.all (nonm 6) = true) (initT 0 args) ([(0, cells)], 1)) : LendOk P f i G := by
  obtain ⟨fd, c, hf, hb, hname, hnt, h1, h2⟩ := fnCode_inv hc
  refine ⟨⟨fd, hf, by simp [hb], hname⟩, ?_⟩
  intro args cells r cells' hG l U w cargs T hU hT hargs hrow
  have hbnd : ∀ a ∈ args, bndN a := by
    intro x hx
    obtain ⟨j, hj⟩ := List.getElem?_of_mem hx
    obtain ⟨c', g1, g2⟩ := hargs.get0 hj
    exact bndN_ok g2
  obtain ⟨hlen, hvc⟩ := h args cells r cells' hG hbnd
  have hv := hvc w U T (fun n => if n = 0 then some l else none)
  have hw := vc_ok (C := ⟨P, w, U, T, fun n => if n = 0 then some l else none, 1, nt⟩) hΓ hm lends c sc _ _ _ h1 hv
  refine calls_of_wp hf hb ?_
  rw [hnt]
  have hcl := hargs.len
  have hTl := RH.lt hrow
  have hk0 : Kept (fun n => if n = 0 then some l else none) (fun n => if n = 0 then some l else none) U (Un w U w T) w w := ⟨fun b hb => ⟨rfl, (hU b hb).1, (hU b hb).2, .inl hb⟩, fun _ _ h => h, fun _ _ _ _ => SameAt.shape rfl⟩
  have hst : Ctx.St ⟨P, w, U, T, fun n => if n = 0 then some l else none, 1, nt⟩ (initT 0 args) ([(0, cells)], 1) { tmps := cargs.toArray ++ Array.replicate (nt - cargs.toArray.size) Go.undef, defers := [] } w := by
    refine ⟨fun n => if n = 0 then some l else none, T, ?_, rfl, ?_, hrow.kept hk0 (fun _ _ => rfl), hT, fun b hb => .inl hb, KeepBut.refl _ _, fun n hn => ?_, fun _ _ => rfl, Nat.le_refl _, hTl⟩
    · simp; omega
    · refine init_slots ?_ []
      exact hargs.kept hk0 (by simp)
    · have : n ≠ 0 := fun e => by subst e; exact absurd hn (by show ¬ (1 ≤ 0); omega)
      simp [this]
  refine wp_mono (hw _ w hst) ?_
  rintro e a' w' ⟨l', s', hq, N, T2, hr⟩
  have fin : (match resV l' s' rvs with
      | some vs => mt 1 s'.1 (resOf vs) r fun H => hget H 0 = some cells' ∧ cells'.all (nonm 6) = true
      | none => False) → a'.defers = [] ∧ ∃ v, (results fd a'.tmps).run P w' = .ok v w' ∧ ∃ c F T', Ending.returned v = .returned c ∧ (F ++ T').Nodup ∧ (∀ b ∈ F ++ T', b ∈ T ∨ (w.heap.size ≤ b ∧ b < w'.heap.size)) ∧
      RV (fun n => if n = 0 then some l else none) (fun b => U b ∨ (w.heap.size ≤ b ∧ b < w'.heap.size ∧ b ∉ F ++ T')) w' r c F ∧
      RH (fun n => if n = 0 then some l else none) (fun b => U b ∨ (w.heap.size ≤ b ∧ b < w'.heap.size ∧ b ∉ F ++ T')) w' [(0, cells')] T' ∧ KeepBut T w w' := by
    intro hq
    split at hq
    · rename_i vs hvs
      obtain ⟨cs, e1, e2⟩ := resV_ok (P := P) hr.sl hr.hp _ _ _ h2 hvs
      obtain ⟨Fp, T', H', m1, m3, ⟨D, m2⟩, hg, hnm⟩ := mt_ok s'.1 T2 _ _ _ _ hq (resOf_ok e2) hr.hp
      obtain ⟨X, T1, d1, _, d3⟩ := m3.del hg
      have hN : N 0 = some l := by
        have := hr.nl 0 (by show 0 < 1; omega)
        simpa using this
      have hfun : (fun n => if n < 1 then N n else none) = fun n => if n = 0 then some l else none := by
        funext n
        by_cases e : n = 0
        · subst e; simp [hN]
        · have : ¬ n < 1 := by omega
          simp [e, this]
      rw [hfun] at m1
      have hX : ∀ x ∈ X, x ∈ T' := fun x hx => d3.mem_iff.2 (by simp [hx])
      have hsub : ∀ x ∈ Fp ++ X, x ∈ T2 := fun x hx => m2.mem_iff.1 (by
        rcases List.mem_append.1 hx with h | h
        · simp [h]
        · simp [hX x h])
      have hTlt := RH.lt hr.hp
      have hkk : Kept (fun n => if n = 0 then some l else none) (fun n => if n = 0 then some l else none) (Un w U w' T2) (fun b => U b ∨ (w.heap.size ≤ b ∧ b < w'.heap.size ∧ b ∉ Fp ++ X)) w' w' := ⟨fun b hbU => ⟨rfl, by
        obtain ⟨u1, u2, u3⟩ := hbU
        rcases u3 with u3 | u3
        · exact .inl u3
        · exact .inr ⟨u3, u1, fun hx => u2 (hsub b hx)⟩⟩, fun _ _ h => h, fun _ _ _ _ => SameAt.shape rfl⟩
      have hnd : (Fp ++ X).Nodup := by
        have p1 := m2.nodup_iff.2 hr.nd
        have p2 : (Fp ++ T').Nodup := (List.nodup_append.1 p1).1
        have p3 : (Fp ++ (X ++ T1)).Nodup := ((List.Perm.append_left Fp d3).nodup_iff).1 p2
        rw [← List.append_assoc] at p3
        exact (List.nodup_append.1 p3).1
      refine ⟨hr.dfr, _, results_run e1, _, Fp, X, rfl, hnd, fun b hb => ?_, m1.kept hkk (fun _ _ => rfl), ?_, hr.fr⟩
      · rcases hr.own b (hsub b hb) with h | h
        · exact .inl h
        · exact .inr ⟨h, hTlt b (hsub b hb)⟩
      · rcases d1 with ⟨q1, rfl, rfl⟩ | ⟨b, base, arr, e, cs, F, q1, q2, q3, q4, rfl⟩
        · rw [hN] at q1
          simp only [Option.some.injEq] at q1
          exact .consE 0 [] [] (by simp [q1]) .nil
        · rw [hN] at q1
          simp only [Option.some.injEq] at q1
          exact .cons 0 cells' b base arr e cs F [] [] _ (by simp [q1]) q2 q3 (q4.mapN fun v c G' hm hr' => (nonm_ok (fun b hb => (hkk.u b hb).2) 6 v c G' (List.all_eq_true.1 hnm v hm) hr')) .nil (by simp)
    · exact hq.elim
  cases e with
  | normal => exact fin hq
  | ret => exact fin hq
  | _ => exact hq.elim
end Go.Proofs.Ytedampaecopkhaa
