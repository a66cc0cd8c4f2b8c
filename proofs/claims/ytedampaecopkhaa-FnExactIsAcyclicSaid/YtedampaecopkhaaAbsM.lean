/- One theorem for all operations. -/
import Derived.Test.YtedampaecopkhaaAbsL
namespace Go.Proofs.Ytedampaecopkhaa
open Go Go.RowKit

section
variable {P : Program} {w0 : World} {U0 : Nat → Prop} {L0 : List Nat} {N0 : Nm} {k0 nt : Nat} {t : Nat → V} {s : Hp} {N : Nm} {T : List Nat} {a : Act} {w : World}

theorem RS.quiet (h : RS w0 U0 L0 N0 k0 nt t s N T a w) {Γ : Env} (hΓ : EnvOk P Γ) {o : Oper} {so : SO} (hc : compOp P o = some so) (hd : ∀ d, o.dst = some d → d < nt) {v : V} (he : evQ Γ s.1 (Opd.ev t) so = some (true, v))
    {K : Act → World → Prop} {Q : Exit → Act → World → Prop} (hK : ∀ a' w' N' T', RS w0 U0 L0 N0 k0 nt (upd t o.dst (opn 6 v s).1) (opn 6 v s).2 N' T' a' w' → K a' w') : o.wp P a w K Q := by
  refine evQ_wp hΓ hc h.sl h.hp (fun b hb => hb.1) h.hp.lt he ?_
  intro c w' F hb hF hv
  obtain ⟨N', T', hr⟩ := h.back hd hb hF hv
  exact hK _ _ _ _ hr

theorem RS.lendCall (h : RS w0 U0 L0 N0 k0 nt t s N T a w) {f : FuncId} {i : Nat} {G : List V → List V → Option (V × List V)} (hf : LendOk P f i G) {o : Oper} {c : Call} (ho : o.op = .call c) (hcal : c.callee = .value (.func f))
    {xs : List Opd} (hxs : compOpds c.args.toList = some xs) (hd : ∀ d, o.dst = some d → d < nt) {n : Nat} {v0 v1 : V} (hv0 : (xs[i]?).map (Opd.ev t) = some v0)
    (hv1 : ∀ (c : Value) (U' : Nat → Prop), RV N (Un w0 U0 w T) w v0 c [] → ∃ l, N n = some l ∧ RV (fun m => if m = 0 then some l else none) U' w v1 c [])
    {cells cells' : List V} (hg : hget s.1 n = some cells) {r : V} (hG : G ((xs.map fun x => dr (hdel s.1 n) 6 (x.ev t)).set i v1) cells = some (r, cells'))
    (hb : (nolist 6 r && cells.all (nonm 6) && cells'.all (nonm 6) && (cells'.all (nolist 6) || (xs.eraseIdx i).all fun x => noname 6 (x.ev t))) = true)
    {K : Act → World → Prop} {Q : Exit → Act → World → Prop} (hK : ∀ a' w' N' T', RS w0 U0 L0 N0 k0 nt (upd t o.dst (opn 6 (ren0 n 6 r) (hset s.1 n cells', s.2)).1) (opn 6 (ren0 n 6 r) (hset s.1 n cells', s.2)).2 N' T' a' w' → K a' w') : o.wp P a w K Q := by
  simp only [Bool.and_eq_true, Bool.or_eq_true] at hb
  obtain ⟨⟨⟨b1, b2⟩, b3⟩, b4⟩ := hb
  have hTlt := h.hp.lt
  obtain ⟨X, T1, d1, d2, d3⟩ := h.hp.del hg
  have hmem : ∀ x, x ∈ T ↔ x ∈ X ++ T1 := fun x => d3.mem_iff
  have hndT : (X ++ T1).Nodup := d3.nodup_iff.1 h.nd
  -- the argument that is lent
  obtain ⟨x0, hx0, he0⟩ := opt_map hv0
  have hos : ∃ cv, ((c.args.toList)[i]?).map a.eval = some cv ∧ RV N (Un w0 U0 w T) w v0 cv [] := by
    have key : ∀ (os : List Operand) (xs : List Opd) (i : Nat), compOpds os = some xs → xs[i]? = some x0 → ∃ cv, (os[i]?).map a.eval = some cv ∧ RV N (Un w0 U0 w T) w (x0.ev t) cv [] := by
      intro os
      induction os with
      | nil => intro xs i hc hx; simp [compOpds] at hc; subst hc; simp at hx
      | cons o os ih =>
        intro xs i hc hx
        unfold compOpds at hc
        split at hc
        · rename_i x xs' c1 c2
          simp only [Option.some.injEq] at hc
          subst hc
          cases i with
          | zero => simp at hx; subst hx; exact ⟨_, rfl, compOpd_ok c1 h.sl⟩
          | succ i => simp at hx; simpa using ih xs' i c2 hx
        · simp at hc
    obtain ⟨cv, q1, q2⟩ := key _ _ i hxs hx0
    exact ⟨cv, q1, he0 ▸ q2⟩
  obtain ⟨cv, hcv, hrv⟩ := hos
  have hrun : (execOp a.eval o).run P w = .ok (.enter f (c.args.toList.map a.eval).toArray) w := by
    have e1 : (c.args.toList.map a.eval).toArray = c.args.map a.eval := by apply Array.ext'; simp
    rw [e1]
    simp only [execOp, ho, resolve, hcal, Act.eval, Deferred.ofValue, Sem.run_bind, Sem.run_pure, Result.andThen_ok, invoke]
    have := callable_run hf.fn (c.args.map a.eval) w
    simpa using this
  have main : ∀ (U' : Nat → Prop), (∀ b, Un w0 U0 w T b → U' b) → (∀ b, U' b → b < w.heap.size ∧ b ∉ X) → ((∀ b ∈ T1, U' b) ∨ ((xs.eraseIdx i).all fun x => noname 6 (x.ev t)) = true) → (cells'.all (nolist 6) = true ∨ ∀ b, U' b → Un w0 U0 w T b) → o.wp P a w K Q := by
    intro U' hU1 hU2 hU3 hU4
    obtain ⟨l, hl, hrv1⟩ := hv1 cv U' hrv
    have hargs := lend_args h d2 hU1 hxs (i := i) hU3 hcv hrv1
    have hent : RH (fun m => if m = 0 then some l else none) U' w [(0, cells)] X := by
      rcases d1 with ⟨q1, rfl, rfl⟩ | ⟨b, base, arr, e, cs, F, q1, q2, q3, q4, rfl⟩
      · rw [hl] at q1
        simp only [Option.some.injEq] at q1
        exact RH.push (X := []) .nil (.inl ⟨by simp [q1], rfl, rfl⟩)
      · rw [hl] at q1
        simp only [Option.some.injEq] at q1
        have := RH.push (N := fun m => if m = 0 then some l else none) (U := U') (w := w) (n := 0) (cells := cells) (X := b :: F) .nil (.inr ⟨b, base, arr, e, cs, F, by simp [q1], q2, q3,
          q4.mapN fun v c G' hm hr => nonm_ok hU1 6 v c G' (List.all_eq_true.1 b2 v hm) hr, rfl⟩)
        simpa using this
    have hcall := hf.ok _ _ _ _ hG l U' w _ X hU2 (List.nodup_append.1 hndT).1 hargs hent
    unfold Oper.wp
    rw [hrun]
    refine Calls.mono hcall ?_
    rintro e w' ⟨c', F, T', rfl, n1, n2, n3, n4, n5⟩
    obtain ⟨N', T2, hr⟩ := h.lent (dst := o.dst) hd hg hl d2 d3 b1 b3 n1 n2 n3 n4 (by
      rcases hU4 with hU4 | hU4
      · exact .inl hU4
      · refine .inr fun b hb => ?_
        rcases hb with hb | hb
        · exact .inl (hU4 b hb)
        · exact .inr hb) n5
    exact hK _ _ _ _ hr
  rcases b4 with b4 | b4
  · refine main (fun b => b < w.heap.size ∧ b ∉ X) (fun b hb => ⟨hb.1, fun hx => hb.2.1 ((hmem b).2 (by simp [hx]))⟩) (fun b hb => hb) (.inl fun b hb => ⟨hTlt b ((hmem b).2 (by simp [hb])), fun hx => (List.nodup_append.1 hndT).2.2 b hx b hb rfl⟩) (.inl b4)
  · exact main (Un w0 U0 w T) (fun b hb => hb) (fun b hb => ⟨hb.1, fun hx => hb.2.1 ((hmem b).2 (by simp [hx]))⟩) (.inr b4) (.inr fun b hb => hb)

def SO.isQuiet : SO → Bool
  | .new _ | .box _ | .mks .. | .mk .. | .st .. | .app .. | .call .. => false
  | _ => true
theorem evH_quiet {Γ : Env} {e : Opd → V} {s : Hp} {so : SO} (hq : so.isQuiet = true) : evH Γ e s so = match evQ Γ s.1 e so with
    | some (b, v) => some (b, opn 6 v s)
    | none => none := by
  cases so <;> first | rfl | (simp [SO.isQuiet] at hq)
section inv
variable {o : Oper}
theorem inv_new {z : List V} (h : compOp P o = some (.new z)) : ∃ t, o.op = .alloc t ∧ zeroL P t = some z := by
  unfold compOp at h
  split at h
  case h_4 t ho => obtain ⟨z', h1, h2⟩ := opt_map h; cases h2; exact ⟨t, ho, h1⟩
  all_goals (try unfold compCall at h)
  all_goals (repeat' (first | (simp at h; done) | split at h))
theorem inv_box {x : Opd} (h : compOp P o = some (.box x)) : ∃ t x', o.op = .box t x' ∧ compOpd x' = some x := by
  unfold compOp at h
  split at h
  case h_5 t x' ho => obtain ⟨z', h1, h2⟩ := opt_map h; cases h2; exact ⟨t, x', ho, h1⟩
  all_goals (try unfold compCall at h)
  all_goals (repeat' (first | (simp at h; done) | split at h))
theorem inv_mks {len sz : Nat} {zero : List V} {qs : List (Nat × Nat × Opd)} (h : compOp P o = some (.mks len sz zero qs)) :
    ∃ t e parts z, o.op = .buildSlice t len parts ∧ P.underlying t = some (.slice e) ∧ zeroL P e = some z ∧ 0 < sizeT P e ∧ z.length = sizeT P e ∧ len * sizeT P e ≤ 65536 ∧ sz = sizeT P e ∧ zero = (List.replicate len z).flatten ∧
      compParts (fun i => some (i * sizeT P e, sizeT P e)) parts.toList = some qs := by
  unfold compOp at h
  split at h
  case h_7 t n parts ho =>
    split at h
    · rename_i e he
      split at h
      · rename_i z hz
        split at h
        · rename_i hc
          obtain ⟨q, h1, h2⟩ := opt_map h
          cases h2
          refine ⟨t, e, parts, z, ho, ?_, hz, hc.1, hc.2.1, hc.2.2, rfl, rfl, h1⟩
          unfold elemT at he
          split at he
          · rename_i hu; simp at he; rw [hu, he]
          · simp at he
        · simp at h
      · simp at h
    · simp at h
  all_goals (try unfold compCall at h)
  all_goals (repeat' (first | (simp at h; done) | split at h))
theorem inv_st {n : Nat} {x v : Opd} (h : compOp P o = some (.st n x v)) : ∃ t x' v' i, o.op = .store t x' v' ∧ compOpd x' = some x ∧ compOpd v' = some v ∧ P.info? t = some i ∧ n = i.size ∧ 0 < i.size := by
  unfold compOp at h
  split at h
  case h_9 t x' v' ho =>
    split at h
    · rename_i x1 v1 i h1 h2 h3
      split at h
      · rename_i hp
        simp only [Option.some.injEq, SO.st.injEq] at h
        obtain ⟨rfl, rfl, rfl⟩ := h
        exact ⟨t, x', v', i, ho, h1, h2, h3, rfl, hp⟩
      · simp at h
    · simp at h
  all_goals (try unfold compCall at h)
  all_goals (repeat' (first | (simp at h; done) | split at h))
theorem inv_mk {sz bytes : Nat} {zero : List V} {l c : Opd} (h : compOp P o = some (.mk sz bytes zero l c)) :
    ∃ t e l' c', o.op = .makeSlice t l' c' ∧ compOpd l' = some l ∧ compOpd c' = some c ∧ P.underlying t = some (.slice e) ∧ zeroL P e = some zero ∧ 0 < sizeT P e ∧ zero.length = sizeT P e ∧ sz = sizeT P e ∧ bytes = bytesT P e := by
  unfold compOp at h
  split at h
  case h_14 t l' c' ho =>
    split at h
    · rename_i l1 c1 e h1 h2 h3
      split at h
      · rename_i z hz
        split at h
        · rename_i hc
          simp only [Option.some.injEq, SO.mk.injEq] at h
          obtain ⟨rfl, rfl, rfl, rfl, rfl⟩ := h
          refine ⟨t, e, l', c', ho, h1, h2, ?_, hz, hc.1, hc.2, rfl, rfl⟩
          unfold elemT at h3
          split at h3
          · rename_i hu; simp at h3; rw [hu, h3]
          · simp at h3
        · simp at h
      · simp at h
    · simp at h
  all_goals (try unfold compCall at h)
  all_goals (repeat' (first | (simp at h; done) | split at h))
theorem inv_app {sz bytes : Nat} {x y : Opd} (h : compOp P o = some (.app sz bytes x y)) :
    ∃ c x' y' t u e, o.op = .call c ∧ c.callee = .builtin .append ∧ c.args = #[x', y'] ∧ c.argTypes = #[t, u] ∧ compOpd x' = some x ∧ compOpd y' = some y ∧ AppT P t u e ∧ sz = sizeT P e ∧ bytes = bytesT P e ∧ 0 < bytesT P e := by
  unfold compOp at h
  split at h
  case h_21 c ho =>
    unfold compCall at h
    split at h
    case h_4 hcal =>
      split at h
      · rename_i s1 x1 t u ha ht
        split at h
        · rename_i s2 x2 e eu h1 h2 h3 h4
          split at h
          · rename_i hc
            simp only [Option.some.injEq, SO.app.injEq] at h
            obtain ⟨rfl, rfl, rfl, rfl⟩ := h
            have el : ∀ {t e}, elemT P t = some e → P.underlying t = some (.slice e) := by
              intro t e he
              unfold elemT at he
              split at he
              · rename_i hu; simp at he; rw [hu, he]
              · simp at he
            refine ⟨c, s1, x1, t, u, e, ho, hcal, by apply Array.ext'; simpa using ha, by apply Array.ext'; simpa using ht, h1, h2, ⟨el h3, ⟨eu, el h4⟩, hc.1, hc.2.1, ?_⟩, rfl, rfl, hc.2.2.2⟩
            have hz := hc.2.2.1
            have hp := hc.2.1
            unfold zeroLen at hz
            split at hz
            · rename_i z hzl
              obtain ⟨zv, _, q2, _, i, q4, q5⟩ := zeroL_run (P := P) (N := fun _ => none) (U := fun _ => False) hzl default
              exact ⟨i, zv, q4, q5, by rw [← hz, ← q2.len]; simp⟩
            · omega
          · simp at h
        · simp at h
      · simp at h
    all_goals (repeat' (first | (simp at h; done) | split at h))
  all_goals (repeat' (first | (simp at h; done) | split at h))
theorem inv_call {f : FuncId} {xs : List Opd} (h : compOp P o = some (.call f xs)) : ∃ c, o.op = .call c ∧ c.callee = .value (.func f) ∧ compOpds c.args.toList = some xs := by
  unfold compOp at h
  split at h
  case h_21 c ho =>
    unfold compCall at h
    split at h
    case h_1 f' hcal => obtain ⟨q, h1, h2⟩ := opt_map h; cases h2; exact ⟨c, ho, hcal, h1⟩
    all_goals (repeat' (first | (simp at h; done) | split at h))
  all_goals (repeat' (first | (simp at h; done) | split at h))
end inv

set_option maxHeartbeats 1000000 in
theorem RS.oper (h : RS w0 U0 L0 N0 k0 nt t s N T a w) {Γ : Env} (hΓ : EnvOk P Γ) {o : Oper} {so : SO} (hc : compOp P o = some so) (hd : ∀ d, o.dst = some d → d < nt) {v : V} {s' : Hp} (he : evH Γ (Opd.ev t) s so = some (true, v, s'))
    {K : Act → World → Prop} {Q : Exit → Act → World → Prop} (hK : ∀ a' w' N' T', RS w0 U0 L0 N0 k0 nt (upd t o.dst v) s' N' T' a' w' → K a' w') : o.wp P a w K Q := by
  have lift : ∀ (s : Sem Value) c w', s.run P w = .ok c w' → ((do pure (.value (← s))) : Sem Next).run P w = .ok (.value c) w' := fun s c w' h => by simp [h]
  by_cases hq : so.isQuiet = true
  · rw [evH_quiet hq] at he
    split at he
    · rename_i b v1 h1
      simp only [Option.some.injEq, Prod.mk.injEq] at he
      obtain ⟨rfl, h2⟩ := he
      refine h.quiet hΓ hc hd h1 ?_
      intro a' w' N' T' hr
      rw [h2] at hr
      exact hK _ _ _ _ hr
    · simp at he
  cases so <;> try (exact absurd rfl hq)
  case new zero =>
    simp only [evH, Option.some.injEq, Prod.mk.injEq, true_and] at he
    obtain ⟨rfl, rfl⟩ := he
    obtain ⟨ty, ho, hz⟩ := inv_new hc
    obtain ⟨zv, h1, h2, _⟩ := zeroL_run (P := P) (N := N) (U := Un w0 U0 w T) hz w
    obtain ⟨N', T', hr⟩ := h.new (w1 := w) (dst := o.dst) hd (Below.refl _ _) rfl h2 (cells_ok (arr := zv.cells) rfl) (e := ty) (v := .pt s.2 0) (c := .pointer (some ⟨w.heap.size, 0, none⟩)) (fun N' U' hn => by simpa using RV.pt (N := N') (U := U') s.2 0 w.heap.size 0 hn)
    exact wp_value (by simp only [execOp, ho]; exact lift _ _ _ (alloc_run h1)) (hK _ _ _ _ hr)
  case box x =>
    simp only [evH, Option.some.injEq, Prod.mk.injEq] at he
    obtain ⟨hcell, rfl, rfl⟩ := he
    obtain ⟨ty, x', ho, hx⟩ := inv_box hc
    have hv := (compOpd_ok hx h.sl).cells hcell
    obtain ⟨N', T', hr⟩ := h.new (w1 := w) (dst := o.dst) hd (Below.refl _ _) rfl hv (cells_ok (arr := (a.eval x').cells) rfl) (e := ty) (v := .pt s.2 0) (c := .pointer (some ⟨w.heap.size, 0, none⟩)) (fun N' U' hn => by simpa using RV.pt (N := N') (U := U') s.2 0 w.heap.size 0 hn)
    exact wp_value (by simp only [execOp, ho]; exact lift _ _ _ (box_run ty _)) (hK _ _ _ _ hr)
  case mks len sz zero parts =>
    simp only [evH] at he
    obtain ⟨ty, e, ps, z, ho, hu, hz, hp, hzl, hlen, rfl, rfl, hps⟩ := inv_mks hc
    split at he
    · rename_i cells hf
      simp only [Option.some.injEq, Prod.mk.injEq, true_and] at he
      obtain ⟨rfl, rfl⟩ := he
      have g := compParts_ok hps h.sl
      obtain ⟨arr, r1, r2, r3⟩ := mks_run (P := P) (N := N) (w := w) (U := Un w0 U0 w T) hu hz hzl hlen (ps := ps.map fun (i, x) => (i, a.eval x)) (by simpa using g) hf
      obtain ⟨N', T', hr⟩ := h.new (w1 := w) (dst := o.dst) hd (Below.refl _ _) rfl r2 (cells_ok (arr := arr) rfl) (e := e) (v := .sl s.2 (sizeT P e) 0 len) (c := .slice (some ⟨w.heap.size, 0, none⟩) len len)
        (fun N' U' hn => by simpa using RV.sl (N := N') (U := U') s.2 (sizeT P e) 0 len w.heap.size 0 len arr e (0, 0) hn (heap_alloc_new w _) (by omega) (Nat.le_refl _) (by have : len * 1 ≤ len * sizeT P e := Nat.mul_le_mul_left _ hp; simp only [maxLen]; omega) hp)
      exact wp_value (by simp only [execOp, ho]; exact lift _ _ _ r1) (hK _ _ _ _ hr)
    · simp at he
  case mk sz bytes zero len cap =>
    simp only [evH] at he
    obtain ⟨ty, e, l', c', ho, h1, h2, hu, hz, hp, hzl, rfl, rfl⟩ := inv_mk hc
    split at he
    · rename_i l c hl hcc
      simp only [Option.some.injEq, Prod.mk.injEq, Bool.and_eq_true, decide_eq_true_eq] at he
      obtain ⟨⟨⟨⟨k1, k2⟩, k3⟩, k4⟩, rfl, rfl⟩ := he
      obtain ⟨kl, _, el⟩ := asI_inv (compOpd_ok h1 h.sl) hl
      obtain ⟨kc, _, ec⟩ := asI_inv (compOpd_ok h2 h.sl) hcc
      obtain ⟨zv, q1, q2, q3, i, q4, q5⟩ := zeroL_run (P := P) (N := N) (U := Un w0 U0 w T) hz w
      have hzs : zv.cells.size = sizeT P e := by rw [← hzl, ← q2.len]; simp
      have hsz : i.size = zv.cells.size := by rw [hzs]; simp [sizeT, q4]
      have hr0 := run_make (P := P) w ty e i zv hu q4 q5 kl kc l c k1 k2 (by simpa [bytesT, q4] using k3) k4
      have hm : (madeCells zv.cells (c.toNat * i.size)).toList = (List.replicate c.toNat zv.cells.toList).flatten := by rw [hsz]; exact made_list _ _
      obtain ⟨N', T', hr⟩ := h.new (w1 := w) (dst := o.dst) hd (Below.refl _ _) rfl (q2.repl c.toNat) (cells_ok hm) (e := e) (v := .sl s.2 (sizeT P e) 0 l.toNat) (c := .slice (some ⟨w.heap.size, 0, none⟩) l.toNat c.toNat)
        (fun N' U' hn => by simpa using RV.sl (N := N') (U := U') s.2 (sizeT P e) 0 l.toNat w.heap.size 0 c.toNat _ e (0, 0) hn (heap_alloc_new w _) (by rw [size_madeCells, hsz, hzs]; omega) (by omega) (by simp only [maxLen]; omega) hp)
      exact wp_value (by simp only [execOp, ho, el, ec]; exact lift _ _ _ hr0) (hK _ _ _ _ hr)
    · simp at he
  case st n x v' =>
    simp only [evH] at he
    obtain ⟨ty, x1, v1, i, ho, h1, h2, hi, rfl, hpos⟩ := inv_st hc
    split at he
    · rename_i nm off hx
      split at he
      · rename_i cells hg
        simp only [Option.some.injEq, Prod.mk.injEq, Bool.and_eq_true, decide_eq_true_eq] at he
        obtain ⟨⟨⟨k1, k2⟩, k3⟩, rfl, rfl⟩ := he
        have g1 := compOpd_ok h1 h.sl
        rw [hx] at g1
        obtain ⟨w', r1, N', T', hr⟩ := h.store (P := P) (dst := o.dst) hd hg g1 (compOpd_ok h2 h.sl) k3 (by omega) (by omega) (ty := ty) (by rw [hi]; rfl) (by rw [k2]; simp [sizeT, hi])
        refine wp_skip' ?_ (hK _ _ _ _ hr)
        simp only [execOp, ho]
        simp [r1]
      · simp at he
    · simp at he
  case app sz bytes x y =>
    simp only [evH] at he
    obtain ⟨c, x', y', ty, u, e, ho, hcal, ha, hty, h1, h2, hT, rfl, rfl, hbp⟩ := inv_app hc
    split at he
    · simp at he
    · rename_i news hn
      have hcell : news.all V.cell = true := by
        unfold evApp at he
        split at he
        · split at he
          · simp only [Option.some.injEq, Prod.mk.injEq, Bool.and_eq_true] at he
            exact he.1.1.1.2
          · simp at he
        · simp only [Option.some.injEq, Prod.mk.injEq, Bool.and_eq_true] at he
          exact he.1.1
        · simp at he
      obtain ⟨c', w', r1, N', T', hr⟩ := h.app (P := P) (dst := o.dst) hd (rt := o.type) hT rfl hn hcell (compOpd_ok h2 h.sl) (compOpd_ok h1 h.sl) he (by omega)
      refine wp_value ?_ (hK _ _ _ _ hr)
      simp only [execOp, ho, resolve, hcal, ha, hty, Sem.run_bind, Sem.run_pure, Result.andThen_ok, invoke, builtin]
      have e3 : (#[x', y'].map a.eval) = #[a.eval x', a.eval y'] := by simp
      rw [e3, r1]
      rfl
  case call f xs =>
    simp only [evH] at he
    obtain ⟨c, ho, hcal, hxs⟩ := inv_call hc
    split at he
    · rename_i i G hl
      have hf := hΓ.lookl hl
      split at he
      · rename_i n sz off len hv0
        split at he
        · rename_i cells hg
          split at he
          · rename_i r cells' hG
            simp only [Option.some.injEq, Prod.mk.injEq] at he
            obtain ⟨hb, he⟩ := he
            refine h.lendCall hf ho hcal hxs hd hv0 (v1 := .sl 0 sz off len) ?_ hg hG hb ?_
            · intro cv U' hr
              cases hr with
              | sl _ _ _ _ b base cap arr e fz hn hb' hs hlc hm hz => exact ⟨_, hn, .sl 0 sz off len b base cap arr e fz (by simp) hb' hs hlc hm hz⟩
              | slE _ _ hn => exact ⟨_, hn, .slE 0 sz (by simp)⟩
              | slZ _ _ _ b base o arr e fz hn hb' ho hz => exact ⟨_, hn, .slZ 0 sz off b base o arr e fz (by simp) hb' ho hz⟩
            · intro a' w' N' T' hr
              rw [he] at hr
              exact hK _ _ _ _ hr
          · simp at he
        · simp at he
      · rename_i n off hv0
        split at he
        · rename_i cells hg
          split at he
          · rename_i r cells' hG
            simp only [Option.some.injEq, Prod.mk.injEq] at he
            obtain ⟨hb, he⟩ := he
            refine h.lendCall hf ho hcal hxs hd hv0 (v1 := .pt 0 off) ?_ hg hG hb ?_
            · intro cv U' hr
              cases hr with
              | pt _ _ b base hn => exact ⟨_, hn, .pt 0 off b base (by simp)⟩
            · intro a' w' N' T' hr
              rw [he] at hr
              exact hK _ _ _ _ hr
          · simp at he
        · simp at he
      · rename_i q m n sz off len hv0
        split at he
        · rename_i cells hg
          split at he
          · rename_i r cells' hG
            simp only [Option.some.injEq, Prod.mk.injEq] at he
            obtain ⟨hb, he⟩ := he
            refine h.lendCall hf ho hcal hxs hd hv0 (n := n) (v1 := .agg [.int q m, .sl 0 sz off len]) ?_ hg hG hb ?_
            · intro cv U' hr
              cases hr with
              | agg _ cs F hr =>
                cases hr with
                | cons _ _ c1 cs1 F1 F2 _ h1 hr hF =>
                  cases hr with
                  | cons _ _ c2 cs2 F3 F4 _ h2 hr hF2 =>
                    cases hr
                    cases h1
                    have key : ∃ l, N n = some l ∧ RV (fun k => if k = 0 then some l else none) U' w (.sl 0 sz off len) c2 [] := by
                      cases h2 with
                      | sl _ _ _ _ b base cap arr e fz hn hb' hs hlc hm hz => exact ⟨_, hn, .sl 0 sz off len b base cap arr e fz (by simp) hb' hs hlc hm hz⟩
                      | slE _ _ hn => exact ⟨_, hn, .slE 0 sz (by simp)⟩
                      | slZ _ _ _ b base o arr e fz hn hb' ho hz => exact ⟨_, hn, .slZ 0 sz off b base o arr e fz (by simp) hb' ho hz⟩
                    obtain ⟨l, k1, k2⟩ := key
                    exact ⟨l, k1, .agg _ [_, c2] [] (.cons _ _ _ _ [] [] _ (.int q m) (.cons _ _ _ _ [] [] _ k2 .nil rfl) rfl)⟩
            · intro a' w' N' T' hr
              rw [he] at hr
              exact hK _ _ _ _ hr
          · simp at he
        · simp at he
      · simp at he
    · split at he
      · rename_i b v1 h1
        simp only [Option.some.injEq, Prod.mk.injEq] at he
        obtain ⟨rfl, h2⟩ := he
        refine h.quiet hΓ hc hd h1 ?_
        intro a' w' N' T' hr
        rw [h2] at hr
        exact hK _ _ _ _ hr
      · simp at he
end
end Go.Proofs.Ytedampaecopkhaa
