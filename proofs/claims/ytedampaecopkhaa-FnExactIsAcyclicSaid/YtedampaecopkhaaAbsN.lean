/- Statements in order; the state that a piece of code leaves. -/
import Derived.Test.YtedampaecopkhaaAbsM
import Derived.Orders
namespace Go.Proofs.Ytedampaecopkhaa
open Go Go.RowKit

abbrev Tm := List (Nat × V)
def put (l : Tm) : Option Nat → V → Tm
  | some d, v => (d, v) :: l
  | none, _ => l
theorem tget_put (l : Tm) (d : Option Nat) (v : V) : tget (put l d v) = upd (tget l) d v := by
  cases d with
  | none => rfl
  | some d => funext j; rfl

/-- The operations of a statement, one behind the other. -/
def vcOps (Γ : Env) : List GO → Tm → Hp → (Tm → Hp → Prop) → Prop
  | [], l, s, K => K l s
  | g :: r, l, s, K =>
    match g.g with
    | none => match evH Γ (Opd.ev (tget l)) s g.o with
      | some (b, v, s') => b = true ∧ vcOps Γ r (put l g.d v) s' K
      | none => False
    | some (d, want) => match tget l d with
      | .bool b =>
        (b = want → match evH Γ (Opd.ev (tget ((d, .bool want) :: l))) s g.o with
          | some (b, v, s') => b = true ∧ vcOps Γ r (put ((d, .bool want) :: l) g.d v) s' K
          | none => False) ∧
        (b = !want → vcOps Γ r (put ((d, .bool (!want)) :: l) g.d (.tup [])) s K)
      | .tup _ => vcOps Γ r (put l g.d (.tup [])) s K
      | _ => False

/-- All that a call of a function fixes. -/
structure Ctx where
  P : Program
  w0 : World
  U0 : Nat → Prop
  L0 : List Nat
  N0 : Nm
  k0 : Nat
  nt : Nat
def Ctx.RS (C : Ctx) (t : Nat → V) (s : Hp) (N : Nm) (T : List Nat) (a : Act) (w : World) : Prop := Go.Proofs.Ytedampaecopkhaa.RS C.w0 C.U0 C.L0 C.N0 C.k0 C.nt t s N T a w
/-- The model's state 'a', 'w' is one of 'l', 's'. -/
def Ctx.St (C : Ctx) (l : Tm) (s : Hp) (a : Act) (w : World) : Prop := ∃ N T, C.RS (tget l) s N T a w

section
variable {C : Ctx}
theorem RS.skip {t : Nat → V} {s : Hp} {N : Nm} {T : List Nat} {a : Act} {w : World} (h : C.RS t s N T a w) {dst : Option Nat} (hd : ∀ d, dst = some d → d < C.nt) : C.RS (upd t dst (.tup [])) s N T (a.put dst Go.undef) w :=
  RS.step h hd (kept_refl N w fun _ h => h) (.tup [] [] [] .nil) h.hp h.nd h.own h.fr h.nx (Nat.le_refl _) (fun _ _ => rfl)
theorem upd_same {t : Nat → V} {d : Nat} {v : V} (h : t d = v) : upd t (some d) v = t := by
  funext j
  simp only [upd]
  split
  · rename_i e; rw [← e, h]
  · rfl

theorem compGOs_cons {P : Program} {ops : Array Oper} {nt : Nat} {o : Oper} {r : List Oper} {gs : List GO} (h : compGOs P ops nt (o :: r) = some gs) : ∃ g gs', gs = g :: gs' ∧ compGO P ops nt o = some g ∧ compGOs P ops nt r = some gs' := by
  unfold compGOs at h
  split at h
  · rename_i g gs' h1 h2
    simp at h
    exact ⟨g, gs', h.symm, h1, h2⟩
  · simp at h
theorem compGO_inv {P : Program} {ops : Array Oper} {nt : Nat} {o : Oper} {g : GO} (h : compGO P ops nt o = some g) : compOp P o = some g.o ∧ compGuard ops o.guard = some g.g ∧ g.d = o.dst ∧ ∀ d, o.dst = some d → d < nt := by
  unfold compGO at h
  split at h
  · rename_i so gg h1 h2
    split at h
    · rename_i hd
      simp at h
      subst h
      exact ⟨h1, h2, hd.symm, fun d hd' => by rw [hd] at hd'; cases hd'⟩
    · rename_i d hd
      split at h
      · rename_i hlt
        simp at h
        subst h
        exact ⟨h1, h2, hd.symm, fun d' hd' => by rw [hd] at hd'; cases hd'; exact hlt⟩
      · simp at h
  · simp at h
theorem guard_none {ops : Array Oper} {g : Option (Nat × Bool)} (h : compGuard ops g = some none) : g = none := by
  unfold compGuard at h
  split at h
  · rfl
  · split at h <;> simp at h
theorem guard_some {ops : Array Oper} {g : Option (Nat × Bool)} {d : Nat} {b : Bool} (h : compGuard ops g = some (some (d, b))) : ∃ j, g = some (j, b) ∧ (ops[j]?).bind (·.dst) = some d := by
  unfold compGuard at h
  split at h
  · simp at h
  · rename_i j b'
    split at h
    · rename_i d' hd
      simp at h
      obtain ⟨rfl, rfl⟩ := h
      exact ⟨j, rfl, hd⟩
    · simp at h
theorem yielded_bool {ops : Array Oper} {j d : Nat} (hj : (ops[j]?).bind (·.dst) = some d) {a : Act} {b : Bool} (h : a.tmps.getD d Go.undef = .bool b) : yielded ops a.tmps j = some b := by
  unfold yielded
  rw [hj]
  simp only [Option.bind_some]
  rw [Array.getD_eq_getD_getElem?] at h
  cases hc : a.tmps[d]? with
  | none => rw [hc] at h; simp [Go.undef] at h
  | some c => rw [hc] at h; simp at h; subst h; rfl
theorem yielded_tup {ops : Array Oper} {j d : Nat} (hj : (ops[j]?).bind (·.dst) = some d) {a : Act} {cs : Array Value} (h : a.tmps.getD d Go.undef = .tuple cs) : yielded ops a.tmps j = none := by
  unfold yielded
  rw [hj]
  simp only [Option.bind_some]
  rw [Array.getD_eq_getD_getElem?] at h
  cases hc : a.tmps[d]? with
  | none => rfl
  | some c => rw [hc] at h; simp at h; subst h; rfl

/-- One operation comes up. -/
theorem wpOp_of {ops : Array Oper} {i : Nat} {o : Oper} (hi : ops[i]? = some o) {Q : Exit → Act → World → Prop} {K : Act → World → Prop} {a : Act} {w : World}
    (h : if Region.wanted o (yielded ops a.tmps) then o.wp C.P a w K Q else K (a.put o.dst Go.undef) w) : wpOp C.P ops Q i K a w := by
  unfold wpOp
  simp only [hi]
  split
  · rename_i hw; rw [if_pos hw] at h; exact .inl h
  · rename_i hw; rw [if_neg hw] at h; exact h

theorem vcOps_ok {Γ : Env} (hΓ : EnvOk C.P Γ) {ops : Array Oper} {Q : Exit → Act → World → Prop} {K : Tm → Hp → Prop} (hK : ∀ l s a w, K l s → C.St l s a w → Q .normal a w) :
    ∀ (os : List Oper) (gs : List GO) (k : Nat), (∀ j, os[j]? = ops[k + j]?) → compGOs C.P ops C.nt os = some gs → ∀ (l : Tm) (s : Hp) (N : Nm) (T : List Nat) (a : Act) (w : World), vcOps Γ gs l s K → C.RS (tget l) s N T a w →
      wpOps C.P ops Q (List.range' k os.length) a w := by
  intro os
  induction os with
  | nil =>
    intro gs k _ hc l s N T a w hv hr
    simp [compGOs] at hc
    subst hc
    exact hK _ _ _ _ hv ⟨N, T, hr⟩
  | cons o os ih =>
    intro gs k hos hc l s N T a w hv hr
    obtain ⟨g, gs', rfl, c1, c2⟩ := compGOs_cons hc
    obtain ⟨d1, d2, d3, d4⟩ := compGO_inv c1
    have hi : ops[k]? = some o := by have := hos 0; simpa using this.symm
    have hos' : ∀ j, os[j]? = ops[k + 1 + j]? := fun j => by have := hos (j + 1); simpa [Nat.add_assoc, Nat.add_comm 1 j] using this
    rw [List.length_cons, List.range'_succ, wpOps_cons]
    refine wpOp_of hi ?_
    have run : ∀ (l1 : Tm), C.RS (tget l1) s N T a w → (match evH Γ (Opd.ev (tget l1)) s g.o with
          | some (b, v, s') => b = true ∧ vcOps Γ gs' (put l1 g.d v) s' K
          | none => False) → o.wp C.P a w (wpOps C.P ops Q (List.range' (k + 1) os.length)) Q := by
      intro l1 hr1 hv1
      split at hv1
      · rename_i b v s' he
        obtain ⟨rfl, hv1⟩ := hv1
        refine RS.oper hr1 hΓ d1 d4 he ?_
        intro a' w' N' T' hr'
        rw [d3] at hv1
        exact ih gs' (k + 1) hos' c2 _ _ N' T' a' w' hv1 (by rw [tget_put]; exact hr')
      · exact hv1.elim
    have skip : ∀ (l1 : Tm), C.RS (tget l1) s N T a w → vcOps Γ gs' (put l1 g.d (.tup [])) s K → wpOps C.P ops Q (List.range' (k + 1) os.length) (a.put o.dst Go.undef) w := by
      intro l1 hr1 hv1
      rw [d3] at hv1
      exact ih gs' (k + 1) hos' c2 _ _ N T _ w hv1 (by rw [tget_put]; exact RS.skip hr1 d4)
    unfold vcOps at hv
    split at hv
    · rename_i hg
      rw [hg] at d2
      have := guard_none d2
      rw [if_pos (by simp [Region.wanted, this])]
      exact run l hr hv
    · rename_i d want hg
      rw [hg] at d2
      obtain ⟨j, e1, e2⟩ := guard_some d2
      split at hv
      · rename_i b hb
        have hs := hr.sl d
        rw [hb] at hs
        have hc := (hs.bool_inv).1
        have hy := yielded_bool e2 hc
        have same : ∀ b', b = b' → tget ((d, .bool b') :: l) = tget l := fun b' e => by
          subst e
          exact upd_same (t := tget l) (d := d) hb
        by_cases hw : b = want
        · rw [if_pos (by simp [Region.wanted, e1, hy, hw])]
          exact run _ (by rw [same _ hw]; exact hr) (hv.1 hw)
        · have hw' : b = !want := by cases b <;> cases want <;> simp_all
          rw [if_neg (by simp [Region.wanted, e1, hy, hw])]
          exact skip _ (by rw [same _ hw']; exact hr) (hv.2 hw')
      · rename_i ps hb
        have hs := hr.sl d
        rw [hb] at hs
        have hy : yielded ops a.tmps j = none := by
          generalize hq : a.tmps.getD d Go.undef = q at hs
          cases hs with
          | tup _ cs _ _ => exact yielded_tup e2 hq
        rw [if_neg (by simp [Region.wanted, e1, hy])]
        exact skip l hr hv
      · exact hv.elim
end
end Go.Proofs.Ytedampaecopkhaa
