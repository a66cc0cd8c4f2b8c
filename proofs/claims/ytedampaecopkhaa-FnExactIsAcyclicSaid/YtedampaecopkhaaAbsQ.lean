/- Code: from the model's to the slim one; its verification condition. -/
import Derived.Test.YtedampaecopkhaaAbsP
namespace Go.Proofs.Ytedampaecopkhaa
open Go Go.RowKit

def loudB (lends : List FuncId) : SO → Bool
  | .call f _ => lends.contains f
  | so => !so.isQuiet
def glOf (P : Program) (nt : Nat) (lends : List FuncId) (ops : Array Oper) : Option (List (GO × Bool)) :=
  (compGOs P ops nt ops.toList).map fun gs => gs.map fun g => (g, loudB lends g.o)
def compC (P : Program) (nt : Nat) (lends : List FuncId) : Code → Option SC
  | .skip => some .skip
  | .region _ ops draw =>
    if draw then match glOf P nt lends ops with
      | some gl => (schedD ops gl ops.size (Array.replicate ops.size false)).map .dreg
      | none => none
    else (compGOs P ops nt ops.toList).map .reg
  | .seq a b => match compC P nt lends a, compC P nt lends b with
    | some a, some b => some (.seq a b)
    | _, _ => none
  | .cond c a b => match compOpd c, compC P nt lends a, compC P nt lends b with
    | some c, some a, some b => some (.cond c a b)
    | _, _, _ => none
  | .block id c => (compC P nt lends c).map (.block id)
  | .loop c => (compC P nt lends c).map .loop
  | .exit id => some (.exit id)
  | .ret => some .ret
  | _ => none

abbrev Post := Exit → Tm → Hp → Prop
def thenE (next : Tm → Hp → Prop) (Q : Post) : Post
  | .normal, l, s => next l s
  | e, l, s => Q e l s
def blockE (id : Nat) (Q : Post) : Post
  | .exit id', l, s => if id' = id then Q .normal l s else Q (.exit id') l s
  | e, l, s => Q e l s

/-- What 'c' does from the state 'l', 's' on. -/
def AWp (C : Ctx) (c : Code) (Q : Post) (l : Tm) (s : Hp) : Prop :=
  ∀ a w, C.St l s a w → c.wp C.P (fun e a' w' => ∃ l' s', Q e l' s' ∧ C.St l' s' a' w') a w
/-- A loop, whatever code it comes from. -/
def LoopOk (C : Ctx) (lends : List FuncId) (sc : SC) (Q : Post) (l : Tm) (s : Hp) : Prop :=
  ∀ c, compC C.P C.nt lends c = some sc → AWp C (.loop c) Q l s

/-- The verification condition. -/
def vc (C : Ctx) (Γ : Env) (lends : List FuncId) : SC → Post → Tm → Hp → Prop
  | .skip, Q, l, s => Q .normal l s
  | .reg ops, Q, l, s => vcOps Γ ops l s (Q .normal)
  | .dreg ops, Q, l, s => vcD Γ ops l s (Q .normal)
  | .seq a b, Q, l, s => vc C Γ lends a (thenE (vc C Γ lends b Q) Q) l s
  | .cond c a b, Q, l, s => match c.ev (tget l) with
    | .bool t => (t = true → vc C Γ lends a Q l s) ∧ (t = false → vc C Γ lends b Q l s)
    | _ => False
  | .block id c, Q, l, s => vc C Γ lends c (blockE id Q) l s
  | .loop c, Q, l, s => LoopOk C lends c Q l s
  | .exit id, Q, l, s => Q (.exit id) l s
  | .ret, Q, l, s => Q .ret l s

section
variable {C : Ctx}
theorem vcOps_mono {Γ : Env} {K K' : Tm → Hp → Prop} (h : ∀ l s, K l s → K' l s) : ∀ (gs : List GO) (l : Tm) (s : Hp), vcOps Γ gs l s K → vcOps Γ gs l s K' := by
  intro gs
  induction gs with
  | nil => intro l s hv; exact h _ _ hv
  | cons g gs ih =>
    intro l s hv
    have run : ∀ l1, (match evH Γ (Opd.ev (tget l1)) s g.o with
      | some (b, v, s') => b = true ∧ vcOps Γ gs (put l1 g.d v) s' K
      | none => False) → (match evH Γ (Opd.ev (tget l1)) s g.o with
      | some (b, v, s') => b = true ∧ vcOps Γ gs (put l1 g.d v) s' K'
      | none => False) := by
      intro l1 h1
      split at h1
      · exact ⟨h1.1, ih _ _ h1.2⟩
      · exact h1
    unfold vcOps at hv ⊢
    split at hv
    · exact run _ hv
    · split at hv
      · exact ⟨fun e => run _ (hv.1 e), fun e => ih _ _ (hv.2 e)⟩
      · exact ih _ _ hv
      · exact hv
theorem wp_of_mono {c : Code} {Q Q' : Post} {a : Act} {w : World} (h : c.wp C.P (fun e a' w' => ∃ l' s', Q e l' s' ∧ C.St l' s' a' w') a w) (hq : ∀ e l s, Q e l s → Q' e l s) : c.wp C.P (fun e a' w' => ∃ l' s', Q' e l' s' ∧ C.St l' s' a' w') a w :=
  wp_mono h fun e _ _ ⟨l', s', h1, h2⟩ => ⟨l', s', hq e l' s' h1, h2⟩

theorem compGOs_get {P : Program} {ops : Array Oper} {nt : Nat} : ∀ {os : List Oper} {gs : List GO}, compGOs P ops nt os = some gs → ∀ {i : Nat} {o : Oper}, os[i]? = some o → ∃ g, gs[i]? = some g ∧ compGO P ops nt o = some g := by
  intro os
  induction os with
  | nil => intro gs _ i o h; simp at h
  | cons o os ih =>
    intro gs h i o' ho
    obtain ⟨g, gs', rfl, h1, h2⟩ := compGOs_cons h
    cases i with
    | zero => simp at ho; subst ho; exact ⟨g, rfl, h1⟩
    | succ i => simp at ho; simpa using ih h2 ho

theorem vc_ok {Γ : Env} (hΓ : EnvOk C.P Γ) (hm : C.P.follows .mixedOrders = true) (lends : List FuncId) : ∀ (c : Code) (sc : SC) (Q : Post) (l : Tm) (s : Hp), compC C.P C.nt lends c = some sc → vc C Γ lends sc Q l s → AWp C c Q l s := by
  intro c
  induction c with
  | skip =>
    intro sc Q l s hc hv a w hst
    simp only [compC, Option.some.injEq] at hc
    subst hc
    exact wp_skip ⟨l, s, hv, hst⟩
  | region id ops draw =>
    intro sc Q l s hc hv a w hst
    simp only [compC] at hc
    cases draw with
    | false =>
      simp only [Bool.false_eq_true, if_false] at hc
      obtain ⟨gs, h1, rfl⟩ := opt_map hc
      obtain ⟨N, T, hr⟩ := hst
      refine wp_region ?_
      have := vcOps_ok (C := C) hΓ (ops := ops) (Q := fun e a' w' => ∃ l' s', Q e l' s' ∧ C.St l' s' a' w') (K := Q .normal) (fun l s a w hq hs => ⟨l, s, hq, hs⟩) ops.toList gs 0 (fun j => by simp) h1 l s N T a w hv hr
      rw [List.range_eq_range']
      simpa using this
    | true =>
      simp only [if_true] at hc
      split at hc
      · rename_i gl hgl
        obtain ⟨ds, h1, rfl⟩ := opt_map hc
        obtain ⟨gs, g1, g2⟩ := opt_map hgl
        obtain ⟨N, T, hr⟩ := hst
        refine wp_region_any hm ?_
        have hany := vcD_ok (Γ := Γ) (ops := ops) (gl := gl) (K := Q .normal) ops.size _ ds l s h1 hv
        refine anyD_ok (C := C) hΓ (gl := gl) ?_ (K := fun t s => ∃ l, tget l = t ∧ Q .normal l s) ?_ ops.size _ _ _ N T a _ hany ?_
        · intro i o ho
          obtain ⟨g, e1, e2⟩ := compGOs_get g1 (i := i) (o := o) (by simpa using ho)
          exact ⟨g, loudB lends g.o, by rw [← g2]; simp [e1], e2⟩
        · rintro t s N T a w ⟨l, rfl, hq⟩ hr
          exact ⟨l, s, hq, N, T, hr⟩
        · have k : Kept N N (Un C.w0 C.U0 w T) (Un C.w0 C.U0 w.drew T) w w.drew := ⟨fun b hb => ⟨rfl, hb⟩, fun _ _ h => h, fun _ _ _ _ => SameAt.shape rfl⟩
          exact ⟨hr.tsz, hr.dfr, Slots.kept k hr.sl, RH.kept k hr.hp (fun _ _ => rfl), hr.nd, hr.own, KeepBut.trans hr.fr (keep_drew _ _), hr.nx, hr.nl, hr.kn, hr.lh⟩
      · simp at hc
  | seq x y ihx ihy =>
    intro sc Q l s hc hv a w hst
    simp only [compC] at hc
    split at hc
    · rename_i a' b' h1 h2
      simp only [Option.some.injEq] at hc
      subst hc
      refine wp_seq (wp_mono (ihx _ _ l s h1 hv a w hst) ?_)
      rintro e a1 w1 ⟨l1, s1, hq, hs⟩
      cases e with
      | normal => exact ihy _ _ l1 s1 h2 hq a1 w1 hs
      | _ => exact ⟨l1, s1, hq, hs⟩
    · simp at hc
  | cond c x y ihx ihy =>
    intro sc Q l s hc hv a w hst
    simp only [compC] at hc
    split at hc
    · rename_i c' a' b' h0 h1 h2
      simp only [Option.some.injEq] at hc
      subst hc
      simp only [vc] at hv
      split at hv
      · rename_i t ht
        obtain ⟨N, T, hr⟩ := hst
        have g := compOpd_ok h0 hr.sl
        rw [ht] at g
        refine wp_cond_split (g.bool_inv).1 (fun e => ?_) (fun e => ?_)
        · exact ihx _ _ l s h1 (hv.1 e) a w ⟨N, T, hr⟩
        · exact ihy _ _ l s h2 (hv.2 e) a w ⟨N, T, hr⟩
      · exact hv.elim
    · simp at hc
  | block id x ih =>
    intro sc Q l s hc hv a w hst
    simp only [compC] at hc
    obtain ⟨c', h1, rfl⟩ := opt_map hc
    refine wp_block (wp_mono (ih _ _ l s h1 hv a w hst) ?_)
    rintro e a1 w1 ⟨l1, s1, hq, hs⟩
    cases e with
    | exit id' =>
      simp only [Exit.inBlock]
      simp only [blockE] at hq
      split
      · rename_i h; rw [if_pos h] at hq; exact ⟨l1, s1, hq, hs⟩
      · rename_i h; rw [if_neg h] at hq; exact ⟨l1, s1, hq, hs⟩
    | _ => exact ⟨l1, s1, hq, hs⟩
  | loop x ih =>
    intro sc Q l s hc hv a w hst
    simp only [compC] at hc
    obtain ⟨c', h1, rfl⟩ := opt_map hc
    exact hv x h1 a w hst
  | exit id =>
    intro sc Q l s hc hv a w hst
    simp only [compC, Option.some.injEq] at hc
    subst hc
    exact wp_exit ⟨l, s, hv, hst⟩
  | ret =>
    intro sc Q l s hc hv a w hst
    simp only [compC, Option.some.injEq] at hc
    subst hc
    exact wp_ret ⟨l, s, hv, hst⟩
  | _ => intro sc Q l s hc; simp [compC] at hc
end
end Go.Proofs.Ytedampaecopkhaa
