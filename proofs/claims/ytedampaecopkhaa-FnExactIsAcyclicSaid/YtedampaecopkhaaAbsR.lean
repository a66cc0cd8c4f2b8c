/- Loops; forgetting and renaming; functions. -/
import Derived.Test.YtedampaecopkhaaAbsQ
namespace Go.Proofs.Ytedampaecopkhaa
open Go Go.RowKit

theorem wp_loop_ghost {P : Program} {σ : Type} {c : Code} (I : σ → Act → World → Prop) (m : σ → Nat) {Q : Exit → Act → World → Prop}
    (round : ∀ x a w, I x a w → c.wp P (Exit.then (fun a' w' => ∃ x', m x' < m x ∧ I x' a' w') Q) a w) : ∀ (x : σ) (a : Act) (w : World), I x a w → (Code.loop c).wp P Q a w := by
  intro x0 a0 w0 h0 b k cs
  have key : ∀ n x a w, m x = n → I x a w → ∃ e a' w', Q e a' w' ∧ Arrives P (lone (b.at a (.code c :: .inLoop c :: k)) cs w) b k cs e a' w' := by
    intro n
    induction n using Nat.strongRecOn with
    | _ n ih =>
      intro x a w hn hI
      obtain ⟨e, a1, w1, hq, harr⟩ := round x a w hI b (.inLoop c :: k) cs
      cases e with
      | normal =>
        obtain ⟨x', hlt, hI'⟩ := hq
        obtain ⟨e2, a2, w2, hq2, harr2⟩ := ih (m x') (hn ▸ hlt) x' a1 w1 rfl hI'
        exact ⟨e2, a2, w2, hq2, .of_steps (Steps.trans harr (.one step_inLoop)) harr2⟩
      | exit id => exact ⟨_, a1, w1, hq, .pass (x := .inLoop c) rfl (fun _ _ => .inl (by simp)) harr⟩
      | goto l => exact ⟨_, a1, w1, hq, .pass (x := .inLoop c) rfl (fun _ _ => .inl (by simp)) harr⟩
      | ret => exact ⟨_, a1, w1, hq, .pass (x := .inLoop c) rfl (fun _ _ => .inl (by simp)) harr⟩
      | panic ch => exact ⟨_, a1, w1, hq, .pass (x := .inLoop c) rfl (fun _ _ => .inl (by simp)) harr⟩
      | outgrown => exact ⟨_, a1, w1, hq, .pass (x := .inLoop c) rfl (fun _ _ => .inl (by simp)) harr⟩
  obtain ⟨e, a', w', hq, harr⟩ := key _ x0 a0 w0 rfl h0
  exact ⟨e, a', w', hq, .of_steps (.one step_loop) harr⟩

/-- Whatever is in the first state is in the second. -/
def Sub (k0 : Nat) (l : Tm) (s : Hp) (l' : Tm) (s' : Hp) : Prop := ∀ (C : Ctx), C.k0 = k0 → ∀ a w, C.St l s a w → C.St l' s' a w
theorem Sub.refl (k0 : Nat) (l : Tm) (s : Hp) : Sub k0 l s l s := fun _ _ _ _ h => h
theorem Sub.trans {k0 : Nat} {l1 l2 l3 : Tm} {s1 s2 s3 : Hp} (h : Sub k0 l1 s1 l2 s2) (k : Sub k0 l2 s2 l3 s3) : Sub k0 l1 s1 l3 s3 := fun C hC a w hs => k C hC a w (h C hC a w hs)

section
variable {C : Ctx}
theorem AWp.sub {c : Code} {Q : Post} {l l' : Tm} {s s' : Hp} (hs : Sub C.k0 l s l' s') (h : AWp C c Q l' s') : AWp C c Q l s := fun a w hst => h a w (hs C rfl a w hst)
theorem LoopOk.sub {lends : List FuncId} {sc : SC} {Q : Post} {l l' : Tm} {s s' : Hp} (hs : Sub C.k0 l s l' s') (h : LoopOk C lends sc Q l' s') : LoopOk C lends sc Q l s := fun c hc => (h c hc).sub hs
/-- A loop whose states at its head are 'T x', 'H x' for the 'x' with 'inv x'. -/
theorem loop_ok {Γ : Env} (hΓ : EnvOk C.P Γ) (hm : C.P.follows .mixedOrders = true) {lends : List FuncId} {sc : SC} {Q : Post} {l : Tm} {s : Hp} {σ : Type} (T : σ → Tm) (H : σ → Hp) (inv : σ → Prop) (m : σ → Nat) (x0 : σ) (hi : inv x0)
    (h0 : Sub C.k0 l s (T x0) (H x0)) (round : ∀ x, inv x → vc C Γ lends sc (thenE (fun l' s' => ∃ x', inv x' ∧ m x' < m x ∧ Sub C.k0 l' s' (T x') (H x')) Q) (T x) (H x)) : LoopOk C lends sc Q l s := by
  intro c hc a w hst
  refine wp_loop_ghost (fun x a w => inv x ∧ C.St (T x) (H x) a w) m ?_ x0 a w ⟨hi, h0 C rfl a w hst⟩
  rintro x a w ⟨hx, hs⟩
  have h := vc_ok hΓ hm lends c sc _ _ _ hc (round x hx) a w hs
  refine wp_mono h ?_
  rintro e a' w' ⟨l', s', hq, hs'⟩
  cases e with
  | normal =>
    obtain ⟨x', h1, h2, h3⟩ := hq
    exact ⟨x', h2, h1, h3 C rfl a' w' hs'⟩
  | _ => exact ⟨l', s', hq, hs'⟩
end

/-- The name of a value in the second state, by the names of the first. -/
def ren1 (r : Nat → Option Nat) : V → Option V
  | .sl n sz off len => (r n).map fun m => .sl m sz off len
  | .pt n off => (r n).map fun m => .pt m off
  | v => if nonm 6 v then some v else none
def renL (r : Nat → Option Nat) : List V → Option (List V)
  | [] => some []
  | v :: vs => match ren1 r v, renL r vs with
    | some v, some vs => some (v :: vs)
    | _, _ => none
def renV (r : Nat → Option Nat) : V → Option V
  | .agg ps => (renL r ps).map .agg
  | .tup ps => (renL r ps).map .tup
  | .fn f ps => (renL r ps).map (.fn f)
  | v => ren1 r v
def subT (r : Nat → Option Nat) (l : Tm) : Tm → Prop
  | [] => True
  | (i, v) :: rest => (v = .undef ∨ renV r v = some (tget l i)) ∧ subT r l rest
def subH (r : Nat → Option Nat) : List (Nat × List V) → List (Nat × List V) → Prop
  | _, [] => True
  | H, (n', cells') :: rest => match r n' with
    | some n => match hget H n with
      | some cells => renL r cells' = some cells ∧ subH r (hdel H n) rest
      | none => False
    | none => False

section
variable {N : Nm} {U : Nat → Prop} {w : World} {r : Nat → Option Nat}
def renN (r : Nat → Option Nat) (N : Nm) : Nm := fun n => (r n).bind N
theorem ren1_ok {v' v : V} {c : Value} {F : List Nat} (he : ren1 r v' = some v) (h : RV N U w v c F) : RV (renN r N) U w v' c F := by
  have other : (if nonm 6 v' then some v' else none) = some v → RV (renN r N) U w v' c F := by
    intro h1
    split at h1
    · rename_i hn
      simp only [Option.some.injEq] at h1
      subst h1
      exact nonm_ok (fun _ h => h) 6 _ _ _ hn h
    · simp at h1
  have nm : ∀ {n m : Nat} {l : Loc}, r n = some m → N m = some l → renN r N n = some l := fun h1 h2 => by simp [renN, h1, h2]
  cases v' <;> simp only [ren1] at he <;> try (exact other he)
  case sl n sz off len =>
    obtain ⟨m, h1, rfl⟩ := opt_map he
    cases h with
    | sl _ _ _ _ b base cap arr e fz hn hb hs hlc hm hz => exact .sl n sz off len b base cap arr e fz (nm h1 hn) hb hs hlc hm hz
    | slE _ _ hn => exact .slE n sz (nm h1 hn)
    | slZ _ _ _ b base o arr e fz hn hb ho hz => exact .slZ n sz off b base o arr e fz (nm h1 hn) hb ho hz
  case pt n off =>
    obtain ⟨m, h1, rfl⟩ := opt_map he
    cases h with
    | pt _ _ b base hn => exact .pt n off b base (nm h1 hn)
theorem renL_ok {vs' : List V} : ∀ {vs : List V} {cs : List Value} {F : List Nat}, renL r vs' = some vs → RVs N U w vs cs F → RVs (renN r N) U w vs' cs F := by
  induction vs' with
  | nil => intro vs cs F he h; simp [renL] at he; subst he; cases h; exact .nil
  | cons v' vs' ih =>
    intro vs cs F he h
    unfold renL at he
    split at he
    · rename_i v vs1 h1 h2
      simp only [Option.some.injEq] at he
      subst he
      cases h with
      | cons _ _ c cs F Fs _ ha hb hE => exact .cons _ _ _ _ F Fs _ (ren1_ok h1 ha) (ih h2 hb) hE
    · simp at he
theorem renV_ok {v' v : V} {c : Value} {F : List Nat} (he : renV r v' = some v) (h : RV N U w v c F) : RV (renN r N) U w v' c F := by
  cases v' <;> simp only [renV] at he <;> try (exact ren1_ok he h)
  case agg ps =>
    obtain ⟨vs, h1, rfl⟩ := opt_map he
    cases h with
    | agg _ cs _ hv => exact .agg _ cs F (renL_ok h1 hv)
  case tup ps =>
    obtain ⟨vs, h1, rfl⟩ := opt_map he
    cases h with
    | tup _ cs _ hv => exact .tup _ cs F (renL_ok h1 hv)
  case fn f ps =>
    obtain ⟨vs, h1, rfl⟩ := opt_map he
    cases h with
    | fn _ _ cs hv => exact .fn f _ cs (renL_ok h1 hv)
theorem Ent.ren {n n' : Nat} {cells cells' : List V} {X : List Nat} (hr : r n' = some n) (he : renL r cells' = some cells) (h : Ent N U w n cells X) : Ent (renN r N) U w n' cells' X := by
  rcases h with ⟨h1, rfl, rfl⟩ | ⟨b, base, arr, e, cs, F, h1, h2, h3, h4, rfl⟩
  · refine .inl ⟨by simp [renN, hr, h1], ?_, rfl⟩
    cases cells' with
    | nil => rfl
    | cons v vs => unfold renL at he; split at he <;> simp at he
  · exact .inr ⟨b, base, arr, e, cs, F, by simp [renN, hr, h1], h2, h3, renL_ok he h4, rfl⟩
theorem subH_ok : ∀ (H' H : List (Nat × List V)) (T : List Nat), subH r H H' → RH N U w H T → ∃ T' D, RH (renN r N) U w H' T' ∧ (T' ++ D).Perm T := by
  intro H'
  induction H' with
  | nil => intro H T _ _; exact ⟨[], T, .nil, by simp⟩
  | cons p H' ih =>
    intro H T hs hh
    obtain ⟨n', cells'⟩ := p
    unfold subH at hs
    split at hs
    · rename_i n hn
      split at hs
      · rename_i cells hg
        obtain ⟨X, T1, d1, d2, d3⟩ := hh.del hg
        obtain ⟨T', D, e1, e2⟩ := ih _ _ hs.2 d2
        refine ⟨X ++ T', D, e1.push (d1.ren hn hs.1), ?_⟩
        rw [List.append_assoc]
        exact (e2.append_left X).trans d3.symm
      · exact hs.elim
    · exact hs.elim

/-- Slots and rows forgotten, names given anew. -/
theorem Sub.ren {k0 : Nat} (r : Nat → Option Nat) {l l' : Tm} {s s' : Hp} (hT : subT r l l') (hH : subH r s.1 s'.1) (hn : ∀ n, s'.2 ≤ n → r n = none) (hk : ∀ n, n < k0 → r n = some n) (hk2 : k0 ≤ s'.2) : Sub k0 l s l' s' := by
  intro C hC a w hst
  obtain ⟨N, T, hr⟩ := hst
  obtain ⟨T', D, e1, e2⟩ := subH_ok _ _ _ hH hr.hp
  have hmem : ∀ x ∈ T', x ∈ T := fun x hx => e2.mem_iff.1 (by simp [hx])
  have hU : ∀ b, Un C.w0 C.U0 w T b → Un C.w0 C.U0 w T' b := fun b hb => ⟨hb.1, fun hm => hb.2.1 (hmem b hm), hb.2.2⟩
  have kk := kept_refl (renN r N) w hU
  subst hC
  refine ⟨renN r N, T', hr.tsz, hr.dfr, ?_, e1.kept kk (fun _ _ => rfl), ?_, fun b hb => hr.own b (hmem b hb), hr.fr, fun n h => by simp [renN, hn n h], fun n h => by simp only [renN, hk n h, Option.bind_some]; exact hr.nl n h, hk2, hr.lh⟩
  · intro i
    refine RV.kept kk ?_ (by simp)
    have key : ∀ (l' : Tm), subT r l l' → RV (renN r N) (Un C.w0 C.U0 w T) w (tget l' i) (a.tmps.getD i Go.undef) [] := by
      intro l'
      induction l' with
      | nil => intro _; exact .undef _
      | cons p l' ih =>
        intro h
        obtain ⟨j, v⟩ := p
        simp only [tget]
        split
        · rename_i hj
          subst hj
          rcases h.1 with rfl | h1
          · exact .undef _
          · exact renV_ok h1 (hr.sl j)
        · exact ih h.2
    exact key l' hT
  · exact (List.nodup_append.1 (e2.nodup_iff.2 hr.nd)).1
end
end Go.Proofs.Ytedampaecopkhaa
