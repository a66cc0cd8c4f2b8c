/- Statements whose order is open: soundness and the schedule. -/
import Derived.Test.YtedampaecopkhaaAbsO
namespace Go.Proofs.Ytedampaecopkhaa
open Go Go.RowKit

section
variable {N : Nm} {U U' : Nat → Prop} {w : World}
theorem RVs.mapE {g : V → V} {vs : List V} {cs : List Value} {F : List Nat} (h : RVs N U w vs cs F) (hg : ∀ v c G, v ∈ vs → RV N U w v c G → (∀ b ∈ G, b ∈ F) → RV N U' w (g v) c []) : RVs N U' w (vs.map g) cs [] := by
  induction vs generalizing cs F with
  | nil => cases h; exact .nil
  | cons v vs ih =>
    cases h with
    | cons _ _ c cs F Fs _ h hs hE =>
      subst hE
      exact .cons _ _ _ _ [] [] _ (hg _ _ _ (by simp) h (fun b hb => by simp [hb])) (ih hs (fun v c G hv hr hsub => hg v c G (by simp [hv]) hr (fun b hb => by simp [hsub b hb]))) rfl
theorem fz_ok (hU : ∀ b, U b → U' b) : ∀ (k : Nat) (v : V) (c : Value) (F : List Nat), (∀ b ∈ F, U' b) → RV N U w v c F → RV N U' w (fz k v) c [] := by
  intro k
  induction k with
  | zero => intro v c F _ _; exact .undef _
  | succ k ih =>
    intro v c F hF h
    have sub : ∀ (cells : List V) (cs : List Value) (G : List Nat), (∀ b ∈ G, U' b) → RVs N U w cells cs G → RVs N U' w (cells.map (fz k)) cs [] := by
      intro cells cs G hG hv
      exact hv.mapE fun v c G' hm hr hsub => ih v c G' (fun b hb => hG b (hsub b hb)) hr
    have kr : Kept N N U U' w w := kept_refl N w hU
    cases h with
    | undef => exact .undef _
    | int => exact .int _ _
    | bool => exact .bool _
    | str => exact .str _
    | nil => exact .nil
    | listE => exact .listE _ _ _
    | list sz cells b o len cap cs hUb hl hlc hm hz hc hv => exact .list sz cells b o len cap cs (hU b hUb) hl hlc hm hz hc (hv.kept kr (by simp))
    | ownE => exact .listE _ _ _
    | own sz cells b o len cap arr e cs F _ hb hl hs hlc hm hz hc hv hFF =>
      subst hFF
      exact .list sz _ b o len cap cs (hF b (by simp)) (by simpa using hl) hlc (by omega) hz (fun j c hj => by rw [cell_of_arr hb]; exact hc j c hj) (sub cells cs F (fun x hx => hF x (by simp [hx])) hv)
    | agg parts cs F hv => exact .agg _ cs [] (sub parts cs F hF hv)
    | tup parts cs F hv => exact .tup _ cs [] (sub parts cs F hF hv)
    | sl n sz off len b base cap arr e fz hn hb hs hlc hm hz => exact .sl n sz off len b base cap arr e fz hn hb hs hlc hm hz
    | slE n sz hn => exact .slE n sz hn
    | slZ n sz off b base o arr e fz hn hb ho hz => exact .slZ n sz off b base o arr e fz hn hb ho hz
    | pt n off b base hn => exact .pt n off b base hn
    | rp cells b o cs hUb hc hv => exact .rp cells b o cs (hU b hUb) hc (hv.kept kr (by simp))
    | fn f caps cs hv => exact .fn f caps cs (hv.kept kr (by simp))
end

section
variable {C : Ctx}
theorem RS.frozen {t : Nat → V} {s : Hp} {N : Nm} {T : List Nat} {a : Act} {w : World} (h : C.RS t s N T a w) {Γ : Env} (hΓ : EnvOk C.P Γ) {o : Oper} {so : SO} (hc : compOp C.P o = some so) (hd : ∀ d, o.dst = some d → d < C.nt) {v : V} (he : evQ Γ s.1 (Opd.ev t) so = some (true, v))
    {K : Act → World → Prop} {Q : Exit → Act → World → Prop} (hK : ∀ a' w' N' T', C.RS (upd t o.dst (fz 6 v)) s N' T' a' w' → K a' w') : o.wp C.P a w K Q := by
  refine evQ_wp hΓ hc h.sl h.hp (fun b hb => hb.1) h.hp.lt he ?_
  intro c w' F hb hF hv
  have hTlt := RH.lt h.hp
  have hU : ∀ b, Uf (Un C.w0 C.U0 w T) w w' F b → Un C.w0 C.U0 w' T b := by
    intro b hU
    rcases hU with ⟨g1, g2⟩ | ⟨g1, g2, g3⟩
    · exact ⟨Nat.lt_of_lt_of_le g1 hb.size, g2⟩
    · exact ⟨g2, fun hm => by have := hTlt b hm; omega, .inr (Nat.le_trans h.fr.size g1)⟩
  have hFU : ∀ b ∈ F, Un C.w0 C.U0 w' T b := fun b hbF => ⟨(hF.2 b hbF).2, fun hm => by have := hTlt b hm; have := (hF.2 b hbF).1; omega, .inr (Nat.le_trans h.fr.size (hF.2 b hbF).1)⟩
  have k : Kept N N (Un C.w0 C.U0 w T) (Un C.w0 C.U0 w' T) w w' := ⟨fun b hU => ⟨hb.block b hU.1, Nat.lt_of_lt_of_le hU.1 hb.size, hU.2⟩, fun _ _ h => h, fun n b base hn arr e fz hbb => ⟨arr, e, fz, by rw [hb.block b (heap_lt hbb)]; exact hbb, rfl⟩⟩
  exact hK _ _ N T (RS.step h hd k (fz_ok hU 6 v c F hFU hv) (RH.kept k h.hp (fun b hbT => hb.block b (hTlt b hbT))) h.nd h.own (KeepBut.trans h.fr (below_keep hb C.L0)) h.nx (Nat.le_refl _) (fun _ _ => rfl))

/-- What the operations of the statement are. -/
def Comp (P : Program) (ops : Array Oper) (nt : Nat) (gl : List (GO × Bool)) : Prop := ∀ (i : Nat) (o : Oper), ops[i]? = some o → ∃ (g : GO) (loud : Bool), gl[i]? = some (g, loud) ∧ compGO P ops nt o = some g

theorem anyD_ok {Γ : Env} (hΓ : EnvOk C.P Γ) {ops : Array Oper} {gl : List (GO × Bool)} (hcomp : Comp C.P ops C.nt gl) {Q : Exit → Act → World → Prop} {K : (Nat → V) → Hp → Prop} (hK : ∀ t s N T a w, K t s → C.RS t s N T a w → Q .normal a w) :
    ∀ (n : Nat) (listed : Array Bool) (t : Nat → V) (s : Hp) (N : Nm) (T : List Nat) (a : Act) (w : World), AnyD Γ ops gl K n listed t s → C.RS t s N T a w → wpAny C.P .any ops Q n listed a w := by
  intro n
  induction n with
  | zero => intro listed t s N T a w h hr; exact ⟨h.1, hK _ _ _ _ _ _ h.2 hr⟩
  | succ n ih =>
    intro listed t s N T a w h hr
    refine ⟨fun h0 => hK _ _ _ _ _ _ (h.1 h0) hr, fun i hi => ?_⟩
    obtain ⟨g, loud, v, s', e1, e2, e3⟩ := h.2 i hi
    obtain ⟨o, o1, _, _⟩ := mem_ready.1 hi
    obtain ⟨g', loud', f1, f2⟩ := hcomp i o o1
    rw [e1] at f1
    cases f1
    obtain ⟨d1, d2, d3, d4⟩ := compGO_inv f2
    refine wpOp_of o1 ?_
    rw [d3] at e3
    have run : runD Γ loud g.o t s = some (v, s') → o.wp C.P a w (wpAny C.P .any ops Q n (listed.setIfInBounds i true)) Q := by
      intro hrun
      unfold runD at hrun
      split at hrun
      · split at hrun
        · rename_i v1 s1 he
          simp only [Option.some.injEq, Prod.mk.injEq] at hrun
          obtain ⟨rfl, rfl⟩ := hrun
          exact RS.oper hr hΓ d1 d4 he fun a' w' N' T' hr' => ih _ _ _ N' T' a' w' e3 hr'
        · simp at hrun
      · split at hrun
        · rename_i v1 he
          simp only [Option.some.injEq, Prod.mk.injEq] at hrun
          obtain ⟨rfl, rfl⟩ := hrun
          exact RS.frozen hr hΓ d1 d4 he fun a' w' N' T' hr' => ih _ _ _ N' T' a' w' e3 hr'
        · simp at hrun
    have skip : (v, s') = (.tup [], s) → wpAny C.P .any ops Q n (listed.setIfInBounds i true) (a.put o.dst Go.undef) w := by
      intro he
      simp only [Prod.mk.injEq] at he
      obtain ⟨rfl, rfl⟩ := he
      exact ih _ _ _ N T _ w e3 (RS.skip hr d4)
    unfold valD at e2
    split at e2
    · rename_i hg
      rw [hg] at d2
      have := guard_none d2
      rw [if_pos (by simp [Region.wanted, this])]
      exact run e2
    · rename_i d want hg
      rw [hg] at d2
      obtain ⟨j, q1, q2⟩ := guard_some d2
      split at e2
      · rename_i b hb
        have hs := hr.sl d
        rw [hb] at hs
        have hy := yielded_bool q2 (hs.bool_inv).1
        split at e2
        · rename_i hw
          rw [if_pos (by simp [Region.wanted, q1, hy, hw])]
          exact run e2
        · rename_i hw
          rw [if_neg (by simp [Region.wanted, q1, hy, hw])]
          simp only [Option.some.injEq] at e2
          exact skip e2.symm
      · rename_i ps hb
        have hs := hr.sl d
        rw [hb] at hs
        have hy : yielded ops a.tmps j = none := by
          generalize hq : a.tmps.getD d Go.undef = q at hs
          cases hs with
          | tup _ cs _ _ => exact yielded_tup q2 hq
        rw [if_neg (by simp [Region.wanted, q1, hy])]
        simp only [Option.some.injEq] at e2
        exact skip e2.symm
      · simp at e2
end

/-- The operations of the statement in an order that serves for all orders. -/
def vcD (Γ : Env) : List DI → Tm → Hp → (Tm → Hp → Prop) → Prop
  | [], l, s, K => K l s
  | d :: r, l, s, K =>
    let go (l : Tm) : Prop :=
      if d.loud then match evH Γ (Opd.ev (tget l)) s d.g.o with
        | some (b, v, s') => b = true ∧ vcD Γ r (put l d.g.d v) s' K
        | none => False
      else match evQ Γ (if d.free then [] else s.1) (Opd.ev (tget l)) d.g.o with
        | some (b, v) => b = true ∧ (d.free = true → freeOk (Opd.ev (tget l)) d.g.o = true) ∧ vcD Γ r (put l d.g.d (fz 6 v)) s K
        | none => False
    match d.g.g with
    | none => go l
    | some (x, want) => match tget l x with
      | .bool b => (b = want → go ((x, .bool want) :: l)) ∧ (b = !want → vcD Γ r (put ((x, .bool (!want)) :: l) d.g.d (.tup [])) s K)
      | .tup _ => vcD Γ r (put l d.g.d (.tup [])) s K
      | _ => False

/-- The operations that wait for 'i', and 'i' itself: a guess, checked by 'checkDep'. -/
def depOf (ops : Array Oper) (i : Nat) : List Bool :=
  ops.toList.zipIdx.foldl (fun acc (o, j) => acc ++ [j == i || o.after.any fun e => Region.binds .any e && acc.getD e.on false]) []
def checkDep (ops : Array Oper) (i : Nat) (dep : List Bool) : Bool :=
  ops.toList.zipIdx.all fun (o, j) => !(dep.getD j false) || j == i || o.after.any fun e => Region.binds .any e && dep.getD e.on false
/-- No operation that writes rows may come up before 'i'. -/
def heldB (ops : Array Oper) (gl : List (GO × Bool)) (listed : Array Bool) (i : Nat) : Bool :=
  let dep := depOf ops i
  checkDep ops i dep && (dep.zipIdx.all fun (d, j) => !d || !(listed.getD j true)) && gl.zipIdx.all fun (g, j) => !g.2 || listed.getD j true || dep.getD j false
def apartAll (ops : Array Oper) (gl : List (GO × Bool)) (listed : Array Bool) (i : Nat) (g : GO) : Bool :=
  gl.zipIdx.all fun (g', j) => j == i || listed.getD j true || ((ops[j]?).map fun o => o.after.any fun e => Region.binds .any e && e.on == i).getD false || apartG g g'.1
def schedD (ops : Array Oper) (gl : List (GO × Bool)) : Nat → Array Bool → Option (List DI)
  | 0, listed => if (Region.ready .any ops listed).isEmpty then some [] else none
  | n + 1, listed =>
    match Region.ready .any ops listed with
    | [] => some []
    | i :: rest =>
      match (i :: rest).find? fun i => match gl[i]? with | some (_, false) => true | _ => false with
      | some i => match gl[i]? with
        | some (g, false) => if apartAll ops gl listed i g then (schedD ops gl n (listed.setIfInBounds i true)).map (⟨g, false, !heldB ops gl listed i⟩ :: ·) else none
        | _ => none
      | none => if rest.isEmpty then match gl[i]? with
          | some (g, true) => (schedD ops gl n (listed.setIfInBounds i true)).map (⟨g, true, false⟩ :: ·)
          | _ => none
        else none
theorem all_zip {α : Type} {l : List α} {p : α × Nat → Bool} (h : (l.zipIdx.all p) = true) {j : Nat} {x : α} (hj : l[j]? = some x) : p (x, j) = true := by
  rw [List.all_eq_true] at h
  refine h (x, j) ?_
  rw [List.mem_iff_getElem?]
  exact ⟨j, by simp [List.getElem?_zipIdx, hj]⟩
theorem apartAll_spec {ops : Array Oper} {gl : List (GO × Bool)} {listed : Array Bool} {i : Nat} {g : GO} (h : apartAll ops gl listed i g = true) {j : Nat} {gj : GO} {lj : Bool} (hj : gl[j]? = some (gj, lj)) (hji : j ≠ i) (hl : listed.getD j true = false)
    (he : ∀ o, ops[j]? = some o → ∀ e ∈ o.after, Region.binds .any e = true → e.on ≠ i) : apartG g gj = true := by
  have := all_zip h hj
  simp only [Bool.or_eq_true, beq_iff_eq, hl, Bool.false_eq_true, or_false] at this
  rcases this with (h1 | h1) | h1
  · exact absurd h1 hji
  · exfalso
    cases ho : ops[j]? with
    | none => rw [ho] at h1; simp at h1
    | some o =>
      rw [ho] at h1
      simp only [Option.map_some, Option.getD_some] at h1
      rw [Array.any_eq_true] at h1
      obtain ⟨n, hn, h2⟩ := h1
      simp only [Bool.and_eq_true, beq_iff_eq] at h2
      exact he o ho _ (Array.getElem_mem hn) h2.1 h2.2
  · exact h1
theorem checkDep_spec {ops : Array Oper} {i : Nat} {dep : List Bool} (h : checkDep ops i dep = true) {j : Nat} {o : Oper} (ho : ops[j]? = some o) (hd : dep.getD j false = true) (hji : j ≠ i) : ∃ e ∈ o.after, Region.binds .any e = true ∧ dep.getD e.on false = true := by
  have := all_zip h (j := j) (x := o) (by simpa using ho)
  simp only [hd, Bool.not_true, Bool.false_or, Bool.or_eq_true, beq_iff_eq] at this
  rcases this with h1 | h1
  · exact absurd h1 hji
  · rw [Array.any_eq_true] at h1
    obtain ⟨n, hn, h2⟩ := h1
    simp only [Bool.and_eq_true] at h2
    exact ⟨_, Array.getElem_mem hn, h2.1, h2.2⟩
theorem getD_tf {l : Array Bool} {j : Nat} (h1 : l.getD j false = true) (h2 : l.getD j true = false) : False := by
  simp only [Array.getD_eq_getD_getElem?] at h1 h2
  cases hq : l[j]? <;> rw [hq] at h1 h2 <;> simp_all
theorem runD_quiet {Γ : Env} {o : SO} {t : Nat → V} {s s' : Hp} {v : V} (h : runD Γ false o t s = some (v, s')) : s' = s := by
  unfold runD at h
  simp only [Bool.false_eq_true, if_false] at h
  split at h
  · simp only [Option.some.injEq, Prod.mk.injEq] at h; exact h.2.symm
  · simp at h
theorem valD_quiet {Γ : Env} {g : GO} {t : Nat → V} {s s' : Hp} {v : V} (h : valD Γ false g t s = some (v, s')) : s' = s := by
  unfold valD at h
  split at h
  · exact runD_quiet h
  · split at h
    · split at h
      · exact runD_quiet h
      · simp only [Option.some.injEq, Prod.mk.injEq] at h; exact h.2.symm
    · simp only [Option.some.injEq, Prod.mk.injEq] at h; exact h.2.symm
    · simp at h

theorem vcD_ok {Γ : Env} {ops : Array Oper} {gl : List (GO × Bool)} {K : Tm → Hp → Prop} : ∀ (n : Nat) (listed : Array Bool) (ds : List DI) (l : Tm) (s : Hp), schedD ops gl n listed = some ds → vcD Γ ds l s K →
    AnyD Γ ops gl (fun t s => ∃ l, tget l = t ∧ K l s) n listed (tget l) s := by
  intro n
  induction n with
  | zero =>
    intro listed ds l s hs hv
    unfold schedD at hs
    split at hs
    · rename_i he
      simp at hs
      subst hs
      exact ⟨by simpa using he, l, rfl, hv⟩
    · simp at hs
  | succ n ih =>
    intro listed ds l s hs hv
    unfold schedD at hs
    split at hs
    · rename_i he
      simp at hs
      subst hs
      exact ⟨fun _ => ⟨l, rfl, hv⟩, fun i hi => by rw [he] at hi; cases hi⟩
    · rename_i i0 rest hrd
      split at hs
      · -- a quiet one
        rename_i i hfind
        split at hs
        · rename_i g hgi
          split at hs
          · rename_i hap
            obtain ⟨ds', h1, rfl⟩ := opt_map hs
            have hir : i ∈ Region.ready .any ops listed := by rw [hrd]; exact List.mem_of_find?_eq_some hfind
            have fin : ∀ (v : V) (l1 : Tm), tget l1 = tget l → vcD Γ ds' (put l1 g.d v) s K →
                (∀ t' s', (∀ n ∈ g.reads, t' n = tget l n) → ((!heldB ops gl listed i) = false → s'.1 = s.1) → valD Γ false g t' s' = some (v, s')) →
                AnyD Γ ops gl (fun t s => ∃ l, tget l = t ∧ K l s) (n + 1) listed (tget l) s := by
              intro v l1 hl1 hv1 hst
              have hrest := ih _ _ _ _ h1 hv1
              rw [tget_put, hl1] at hrest
              cases hh : heldB ops gl listed i with
              | false =>
                refine anyD_first hgi (v := v) (fun _ => True) (fun t' _ => ∀ n ∈ g.reads, t' n = tget l n) (fun t' s' hS => hst t' s' hS (by simp [hh])) ?_ n listed _ _ trivial (fun _ _ => rfl) hir (fun j gj lj hj hji hlj hej => apartAll_spec hap hj hji hlj hej) hrest
                intro listed' t' s' j gj lj vj s'' _ hS hjr hji hgj hapj hval
                exact ⟨trivial, fun m hm => by rw [upd_read (l := g.reads) (fun x hx => (apartG_spec hapj).2 x hx) m hm]; exact hS m hm⟩
              | true =>
                unfold heldB at hh
                simp only [Bool.and_eq_true] at hh
                obtain ⟨⟨hd1, hd3⟩, hd2⟩ := hh
                have hdd : ∀ j : Nat, (depOf ops i).getD j false = true → listed.getD j true = false := by
                  intro j hdj
                  have hdj' : (depOf ops i)[j]? = some true := by
                    rw [List.getD_eq_getElem?_getD] at hdj
                    cases hq : (depOf ops i)[j]? <;> rw [hq] at hdj <;> simp_all
                  have := all_zip hd3 hdj'
                  simpa using this
                have hdl : ∀ (j : Nat) (gj : GO) (lj : Bool), gl[j]? = some (gj, lj) → lj = true → listed.getD j true = true ∨ (depOf ops i).getD j false = true := by
                  intro j gj lj hj hlj
                  have := all_zip hd2 hj
                  simp only [Bool.or_eq_true, Bool.not_eq_true'] at this
                  rcases this with (h | h) | h
                  · rw [hlj] at h; cases h
                  · exact .inl h
                  · exact .inr h
                refine anyD_first hgi (v := v) (fun listed' => (∀ j, (depOf ops i).getD j false = true → listed'.getD j true = false) ∧ ∀ j, listed.getD j true = true → listed'.getD j true = true)
                  (fun t' s' => (∀ n ∈ g.reads, t' n = tget l n) ∧ s'.1 = s.1) (fun t' s' hS => hst t' s' hS.1 (fun _ => hS.2)) ?_ n listed _ _ ⟨hdd, fun _ h => h⟩ ⟨fun _ _ => rfl, rfl⟩ hir (fun j gj lj hj hji hlj hej => apartAll_spec hap hj hji hlj hej) hrest
                intro listed' t' s' j gj lj vj s'' hI hS hjr hji hgj hapj hval
                obtain ⟨oj, o1, o2, o3⟩ := mem_ready.1 hjr
                have hnd : (depOf ops i).getD j false = false := by
                  cases hdj : (depOf ops i).getD j false with
                  | false => rfl
                  | true =>
                    exfalso
                    obtain ⟨e, he1, he2, he3⟩ := checkDep_spec hd1 o1 hdj hji
                    have hlist := o3 e he1 he2
                    exact getD_tf hlist (hI.1 e.on he3)
                have hq : lj = false := by
                  cases lj with
                  | false => rfl
                  | true =>
                    exfalso
                    rcases hdl j gj true hgj rfl with h | h
                    · have := hI.2 j h
                      rw [o2] at this
                      cases this
                    · rw [hnd] at h; cases h
                subst hq
                have hs'' := valD_quiet hval
                subst hs''
                refine ⟨⟨fun k hdk => ?_, fun k hk => ?_⟩, fun m hm => by rw [upd_read (l := g.reads) (fun x hx => (apartG_spec hapj).2 x hx) m hm]; exact hS.1 m hm, hS.2⟩
                · have hjk : j ≠ k := fun e => by rw [← e, hnd] at hdk; cases hdk
                  rw [getD_set hjk]
                  exact hI.1 k hdk
                · by_cases hjk : j = k
                  · subst hjk
                    have := hI.2 j hk
                    rw [o2] at this
                    cases this
                  · rw [getD_set hjk]; exact hI.2 k hk
            -- what the walk shows of the operation
            have go : ∀ (l1 : Tm), tget l1 = tget l → (g.g = none ∨ ∃ x want, g.g = some (x, want) ∧ tget l x = .bool want) →
                (match evQ Γ (if (!heldB ops gl listed i) then [] else s.1) (Opd.ev (tget l1)) g.o with
                  | some (b, v) => b = true ∧ ((!heldB ops gl listed i) = true → freeOk (Opd.ev (tget l1)) g.o = true) ∧ vcD Γ ds' (put l1 g.d (fz 6 v)) s K
                  | none => False) → AnyD Γ ops gl (fun t s => ∃ l, tget l = t ∧ K l s) (n + 1) listed (tget l) s := by
              intro l1 hl1 hgd hgo
              split at hgo
              · rename_i b v he
                obtain ⟨rfl, hf, hrest⟩ := hgo
                refine fin (fz 6 v) l1 hl1 hrest fun t' s' hag hsame => ?_
                have hrun : runD Γ false g.o t' s' = some (fz 6 v, s') := by
                  unfold runD
                  simp only [Bool.false_eq_true, if_false]
                  have : evQ Γ s'.1 (Opd.ev t') g.o = some (true, v) := by
                    rw [evQ_congr Γ s'.1 g.o (opds_congr (g := g) hag)]
                    rw [hl1] at he hf
                    cases hh : heldB ops gl listed i with
                    | false => rw [hh] at he hf; exact evQ_free (by simpa using he) (hf rfl) s'.1
                    | true =>
                      rw [hh] at he hsame
                      rw [hsame rfl]
                      simpa using he
                  rw [this]
                unfold valD
                rcases hgd with hgd | ⟨x, want, hgd, hx⟩
                · rw [hgd]; exact hrun
                · rw [hgd]
                  simp only [hag x (by simp [GO.reads, hgd]), hx, if_true]
                  exact hrun
              · exact hgo.elim
            unfold vcD at hv
            simp only at hv
            split at hv
            · rename_i hgd
              simp only [Bool.false_eq_true, if_false] at hv
              exact go l rfl (.inl hgd) hv
            · rename_i x want hgd
              split at hv
              · rename_i b hb
                by_cases hw : b = want
                · subst hw
                  have := hv.1 rfl
                  simp only [Bool.false_eq_true, if_false] at this
                  exact go ((x, .bool b) :: l) (upd_same (t := tget l) (d := x) hb) (.inr ⟨x, b, hgd, hb⟩) this
                · have hw' : b = !want := by cases b <;> cases want <;> simp_all
                  refine fin (.tup []) ((x, .bool (!want)) :: l) (upd_same (t := tget l) (d := x) (by rw [hb, hw'])) (hv.2 hw') fun t' s' hag _ => ?_
                  unfold valD
                  rw [hgd]
                  simp only [hag x (by simp [GO.reads, hgd]), hb, if_neg hw]
              · rename_i ps hb
                refine fin (.tup []) l rfl hv fun t' s' hag _ => ?_
                unfold valD
                rw [hgd]
                simp only [hag x (by simp [GO.reads, hgd]), hb]
              · exact hv.elim
          · simp at hs
        · simp at hs
      · -- a loud one, alone
        split at hs
        · rename_i hre
          split at hs
          · rename_i g hgi
            obtain ⟨ds', h1, rfl⟩ := opt_map hs
            have hrest : rest = [] := by simpa using hre
            subst hrest
            refine ⟨fun h0 => (by rw [hrd] at h0; cases h0), fun i hi => ?_⟩
            rw [hrd] at hi
            have hii : i = i0 := by simpa using hi
            subst hii
            unfold vcD at hv
            simp only [if_true] at hv
            have go : ∀ (l1 : Tm), tget l1 = tget l → (g.g = none ∨ ∃ x want, g.g = some (x, want) ∧ tget l x = .bool want) →
                (match evH Γ (Opd.ev (tget l1)) s g.o with
                  | some (b, v, s') => b = true ∧ vcD Γ ds' (put l1 g.d v) s' K
                  | none => False) → ∃ g' loud v s', gl[i]? = some (g', loud) ∧ valD Γ loud g' (tget l) s = some (v, s') ∧ AnyD Γ ops gl (fun t s => ∃ l, tget l = t ∧ K l s) n (listed.setIfInBounds i true) (upd (tget l) g'.d v) s' := by
              intro l1 hl1 hgd hgo
              split at hgo
              · rename_i b v s' he
                obtain ⟨rfl, hr⟩ := hgo
                have := ih _ _ _ _ h1 hr
                rw [tget_put, hl1] at this
                refine ⟨g, true, v, s', hgi, ?_, this⟩
                rw [hl1] at he
                have hrun : runD Γ true g.o (tget l) s = some (v, s') := by unfold runD; simp [he]
                unfold valD
                rcases hgd with hgd | ⟨x, want, hgd, hx⟩
                · rw [hgd]; exact hrun
                · rw [hgd]; simp only [hx, if_true]; exact hrun
              · exact hgo.elim
            have skip : ∀ (l1 : Tm), tget l1 = tget l → valD Γ true g (tget l) s = some (.tup [], s) → vcD Γ ds' (put l1 g.d (.tup [])) s K → ∃ g' loud v s', gl[i]? = some (g', loud) ∧ valD Γ loud g' (tget l) s = some (v, s') ∧ AnyD Γ ops gl (fun t s => ∃ l, tget l = t ∧ K l s) n (listed.setIfInBounds i true) (upd (tget l) g'.d v) s' := by
              intro l1 hl1 hval hr
              have := ih _ _ _ _ h1 hr
              rw [tget_put, hl1] at this
              exact ⟨g, true, _, s, hgi, hval, this⟩
            split at hv
            · rename_i hgd; exact go l rfl (.inl hgd) hv
            · rename_i x want hgd
              split at hv
              · rename_i b hb
                by_cases hw : b = want
                · subst hw
                  exact go ((x, .bool b) :: l) (upd_same (t := tget l) (d := x) hb) (.inr ⟨x, b, hgd, hb⟩) (hv.1 rfl)
                · have hw' : b = !want := by cases b <;> cases want <;> simp_all
                  refine skip ((x, .bool (!want)) :: l) (upd_same (t := tget l) (d := x) (by rw [hb, hw'])) ?_ (hv.2 hw')
                  unfold valD
                  rw [hgd]
                  simp only [hb, if_neg hw]
              · rename_i ps hb
                refine skip l rfl ?_ hv
                unfold valD
                rw [hgd]
                simp only [hb]
              · exact hv.elim
          · simp at hs
        · simp at hs
end Go.Proofs.Ytedampaecopkhaa
