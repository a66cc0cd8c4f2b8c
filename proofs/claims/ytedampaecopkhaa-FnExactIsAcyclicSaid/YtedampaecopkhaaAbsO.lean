/- Statements whose order is open. -/
import Derived.Test.YtedampaecopkhaaAbsN
namespace Go.Proofs.Ytedampaecopkhaa
open Go Go.RowKit

def SO.opds : SO → List Opd
  | .mov x | .box x | .ld _ _ x | .un _ x | .conv _ x | .fad _ x | .fld _ _ x | .ext _ x | .len x | .lens x | .nck x => [x]
  | .pick c a b => [c, a, b]
  | .new _ => []
  | .agg _ ps | .mks _ _ _ ps => ps.map fun p => p.2.2
  | .st _ x v => [x, v]
  | .bin _ _ x y => [x, y]
  | .mk _ _ _ l c => [l, c]
  | .sli _ x lo hi mx => x :: (lo.toList ++ hi.toList ++ mx.toList)
  | .slis x lo hi => x :: (lo.toList ++ hi.toList)
  | .idx _ x i | .idxa _ _ x i | .ixs x i => [x, i]
  | .app _ _ s x => [s, x]
  | .call _ args => args
  | .callv x args => x :: args
  | .fn _ caps => caps
def Opd.slot : Opd → List Nat
  | .t n => [n]
  | .c _ => []
def GO.reads (g : GO) : List Nat := g.o.opds.flatMap Opd.slot ++ (match g.g with | some (d, _) => [d] | none => [])

section congr
variable {e e' : Opd → V}
theorem bounds_congr {len : Nat} {lo hi mx : Option Opd} (h : ∀ x ∈ lo.toList ++ hi.toList ++ mx.toList, e x = e' x) : evBounds len e lo hi mx = evBounds len e' lo hi mx := by
  cases lo <;> cases hi <;> cases mx <;> simp_all [evBounds]
theorem parts_congr {ps : List (Nat × Nat × Opd)} (h : ∀ x ∈ ps.map (fun p => p.2.2), e x = e' x) : (ps.map fun (o, s, x) => (o, s, e x)) = ps.map fun (o, s, x) => (o, s, e' x) := by
  apply List.map_congr_left
  intro p hp
  obtain ⟨o, s, x⟩ := p
  simp only [h x (List.mem_map.2 ⟨(o, s, x), hp, rfl⟩)]
theorem evQ_congr (Γ : Env) (H : List (Nat × List V)) (so : SO) (h : ∀ x ∈ so.opds, e x = e' x) : evQ Γ H e so = evQ Γ H e' so := by
  cases so <;> simp only [SO.opds] at h
  case ld n d x => cases n <;> simp only [evQ, h x (by simp)]
  case bin b op x y => cases b <;> simp only [evQ, h x (by simp), h y (by simp)]
  case fld n off x => cases n <;> simp only [evQ, h x (by simp)]
  case agg z ps => simp only [evQ, parts_congr h]
  case sli sz x lo hi mx =>
    have h1 := h x (by simp)
    have h2 : ∀ y ∈ lo.toList ++ hi.toList ++ mx.toList, e y = e' y := fun y hy => h y (by simp only [List.mem_cons]; exact .inr hy)
    simp only [evQ, h1]
    split <;> simp only [bounds_congr h2]
  case slis x lo hi =>
    have h1 := h x (by simp)
    have h2 : ∀ y ∈ lo.toList ++ hi.toList ++ (none : Option Opd).toList, e y = e' y := fun y hy => h y (by simp only [List.mem_cons]; exact .inr (by simpa using hy))
    simp only [evQ, h1]
    split <;> simp only [bounds_congr h2]
  case call f args =>
    have h1 : (args.map fun x => dr H 6 (e x)) = args.map fun x => dr H 6 (e' x) := List.map_congr_left fun x hx => by rw [h x hx]
    have h2 : (args.all fun x => noname 6 (e x)) = args.all fun x => noname 6 (e' x) := by
      rw [Bool.eq_iff_iff, List.all_eq_true, List.all_eq_true]
      exact ⟨fun g x hx => by rw [← h x hx]; exact g x hx, fun g x hx => by rw [h x hx]; exact g x hx⟩
    simp only [evQ, h1, h2]
  case callv y args =>
    have h1 : (args.map fun x => dr H 6 (e x)) = args.map fun x => dr H 6 (e' x) := List.map_congr_left fun x hx => by rw [h x (by simp [hx])]
    simp only [evQ, h1, h y (by simp)]
  case fn f caps =>
    have h1 : caps.map e = caps.map e' := List.map_congr_left h
    simp only [evQ, h1]
  all_goals first
    | rfl
    | (simp only [evQ]; done)
    | (simp only [evQ, h _ (List.mem_cons_self ..)]; done)
    | (simp only [evQ, h _ (List.mem_cons_self ..), h _ (List.mem_cons_of_mem _ (List.mem_cons_self ..))]; done)
    | (simp only [evQ, h _ (List.mem_cons_self ..), h _ (List.mem_cons_of_mem _ (List.mem_cons_self ..)), h _ (List.mem_cons_of_mem _ (List.mem_cons_of_mem _ (List.mem_cons_self ..)))]; done)
theorem evH_congr (Γ : Env) (s : Hp) (so : SO) (h : ∀ x ∈ so.opds, e x = e' x) : evH Γ e s so = evH Γ e' s so := by
  by_cases hq : so.isQuiet = true
  · rw [evH_quiet hq, evH_quiet hq, evQ_congr Γ s.1 so h]
  cases so <;> try (exact absurd rfl hq)
  case new => rfl
  case box x => simp only [evH, h x (by simp [SO.opds])]
  case mks n sz z ps => simp only [evH, parts_congr (by simpa [SO.opds] using h)]
  case mk sz b z l c => simp only [evH, h l (by simp [SO.opds]), h c (by simp [SO.opds])]
  case st n x v => simp only [evH, h x (by simp [SO.opds]), h v (by simp [SO.opds])]
  case app sz b x y => simp only [evH, h x (by simp [SO.opds]), h y (by simp [SO.opds])]
  case call f args =>
    have h0 := h
    simp only [SO.opds] at h
    have h1 : ∀ n, (args.map fun x => dr (hdel s.1 n) 6 (e x)) = args.map fun x => dr (hdel s.1 n) 6 (e' x) := fun n => List.map_congr_left fun x hx => by rw [h x hx]
    have h2 : ∀ i : Nat, ((args.eraseIdx i).all fun x => noname 6 (e x)) = (args.eraseIdx i).all fun x => noname 6 (e' x) := fun i => by
      rw [Bool.eq_iff_iff, List.all_eq_true, List.all_eq_true]
      exact ⟨fun g x hx => by rw [← h x (List.mem_of_mem_eraseIdx hx)]; exact g x hx, fun g x hx => by rw [h x (List.mem_of_mem_eraseIdx hx)]; exact g x hx⟩
    have h3 : ∀ i : Nat, (args[i]?).map e = (args[i]?).map e' := fun i => by
      cases hi : args[i]? with
      | none => rfl
      | some x => simp [h x (List.mem_of_getElem? hi)]
    simp only [evH, h1, h2, h3, evQ_congr Γ s.1 (.call f args) h0]
end congr

/-- It may be looked at without the rows. -/
def freeOk (e : Opd → V) : SO → Bool
  | .call _ args => args.all fun x => noname 6 (e x)
  | .callv x args => match e x with
    | .fn _ caps => caps.all (noname 6) && args.all fun x => noname 6 (e x)
    | _ => false
  | _ => true
theorem dr_free (H H' : List (Nat × List V)) : ∀ (k : Nat) (v : V), noname k v = true → dr H k v = dr H' k v := by
  intro k
  induction k with
  | zero => intro v _; rfl
  | succ k ih =>
    intro v hv
    have sub : ∀ (cells : List V), cells.all (noname k) = true → cells.map (dr H k) = cells.map (dr H' k) := fun cells hc => List.map_congr_left fun x hx => ih x (List.all_eq_true.1 hc x hx)
    cases v <;> first
      | rfl
      | (simp [noname] at hv; done)
      | (simp only [noname] at hv; simp only [dr, sub _ hv])
theorem evQ_free {Γ : Env} {e : Opd → V} {so : SO} {v : V} (h : evQ Γ [] e so = some (true, v)) (hf : freeOk e so = true) (H : List (Nat × List V)) : evQ Γ H e so = some (true, v) := by
  cases so
  case ld n d x =>
    cases n <;> simp only [evQ] at h ⊢
    · split at h
      · simp [hget] at h
      · exact h
      · simp at h
    · split at h
      · simp [hget] at h
      · exact h
      · simp at h
  case call f args =>
    simp only [freeOk] at hf
    have h1 : (args.map fun x => dr [] 6 (e x)) = args.map fun x => dr H 6 (e x) := List.map_congr_left fun x hx => dr_free _ _ 6 _ (List.all_eq_true.1 hf x hx)
    simp only [evQ, h1] at h ⊢
    exact h
  case callv y args =>
    simp only [freeOk] at hf
    cases hy : e y <;> rw [hy] at hf <;> simp only [Bool.and_eq_true] at hf <;> try (simp at hf; done)
    rename_i f caps
    have h1 : (args.map fun x => dr [] 6 (e x)) = args.map fun x => dr H 6 (e x) := List.map_congr_left fun x hx => dr_free _ _ 6 _ (List.all_eq_true.1 hf.2 x hx)
    have h2 : caps.map (dr [] 6) = caps.map (dr H 6) := List.map_congr_left fun x hx => dr_free _ _ 6 _ (List.all_eq_true.1 hf.1 x hx)
    simp only [evQ, hy, h1, h2] at h ⊢
    exact h
  all_goals first
    | exact h
    | (simp [evQ] at h; done)
    | (rename_i b _ _ _; cases b <;> exact h)
    | (rename_i n _ _; cases n <;> exact h)

section ready
variable {ops : Array Oper} {listed : Array Bool}
theorem mem_ready {i : Nat} : i ∈ Region.ready .any ops listed ↔ ∃ o, ops[i]? = some o ∧ listed.getD i true = false ∧ ∀ e ∈ o.after, Region.binds .any e = true → listed.getD e.on false = true := by
  unfold Region.ready
  rw [List.mem_filter, List.mem_range]
  constructor
  · rintro ⟨h1, h2⟩
    rw [Array.getElem?_eq_getElem h1] at h2
    simp only [Bool.and_eq_true, Bool.not_eq_true', Option.map_some, Option.getD_some] at h2
    refine ⟨_, Array.getElem?_eq_getElem h1, h2.1, fun e he hb => ?_⟩
    obtain ⟨n, hn, rfl⟩ := Array.mem_iff_getElem.1 he
    have := Array.all_eq_true.1 h2.2 n hn
    simpa [hb] using this
  · rintro ⟨o, h1, h2, h3⟩
    have hi := (Array.getElem?_eq_some_iff.1 h1).1
    refine ⟨hi, ?_⟩
    rw [h1]
    simp only [h2, Bool.not_false, Option.map_some, Option.getD_some, Bool.true_and]
    rw [Array.all_eq_true]
    intro n hn
    cases hb : Region.binds .any o.after[n] with
    | false => simp
    | true => simp [h3 _ (Array.getElem_mem hn) hb]
theorem getD_set {b : Bool} {i j : Nat} (h : i ≠ j) (d : Bool) : (listed.setIfInBounds i b).getD j d = listed.getD j d := by
  simp only [Array.getD_eq_getD_getElem?, Array.getElem?_setIfInBounds_ne h]
theorem getD_set_mono {i j : Nat} (h : listed.getD j false = true) : (listed.setIfInBounds i true).getD j false = true := by
  by_cases hij : i = j
  · subst hij
    simp only [Array.getD_eq_getD_getElem?, Array.getElem?_setIfInBounds] at h ⊢
    split
    · split
      · rfl
      · rename_i h1 h2
        rw [Array.getElem?_eq_none (by omega)] at h
        simp at h
    · rename_i h1; exact (h1 trivial).elim
  · rw [getD_set hij]; exact h
theorem ready_set {i j : Nat} (h : j ∈ Region.ready .any ops listed) (hij : i ≠ j) : j ∈ Region.ready .any ops (listed.setIfInBounds i true) := by
  rw [mem_ready] at h ⊢
  obtain ⟨o, h1, h2, h3⟩ := h
  exact ⟨o, h1, by rw [getD_set hij]; exact h2, fun e he hb => getD_set_mono (h3 e he hb)⟩
end ready

/-- One operation of a statement whose order is open, as a function of the state. -/
def runD (Γ : Env) (loud : Bool) (o : SO) (t : Nat → V) (s : Hp) : Option (V × Hp) :=
  if loud then match evH Γ (Opd.ev t) s o with
    | some (true, v, s') => some (v, s')
    | _ => none
  else match evQ Γ s.1 (Opd.ev t) o with
    | some (true, v) => some (fz 6 v, s)
    | _ => none
def valD (Γ : Env) (loud : Bool) (g : GO) (t : Nat → V) (s : Hp) : Option (V × Hp) :=
  match g.g with
  | none => runD Γ loud g.o t s
  | some (d, want) => match t d with
    | .bool b => if b = want then runD Γ loud g.o t s else some (.tup [], s)
    | .tup _ => some (.tup [], s)
    | _ => none
theorem ev_congr {t t' : Nat → V} {x : Opd} (h : ∀ n ∈ x.slot, t n = t' n) : x.ev t = x.ev t' := by
  cases x with
  | t n => exact h n (by simp [Opd.slot])
  | c v => rfl
theorem opds_congr {t t' : Nat → V} {g : GO} (h : ∀ n ∈ g.reads, t n = t' n) : ∀ x ∈ g.o.opds, x.ev t = x.ev t' := fun x hx => ev_congr fun n hn => h n (by
  unfold GO.reads
  rw [List.mem_append]
  exact .inl (List.mem_flatMap.2 ⟨x, hx, hn⟩))
theorem valD_congr {Γ : Env} {loud : Bool} {g : GO} {t t' : Nat → V} (h : ∀ n ∈ g.reads, t n = t' n) (s : Hp) : valD Γ loud g t s = valD Γ loud g t' s := by
  have h1 : runD Γ loud g.o t s = runD Γ loud g.o t' s := by
    unfold runD
    rw [evH_congr Γ s g.o (opds_congr h), evQ_congr Γ s.1 g.o (opds_congr h)]
  unfold valD
  rw [h1]
  cases hg : g.g with
  | none => rfl
  | some p =>
    obtain ⟨d, want⟩ := p
    have : t d = t' d := h d (by simp [GO.reads, hg])
    simp only [this]
/-- Neither reads or writes what the other writes. -/
def apartG (g g' : GO) : Bool :=
  (match g.d with
   | some d => !(g'.reads.contains d) && g'.d != some d
   | none => true) &&
  (match g'.d with
   | some d => !(g.reads.contains d)
   | none => true)
theorem apartG_spec {g g' : GO} (h : apartG g g' = true) : (∀ d, g.d = some d → d ∉ g'.reads ∧ g'.d ≠ some d) ∧ (∀ d, g'.d = some d → d ∉ g.reads) := by
  constructor
  · intro d hd
    simp [apartG, hd] at h
    exact ⟨h.1.1, h.1.2⟩
  · intro d hd
    simp [apartG, hd] at h
    exact h.2
theorem upd_read {t : Nat → V} {d : Option Nat} {v : V} {l : List Nat} (h : ∀ x, d = some x → x ∉ l) : ∀ n ∈ l, upd t d v n = t n := by
  intro n hn
  cases d with
  | none => rfl
  | some x =>
    simp only [upd]
    rw [if_neg (by rintro rfl; exact h _ rfl hn)]
theorem upd_comm {t : Nat → V} {d d' : Option Nat} (h : ∀ x, d = some x → d' ≠ some x) (v v' : V) : upd (upd t d v) d' v' = upd (upd t d' v') d v := by
  cases d with
  | none => rfl
  | some x =>
    cases d' with
    | none => rfl
    | some y =>
      have hne : x ≠ y := fun e => h x rfl (by rw [e])
      funext j
      simp only [upd]
      split <;> split <;> simp_all

/-- Whatever order is picked from here on. -/
def AnyD (Γ : Env) (ops : Array Oper) (gl : List (GO × Bool)) (K : (Nat → V) → Hp → Prop) : Nat → Array Bool → (Nat → V) → Hp → Prop
  | 0, listed, t, s => Region.ready .any ops listed = [] ∧ K t s
  | n + 1, listed, t, s => (Region.ready .any ops listed = [] → K t s) ∧ ∀ i ∈ Region.ready .any ops listed,
      ∃ g loud v s', gl[i]? = some (g, loud) ∧ valD Γ loud g t s = some (v, s') ∧ AnyD Γ ops gl K n (listed.setIfInBounds i true) (upd t g.d v) s'

/-- A quiet operation that may come up now may be taken first. -/
theorem anyD_first {Γ : Env} {ops : Array Oper} {gl : List (GO × Bool)} {K : (Nat → V) → Hp → Prop} {i : Nat} {g : GO} (hi : gl[i]? = some (g, false)) {v : V} (I : Array Bool → Prop) (S : (Nat → V) → Hp → Prop)
    (hS : ∀ t s, S t s → valD Γ false g t s = some (v, s))
    (hI : ∀ listed t s j gj lj vj s', I listed → S t s → j ∈ Region.ready .any ops listed → j ≠ i → gl[j]? = some (gj, lj) → apartG g gj = true → valD Γ lj gj t s = some (vj, s') → I (listed.setIfInBounds j true) ∧ S (upd t gj.d vj) s') :
    ∀ (n : Nat) (listed : Array Bool) (t : Nat → V) (s : Hp), I listed → S t s → i ∈ Region.ready .any ops listed →
      (∀ j gj lj, gl[j]? = some (gj, lj) → j ≠ i → listed.getD j true = false → (∀ o, ops[j]? = some o → ∀ e ∈ o.after, Region.binds .any e = true → e.on ≠ i) → apartG g gj = true) →
      AnyD Γ ops gl K n (listed.setIfInBounds i true) (upd t g.d v) s → AnyD Γ ops gl K (n + 1) listed t s := by
  intro n
  induction n with
  | zero =>
    intro listed t s hIl hSt hr hap h
    refine ⟨fun h0 => (by rw [h0] at hr; cases hr), fun j hj => ?_⟩
    by_cases hji : j = i
    · subst hji; exact ⟨g, false, v, s, hi, hS t s hSt, h⟩
    · have := ready_set (i := i) hj (fun e => hji e.symm)
      rw [h.1] at this
      cases this
  | succ n ih =>
    intro listed t s hIl hSt hr hap h
    refine ⟨fun h0 => (by rw [h0] at hr; cases hr), fun j hj => ?_⟩
    by_cases hji : j = i
    · subst hji; exact ⟨g, false, v, s, hi, hS t s hSt, h⟩
    · have hj2 := ready_set (i := i) hj (fun e => hji e.symm)
      obtain ⟨gj, lj, vj, s', e1, e2, e3⟩ := h.2 j hj2
      have hjr := mem_ready.1 hj
      obtain ⟨oj, o1, o2, o3⟩ := hjr
      have hir := mem_ready.1 hr
      obtain ⟨oi, p1, p2, p3⟩ := hir
      have hedge : ∀ o, ops[j]? = some o → ∀ e ∈ o.after, Region.binds .any e = true → e.on ≠ i := by
        intro o ho e he hb hei
        rw [o1] at ho
        cases ho
        have := o3 e he hb
        rw [hei] at this
        simp only [Array.getD_eq_getD_getElem?] at this p2
        cases hq : listed[i]? <;> rw [hq] at this p2 <;> simp_all
      have ha := hap j gj lj e1 hji o2 hedge
      obtain ⟨a1, a2⟩ := apartG_spec ha
      have e2' : valD Γ lj gj t s = some (vj, s') := by
        rw [← e2]
        exact valD_congr (fun n hn => (upd_read (fun x hx => (a1 x hx).1) n hn).symm) s
      obtain ⟨q1, q2⟩ := hI listed t s j gj lj vj s' hIl hSt hj hji e1 ha e2'
      refine ⟨gj, lj, vj, s', e1, e2', ih _ _ _ q1 q2 (ready_set hr hji) ?_ ?_⟩
      · intro k gk lk hk hki hkl hke
        by_cases hjk : j = k
        · subst hjk
          rw [e1] at hk
          cases hk
          exact ha
        · rw [getD_set hjk] at hkl
          exact hap k gk lk hk hki hkl hke
      · rw [← upd_comm (fun x hx => (a1 x hx).2)]
        rw [Array.setIfInBounds_comm _ _ hji]
        exact e3
end Go.Proofs.Ytedampaecopkhaa
