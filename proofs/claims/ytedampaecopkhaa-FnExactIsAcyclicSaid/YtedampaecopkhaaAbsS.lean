/- Functions: entry, result. -/
import Derived.Test.YtedampaecopkhaaAbsR
namespace Go.Proofs.Ytedampaecopkhaa
open Go Go.RowKit

def compRV (P : Program) : ResultVar → Option (Nat × Option Nat)
  | .tmp t => some (t, none)
  | .cell a t => match aggB P t, P.info? t with
    | some true, some i => some (a, some i.size)
    | _, _ => none
def compRVs (P : Program) : List ResultVar → Option (List (Nat × Option Nat))
  | [] => some []
  | r :: rs => match compRV P r, compRVs P rs with
    | some x, some xs => some (x :: xs)
    | _, _ => none
/-- A function's slim code: its slots, its code, its results. -/
def fnCode (P : Program) (lends : List FuncId) (f : FuncId) : Option (Nat × SC × List (Nat × Option Nat)) :=
  match P.funcs[f]? with
  | some fd => if fd.name == "runtime.NumGoroutine" then none else match fd.body with
    | some c => match compC P fd.ntmps lends c, compRVs P fd.results.toList with
      | some sc, some rs => some (fd.ntmps, sc, rs)
      | _, _ => none
    | none => none
  | none => none

def initT : Nat → List V → Tm
  | _, [] => []
  | k, v :: vs => (k, v) :: initT (k + 1) vs

/-- The results' values. -/
def resV (l : Tm) (s : Hp) : List (Nat × Option Nat) → Option (List V)
  | [] => some []
  | (t, none) :: rs => (resV l s rs).map (tget l t :: ·)
  | (t, some k) :: rs => match tget l t with
    | .pt n off => match hget s.1 n with
      | some cells => if off + k ≤ cells.length ∧ ((cells.drop off).take k).all V.cell = true then (resV l s rs).map (.agg ((cells.drop off).take k) :: ·) else none
      | none => none
    | _ => none
def resOf : List V → V
  | [v] => v
  | vs => .tup vs

/-- The value 'v' with its rows is 'r'. -/
def mtL (f : List (Nat × List V) → V → V → (List (Nat × List V) → Prop) → Prop) : List (Nat × List V) → List V → List V → (List (Nat × List V) → Prop) → Prop
  | H, [], [], K => K H
  | H, v :: vs, r :: rs, K => f H v r fun H' => mtL f H' vs rs K
  | _, _, _, _ => False
def mt1 (k0 : Nat) (H : List (Nat × List V)) (v r : V) (K : List (Nat × List V) → Prop) : Prop :=
  match v, r with
  | .sl n sz' off len, .own sz cells => match hget H n with
    | some cs => k0 ≤ n ∧ sz = sz' ∧ off + len * sz ≤ cs.length ∧ (cs.drop off).take (len * sz) = cells ∧ cells.all (nonm 6) = true ∧ K (hdel H n)
    | none => False
  | .nil, .own _ cells => cells = [] ∧ K H
  | .sl n sz off len, .sl n' sz' off' len' => n = n' ∧ n < k0 ∧ sz = sz' ∧ off = off' ∧ len = len' ∧ K H
  | .pt n off, .pt n' off' => n = n' ∧ n < k0 ∧ off = off' ∧ K H
  | v, r => v = r ∧ nonm 6 r = true ∧ K H
def mt2 (k0 : Nat) (H : List (Nat × List V)) (v r : V) (K : List (Nat × List V) → Prop) : Prop :=
  match v, r with
  | .agg vs, .agg rs => mtL (mt1 k0) H vs rs K
  | v, r => mt1 k0 H v r K
def mt (k0 : Nat) (H : List (Nat × List V)) (v r : V) (K : List (Nat × List V) → Prop) : Prop :=
  match v, r with
  | .tup vs, .tup rs => mtL (mt2 k0) H vs rs K
  | v, r => mt2 k0 H v r K

/-- Behind the code: the result is 'r', the rows that are left are as 'K' says. -/
def retE (k0 : Nat) (rvs : List (Nat × Option Nat)) (r : V) (K : List (Nat × List V) → Prop) : Post := fun e l s =>
  match e with
  | .ret | .normal => match resV l s rvs with
    | some vs => mt k0 s.1 (resOf vs) r K
    | none => False
  | _ => False

/-- What is known of arguments from their memory. -/
def bnd : Nat → V → Prop
  | 0, _ => True
  | k + 1, .list sz cells => cells.length ≤ 9223372036854775807 * sz ∧ ∀ x ∈ cells, bnd k x
  | k + 1, .agg ps => ∀ x ∈ ps, bnd k x
  | k + 1, .rp ps => ∀ x ∈ ps, bnd k x
  | k + 1, .fn _ ps => ∀ x ∈ ps, bnd k x
  | _ + 1, _ => True

section
variable {N : Nm} {U : Nat → Prop} {w : World}
theorem bnd_ok : ∀ (k : Nat) (v : V) (c : Value) (F : List Nat), RV N U w v c F → bnd k v := by
  intro k
  induction k with
  | zero => intro v c F _; trivial
  | succ k ih =>
    intro v c F h
    have sub : ∀ (vs : List V) (cs : List Value) (G : List Nat), RVs N U w vs cs G → ∀ x ∈ vs, bnd k x := by
      intro vs cs G hv x hx
      obtain ⟨j, hj⟩ := List.getElem?_of_mem hx
      obtain ⟨c', Fj, A, B, _, h2, _⟩ := hv.get hj
      exact ih x c' Fj h2
    cases h <;> try trivial
    case listE => exact ⟨by simp, by simp⟩
    case list sz cells b o len cap cs hU hl hlc hm hz hc hv =>
      refine ⟨?_, sub _ _ _ hv⟩
      rw [hl]
      exact Nat.mul_le_mul_right _ (by simp only [maxLen] at hm; omega)
    case agg hv => exact sub _ _ _ hv
    case rp cells b o cs hU hc hv => exact sub _ _ _ hv
    case fn hv => exact sub _ _ _ hv

/-- What 'mt' gives. -/
def MtOk (k0 : Nat) (N : Nm) (U : Nat → Prop) (w : World) (T : List Nat) (r : V) (c : Value) (K : List (Nat × List V) → Prop) : Prop :=
  ∃ F T' H', RV (fun n => if n < k0 then N n else none) U w r c F ∧ RH N U w H' T' ∧ (∃ D, (F ++ T' ++ D).Perm T) ∧ K H'
def MtsOk (k0 : Nat) (N : Nm) (U : Nat → Prop) (w : World) (T : List Nat) (rs : List V) (cs : List Value) (K : List (Nat × List V) → Prop) : Prop :=
  ∃ F T' H', RVs (fun n => if n < k0 then N n else none) U w rs cs F ∧ RH N U w H' T' ∧ (∃ D, (F ++ T' ++ D).Perm T) ∧ K H'
theorem mtL_ok {k0 : Nat} {f : List (Nat × List V) → V → V → (List (Nat × List V) → Prop) → Prop}
    (hf : ∀ H T v r c K, f H v r K → RV N U w v c [] → RH N U w H T → MtOk k0 N U w T r c K) :
    ∀ (vs rs : List V) (H : List (Nat × List V)) (T : List Nat) (cs : List Value) (K : List (Nat × List V) → Prop), mtL f H vs rs K → RVs N U w vs cs [] → RH N U w H T → MtsOk k0 N U w T rs cs K := by
  intro vs
  induction vs with
  | nil =>
    intro rs H T cs K h hv hh
    cases rs with
    | nil => cases hv; exact ⟨[], T, H, .nil, hh, ⟨[], by simp⟩, h⟩
    | cons r rs => exact h.elim
  | cons v vs ih =>
    intro rs H T cs K h hv hh
    cases rs with
    | nil => exact h.elim
    | cons r rs =>
      cases hv with
      | cons _ _ c cs F Fs _ h1 h2 hE =>
        have e : F = [] ∧ Fs = [] := by simpa using hE.symm
        obtain ⟨rfl, rfl⟩ := e
        obtain ⟨F1, T1, H1, a1, a2, ⟨D1, a3⟩, a4⟩ := hf H T v r c _ h h1 hh
        obtain ⟨F2, T2, H2, b1, b2, ⟨D2, b3⟩, b4⟩ := ih rs H1 T1 cs K a4 h2 a2
        refine ⟨F1 ++ F2, T2, H2, .cons _ _ _ _ F1 F2 _ a1 b1 rfl, b2, ⟨D2 ++ D1, ?_⟩, b4⟩
        have p1 : (F1 ++ F2 ++ T2 ++ (D2 ++ D1)) = F1 ++ (F2 ++ T2 ++ D2) ++ D1 := by simp
        rw [p1]
        exact ((b3.append_left F1).append_right D1).trans a3
theorem mt1_ok {k0 : Nat} (H : List (Nat × List V)) (T : List Nat) (v r : V) (c : Value) (K : List (Nat × List V) → Prop) (h : mt1 k0 H v r K) (hv : RV N U w v c []) (hh : RH N U w H T) : MtOk k0 N U w T r c K := by
  have other : v = r ∧ nonm 6 r = true ∧ K H → MtOk k0 N U w T r c K := by
    rintro ⟨rfl, h1, h2⟩
    exact ⟨[], T, H, nonm_ok (fun _ h => h) 6 _ _ _ h1 hv, hh, ⟨[], by simp⟩, h2⟩
  unfold mt1 at h
  split at h
  · rename_i n sz' off len sz cells
    split at h
    · rename_i cs hg
      obtain ⟨hk, rfl, hle, rfl, hnm, hK⟩ := h
      obtain ⟨X, T1, d1, d2, d3⟩ := hh.del hg
      cases hv with
      | slE _ _ hn =>
        simp only [Nat.zero_mul, List.take_zero] at hnm ⊢
        exact ⟨[], T1, _, .ownE _, d2, ⟨X, by simpa using (List.perm_append_comm).trans d3.symm⟩, hK⟩
      | slZ _ _ _ b base o arr e fz hn hb ho hz =>
        rcases d1 with ⟨g1, _⟩ | ⟨b', base', arr', e', cs', F, g1, g2, g3, g4, rfl⟩
        · rw [hn] at g1; simp at g1
        · rw [hn] at g1
          simp at g1
          obtain ⟨rfl, rfl⟩ := g1
          rw [hb] at g2
          simp at g2
          obtain ⟨rfl, rfl, rfl⟩ := g2
          simp only [Nat.zero_mul, List.take_zero] at hnm ⊢
          refine ⟨[b], T1, _, .own sz [] b o 0 0 arr e [] [] _ hb (by simp) (by omega) (Nat.le_refl _) (by simp [maxLen]) hz (by simp) .nil rfl, d2, ⟨F, ?_⟩, hK⟩
          have : ([b] ++ T1 ++ F).Perm (b :: F ++ T1) := by
            simp only [List.cons_append]
            exact List.Perm.cons _ List.perm_append_comm
          exact this.trans d3.symm
      | sl _ _ _ _ b base cap arr e fz hn hb hs hlc hm hz =>
        rcases d1 with ⟨g1, _⟩ | ⟨b', base', arr', e', cs', F, g1, g2, g3, g4, rfl⟩
        · rw [hn] at g1; simp at g1
        · rw [hn] at g1
          simp at g1
          obtain ⟨rfl, rfl⟩ := g1
          rw [hb] at g2
          simp at g2
          obtain ⟨rfl, rfl, rfl⟩ := g2
          obtain ⟨ms, G, m1, m2, m3, m4⟩ := g4.mid hle
          have hGm : ∃ D, (G ++ D).Perm F := by
            clear g4 m1 d3
            induction m2 with
            | slnil => exact ⟨[], by simp⟩
            | cons x _ ih => obtain ⟨D, hD⟩ := ih; exact ⟨x :: D, (List.perm_middle).trans (hD.cons x)⟩
            | cons_cons x _ ih => obtain ⟨D, hD⟩ := ih; exact ⟨D, by simpa using hD.cons x⟩
          obtain ⟨D, hD⟩ := hGm
          refine ⟨b :: G, T1, _, .own sz _ b (base + off) len cap arr e ms G _ hb (by rw [List.length_take, List.length_drop]; omega) (by omega) hlc hm hz (fun j c hj => by rw [Nat.add_assoc]; exact g3 _ c (m3 j c hj))
            (m1.mapN fun v c G' hmem hr => nonm_ok (fun _ h => h) 6 v c G' (List.all_eq_true.1 hnm v hmem) hr) rfl, d2, ⟨D, ?_⟩, hK⟩
          refine List.Perm.trans ?_ d3.symm
          simp only [List.cons_append]
          refine List.Perm.cons _ ?_
          have p1 : (G ++ T1 ++ D).Perm (G ++ D ++ T1) := by
            rw [List.append_assoc, List.append_assoc]
            exact List.perm_append_comm.append_left G
          exact p1.trans (hD.append_right T1)
    · exact h.elim
  · rename_i sz cells
    obtain ⟨rfl, hK⟩ := h
    cases hv
    exact ⟨[], T, H, .ownE _, hh, ⟨[], by simp⟩, hK⟩
  · rename_i n sz off len n' sz' off' len'
    obtain ⟨rfl, hk, rfl, rfl, rfl, hK⟩ := h
    have nm : ∀ {l : Loc}, N n = some l → (fun m => if m < k0 then N m else none : Nm) n = some l := fun h => by simp [hk, h]
    refine ⟨[], T, H, ?_, hh, ⟨[], by simp⟩, hK⟩
    cases hv with
    | sl _ _ _ _ b base cap arr e fz hn hb hs hlc hm hz => exact .sl _ _ _ _ b base cap arr e fz (nm hn) hb hs hlc hm hz
    | slE _ _ hn => exact .slE _ _ (nm hn)
    | slZ _ _ _ b base o arr e fz hn hb ho hz => exact .slZ _ _ _ b base o arr e fz (nm hn) hb ho hz
  · rename_i n off n' off'
    obtain ⟨rfl, hk, rfl, hK⟩ := h
    refine ⟨[], T, H, ?_, hh, ⟨[], by simp⟩, hK⟩
    cases hv with
    | pt _ _ b base hn => exact .pt _ _ b base (by simp [hk, hn])
  · exact other h
theorem mt2_ok {k0 : Nat} (H : List (Nat × List V)) (T : List Nat) (v r : V) (c : Value) (K : List (Nat × List V) → Prop) (h : mt2 k0 H v r K) (hv : RV N U w v c []) (hh : RH N U w H T) : MtOk k0 N U w T r c K := by
  unfold mt2 at h
  split at h
  · cases hv with
    | agg _ cs _ hv =>
      obtain ⟨F, T', H', a1, a2, a3, a4⟩ := mtL_ok (fun H T v r c K => mt1_ok H T v r c K) _ _ H T cs K h hv hh
      exact ⟨F, T', H', .agg _ cs F a1, a2, a3, a4⟩
  · exact mt1_ok H T _ _ c K h hv hh
theorem mt_ok {k0 : Nat} (H : List (Nat × List V)) (T : List Nat) (v r : V) (c : Value) (K : List (Nat × List V) → Prop) (h : mt k0 H v r K) (hv : RV N U w v c []) (hh : RH N U w H T) : MtOk k0 N U w T r c K := by
  unfold mt at h
  split at h
  · cases hv with
    | tup _ cs _ hv =>
      obtain ⟨F, T', H', a1, a2, a3, a4⟩ := mtL_ok (fun H T v r c K => mt2_ok H T v r c K) _ _ H T cs K h hv hh
      exact ⟨F, T', H', .tup _ cs F a1, a2, a3, a4⟩
  · exact mt2_ok H T _ _ c K h hv hh
end
section
variable {C : Ctx}
def rvSem (tmps : Array Value) : ResultVar → Sem Value
  | .tmp t => pure (tmps.getD t Go.undef)
  | .cell x t => do loadVar t (← asAddr (tmps.getD x Go.undef))
theorem resV_ok {P : Program} {l : Tm} {s : Hp} {N : Nm} {U : Nat → Prop} {T : List Nat} {a : Act} {w : World} (hs : Slots N U w (tget l) a) (hh : RH N U w s.1 T) : ∀ (rs : List ResultVar) (rvs : List (Nat × Option Nat)) (vs : List V), compRVs P rs = some rvs → resV l s rvs = some vs →
    ∃ cs : List Value, (rs.mapM (rvSem a.tmps)).run P w = .ok cs w ∧ RVs N U w vs cs [] := by
  intro rs
  induction rs with
  | nil => intro rvs vs hc hv; simp [compRVs] at hc; subst hc; simp [resV] at hv; subst hv; exact ⟨[], rfl, .nil⟩
  | cons r rs ih =>
    intro rvs vs hc hv
    unfold compRVs at hc
    split at hc
    · rename_i x xs h1 h2
      simp only [Option.some.injEq] at hc
      subst hc
      cases r with
      | tmp t =>
        simp only [compRV, Option.some.injEq] at h1
        subst h1
        simp only [resV] at hv
        obtain ⟨vs', h3, rfl⟩ := opt_map hv
        obtain ⟨cs, e1, e2⟩ := ih xs vs' h2 h3
        refine ⟨_ :: cs, ?_, .cons _ _ _ _ [] [] _ (hs t) e2 rfl⟩
        rw [List.mapM_cons]
        simp only [Sem.run_bind, rvSem, Sem.run_pure, Result.andThen_ok]
        rw [e1]
        rfl
      | cell x t =>
        simp only [compRV] at h1
        split at h1
        · rename_i i ha hi
          simp only [Option.some.injEq] at h1
          subst h1
          simp only [resV] at hv
          split at hv
          · rename_i n off hx
            split at hv
            · rename_i cells hg
              split at hv
              · rename_i hcond
                obtain ⟨vs', h3, rfl⟩ := opt_map hv
                obtain ⟨cs, e1, e2⟩ := ih xs vs' h2 h3
                have hp := hs x
                rw [hx] at hp
                obtain ⟨c, r1, r2⟩ := ldn_run_pt (P := P) ha hi hh hg hp hcond.1 hcond.2
                obtain ⟨b, base, _, _, hcx, _⟩ := pt_cells hh hg hp
                refine ⟨c :: cs, ?_, .cons _ _ _ _ [] [] _ r2 e2 rfl⟩
                rw [hcx] at r1
                rw [List.mapM_cons]
                simp only [Instr.loadAt, Instr.sureAddr, Sem.run_bind, Sem.run_pure, Result.andThen_ok] at r1
                have r3 : (rvSem a.tmps (.cell x t)).run P w = .ok c w := by
                  simp only [rvSem, Sem.run_bind, hcx, asAddr, Sem.run_pure, Result.andThen_ok, r1]
                simp only [Sem.run_bind, r3, Result.andThen_ok, e1, Sem.run_pure]
              · simp at hv
            · simp at hv
          · simp at hv
        · simp at h1
    · simp at hc
theorem resOf_ok {N : Nm} {U : Nat → Prop} {w : World} {vs : List V} {cs : List Value} (h : RVs N U w vs cs []) : RV N U w (resOf vs) (if h : cs.toArray.size = 1 then cs.toArray[0] else .tuple cs.toArray) [] := by
  cases h with
  | nil => simp only [resOf]; exact .tup [] [] [] .nil
  | cons v vs c cs F Fs _ h1 h2 hE =>
    have e : F = [] ∧ Fs = [] := by simpa using hE.symm
    obtain ⟨rfl, rfl⟩ := e
    cases h2 with
    | nil => simpa [resOf] using h1
    | cons v2 vs c2 cs F2 Fs2 _ h3 h4 hE2 =>
      have e : F2 = [] ∧ Fs2 = [] := by simpa using hE2.symm
      obtain ⟨rfl, rfl⟩ := e
      rw [dif_neg (by simp)]
      exact .tup _ (c :: c2 :: cs) [] (.cons _ _ _ _ [] [] _ h1 (.cons _ _ _ _ [] [] _ h3 h4 rfl) rfl)
theorem results_run {P : Program} {fd : Func} {tmps : Array Value} {w : World} {cs : List Value}
    (h : (fd.results.toList.mapM (rvSem tmps)).run P w = .ok cs w) :
    (results fd tmps).run P w = .ok (if h : cs.toArray.size = 1 then cs.toArray[0] else .tuple cs.toArray) w := by
  have e : results fd tmps = (fd.results.mapM (rvSem tmps) >>= fun vs => pure (if h : vs.size = 1 then vs[0] else .tuple vs)) := by
    unfold results
    congr
  rw [e, Array.mapM_eq_mapM_toList]
  simp only [Sem.run_bind, Sem.run_map, h, Result.andThen_ok, Sem.run_pure]

theorem initT_get : ∀ (args : List V) (k i : Nat), tget (initT k args) i = if k ≤ i then (args[i - k]?).getD .undef else .undef := by
  intro args
  induction args with
  | nil => intro k i; simp [initT, tget]
  | cons v vs ih =>
    intro k i
    simp only [initT, tget]
    split
    · rename_i h; subst h; simp
    · rename_i h
      rw [ih]
      by_cases h1 : k ≤ i
      · rw [if_pos h1, if_pos (by omega), show i - k = (i - (k + 1)) + 1 by omega, List.getElem?_cons_succ]
      · rw [if_neg h1, if_neg (by omega)]
theorem init_slots {N : Nm} {U : Nat → Prop} {w : World} {args : List V} {cargs : List Value} (h : RVs N U w args cargs []) {nt : Nat} (d : List Deferred) :
    Slots N U w (tget (initT 0 args)) { tmps := cargs.toArray ++ Array.replicate (nt - cargs.toArray.size) Go.undef, defers := d } := by
  intro i
  rw [initT_get, if_pos (Nat.zero_le _), Nat.sub_zero]
  cases hi : args[i]? with
  | none => exact .undef _
  | some v =>
    obtain ⟨c, h1, h2⟩ := h.get0 hi
    have hlt := (List.getElem?_eq_some_iff.1 h1).1
    have : ({ tmps := cargs.toArray ++ Array.replicate (nt - cargs.toArray.size) Go.undef, defers := d } : Act).tmps.getD i Go.undef = c := by
      simp only [Array.getD_eq_getD_getElem?]
      rw [Array.getElem?_append_left (by simpa using hlt)]
      simp [h1]
    rw [this]
    exact h2

theorem fnCode_inv {P : Program} {lends : List FuncId} {f : FuncId} {nt : Nat} {sc : SC} {rvs : List (Nat × Option Nat)} (h : fnCode P lends f = some (nt, sc, rvs)) :
    ∃ fd c, P.funcs[f]? = some fd ∧ fd.body = some c ∧ (fd.name == "runtime.NumGoroutine") = false ∧ fd.ntmps = nt ∧ compC P nt lends c = some sc ∧ compRVs P fd.results.toList = some rvs := by
  unfold fnCode at h
  split at h
  · rename_i fd hf
    split at h
    · simp at h
    · rename_i hn
      split at h
      · rename_i c hb
        split at h
        · rename_i sc' rs' h1 h2
          simp only [Option.some.injEq, Prod.mk.injEq] at h
          obtain ⟨rfl, rfl, rfl⟩ := h
          exact ⟨fd, c, hf, hb, by simpa using hn, rfl, h1, h2⟩
        · simp at h
      · simp at h
  · simp at h

/-- A function that only reads, out of its verification condition. -/
theorem fn_ok {P : Program} {f : FuncId} {nt : Nat} {sc : SC} {rvs : List (Nat × Option Nat)} {lends : List FuncId} (hc : fnCode P lends f = some (nt, sc, rvs)) (hm : P.follows .mixedOrders = true) {Γ : Env} (hΓ : EnvOk P Γ) {F : List V → Option V}
    (h : ∀ args r, F args = some r → (∀ a ∈ args, bnd 6 a) → args.length ≤ nt ∧ ∀ w0 U0 L0 N0, vc ⟨P, w0, U0, L0, N0, 0, nt⟩ Γ lends sc (retE 0 rvs r fun _ => True) (initT 0 args) ([], 0)) : FnOk P f F := by
  obtain ⟨fd, c, hf, hb, hname, hnt, h1, h2⟩ := fnCode_inv hc
  refine ⟨⟨fd, hf, by simp [hb], hname⟩, ?_⟩
  intro args r hF U w cargs hU hargs
  have hbnd : ∀ a ∈ args, bnd 6 a := by
    intro x hx
    obtain ⟨j, hj⟩ := List.getElem?_of_mem hx
    obtain ⟨c', g1, g2⟩ := hargs.get0 hj
    exact bnd_ok 6 x c' [] g2
  obtain ⟨hlen, hvc⟩ := h args r hF hbnd
  have hv := hvc w U [] (fun _ => none)
  have hw := vc_ok (C := ⟨P, w, U, [], fun _ => none, 0, nt⟩) hΓ hm lends c sc _ _ _ h1 hv
  refine calls_of_wp hf hb ?_
  rw [hnt]
  have hcl := hargs.len
  have hst : Ctx.St ⟨P, w, U, [], fun _ => none, 0, nt⟩ (initT 0 args) ([], 0) { tmps := cargs.toArray ++ Array.replicate (nt - cargs.toArray.size) Go.undef, defers := [] } w := by
    refine ⟨fun _ => none, [], ?_, rfl, ?_, .nil, List.nodup_nil, by simp, KeepBut.refl _ _, fun _ _ => rfl, fun _ _ => rfl, Nat.le_refl _, by simp⟩
    · simp; omega
    · refine init_slots ?_ []
      exact hargs.kept ⟨fun b hb => ⟨rfl, hU b hb, by simp, .inl hb⟩, fun _ _ h => h, fun _ _ _ _ => SameAt.shape rfl⟩ (by simp)
  refine wp_mono (hw _ w hst) ?_
  rintro e a' w' ⟨l', s', hq, N, T, hr⟩
  have fin : (match resV l' s' rvs with
      | some vs => mt 0 s'.1 (resOf vs) r fun _ => True
      | none => False) → a'.defers = [] ∧ ∃ v, (results fd a'.tmps).run P w' = .ok v w' ∧ ∃ c F, Ending.returned v = .returned c ∧ Fresh w w' F ∧ RV (fun _ => none) (Uf U w w' F) w' r c F ∧ Below w.heap.size w w' := by
    intro hq
    split at hq
    · rename_i vs hvs
      obtain ⟨cs, e1, e2⟩ := resV_ok (P := P) hr.sl hr.hp _ _ _ h2 hvs
      obtain ⟨Fp, T', H', m1, _, ⟨D, m2⟩, _⟩ := mt_ok s'.1 T _ _ _ _ hq (resOf_ok e2) hr.hp
      have hsub : ∀ x ∈ Fp, x ∈ T := fun x hx => m2.mem_iff.1 (by simp [hx])
      have hTlt := RH.lt hr.hp
      refine ⟨hr.dfr, _, results_run e1, _, Fp, rfl, ⟨?_, fun x hx => ⟨?_, hTlt x (hsub x hx)⟩⟩, ?_, ?_⟩
      · have := m2.nodup_iff.2 hr.nd
        exact (List.nodup_append.1 (List.nodup_append.1 this).1).1
      · have := hr.own x (hsub x hx)
        simpa using this
      · refine m1.kept ⟨fun b hbU => ⟨rfl, ?_⟩, fun n l hn => by simp at hn, fun _ _ _ _ => SameAt.shape rfl⟩ (fun _ _ => rfl)
        obtain ⟨u1, u2, u3⟩ := hbU
        rcases u3 with u3 | u3
        · exact .inl u3
        · exact .inr ⟨u3, u1, fun hx => u2 (hsub b hx)⟩
      · exact ⟨hr.fr.os, hr.fr.tape, hr.fr.output, hr.fr.size, fun k hk => hr.fr.block k hk (by simp)⟩
    · exact hq.elim
  cases e with
  | normal => exact fin hq
  | ret => exact fin hq
  | _ => exact hq.elim
end
end Go.Proofs.Ytedampaecopkhaa
