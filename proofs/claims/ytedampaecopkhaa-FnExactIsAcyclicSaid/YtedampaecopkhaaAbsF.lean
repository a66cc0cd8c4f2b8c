/- Names looked up; calls of functions that only read; one theorem for all quiet operations. -/
import Derived.Test.YtedampaecopkhaaAbsE
namespace Go.Proofs.Ytedampaecopkhaa
open Go Go.RowKit

section dr
variable {N : Nm} {U U' : Nat → Prop} {w : World}
theorem RVs.mapD {g : V → V} {vs : List V} {cs : List Value} {F : List Nat} (h : RVs N U w vs cs F) (hg : ∀ v c G, v ∈ vs → RV N U w v c G → (∀ b ∈ G, b ∈ F) → RV (fun _ => none) U' w (g v) c []) : RVs (fun _ => none) U' w (vs.map g) cs [] := by
  induction vs generalizing cs F with
  | nil => cases h; exact .nil
  | cons v vs ih =>
    cases h with
    | cons _ _ c cs F Fs _ h hs hE =>
      subst hE
      exact .cons _ _ _ _ [] [] _ (hg _ _ _ (by simp) h (fun b hb => by simp [hb])) (ih hs (fun v c G hv hr hsub => hg v c G (by simp [hv]) hr (fun b hb => by simp [hsub b hb]))) rfl
theorem heap_lt {b : Nat} {o : Obj} (h : w.heap[b]? = some o) : b < w.heap.size := (Array.getElem?_eq_some_iff.1 h).1
theorem dr_ok {H : List (Nat × List V)} {T : List Nat} (hh : RH N U w H T) (hU : ∀ b, U b → U' b) : ∀ (k : Nat) (v : V) (c : Value) (F : List Nat),
    (((∀ b ∈ T, U' b) ∧ (∀ b ∈ F, U' b)) ∨ noname k v = true) → RV N U w v c F → RV (fun _ => none) U' w (dr H k v) c [] := by
  intro k
  induction k with
  | zero => intro v c F _ _; exact .undef _
  | succ k ih =>
    intro v c F hn h
    have sub : ∀ (cells : List V) (cs : List Value) (G : List Nat), (((∀ b ∈ T, U' b) ∧ (∀ b ∈ G, U' b)) ∨ cells.all (noname k) = true) → RVs N U w cells cs G → RVs (fun _ => none) U' w (cells.map (dr H k)) cs [] := by
      intro cells cs G hc hv
      refine hv.mapD fun v c G' hm hr hsub => ih v c G' ?_ hr
      rcases hc with hc | hc
      · exact .inl ⟨hc.1, fun b hb => hc.2 b (hsub b hb)⟩
      · exact .inr (List.all_eq_true.1 hc v hm)
    cases h with
    | undef => exact .undef _
    | int => exact .int _ _
    | bool => exact .bool _
    | str => exact .str _
    | nil => exact .listE _ _ _
    | listE => exact .listE _ _ _
    | list sz cells b o len cap cs hUb hl hlc hm hz hc hv =>
      exact .list sz _ b o len cap cs (hU b hUb) (by simpa using hl) hlc hm hz hc (sub cells cs [] (hn.imp (fun h => ⟨h.1, by simp⟩) (fun h => by simpa [noname] using h)) hv)
    | ownE => exact .listE _ _ _
    | own sz cells b o len cap arr e cs F FF hb hl hs hlc hm hz hc hv hF =>
      rcases hn with hn | hn
      · subst hF
        refine .list sz _ b o len cap cs (hn.2 b (by simp)) (by simpa using hl) hlc (by omega) hz (fun j c hj => by rw [cell_of_arr hb]; exact hc j c hj) (sub cells cs F (.inl ⟨hn.1, fun x hx => hn.2 x (by simp [hx])⟩) hv)
      · simp [noname] at hn
    | agg parts cs F hv => exact .agg _ cs [] (sub parts cs F (hn.imp id (fun h => by simpa [noname] using h)) hv)
    | tup parts cs F hv => exact .undef _
    | sl n sz off len b base cap arr e fz hN hb hs hlc hm hz =>
      rcases hn with hn | hn
      · simp only [dr]
        split
        · rename_i cells hg
          split
          · rename_i hle
            rcases hh.get hg with ⟨h1, _⟩ | ⟨b', base', arr', e', cs, F, A, B, h1, h2, h3, h4, h5⟩
            · rw [hN] at h1; simp at h1
            · rw [hN] at h1
              simp at h1
              obtain ⟨rfl, rfl⟩ := h1
              have e0 : cells = cells.take off ++ ((cells.drop off).take (len * sz) ++ (cells.drop off).drop (len * sz)) := by rw [List.take_append_drop, List.take_append_drop]
              have h4' := h4
              rw [e0] at h4'
              obtain ⟨c1, c2, F1, F2, rfl, rfl, g1, g2⟩ := h4'.split
              obtain ⟨c3, c4, F3, F4, rfl, rfl, g3, g4⟩ := g2.split
              have l1 := g1.len
              rw [List.length_take] at l1
              have hbT : b ∈ T := by rw [h5]; simp
              have hF3 : ∀ x ∈ F3, U' x := fun x hx => hn.1 x (by rw [h5]; simp [hx])
              refine .list sz _ b (base + off) len cap c3 (hn.1 b hbT) (by simp; omega) hlc (by omega) hz (fun j c hj => ?_) (sub _ c3 F3 (.inl ⟨hn.1, hF3⟩) g3)
              rw [cell_of_arr h2, Nat.add_assoc]
              refine h3 (off + j) c ?_
              rw [List.getElem?_append_right (by omega), List.getElem?_append_left (by have := (List.getElem?_eq_some_iff.1 hj).1; omega)]
              rw [show off + j - c1.length = j by omega]; exact hj
          · exact .undef _
        · exact .undef _
      · simp [noname] at hn
    | slE n sz hN =>
      simp only [dr]
      split
      · split
        · simp only [Nat.zero_mul, List.take_zero, List.map_nil]; exact .listE _ _ _
        · exact .undef _
      · exact .undef _
    | slZ n sz off b base o arr e fz hN hb ho hz =>
      simp only [dr]
      split
      · split
        · simp only [Nat.zero_mul, List.take_zero, List.map_nil]; exact .listE _ _ _
        · exact .undef _
      · exact .undef _
    | pt n off b base hN =>
      rcases hn with hn | hn
      · simp only [dr]
        split
        · rename_i cells hg
          rcases hh.get hg with ⟨h1, _⟩ | ⟨b', base', arr', e', cs, F, A, B, h1, h2, h3, h4, h5⟩
          · rw [hN] at h1; simp at h1
          · rw [hN] at h1
            simp at h1
            obtain ⟨rfl, rfl⟩ := h1
            have h4' := h4
            rw [← List.take_append_drop off cells] at h4'
            obtain ⟨c1, c2, F1, F2, rfl, rfl, g1, g2⟩ := h4'.split
            have l1 := g1.len
            have l2 := g2.len
            rw [List.length_take] at l1
            rw [List.length_drop] at l2
            have hbT : b ∈ T := by rw [h5]; simp
            have hF2 : ∀ x ∈ F2, U' x := fun x hx => hn.1 x (by rw [h5]; simp [hx])
            refine .rp _ b (base + off) c2 (hn.1 b hbT) (fun j c hj => ?_) (sub _ c2 F2 (.inl ⟨hn.1, hF2⟩) g2)
            rw [cell_of_arr h2, Nat.add_assoc]
            refine h3 (off + j) c ?_
            have := (List.getElem?_eq_some_iff.1 hj).1
            rw [List.getElem?_append_right (by omega), show off + j - c1.length = j by omega]
            exact hj
        · exact .undef _
      · simp [noname] at hn
    | rp cells b o cs hUb hc hv => exact .rp _ b o cs (hU b hUb) hc (sub cells cs [] (hn.imp (fun h => ⟨h.1, by simp⟩) (fun h => by simpa [noname] using h)) hv)
    | fn f caps cs hv => exact .fn f _ cs (sub caps cs [] (hn.imp (fun h => ⟨h.1, by simp⟩) (fun h => by simpa [noname] using h)) hv)

theorem RVs.mapN {N' : Nm} {vs : List V} {cs : List Value} {F : List Nat} (h : RVs N U w vs cs F) (hg : ∀ v c G, v ∈ vs → RV N U w v c G → RV N' U' w v c G) : RVs N' U' w vs cs F := by
  induction vs generalizing cs F with
  | nil => cases h; exact .nil
  | cons v vs ih =>
    cases h with
    | cons _ _ c cs F Fs _ h hs hE => exact .cons _ _ _ _ F Fs _ (hg _ _ _ (by simp) h) (ih hs (fun v c G hv => hg v c G (by simp [hv]))) hE
/-- A value without slices that only read does not care for what may be read. -/
theorem nolist_ok {N' : Nm} (hN : ∀ n l, N n = some l → N' n = some l) : ∀ (k : Nat) (v : V) (c : Value) (F : List Nat), nolist k v = true → RV N U w v c F → RV N' U' w v c F := by
  intro k
  induction k with
  | zero => intro v c F hn h; simp [nolist] at hn
  | succ k ih =>
    intro v c F hn h
    have sub : ∀ (cells : List V), cells.all (nolist k) = true → ∀ (cs : List Value) (G : List Nat), RVs N U w cells cs G → RVs N' U' w cells cs G := by
      intro cells hc cs G hv
      exact hv.mapN fun v c G' hm hr => ih v c G' (List.all_eq_true.1 hc v hm) hr
    cases h with
    | undef => exact .undef _
    | int => exact .int _ _
    | bool => exact .bool _
    | str => exact .str _
    | nil => exact .nil
    | listE => exact .listE _ _ _
    | list => simp [nolist] at hn
    | ownE => exact .ownE _
    | own sz cells b o len cap arr e cs F FF hb hl hs hlc hm hz hc hv hF =>
      exact .own sz cells b o len cap arr e cs F _ hb hl hs hlc hm hz hc (sub cells (by simpa [nolist] using hn) cs F hv) hF
    | agg parts cs F hv => exact .agg _ cs F (sub parts (by simpa [nolist] using hn) cs F hv)
    | tup parts cs F hv => exact .tup _ cs F (sub parts (by simpa [nolist] using hn) cs F hv)
    | sl n sz off len b base cap arr e fz h1 hb hs hlc hm hz => exact .sl n sz off len b base cap arr e fz (hN _ _ h1) hb hs hlc hm hz
    | slE n sz h1 => exact .slE n sz (hN _ _ h1)
    | slZ n sz off b base o arr e fz h1 hb ho hz => exact .slZ n sz off b base o arr e fz (hN _ _ h1) hb ho hz
    | pt n off b base h1 => exact .pt n off b base (hN _ _ h1)
    | rp => simp [nolist] at hn
    | fn => simp [nolist] at hn
end dr

/-- Blocks that are new between two worlds. -/
def Fresh (w w' : World) (F : List Nat) : Prop := F.Nodup ∧ ∀ b ∈ F, w.heap.size ≤ b ∧ b < w'.heap.size
/-- What may be read behind a call: what could be read before, and what is new but for 'F'. -/
def Uf (U : Nat → Prop) (w w' : World) (F : List Nat) : Nat → Prop := fun b => U b ∨ (w.heap.size ≤ b ∧ b < w'.heap.size ∧ b ∉ F)

/-- What a function that only reads makes of its arguments. -/
def Pure (P : Program) (f : FuncId) (args : List V) (r : V) : Prop :=
  ∀ (U : Nat → Prop) (w : World) (cargs : List Value), (∀ b, U b → b < w.heap.size) → RVs (fun _ => none) U w args cargs [] →
    Calls P f cargs.toArray w fun e w' => ∃ c F, e = .returned c ∧ Fresh w w' F ∧ RV (fun _ => none) (Uf U w w' F) w' r c F ∧ Below w.heap.size w w'

def Callable (P : Program) (f : FuncId) : Prop := ∃ fd, P.funcs[f]? = some fd ∧ fd.body.isNone = false ∧ (fd.name == "runtime.NumGoroutine") = false

structure FnOk (P : Program) (f : FuncId) (F : List V → Option V) : Prop where
  fn : Callable P f
  ok : ∀ args r, F args = some r → Pure P f args r

/-- A world that keeps all blocks but some. -/
structure KeepBut (T : List Nat) (w w' : World) : Prop where
  os : w'.os = w.os
  tape : w'.tape = w.tape
  output : w'.output = w.output
  size : w.heap.size ≤ w'.heap.size
  block : ∀ b, b < w.heap.size → b ∉ T → w'.heap[b]? = w.heap[b]?
  shape : ∀ b, b < w.heap.size → ShapeAt w w' b

/-- What a function makes that writes into the row of name 0. -/
def Lend (P : Program) (f : FuncId) (args : List V) (cells : List V) (r : V) (cells' : List V) : Prop :=
  ∀ (l : Loc) (U : Nat → Prop) (w : World) (cargs : List Value) (T : List Nat), (∀ b, U b → b < w.heap.size ∧ b ∉ T) → T.Nodup →
    RVs (fun n => if n = 0 then some l else none) U w args cargs [] → RH (fun n => if n = 0 then some l else none) U w [(0, cells)] T →
    Calls P f cargs.toArray w fun e w' => ∃ c F T', e = .returned c ∧ (F ++ T').Nodup ∧ (∀ b ∈ F ++ T', b ∈ T ∨ (w.heap.size ≤ b ∧ b < w'.heap.size)) ∧
      RV (fun n => if n = 0 then some l else none) (fun b => U b ∨ (w.heap.size ≤ b ∧ b < w'.heap.size ∧ b ∉ F ++ T')) w' r c F ∧
      RH (fun n => if n = 0 then some l else none) (fun b => U b ∨ (w.heap.size ≤ b ∧ b < w'.heap.size ∧ b ∉ F ++ T')) w' [(0, cells')] T' ∧ KeepBut T w w'
structure LendOk (P : Program) (f : FuncId) (i : Nat) (G : List V → List V → Option (V × List V)) : Prop where
  fn : Callable P f
  ok : ∀ args cells r cells', G args cells = some (r, cells') → Lend P f args cells r cells'

structure EnvOk (P : Program) (Γ : Env) : Prop where
  p : ∀ x ∈ Γ.p, FnOk P x.1 x.2
  l : ∀ x ∈ Γ.l, LendOk P x.1 x.2.1 x.2.2
theorem EnvOk.look {P : Program} {Γ : Env} (h : EnvOk P Γ) {f : FuncId} {F : List V → Option V} (he : lookp Γ.p f = some F) : FnOk P f F := by
  have key : ∀ (l : List (FuncId × (List V → Option V))), (∀ x ∈ l, FnOk P x.1 x.2) → lookp l f = some F → FnOk P f F := by
    intro l
    induction l with
    | nil => intro _ hq; simp [lookp] at hq
    | cons x r ih =>
      intro hx hq
      obtain ⟨g, G⟩ := x
      unfold lookp at hq
      split at hq
      · rename_i e; subst e; injection hq with hq; subst hq; exact hx (g, G) (by simp)
      · exact ih (fun y hy => hx y (by simp [hy])) hq
  exact key _ h.p he
theorem EnvOk.lookl {P : Program} {Γ : Env} (h : EnvOk P Γ) {f : FuncId} {i : Nat} {G : List V → List V → Option (V × List V)} (he : lookl Γ.l f = some (i, G)) : LendOk P f i G := by
  have key : ∀ (l : List (FuncId × Nat × (List V → List V → Option (V × List V)))), (∀ x ∈ l, LendOk P x.1 x.2.1 x.2.2) → Go.Proofs.Ytedampaecopkhaa.lookl l f = some (i, G) → LendOk P f i G := by
    intro l
    induction l with
    | nil => intro _ hq; simp [Go.Proofs.Ytedampaecopkhaa.lookl] at hq
    | cons x r ih =>
      intro hx hq
      obtain ⟨g, j, G'⟩ := x
      unfold Go.Proofs.Ytedampaecopkhaa.lookl at hq
      split at hq
      · rename_i e; subst e; injection hq with hq; injection hq with h1 h2; subst h1; subst h2; exact hx (g, j, G') (by simp)
      · exact ih (fun y hy => hx y (by simp [hy])) hq
  exact key _ h.l he
theorem callable_run {P : Program} {f : FuncId} (h : Callable P f) (args : Array Value) (w : World) : (callFunc f args).run P w = .ok (.enter f args) w := by
  obtain ⟨fd, h1, h2, h3⟩ := h
  simp only [callFunc, Sem.run_bind, run_program, Result.andThen_ok, h1]
  simp only [h3, h2, Bool.false_eq_true, if_false]
  rfl
end Go.Proofs.Ytedampaecopkhaa
