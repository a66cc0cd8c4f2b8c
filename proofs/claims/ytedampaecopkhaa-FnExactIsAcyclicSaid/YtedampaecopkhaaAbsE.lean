/- Operations that leave all rows as they are, the rest; one theorem for all of them. -/
import Derived.Test.YtedampaecopkhaaAbsD
namespace Go.Proofs.Ytedampaecopkhaa
open Go Go.RowKit

section ranges
variable {N : Nm} {U : Nat → Prop} {w : World}
theorem setRange_length {α : Type} (l : List α) (o : Nat) (vs : List α) : (setRange l o vs).length = l.length := by
  induction vs generalizing l o with
  | nil => rfl
  | cons v vs ih => simp [setRange, ih]
theorem RVs.setRange {cells : List V} {cs : List Value} {F : List Nat} (h : RVs N U w cells cs F) {vs : List V} {ds : List Value} (hv : RVs N U w vs ds []) {o : Nat} (ho : o + vs.length ≤ cells.length) :
    ∃ G, RVs N U w (setRange cells o vs) (Go.Proofs.Ytedampaecopkhaa.setRange cs o ds) G ∧ List.Sublist G F := by
  induction vs generalizing cells cs F o ds with
  | nil => cases hv; exact ⟨F, h, List.Sublist.refl _⟩
  | cons v vs ih =>
    cases hv with
    | cons _ _ c cs' F' Fs _ h1 hs hE =>
      have e : F' = [] ∧ Fs = [] := by simpa using hE.symm
      obtain ⟨rfl, rfl⟩ := e
      simp only [List.length_cons] at ho
      obtain ⟨A, B, Fj, e1, h2⟩ := h.set (j := o) (by omega) h1
      obtain ⟨G, h3, h4⟩ := ih h2 hs (o := o + 1) (by rw [List.length_set]; omega)
      refine ⟨G, h3, h4.trans ?_⟩
      rw [e1]
      simp
theorem foldl_setRange (ds : List Value) : ∀ (k o : Nat) (cells : Array Value),
    ((ds.zipIdx k).foldl (fun cs (x : Value × Nat) => cs.setIfInBounds (o + x.2) x.1) cells).toList = setRange cells.toList (o + k) ds := by
  induction ds with
  | nil => intro k o cells; rfl
  | cons d ds ih =>
    intro k o cells
    simp only [List.zipIdx_cons, List.foldl_cons, setRange]
    rw [ih (k + 1) o, Array.toList_setIfInBounds]
    rfl
theorem foldlA_setRange (ds : Array Value) (o : Nat) (cells : Array Value) :
    (ds.zipIdx.foldl (fun cs (x : Value × Nat) => cs.setIfInBounds (o + x.2) x.1) cells).toList = setRange cells.toList o ds.toList := by
  have h := foldl_setRange ds.toList 0 o cells
  rw [Nat.add_zero] at h
  rw [← h, ← Array.foldl_toList]
  simp
theorem RV.cells {v : V} {c : Value} (h : RV N U w v c []) (hv : v.cells.all V.cell = true) : RVs N U w v.cells c.cells.toList [] := by
  cases h <;> first
    | (simp [V.cells, V.cell] at hv; done)
    | (simp only [V.cells, Value.cells]; exact .cons _ _ _ _ [] [] _ (by first | exact .int _ _ | exact .bool _ | exact .str _ | exact .nil | (constructor <;> assumption)) .nil rfl)
    | skip
  case agg parts cs h => simpa [V.cells, Value.cells] using h
theorem V.cells_length {v : V} {c : Value} {F : List Nat} (h : RV N U w v c F) (hv : v.cells.all V.cell = true) : c.cells.size = v.cells.length := by
  cases h <;> first
    | (simp [V.cells, V.cell] at hv; done)
    | (simp [V.cells, Value.cells]; done)
    | skip
  case agg parts cs h => simpa [V.cells, Value.cells] using h.len
theorem RVs.cells1 {vs : List V} {cs : List Value} (h : RVs N U w vs cs []) (hv : vs.all V.cell = true) : ∀ c ∈ cs, c.oneCell' = true := (h.cell_nil hv).2

/-- Parts of a composite literal: the model's and ours. -/
inductive PR (N : Nm) (U : Nat → Prop) (w : World) (f : Nat → Option (Nat × Nat)) : List (Nat × Value) → List (Nat × Nat × V) → Prop
  | nil : PR N U w f [] []
  | cons (i : Nat) (c : Value) (o s : Nat) (v : V) (r : List (Nat × Value)) (r' : List (Nat × Nat × V)) (hf : f i = some (o, s)) (h : RV N U w v c []) (hr : PR N U w f r r') :
      PR N U w f ((i, c) :: r) ((o, s, v) :: r')
theorem compParts_ok {f : Nat → Option (Nat × Nat)} {ps : List (Nat × Operand)} {qs : List (Nat × Nat × Opd)} (h : compParts f ps = some qs) {t : Nat → V} {a : Act}
    (hs : ∀ i, RV N U w (t i) (a.tmps.getD i Go.undef) []) : PR N U w f (ps.map fun (i, x) => (i, a.eval x)) (qs.map fun (o, s, x) => (o, s, x.ev t)) := by
  induction ps generalizing qs with
  | nil => simp [compParts] at h; subst h; exact .nil
  | cons p ps ih =>
    obtain ⟨i, x⟩ := p
    unfold compParts at h
    split at h
    · rename_i o s x' xs h1 h2 h3
      simp at h
      subst h
      exact .cons _ _ _ _ _ _ _ h1 (compOpd_ok h2 hs) (ih h3)
    · simp at h
theorem fill_ok {f : Nat → Option (Nat × Nat)} {ps : List (Nat × Value)} {qs : List (Nat × Nat × V)} (h : PR N U w f ps qs) : ∀ {cells : List V} {cs : Array Value} {cells' : List V},
    RVs N U w cells cs.toList [] → fillRange cells qs = some cells' → ∃ cs', Instr.fill f cs ps = some cs' ∧ RVs N U w cells' cs'.toList [] := by
  induction h with
  | nil => intro cells cs cells' hc he; simp [fillRange] at he; subst he; exact ⟨cs, rfl, hc⟩
  | cons i c o s v r r' hf h hr ih =>
    intro cells cs cells' hc he
    unfold fillRange at he
    split at he
    · rename_i hcond
      obtain ⟨h1, h2, h3⟩ := hcond
      have hl := V.cells_length h h3
      have hcl := hc.len
      simp only [Array.length_toList] at hcl
      have hg := h.cells h3
      obtain ⟨G, g1, g2⟩ := hc.setRange hg (o := o) (by omega)
      have : G = [] := List.eq_nil_of_length_eq_zero (by have := g2.length_le; simpa using this)
      subst this
      rw [← foldlA_setRange] at g1
      obtain ⟨cs', e1, e2⟩ := ih g1 he
      refine ⟨cs', ?_, e2⟩
      unfold Instr.fill
      simp only [hf]
      rw [if_neg (by simp [hl, h1]; omega)]
      exact e1
    · simp at he
end ranges
end Go.Proofs.Ytedampaecopkhaa
