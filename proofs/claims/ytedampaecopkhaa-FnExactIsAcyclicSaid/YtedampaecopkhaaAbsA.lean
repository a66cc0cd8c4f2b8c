/- Values as pure data, the relation to the model's values, and how it is kept when the world grows. -/
import Derived.Calls
import Derived.Below
import Derived.Laws.AppendOwn
import Derived.Laws.Entries
import Derived.Laws.MakeOwn
namespace Go.Proofs.Ytedampaecopkhaa
open Go

/-- Pure data. 'list': a slice that nobody writes any more; 'own': a slice that owns its row; 'sl', 'pt': a slice, a pointer into a row that has a name; 'rp': a pointer that is only read. -/
inductive V where
  | undef
  | int (k : IntKind) (n : Int)
  | bool (b : Bool)
  | str (s : ByteArray)
  | nil
  | list (sz : Nat) (cells : List V)
  | own (sz : Nat) (cells : List V)
  | agg (parts : List V)
  | tup (parts : List V)
  | sl (n sz off len : Nat)
  | pt (n off : Nat)
  | rp (cells : List V)
  | fn (f : FuncId) (caps : List V)
  deriving Inhabited

abbrev Loc := Option (Nat × Nat)
abbrev Nm := Nat → Option Loc

mutual
inductive RV (N : Nm) (U : Nat → Prop) (w : World) : V → Value → List Nat → Prop
  | undef (c : Value) : RV N U w .undef c []
  | int (k : IntKind) (n : Int) : RV N U w (.int k n) (.int k n) []
  | bool (b : Bool) : RV N U w (.bool b) (.bool b) []
  | str (s : ByteArray) : RV N U w (.str s) (.string s) []
  | nil : RV N U w .nil (.slice none 0 0) []
  | listE (sz : Nat) (a : Option Addr) (cap : Nat) : RV N U w (.list sz []) (.slice a 0 cap) []
  | list (sz : Nat) (cells : List V) (b o len cap : Nat) (cs : List Value) (hU : U b) (hl : cells.length = len * sz) (hlc : len ≤ cap) (hm : len ≤ maxLen) (hz : 0 < sz)
      (hc : ∀ j c, cs[j]? = some c → w.cell? ⟨b, o + j, none⟩ = some c) (h : RVs N U w cells cs []) :
      RV N U w (.list sz cells) (.slice (some ⟨b, o, none⟩) len cap) []
  | ownE (sz : Nat) : RV N U w (.own sz []) (.slice none 0 0) []
  | own (sz : Nat) (cells : List V) (b o len cap : Nat) (arr : Array Value) (e : TypeId) (cs : List Value) (F FF : List Nat)
      (hb : w.heap[b]? = some (.cells arr e (0, 0))) (hl : cells.length = len * sz) (hs : o + cap * sz ≤ arr.size) (hlc : len ≤ cap) (hm : cap ≤ maxLen) (hz : 0 < sz)
      (hc : ∀ j c, cs[j]? = some c → arr[o + j]? = some c) (h : RVs N U w cells cs F) (hF : FF = b :: F) :
      RV N U w (.own sz cells) (.slice (some ⟨b, o, none⟩) len cap) FF
  | agg (parts : List V) (cs : List Value) (F : List Nat) (h : RVs N U w parts cs F) : RV N U w (.agg parts) (.agg cs.toArray) F
  | tup (parts : List V) (cs : List Value) (F : List Nat) (h : RVs N U w parts cs F) : RV N U w (.tup parts) (.tuple cs.toArray) F
  | sl (n sz off len b base cap : Nat) (arr : Array Value) (e : TypeId) (fz : Nat × Nat) (hn : N n = some (some (b, base)))
      (hb : w.heap[b]? = some (.cells arr e fz)) (hs : base + off + cap * sz ≤ arr.size) (hlc : len ≤ cap) (hm : cap ≤ maxLen) (hz : 0 < sz) :
      RV N U w (.sl n sz off len) (.slice (some ⟨b, base + off, none⟩) len cap) []
  | slE (n sz : Nat) (hn : N n = some none) : RV N U w (.sl n sz 0 0) (.slice none 0 0) []
  | slZ (n sz off b base o : Nat) (arr : Array Value) (e : TypeId) (fz : Nat × Nat) (hn : N n = some (some (b, base))) (hb : w.heap[b]? = some (.cells arr e fz)) (ho : o ≤ arr.size) (hz : 0 < sz) :
      RV N U w (.sl n sz off 0) (.slice (some ⟨b, o, none⟩) 0 0) []
  | pt (n off b base : Nat) (hn : N n = some (some (b, base))) : RV N U w (.pt n off) (.pointer (some ⟨b, base + off, none⟩)) []
  | rp (cells : List V) (b o : Nat) (cs : List Value) (hU : U b) (hc : ∀ j c, cs[j]? = some c → w.cell? ⟨b, o + j, none⟩ = some c)
      (h : RVs N U w cells cs []) : RV N U w (.rp cells) (.pointer (some ⟨b, o, none⟩)) []
  | fn (f : FuncId) (caps : List V) (cs : List Value) (h : RVs N U w caps cs []) : RV N U w (.fn f caps) (.func (.func f) #[] cs.toArray) []
inductive RVs (N : Nm) (U : Nat → Prop) (w : World) : List V → List Value → List Nat → Prop
  | nil : RVs N U w [] [] []
  | cons (v : V) (vs : List V) (c : Value) (cs : List Value) (F Fs FF : List Nat) (h : RV N U w v c F) (hs : RVs N U w vs cs Fs) (hF : FF = F ++ Fs) :
      RVs N U w (v :: vs) (c :: cs) FF
end

/-- Two worlds agree on a block. -/
def SameAt (w w' : World) (b : Nat) : Prop := w'.heap[b]? = w.heap[b]?
/-- A block keeps its size. -/
def ShapeAt (w w' : World) (b : Nat) : Prop := ∀ arr e fz, w.heap[b]? = some (.cells arr e fz) → ∃ arr' e' fz', w'.heap[b]? = some (.cells arr' e' fz') ∧ arr'.size = arr.size

theorem SameAt.shape {w w' : World} {b : Nat} (h : SameAt w w' b) : ShapeAt w w' b := fun arr e fz hb => ⟨arr, e, fz, by rw [h]; exact hb, rfl⟩
theorem SameAt.cell {w w' : World} {b : Nat} (h : SameAt w w' b) (o : Nat) : w'.cell? ⟨b, o, none⟩ = w.cell? ⟨b, o, none⟩ := World.cell?_of_block h

structure Kept (N N' : Nm) (U U' : Nat → Prop) (w w' : World) : Prop where
  u : ∀ b, U b → SameAt w w' b ∧ U' b
  n : ∀ n l, N n = some l → N' n = some l
  s : ∀ n b base, N n = some (some (b, base)) → ShapeAt w w' b

mutual
theorem RV.kept {N N' : Nm} {U U' : Nat → Prop} {w w' : World} (k : Kept N N' U U' w w') {v : V} {c : Value} {F : List Nat}
    (h : RV N U w v c F) (hF : ∀ b ∈ F, SameAt w w' b) : RV N' U' w' v c F := by
  cases h with
  | undef => exact .undef _
  | int => exact .int _ _
  | bool => exact .bool _
  | str => exact .str _
  | nil => exact .nil
  | listE => exact .listE _ _ _
  | list sz cells b o len cap cs hU hl hlc hm hz hc h =>
    exact .list sz cells b o len cap cs (k.u b hU).2 hl hlc hm hz (fun j c hj => by rw [(k.u b hU).1.cell]; exact hc j c hj) (RVs.kept k h (by simp))
  | ownE => exact .ownE _
  | own sz cells b o len cap arr e cs F FF hb hl hs hlc hm hz hc h hE =>
    subst hE
    exact .own sz cells b o len cap arr e cs F _ (by rw [hF b (by simp)]; exact hb) hl hs hlc hm hz hc (RVs.kept k h (fun x hx => hF x (by simp [hx]))) rfl
  | agg parts cs F h => exact .agg parts cs F (RVs.kept k h hF)
  | tup parts cs F h => exact .tup parts cs F (RVs.kept k h hF)
  | sl n sz off len b base cap arr e fz hn hb hs hlc hm hz =>
    obtain ⟨arr', e', fz', hb', hsz⟩ := k.s n b base hn arr e fz hb
    exact .sl n sz off len b base cap arr' e' fz' (k.n _ _ hn) hb' (by rw [hsz]; exact hs) hlc hm hz
  | slE n sz hn => exact .slE n sz (k.n _ _ hn)
  | slZ n sz off b base o arr e fz hn hb ho hz =>
    obtain ⟨arr', e', fz', hb', hsz⟩ := k.s n b base hn arr e fz hb
    exact .slZ n sz off b base o arr' e' fz' (k.n _ _ hn) hb' (by rw [hsz]; exact ho) hz
  | pt n off b base hn => exact .pt n off b base (k.n _ _ hn)
  | rp cells b o cs hU hc h => exact .rp cells b o cs (k.u b hU).2 (fun j c hj => by rw [(k.u b hU).1.cell]; exact hc j c hj) (RVs.kept k h (by simp))
  | fn f caps cs h => exact .fn f caps cs (RVs.kept k h (by simp))
theorem RVs.kept {N N' : Nm} {U U' : Nat → Prop} {w w' : World} (k : Kept N N' U U' w w') {vs : List V} {cs : List Value} {F : List Nat}
    (h : RVs N U w vs cs F) (hF : ∀ b ∈ F, SameAt w w' b) : RVs N' U' w' vs cs F := by
  cases h with
  | nil => exact .nil
  | cons v vs c cs F Fs FF h hs hE =>
    subst hE
    exact .cons v vs c cs F Fs _ (RV.kept k h (fun x hx => hF x (by simp [hx]))) (RVs.kept k hs (fun x hx => hF x (by simp [hx]))) rfl
end

section lists
variable {N : Nm} {U : Nat → Prop} {w : World}
theorem RVs.len {vs : List V} {cs : List Value} {F : List Nat} (h : RVs N U w vs cs F) : cs.length = vs.length := by
  induction vs generalizing cs F with
  | nil => cases h; rfl
  | cons v vs ih => cases h with | cons _ _ c cs F Fs _ h hs _ => simp [ih hs]
theorem RVs.get {vs : List V} {cs : List Value} {F : List Nat} (h : RVs N U w vs cs F) {j : Nat} {v : V} (hj : vs[j]? = some v) :
    ∃ c Fj A B, cs[j]? = some c ∧ RV N U w v c Fj ∧ F = A ++ Fj ++ B := by
  induction vs generalizing cs F j with
  | nil => simp at hj
  | cons u vs ih =>
    cases h with
    | cons _ _ c cs F Fs _ h hs hE =>
      cases j with
      | zero =>
        simp at hj
        subst hj
        exact ⟨c, F, [], Fs, by simp, h, by simp [hE]⟩
      | succ j =>
        simp at hj
        obtain ⟨c', Fj, A, B, h1, h2, h3⟩ := ih hs hj
        exact ⟨c', Fj, F ++ A, B, by simpa using h1, h2, by simp [hE, h3]⟩
theorem RVs.get0 {vs : List V} {cs : List Value} (h : RVs N U w vs cs []) {j : Nat} {v : V} (hj : vs[j]? = some v) :
    ∃ c, cs[j]? = some c ∧ RV N U w v c [] := by
  obtain ⟨c, Fj, A, B, h1, h2, h3⟩ := h.get hj
  have : Fj = [] := by
    have := congrArg List.length h3
    simp at this
    exact List.eq_nil_of_length_eq_zero (by omega)
  exact ⟨c, h1, this ▸ h2⟩
theorem RVs.append {vs us : List V} {cs ds : List Value} {F G : List Nat} (h : RVs N U w vs cs F) (h' : RVs N U w us ds G) : RVs N U w (vs ++ us) (cs ++ ds) (F ++ G) := by
  induction vs generalizing cs F with
  | nil => cases h; simpa using h'
  | cons v vs ih =>
    cases h with
    | cons _ _ c cs F Fs _ h hs hE => subst hE; exact .cons _ _ _ _ F (Fs ++ G) _ h (ih hs) (by simp)
theorem RVs.split {vs us : List V} {cs : List Value} {F : List Nat} (h : RVs N U w (vs ++ us) cs F) :
    ∃ cs1 cs2 F1 F2, cs = cs1 ++ cs2 ∧ F = F1 ++ F2 ∧ RVs N U w vs cs1 F1 ∧ RVs N U w us cs2 F2 := by
  induction vs generalizing cs F with
  | nil => exact ⟨[], cs, [], F, rfl, rfl, .nil, h⟩
  | cons v vs ih =>
    cases h with
    | cons _ _ c cs F Fs _ h hs hE =>
      obtain ⟨cs1, cs2, F1, F2, e1, e2, h1, h2⟩ := ih hs
      exact ⟨c :: cs1, cs2, F ++ F1, F2, by simp [e1], by simp [hE, e2], .cons _ _ _ _ _ _ _ h h1 rfl, h2⟩
theorem RVs.take {vs : List V} {cs : List Value} (h : RVs N U w vs cs []) (k : Nat) : RVs N U w (vs.take k) (cs.take k) [] := by
  rw [← List.take_append_drop k vs] at h
  obtain ⟨cs1, cs2, F1, F2, e1, e2, h1, h2⟩ := h.split
  have e3 : F1 = [] ∧ F2 = [] := by simpa using e2.symm
  obtain ⟨rfl, rfl⟩ := e3
  have hl := h1.len
  subst e1
  rcases Nat.lt_or_ge k (vs.length + 1) with hk | hk
  · have : cs1.length = k := by rw [hl, List.length_take]; omega
    rw [← this, List.take_left]
    rw [← this] at h1; rw [this] at h1 ⊢; exact h1
  · have h2' := h2.len
    rw [List.drop_eq_nil_of_le (by omega)] at h2'
    have : cs2 = [] := List.eq_nil_of_length_eq_zero (by simpa using h2')
    subst this
    rw [List.take_of_length_le (l := cs1 ++ []) (by simp [hl]; omega)]
    simpa using h1
theorem RVs.drop {vs : List V} {cs : List Value} (h : RVs N U w vs cs []) (k : Nat) : RVs N U w (vs.drop k) (cs.drop k) [] := by
  rw [← List.take_append_drop k vs] at h
  obtain ⟨cs1, cs2, F1, F2, e1, e2, h1, h2⟩ := h.split
  have e3 : F1 = [] ∧ F2 = [] := by simpa using e2.symm
  obtain ⟨rfl, rfl⟩ := e3
  have hl := h1.len
  subst e1
  rcases Nat.lt_or_ge k (vs.length + 1) with hk | hk
  · have : cs1.length = k := by rw [hl, List.length_take]; omega
    rw [← this, List.drop_left]
    rw [this]; exact h2
  · have h2' := h2.len
    rw [List.drop_eq_nil_of_le (by omega)] at h2' ⊢
    have : cs2 = [] := List.eq_nil_of_length_eq_zero (by simpa using h2')
    subst this
    rw [List.drop_eq_nil_of_le (by simp [hl]; omega)]
    exact .nil
/-- One cell is replaced. -/
theorem RVs.set {vs : List V} {cs : List Value} {F : List Nat} (h : RVs N U w vs cs F) {j : Nat} (hj : j < vs.length) {v : V} {c : Value} {G : List Nat} (hv : RV N U w v c G) :
    ∃ A B Fj, F = A ++ Fj ++ B ∧ RVs N U w (vs.set j v) (cs.set j c) (A ++ G ++ B) := by
  induction vs generalizing cs F j with
  | nil => simp at hj
  | cons u vs ih =>
    cases h with
    | cons _ _ d cs F Fs _ h hs hE =>
      cases j with
      | zero => exact ⟨[], Fs, F, by simp [hE], .cons _ _ _ _ G Fs _ hv hs (by simp)⟩
      | succ j =>
        obtain ⟨A, B, Fj, e1, h1⟩ := ih hs (by simpa using hj)
        exact ⟨F ++ A, B, Fj, by simp [hE, e1], by simpa using RVs.cons _ _ _ _ F (A ++ G ++ B) _ h h1 (by simp)⟩
end lists

/-- The rows that have names. -/
inductive RH (N : Nm) (U : Nat → Prop) (w : World) : List (Nat × List V) → List Nat → Prop
  | nil : RH N U w [] []
  | consE (n : Nat) (H : List (Nat × List V)) (T : List Nat) (hn : N n = some none) (h : RH N U w H T) : RH N U w ((n, []) :: H) T
  | cons (n : Nat) (cells : List V) (b base : Nat) (arr : Array Value) (e : TypeId) (cs : List Value) (F : List Nat) (H : List (Nat × List V)) (T TT : List Nat)
      (hn : N n = some (some (b, base))) (hb : w.heap[b]? = some (.cells arr e (0, 0))) (hc : ∀ j c, cs[j]? = some c → arr[base + j]? = some c)
      (h : RVs N U w cells cs F) (hH : RH N U w H T) (hT : TT = b :: F ++ T) : RH N U w ((n, cells) :: H) TT

theorem RH.kept {N N' : Nm} {U U' : Nat → Prop} {w w' : World} (k : Kept N N' U U' w w') {H : List (Nat × List V)} {T : List Nat}
    (h : RH N U w H T) (hT : ∀ b ∈ T, SameAt w w' b) : RH N' U' w' H T := by
  induction h with
  | nil => exact .nil
  | consE n H T hn h ih => exact .consE n H T (k.n _ _ hn) (ih hT)
  | cons n cells b base arr e cs F H T TT hn hb hc h hH hE ih =>
    subst hE
    exact .cons n cells b base arr e cs F H T _ (k.n _ _ hn) (by rw [hT b (by simp)]; exact hb) hc (h.kept k (fun x hx => hT x (by simp [hx]))) (ih (fun x hx => hT x (by simp [hx]))) rfl

end Go.Proofs.Ytedampaecopkhaa
