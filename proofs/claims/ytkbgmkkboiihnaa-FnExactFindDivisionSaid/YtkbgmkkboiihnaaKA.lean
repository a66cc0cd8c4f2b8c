import Derived.Calls
import Derived.Below
import Derived.Laws.AppendOwn
import Derived.Laws.Entries
import Derived.Laws.MakeOwn
import Derived.Laws.Small
import Derived.Laws.Cells
import Derived.Laws.Slices
import Derived.Laws.Shifts
namespace Go.Proofs.Ytkbgmkkboiihnaa
open Go

/-- Pure data. 'list': a slice that nobody writes any more; 'own': a slice that owns its row; 'sl', 'pt': a slice, a pointer into a row that has a name; 'rp': a pointer that is only read. -/
inductive V where
  | undef
  | int (k : IntKind) (n : Int)
  | bool (b : Bool)
  | str (s : ByteArray)
  | nil
  | list (sz : Nat) (cells : List V)
  | own (sz : Nat) (cells : List V)
  | agg (parts : List V)
  | tup (parts : List V)
  | sl (n sz off len : Nat)
  | pt (n off : Nat)
  | rp (cells : List V)
  | fn (f : FuncId) (caps : List V)
  | ub
  | nfn
  deriving Inhabited

abbrev Loc := Option (Nat × Nat)
abbrev Nm := Nat → Option Loc

mutual
inductive RV (N : Nm) (U : Nat → Prop) (w : World) : V → Value → List Nat → Prop
  | undef (c : Value) : RV N U w .undef c []
  | int (k : IntKind) (n : Int) : RV N U w (.int k n) (.int k n) []
  | bool (b : Bool) : RV N U w (.bool b) (.bool b) []
  | str (s : ByteArray) : RV N U w (.str s) (.string s) []
  | nil : RV N U w .nil (.slice none 0 0) []
  | listE (sz : Nat) (a : Option Addr) (cap : Nat) : RV N U w (.list sz []) (.slice a 0 cap) []
  | list (sz : Nat) (cells : List V) (b o len cap : Nat) (cs : List Value) (hU : U b) (hl : cells.length = len * sz) (hlc : len ≤ cap) (hm : len ≤ maxLen) (hz : 0 < sz)
      (hc : ∀ j c, cs[j]? = some c → w.cell? ⟨b, o + j, none⟩ = some c) (h : RVs N U w cells cs []) :
      RV N U w (.list sz cells) (.slice (some ⟨b, o, none⟩) len cap) []
  | ownE (sz : Nat) : RV N U w (.own sz []) (.slice none 0 0) []
  | own (sz : Nat) (cells : List V) (b o len cap : Nat) (arr : Array Value) (e : TypeId) (cs : List Value) (F FF : List Nat)
      (hb : w.heap[b]? = some (.cells arr e (0, 0))) (hl : cells.length = len * sz) (hs : o + cap * sz ≤ arr.size) (hlc : len ≤ cap) (hm : cap ≤ maxLen) (hz : 0 < sz)
      (hc : ∀ j c, cs[j]? = some c → arr[o + j]? = some c) (h : RVs N U w cells cs F) (hF : FF = b :: F) :
      RV N U w (.own sz cells) (.slice (some ⟨b, o, none⟩) len cap) FF
  | agg (parts : List V) (cs : List Value) (F : List Nat) (h : RVs N U w parts cs F) : RV N U w (.agg parts) (.agg cs.toArray) F
  | tup (parts : List V) (cs : List Value) (F : List Nat) (h : RVs N U w parts cs F) : RV N U w (.tup parts) (.tuple cs.toArray) F
  | sl (n sz off len b base cap : Nat) (arr : Array Value) (e : TypeId) (fz : Nat × Nat) (hn : N n = some (some (b, base)))
      (hb : w.heap[b]? = some (.cells arr e fz)) (hs : base + off + cap * sz ≤ arr.size) (hlc : len ≤ cap) (hm : cap ≤ maxLen) (hz : 0 < sz) :
      RV N U w (.sl n sz off len) (.slice (some ⟨b, base + off, none⟩) len cap) []
  | slE (n sz : Nat) (hn : N n = some none) : RV N U w (.sl n sz 0 0) (.slice none 0 0) []
  | slZ (n sz off b base o : Nat) (arr : Array Value) (e : TypeId) (fz : Nat × Nat) (hn : N n = some (some (b, base))) (hb : w.heap[b]? = some (.cells arr e fz)) (ho : o ≤ arr.size) (hz : 0 < sz) :
      RV N U w (.sl n sz off 0) (.slice (some ⟨b, o, none⟩) 0 0) []
  | pt (n off b base : Nat) (hn : N n = some (some (b, base))) : RV N U w (.pt n off) (.pointer (some ⟨b, base + off, none⟩)) []
  | rp (cells : List V) (b o : Nat) (cs : List Value) (hU : U b) (hc : ∀ j c, cs[j]? = some c → w.cell? ⟨b, o + j, none⟩ = some c)
      (h : RVs N U w cells cs []) : RV N U w (.rp cells) (.pointer (some ⟨b, o, none⟩)) []
  | fn (f : FuncId) (caps : List V) (cs : List Value) (h : RVs N U w caps cs []) : RV N U w (.fn f caps) (.func (.func f) #[] cs.toArray) []
  | ub (b : Bool) : RV N U w .ub (.bool b) []
  | nfn : RV N U w .nfn .nilFunc []
inductive RVs (N : Nm) (U : Nat → Prop) (w : World) : List V → List Value → List Nat → Prop
  | nil : RVs N U w [] [] []
  | cons (v : V) (vs : List V) (c : Value) (cs : List Value) (F Fs FF : List Nat) (h : RV N U w v c F) (hs : RVs N U w vs cs Fs) (hF : FF = F ++ Fs) :
      RVs N U w (v :: vs) (c :: cs) FF
end

/-- Two worlds agree on a block. -/
def SameAt (w w' : World) (b : Nat) : Prop := w'.heap[b]? = w.heap[b]?
/-- A block keeps its size. -/
def ShapeAt (w w' : World) (b : Nat) : Prop := ∀ arr e fz, w.heap[b]? = some (.cells arr e fz) → ∃ arr' e' fz', w'.heap[b]? = some (.cells arr' e' fz') ∧ arr'.size = arr.size

theorem SameAt.shape {w w' : World} {b : Nat} (h : SameAt w w' b) : ShapeAt w w' b := fun arr e fz hb => ⟨arr, e, fz, by rw [h]; exact hb, rfl⟩
theorem SameAt.cell {w w' : World} {b : Nat} (h : SameAt w w' b) (o : Nat) : w'.cell? ⟨b, o, none⟩ = w.cell? ⟨b, o, none⟩ := World.cell?_of_block h

structure Kept (N N' : Nm) (U U' : Nat → Prop) (w w' : World) : Prop where
  u : ∀ b, U b → SameAt w w' b ∧ U' b
  n : ∀ n l, N n = some l → N' n = some l
  s : ∀ n b base, N n = some (some (b, base)) → ShapeAt w w' b

mutual
theorem RV.kept {N N' : Nm} {U U' : Nat → Prop} {w w' : World} (k : Kept N N' U U' w w') {v : V} {c : Value} {F : List Nat}
    (h : RV N U w v c F) (hF : ∀ b ∈ F, SameAt w w' b) : RV N' U' w' v c F := by
  cases h with
  | undef => exact .undef _
  | ub => exact .ub _
  | nfn => exact .nfn
  | int => exact .int _ _
  | bool => exact .bool _
  | str => exact .str _
  | nil => exact .nil
  | listE => exact .listE _ _ _
  | list sz cells b o len cap cs hU hl hlc hm hz hc h =>
    exact .list sz cells b o len cap cs (k.u b hU).2 hl hlc hm hz (fun j c hj => by rw [(k.u b hU).1.cell]; exact hc j c hj) (RVs.kept k h (by simp))
  | ownE => exact .ownE _
  | own sz cells b o len cap arr e cs F FF hb hl hs hlc hm hz hc h hE =>
    subst hE
    exact .own sz cells b o len cap arr e cs F _ (by rw [hF b (by simp)]; exact hb) hl hs hlc hm hz hc (RVs.kept k h (fun x hx => hF x (by simp [hx]))) rfl
  | agg parts cs F h => exact .agg parts cs F (RVs.kept k h hF)
  | tup parts cs F h => exact .tup parts cs F (RVs.kept k h hF)
  | sl n sz off len b base cap arr e fz hn hb hs hlc hm hz =>
    obtain ⟨arr', e', fz', hb', hsz⟩ := k.s n b base hn arr e fz hb
    exact .sl n sz off len b base cap arr' e' fz' (k.n _ _ hn) hb' (by rw [hsz]; exact hs) hlc hm hz
  | slE n sz hn => exact .slE n sz (k.n _ _ hn)
  | slZ n sz off b base o arr e fz hn hb ho hz =>
    obtain ⟨arr', e', fz', hb', hsz⟩ := k.s n b base hn arr e fz hb
    exact .slZ n sz off b base o arr' e' fz' (k.n _ _ hn) hb' (by rw [hsz]; exact ho) hz
  | pt n off b base hn => exact .pt n off b base (k.n _ _ hn)
  | rp cells b o cs hU hc h => exact .rp cells b o cs (k.u b hU).2 (fun j c hj => by rw [(k.u b hU).1.cell]; exact hc j c hj) (RVs.kept k h (by simp))
  | fn f caps cs h => exact .fn f caps cs (RVs.kept k h (by simp))
theorem RVs.kept {N N' : Nm} {U U' : Nat → Prop} {w w' : World} (k : Kept N N' U U' w w') {vs : List V} {cs : List Value} {F : List Nat}
    (h : RVs N U w vs cs F) (hF : ∀ b ∈ F, SameAt w w' b) : RVs N' U' w' vs cs F := by
  cases h with
  | nil => exact .nil
  | cons v vs c cs F Fs FF h hs hE =>
    subst hE
    exact .cons v vs c cs F Fs _ (RV.kept k h (fun x hx => hF x (by simp [hx]))) (RVs.kept k hs (fun x hx => hF x (by simp [hx]))) rfl
end

section lists
variable {N : Nm} {U : Nat → Prop} {w : World}
theorem RVs.len {vs : List V} {cs : List Value} {F : List Nat} (h : RVs N U w vs cs F) : cs.length = vs.length := by
  induction vs generalizing cs F with
  | nil => cases h; rfl
  | cons v vs ih => cases h with | cons _ _ c cs F Fs _ h hs _ => simp [ih hs]
theorem RVs.get {vs : List V} {cs : List Value} {F : List Nat} (h : RVs N U w vs cs F) {j : Nat} {v : V} (hj : vs[j]? = some v) :
    ∃ c Fj A B, cs[j]? = some c ∧ RV N U w v c Fj ∧ F = A ++ Fj ++ B := by
  induction vs generalizing cs F j with
  | nil => simp at hj
  | cons u vs ih =>
    cases h with
    | cons _ _ c cs F Fs _ h hs hE =>
      cases j with
      | zero =>
        simp at hj
        subst hj
        exact ⟨c, F, [], Fs, by simp, h, by simp [hE]⟩
      | succ j =>
        simp at hj
        obtain ⟨c', Fj, A, B, h1, h2, h3⟩ := ih hs hj
        exact ⟨c', Fj, F ++ A, B, by simpa using h1, h2, by simp [hE, h3]⟩
theorem RVs.get0 {vs : List V} {cs : List Value} (h : RVs N U w vs cs []) {j : Nat} {v : V} (hj : vs[j]? = some v) :
    ∃ c, cs[j]? = some c ∧ RV N U w v c [] := by
  obtain ⟨c, Fj, A, B, h1, h2, h3⟩ := h.get hj
  have : Fj = [] := by
    have := congrArg List.length h3
    simp at this
    exact List.eq_nil_of_length_eq_zero (by omega)
  exact ⟨c, h1, this ▸ h2⟩
theorem RVs.append {vs us : List V} {cs ds : List Value} {F G : List Nat} (h : RVs N U w vs cs F) (h' : RVs N U w us ds G) : RVs N U w (vs ++ us) (cs ++ ds) (F ++ G) := by
  induction vs generalizing cs F with
  | nil => cases h; simpa using h'
  | cons v vs ih =>
    cases h with
    | cons _ _ c cs F Fs _ h hs hE => subst hE; exact .cons _ _ _ _ F (Fs ++ G) _ h (ih hs) (by simp)
theorem RVs.split {vs us : List V} {cs : List Value} {F : List Nat} (h : RVs N U w (vs ++ us) cs F) :
    ∃ cs1 cs2 F1 F2, cs = cs1 ++ cs2 ∧ F = F1 ++ F2 ∧ RVs N U w vs cs1 F1 ∧ RVs N U w us cs2 F2 := by
  induction vs generalizing cs F with
  | nil => exact ⟨[], cs, [], F, rfl, rfl, .nil, h⟩
  | cons v vs ih =>
    cases h with
    | cons _ _ c cs F Fs _ h hs hE =>
      obtain ⟨cs1, cs2, F1, F2, e1, e2, h1, h2⟩ := ih hs
      exact ⟨c :: cs1, cs2, F ++ F1, F2, by simp [e1], by simp [hE, e2], .cons _ _ _ _ _ _ _ h h1 rfl, h2⟩
theorem RVs.take {vs : List V} {cs : List Value} (h : RVs N U w vs cs []) (k : Nat) : RVs N U w (vs.take k) (cs.take k) [] := by
  rw [← List.take_append_drop k vs] at h
  obtain ⟨cs1, cs2, F1, F2, e1, e2, h1, h2⟩ := h.split
  have e3 : F1 = [] ∧ F2 = [] := by simpa using e2.symm
  obtain ⟨rfl, rfl⟩ := e3
  have hl := h1.len
  subst e1
  rcases Nat.lt_or_ge k (vs.length + 1) with hk | hk
  · have : cs1.length = k := by rw [hl, List.length_take]; omega
    rw [← this, List.take_left]
    rw [← this] at h1; rw [this] at h1 ⊢; exact h1
  · have h2' := h2.len
    rw [List.drop_eq_nil_of_le (by omega)] at h2'
    have : cs2 = [] := List.eq_nil_of_length_eq_zero (by simpa using h2')
    subst this
    rw [List.take_of_length_le (l := cs1 ++ []) (by simp [hl]; omega)]
    simpa using h1
theorem RVs.drop {vs : List V} {cs : List Value} (h : RVs N U w vs cs []) (k : Nat) : RVs N U w (vs.drop k) (cs.drop k) [] := by
  rw [← List.take_append_drop k vs] at h
  obtain ⟨cs1, cs2, F1, F2, e1, e2, h1, h2⟩ := h.split
  have e3 : F1 = [] ∧ F2 = [] := by simpa using e2.symm
  obtain ⟨rfl, rfl⟩ := e3
  have hl := h1.len
  subst e1
  rcases Nat.lt_or_ge k (vs.length + 1) with hk | hk
  · have : cs1.length = k := by rw [hl, List.length_take]; omega
    rw [← this, List.drop_left]
    rw [this]; exact h2
  · have h2' := h2.len
    rw [List.drop_eq_nil_of_le (by omega)] at h2' ⊢
    have : cs2 = [] := List.eq_nil_of_length_eq_zero (by simpa using h2')
    subst this
    rw [List.drop_eq_nil_of_le (by simp [hl]; omega)]
    exact .nil
/-- One cell is replaced. -/
theorem RVs.set {vs : List V} {cs : List Value} {F : List Nat} (h : RVs N U w vs cs F) {j : Nat} (hj : j < vs.length) {v : V} {c : Value} {G : List Nat} (hv : RV N U w v c G) :
    ∃ A B Fj, F = A ++ Fj ++ B ∧ RVs N U w (vs.set j v) (cs.set j c) (A ++ G ++ B) := by
  induction vs generalizing cs F j with
  | nil => simp at hj
  | cons u vs ih =>
    cases h with
    | cons _ _ d cs F Fs _ h hs hE =>
      cases j with
      | zero => exact ⟨[], Fs, F, by simp [hE], .cons _ _ _ _ G Fs _ hv hs (by simp)⟩
      | succ j =>
        obtain ⟨A, B, Fj, e1, h1⟩ := ih hs (by simpa using hj)
        exact ⟨F ++ A, B, Fj, by simp [hE, e1], by simpa using RVs.cons _ _ _ _ F (A ++ G ++ B) _ h h1 (by simp)⟩
end lists

/-- The rows that have names. -/
inductive RH (N : Nm) (U : Nat → Prop) (w : World) : List (Nat × List V) → List Nat → Prop
  | nil : RH N U w [] []
  | consE (n : Nat) (H : List (Nat × List V)) (T : List Nat) (hn : N n = some none) (h : RH N U w H T) : RH N U w ((n, []) :: H) T
  | cons (n : Nat) (cells : List V) (b base : Nat) (arr : Array Value) (e : TypeId) (cs : List Value) (F : List Nat) (H : List (Nat × List V)) (T TT : List Nat)
      (hn : N n = some (some (b, base))) (hb : w.heap[b]? = some (.cells arr e (0, 0))) (hc : ∀ j c, cs[j]? = some c → arr[base + j]? = some c)
      (h : RVs N U w cells cs F) (hH : RH N U w H T) (hT : TT = b :: F ++ T) : RH N U w ((n, cells) :: H) TT

theorem RH.kept {N N' : Nm} {U U' : Nat → Prop} {w w' : World} (k : Kept N N' U U' w w') {H : List (Nat × List V)} {T : List Nat}
    (h : RH N U w H T) (hT : ∀ b ∈ T, SameAt w w' b) : RH N' U' w' H T := by
  induction h with
  | nil => exact .nil
  | consE n H T hn h ih => exact .consE n H T (k.n _ _ hn) (ih hT)
  | cons n cells b base arr e cs F H T TT hn hb hc h hH hE ih =>
    subst hE
    exact .cons n cells b base arr e cs F H T _ (k.n _ _ hn) (by rw [hT b (by simp)]; exact hb) hc (h.kept k (fun x hx => hT x (by simp [hx]))) (ih (fun x hx => hT x (by simp [hx]))) rfl

end Go.Proofs.Ytkbgmkkboiihnaa
namespace Go.Proofs.Ytkbgmkkboiihnaa
open Go

inductive Opd where
  | t (n : Nat)
  | c (v : V)
  deriving Inhabited

inductive SO where
  | mov (x : Opd)
  | pick (c a b : Opd)
  | new (zero : List V)
  | box (x : Opd)
  | agg (zero : List V) (parts : List (Nat × Nat × Opd))
  | mks (len sz : Nat) (zero : List V) (parts : List (Nat × Nat × Opd))
  | ld (n : Option Nat) (dflt : V) (x : Opd)
  | st (n : Nat) (x v : Opd)
  | bin (tb : Bool) (op : BinOp) (x y : Opd)
  | un (op : UnOp) (x : Opd)
  | conv (k : IntKind) (x : Opd)
  | mk (sz bytes : Nat) (zero : List V) (len cap : Opd)
  | sli (sz : Nat) (x : Opd) (lo hi mx : Option Opd)
  | slis (x : Opd) (lo hi : Option Opd)
  | fad (off : Nat) (x : Opd)
  | fld (n : Option Nat) (off : Nat) (x : Opd)
  | idx (sz : Nat) (x i : Opd)
  | idxa (len sz : Nat) (x i : Opd)
  | ixs (x i : Opd)
  | ext (i : Nat) (x : Opd)
  | len (x : Opd)
  | lens (x : Opd)
  | mm (mx : Bool) (x y : Opd)
  | isn (pos : Bool) (x : Opd)
  | app (sz bytes : Nat) (s x : Opd)
  | call (f : FuncId) (args : List Opd)
  | callv (x : Opd) (args : List Opd)
  | fn (f : FuncId) (caps : List Opd)
  | nck (x : Opd)
  deriving Inhabited

/-- An operation with the slot that it writes and its guard (a slot and the Bool that is wanted there). -/
structure GO where
  d : Option Nat
  g : Option (Nat × Bool)
  o : SO
  deriving Inhabited

/-- An operation of a statement whose order is open: does it write or make rows; may it be looked at without the rows. -/
structure DI where
  g : GO
  loud : Bool
  free : Bool
  deriving Inhabited

/-- All orders of a statement's operations, as a tree: an operation with what may follow it, or another one first. -/
inductive DT where
  | done
  | stop
  | fst (g : GO) (free : Bool) (r : DT)
  | alt (g : GO) (loud : Bool) (r o : DT)
  deriving Inhabited

inductive SC where
  | skip
  | reg (ops : List GO)
  | dreg (ops : List DI)
  | treg (t : DT)
  | seq (a b : SC)
  | cut (a b : SC)
  | cond (c : Opd) (a b : SC)
  | block (id : Nat) (c : SC)
  | loop (c : SC)
  | exit (id : Nat)
  | ret
  deriving Inhabited

structure St where
  t : List (Nat × V)
  h : List (Nat × List V)
  nx : Nat
  deriving Inhabited

def tget : List (Nat × V) → Nat → V
  | [], _ => .undef
  | (i, v) :: r, j => if i = j then v else tget r j
def hget : List (Nat × List V) → Nat → Option (List V)
  | [], _ => none
  | (i, c) :: r, j => if i = j then some c else hget r j
def hset : List (Nat × List V) → Nat → List V → List (Nat × List V)
  | [], _, _ => []
  | (i, c) :: r, j, d => if i = j then (i, d) :: r else (i, c) :: hset r j d
def hdel : List (Nat × List V) → Nat → List (Nat × List V)
  | [], _ => []
  | (i, c) :: r, j => if i = j then r else (i, c) :: hdel r j

def Opd.ev (t : Nat → V) : Opd → V
  | .t n => t n
  | .c v => v
def upd (t : Nat → V) : Option Nat → V → Nat → V
  | some d, v, j => if d = j then v else t j
  | none, _, j => t j
def St.put (st : St) : Option Nat → V → St
  | some d, v => { st with t := (d, v) :: st.t }
  | none, _ => st

/-- The value with its names looked up: what a callee that only reads sees. -/
def dr (H : List (Nat × List V)) : Nat → V → V
  | 0, _ => .undef
  | k + 1, .sl n sz off len => match hget H n with
    | some cells => if off + len * sz ≤ cells.length then .list sz (((cells.drop off).take (len * sz)).map (dr H k)) else .undef
    | none => .undef
  | k + 1, .pt n off => match hget H n with
    | some cells => .rp ((cells.drop off).map (dr H k))
    | none => .undef
  | k + 1, .own sz cells => .list sz (cells.map (dr H k))
  | k + 1, .list sz cells => .list sz (cells.map (dr H k))
  | k + 1, .rp cells => .rp (cells.map (dr H k))
  | k + 1, .agg parts => .agg (parts.map (dr H k))
  | k + 1, .fn f caps => .fn f (caps.map (dr H k))
  | _ + 1, .nil => .list 1 []
  | _ + 1, .tup _ => .undef
  | _ + 1, v => v

/-- A value whose rows nobody writes any more. -/
def fz : Nat → V → V
  | 0, _ => .undef
  | k + 1, .own sz cells => .list sz (cells.map (fz k))
  | k + 1, .agg parts => .agg (parts.map (fz k))
  | k + 1, .tup parts => .tup (parts.map (fz k))
  | _ + 1, v => v

/-- A value that fits into one cell and owns nothing. -/
def V.cell : V → Bool
  | .int .. | .bool _ | .str _ | .nil | .list .. | .sl .. | .pt .. | .rp _ | .fn .. | .ub | .nfn => true
  | _ => false
def V.cells : V → List V
  | .agg parts => parts
  | v => [v]

/-- The rows that a result owns get names. -/
abbrev Hp := List (Nat × List V) × Nat
def opnL (f : V → Hp → V × Hp) : List V → Hp → List V × Hp
  | [], s => ([], s)
  | v :: vs, s => ((f v s).1 :: (opnL f vs (f v s).2).1, (opnL f vs (f v s).2).2)
def opn : Nat → V → Hp → V × Hp
  | 0, _, s => (.undef, s)
  | _ + 1, .own sz cells, s => (.sl s.2 sz 0 (cells.length / sz), ((s.2, cells) :: s.1, s.2 + 1))
  | k + 1, .agg parts, s => (.agg (opnL (opn k) parts s).1, (opnL (opn k) parts s).2)
  | k + 1, .tup parts, s => (.tup (opnL (opn k) parts s).1, (opnL (opn k) parts s).2)
  | _ + 1, v, s => (v, s)

def bitop (op : BinOp) (k : IntKind) (x y : Int) : Int :=
  let a := BitVec.ofInt k.bits x
  let b := BitVec.ofInt k.bits y
  match op with
  | .and => k.wrap (a &&& b).toNat
  | .or => k.wrap (a ||| b).toNat
  | .xor => k.wrap (a ^^^ b).toNat
  | _ => k.wrap (a &&& ~~~b).toNat

def evBin (op : BinOp) (x y : V) : Option (Bool × V) :=
  match op, x, y with
  | .shl, .int k a, .int _ b => some (decide (0 ≤ b), .int k (k.wrap (a * 2 ^ (min b.toNat k.bits))))
  | .shr, .int k a, .int _ b => some (decide (0 ≤ b), .int k (a.fdiv (2 ^ (min b.toNat k.bits))))
  | .add, .int k a, .int k' b => some (decide (k = k'), .int k (k.wrap (a + b)))
  | .sub, .int k a, .int k' b => some (decide (k = k'), .int k (k.wrap (a - b)))
  | .mul, .int k a, .int k' b => some (decide (k = k'), .int k (k.wrap (a * b)))
  | .quo, .int k a, .int k' b => some (decide (k = k') && decide (b ≠ 0), .int k (k.wrap (a.tdiv b)))
  | .rem, .int k a, .int k' b => some (decide (k = k') && decide (b ≠ 0), .int k (a.tmod b))
  | .and, .int k a, .int k' b => some (decide (k = k'), .int k (bitop .and k a b))
  | .or, .int k a, .int k' b => some (decide (k = k'), .int k (bitop .or k a b))
  | .xor, .int k a, .int k' b => some (decide (k = k'), .int k (bitop .xor k a b))
  | .andNot, .int k a, .int k' b => some (decide (k = k'), .int k (bitop .andNot k a b))
  | .eql, .int k a, .int k' b => some (decide (k = k'), .bool (a == b))
  | .neq, .int k a, .int k' b => some (decide (k = k'), .bool (a != b))
  | .lss, .int k a, .int k' b => some (decide (k = k'), .bool (decide (a < b)))
  | .leq, .int k a, .int k' b => some (decide (k = k'), .bool (decide (a ≤ b)))
  | .gtr, .int k a, .int k' b => some (decide (k = k'), .bool (decide (b < a)))
  | .geq, .int k a, .int k' b => some (decide (k = k'), .bool (decide (b ≤ a)))
  | .eql, .str a, .str b => some (true, .bool (a.toList == b.toList))
  | .neq, .str a, .str b => some (true, .bool (!(a.toList == b.toList)))
  | .add, .str a, .str b => some (decide (a.size + b.size ≤ 9223372036854775807), .str (a ++ b))
  | _, _, _ => none

def evBinB (op : BinOp) (x y : V) : Option (Bool × V) :=
  match op, x, y with
  | .eql, .bool a, .bool b => some (true, .bool (a == b))
  | .neq, .bool a, .bool b => some (true, .bool (!(a == b)))
  | _, _, _ => none
def evUn (op : UnOp) (x : V) : Option (Bool × V) :=
  match op, x with
  | .not, .bool b => some (true, .bool (!b))
  | .neg, .int k n => some (true, .int k (k.wrap (0 - n)))
  | _, _ => none

def asI : V → Option Int
  | .int _ n => some n
  | _ => none

/-- The bounds of a slice expression. -/
def evBounds (len : Nat) (e : Opd → V) (lo hi mx : Option Opd) : Option (Bool × Int × Int) :=
  match (match lo with | none => some 0 | some x => asI (e x)), (match hi with | none => some (len : Int) | some x => asI (e x)) with
  | some l, some h =>
    match mx with
    | none => some (decide (0 ≤ l) && decide (l ≤ h) && decide (h ≤ len), l, h)
    | some x => match asI (e x) with
      | some m => some (decide (0 ≤ l) && decide (l ≤ h) && decide (h ≤ m) && decide (m ≤ len) && hi.isSome, l, h)
      | none => none
  | _, _ => none

/-- No slice that only reads: every row belongs to the value itself. -/
def nolist : Nat → V → Bool
  | 0, _ => false
  | _ + 1, .list _ _ => false
  | _ + 1, .rp _ => false
  | _ + 1, .fn _ _ => false
  | k + 1, .own _ cells => cells.all (nolist k)
  | k + 1, .agg parts => parts.all (nolist k)
  | k + 1, .tup parts => parts.all (nolist k)
  | _ + 1, _ => true
/-- No names. -/
def noname : Nat → V → Bool
  | 0, _ => false
  | _ + 1, .sl .. => false
  | _ + 1, .pt .. => false
  | k + 1, .list _ cells => cells.all (noname k)
  | _ + 1, .own .. => false
  | k + 1, .rp cells => cells.all (noname k)
  | k + 1, .fn _ cells => cells.all (noname k)
  | k + 1, .agg parts => parts.all (noname k)
  | k + 1, .tup parts => parts.all (noname k)
  | _ + 1, _ => true

/-- No names; rows of its own are let in. -/
def nonm : Nat → V → Bool
  | 0, _ => false
  | _ + 1, .sl .. => false
  | _ + 1, .pt .. => false
  | k + 1, .list _ cells => cells.all (nonm k)
  | k + 1, .own _ cells => cells.all (nonm k)
  | k + 1, .rp cells => cells.all (nonm k)
  | k + 1, .fn _ cells => cells.all (nonm k)
  | k + 1, .agg parts => parts.all (nonm k)
  | k + 1, .tup parts => parts.all (nonm k)
  | _ + 1, _ => true

/-- What is known of callees: of one that only reads, its value; of one that writes into the row of its argument 'i' (name 0 there), its value and the row behind the call. -/
structure Env where
  p : List (FuncId × (List V → Option V))
  l : List (FuncId × Nat × (List V → List V → Option (V × List V))) := []
def lookp : List (FuncId × (List V → Option V)) → FuncId → Option (List V → Option V)
  | [], _ => none
  | (f, F) :: r, g => if f = g then some F else lookp r g
def lookl : List (FuncId × Nat × (List V → List V → Option (V × List V))) → FuncId → Option (Nat × (List V → List V → Option (V × List V)))
  | [], _ => none
  | (f, F) :: r, g => if f = g then some F else lookl r g
/-- Name 0 becomes 'n'. -/
def ren0 (n : Nat) : Nat → V → V
  | 0, _ => .undef
  | _ + 1, .sl m sz off len => .sl (if m = 0 then n else m) sz off len
  | _ + 1, .pt m off => .pt (if m = 0 then n else m) off
  | k + 1, .tup parts => .tup (parts.map (ren0 n k))
  | k + 1, .agg parts => .agg (parts.map (ren0 n k))
  | k + 1, .own sz parts => .own sz (parts.map (ren0 n k))
  | _ + 1, v => v

def setRange {α : Type} : List α → Nat → List α → List α
  | cells, _, [] => cells
  | cells, o, v :: vs => setRange (cells.set o v) (o + 1) vs
def fillRange : List V → List (Nat × Nat × V) → Option (List V)
  | cells, [] => some cells
  | cells, (off, size, v) :: r =>
    if v.cells.length = size ∧ off + size ≤ cells.length ∧ (v.cells.all V.cell) then fillRange (setRange cells off v.cells) r else none

/-- Operations that leave all rows as they are. The Bool: that nothing panics. -/
def evQ (Γ : Env) (H : List (Nat × List V)) (e : Opd → V) : SO → Option (Bool × V)
  | .mov x => some (true, e x)
  | .pick c a b => match e c with
    | .bool true => some (true, e a)
    | .bool false => some (true, e b)
    | _ => none
  | .ld none dflt x => match e x with
    | .pt n off => match hget H n with
      | some cells => some (decide (off < cells.length) && (cells.getD off dflt).cell, cells.getD off dflt)
      | none => none
    | .rp cells => some (decide (0 < cells.length), cells.getD 0 dflt)
    | _ => none
  | .ld (some k) _ x => match e x with
    | .pt n off => match hget H n with
      | some cells => some (decide (off + k ≤ cells.length) && ((cells.drop off).take k).all V.cell, .agg ((cells.drop off).take k))
      | none => none
    | .rp cells => some (decide (k ≤ cells.length), .agg (cells.take k))
    | _ => none
  | .bin false op x y => evBin op (e x) (e y)
  | .bin true op x y => evBinB op (e x) (e y)
  | .un op x => evUn op (e x)
  | .conv k x => match e x with
    | .int _ n => some (true, .int k (k.wrap n))
    | _ => none
  | .sli sz x lo hi mx => match e x with
    | .list sz' cells => match evBounds (cells.length / sz) e lo hi mx with
      | some (b, l, h) => some (b && decide (sz = sz'), .list sz ((cells.drop (l.toNat * sz)).take ((h - l).toNat * sz)))
      | none => none
    | .sl n sz' off len => match evBounds len e lo hi mx with
      | some (b, l, h) => some (b && decide (sz = sz'), .sl n sz (off + l.toNat * sz) (h - l).toNat)
      | none => none
    | .nil => match evBounds 0 e lo hi mx with
      | some (b, _, _) => some (b && mx.isNone, .nil)
      | none => none
    | _ => none
  | .slis x lo hi => match e x with
    | .str s => match evBounds s.size e lo hi none with
      | some (b, l, h) => some (b, .str (s.extract l.toNat h.toNat))
      | none => none
    | _ => none
  | .fad off x => match e x with
    | .pt n o => some (true, .pt n (o + off))
    | .rp cells => some (true, .rp (cells.drop off))
    | _ => none
  | .fld none off x => match e x with
    | .agg parts => some (decide (off < parts.length), parts.getD off .undef)
    | _ => none
  | .fld (some k) off x => match e x with
    | .agg parts => some (decide (off + k ≤ parts.length), .agg ((parts.drop off).take k))
    | _ => none
  | .idx sz x i => match e x, asI (e i) with
    | .sl n sz' off len, some i => some (decide (sz = sz') && decide (0 ≤ i) && decide (i < len), .pt n (off + i.toNat * sz))
    | .list sz' cells, some i => some (decide (sz = sz') && decide (0 ≤ i) && decide (i < ((cells.length / sz : Nat) : Int)), .rp (cells.drop (i.toNat * sz)))
    | _, _ => none
  | .idxa len sz x i => match e x, asI (e i) with
    | .pt n off, some i => some (decide (0 ≤ i) && decide (i < len), .pt n (off + i.toNat * sz))
    | _, _ => none
  | .ixs x i => match e x, asI (e i) with
    | .str s, some i => some (decide (0 ≤ i) && decide (i < s.size), .int .u8 ((s.data.toList.getD i.toNat 0).toNat : Int))
    | _, _ => none
  | .ext i x => match e x with
    | .tup vs => some (decide (i < vs.length), vs.getD i .undef)
    | _ => none
  | .len x => match e x with
    | .list sz cells => some (true, .int .i64 ((cells.length / sz : Nat) : Int))
    | .sl _ _ _ len => some (true, .int .i64 (len : Int))
    | .nil => some (true, .int .i64 0)
    | _ => none
  | .lens x => match e x with
    | .str s => some (true, .int .i64 (s.size : Int))
    | _ => none
  | .mm mx x y => match e x, e y with
    | .int k a, .int k' b => some (decide (k = k'), .int k (if mx then max a b else min a b))
    | _, _ => none
  | .isn pos x => match e x with
    | .nil => some (true, .bool pos)
    | .list _ [] => some (true, .ub)
    | .list _ (_ :: _) => some (true, .bool (!pos))
    | .sl _ _ _ len => some (true, if len = 0 then .ub else .bool (!pos))
    | _ => none
  | .call f args => match lookp Γ.p f with
    | some F => match F (args.map fun x => dr H 6 (e x)) with
      | some r => some (nolist 6 r || args.all fun x => noname 6 (e x), r)
      | none => none
    | none => none
  | .callv x args => match e x with
    | .fn f caps => match lookp Γ.p f with
      | some F => match F ((args.map fun x => dr H 6 (e x)) ++ caps.map (dr H 6)) with
        | some r => some (nolist 6 r, r)
        | none => none
      | none => none
    | _ => none
  | .fn f caps => some (true, .fn f (caps.map e))
  | .nck x => match e x with
    | .pt n off => some (true, .pt n off)
    | .rp cells => some (true, .rp cells)
    | _ => none
  | .agg zero parts => match fillRange zero (parts.map fun (o, s, x) => (o, s, e x)) with
    | some cells => some (true, .agg cells)
    | none => none
  | _ => none

/-- The cells that are appended. -/
def srcOf (H : List (Nat × List V)) (sz : Nat) : V → Option (List V)
  | .sl m sz' off len => match hget H m with
    | some c => if sz = sz' ∧ off + len * sz ≤ c.length then some ((c.drop off).take (len * sz)) else none
    | none => none
  | .list sz' cells => if sz = sz' then some cells else none
  | .nil => some []
  | _ => none

def evApp (sz bytes : Nat) (news : List V) (s : Hp) : V → Option (Bool × V × Hp)
  | .sl n sz' off len => match hget s.1 n with
    | some cells => some (decide (sz = sz') && news.all V.cell && decide (off + len * sz ≤ cells.length) && decide ((len + news.length / sz) * bytes ≤ 140737488355328),
        .sl s.2 sz 0 (len + news.length / sz), ((s.2, (cells.drop off).take (len * sz) ++ news) :: hdel s.1 n, s.2 + 1))
    | none => none
  | .nil => some (news.all V.cell && decide ((news.length / sz) * bytes ≤ 140737488355328),
        .sl s.2 sz 0 (news.length / sz), ((s.2, news) :: s.1, s.2 + 1))
  | _ => none

/-- What a load gives: an inner row that the cell owns gets a name. -/
def ldU (s : Hp) (n off : Nat) (cells : List V) : V → Option (Bool × V × Hp)
  | .own sz cn => some (decide (off < cells.length) && decide (0 < sz), .sl s.2 sz 0 (cn.length / sz), ((s.2, cn) :: hset s.1 n (cells.set off (.sl s.2 sz 0 (cn.length / sz))), s.2 + 1))
  | v => some (decide (off < cells.length) && v.cell, opn 6 v s)

/-- All operations. -/
def evH (Γ : Env) (e : Opd → V) (s : Hp) : SO → Option (Bool × V × Hp)
  | .ld none d x => match e x with
    | .pt n off => match hget s.1 n with
      | some cells => ldU s n off cells (cells.getD off d)
      | none => none
    | .rp cells => some (decide (0 < cells.length), opn 6 (cells.getD 0 d) s)
    | _ => none
  | .new zero => some (true, .pt s.2 0, ((s.2, zero) :: s.1, s.2 + 1))
  | .box x => some (((e x).cells.all V.cell), .pt s.2 0, ((s.2, (e x).cells) :: s.1, s.2 + 1))
  | .mks len sz zero parts => match fillRange zero (parts.map fun (o, n, x) => (o, n, e x)) with
    | some cells => some (true, .sl s.2 sz 0 len, ((s.2, cells) :: s.1, s.2 + 1))
    | none => none
  | .mk sz bytes zero len cap => match asI (e len), asI (e cap) with
    | some l, some c => some (decide (0 ≤ l) && decide (l ≤ c) && decide (bytes * c ≤ 281474976710656) && decide (c ≤ 9223372036854775807), .sl s.2 sz 0 l.toNat,
        ((s.2, (List.replicate c.toNat zero).flatten) :: s.1, s.2 + 1))
    | _, _ => none
  | .st n x v => match e x with
    | .pt nm off => match hget s.1 nm with
      | some cells => some (decide (off + n ≤ cells.length) && decide ((e v).cells.length = n) && (e v).cells.all V.cell, .tup [],
          (hset s.1 nm (setRange cells off (e v).cells), s.2))
      | none => none
    | _ => none
  | .app sz bytes a x => match srcOf s.1 sz (e x) with
    | none => none
    | some news => evApp sz bytes news s (e a)
  | .call f args => match lookl Γ.l f with
    | some (i, G) => match (args[i]?).map e with
      | some (.sl n sz off len) => match hget s.1 n with
        | some cells => match G ((args.map fun x => dr (hdel s.1 n) 6 (e x)).set i (.sl 0 sz off len)) cells with
          | some (r, cells') => some (nolist 6 r && cells.all (nonm 6) && cells'.all (nonm 6) && (cells'.all (nolist 6) || (args.eraseIdx i).all fun x => noname 6 (e x)), opn 6 (ren0 n 6 r) (hset s.1 n cells', s.2))
          | none => none
        | none => none
      | some (.pt n off) => match hget s.1 n with
        | some cells => match G ((args.map fun x => dr (hdel s.1 n) 6 (e x)).set i (.pt 0 off)) cells with
          | some (r, cells') => some (nolist 6 r && cells.all (nonm 6) && cells'.all (nonm 6) && (cells'.all (nolist 6) || (args.eraseIdx i).all fun x => noname 6 (e x)), opn 6 (ren0 n 6 r) (hset s.1 n cells', s.2))
          | none => none
        | none => none
      | some (.agg [.int q m, .sl n sz off len]) => match hget s.1 n with
        | some cells => match G ((args.map fun x => dr (hdel s.1 n) 6 (e x)).set i (.agg [.int q m, .sl 0 sz off len])) cells with
          | some (r, cells') => some (nolist 6 r && cells.all (nonm 6) && cells'.all (nonm 6) && (cells'.all (nolist 6) || (args.eraseIdx i).all fun x => noname 6 (e x)), opn 6 (ren0 n 6 r) (hset s.1 n cells', s.2))
          | none => none
        | none => none
      | _ => none
    | none => match evQ Γ s.1 e (.call f args) with
      | some (b, v) => some (b, opn 6 v s)
      | none => none
  | o => match evQ Γ s.1 e o with
    | some (b, v) => some (b, opn 6 v s)
    | none => none

end Go.Proofs.Ytkbgmkkboiihnaa
namespace Go.Proofs.Ytkbgmkkboiihnaa
open Go Go.RowKit

def const1 : Value → Option V
  | .bool b => some (.bool b)
  | .int k n => some (.int k n)
  | .string s => some (.str s)
  | .slice none 0 0 => some .nil
  | .nilFunc => some .nfn
  | _ => none
def constL : List Value → Option (List V)
  | [] => some []
  | v :: r => match const1 v, constL r with
    | some x, some xs => some (x :: xs)
    | _, _ => none
def constV : Value → Option V
  | .agg cs => (constL cs.toList).map .agg
  | v => const1 v
def compOpd : Operand → Option Opd
  | .tmp t => some (.t t)
  | .const v => (constV v).map .c
  | .func f => some (.c (.fn f []))
  | .global _ => none
def compOpds : List Operand → Option (List Opd)
  | [] => some []
  | v :: r => match compOpd v, compOpds r with
    | some x, some xs => some (x :: xs)
    | _, _ => none
def compOpt : Option Operand → Option (Option Opd)
  | none => some none
  | some x => (compOpd x).map some
def aggB (P : Program) (t : TypeId) : Option Bool :=
  match P.underlying t with
  | some (.struct _) | some (.array _ _) => some true
  | some _ => some false
  | none => none
def zeroL (P : Program) (t : TypeId) : Option (List V) :=
  match P.info? t with
  | some i => match i.zero with
    | some z => constL z.cells.toList
    | none => none
  | none => none
def sizeT (P : Program) (t : TypeId) : Nat :=
  match P.info? t with
  | some i => i.size
  | none => 0
def bytesT (P : Program) (t : TypeId) : Nat :=
  match P.info? t with
  | some i => i.bytes
  | none => 0
def elemT (P : Program) (t : TypeId) : Option TypeId :=
  match P.underlying t with
  | some (.slice e) => some e
  | _ => none
/-- The parts of a composite literal: offset, size, value. -/
def compParts (f : Nat → Option (Nat × Nat)) : List (Nat × Operand) → Option (List (Nat × Nat × Opd))
  | [] => some []
  | (i, x) :: r => match f i, compOpd x, compParts f r with
    | some (o, s), some x, some xs => some ((o, s, x) :: xs)
    | _, _, _ => none
def placesT (P : Program) (t : TypeId) : Option (Nat → Option (Nat × Nat)) :=
  match P.underlying t with
  | some (.struct fields) => if fields.all (fun f => (P.info? f.type).isSome) then some fun i => (fields[i]?).map fun f => (f.offset, sizeT P f.type) else none
  | some (.array _ e) => if (P.info? e).isSome then some fun i => some (i * sizeT P e, sizeT P e) else none
  | _ => none
def zeroLen (P : Program) (t : TypeId) : Nat := match zeroL P t with | some z => z.length | none => 0

def compCall (P : Program) (c : Call) : Option SO :=
  match c.callee with
  | .value (.func f) => (compOpds c.args.toList).map (.call f)
  | .value x => match compOpd x, compOpds c.args.toList with
    | some x, some xs => some (.callv x xs)
    | _, _ => none
  | .builtin .len => match c.args.toList, c.argTypes.toList with
    | [x], [t] => match compOpd x, P.underlying t with
      | some x, some (.slice _) => some (.len x)
      | some x, some .string => some (.lens x)
      | _, _ => none
    | _, _ => none
  | .builtin .append => match c.args.toList, c.argTypes.toList with
    | [s, x], [t, u] => match compOpd s, compOpd x, elemT P t, elemT P u with
      | some s, some x, some e, some _ => if (P.info? e).isSome ∧ 0 < sizeT P e ∧ zeroLen P e = sizeT P e ∧ 0 < bytesT P e then some (.app (sizeT P e) (bytesT P e) s x) else none
      | _, _, _, _ => none
    | _, _ => none
  | .builtin .min => match c.args.toList with
    | [x, y] => match compOpd x, compOpd y with
      | some x, some y => some (.mm false x y)
      | _, _ => none
    | _ => none
  | .builtin .max => match c.args.toList with
    | [x, y] => match compOpd x, compOpd y with
      | some x, some y => some (.mm true x y)
      | _, _ => none
    | _ => none
  | _ => none

def compOp (P : Program) (o : Oper) : Option SO :=
  match o.op with
  | .move x => (compOpd x).map .mov
  | .assign x => (compOpd x).map .mov
  | .pick c a b => match compOpd c, compOpd a, compOpd b with
    | some c, some a, some b => some (.pick c a b)
    | _, _, _ => none
  | .alloc t => (zeroL P t).map .new
  | .box _ x => (compOpd x).map .box
  | .build t parts => match zeroL P t, placesT P t with
    | some z, some f => (compParts f parts.toList).map (.agg z)
    | _, _ => none
  | .buildSlice t len parts => match elemT P t with
    | some e => match zeroL P e with
      | some z => if 0 < sizeT P e ∧ z.length = sizeT P e ∧ len * sizeT P e ≤ 65536 then
          (compParts (fun i => some (i * sizeT P e, sizeT P e)) parts.toList).map (.mks len (sizeT P e) (List.replicate len z).flatten) else none
      | none => none
    | none => none
  | .load t x => match compOpd x, aggB P t, P.info? t with
    | some x, some true, some i => some (.ld (some i.size) .undef x)
    | some x, some false, some i => match i.zero with
      | some z => (constV z).map fun z => .ld none z x
      | none => none
    | _, _, _ => none
  | .store t x v => match compOpd x, compOpd v, P.info? t with
    | some x, some v, some i => if 0 < i.size then some (.st i.size x v) else none
    | _, _, _ => none
  | .binOp op t x y _ => match compOpd x, compOpd y, P.underlying t with
    | some x, some y, some (.int _) => some (.bin false op x y)
    | some x, some y, some .string => some (.bin false op x y)
    | some x, some y, some .bool => some (.bin true op x y)
    | some x, some (.c .nil), some (.slice _) => match op with
      | .eql => some (.isn true x)
      | .neq => some (.isn false x)
      | _ => none
    | _, _, _ => none
  | .unOp op _ x => (compOpd x).map (.un op)
  | .convert src dst x => match compOpd x, P.underlying src, P.underlying dst with
    | some x, some (.int _), some (.int k) => some (.conv k x)
    | _, _, _ => none
  | .makeFunc (.func f) first caps => if first.size = 0 then (compOpds caps.toList).map (.fn f) else none
  | .makeSlice t l c => match compOpd l, compOpd c, elemT P t with
    | some l, some c, some e => match zeroL P e with
      | some z => if 0 < sizeT P e ∧ z.length = sizeT P e then some (.mk (sizeT P e) (bytesT P e) z l c) else none
      | none => none
    | _, _, _ => none
  | .slice t x lo hi mx => match compOpd x, compOpt lo, compOpt hi, compOpt mx with
    | some x, some lo, some hi, some mx => match P.underlying t with
      | some (.slice e) => if (P.info? e).isSome ∧ 0 < sizeT P e then some (.sli (sizeT P e) x lo hi mx) else none
      | some .string => if mx.isNone then some (.slis x lo hi) else none
      | _ => none
    | _, _, _, _ => none
  | .fieldAddr s x f => match compOpd x, P.underlying s with
    | some x, some (.struct fields) => match fields[f]? with
      | some fd => if (P.info? fd.type).isSome ∧ 0 < sizeT P fd.type then some (.fad fd.offset x) else none
      | none => none
    | _, _ => none
  | .field t x f => match compOpd x, P.underlying t with
    | some x, some (.struct fields) => match fields[f]? with
      | some fd => match aggB P fd.type, P.info? fd.type with
        | some true, some i => some (.fld (some i.size) fd.offset x)
        | some false, some _ => some (.fld none fd.offset x)
        | _, _ => none
      | none => none
    | _, _ => none
  | .indexAddr t x i => match compOpd x, compOpd i, P.underlying t with
    | some x, some i, some (.slice e) => if (P.info? e).isSome ∧ 0 < sizeT P e then some (.idx (sizeT P e) x i) else none
    | some x, some i, some (.array n e) => if (P.info? e).isSome then some (.idxa n (sizeT P e) x i) else none
    | _, _, _ => none
  | .index t x i => match compOpd x, compOpd i, P.underlying t with
    | some x, some i, some .string => some (.ixs x i)
    | _, _, _ => none
  | .extract x i => (compOpd x).map (.ext i)
  | .call c => compCall P c
  | .nilCheck x => (compOpd x).map .nck
  | _ => none

/-- The guard of an operation: the slot that the operation it names writes. -/
def compGuard (ops : Array Oper) : Option (Nat × Bool) → Option (Option (Nat × Bool))
  | none => some none
  | some (j, b) => match (ops[j]?).bind (·.dst) with
    | some d => some (some (d, b))
    | none => none
def compGO (P : Program) (ops : Array Oper) (nt : Nat) (o : Oper) : Option GO :=
  match compOp P o, compGuard ops o.guard with
  | some so, some g => match o.dst with
    | none => some ⟨none, g, so⟩
    | some d => if d < nt then some ⟨some d, g, so⟩ else none
  | _, _ => none
def compGOs (P : Program) (ops : Array Oper) (nt : Nat) : List Oper → Option (List GO)
  | [] => some []
  | o :: r => match compGO P ops nt o, compGOs P ops nt r with
    | some g, some gs => some (g :: gs)
    | _, _ => none

section consts
variable {N : Nm} {U : Nat → Prop} {w : World}
theorem const1_ok {v : Value} {x : V} (h : const1 v = some x) : RV N U w x v [] ∧ x.cell = true ∧ v.oneCell' = true := by
  unfold const1 at h
  split at h <;> simp at h <;> subst h
  · exact ⟨.bool _, rfl, rfl⟩
  · exact ⟨.int _ _, rfl, rfl⟩
  · exact ⟨.str _, rfl, rfl⟩
  · exact ⟨.nil, rfl, rfl⟩
  · exact ⟨.nfn, rfl, rfl⟩
theorem constL_ok {cs : List Value} {xs : List V} (h : constL cs = some xs) : RVs N U w xs cs [] := by
  induction cs generalizing xs with
  | nil => simp [constL] at h; subst h; exact .nil
  | cons v r ih =>
    unfold constL at h
    split at h
    · rename_i x xs' h1 h2
      simp at h
      subst h
      exact .cons _ _ _ _ [] [] _ (const1_ok h1).1 (ih h2) rfl
    · simp at h
theorem constL_cell {cs : List Value} {xs : List V} (h : constL cs = some xs) : xs.all V.cell = true := by
  induction cs generalizing xs with
  | nil => simp [constL] at h; subst h; rfl
  | cons v r ih =>
    unfold constL at h
    split at h
    · rename_i x xs' h1 h2
      simp at h
      subst h
      simp [(const1_ok (N := fun _ => none) (U := fun _ => False) (w := default) h1).2.1, ih h2]
    · simp at h
theorem constV_ok {v : Value} {x : V} (h : constV v = some x) : RV N U w x v [] := by
  unfold constV at h
  split at h
  · rename_i cs
    cases hc : constL cs.toList with
    | none => simp [hc] at h
    | some xs =>
      simp [hc] at h
      subst h
      have := RV.agg (N := N) (U := U) (w := w) xs cs.toList [] (constL_ok hc)
      simpa using this
  · exact (const1_ok h).1
theorem compOpd_ok {o : Operand} {x : Opd} (h : compOpd o = some x) {t : Nat → V} {a : Act} (hs : ∀ i, RV N U w (t i) (a.tmps.getD i Go.undef) []) : RV N U w (x.ev t) (a.eval o) [] := by
  unfold compOpd at h
  split at h
  · simp at h; subst h; exact hs _
  · rename_i v
    cases hc : constV v with
    | none => simp [hc] at h
    | some y => simp [hc] at h; subst h; exact constV_ok hc
  · simp at h; subst h; exact RV.fn _ [] [] .nil
  · simp at h
theorem compOpds_ok {os : List Operand} {xs : List Opd} (h : compOpds os = some xs) {t : Nat → V} {a : Act} (hs : ∀ i, RV N U w (t i) (a.tmps.getD i Go.undef) []) : RVs N U w (xs.map (Opd.ev t)) (os.map a.eval) [] := by
  induction os generalizing xs with
  | nil => simp [compOpds] at h; subst h; exact .nil
  | cons v r ih =>
    unfold compOpds at h
    split at h
    · rename_i x xs' h1 h2
      simp at h
      subst h
      exact .cons _ _ _ _ [] [] _ (compOpd_ok h1 hs) (ih h2) rfl
    · simp at h
end consts
end Go.Proofs.Ytkbgmkkboiihnaa
namespace Go.Proofs.Ytkbgmkkboiihnaa
open Go Go.RowKit

section basic
variable {N : Nm} {U : Nat → Prop} {w : World}
theorem RV.int_inv {k : IntKind} {n : Int} {c : Value} {F : List Nat} (h : RV N U w (.int k n) c F) : c = .int k n ∧ F = [] := by cases h; exact ⟨rfl, rfl⟩
theorem RV.bool_inv {b : Bool} {c : Value} {F : List Nat} (h : RV N U w (.bool b) c F) : c = .bool b ∧ F = [] := by cases h; exact ⟨rfl, rfl⟩
theorem RV.ub_inv {c : Value} {F : List Nat} (h : RV N U w .ub c F) : ∃ b, c = .bool b := by cases h; exact ⟨_, rfl⟩
theorem RV.str_inv {b : ByteArray} {c : Value} {F : List Nat} (h : RV N U w (.str b) c F) : c = .string b ∧ F = [] := by cases h; exact ⟨rfl, rfl⟩
theorem RV.nil_inv {c : Value} {F : List Nat} (h : RV N U w .nil c F) : c = .slice none 0 0 ∧ F = [] := by cases h; exact ⟨rfl, rfl⟩
theorem RV.cell_nil {v : V} {c : Value} {F : List Nat} (h : RV N U w v c F) (hv : v.cell = true) : F = [] ∧ c.oneCell' = true := by
  cases h <;> first
    | exact ⟨rfl, rfl⟩
    | simp [V.cell] at hv
theorem RVs.cell_nil {vs : List V} {cs : List Value} {F : List Nat} (h : RVs N U w vs cs F) (hv : vs.all V.cell = true) : F = [] ∧ ∀ c ∈ cs, c.oneCell' = true := by
  induction vs generalizing cs F with
  | nil => cases h; exact ⟨rfl, by simp⟩
  | cons v vs ih =>
    cases h with
    | cons _ _ c cs F Fs _ h hs hE =>
      simp only [List.all_cons, Bool.and_eq_true] at hv
      obtain ⟨e1, e2⟩ := h.cell_nil hv.1
      obtain ⟨e3, e4⟩ := ih hs hv.2
      refine ⟨by simp [hE, e1, e3], ?_⟩
      intro x hx
      rcases List.mem_cons.1 hx with rfl | hx
      · exact e2
      · exact e4 x hx
theorem asI_inv {v : V} {n : Int} {c : Value} {F : List Nat} (h : RV N U w v c F) (he : asI v = some n) : ∃ k, v = .int k n ∧ c = .int k n := by
  cases v <;> simp [asI] at he
  subst he
  obtain ⟨e, _⟩ := h.int_inv
  exact ⟨_, rfl, e⟩
theorem RH.get {H : List (Nat × List V)} {T : List Nat} (h : RH N U w H T) {n : Nat} {cells : List V} (hg : hget H n = some cells) :
    (N n = some none ∧ cells = []) ∨ ∃ b base arr e cs F A B, N n = some (some (b, base)) ∧ w.heap[b]? = some (.cells arr e (0, 0)) ∧
      (∀ j c, cs[j]? = some c → arr[base + j]? = some c) ∧ RVs N U w cells cs F ∧ T = A ++ (b :: F) ++ B := by
  induction h with
  | nil => simp [hget] at hg
  | consE m H T hn h ih =>
    unfold hget at hg
    split at hg
    · rename_i he; subst he; simp at hg; subst hg; exact .inl ⟨hn, rfl⟩
    · exact ih hg
  | cons m cells' b base arr e cs F H T TT hn hb hc h hH hT ih =>
    unfold hget at hg
    split at hg
    · rename_i he; subst he; simp at hg; subst hg
      exact .inr ⟨b, base, arr, e, cs, F, [], T, hn, hb, hc, h, by simp [hT]⟩
    · rcases ih hg with h1 | ⟨b', base', arr', e', cs', F', A, B, h1, h2, h3, h4, h5⟩
      · exact .inl h1
      · exact .inr ⟨b', base', arr', e', cs', F', b :: F ++ A, B, h1, h2, h3, h4, by simp [hT, h5]⟩
theorem cell_of_arr {b : Nat} {arr : Array Value} {e : TypeId} {fz : Nat × Nat} (hb : w.heap[b]? = some (.cells arr e fz)) (o : Nat) : w.cell? ⟨b, o, none⟩ = arr[o]? := cell_of_row w b o arr e fz hb
end basic

section runs
variable {P : Program} {N : Nm} {U : Nat → Prop} {w : World}

theorem info_size {t : TypeId} (h : (P.info? t).isSome = true) (w : World) : (sizeOf t).run P w = .ok (sizeT P t) w := by
  obtain ⟨i, hi⟩ := Option.isSome_iff_exists.1 h
  simp [sizeOf, typeInfo, hi, sizeT]
theorem run_isAgg {t : TypeId} {b : Bool} (h : aggB P t = some b) (w : World) : (isAgg t).run P w = .ok b w := by
  unfold aggB at h
  split at h
  · rename_i hu; simp at h; subst h; simp [isAgg, run_underlying hu]
  · rename_i hu; simp at h; subst h; simp [isAgg, run_underlying hu]
  · rename_i x hn1 hn2 hu
    simp at h
    subst h
    unfold isAgg
    rw [Sem.run_bind, run_underlying hu, Result.andThen_ok]
    split
    · rename_i fs; exact (hn1 fs rfl).elim
    · rename_i n e; exact (hn2 n e rfl).elim
    · rfl
  · simp at h

theorem bin_run (op : BinOp) (t : TypeId) (xo yo : Operand) {x y v : V} {cx cy : Value} (hx : RV N U w x cx []) (hy : RV N U w y cy []) (he : evBin op x y = some (true, v)) :
    ∃ c, ((do eqGuard op t xo yo cx cy; binOp op t cx cy) : Sem Value).run P w = .ok c w ∧ RV N U w v c [] := by
  cases op <;> cases x <;> simp [evBin] at he <;> cases y <;> simp at he
  all_goals first
    | (obtain ⟨e1, _⟩ := hx.int_inv
       obtain ⟨e2, _⟩ := hy.int_inv
       subst e1; subst e2)
    | (obtain ⟨e1, _⟩ := hx.str_inv
       obtain ⟨e2, _⟩ := hy.str_inv
       subst e1; subst e2)
  all_goals first
    | (obtain ⟨⟨rfl, h0⟩, rfl⟩ := he
       simp only [go_sem, Sem.run_bind, Sem.run_pure, Result.andThen_ok, Op.intDiv, h0, if_false]
       exact ⟨_, rfl, .int _ _⟩)
    | (obtain ⟨rfl, rfl⟩ := he
       first
         | (simp only [go_sem, Sem.run_bind, Sem.run_pure, Result.andThen_ok, Op.intArith, Op.intBits, bitop]
            exact ⟨_, rfl, by first | exact .int _ _ | exact .bool _⟩)
         | (rename_i h0
            simp only [go_sem, Sem.run_bind, Sem.run_pure, Result.andThen_ok, Op.shift, if_neg (Int.not_lt.2 h0)]
            exact ⟨_, rfl, .int _ _⟩))
    | (obtain ⟨h0, rfl⟩ := he
       simp only [go_sem, Sem.run_bind, Sem.run_pure, Result.andThen_ok, Op.shift, if_neg (Int.not_lt.2 h0)]
       exact ⟨_, rfl, .int _ _⟩)
    | (obtain ⟨h0, rfl⟩ := he
       simp only [go_sem, binOp, Sem.run_bind, Sem.run_pure, Result.andThen_ok, Op.stringOp]
       rw [if_neg (by simp only [IntKind.max_i64]; omega)]
       exact ⟨_, rfl, .str _⟩)
    | (subst he
       simp only [go_sem, binOp, Sem.run_bind, Sem.run_pure, Result.andThen_ok, Op.stringOp]
       exact ⟨_, rfl, .bool _⟩)
theorem binb_run (op : BinOp) (t : TypeId) (ht : P.underlying t = some .bool) (xo yo : Operand) {x y v : V} {cx cy : Value} (hx : RV N U w x cx []) (hy : RV N U w y cy []) (he : evBinB op x y = some (true, v)) :
    ∃ c, ((do eqGuard op t xo yo cx cy; binOp op t cx cy) : Sem Value).run P w = .ok c w ∧ RV N U w v c [] := by
  cases op <;> cases x <;> simp [evBinB] at he <;> cases y <;> simp at he
  all_goals
    obtain ⟨e1, _⟩ := hx.bool_inv
    obtain ⟨e2, _⟩ := hy.bool_inv
    subst e1; subst e2; subst he
  · simp only [go_sem, Sem.run_bind, Sem.run_pure, Result.andThen_ok, run_eql_bool w t _ _ ht]
    exact ⟨_, rfl, .bool _⟩
  · simp only [go_sem, Sem.run_bind, Sem.run_pure, Result.andThen_ok, run_neq_bool w t _ _ ht]
    exact ⟨_, rfl, .bool _⟩
theorem isn_run (pos : Bool) (t : TypeId) {el : TypeId} (xo yo : Operand) (ht : P.underlying t = some (.slice el)) {Γ : Env} {H : List (Nat × List V)} {e : Opd → V} {x' : Opd} {v : V} {cx cy : Value} (hx : RV N U w (e x') cx []) (hy : RV N U w .nil cy []) (he : evQ Γ H e (.isn pos x') = some (true, v)) :
    ∃ c, ((do eqGuard (if pos then .eql else .neq) t xo yo cx cy; binOp (if pos then .eql else .neq) t cx cy) : Sem Value).run P w = .ok c w ∧ RV N U w v c [] := by
  cases hy
  have run : ∀ (a : Option Addr) (l k : Nat), (Op.equal t (.slice a l k) (.slice none 0 0)).run P w = .ok a.isNone w := fun a l k => by
    unfold Op.equal Op.maxDepth
    rw [show (10000 : Nat) = 9999 + 1 from rfl]
    unfold Op.equalIn
    rw [Sem.run_bind, run_underlying ht, Result.andThen_ok]
    cases a <;> rfl
  have key : ∀ (a : Option Addr) (l k : Nat), ((do eqGuard (if pos then .eql else .neq) t xo yo (.slice a l k) (.slice none 0 0); binOp (if pos then .eql else .neq) t (.slice a l k) (.slice none 0 0)) : Sem Value).run P w = .ok (.bool (if pos then a.isNone else !a.isNone)) w := fun a l k => by
    cases pos
    · simp only [go_sem, eqGuard, binOp, Sem.run_bind, Sem.run_pure, Result.andThen_ok, Bool.not_true, Bool.false_eq_true, if_false, run]
    · simp only [go_sem, eqGuard, binOp, Sem.run_bind, Sem.run_pure, Result.andThen_ok, Bool.not_true, Bool.false_eq_true, if_false, if_true, run]
  simp only [evQ] at he
  generalize e x' = xv at *
  split at he
  · simp only [Option.some.injEq, Prod.mk.injEq, true_and] at he
    subst he
    cases hx
    refine ⟨_, key none 0 0, ?_⟩
    cases pos <;> exact .bool _
  · simp only [Option.some.injEq, Prod.mk.injEq, true_and] at he
    subst he
    cases hx with
    | listE sz a cap => exact ⟨_, key a 0 cap, .ub _⟩
    | list sz cells b o len cap cs => exact ⟨_, key _ _ _, .ub _⟩
  · simp only [Option.some.injEq, Prod.mk.injEq, true_and] at he
    subst he
    cases hx with
    | list sz cells b o len cap cs =>
      refine ⟨_, key _ _ _, ?_⟩
      cases pos <;> exact .bool _
  · simp only [Option.some.injEq, Prod.mk.injEq, true_and] at he
    split at he
    · subst he
      cases hx <;> exact ⟨_, key _ _ _, .ub _⟩
    · rename_i hn
      subst he
      cases hx with
      | sl => 
        refine ⟨_, key _ _ _, ?_⟩
        cases pos <;> exact .bool _
      | slE => exact absurd rfl hn
      | slZ => exact absurd rfl hn
  · simp at he
theorem un_run (op : UnOp) {x v : V} {cx : Value} (hx : RV N U w x cx []) (he : evUn op x = some (true, v)) :
    ∃ c, (Op.unary op cx).run P w = .ok c w ∧ RV N U w v c [] := by
  cases op <;> cases x <;> simp [evUn] at he
  · obtain ⟨e1, _⟩ := hx.int_inv
    subst e1; subst he
    exact ⟨_, by simp [Op.unary, Op.intArith], .int _ _⟩
  · obtain ⟨e1, _⟩ := hx.bool_inv
    subst e1; subst he
    exact ⟨_, by simp [Op.unary], .bool _⟩
theorem conv_run {src dst : TypeId} {ks k : IntKind} (hs : P.underlying src = some (.int ks)) (hd : P.underlying dst = some (.int k)) {j : IntKind} {n : Int} {cx : Value} (hx : RV N U w (.int j n) cx []) :
    (convert src dst cx).run P w = .ok (.int k (k.wrap n)) w := by
  obtain ⟨e1, _⟩ := hx.int_inv
  subst e1
  simp [convert, run_underlying hs, run_underlying hd, Conv.intToInt]

theorem pt_cells {H : List (Nat × List V)} {T : List Nat} (hh : RH N U w H T) {n off : Nat} {cells : List V} (hg : hget H n = some cells) {cx : Value} (hx : RV N U w (.pt n off) cx []) :
    ∃ b base cs F, cx = .pointer (some ⟨b, base + off, none⟩) ∧ RVs N U w cells cs F ∧ (∀ j c, cs[j]? = some c → w.cell? ⟨b, base + j, none⟩ = some c) ∧
      N n = some (some (b, base)) ∧ (∃ arr e, w.heap[b]? = some (.cells arr e (0, 0))) ∧ ∃ A B, T = A ++ (b :: F) ++ B := by
  cases hx with
  | pt _ _ b base hn =>
    rcases hh.get hg with ⟨h1, _⟩ | ⟨b', base', arr, e, cs, F, A, B, h1, h2, h3, h4, h5⟩
    · rw [hn] at h1; simp at h1
    · rw [hn] at h1
      simp at h1
      obtain ⟨rfl, rfl⟩ := h1
      exact ⟨b, base, cs, F, rfl, h4, fun j c hj => by rw [cell_of_arr h2]; exact h3 j c hj, hn, ⟨arr, e, h2⟩, A, B, h5⟩

theorem ld1_run {t : TypeId} (ha : aggB P t = some false) {H : List (Nat × List V)} {T : List Nat} (hh : RH N U w H T) {n off : Nat} {cells : List V} (hg : hget H n = some cells)
    {cx : Value} (hx : RV N U w (.pt n off) cx []) (dflt : V) (ho : off < cells.length) (hcell : (cells.getD off dflt).cell = true) :
    ∃ c, (Instr.loadAt t cx).run P w = .ok c w ∧ RV N U w (cells.getD off dflt) c [] := by
  obtain ⟨b, base, cs, F, rfl, h4, h3, _⟩ := pt_cells hh hg hx
  have hj : cells[off]? = some (cells.getD off dflt) := by simp [List.getD, List.getElem?_eq_getElem ho]
  obtain ⟨c, Fj, A, B, g1, g2, _⟩ := h4.get hj
  obtain ⟨rfl, _⟩ := g2.cell_nil hcell
  refine ⟨c, ?_, g2⟩
  simp [Instr.loadAt, Instr.sureAddr, loadVar, run_isAgg ha, h3 off c g1]
theorem ld1_run_rp {t : TypeId} (ha : aggB P t = some false) {cells : List V}
    {cx : Value} (hx : RV N U w (.rp cells) cx []) (dflt : V) (ho : 0 < cells.length) :
    ∃ c, (Instr.loadAt t cx).run P w = .ok c w ∧ RV N U w (cells.getD 0 dflt) c [] := by
  cases hx with
  | rp _ b o cs hU hc h =>
    have hj : cells[0]? = some (cells.getD 0 dflt) := by simp [List.getD, List.getElem?_eq_getElem ho]
    obtain ⟨c, g1, g2⟩ := h.get0 hj
    have h0 := hc 0 c g1
    simp only [Nat.add_zero] at h0
    exact ⟨c, by simp [Instr.loadAt, Instr.sureAddr, loadVar, run_isAgg ha, h0], g2⟩
theorem addr_add (b o n : Nat) : (⟨b, o, none⟩ : Addr).add n = ⟨b, o + n, none⟩ := Addr.add_lit b o n
theorem ldn_run {t : TypeId} (ha : aggB P t = some true) {i : TypeInfo} (hi : P.info? t = some i) {b o : Nat} {cs : List Value} (hl : cs.length = i.size)
    (hc : ∀ j c, cs[j]? = some c → w.cell? ⟨b, o + j, none⟩ = some c) :
    (Instr.loadAt t (.pointer (some ⟨b, o, none⟩))).run P w = .ok (.agg cs.toArray) w := by
  have h := run_loadCells_list (P := P) w ⟨b, o, none⟩ cs (fun j v hj => by rw [addr_add]; exact hc j v hj)
  rw [hl] at h
  simp [Instr.loadAt, Instr.sureAddr, loadVar, run_isAgg ha, sizeOf, typeInfo, hi, h]
theorem ldn_run_pt {t : TypeId} (ha : aggB P t = some true) {i : TypeInfo} (hi : P.info? t = some i) {H : List (Nat × List V)} {T : List Nat} (hh : RH N U w H T) {n off : Nat} {cells : List V} (hg : hget H n = some cells)
    {cx : Value} (hx : RV N U w (.pt n off) cx []) (ho : off + i.size ≤ cells.length) (hcell : ((cells.drop off).take i.size).all V.cell = true) :
    ∃ c, (Instr.loadAt t cx).run P w = .ok c w ∧ RV N U w (.agg ((cells.drop off).take i.size)) c [] := by
  obtain ⟨b, base, cs, F, rfl, h4, h3, _⟩ := pt_cells hh hg hx
  have e0 : cells = cells.take off ++ ((cells.drop off).take i.size ++ (cells.drop off).drop i.size) := by rw [List.take_append_drop, List.take_append_drop]
  rw [e0] at h4
  obtain ⟨c1, c2, F1, F2, rfl, rfl, g1, g2⟩ := h4.split
  obtain ⟨c3, c4, F3, F4, rfl, rfl, g3, g4⟩ := g2.split
  have l1 := g1.len
  have l3 := g3.len
  rw [List.length_take] at l1
  rw [List.length_take, List.length_drop] at l3
  obtain ⟨rfl, _⟩ := g3.cell_nil hcell
  refine ⟨_, ldn_run ha hi (by omega) (fun j c hj => ?_), .agg _ c3 [] g3⟩
  have := h3 (off + j) c (by
    rw [List.getElem?_append_right (by omega), List.getElem?_append_left (by have := (List.getElem?_eq_some_iff.1 hj).1; omega)]
    rw [show off + j - c1.length = j by omega]; exact hj)
  rw [Nat.add_assoc]; exact this
theorem ldn_run_rp {t : TypeId} (ha : aggB P t = some true) {i : TypeInfo} (hi : P.info? t = some i) {cells : List V}
    {cx : Value} (hx : RV N U w (.rp cells) cx []) (ho : i.size ≤ cells.length) :
    ∃ c, (Instr.loadAt t cx).run P w = .ok c w ∧ RV N U w (.agg (cells.take i.size)) c [] := by
  cases hx with
  | rp _ b o cs hU hc h =>
    have g := h.take i.size
    have hl : (cs.take i.size).length = i.size := by rw [g.len, List.length_take]; omega
    exact ⟨_, ldn_run ha hi hl (fun j c hj => hc j c (by
      rw [List.getElem?_take] at hj
      split at hj
      · exact hj
      · cases hj)), .agg _ _ [] g⟩
theorem compOpt_none {x : Option Operand} (h : compOpt x = some none) : x = none := by
  cases x with
  | none => rfl
  | some x => simp [compOpt] at h
theorem compOpt_some {x : Option Operand} {y : Opd} (h : compOpt x = some (some y)) : ∃ x', x = some x' ∧ compOpd x' = some y := by
  cases x with
  | none => simp [compOpt] at h
  | some x => exact ⟨x, rfl, by simpa [compOpt] using h⟩
theorem bound_run {o : Operand} {x : Opd} (hc : compOpd o = some x) {t : Nat → V} {a : Act} (hs : ∀ i, RV N U w (t i) (a.tmps.getD i Go.undef) []) {n : Int} (hn : asI (x.ev t) = some n)
    {y : Nat} (code : BoundsCode) (h0 : 0 ≤ n) (h1 : n ≤ y) : (Instr.sliceBound (a.eval o) y code).run P w = .ok n.toNat w := by
  obtain ⟨k, _, e2⟩ := asI_inv (compOpd_ok hc hs) hn
  rw [e2]
  exact run_sliceBound w k n y code h0 h1
theorem bounds_run (isS : Bool) {len cap : Nat} (hlc : len ≤ cap) {lo hi mx : Option Operand} {lo' hi' mx' : Option Opd} (hlo : compOpt lo = some lo') (hhi : compOpt hi = some hi') (hmx : compOpt mx = some mx')
    {t : Nat → V} {a : Act} (hs : ∀ i, RV N U w (t i) (a.tmps.getD i Go.undef) []) {l h : Int} (he : evBounds len (Opd.ev t) lo' hi' mx' = some (true, l, h)) :
    0 ≤ l ∧ l ≤ h ∧ h ≤ len ∧ ∃ m : Nat, h ≤ m ∧ m ≤ cap ∧ (mx' = none → m = cap) ∧ (Instr.sliceBounds isS len cap (lo.map a.eval) (hi.map a.eval) (mx.map a.eval)).run P w = .ok (l.toNat, h.toNat, m) w := by
  unfold evBounds at he
  cases lo' with
  | none =>
    have := compOpt_none hlo
    subst this
    cases hi' with
    | none =>
      have := compOpt_none hhi
      subst this
      cases mx' with
      | none =>
        have := compOpt_none hmx
        subst this
        simp at he
        obtain ⟨_, rfl, rfl⟩ := he
        exact ⟨by omega, by omega, by omega, cap, by omega, Nat.le_refl _, fun _ => rfl, by simp [Instr.sliceBounds]; omega⟩
      | some m =>
        simp at he
        split at he <;> simp at he
    | some h' =>
      obtain ⟨hi0, rfl, hch⟩ := compOpt_some hhi
      simp only at he
      cases hh : asI (Opd.ev t h') with
      | none => simp [hh] at he
      | some n =>
        cases mx' with
        | none =>
          have := compOpt_none hmx
          subst this
          simp [hh] at he
          obtain ⟨⟨h1, h2⟩, rfl, rfl⟩ := he
          refine ⟨by omega, by omega, by omega, cap, by omega, Nat.le_refl _, fun _ => rfl, ?_⟩
          have r1 := fun code => bound_run (P := P) hch hs hh (y := cap) code h1 (by omega)
          cases isS <;> simp [Instr.sliceBounds, r1]
        | some m =>
          obtain ⟨mx0, rfl, hcm⟩ := compOpt_some hmx
          cases hm : asI (Opd.ev t m) with
          | none => simp [hh, hm] at he
          | some m' =>
            simp [hh, hm] at he
            obtain ⟨⟨⟨h1, h2⟩, h3⟩, rfl, rfl⟩ := he
            refine ⟨by omega, by omega, by omega, m'.toNat, by omega, by omega, (fun h => by cases h), ?_⟩
            have r1 := fun code => bound_run (P := P) hcm hs hm (y := cap) code (by omega) (by omega)
            have r2 := fun code => bound_run (P := P) hch hs hh (y := m'.toNat) code h1 (by omega)
            cases isS <;> simp [Instr.sliceBounds, r1, r2]
  | some l' =>
    obtain ⟨lo0, rfl, hcl⟩ := compOpt_some hlo
    simp only at he
    cases hl : asI (Opd.ev t l') with
    | none => simp [hl] at he
    | some q =>
    cases hi' with
    | none =>
      have := compOpt_none hhi
      subst this
      cases mx' with
      | none =>
        have := compOpt_none hmx
        subst this
        simp [hl] at he
        obtain ⟨⟨h1, h2⟩, rfl, rfl⟩ := he
        refine ⟨by omega, by omega, by omega, cap, by omega, Nat.le_refl _, fun _ => rfl, ?_⟩
        have r1 := fun code => bound_run (P := P) hcl hs hl (y := len) code h1 (by omega)
        simp [Instr.sliceBounds, r1]
      | some m =>
        simp [hl] at he
        split at he <;> simp at he
    | some h' =>
      obtain ⟨hi0, rfl, hch⟩ := compOpt_some hhi
      simp only at he
      cases hh : asI (Opd.ev t h') with
      | none => simp [hh, hl] at he
      | some n =>
        cases mx' with
        | none =>
          have := compOpt_none hmx
          subst this
          simp [hh, hl] at he
          obtain ⟨⟨⟨h0, h1⟩, h2⟩, rfl, rfl⟩ := he
          refine ⟨by omega, by omega, by omega, cap, by omega, Nat.le_refl _, fun _ => rfl, ?_⟩
          have r1 := fun code => bound_run (P := P) hch hs hh (y := cap) code (by omega) (by omega)
          have r2 := fun code => bound_run (P := P) hcl hs hl (y := n.toNat) code h0 (by omega)
          cases isS <;> simp [Instr.sliceBounds, r1, r2]
        | some m =>
          obtain ⟨mx0, rfl, hcm⟩ := compOpt_some hmx
          cases hm : asI (Opd.ev t m) with
          | none => simp [hh, hm, hl] at he
          | some m' =>
            simp [hh, hm, hl] at he
            obtain ⟨⟨⟨⟨h0, h1⟩, h2⟩, h3⟩, rfl, rfl⟩ := he
            refine ⟨by omega, by omega, by omega, m'.toNat, by omega, by omega, (fun h => by cases h), ?_⟩
            have r1 := fun code => bound_run (P := P) hcm hs hm (y := cap) code (by omega) (by omega)
            have r2 := fun code => bound_run (P := P) hch hs hh (y := m'.toNat) code (by omega) (by omega)
            have r3 := fun code => bound_run (P := P) hcl hs hl (y := n.toNat) code h0 (by omega)
            cases isS <;> simp [Instr.sliceBounds, r1, r2, r3]
theorem slice_run {elem : TypeId} {ty : TypeId} (hu : P.underlying ty = some (.slice elem)) (hie : (P.info? elem).isSome = true) {av : Option Addr} {len cap : Nat} {lo hi mx : Option Value} {l h m : Nat}
    (hb : (Instr.sliceBounds true len cap lo hi mx).run P w = .ok (l, h, m) w) :
    (Instr.sliceAt ty (.slice av len cap) lo hi mx).run P w = .ok (.slice (if m = l then av else av.map (·.add (l * sizeT P elem))) (h - l) (m - l)) w := by
  simp [Instr.sliceAt, Instr.slice, run_underlying hu, hb, info_size hie]
theorem sliL_run {elem ty : TypeId} (hu : P.underlying ty = some (.slice elem)) (hi : (P.info? elem).isSome = true) (hsz : 0 < sizeT P elem) {lo hi' mx : Option Operand} {lo' hi'' mx' : Option Opd}
    (hlo : compOpt lo = some lo') (hhi : compOpt hi' = some hi'') (hmx : compOpt mx = some mx') {t : Nat → V} {a : Act} (hs : ∀ i, RV N U w (t i) (a.tmps.getD i Go.undef) [])
    {cells : List V} {cx : Value} (hx : RV N U w (.list (sizeT P elem) cells) cx []) {l h : Int} (he : evBounds (cells.length / sizeT P elem) (Opd.ev t) lo' hi'' mx' = some (true, l, h)) :
    ∃ c, (Instr.sliceAt ty cx (lo.map a.eval) (hi'.map a.eval) (mx.map a.eval)).run P w = .ok c w ∧
      RV N U w (.list (sizeT P elem) ((cells.drop (l.toNat * sizeT P elem)).take ((h - l).toNat * sizeT P elem))) c [] := by
  cases hx with
  | listE _ av cap =>
    simp only [List.length_nil, Nat.zero_div] at he
    obtain ⟨h0, h1, h2, m, h3, h4, h5, hr⟩ := bounds_run (P := P) (w := w) true (Nat.zero_le cap) hlo hhi hmx hs he
    refine ⟨_, slice_run hu hi hr, ?_⟩
    have e1 : l.toNat = 0 := by omega
    have e2 : h.toNat = 0 := by omega
    rw [e1, e2]
    simp only [List.drop_nil, List.take_nil, Nat.sub_self]
    exact .listE _ _ _
  | list _ _ b o len cap cs hU hl hlc hm _ hc hv =>
    have e0 : cells.length / sizeT P elem = len := by rw [hl]; exact Nat.mul_div_cancel _ hsz
    rw [e0] at he
    obtain ⟨h0, h1, h2, m, h3, h4, h5, hr⟩ := bounds_run (P := P) (w := w) true hlc hlo hhi hmx hs he
    refine ⟨_, slice_run hu hi hr, ?_⟩
    have e3 : (h - l).toNat = h.toNat - l.toNat := by omega
    rw [e3]
    by_cases hz : h.toNat - l.toNat = 0
    · rw [hz]
      simp only [Nat.zero_mul, List.take_zero]
      exact .listE _ _ _
    · rw [if_neg (by omega)]
      simp only [Option.map_some, addr_add]
      have hmul : (h.toNat - l.toNat) * sizeT P elem + l.toNat * sizeT P elem ≤ len * sizeT P elem := by
        rw [← Nat.add_mul]; exact Nat.mul_le_mul_right _ (by omega)
      refine .list _ _ b _ _ _ ((cs.drop (l.toNat * sizeT P elem)).take ((h.toNat - l.toNat) * sizeT P elem)) hU ?_ (by omega) (by omega) hsz ?_ ((hv.drop _).take _)
      · rw [List.length_take, List.length_drop, hl]; omega
      · intro j c hj
        rw [List.getElem?_take] at hj
        split at hj
        · rw [List.getElem?_drop] at hj
          rw [Nat.add_assoc]
          exact hc _ c hj
        · cases hj
theorem sliS_run {elem ty : TypeId} (hu : P.underlying ty = some (.slice elem)) (hi : (P.info? elem).isSome = true) {lo hi' mx : Option Operand} {lo' hi'' mx' : Option Opd}
    (hlo : compOpt lo = some lo') (hhi : compOpt hi' = some hi'') (hmx : compOpt mx = some mx') {t : Nat → V} {a : Act} (hs : ∀ i, RV N U w (t i) (a.tmps.getD i Go.undef) [])
    {n off len : Nat} {cx : Value} (hx : RV N U w (.sl n (sizeT P elem) off len) cx []) {l h : Int} (he : evBounds len (Opd.ev t) lo' hi'' mx' = some (true, l, h)) :
    ∃ c, (Instr.sliceAt ty cx (lo.map a.eval) (hi'.map a.eval) (mx.map a.eval)).run P w = .ok c w ∧
      RV N U w (.sl n (sizeT P elem) (off + l.toNat * sizeT P elem) (h - l).toNat) c [] := by
  cases hx with
  | slE _ _ hn =>
    obtain ⟨h0, h1, h2, m, h3, h4, h5, hr⟩ := bounds_run (P := P) (w := w) true (Nat.le_refl 0) hlo hhi hmx hs he
    refine ⟨_, slice_run hu hi hr, ?_⟩
    have e1 : l.toNat = 0 := by omega
    have e2 : h.toNat = 0 := by omega
    have e4 : (h - l).toNat = 0 := by omega
    have e5 : m = 0 := by omega
    rw [e1, e2, e4, e5]
    simp only [if_true, Nat.zero_mul, Nat.add_zero, Nat.sub_self]
    exact .slE _ _ hn
  | slZ _ _ _ b base o arr e fz hn hb ho hz' =>
    obtain ⟨h0, h1, h2, m, h3, h4, h5, hr⟩ := bounds_run (P := P) (w := w) true (Nat.le_refl 0) hlo hhi hmx hs he
    refine ⟨_, slice_run hu hi hr, ?_⟩
    have e1 : l.toNat = 0 := by omega
    have e2 : h.toNat = 0 := by omega
    have e4 : (h - l).toNat = 0 := by omega
    have e5 : m = 0 := by omega
    rw [e1, e2, e4, e5]
    simp only [if_true, Nat.sub_self]
    exact .slZ _ _ _ b base o arr e fz hn hb ho hz'
  | sl _ _ _ _ b base cap arr e fz hn hb hsz' hlc hm hz' =>
    obtain ⟨h0, h1, h2, m, h3, h4, h5, hr⟩ := bounds_run (P := P) (w := w) true hlc hlo hhi hmx hs he
    refine ⟨_, slice_run hu hi hr, ?_⟩
    have e3 : (h - l).toNat = h.toNat - l.toNat := by omega
    rw [e3]
    by_cases hz : m = l.toNat
    · have : h.toNat - l.toNat = 0 := by omega
      rw [this, if_pos hz, hz, Nat.sub_self]
      exact .slZ _ _ _ b base _ arr e fz hn hb (by omega) hz'
    · rw [if_neg hz]
      simp only [Option.map_some, addr_add]
      rw [Nat.add_assoc]
      have hmul : l.toNat * sizeT P elem + (m - l.toNat) * sizeT P elem ≤ cap * sizeT P elem := by
        rw [← Nat.add_mul]; exact Nat.mul_le_mul_right _ (by omega)
      exact .sl _ _ _ _ b base _ arr e fz hn hb (by omega) (by omega) (by omega) hz'
theorem sliN_run {elem ty : TypeId} (hu : P.underlying ty = some (.slice elem)) (hi : (P.info? elem).isSome = true) {lo hi' : Option Operand} {lo' hi'' : Option Opd}
    (hlo : compOpt lo = some lo') (hhi : compOpt hi' = some hi'') {t : Nat → V} {a : Act} (hs : ∀ i, RV N U w (t i) (a.tmps.getD i Go.undef) [])
    {l h : Int} (he : evBounds 0 (Opd.ev t) lo' hi'' none = some (true, l, h)) :
    (Instr.sliceAt ty (.slice none 0 0) (lo.map a.eval) (hi'.map a.eval) none).run P w = .ok (.slice none 0 0) w := by
  obtain ⟨h0, h1, h2, m, h3, h4, h5, hr⟩ := bounds_run (P := P) (w := w) true (Nat.le_refl 0) hlo hhi (mx := none) (mx' := none) rfl hs he
  have := slice_run hu hi (av := none) hr
  have e1 : l.toNat = 0 := by omega
  have e2 : h.toNat = 0 := by omega
  have e5 : m = 0 := by omega
  rw [e1, e2, e5] at this
  simpa using this
theorem sliT_run {ty : TypeId} (hu : P.underlying ty = some .string) {lo hi' : Option Operand} {lo' hi'' : Option Opd}
    (hlo : compOpt lo = some lo') (hhi : compOpt hi' = some hi'') {t : Nat → V} {a : Act} (hs : ∀ i, RV N U w (t i) (a.tmps.getD i Go.undef) [])
    {s : ByteArray} {l h : Int} (he : evBounds s.size (Opd.ev t) lo' hi'' none = some (true, l, h)) :
    (Instr.sliceAt ty (.string s) (lo.map a.eval) (hi'.map a.eval) none).run P w = .ok (.string (s.extract l.toNat h.toNat)) w := by
  obtain ⟨h0, h1, h2, m, h3, h4, h5, hr⟩ := bounds_run (P := P) (w := w) false (Nat.le_refl s.size) hlo hhi (mx := none) (mx' := none) rfl hs he
  simp only [Option.map_none] at hr
  simp [Instr.sliceAt, Instr.slice, run_underlying hu, hr]
end runs
end Go.Proofs.Ytkbgmkkboiihnaa
namespace Go.Proofs.Ytkbgmkkboiihnaa
open Go Go.RowKit

section ranges
variable {N : Nm} {U : Nat → Prop} {w : World}
theorem setRange_length {α : Type} (l : List α) (o : Nat) (vs : List α) : (setRange l o vs).length = l.length := by
  induction vs generalizing l o with
  | nil => rfl
  | cons v vs ih => simp [setRange, ih]
theorem RVs.setRange {cells : List V} {cs : List Value} {F : List Nat} (h : RVs N U w cells cs F) {vs : List V} {ds : List Value} (hv : RVs N U w vs ds []) {o : Nat} (ho : o + vs.length ≤ cells.length) :
    ∃ G, RVs N U w (setRange cells o vs) (Go.Proofs.Ytkbgmkkboiihnaa.setRange cs o ds) G ∧ List.Sublist G F := by
  induction vs generalizing cells cs F o ds with
  | nil => cases hv; exact ⟨F, h, List.Sublist.refl _⟩
  | cons v vs ih =>
    cases hv with
    | cons _ _ c cs' F' Fs _ h1 hs hE =>
      have e : F' = [] ∧ Fs = [] := by simpa using hE.symm
      obtain ⟨rfl, rfl⟩ := e
      simp only [List.length_cons] at ho
      obtain ⟨A, B, Fj, e1, h2⟩ := h.set (j := o) (by omega) h1
      obtain ⟨G, h3, h4⟩ := ih h2 hs (o := o + 1) (by rw [List.length_set]; omega)
      refine ⟨G, h3, h4.trans ?_⟩
      rw [e1]
      simp
theorem foldl_setRange (ds : List Value) : ∀ (k o : Nat) (cells : Array Value),
    ((ds.zipIdx k).foldl (fun cs (x : Value × Nat) => cs.setIfInBounds (o + x.2) x.1) cells).toList = setRange cells.toList (o + k) ds := by
  induction ds with
  | nil => intro k o cells; rfl
  | cons d ds ih =>
    intro k o cells
    simp only [List.zipIdx_cons, List.foldl_cons, setRange]
    rw [ih (k + 1) o, Array.toList_setIfInBounds]
    rfl
theorem foldlA_setRange (ds : Array Value) (o : Nat) (cells : Array Value) :
    (ds.zipIdx.foldl (fun cs (x : Value × Nat) => cs.setIfInBounds (o + x.2) x.1) cells).toList = setRange cells.toList o ds.toList := by
  have h := foldl_setRange ds.toList 0 o cells
  rw [Nat.add_zero] at h
  rw [← h, ← Array.foldl_toList]
  simp
theorem RV.cells {v : V} {c : Value} (h : RV N U w v c []) (hv : v.cells.all V.cell = true) : RVs N U w v.cells c.cells.toList [] := by
  cases h <;> first
    | (simp [V.cells, V.cell] at hv; done)
    | (simp only [V.cells, Value.cells]; exact .cons _ _ _ _ [] [] _ (by first | exact .int _ _ | exact .bool _ | exact .str _ | exact .nil | (constructor <;> assumption)) .nil rfl)
    | skip
  case agg parts cs h => simpa [V.cells, Value.cells] using h
theorem V.cells_length {v : V} {c : Value} {F : List Nat} (h : RV N U w v c F) (hv : v.cells.all V.cell = true) : c.cells.size = v.cells.length := by
  cases h <;> first
    | (simp [V.cells, V.cell] at hv; done)
    | (simp [V.cells, Value.cells]; done)
    | skip
  case agg parts cs h => simpa [V.cells, Value.cells] using h.len
theorem RVs.cells1 {vs : List V} {cs : List Value} (h : RVs N U w vs cs []) (hv : vs.all V.cell = true) : ∀ c ∈ cs, c.oneCell' = true := (h.cell_nil hv).2

/-- Parts of a composite literal: the model's and ours. -/
inductive PR (N : Nm) (U : Nat → Prop) (w : World) (f : Nat → Option (Nat × Nat)) : List (Nat × Value) → List (Nat × Nat × V) → Prop
  | nil : PR N U w f [] []
  | cons (i : Nat) (c : Value) (o s : Nat) (v : V) (r : List (Nat × Value)) (r' : List (Nat × Nat × V)) (hf : f i = some (o, s)) (h : RV N U w v c []) (hr : PR N U w f r r') :
      PR N U w f ((i, c) :: r) ((o, s, v) :: r')
theorem compParts_ok {f : Nat → Option (Nat × Nat)} {ps : List (Nat × Operand)} {qs : List (Nat × Nat × Opd)} (h : compParts f ps = some qs) {t : Nat → V} {a : Act}
    (hs : ∀ i, RV N U w (t i) (a.tmps.getD i Go.undef) []) : PR N U w f (ps.map fun (i, x) => (i, a.eval x)) (qs.map fun (o, s, x) => (o, s, x.ev t)) := by
  induction ps generalizing qs with
  | nil => simp [compParts] at h; subst h; exact .nil
  | cons p ps ih =>
    obtain ⟨i, x⟩ := p
    unfold compParts at h
    split at h
    · rename_i o s x' xs h1 h2 h3
      simp at h
      subst h
      exact .cons _ _ _ _ _ _ _ h1 (compOpd_ok h2 hs) (ih h3)
    · simp at h
theorem fill_ok {f : Nat → Option (Nat × Nat)} {ps : List (Nat × Value)} {qs : List (Nat × Nat × V)} (h : PR N U w f ps qs) : ∀ {cells : List V} {cs : Array Value} {cells' : List V},
    RVs N U w cells cs.toList [] → fillRange cells qs = some cells' → ∃ cs', Instr.fill f cs ps = some cs' ∧ RVs N U w cells' cs'.toList [] := by
  induction h with
  | nil => intro cells cs cells' hc he; simp [fillRange] at he; subst he; exact ⟨cs, rfl, hc⟩
  | cons i c o s v r r' hf h hr ih =>
    intro cells cs cells' hc he
    unfold fillRange at he
    split at he
    · rename_i hcond
      obtain ⟨h1, h2, h3⟩ := hcond
      have hl := V.cells_length h h3
      have hcl := hc.len
      simp only [Array.length_toList] at hcl
      have hg := h.cells h3
      obtain ⟨G, g1, g2⟩ := hc.setRange hg (o := o) (by omega)
      have : G = [] := List.eq_nil_of_length_eq_zero (by have := g2.length_le; simpa using this)
      subst this
      rw [← foldlA_setRange] at g1
      obtain ⟨cs', e1, e2⟩ := ih g1 he
      refine ⟨cs', ?_, e2⟩
      unfold Instr.fill
      simp only [hf]
      rw [if_neg (by simp [hl, h1]; omega)]
      exact e1
    · simp at he
end ranges
end Go.Proofs.Ytkbgmkkboiihnaa
namespace Go.Proofs.Ytkbgmkkboiihnaa
open Go Go.RowKit

section dr
variable {N : Nm} {U U' : Nat → Prop} {w : World}
theorem RVs.mapD {g : V → V} {vs : List V} {cs : List Value} {F : List Nat} (h : RVs N U w vs cs F) (hg : ∀ v c G, v ∈ vs → RV N U w v c G → (∀ b ∈ G, b ∈ F) → RV (fun _ => none) U' w (g v) c []) : RVs (fun _ => none) U' w (vs.map g) cs [] := by
  induction vs generalizing cs F with
  | nil => cases h; exact .nil
  | cons v vs ih =>
    cases h with
    | cons _ _ c cs F Fs _ h hs hE =>
      subst hE
      exact .cons _ _ _ _ [] [] _ (hg _ _ _ (by simp) h (fun b hb => by simp [hb])) (ih hs (fun v c G hv hr hsub => hg v c G (by simp [hv]) hr (fun b hb => by simp [hsub b hb]))) rfl
theorem heap_lt {b : Nat} {o : Obj} (h : w.heap[b]? = some o) : b < w.heap.size := (Array.getElem?_eq_some_iff.1 h).1
theorem dr_ok {H : List (Nat × List V)} {T : List Nat} (hh : RH N U w H T) (hU : ∀ b, U b → U' b) : ∀ (k : Nat) (v : V) (c : Value) (F : List Nat),
    (((∀ b ∈ T, U' b) ∧ (∀ b ∈ F, U' b)) ∨ noname k v = true) → RV N U w v c F → RV (fun _ => none) U' w (dr H k v) c [] := by
  intro k
  induction k with
  | zero => intro v c F _ _; exact .undef _
  | succ k ih =>
    intro v c F hn h
    have sub : ∀ (cells : List V) (cs : List Value) (G : List Nat), (((∀ b ∈ T, U' b) ∧ (∀ b ∈ G, U' b)) ∨ cells.all (noname k) = true) → RVs N U w cells cs G → RVs (fun _ => none) U' w (cells.map (dr H k)) cs [] := by
      intro cells cs G hc hv
      refine hv.mapD fun v c G' hm hr hsub => ih v c G' ?_ hr
      rcases hc with hc | hc
      · exact .inl ⟨hc.1, fun b hb => hc.2 b (hsub b hb)⟩
      · exact .inr (List.all_eq_true.1 hc v hm)
    cases h with
    | undef => exact .undef _
    | ub => exact .ub _
    | nfn => exact .nfn
    | int => exact .int _ _
    | bool => exact .bool _
    | str => exact .str _
    | nil => exact .listE _ _ _
    | listE => exact .listE _ _ _
    | list sz cells b o len cap cs hUb hl hlc hm hz hc hv =>
      exact .list sz _ b o len cap cs (hU b hUb) (by simpa using hl) hlc hm hz hc (sub cells cs [] (hn.imp (fun h => ⟨h.1, by simp⟩) (fun h => by simpa [noname] using h)) hv)
    | ownE => exact .listE _ _ _
    | own sz cells b o len cap arr e cs F FF hb hl hs hlc hm hz hc hv hF =>
      rcases hn with hn | hn
      · subst hF
        refine .list sz _ b o len cap cs (hn.2 b (by simp)) (by simpa using hl) hlc (by omega) hz (fun j c hj => by rw [cell_of_arr hb]; exact hc j c hj) (sub cells cs F (.inl ⟨hn.1, fun x hx => hn.2 x (by simp [hx])⟩) hv)
      · simp [noname] at hn
    | agg parts cs F hv => exact .agg _ cs [] (sub parts cs F (hn.imp id (fun h => by simpa [noname] using h)) hv)
    | tup parts cs F hv => exact .undef _
    | sl n sz off len b base cap arr e fz hN hb hs hlc hm hz =>
      rcases hn with hn | hn
      · simp only [dr]
        split
        · rename_i cells hg
          split
          · rename_i hle
            rcases hh.get hg with ⟨h1, _⟩ | ⟨b', base', arr', e', cs, F, A, B, h1, h2, h3, h4, h5⟩
            · rw [hN] at h1; simp at h1
            · rw [hN] at h1
              simp at h1
              obtain ⟨rfl, rfl⟩ := h1
              have e0 : cells = cells.take off ++ ((cells.drop off).take (len * sz) ++ (cells.drop off).drop (len * sz)) := by rw [List.take_append_drop, List.take_append_drop]
              have h4' := h4
              rw [e0] at h4'
              obtain ⟨c1, c2, F1, F2, rfl, rfl, g1, g2⟩ := h4'.split
              obtain ⟨c3, c4, F3, F4, rfl, rfl, g3, g4⟩ := g2.split
              have l1 := g1.len
              rw [List.length_take] at l1
              have hbT : b ∈ T := by rw [h5]; simp
              have hF3 : ∀ x ∈ F3, U' x := fun x hx => hn.1 x (by rw [h5]; simp [hx])
              refine .list sz _ b (base + off) len cap c3 (hn.1 b hbT) (by simp; omega) hlc (by omega) hz (fun j c hj => ?_) (sub _ c3 F3 (.inl ⟨hn.1, hF3⟩) g3)
              rw [cell_of_arr h2, Nat.add_assoc]
              refine h3 (off + j) c ?_
              rw [List.getElem?_append_right (by omega), List.getElem?_append_left (by have := (List.getElem?_eq_some_iff.1 hj).1; omega)]
              rw [show off + j - c1.length = j by omega]; exact hj
          · exact .undef _
        · exact .undef _
      · simp [noname] at hn
    | slE n sz hN =>
      simp only [dr]
      split
      · split
        · simp only [Nat.zero_mul, List.take_zero, List.map_nil]; exact .listE _ _ _
        · exact .undef _
      · exact .undef _
    | slZ n sz off b base o arr e fz hN hb ho hz =>
      simp only [dr]
      split
      · split
        · simp only [Nat.zero_mul, List.take_zero, List.map_nil]; exact .listE _ _ _
        · exact .undef _
      · exact .undef _
    | pt n off b base hN =>
      rcases hn with hn | hn
      · simp only [dr]
        split
        · rename_i cells hg
          rcases hh.get hg with ⟨h1, _⟩ | ⟨b', base', arr', e', cs, F, A, B, h1, h2, h3, h4, h5⟩
          · rw [hN] at h1; simp at h1
          · rw [hN] at h1
            simp at h1
            obtain ⟨rfl, rfl⟩ := h1
            have h4' := h4
            rw [← List.take_append_drop off cells] at h4'
            obtain ⟨c1, c2, F1, F2, rfl, rfl, g1, g2⟩ := h4'.split
            have l1 := g1.len
            have l2 := g2.len
            rw [List.length_take] at l1
            rw [List.length_drop] at l2
            have hbT : b ∈ T := by rw [h5]; simp
            have hF2 : ∀ x ∈ F2, U' x := fun x hx => hn.1 x (by rw [h5]; simp [hx])
            refine .rp _ b (base + off) c2 (hn.1 b hbT) (fun j c hj => ?_) (sub _ c2 F2 (.inl ⟨hn.1, hF2⟩) g2)
            rw [cell_of_arr h2, Nat.add_assoc]
            refine h3 (off + j) c ?_
            have := (List.getElem?_eq_some_iff.1 hj).1
            rw [List.getElem?_append_right (by omega), show off + j - c1.length = j by omega]
            exact hj
        · exact .undef _
      · simp [noname] at hn
    | rp cells b o cs hUb hc hv => exact .rp _ b o cs (hU b hUb) hc (sub cells cs [] (hn.imp (fun h => ⟨h.1, by simp⟩) (fun h => by simpa [noname] using h)) hv)
    | fn f caps cs hv => exact .fn f _ cs (sub caps cs [] (hn.imp (fun h => ⟨h.1, by simp⟩) (fun h => by simpa [noname] using h)) hv)

theorem RVs.mapN {N' : Nm} {vs : List V} {cs : List Value} {F : List Nat} (h : RVs N U w vs cs F) (hg : ∀ v c G, v ∈ vs → RV N U w v c G → RV N' U' w v c G) : RVs N' U' w vs cs F := by
  induction vs generalizing cs F with
  | nil => cases h; exact .nil
  | cons v vs ih =>
    cases h with
    | cons _ _ c cs F Fs _ h hs hE => exact .cons _ _ _ _ F Fs _ (hg _ _ _ (by simp) h) (ih hs (fun v c G hv => hg v c G (by simp [hv]))) hE
/-- A value without slices that only read does not care for what may be read. -/
theorem nolist_ok {N' : Nm} (hN : ∀ n l, N n = some l → N' n = some l) : ∀ (k : Nat) (v : V) (c : Value) (F : List Nat), nolist k v = true → RV N U w v c F → RV N' U' w v c F := by
  intro k
  induction k with
  | zero => intro v c F hn h; simp [nolist] at hn
  | succ k ih =>
    intro v c F hn h
    have sub : ∀ (cells : List V), cells.all (nolist k) = true → ∀ (cs : List Value) (G : List Nat), RVs N U w cells cs G → RVs N' U' w cells cs G := by
      intro cells hc cs G hv
      exact hv.mapN fun v c G' hm hr => ih v c G' (List.all_eq_true.1 hc v hm) hr
    cases h with
    | undef => exact .undef _
    | ub => exact .ub _
    | nfn => exact .nfn
    | int => exact .int _ _
    | bool => exact .bool _
    | str => exact .str _
    | nil => exact .nil
    | listE => exact .listE _ _ _
    | list => simp [nolist] at hn
    | ownE => exact .ownE _
    | own sz cells b o len cap arr e cs F FF hb hl hs hlc hm hz hc hv hF =>
      exact .own sz cells b o len cap arr e cs F _ hb hl hs hlc hm hz hc (sub cells (by simpa [nolist] using hn) cs F hv) hF
    | agg parts cs F hv => exact .agg _ cs F (sub parts (by simpa [nolist] using hn) cs F hv)
    | tup parts cs F hv => exact .tup _ cs F (sub parts (by simpa [nolist] using hn) cs F hv)
    | sl n sz off len b base cap arr e fz h1 hb hs hlc hm hz => exact .sl n sz off len b base cap arr e fz (hN _ _ h1) hb hs hlc hm hz
    | slE n sz h1 => exact .slE n sz (hN _ _ h1)
    | slZ n sz off b base o arr e fz h1 hb ho hz => exact .slZ n sz off b base o arr e fz (hN _ _ h1) hb ho hz
    | pt n off b base h1 => exact .pt n off b base (hN _ _ h1)
    | rp => simp [nolist] at hn
    | fn => simp [nolist] at hn
end dr

/-- Blocks that are new between two worlds. -/
def Fresh (w w' : World) (F : List Nat) : Prop := F.Nodup ∧ ∀ b ∈ F, w.heap.size ≤ b ∧ b < w'.heap.size
/-- What may be read behind a call: what could be read before, and what is new but for 'F'. -/
def Uf (U : Nat → Prop) (w w' : World) (F : List Nat) : Nat → Prop := fun b => U b ∨ (w.heap.size ≤ b ∧ b < w'.heap.size ∧ b ∉ F)

/-- What a function that only reads makes of its arguments. -/
def Pure (P : Program) (f : FuncId) (args : List V) (r : V) : Prop :=
  ∀ (U : Nat → Prop) (w : World) (cargs : List Value), (∀ b, U b → b < w.heap.size) → RVs (fun _ => none) U w args cargs [] →
    Calls P f cargs.toArray w fun e w' => ∃ c F, e = .returned c ∧ Fresh w w' F ∧ RV (fun _ => none) (Uf U w w' F) w' r c F ∧ Below w.heap.size w w'

def Callable (P : Program) (f : FuncId) : Prop := ∃ fd, P.funcs[f]? = some fd ∧ fd.body.isNone = false ∧ (fd.name == "runtime.NumGoroutine") = false

structure FnOk (P : Program) (f : FuncId) (F : List V → Option V) : Prop where
  fn : Callable P f
  ok : ∀ args r, F args = some r → Pure P f args r

/-- A world that keeps all blocks but some. -/
structure KeepBut (T : List Nat) (w w' : World) : Prop where
  os : w'.os = w.os
  tape : w'.tape = w.tape
  output : w'.output = w.output
  size : w.heap.size ≤ w'.heap.size
  block : ∀ b, b < w.heap.size → b ∉ T → w'.heap[b]? = w.heap[b]?
  shape : ∀ b, b < w.heap.size → ShapeAt w w' b

/-- What a function makes that writes into the row of name 0. -/
def Lend (P : Program) (f : FuncId) (args : List V) (cells : List V) (r : V) (cells' : List V) : Prop :=
  ∀ (l : Loc) (U : Nat → Prop) (w : World) (cargs : List Value) (T : List Nat), (∀ b, U b → b < w.heap.size ∧ b ∉ T) → T.Nodup →
    RVs (fun n => if n = 0 then some l else none) U w args cargs [] → RH (fun n => if n = 0 then some l else none) U w [(0, cells)] T →
    Calls P f cargs.toArray w fun e w' => ∃ c F T', e = .returned c ∧ (F ++ T').Nodup ∧ (∀ b ∈ F ++ T', b ∈ T ∨ (w.heap.size ≤ b ∧ b < w'.heap.size)) ∧
      RV (fun n => if n = 0 then some l else none) (fun b => U b ∨ (w.heap.size ≤ b ∧ b < w'.heap.size ∧ b ∉ F ++ T')) w' r c F ∧
      RH (fun n => if n = 0 then some l else none) (fun b => U b ∨ (w.heap.size ≤ b ∧ b < w'.heap.size ∧ b ∉ F ++ T')) w' [(0, cells')] T' ∧ KeepBut T w w'
structure LendOk (P : Program) (f : FuncId) (i : Nat) (G : List V → List V → Option (V × List V)) : Prop where
  fn : Callable P f
  ok : ∀ args cells r cells', G args cells = some (r, cells') → Lend P f args cells r cells'

structure EnvOk (P : Program) (Γ : Env) : Prop where
  p : ∀ x ∈ Γ.p, FnOk P x.1 x.2
  l : ∀ x ∈ Γ.l, LendOk P x.1 x.2.1 x.2.2
theorem EnvOk.look {P : Program} {Γ : Env} (h : EnvOk P Γ) {f : FuncId} {F : List V → Option V} (he : lookp Γ.p f = some F) : FnOk P f F := by
  have key : ∀ (l : List (FuncId × (List V → Option V))), (∀ x ∈ l, FnOk P x.1 x.2) → lookp l f = some F → FnOk P f F := by
    intro l
    induction l with
    | nil => intro _ hq; simp [lookp] at hq
    | cons x r ih =>
      intro hx hq
      obtain ⟨g, G⟩ := x
      unfold lookp at hq
      split at hq
      · rename_i e; subst e; injection hq with hq; subst hq; exact hx (g, G) (by simp)
      · exact ih (fun y hy => hx y (by simp [hy])) hq
  exact key _ h.p he
theorem EnvOk.lookl {P : Program} {Γ : Env} (h : EnvOk P Γ) {f : FuncId} {i : Nat} {G : List V → List V → Option (V × List V)} (he : lookl Γ.l f = some (i, G)) : LendOk P f i G := by
  have key : ∀ (l : List (FuncId × Nat × (List V → List V → Option (V × List V)))), (∀ x ∈ l, LendOk P x.1 x.2.1 x.2.2) → Go.Proofs.Ytkbgmkkboiihnaa.lookl l f = some (i, G) → LendOk P f i G := by
    intro l
    induction l with
    | nil => intro _ hq; simp [Go.Proofs.Ytkbgmkkboiihnaa.lookl] at hq
    | cons x r ih =>
      intro hx hq
      obtain ⟨g, j, G'⟩ := x
      unfold Go.Proofs.Ytkbgmkkboiihnaa.lookl at hq
      split at hq
      · rename_i e; subst e; injection hq with hq; injection hq with h1 h2; subst h1; subst h2; exact hx (g, j, G') (by simp)
      · exact ih (fun y hy => hx y (by simp [hy])) hq
  exact key _ h.l he
theorem callable_run {P : Program} {f : FuncId} (h : Callable P f) (args : Array Value) (w : World) : (callFunc f args).run P w = .ok (.enter f args) w := by
  obtain ⟨fd, h1, h2, h3⟩ := h
  simp only [callFunc, Sem.run_bind, run_program, Result.andThen_ok, h1]
  simp only [h3, h2, Bool.false_eq_true, if_false]
  rfl
end Go.Proofs.Ytkbgmkkboiihnaa
namespace Go.Proofs.Ytkbgmkkboiihnaa
open Go Go.RowKit

def Slots (N : Nm) (U : Nat → Prop) (w : World) (t : Nat → V) (a : Act) : Prop := ∀ i, RV N U w (t i) (a.tmps.getD i Go.undef) []

section
variable {P : Program} {N : Nm} {U : Nat → Prop} {w : World}
theorem kept_refl (N : Nm) {U U' : Nat → Prop} (w : World) (h : ∀ b, U b → U' b) : Kept N N U U' w w := ⟨fun b hb => ⟨rfl, h b hb⟩, fun _ _ h => h, fun _ _ _ _ => SameAt.shape rfl⟩
theorem wp_value {o : Oper} {a : Act} {K : Act → World → Prop} {Q : Exit → Act → World → Prop} {c : Value} {w' : World} (h : (execOp a.eval o).run P w = .ok (.value c) w') (hK : K (a.put o.dst c) w') : o.wp P a w K Q := by
  unfold Oper.wp
  rw [h]
  exact hK
theorem wp_skip' {o : Oper} {a : Act} {K : Act → World → Prop} {Q : Exit → Act → World → Prop} {w' : World} (h : (execOp a.eval o).run P w = .ok .skip w') (hK : K (a.put o.dst Go.undef) w') : o.wp P a w K Q := by
  unfold Oper.wp
  rw [h]
  exact hK
theorem getD_mem {α : Type} {l : List α} {i : Nat} (h : i < l.length) (d : α) : l[i]? = some (l.getD i d) := by simp [List.getD, List.getElem?_eq_getElem h]

theorem fad_run {s : TypeId} {fields : Array Field} (hu : P.underlying s = some (.struct fields)) {f : Nat} {fd : Field} (hf : fields[f]? = some fd) (hi : (P.info? fd.type).isSome = true) (hz : 0 < sizeT P fd.type) (b o : Nat) :
    (Instr.fieldAt s (.pointer (some ⟨b, o, none⟩)) f).run P w = .ok (.pointer (some ⟨b, o + fd.offset, none⟩)) w := by
  have h0 : ¬ (sizeT P fd.type = 0) := by omega
  simp [Instr.fieldAt, run_underlying hu, hf, Instr.sureAddr, fieldPlace, info_size hi, h0, addr_add]
theorem idx_run {t e : TypeId} (hu : P.underlying t = some (.slice e)) (hi : (P.info? e).isSome = true) (b o len cap : Nat) (k : IntKind) {i : Int} (h0 : 0 ≤ i) (h1 : i < len) :
    (Instr.indexAt t (.slice (some ⟨b, o, none⟩) len cap) (.int k i)).run P w = .ok (.pointer (some ⟨b, o + i.toNat * sizeT P e, none⟩)) w := by
  simp [Instr.indexAt, run_underlying hu, asIntOf, h0, h1, info_size hi, addr_add]
theorem idxa_run {t e : TypeId} {n : Nat} (hu : P.underlying t = some (.array n e)) (hi : (P.info? e).isSome = true) (b o : Nat) (k : IntKind) {i : Int} (h0 : 0 ≤ i) (h1 : i < n) :
    (Instr.indexAt t (.pointer (some ⟨b, o, none⟩)) (.int k i)).run P w = .ok (.pointer (some ⟨b, o + i.toNat * sizeT P e, none⟩)) w := by
  simp [Instr.indexAt, run_underlying hu, asIntOf, h0, h1, info_size hi, addr_add, Instr.sureAddr]
theorem ixs_run {t : TypeId} (hu : P.underlying t = some .string) (s : ByteArray) (k : IntKind) {i : Int} (h0 : 0 ≤ i) (h1 : i < s.size) :
    (Instr.index t (.string s) (.int k i)).run P w = .ok (.int .u8 ((s.data.toList.getD i.toNat 0).toNat : Int)) w := by
  have h2 : i.toNat < s.size := by omega
  have h3 : s[i.toNat]? = some (s.data.toList.getD i.toNat 0) := by
    have h4 : i.toNat < s.data.toList.length := by simpa using h2
    rw [List.getD, List.getElem?_eq_getElem h4]
    simp only [Option.getD_some]
    rw [getElem?_pos s i.toNat h2]
    rfl
  simp [Instr.index, run_underlying hu, asIntOf, h0, h3]
theorem fld1_run {t : TypeId} {fields : Array Field} (hu : P.underlying t = some (.struct fields)) {f : Nat} {fd : Field} (hf : fields[f]? = some fd) (ha : aggB P fd.type = some false) {parts : List V} {c : Value}
    (hx : RV N U w (.agg parts) c []) (ho : fd.offset < parts.length) (d : V) : ∃ c', (Instr.field t c f).run P w = .ok c' w ∧ RV N U w (parts.getD fd.offset d) c' [] := by
  cases hx with
  | agg _ cs _ h =>
    obtain ⟨c', g1, g2⟩ := h.get0 (getD_mem ho d)
    refine ⟨c', ?_, g2⟩
    simp [Instr.field, run_underlying hu, hf, asAgg, part, run_isAgg ha, g1]
theorem fldn_run {t : TypeId} {fields : Array Field} (hu : P.underlying t = some (.struct fields)) {f : Nat} {fd : Field} (hf : fields[f]? = some fd) (ha : aggB P fd.type = some true) {i : TypeInfo} (hi : P.info? fd.type = some i)
    {parts : List V} {c : Value} (hx : RV N U w (.agg parts) c []) :
    ∃ c', (Instr.field t c f).run P w = .ok c' w ∧ RV N U w (.agg ((parts.drop fd.offset).take i.size)) c' [] := by
  cases hx with
  | agg _ cs _ h =>
    refine ⟨.agg ((cs.drop fd.offset).take i.size).toArray, ?_, .agg _ _ [] ((h.drop _).take _)⟩
    simp [Instr.field, run_underlying hu, hf, asAgg, part, run_isAgg ha, sizeOf, typeInfo, hi, List.take_drop]
theorem ext_run {vs : List V} {c : Value} (hx : RV N U w (.tup vs) c []) {i : Nat} (ho : i < vs.length) (d : V) : ∃ c', (Instr.extract c i).run P w = .ok c' w ∧ RV N U w (vs.getD i d) c' [] := by
  cases hx with
  | tup _ cs _ h =>
    obtain ⟨c', g1, g2⟩ := h.get0 (getD_mem ho d)
    exact ⟨c', by simp [Instr.extract, g1], g2⟩
theorem zeroL_run {t : TypeId} {z : List V} (h : zeroL P t = some z) (w : World) : ∃ zv : Value, (zeroValue t).run P w = .ok zv w ∧ RVs N U w z zv.cells.toList [] ∧ z.all V.cell = true ∧ (∃ i, P.info? t = some i ∧ i.zero = some zv) := by
  unfold zeroL at h
  split at h
  · rename_i i hi
    split at h
    · rename_i zv hz
      exact ⟨zv, by simp [zeroValue, typeInfo, hi, hz], constL_ok h, constL_cell h, i, hi, hz⟩
    · simp at h
  · simp at h
theorem places_run {fields : Array Field} (h : ∀ f ∈ fields, (P.info? f.type).isSome = true) (w : World) :
    (fields.mapM fun f => do pure (f.offset, ← sizeOf f.type) : Sem (Array (Nat × Nat))).run P w = .ok (fields.map fun f => (f.offset, sizeT P f.type)) w := by
  have key : ∀ (l : List Field), (∀ f ∈ l, (P.info? f.type).isSome = true) → (l.mapM fun f => do pure (f.offset, ← sizeOf f.type) : Sem (List (Nat × Nat))).run P w = .ok (l.map fun f => (f.offset, sizeT P f.type)) w := by
    intro l
    induction l with
    | nil => intro _; rfl
    | cons f l ih =>
      intro hl
      rw [List.mapM_cons]
      simp only [Sem.run_bind, info_size (hl f (by simp)), Result.andThen_ok, Sem.run_pure, ih (fun g hg => hl g (by simp [hg])), List.map_cons]
  have := key fields.toList (fun f hf => h f (by simpa using hf))
  rw [Array.mapM_eq_mapM_toList]
  simp only [Sem.run_map, this, Result.andThen_ok, Result.ok.injEq, and_true]
  apply Array.ext'
  simp
theorem build_run {t : TypeId} {z : List V} {f : Nat → Option (Nat × Nat)} (hz : zeroL P t = some z) (hf : placesT P t = some f) {ps : Array (Nat × Value)} {qs : List (Nat × Nat × V)} (hp : PR N U w f ps.toList qs)
    {cells : List V} (he : fillRange z qs = some cells) : ∃ c, (Instr.build t ps).run P w = .ok c w ∧ RV N U w (.agg cells) c [] := by
  obtain ⟨zv, h1, h2, h3, _⟩ := zeroL_run (P := P) (N := N) (U := U) hz w
  obtain ⟨cs', g1, g2⟩ := fill_ok hp h2 he
  refine ⟨.agg cs', ?_, by simpa using RV.agg cells cs'.toList [] g2⟩
  unfold placesT at hf
  split at hf
  · rename_i fields hu
    split at hf
    · rename_i hall
      simp at hf
      subst hf
      have hall' : ∀ x ∈ fields, (P.info? x.type).isSome = true := by
        intro x hx
        obtain ⟨i, hi, rfl⟩ := Array.mem_iff_getElem.1 hx
        simp at hall
        exact hall i hi
      have hpl := places_run (P := P) hall' w
      have hfun : (fun i : Nat => (fields.map fun f : Field => (f.offset, sizeT P f.type))[i]?) = (fun i => (fields[i]?).map fun f : Field => (f.offset, sizeT P f.type)) := by
        funext i; simp
      simp only [Instr.build, Sem.run_bind, h1, Result.andThen_ok, run_underlying hu, hpl]
      rw [hfun, g1]
      rfl
    · simp at hf
  · rename_i n e hu
    split at hf
    · rename_i hi
      simp at hf
      subst hf
      simp only [Instr.build, Sem.run_bind, h1, Result.andThen_ok, run_underlying hu, info_size hi]
      rw [g1]
      rfl
    · simp at hf
  · simp at hf
theorem opt_map {α β : Type} {f : α → β} {x : Option α} {y : β} (h : x.map f = some y) : ∃ a, x = some a ∧ f a = y := by
  cases x with
  | none => simp at h
  | some a => exact ⟨a, rfl, by simpa using h⟩

theorem args_ok {H : List (Nat × List V)} {T : List Nat} (hh : RH N U w H T) {U' : Nat → Prop} (hU : ∀ b, U b → U' b) {os : List Operand} {xs : List Opd} (h : compOpds os = some xs) {t : Nat → V} {a : Act} (hs : Slots N U w t a) (k : Nat)
    (hn : (∀ b ∈ T, U' b) ∨ (xs.all fun x => noname k (x.ev t)) = true) : RVs (fun _ => none) U' w (xs.map fun x => dr H k (x.ev t)) (os.map a.eval) [] := by
  have := compOpds_ok (N := N) (U := U) (w := w) h hs
  have e : (xs.map fun x => dr H k (x.ev t)) = (xs.map (Opd.ev t)).map (dr H k) := by simp
  rw [e]
  refine this.mapD fun v c G hm hr hG => dr_ok hh hU k v c G ?_ hr
  rcases hn with hn | hn
  · exact .inl ⟨hn, fun b hb => absurd (hG b hb) (by simp)⟩
  · right
    rw [List.all_eq_true] at hn
    obtain ⟨x, hx, rfl⟩ := List.mem_map.1 hm
    exact hn x hx

/-- The end of a call: what its result is to the caller. -/
theorem call_back {r : V} {c : Value} {F : List Nat} {U' : Nat → Prop} {w' : World} (hr : RV (fun _ => none) (Uf U' w w' F) w' r c F) (h : nolist 6 r = true ∨ ∀ b, U' b → U b) : RV N (Uf U w w' F) w' r c F := by
  rcases h with h | h
  · exact nolist_ok (by simp) 6 r c F h hr
  · refine hr.kept ⟨fun b hb => ⟨rfl, ?_⟩, by simp, by simp⟩ (fun _ _ => rfl)
    rcases hb with hb | hb
    · exact .inl (h b hb)
    · exact .inr hb

theorem pure_wp {o : Oper} {a : Act} {K : Act → World → Prop} {Q : Exit → Act → World → Prop} {f : FuncId} {cargs : List Value} {args : List V} {r : V} (hrun : (execOp a.eval o).run P w = .ok (.enter f cargs.toArray) w)
    {U' : Nat → Prop} (hU' : ∀ b, U' b → b < w.heap.size) (ha : RVs (fun _ => none) U' w args cargs []) (hp : Pure P f args r) (h : nolist 6 r = true ∨ ∀ b, U' b → U b)
    (hK : ∀ c w' F, Below w.heap.size w w' → Fresh w w' F → RV N (Uf U w w' F) w' r c F → K (a.put o.dst c) w') : o.wp P a w K Q := by
  unfold Oper.wp
  rw [hrun]
  show Calls P f cargs.toArray w _
  refine (hp U' w cargs hU' ha).mono ?_
  rintro e w' ⟨c, F, rfl, hF, hr, hb⟩
  exact hK c w' F hb hF (call_back hr h)

set_option maxHeartbeats 1000000 in
/-- One quiet operation. -/
theorem evQ_wp {Γ : Env} (hΓ : EnvOk P Γ) {o : Oper} {so : SO} (hc : compOp P o = some so) {a : Act} {t : Nat → V} (hs : Slots N U w t a) {H : List (Nat × List V)} {T : List Nat} (hh : RH N U w H T) (hU : ∀ b, U b → b < w.heap.size) (hTl : ∀ b ∈ T, b < w.heap.size)
    {v : V} (he : evQ Γ H (Opd.ev t) so = some (true, v)) {K : Act → World → Prop} {Q : Exit → Act → World → Prop}
    (hK : ∀ c w' F, Below w.heap.size w w' → Fresh w w' F → RV N (Uf U w w' F) w' v c F → K (a.put o.dst c) w') : o.wp P a w K Q := by
  have fin : ∀ c, (execOp a.eval o).run P w = .ok (.value c) w → RV N U w v c [] → o.wp P a w K Q := fun c h1 h2 =>
    wp_value h1 (hK c w [] (Below.refl _ _) ⟨List.nodup_nil, by simp⟩ (h2.kept (kept_refl N w fun b hb => .inl hb) (by simp)))
  have lift : ∀ (s : Sem Value) c, s.run P w = .ok c w → ((do pure (.value (← s))) : Sem Next).run P w = .ok (.value c) w := fun s c h => by simp [h]
  unfold compOp at hc
  split at hc
  case h_1 x ho =>
    obtain ⟨x', hx, rfl⟩ := opt_map hc
    simp only [evQ, Option.some.injEq, Prod.mk.injEq, true_and] at he
    subst he
    exact fin _ (by simp [execOp, ho]) (compOpd_ok hx hs)
  case h_2 x ho =>
    obtain ⟨x', hx, rfl⟩ := opt_map hc
    simp only [evQ, Option.some.injEq, Prod.mk.injEq, true_and] at he
    subst he
    exact fin _ (by simp [execOp, ho]) (compOpd_ok hx hs)
  case h_3 c x y ho =>
    split at hc
    · rename_i c' x' y' h1 h2 h3
      simp only [Option.some.injEq] at hc
      subst hc
      have g1 := compOpd_ok h1 hs
      simp only [evQ] at he
      split at he
      · rename_i hb
        rw [hb] at g1
        obtain ⟨e1, _⟩ := g1.bool_inv
        simp only [Option.some.injEq, Prod.mk.injEq, true_and] at he
        subst he
        exact fin _ (by simp [execOp, ho, e1, asBool]) (compOpd_ok h2 hs)
      · rename_i hb
        rw [hb] at g1
        obtain ⟨e1, _⟩ := g1.bool_inv
        simp only [Option.some.injEq, Prod.mk.injEq, true_and] at he
        subst he
        exact fin _ (by simp [execOp, ho, e1, asBool]) (compOpd_ok h3 hs)
      · simp at he
    · simp at hc
  case h_4 ty ho => obtain ⟨z, _, rfl⟩ := opt_map hc; simp [evQ] at he
  case h_5 ty x ho => obtain ⟨z, _, rfl⟩ := opt_map hc; simp [evQ] at he
  case h_6 ty parts ho =>
    split at hc
    · rename_i z f h1 h2
      obtain ⟨qs, h3, rfl⟩ := opt_map hc
      simp only [evQ] at he
      split at he
      · rename_i cells h4
        simp only [Option.some.injEq, Prod.mk.injEq, true_and] at he
        subst he
        have g := compParts_ok h3 hs
        obtain ⟨c, r1, r2⟩ := build_run (P := P) (N := N) (U := U) (w := w) (ps := parts.map fun (i, x) => (i, a.eval x)) h1 h2 (by simpa using g) h4
        refine fin c ?_ r2
        simp only [execOp, ho]
        exact lift _ _ r1
      · simp at he
    · simp at hc
  case h_7 ty n parts ho =>
    split at hc
    · split at hc
      · split at hc
        · obtain ⟨z, _, rfl⟩ := opt_map hc; simp [evQ] at he
        · simp at hc
      · simp at hc
    · simp at hc
  case h_8 ty x ho =>
    split at hc
    · rename_i x' i h1 h2 h3
      simp only [Option.some.injEq] at hc
      subst hc
      have g1 := compOpd_ok h1 hs
      simp only [evQ] at he
      split at he
      · rename_i n off hx
        rw [hx] at g1
        split at he
        · rename_i cells hg
          simp only [Option.some.injEq, Prod.mk.injEq, Bool.and_eq_true, decide_eq_true_eq] at he
          obtain ⟨⟨k1, k2⟩, rfl⟩ := he
          obtain ⟨c, r1, r2⟩ := ldn_run_pt (P := P) h2 h3 hh hg g1 k1 k2
          exact fin c (by simp only [execOp, ho]; exact lift _ _ r1) r2
        · simp at he
      · rename_i cells hx
        rw [hx] at g1
        simp only [Option.some.injEq, Prod.mk.injEq, decide_eq_true_eq] at he
        obtain ⟨k1, rfl⟩ := he
        obtain ⟨c, r1, r2⟩ := ldn_run_rp (P := P) h2 h3 g1 k1
        exact fin c (by simp only [execOp, ho]; exact lift _ _ r1) r2
      · simp at he
    · rename_i x' i h1 h2 h3
      split at hc
      · rename_i z hz
        obtain ⟨z', hz', rfl⟩ := opt_map hc
        have g1 := compOpd_ok h1 hs
        simp only [evQ] at he
        split at he
        · rename_i n off hx
          rw [hx] at g1
          split at he
          · rename_i cells hg
            simp only [Option.some.injEq, Prod.mk.injEq, Bool.and_eq_true, decide_eq_true_eq] at he
            obtain ⟨⟨k1, k2⟩, rfl⟩ := he
            obtain ⟨c, r1, r2⟩ := ld1_run (P := P) h2 hh hg g1 z' k1 k2
            exact fin c (by simp only [execOp, ho]; exact lift _ _ r1) r2
          · simp at he
        · rename_i cells hx
          rw [hx] at g1
          simp only [Option.some.injEq, Prod.mk.injEq, decide_eq_true_eq] at he
          obtain ⟨k1, rfl⟩ := he
          obtain ⟨c, r1, r2⟩ := ld1_run_rp (P := P) h2 g1 z' k1
          exact fin c (by simp only [execOp, ho]; exact lift _ _ r1) r2
        · simp at he
      · simp at hc
    · simp at hc
  case h_9 ty x v' ho =>
    split at hc
    · split at hc
      · simp only [Option.some.injEq] at hc
        subst hc
        simp [evQ] at he
      · simp at hc
    · simp at hc
  case h_10 op ty x y yt ho =>
    split at hc
    · rename_i x' y' k h1 h2 h3
      simp only [Option.some.injEq] at hc
      subst hc
      obtain ⟨c, r1, r2⟩ := bin_run (P := P) op ty x y (compOpd_ok h1 hs) (compOpd_ok h2 hs) he
      exact fin c (by simp only [execOp, ho]; exact lift _ _ r1) r2
    · rename_i x' y' h1 h2 h3
      simp only [Option.some.injEq] at hc
      subst hc
      obtain ⟨c, r1, r2⟩ := bin_run (P := P) op ty x y (compOpd_ok h1 hs) (compOpd_ok h2 hs) he
      exact fin c (by simp only [execOp, ho]; exact lift _ _ r1) r2
    · rename_i x' y' h1 h2 h3
      simp only [Option.some.injEq] at hc
      subst hc
      obtain ⟨c, r1, r2⟩ := binb_run (P := P) op ty h3 x y (compOpd_ok h1 hs) (compOpd_ok h2 hs) he
      exact fin c (by simp only [execOp, ho]; exact lift _ _ r1) r2
    · rename_i x' el h1 h2 h3
      split at hc
      · simp only [Option.some.injEq] at hc
        subst hc
        obtain ⟨c, r1, r2⟩ := isn_run (P := P) true ty x y h3 (compOpd_ok h1 hs) (compOpd_ok h2 hs) he
        exact fin c (by simp only [execOp, ho]; exact lift _ _ r1) r2
      · simp only [Option.some.injEq] at hc
        subst hc
        obtain ⟨c, r1, r2⟩ := isn_run (P := P) false ty x y h3 (compOpd_ok h1 hs) (compOpd_ok h2 hs) he
        exact fin c (by simp only [execOp, ho]; exact lift _ _ r1) r2
      · simp at hc
    · simp at hc
  case h_11 op ty x ho =>
    obtain ⟨x', h1, rfl⟩ := opt_map hc
    obtain ⟨c, r1, r2⟩ := un_run (P := P) op (compOpd_ok h1 hs) he
    exact fin c (by simp only [execOp, ho]; exact lift _ _ r1) r2
  case h_12 src dst x ho =>
    split at hc
    · rename_i x' ks k h1 h2 h3
      simp only [Option.some.injEq] at hc
      subst hc
      have g1 := compOpd_ok h1 hs
      simp only [evQ] at he
      split at he
      · rename_i j n hx
        rw [hx] at g1
        simp only [Option.some.injEq, Prod.mk.injEq, true_and] at he
        subst he
        exact fin _ (by simp only [execOp, ho]; exact lift _ _ (conv_run h2 h3 g1)) (.int _ _)
      · simp at he
    · simp at hc
  case h_13 f first caps ho =>
    split at hc
    · rename_i hf
      obtain ⟨x', h1, rfl⟩ := opt_map hc
      simp only [evQ, Option.some.injEq, Prod.mk.injEq, true_and] at he
      subst he
      have g := compOpds_ok (N := N) (U := U) (w := w) h1 hs
      have e1 : first = #[] := Array.eq_empty_of_size_eq_zero hf
      refine fin (.func (.func f) #[] (caps.toList.map a.eval).toArray) ?_ (.fn _ _ _ g)
      simp only [execOp, ho]
      refine lift _ _ ?_
      rw [e1]
      have e2 : (caps.toList.map a.eval).toArray = caps.map a.eval := by apply Array.ext'; simp
      rw [e2]
      simp [Instr.makeFunc]
    · simp at hc
  case h_14 ty l c ho =>
    split at hc
    · split at hc
      · split at hc
        · simp only [Option.some.injEq] at hc
          subst hc
          simp [evQ] at he
        · simp at hc
      · simp at hc
    · simp at hc
  case h_15 ty x lo hi mx ho =>
    split at hc
    · rename_i x' lo' hi' mx' h1 h2 h3 h4
      have g1 := compOpd_ok h1 hs
      split at hc
      · rename_i e hu
        split at hc
        · rename_i hcond
          simp only [Option.some.injEq] at hc
          subst hc
          simp only [evQ] at he
          split at he
          · rename_i sz' cells hx
            rw [hx] at g1
            split at he
            · rename_i b l h hb
              simp only [Option.some.injEq, Prod.mk.injEq, Bool.and_eq_true, decide_eq_true_eq] at he
              obtain ⟨⟨rfl, rfl⟩, rfl⟩ := he
              obtain ⟨c, r1, r2⟩ := sliL_run (P := P) hu hcond.1 hcond.2 h2 h3 h4 hs g1 hb
              exact fin c (by simp only [execOp, ho]; exact lift _ _ r1) r2
            · simp at he
          · rename_i n sz' off len hx
            rw [hx] at g1
            split at he
            · rename_i b l h hb
              simp only [Option.some.injEq, Prod.mk.injEq, Bool.and_eq_true, decide_eq_true_eq] at he
              obtain ⟨⟨rfl, rfl⟩, rfl⟩ := he
              obtain ⟨c, r1, r2⟩ := sliS_run (P := P) hu hcond.1 h2 h3 h4 hs g1 hb
              exact fin c (by simp only [execOp, ho]; exact lift _ _ r1) r2
            · simp at he
          · rename_i hx
            rw [hx] at g1
            split at he
            · rename_i b l h hb
              simp only [Option.some.injEq, Prod.mk.injEq, Bool.and_eq_true, Option.isNone_iff_eq_none] at he
              obtain ⟨⟨rfl, rfl⟩, rfl⟩ := he
              have := compOpt_none h4
              subst this
              obtain ⟨e1, _⟩ := g1.nil_inv
              exact fin _ (by simp only [execOp, ho, e1]; exact lift _ _ (sliN_run (P := P) hu hcond.1 h2 h3 hs hb)) .nil
            · simp at he
          · simp at he
        · simp at hc
      · rename_i hu
        split at hc
        · rename_i hmx
          simp only [Option.some.injEq] at hc
          subst hc
          simp only [evQ] at he
          split at he
          · rename_i s hx
            rw [hx] at g1
            split at he
            · rename_i b l h hb
              simp only [Option.some.injEq, Prod.mk.injEq] at he
              obtain ⟨rfl, rfl⟩ := he
              rw [Option.isNone_iff_eq_none] at hmx
              subst hmx
              have := compOpt_none h4
              subst this
              obtain ⟨e1, _⟩ := g1.str_inv
              exact fin _ (by simp only [execOp, ho, e1]; exact lift _ _ (sliT_run (P := P) hu h2 h3 hs hb)) (.str _)
            · simp at he
          · simp at he
        · simp at hc
      · simp at hc
    · simp at hc
  case h_16 s x f ho =>
    split at hc
    · rename_i x' fields h1 hu
      split at hc
      · rename_i fd hf
        split at hc
        · rename_i hcond
          simp only [Option.some.injEq] at hc
          subst hc
          have g1 := compOpd_ok h1 hs
          simp only [evQ] at he
          split at he
          · rename_i n off hx
            rw [hx] at g1
            simp only [Option.some.injEq, Prod.mk.injEq, true_and] at he
            subst he
            generalize hcx : a.eval x = cx at g1
            cases g1 with
            | pt _ _ b base hn =>
              refine fin _ (by simp only [execOp, ho, hcx]; exact lift _ _ (fad_run hu hf hcond.1 hcond.2 b (base + off))) ?_
              rw [Nat.add_assoc]
              exact .pt _ _ b base hn
          · rename_i cells hx
            rw [hx] at g1
            simp only [Option.some.injEq, Prod.mk.injEq, true_and] at he
            subst he
            generalize hcx : a.eval x = cx at g1
            cases g1 with
            | rp _ b o' cs hUb hcc hv =>
              refine fin _ (by simp only [execOp, ho, hcx]; exact lift _ _ (fad_run hu hf hcond.1 hcond.2 b o')) ?_
              exact .rp _ b _ (cs.drop fd.offset) hUb (fun j c hj => by
                rw [List.getElem?_drop] at hj
                rw [Nat.add_assoc]
                exact hcc _ c hj) (hv.drop _)
          · simp at he
        · simp at hc
      · simp at hc
    · simp at hc
  case h_17 ty x f ho =>
    split at hc
    · rename_i x' fields h1 hu
      split at hc
      · rename_i fd hf
        have g1 := compOpd_ok h1 hs
        split at hc
        · rename_i i ha hi
          simp only [Option.some.injEq] at hc
          subst hc
          simp only [evQ] at he
          split at he
          · rename_i parts hx
            rw [hx] at g1
            simp only [Option.some.injEq, Prod.mk.injEq, decide_eq_true_eq] at he
            obtain ⟨k1, rfl⟩ := he
            obtain ⟨c, r1, r2⟩ := fldn_run (P := P) hu hf ha hi g1
            exact fin c (by simp only [execOp, ho]; exact lift _ _ r1) r2
          · simp at he
        · rename_i i ha hi
          simp only [Option.some.injEq] at hc
          subst hc
          simp only [evQ] at he
          split at he
          · rename_i parts hx
            rw [hx] at g1
            simp only [Option.some.injEq, Prod.mk.injEq, decide_eq_true_eq] at he
            obtain ⟨k1, rfl⟩ := he
            obtain ⟨c, r1, r2⟩ := fld1_run (P := P) hu hf ha g1 k1 .undef
            exact fin c (by simp only [execOp, ho]; exact lift _ _ r1) r2
          · simp at he
        · simp at hc
      · simp at hc
    · simp at hc
  case h_18 ty x i ho =>
    split at hc
    · rename_i x' i' e h1 h2 hu
      split at hc
      · rename_i hcond
        simp only [Option.some.injEq] at hc
        subst hc
        have g1 := compOpd_ok h1 hs
        have g2 := compOpd_ok h2 hs
        simp only [evQ] at he
        split at he
        · rename_i n sz' off len j hx hi
          rw [hx] at g1
          obtain ⟨k, _, hci⟩ := asI_inv g2 hi
          simp only [Option.some.injEq, Prod.mk.injEq, Bool.and_eq_true, decide_eq_true_eq] at he
          obtain ⟨⟨⟨rfl, k1⟩, k2⟩, rfl⟩ := he
          generalize hcx : a.eval x = cx at g1
          cases g1 with
          | sl _ _ _ _ b base cap arr e' fz hn hb hs' hlc hm _ =>
            refine fin _ (by simp only [execOp, ho, hcx, hci]; exact lift _ _ (idx_run hu hcond.1 b (base + off) len cap k k1 k2)) ?_
            rw [Nat.add_assoc]
            exact .pt _ _ b base hn
          | slE => omega
          | slZ => omega
        · rename_i sz' cells j hx hi
          rw [hx] at g1
          obtain ⟨k, _, hci⟩ := asI_inv g2 hi
          simp only [Option.some.injEq, Prod.mk.injEq, Bool.and_eq_true, decide_eq_true_eq] at he
          obtain ⟨⟨⟨rfl, k1⟩, k2⟩, rfl⟩ := he
          generalize hcx : a.eval x = cx at g1
          cases g1 with
          | listE => simp only [List.length_nil, Nat.zero_div] at k2; omega
          | list _ _ b o' len cap cs hUb hl hlc hm _ hcc hv =>
            rw [hl, Nat.mul_div_cancel _ hcond.2] at k2
            refine fin _ (by simp only [execOp, ho, hcx, hci]; exact lift _ _ (idx_run hu hcond.1 b o' len cap k k1 k2)) ?_
            exact .rp _ b _ (cs.drop _) hUb (fun j c hj => by
              rw [List.getElem?_drop] at hj
              rw [Nat.add_assoc]
              exact hcc _ c hj) (hv.drop _)
        · simp at he
      · simp at hc
    · rename_i x' i' n e h1 h2 hu
      split at hc
      · rename_i hcond
        simp only [Option.some.injEq] at hc
        subst hc
        have g1 := compOpd_ok h1 hs
        have g2 := compOpd_ok h2 hs
        simp only [evQ] at he
        split at he
        · rename_i m off j hx hi
          rw [hx] at g1
          obtain ⟨k, _, hci⟩ := asI_inv g2 hi
          simp only [Option.some.injEq, Prod.mk.injEq, Bool.and_eq_true, decide_eq_true_eq] at he
          obtain ⟨⟨k1, k2⟩, rfl⟩ := he
          generalize hcx : a.eval x = cx at g1
          cases g1 with
          | pt _ _ b base hn =>
            refine fin _ (by simp only [execOp, ho, hcx, hci]; exact lift _ _ (idxa_run hu hcond b (base + off) k k1 k2)) ?_
            rw [Nat.add_assoc]
            exact .pt _ _ b base hn
        · simp at he
      · simp at hc
    · simp at hc
  case h_19 ty x i ho =>
    split at hc
    · rename_i x' i' h1 h2 hu
      simp only [Option.some.injEq] at hc
      subst hc
      have g1 := compOpd_ok h1 hs
      have g2 := compOpd_ok h2 hs
      simp only [evQ] at he
      split at he
      · rename_i s j hx hi
        rw [hx] at g1
        obtain ⟨k, _, hci⟩ := asI_inv g2 hi
        obtain ⟨e1, _⟩ := g1.str_inv
        simp only [Option.some.injEq, Prod.mk.injEq, Bool.and_eq_true, decide_eq_true_eq] at he
        obtain ⟨⟨k1, k2⟩, rfl⟩ := he
        exact fin _ (by simp only [execOp, ho, e1, hci]; exact lift _ _ (ixs_run hu s k k1 k2)) (.int _ _)
      · simp at he
    · simp at hc
  case h_20 x i ho =>
    obtain ⟨x', h1, rfl⟩ := opt_map hc
    have g1 := compOpd_ok h1 hs
    simp only [evQ] at he
    split at he
    · rename_i vs hx
      rw [hx] at g1
      simp only [Option.some.injEq, Prod.mk.injEq, decide_eq_true_eq] at he
      obtain ⟨k1, rfl⟩ := he
      obtain ⟨c, r1, r2⟩ := ext_run (P := P) g1 k1 .undef
      exact fin c (by simp only [execOp, ho]; exact lift _ _ r1) r2
    · simp at he
  case h_21 c ho =>
    unfold compCall at hc
    split at hc
    · rename_i f hcal
      obtain ⟨xs, h1, rfl⟩ := opt_map hc
      simp only [evQ] at he
      split at he
      · rename_i F hF
        split at he
        · rename_i r hr
          simp only [Option.some.injEq, Prod.mk.injEq, Bool.or_eq_true] at he
          obtain ⟨k1, rfl⟩ := he
          have fo := hΓ.look hF
          have hrun : (execOp a.eval o).run P w = .ok (.enter f (c.args.toList.map a.eval).toArray) w := by
            have e1 : (c.args.toList.map a.eval).toArray = c.args.map a.eval := by apply Array.ext'; simp
            rw [e1]
            simp only [execOp, ho, resolve, hcal, Act.eval, Deferred.ofValue, Sem.run_bind, Sem.run_pure, Result.andThen_ok, invoke]
            have := callable_run fo.fn (c.args.map a.eval) w
            simpa using this
          rcases k1 with k1 | k1
          · exact pure_wp (U' := fun b => b < w.heap.size) hrun (fun _ h => h) (args_ok hh hU h1 hs 6 (.inl hTl)) (fo.ok _ _ hr) (.inl k1) hK
          · exact pure_wp (U' := U) hrun hU (args_ok hh (fun _ h => h) h1 hs 6 (.inr k1)) (fo.ok _ _ hr) (.inr fun _ h => h) hK
        · simp at he
      · simp at he
    · rename_i x hnf hcal
      split at hc
      · rename_i x' xs h0 h1
        simp only [Option.some.injEq] at hc
        subst hc
        have g1 := compOpd_ok h0 hs
        simp only [evQ] at he
        split at he
        · rename_i f caps hx
          rw [hx] at g1
          split at he
          · rename_i F hF
            split at he
            · rename_i r hr
              simp only [Option.some.injEq, Prod.mk.injEq] at he
              obtain ⟨k1, rfl⟩ := he
              have fo := hΓ.look hF
              generalize hcx : a.eval x = cx at g1
              cases g1 with
              | fn _ _ cs hcaps =>
                have ha := args_ok (U' := fun b => b < w.heap.size) hh hU h1 hs 6 (.inl hTl)
                have hcp : RVs (fun _ => none) (fun b => b < w.heap.size) w (caps.map (dr H 6)) cs [] := hcaps.mapD fun v c G _ hr hG => dr_ok hh hU 6 v c G (.inl ⟨hTl, fun b hb => absurd (hG b hb) (by simp)⟩) hr
                have happ := ha.append hcp
                have hrun : (execOp a.eval o).run P w = .ok (.enter f (c.args.toList.map a.eval ++ cs).toArray) w := by
                  have e1 : (c.args.toList.map a.eval ++ cs).toArray = c.args.map a.eval ++ cs.toArray := by apply Array.ext'; simp
                  rw [e1]
                  simp only [execOp, ho, resolve, hcal, hcx, Deferred.ofValue, Sem.run_bind, Sem.run_pure, Result.andThen_ok, invoke]
                  have := callable_run fo.fn (c.args.map a.eval ++ cs.toArray) w
                  simpa using this
                exact pure_wp (U' := fun b => b < w.heap.size) hrun (fun _ h => h) happ (fo.ok _ _ hr) (.inl k1) hK
            · simp at he
          · simp at he
        · simp at he
      · simp at hc
    · rename_i hcal
      split at hc
      · rename_i x t' hargs htys
        have e1 : c.args = #[x] := by apply Array.ext'; simpa using hargs
        have e2 : c.argTypes = #[t'] := by apply Array.ext'; simpa using htys
        have lenrun : ∀ (cx : Value) (n : Int), a.eval x = cx → (Builtin.len_ #[t'] o.type #[cx]).run P w = .ok (goInt n) w → (execOp a.eval o).run P w = .ok (.value (.int .i64 n)) w := by
          intro cx n hcx hr
          simp only [execOp, ho, resolve, hcal, e1, e2, Sem.run_bind, Sem.run_pure, Result.andThen_ok, invoke, builtin]
          have e3 : (#[x].map a.eval) = #[cx] := by simp [hcx]
          rw [e3, hr]
          rfl
        split at hc
        · rename_i x' e h1 hu
          simp only [Option.some.injEq] at hc
          subst hc
          have g1 := compOpd_ok h1 hs
          have run_sl : ∀ (b : Option Addr) (n cap : Nat), (Builtin.len_ #[t'] o.type #[.slice b n cap]).run P w = .ok (goInt n) w := by
            intro b n cap
            simp [Builtin.len_, run_underlying hu]
          simp only [evQ] at he
          generalize hcx : a.eval x = cx at g1
          split at he
          · rename_i sz cells hx
            rw [hx] at g1
            simp only [Option.some.injEq, Prod.mk.injEq, true_and] at he
            subst he
            cases g1 with
            | listE => simp only [List.length_nil, Nat.zero_div] at fin; exact fin _ (lenrun _ _ hcx (run_sl _ _ _)) (.int _ _)
            | list _ _ b o' len cap cs hUb hl hlc hm hz hcc hv =>
              rw [hl, Nat.mul_div_cancel _ hz] at fin
              exact fin _ (lenrun _ _ hcx (run_sl _ _ _)) (.int _ _)
          · rename_i n sz off len hx
            rw [hx] at g1
            simp only [Option.some.injEq, Prod.mk.injEq, true_and] at he
            subst he
            cases g1 with
            | sl => exact fin _ (lenrun _ _ hcx (run_sl _ _ _)) (.int _ _)
            | slE => exact fin _ (lenrun _ _ hcx (run_sl _ _ _)) (.int _ _)
            | slZ => exact fin _ (lenrun _ _ hcx (run_sl _ _ _)) (.int _ _)
          · rename_i hx
            rw [hx] at g1
            simp only [Option.some.injEq, Prod.mk.injEq, true_and] at he
            subst he
            cases g1
            exact fin _ (lenrun _ _ hcx (run_sl _ _ _)) (.int _ _)
          · simp at he
        · rename_i x' h1 hu
          simp only [Option.some.injEq] at hc
          subst hc
          have g1 := compOpd_ok h1 hs
          simp only [evQ] at he
          generalize hcx : a.eval x = cx at g1
          split at he
          · rename_i s hx
            rw [hx] at g1
            simp only [Option.some.injEq, Prod.mk.injEq, true_and] at he
            subst he
            cases g1
            exact fin _ (lenrun _ _ hcx (by simp [Builtin.len_, run_underlying hu])) (.int _ _)
          · simp at he
        · simp at hc
      · simp at hc
    · split at hc
      · split at hc
        · split at hc
          · simp only [Option.some.injEq] at hc
            subst hc
            simp [evQ] at he
          · simp at hc
        · simp at hc
      · simp at hc
    · rename_i hcal
      split at hc
      · rename_i x y hargs
        split at hc
        · rename_i x' y' h1 h2
          simp only [Option.some.injEq] at hc
          subst hc
          have g1 := compOpd_ok h1 hs
          have g2 := compOpd_ok h2 hs
          have e1 : c.args = #[x, y] := by apply Array.ext'; simpa using hargs
          simp only [evQ] at he
          split at he
          · rename_i k m1 k' m2 hx hy
            rw [hx] at g1
            rw [hy] at g2
            simp only [Option.some.injEq, Prod.mk.injEq, decide_eq_true_eq] at he
            obtain ⟨rfl, rfl⟩ := he
            generalize hcx : a.eval x = cx at g1
            generalize hcy : a.eval y = cy at g2
            cases g1
            cases g2
            refine fin _ ?_ (.int _ _)
            simp only [execOp, ho, resolve, hcal, e1, Sem.run_bind, Sem.run_pure, Result.andThen_ok, invoke, builtin]
            have e3 : (#[x, y].map a.eval) = #[.int k m1, .int k m2] := by simp [hcx, hcy]
            have e4 : (Builtin.min_ c.argTypes o.type #[.int k m1, .int k m2]).run P w = .ok (.int k (if m2 < m1 then m2 else m1)) w := by simp [Builtin.min_, Builtin.min2]
            have e5 : (if m2 < m1 then m2 else m1) = min m1 m2 := by split <;> omega
            rw [e3, e4, e5]
            simp
          · simp at he
        · simp at hc
      · simp at hc
    · rename_i hcal
      split at hc
      · rename_i x y hargs
        split at hc
        · rename_i x' y' h1 h2
          simp only [Option.some.injEq] at hc
          subst hc
          have g1 := compOpd_ok h1 hs
          have g2 := compOpd_ok h2 hs
          have e1 : c.args = #[x, y] := by apply Array.ext'; simpa using hargs
          simp only [evQ] at he
          split at he
          · rename_i k m1 k' m2 hx hy
            rw [hx] at g1
            rw [hy] at g2
            simp only [Option.some.injEq, Prod.mk.injEq, decide_eq_true_eq] at he
            obtain ⟨rfl, rfl⟩ := he
            generalize hcx : a.eval x = cx at g1
            generalize hcy : a.eval y = cy at g2
            cases g1
            cases g2
            refine fin _ ?_ (.int _ _)
            simp only [execOp, ho, resolve, hcal, e1, Sem.run_bind, Sem.run_pure, Result.andThen_ok, invoke, builtin]
            have e3 : (#[x, y].map a.eval) = #[.int k m1, .int k m2] := by simp [hcx, hcy]
            have e4 : (Builtin.max_ c.argTypes o.type #[.int k m1, .int k m2]).run P w = .ok (.int k (if m1 < m2 then m2 else m1)) w := by simp [Builtin.max_, Builtin.max2]
            have e5 : (if m1 < m2 then m2 else m1) = max m1 m2 := by split <;> omega
            rw [e3, e4, e5]
            simp
          · simp at he
        · simp at hc
      · simp at hc
    · simp at hc
  case h_22 x ho =>
    obtain ⟨x', h1, rfl⟩ := opt_map hc
    have g1 := compOpd_ok h1 hs
    simp only [evQ] at he
    generalize hcx : a.eval x = cx at g1
    split at he
    · rename_i n off hx
      rw [hx] at g1
      simp only [Option.some.injEq, Prod.mk.injEq, true_and] at he
      subst he
      cases g1 with
      | pt _ _ b base hn => exact fin _ (by simp [execOp, ho, hcx]) (.pt _ _ b base hn)
    · rename_i cells hx
      rw [hx] at g1
      simp only [Option.some.injEq, Prod.mk.injEq, true_and] at he
      subst he
      cases g1 with
      | rp _ b o' cs hUb hcc hv => exact fin _ (by simp [execOp, ho, hcx]) (.rp _ b o' cs hUb hcc hv)
    · simp at he
  case h_23 => simp at hc
end
end Go.Proofs.Ytkbgmkkboiihnaa
namespace Go.Proofs.Ytkbgmkkboiihnaa
open Go Go.RowKit

/-- What a named row is. -/
def Ent (N : Nm) (U : Nat → Prop) (w : World) (n : Nat) (cells : List V) (X : List Nat) : Prop :=
  (N n = some none ∧ cells = [] ∧ X = []) ∨ ∃ b base arr e cs F, N n = some (some (b, base)) ∧ w.heap[b]? = some (.cells arr e (0, 0)) ∧
    (∀ j c, cs[j]? = some c → arr[base + j]? = some c) ∧ RVs N U w cells cs F ∧ X = b :: F

section
variable {N : Nm} {U : Nat → Prop} {w : World}
theorem RH.push {H : List (Nat × List V)} {T : List Nat} (h : RH N U w H T) {n : Nat} {cells : List V} {X : List Nat} (he : Ent N U w n cells X) : RH N U w ((n, cells) :: H) (X ++ T) := by
  rcases he with ⟨h1, rfl, rfl⟩ | ⟨b, base, arr, e, cs, F, h1, h2, h3, h4, rfl⟩
  · exact .consE n H T h1 h
  · exact .cons n cells b base arr e cs F H T _ h1 h2 h3 h4 h rfl
theorem RH.pop {H : List (Nat × List V)} {T : List Nat} {n : Nat} {cells : List V} (h : RH N U w ((n, cells) :: H) T) : ∃ X T', Ent N U w n cells X ∧ RH N U w H T' ∧ T = X ++ T' := by
  cases h with
  | consE _ _ _ hn h => exact ⟨[], T, .inl ⟨hn, rfl, rfl⟩, h, rfl⟩
  | cons _ _ b base arr e cs F _ T' _ hn hb hc h hH hT => exact ⟨b :: F, T', .inr ⟨b, base, arr, e, cs, F, hn, hb, hc, h, rfl⟩, hH, hT⟩
theorem RH.del {H : List (Nat × List V)} : ∀ {T : List Nat}, RH N U w H T → ∀ {n : Nat} {cells : List V}, hget H n = some cells → ∃ X T', Ent N U w n cells X ∧ RH N U w (hdel H n) T' ∧ T.Perm (X ++ T') := by
  induction H with
  | nil => intro T _ n cells hg; simp [hget] at hg
  | cons p H ih =>
    intro T h n cells hg
    obtain ⟨m, cm⟩ := p
    obtain ⟨X, T', h1, h2, rfl⟩ := h.pop
    unfold hget at hg
    unfold hdel
    split at hg
    · rename_i e
      subst e
      simp only [Option.some.injEq] at hg
      subst hg
      rw [if_pos rfl]
      exact ⟨X, T', h1, h2, List.Perm.refl _⟩
    · rename_i e
      rw [if_neg e]
      obtain ⟨Y, T'', g1, g2, g3⟩ := ih h2 hg
      refine ⟨Y, X ++ T'', g1, g2.push h1, ?_⟩
      have := g3.append_left X
      refine this.trans ?_
      rw [← List.append_assoc, ← List.append_assoc]
      exact List.Perm.append_right _ List.perm_append_comm
theorem RH.ins {H : List (Nat × List V)} : ∀ {T : List Nat} {n : Nat} {old cells : List V}, hget H n = some old → RH N U w (hdel H n) T → ∀ {X : List Nat}, Ent N U w n cells X → ∃ T', RH N U w (hset H n cells) T' ∧ T'.Perm (X ++ T) := by
  induction H with
  | nil => intro T n old cells hg; simp [hget] at hg
  | cons p H ih =>
    intro T n old cells hg h X hX
    obtain ⟨m, cm⟩ := p
    unfold hget at hg
    unfold hdel at h
    unfold hset
    split at hg
    · rename_i e
      subst e
      rw [if_pos rfl] at h ⊢
      exact ⟨_, h.push hX, List.Perm.refl _⟩
    · rename_i e
      rw [if_neg e] at h ⊢
      obtain ⟨Y, T', h1, h2, rfl⟩ := h.pop
      obtain ⟨T'', g1, g2⟩ := ih hg h2 hX
      refine ⟨_, g1.push h1, ?_⟩
      refine (g2.append_left Y).trans ?_
      rw [← List.append_assoc, ← List.append_assoc]
      exact List.Perm.append_right _ List.perm_append_comm
theorem Ent.kept {N' : Nm} {U' : Nat → Prop} {w' : World} (k : Kept N N' U U' w w') {n : Nat} {cells : List V} {X : List Nat} (h : Ent N U w n cells X) (hX : ∀ b ∈ X, SameAt w w' b) : Ent N' U' w' n cells X := by
  rcases h with ⟨h1, rfl, rfl⟩ | ⟨b, base, arr, e, cs, F, h1, h2, h3, h4, rfl⟩
  · exact .inl ⟨k.n _ _ h1, rfl, rfl⟩
  · exact .inr ⟨b, base, arr, e, cs, F, k.n _ _ h1, by rw [hX b (by simp)]; exact h2, h3, h4.kept k (fun x hx => hX x (by simp [hx])), rfl⟩
theorem RVs.lt {vs : List V} {cs : List Value} {F : List Nat} (h : RVs N U w vs cs F) : ∀ b ∈ F, b < w.heap.size := by
  have : ∀ (k : Nat), True := fun _ => trivial
  exact RVs.rec (N := N) (U := U) (w := w) (motive_1 := fun _ _ F _ => ∀ b ∈ F, b < w.heap.size) (motive_2 := fun _ _ F _ => ∀ b ∈ F, b < w.heap.size)
    (by simp) (by simp) (by simp) (by simp) (by simp) (by simp) (by intros; simp_all) (by simp)
    (by
      intro sz cells b o len cap arr e cs F FF hb hl hs hlc hm hz hc h hF ih x hx
      subst hF
      rcases List.mem_cons.1 hx with rfl | hx
      · exact heap_lt hb
      · exact ih x hx)
    (by intro parts cs F h ih; exact ih) (by intro parts cs F h ih; exact ih) (by simp) (by simp) (by simp) (by simp) (by intros; simp_all) (by intros; simp_all) (by simp) (by simp)
    (by simp)
    (by
      intro v vs c cs F Fs FF h hs hF ih1 ih2 x hx
      subst hF
      rcases List.mem_append.1 hx with hx | hx
      · exact ih1 x hx
      · exact ih2 x hx) h
theorem Ent.lt {n : Nat} {cells : List V} {X : List Nat} (h : Ent N U w n cells X) : ∀ b ∈ X, b < w.heap.size := by
  rcases h with ⟨_, _, rfl⟩ | ⟨b, base, arr, e, cs, F, h1, h2, h3, h4, rfl⟩
  · simp
  · intro x hx
    rcases List.mem_cons.1 hx with rfl | hx
    · exact heap_lt h2
    · exact h4.lt x hx
theorem RH.lt {H : List (Nat × List V)} {T : List Nat} (h : RH N U w H T) : ∀ b ∈ T, b < w.heap.size := by
  induction H generalizing T with
  | nil => cases h; simp
  | cons p H ih =>
    obtain ⟨n, cells⟩ := p
    obtain ⟨X, T', h1, h2, rfl⟩ := h.pop
    intro b hb
    rcases List.mem_append.1 hb with hb | hb
    · exact h1.lt b hb
    · exact ih h2 b hb

/-- A result's own rows become named ones. -/
def OpnOk (U : Nat → Prop) (w : World) (N : Nm) (s : Hp) (T : List Nat) (v' : V) (s' : Hp) (c : Value) (F : List Nat) : Prop :=
  ∃ N' T' D, (∀ n l, N n = some l → N' n = some l) ∧ (∀ n, s'.2 ≤ n → N' n = none) ∧ (∀ n, n < s.2 → N' n = N n) ∧ s.2 ≤ s'.2 ∧ RV N' U w v' c [] ∧ RH N' U w s'.1 T' ∧ (T' ++ D).Perm (F ++ T)
def OpnsOk (U : Nat → Prop) (w : World) (N : Nm) (s : Hp) (T : List Nat) (vs' : List V) (s' : Hp) (cs : List Value) (F : List Nat) : Prop :=
  ∃ N' T' D, (∀ n l, N n = some l → N' n = some l) ∧ (∀ n, s'.2 ≤ n → N' n = none) ∧ (∀ n, n < s.2 → N' n = N n) ∧ s.2 ≤ s'.2 ∧ RVs N' U w vs' cs [] ∧ RH N' U w s'.1 T' ∧ (T' ++ D).Perm (F ++ T)
theorem opnL_ok {f : V → Hp → V × Hp} (hf : ∀ v c F N s T, RV N U w v c F → RH N U w s.1 T → (∀ n, s.2 ≤ n → N n = none) → OpnOk U w N s T (f v s).1 (f v s).2 c F) :
    ∀ (vs : List V) (cs : List Value) (F : List Nat) (N : Nm) (s : Hp) (T : List Nat), RVs N U w vs cs F → RH N U w s.1 T → (∀ n, s.2 ≤ n → N n = none) → OpnsOk U w N s T (opnL f vs s).1 (opnL f vs s).2 cs F := by
  intro vs
  induction vs with
  | nil =>
    intro cs F N s T h hh hn
    cases h
    exact ⟨N, T, [], fun _ _ h => h, hn, fun _ _ => rfl, Nat.le_refl _, .nil, hh, by simp⟩
  | cons v vs ih =>
    intro cs F N s T h hh hn
    cases h with
    | cons _ _ c cs F1 F2 _ h1 h2 hE =>
      subst hE
      obtain ⟨N1, T1, D1, a1, a2, a3, a4, a5, a6, a7⟩ := hf v c F1 N s T h1 hh hn
      have k1 : Kept N N1 U U w w := ⟨fun b hb => ⟨rfl, hb⟩, a1, fun _ _ _ _ => SameAt.shape rfl⟩
      obtain ⟨N2, T2, D2, b1, b2, b3, b4, b5, b6, b7⟩ := ih cs F2 N1 (f v s).2 T1 (h2.kept k1 (fun _ _ => rfl)) a6 a2
      have k2 : Kept N1 N2 U U w w := ⟨fun b hb => ⟨rfl, hb⟩, b1, fun _ _ _ _ => SameAt.shape rfl⟩
      refine ⟨N2, T2, D2 ++ D1, fun n l h => b1 n l (a1 n l h), b2, fun n hn' => (b3 n (by omega)).trans (a3 n hn'), Nat.le_trans a4 b4, ?_, b6, ?_⟩
      · exact .cons _ _ _ _ [] [] _ (a5.kept k2 (by simp)) b5 rfl
      · have p1 : (T2 ++ (D2 ++ D1)).Perm ((F2 ++ T1) ++ D1) := by rw [← List.append_assoc]; exact b7.append_right D1
        have p2 : ((F2 ++ T1) ++ D1).Perm (F2 ++ (F1 ++ T)) := by rw [List.append_assoc]; exact a7.append_left F2
        have p3 : (F2 ++ (F1 ++ T)).Perm (F1 ++ F2 ++ T) := by
          rw [← List.append_assoc]
          exact List.Perm.append_right _ List.perm_append_comm
        exact (p1.trans p2).trans p3
theorem opn_ok : ∀ (k : Nat) (v : V) (c : Value) (F : List Nat) (N : Nm) (s : Hp) (T : List Nat), RV N U w v c F → RH N U w s.1 T → (∀ n, s.2 ≤ n → N n = none) → OpnOk U w N s T (opn k v s).1 (opn k v s).2 c F := by
  intro k
  induction k with
  | zero => intro v c F N s T h hh hn; exact ⟨N, T, F, fun _ _ h => h, hn, fun _ _ => rfl, Nat.le_refl _, .undef _, hh, List.perm_append_comm⟩
  | succ k ih =>
    intro v c F N s T h hh hn
    have same : F = [] → opn (k + 1) v s = (v, s) → OpnOk U w N s T (opn (k + 1) v s).1 (opn (k + 1) v s).2 c F := by
      intro hF he
      subst hF
      rw [he]
      exact ⟨N, T, [], fun _ _ h => h, hn, fun _ _ => rfl, Nat.le_refl _, h, hh, by simp⟩
    have new : ∀ (l : Loc) (sz : Nat) (cells : List V), (∀ (N' : Nm), (∀ n l, N n = some l → N' n = some l) → N' s.2 = some l → RV N' U w (.sl s.2 sz 0 (cells.length / sz)) c [] ∧ Ent N' U w s.2 cells F) →
        OpnOk U w N s T (.sl s.2 sz 0 (cells.length / sz)) ((s.2, cells) :: s.1, s.2 + 1) c F := by
      intro l sz cells hN
      refine ⟨fun n => if n = s.2 then some l else N n, F ++ T, [], ?_, ?_, ?_, by simp, ?_, ?_, by simp⟩
      · intro n l' h'
        simp only
        split
        · rename_i e
          rw [e, hn _ (Nat.le_refl _)] at h'
          cases h'
        · exact h'
      · intro n hn'
        simp only at hn' ⊢
        rw [if_neg (by omega)]
        exact hn n (by omega)
      · intro n hn'
        simp only
        rw [if_neg (by omega)]
      all_goals
        have hext : ∀ n l', N n = some l' → (if n = s.2 then some l else N n) = some l' := by
          intro n l' h'
          split
          · rename_i e
            rw [e, hn _ (Nat.le_refl _)] at h'
            cases h'
          · exact h'
        obtain ⟨g1, g2⟩ := hN (fun n => if n = s.2 then some l else N n) hext (by simp)
      · exact g1
      · exact RH.push (hh.kept ⟨fun b hb => ⟨rfl, hb⟩, hext, fun _ _ _ _ => SameAt.shape rfl⟩ (fun _ _ => rfl)) g2
    have h0 := h
    cases h with
    | undef => exact same rfl rfl
    | ub => exact same rfl rfl
    | nfn => exact same rfl rfl
    | int => exact same rfl rfl
    | bool => exact same rfl rfl
    | str => exact same rfl rfl
    | nil => exact same rfl rfl
    | listE => exact same rfl rfl
    | list => exact same rfl rfl
    | ownE sz =>
      refine new none sz [] fun N' hN hl => ⟨?_, .inl ⟨hl, rfl, rfl⟩⟩
      simp only [List.length_nil, Nat.zero_div]
      exact .slE _ _ hl
    | own sz cells b o len cap arr e cs F _ hb hl hs hlc hm hz hc hv hF =>
      refine new (some (b, o)) sz cells fun N' hN hl' => ?_
      have e1 : cells.length / sz = len := by rw [hl]; exact Nat.mul_div_cancel _ hz
      rw [e1]
      have k1 : Kept N N' U U w w := ⟨fun b hb => ⟨rfl, hb⟩, hN, fun _ _ _ _ => SameAt.shape rfl⟩
      exact ⟨.sl s.2 sz 0 len b o cap arr e (0, 0) hl' hb (by simpa using hs) hlc hm hz, .inr ⟨b, o, arr, e, cs, F, hl', hb, hc, hv.kept k1 (fun _ _ => rfl), hF⟩⟩
    | agg parts cs F hv =>
      obtain ⟨N', T', D, a1, a2, a3, a4, a5, a6, a7⟩ := opnL_ok (fun v c F N s T => ih v c F N s T) parts cs F N s T hv hh hn
      exact ⟨N', T', D, a1, a2, a3, a4, .agg _ cs [] a5, a6, a7⟩
    | tup parts cs F hv =>
      obtain ⟨N', T', D, a1, a2, a3, a4, a5, a6, a7⟩ := opnL_ok (fun v c F N s T => ih v c F N s T) parts cs F N s T hv hh hn
      exact ⟨N', T', D, a1, a2, a3, a4, .tup _ cs [] a5, a6, a7⟩
    | sl => exact same rfl rfl
    | slE => exact same rfl rfl
    | slZ => exact same rfl rfl
    | pt => exact same rfl rfl
    | rp => exact same rfl rfl
    | fn => exact same rfl rfl

def Un (w0 : World) (U0 : Nat → Prop) (w : World) (T : List Nat) : Nat → Prop := fun b => b < w.heap.size ∧ b ∉ T ∧ (U0 b ∨ w0.heap.size ≤ b)

/-- The state as pure data ('t', 's') and the model's ('a', 'w'). 'L0': blocks lent by the caller; 'N0', 'k0': their names. -/
structure RS (w0 : World) (U0 : Nat → Prop) (L0 : List Nat) (N0 : Nm) (k0 nt : Nat) (t : Nat → V) (s : Hp) (N : Nm) (T : List Nat) (a : Act) (w : World) : Prop where
  tsz : a.tmps.size = nt
  dfr : a.defers = []
  sl : Slots N (Un w0 U0 w T) w t a
  hp : RH N (Un w0 U0 w T) w s.1 T
  nd : T.Nodup
  own : ∀ b ∈ T, b ∈ L0 ∨ w0.heap.size ≤ b
  fr : KeepBut L0 w0 w
  nx : ∀ n, s.2 ≤ n → N n = none
  nl : ∀ n, n < k0 → N n = N0 n
  kn : k0 ≤ s.2
  lh : (∀ b ∈ L0, b < w0.heap.size) ∧ (k0 = 0 → L0 = [])

theorem put_get {a : Act} {d : Nat} (hd : d < a.tmps.size) (c : Value) (i : Nat) : (a.put (some d) c).tmps.getD i Go.undef = if d = i then c else a.tmps.getD i Go.undef := by
  simp only [Act.put, Array.getD_eq_getD_getElem?]
  by_cases h : d = i
  · subst h; simp [hd]
  · simp [h]
theorem slots_put {t : Nat → V} {a : Act} {nt : Nat} (hs : Slots N U w t a) (hz : a.tmps.size = nt) {dst : Option Nat} (hd : ∀ d, dst = some d → d < nt) {v : V} {c : Value} (hv : RV N U w v c []) : Slots N U w (upd t dst v) (a.put dst c) := by
  intro i
  cases dst with
  | none => exact hs i
  | some d =>
    rw [put_get (by rw [hz]; exact hd d rfl)]
    simp only [upd]
    split
    · exact hv
    · exact hs i
theorem put_size {a : Act} {dst : Option Nat} {c : Value} : (a.put dst c).tmps.size = a.tmps.size := by cases dst <;> simp [Act.put]
theorem put_dfr {a : Act} {dst : Option Nat} {c : Value} : (a.put dst c).defers = a.defers := by cases dst <;> simp [Act.put]
theorem Slots.kept {N' : Nm} {U' : Nat → Prop} {w' : World} (k : Kept N N' U U' w w') {t : Nat → V} {a : Act} (h : Slots N U w t a) : Slots N' U' w' t a := fun i => (h i).kept k (by simp)
theorem KeepBut.refl (L : List Nat) (w : World) : KeepBut L w w := ⟨rfl, rfl, rfl, Nat.le_refl _, fun _ _ _ => rfl, fun _ _ => SameAt.shape rfl⟩
theorem KeepBut.trans {L : List Nat} {a b c : World} (h : KeepBut L a b) (k : KeepBut L b c) : KeepBut L a c :=
  ⟨k.os.trans h.os, k.tape.trans h.tape, k.output.trans h.output, Nat.le_trans h.size k.size, fun i hi hn => (k.block i (Nat.lt_of_lt_of_le hi h.size) hn).trans (h.block i hi hn),
    fun i hi arr e fz hb => by
      obtain ⟨arr', e', fz', h1, h2⟩ := h.shape i hi arr e fz hb
      obtain ⟨arr'', e'', fz'', h3, h4⟩ := k.shape i (Nat.lt_of_lt_of_le hi h.size) arr' e' fz' h1
      exact ⟨arr'', e'', fz'', h3, h4.trans h2⟩⟩
theorem KeepBut.mono {L L' : List Nat} {a b : World} (h : KeepBut L a b) (hL : ∀ x ∈ L, x < a.heap.size → x ∈ L') : KeepBut L' a b :=
  ⟨h.os, h.tape, h.output, h.size, fun i hi hn => h.block i hi (fun hm => hn (hL i hm hi)), h.shape⟩
theorem below_keep {w w' : World} (h : Below w.heap.size w w') (L : List Nat) : KeepBut L w w' :=
  ⟨h.os, h.tape, h.output, h.size, fun i hi _ => h.block i hi, fun i hi => SameAt.shape (h.block i hi)⟩
end
end Go.Proofs.Ytkbgmkkboiihnaa
namespace Go.Proofs.Ytkbgmkkboiihnaa
open Go Go.RowKit

section
variable {P : Program} {w0 : World} {U0 : Nat → Prop} {L0 : List Nat} {N0 : Nm} {k0 nt : Nat} {t : Nat → V} {s : Hp} {N : Nm} {T : List Nat} {a : Act} {w : World}

theorem RS.step (h : RS w0 U0 L0 N0 k0 nt t s N T a w) {dst : Option Nat} (hd : ∀ d, dst = some d → d < nt) {N' : Nm} {T' : List Nat} {s' : Hp} {w' : World} {v : V} {c : Value}
    (k : Kept N N' (Un w0 U0 w T) (Un w0 U0 w' T') w w') (hv : RV N' (Un w0 U0 w' T') w' v c []) (hh : RH N' (Un w0 U0 w' T') w' s'.1 T') (hnd : T'.Nodup) (hown : ∀ b ∈ T', b ∈ L0 ∨ w0.heap.size ≤ b)
    (hfr : KeepBut L0 w0 w') (hnx : ∀ n, s'.2 ≤ n → N' n = none) (hss : s.2 ≤ s'.2) (hnl : ∀ n, n < s.2 → N' n = N n) : RS w0 U0 L0 N0 k0 nt (upd t dst v) s' N' T' (a.put dst c) w' :=
  ⟨put_size.trans h.tsz, put_dfr.trans h.dfr, slots_put (h.sl.kept k) h.tsz hd hv, hh, hnd, hown, hfr, hnx, fun n hn => (hnl n (Nat.lt_of_lt_of_le hn h.kn)).trans (h.nl n hn), Nat.le_trans h.kn hss, h.lh⟩

/-- Behind a call or a quiet operation. -/
theorem RS.back (h : RS w0 U0 L0 N0 k0 nt t s N T a w) {dst : Option Nat} (hd : ∀ d, dst = some d → d < nt) {w' : World} {F : List Nat} {v : V} {c : Value}
    (hb : Below w.heap.size w w') (hF : Fresh w w' F) (hv : RV N (Uf (Un w0 U0 w T) w w' F) w' v c F) : ∃ N' T', RS w0 U0 L0 N0 k0 nt (upd t dst (opn 6 v s).1) (opn 6 v s).2 N' T' (a.put dst c) w' := by
  have hTlt := h.hp.lt
  have k1 : Kept N N (Un w0 U0 w T) (Uf (Un w0 U0 w T) w w' F) w w' := ⟨fun b hU => ⟨hb.block b hU.1, .inl hU⟩, fun _ _ h => h, fun n b base hn => by
    intro arr e fz hbb
    exact ⟨arr, e, fz, by rw [hb.block b (heap_lt hbb)]; exact hbb, rfl⟩⟩
  obtain ⟨N', T', D, a1, a2, a3, a4, a5, a6, a7⟩ := opn_ok 6 v c F N s T hv (h.hp.kept k1 (fun b hbT => hb.block b (hTlt b hbT))) h.nx
  have hmem : ∀ b ∈ T', b ∈ F ∨ b ∈ T := fun b hbT => by
    have := a7.mem_iff (a := b)
    simp at this
    exact this.1 (.inl hbT)
  have hU : ∀ b, Uf (Un w0 U0 w T) w w' F b → Un w0 U0 w' T' b := by
    intro b hU
    rcases hU with ⟨g1, g2⟩ | ⟨g1, g2, g3⟩
    · refine ⟨Nat.lt_of_lt_of_le g1 hb.size, fun hm => ?_, g2.2⟩
      rcases hmem b hm with hm | hm
      · have := (hF.2 b hm).1; omega
      · exact g2.1 hm
    · refine ⟨g2, fun hm => ?_, .inr (Nat.le_trans h.fr.size g1)⟩
      rcases hmem b hm with hm | hm
      · exact g3 hm
      · have := hTlt b hm; omega
  have k2 : Kept N' N' (Uf (Un w0 U0 w T) w w' F) (Un w0 U0 w' T') w' w' := ⟨fun b hb => ⟨rfl, hU b hb⟩, fun _ _ h => h, fun _ _ _ _ => SameAt.shape rfl⟩
  refine ⟨N', T', h.step hd ?_ (a5.kept k2 (by simp)) (a6.kept k2 (fun _ _ => rfl)) ?_ ?_ (h.fr.trans (below_keep hb L0)) a2 a4 a3⟩
  · exact ⟨fun b hbU => ⟨hb.block b hbU.1, hU b (.inl hbU)⟩, a1, k1.s⟩
  · have hnd : (F ++ T).Nodup := by
      rw [List.nodup_append]
      refine ⟨hF.1, h.nd, fun x hx y hy e => ?_⟩
      subst e
      have := (hF.2 x hx).1
      have := hTlt x hy
      omega
    have := (a7.nodup_iff).2 hnd
    exact (List.nodup_append.1 this).1
  · intro b hbT
    rcases hmem b hbT with hm | hm
    · exact .inr (Nat.le_trans h.fr.size (hF.2 b hm).1)
    · exact h.own b hm
theorem keep_alloc (L : List Nat) (w : World) (o : Obj) : KeepBut L w (w.alloc o) := below_keep (Below.alloc (Below.refl _ _) (Nat.le_refl _) o) L
theorem keep_drew (L : List Nat) (w : World) : KeepBut L w w.drew := below_keep (Below.drew (Below.refl _ _)) L

/-- A new row. -/
theorem RS.new (h : RS w0 U0 L0 N0 k0 nt t s N T a w) {dst : Option Nat} (hd : ∀ d, dst = some d → d < nt) {w1 : World} (hb : Below w.heap.size w w1) (hsz : w1.heap.size = w.heap.size) {arr : Array Value} {e : TypeId} {cells : List V} {cs : List Value}
    (hv : RVs N (Un w0 U0 w T) w cells cs []) (hc : ∀ (j : Nat) (c : Value), cs[j]? = some c → arr[j]? = some c) {v : V} {c : Value}
    (hval : ∀ N' U', N' s.2 = some (some (w.heap.size, 0)) → RV N' U' (w1.alloc (.cells arr e)) v c []) :
    ∃ N' T', RS w0 U0 L0 N0 k0 nt (upd t dst v) ((s.2, cells) :: s.1, s.2 + 1) N' T' (a.put dst c) (w1.alloc (.cells arr e)) := by
  have hTlt := h.hp.lt
  have hb2 : Below w.heap.size w (w1.alloc (.cells arr e)) := hb.alloc (by omega) _
  have hext : ∀ n l', N n = some l' → (fun n => if n = s.2 then some (some (w.heap.size, 0)) else N n) n = some l' := by
    intro n l' h'
    simp only
    split
    · rename_i e'
      rw [e', h.nx _ (Nat.le_refl _)] at h'
      cases h'
    · exact h'
  have k : Kept N (fun n => if n = s.2 then some (some (w.heap.size, 0)) else N n) (Un w0 U0 w T) (Un w0 U0 (w1.alloc (.cells arr e)) (w.heap.size :: T)) w (w1.alloc (.cells arr e)) := by
    refine ⟨fun b hU => ⟨hb2.block b hU.1, ?_, ?_, hU.2.2⟩, hext, fun n b base hn arr' e' fz hbb => ⟨arr', e', fz, by rw [hb2.block b (heap_lt hbb)]; exact hbb, rfl⟩⟩
    · have := hU.1; simp; omega
    · intro hm
      rcases List.mem_cons.1 hm with rfl | hm
      · exact absurd hU.1 (by omega)
      · exact hU.2.1 hm
  have hnew : (w1.alloc (.cells arr e)).heap[w.heap.size]? = some (.cells arr e (0, 0)) := by rw [← hsz]; exact heap_alloc_new w1 _
  refine ⟨fun n => if n = s.2 then some (some (w.heap.size, 0)) else N n, w.heap.size :: T, h.step hd k (hval _ _ (by simp)) ?_ ?_ ?_ (h.fr.trans (below_keep hb2 L0)) ?_ (by simp) ?_⟩
  · refine RH.push (X := [w.heap.size]) (h.hp.kept k (fun b hbT => hb2.block b (hTlt b hbT))) (.inr ⟨w.heap.size, 0, arr, e, cs, [], by simp, hnew, fun j c hj => by rw [Nat.zero_add]; exact hc j c hj, hv.kept k (by simp), rfl⟩)
  · exact List.nodup_cons.2 ⟨fun hm => by have := hTlt _ hm; omega, h.nd⟩
  · intro b hbT
    rcases List.mem_cons.1 hbT with rfl | hm
    · exact .inr h.fr.size
    · exact h.own b hm
  · intro n hn
    show (if n = s.2 then some (some (w.heap.size, 0)) else N n) = none
    have hn' : s.2 + 1 ≤ n := hn
    rw [if_neg (by omega)]
    exact h.nx n (by omega)
  · intro n hn
    show (if n = s.2 then some (some (w.heap.size, 0)) else N n) = N n
    rw [if_neg (by omega)]

theorem cells_ok {cs : List Value} {arr : Array Value} (h : arr.toList = cs) : ∀ (j : Nat) (c : Value), cs[j]? = some c → arr[j]? = some c := by
  intro j c hj
  rw [← h] at hj
  simpa using hj

theorem setRange_get {α : Type} (vs : List α) : ∀ (l : List α) (o j : Nat), o + vs.length ≤ l.length → (setRange l o vs)[j]? = if o ≤ j ∧ j < o + vs.length then vs[j - o]? else l[j]? := by
  induction vs with
  | nil => intro l o j _; simp only [setRange, List.length_nil]; rw [if_neg (by omega)]
  | cons v vs ih =>
    intro l o j h
    simp only [List.length_cons] at h
    simp only [setRange]
    rw [ih (l.set o v) (o + 1) j (by rw [List.length_set]; omega)]
    simp only [List.length_cons]
    by_cases h1 : o + 1 ≤ j ∧ j < o + 1 + vs.length
    · rw [if_pos h1, if_pos (by omega)]
      rw [show j - o = (j - (o + 1)) + 1 by omega, List.getElem?_cons_succ]
    · rw [if_neg h1]
      by_cases h2 : o = j
      · subst h2
        rw [if_pos (by omega), List.getElem?_set_self (by omega)]
        simp
      · rw [List.getElem?_set_ne h2, if_neg (by omega)]
theorem setRange_eq {α : Type} (vs : List α) : ∀ (l : List α) (o : Nat), o + vs.length ≤ l.length → setRange l o vs = l.take o ++ vs ++ l.drop (o + vs.length) := by
  intro l o h
  apply List.ext_getElem?
  intro j
  rw [setRange_get vs l o j h]
  rw [List.append_assoc]
  by_cases h1 : j < o
  · rw [if_neg (by omega), List.getElem?_append_left (by rw [List.length_take]; omega), List.getElem?_take_of_lt h1]
  · rw [List.getElem?_append_right (by rw [List.length_take]; omega), List.length_take, Nat.min_eq_left (by omega)]
    by_cases h2 : j < o + vs.length
    · rw [if_pos (by omega), List.getElem?_append_left (by omega)]
    · rw [if_neg (by omega), List.getElem?_append_right (by omega), List.getElem?_drop]
      congr 1
      omega
/-- A row that has a name is written. -/
theorem RS.row (h : RS w0 U0 L0 N0 k0 nt t s N T a w) {dst : Option Nat} (hd : ∀ d, dst = some d → d < nt) {n : Nat} {cells : List V} (hg : hget s.1 n = some cells) {b base : Nat} (hn : N n = some (some (b, base)))
    {arr arr' : Array Value} {e : TypeId} (hb : w.heap[b]? = some (.cells arr e (0, 0))) (hsz : arr'.size = arr.size) {cells' : List V}
    (hnew : ∀ (cs : List Value) (F : List Nat), (∀ (j : Nat) (c : Value), cs[j]? = some c → arr[base + j]? = some c) → RVs N (Un w0 U0 w T) w cells cs F →
      ∃ cs' F', RVs N (Un w0 U0 w T) w cells' cs' F' ∧ List.Sublist F' F ∧ (∀ (j : Nat) (c : Value), cs'[j]? = some c → arr'[base + j]? = some c)) {v : V} {c : Value} (hv : RV N (Un w0 U0 w T) w v c []) :
    ∃ N' T', RS w0 U0 L0 N0 k0 nt (upd t dst v) (hset s.1 n cells', s.2) N' T' (a.put dst c) (w.setRow b arr') := by
  obtain ⟨X, T1, h1, h2, h3⟩ := h.hp.del hg
  rcases h1 with ⟨g1, _⟩ | ⟨b', base', arr0, e0, cs, F, g1, g2, g3, g4, rfl⟩
  · rw [hn] at g1; simp at g1
  · rw [hn] at g1
    simp at g1
    obtain ⟨rfl, rfl⟩ := g1
    rw [hb] at g2
    simp at g2
    obtain ⟨rfl, rfl⟩ := g2
    obtain ⟨cs', F', k1, k2, k3⟩ := hnew cs F g3 g4
    have hnd : (b :: F ++ T1).Nodup := h3.nodup_iff.1 h.nd
    have hmem : ∀ x, x ∈ T ↔ x ∈ b :: F ++ T1 := fun x => h3.mem_iff
    have hbT : b ∈ T := (hmem b).2 (by simp)
    have hother : ∀ x, x ≠ b → SameAt w (w.setRow b arr') x := fun x hx => setRow_other w b x arr' hx
    have hF'T : ∀ x ∈ b :: F' ++ T1, x ∈ T := fun x hx => by
      rw [hmem]
      simp only [List.cons_append, List.mem_cons, List.mem_append] at hx ⊢
      rcases hx with hx | hx | hx
      · exact .inl hx
      · exact .inr (.inl (k2.subset hx))
      · exact .inr (.inr hx)
    have kk : ∀ T2, (∀ x ∈ T2, x ∈ T) → Kept N N (Un w0 U0 w T) (Un w0 U0 (w.setRow b arr') T2) w (w.setRow b arr') := fun T2 hT2 =>
      ⟨fun x hU => ⟨hother x (fun e => hU.2.1 (e ▸ hbT)), by rw [size_setRow]; exact hU.1, fun hm => hU.2.1 (hT2 x hm), hU.2.2⟩, fun _ _ h => h, fun m b2 base2 hm => by
        intro arr2 e2 fz2 hbb
        by_cases hbe : b2 = b
        · subst hbe
          rw [hb] at hbb
          simp at hbb
          obtain ⟨rfl, rfl, rfl⟩ := hbb
          exact ⟨arr', e, (0, 0), setRow_heap w b2 arr arr' e (0, 0) hb, hsz⟩
        · exact ⟨arr2, e2, fz2, by rw [hother b2 hbe]; exact hbb, rfl⟩⟩
    simp only [List.cons_append, List.nodup_cons, List.nodup_append, List.mem_append] at hnd
    obtain ⟨n1, n2, n3, n4⟩ := hnd
    have hF : ∀ x ∈ F', SameAt w (w.setRow b arr') x := fun x hx => hother x (fun e => n1 (.inl (e ▸ k2.subset hx)))
    have hT1 : ∀ x ∈ T1, SameAt w (w.setRow b arr') x := fun x hx => hother x (fun e => n1 (.inr (e ▸ hx)))
    have k0' := kk (b :: F' ++ T1) hF'T
    obtain ⟨T', i1, i2⟩ := RH.ins (X := b :: F') hg (h2.kept k0' hT1) (.inr ⟨b, base, arr', e, cs', F', hn, setRow_heap w b arr arr' e (0, 0) hb, k3, k1.kept k0' hF, rfl⟩)
    have hT'T : ∀ x ∈ T', x ∈ T := fun x hx => hF'T x (i2.mem_iff.1 hx)
    have hUU : ∀ x, Un w0 U0 (w.setRow b arr') (b :: F' ++ T1) x → Un w0 U0 (w.setRow b arr') T' x := fun x hU => ⟨hU.1, fun hm => hU.2.1 (i2.mem_iff.1 hm), hU.2.2⟩
    refine ⟨N, T', h.step hd (kk T' hT'T) (hv.kept (kk T' hT'T) (by simp)) (i1.kept (kept_refl N _ hUU) (fun _ _ => rfl)) ?_ (fun x hx => h.own x (hT'T x hx)) ?_ h.nx (Nat.le_refl _) (fun _ _ => rfl)⟩
    · rw [i2.nodup_iff]
      simp only [List.cons_append, List.nodup_cons, List.nodup_append, List.mem_append]
      refine ⟨fun hm => ?_, k2.nodup n2, n3, fun x hx y hy => n4 x (k2.subset hx) y hy⟩
      rcases hm with hm | hm
      · exact n1 (.inl (k2.subset hm))
      · exact n1 (.inr hm)
    · refine ⟨h.fr.os, h.fr.tape, h.fr.output, by rw [size_setRow]; exact h.fr.size, fun x hx hxL => (hother x (fun e => ?_)).trans (h.fr.block x hx hxL), fun x hx arr2 e2 fz2 hbb => ?_⟩
      · subst e
        rcases h.own x hbT with ho | ho
        · exact hxL ho
        · omega
      · obtain ⟨arr3, e3, fz3, q1, q2⟩ := h.fr.shape x hx arr2 e2 fz2 hbb
        by_cases hbe : x = b
        · subst hbe
          rw [hb] at q1
          simp at q1
          obtain ⟨rfl, rfl, rfl⟩ := q1
          exact ⟨arr', e, (0, 0), setRow_heap w x arr arr' e (0, 0) hb, hsz.trans q2⟩
        · exact ⟨arr3, e3, fz3, (hother x hbe).trans q1, q2⟩
end
end Go.Proofs.Ytkbgmkkboiihnaa
