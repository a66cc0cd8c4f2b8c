/- From the model's operations to the slim ones. -/
import Derived.Test.YtedampaecopkhaaAbsB
namespace Go.Proofs.Ytedampaecopkhaa
open Go Go.RowKit

def const1 : Value → Option V
  | .bool b => some (.bool b)
  | .int k n => some (.int k n)
  | .string s => some (.str s)
  | .slice none 0 0 => some .nil
  | _ => none
def constL : List Value → Option (List V)
  | [] => some []
  | v :: r => match const1 v, constL r with
    | some x, some xs => some (x :: xs)
    | _, _ => none
def constV : Value → Option V
  | .agg cs => (constL cs.toList).map .agg
  | v => const1 v
def compOpd : Operand → Option Opd
  | .tmp t => some (.t t)
  | .const v => (constV v).map .c
  | .func f => some (.c (.fn f []))
  | .global _ => none
def compOpds : List Operand → Option (List Opd)
  | [] => some []
  | v :: r => match compOpd v, compOpds r with
    | some x, some xs => some (x :: xs)
    | _, _ => none
def compOpt : Option Operand → Option (Option Opd)
  | none => some none
  | some x => (compOpd x).map some
def aggB (P : Program) (t : TypeId) : Option Bool :=
  match P.underlying t with
  | some (.struct _) | some (.array _ _) => some true
  | some _ => some false
  | none => none
def zeroL (P : Program) (t : TypeId) : Option (List V) :=
  match P.info? t with
  | some i => match i.zero with
    | some z => constL z.cells.toList
    | none => none
  | none => none
def sizeT (P : Program) (t : TypeId) : Nat :=
  match P.info? t with
  | some i => i.size
  | none => 0
def bytesT (P : Program) (t : TypeId) : Nat :=
  match P.info? t with
  | some i => i.bytes
  | none => 0
def elemT (P : Program) (t : TypeId) : Option TypeId :=
  match P.underlying t with
  | some (.slice e) => some e
  | _ => none
/-- The parts of a composite literal: offset, size, value. -/
def compParts (f : Nat → Option (Nat × Nat)) : List (Nat × Operand) → Option (List (Nat × Nat × Opd))
  | [] => some []
  | (i, x) :: r => match f i, compOpd x, compParts f r with
    | some (o, s), some x, some xs => some ((o, s, x) :: xs)
    | _, _, _ => none
def placesT (P : Program) (t : TypeId) : Option (Nat → Option (Nat × Nat)) :=
  match P.underlying t with
  | some (.struct fields) => if fields.all (fun f => (P.info? f.type).isSome) then some fun i => (fields[i]?).map fun f => (f.offset, sizeT P f.type) else none
  | some (.array _ e) => if (P.info? e).isSome then some fun i => some (i * sizeT P e, sizeT P e) else none
  | _ => none
def zeroLen (P : Program) (t : TypeId) : Nat := match zeroL P t with | some z => z.length | none => 0

def compCall (P : Program) (c : Call) : Option SO :=
  match c.callee with
  | .value (.func f) => (compOpds c.args.toList).map (.call f)
  | .value x => match compOpd x, compOpds c.args.toList with
    | some x, some xs => some (.callv x xs)
    | _, _ => none
  | .builtin .len => match c.args.toList, c.argTypes.toList with
    | [x], [t] => match compOpd x, P.underlying t with
      | some x, some (.slice _) => some (.len x)
      | some x, some .string => some (.lens x)
      | _, _ => none
    | _, _ => none
  | .builtin .append => match c.args.toList, c.argTypes.toList with
    | [s, x], [t, u] => match compOpd s, compOpd x, elemT P t, elemT P u with
      | some s, some x, some e, some _ => if (P.info? e).isSome ∧ 0 < sizeT P e ∧ zeroLen P e = sizeT P e ∧ 0 < bytesT P e then some (.app (sizeT P e) (bytesT P e) s x) else none
      | _, _, _, _ => none
    | _, _ => none
  | _ => none

def compOp (P : Program) (o : Oper) : Option SO :=
  match o.op with
  | .move x => (compOpd x).map .mov
  | .assign x => (compOpd x).map .mov
  | .pick c a b => match compOpd c, compOpd a, compOpd b with
    | some c, some a, some b => some (.pick c a b)
    | _, _, _ => none
  | .alloc t => (zeroL P t).map .new
  | .box _ x => (compOpd x).map .box
  | .build t parts => match zeroL P t, placesT P t with
    | some z, some f => (compParts f parts.toList).map (.agg z)
    | _, _ => none
  | .buildSlice t len parts => match elemT P t with
    | some e => match zeroL P e with
      | some z => if 0 < sizeT P e ∧ z.length = sizeT P e ∧ len * sizeT P e ≤ 65536 then
          (compParts (fun i => some (i * sizeT P e, sizeT P e)) parts.toList).map (.mks len (sizeT P e) (List.replicate len z).flatten) else none
      | none => none
    | none => none
  | .load t x => match compOpd x, aggB P t, P.info? t with
    | some x, some true, some i => some (.ld (some i.size) .undef x)
    | some x, some false, some i => match i.zero with
      | some z => (constV z).map fun z => .ld none z x
      | none => none
    | _, _, _ => none
  | .store t x v => match compOpd x, compOpd v, P.info? t with
    | some x, some v, some i => if 0 < i.size then some (.st i.size x v) else none
    | _, _, _ => none
  | .binOp op t x y _ => match compOpd x, compOpd y, P.underlying t with
    | some x, some y, some (.int _) => some (.bin false op x y)
    | some x, some y, some .string => some (.bin false op x y)
    | some x, some y, some .bool => some (.bin true op x y)
    | _, _, _ => none
  | .unOp op _ x => (compOpd x).map (.un op)
  | .convert src dst x => match compOpd x, P.underlying src, P.underlying dst with
    | some x, some (.int _), some (.int k) => some (.conv k x)
    | _, _, _ => none
  | .makeFunc (.func f) first caps => if first.size = 0 then (compOpds caps.toList).map (.fn f) else none
  | .makeSlice t l c => match compOpd l, compOpd c, elemT P t with
    | some l, some c, some e => match zeroL P e with
      | some z => if 0 < sizeT P e ∧ z.length = sizeT P e then some (.mk (sizeT P e) (bytesT P e) z l c) else none
      | none => none
    | _, _, _ => none
  | .slice t x lo hi mx => match compOpd x, compOpt lo, compOpt hi, compOpt mx with
    | some x, some lo, some hi, some mx => match P.underlying t with
      | some (.slice e) => if (P.info? e).isSome ∧ 0 < sizeT P e then some (.sli (sizeT P e) x lo hi mx) else none
      | some .string => if mx.isNone then some (.slis x lo hi) else none
      | _ => none
    | _, _, _, _ => none
  | .fieldAddr s x f => match compOpd x, P.underlying s with
    | some x, some (.struct fields) => match fields[f]? with
      | some fd => if (P.info? fd.type).isSome ∧ 0 < sizeT P fd.type then some (.fad fd.offset x) else none
      | none => none
    | _, _ => none
  | .field t x f => match compOpd x, P.underlying t with
    | some x, some (.struct fields) => match fields[f]? with
      | some fd => match aggB P fd.type, P.info? fd.type with
        | some true, some i => some (.fld (some i.size) fd.offset x)
        | some false, some _ => some (.fld none fd.offset x)
        | _, _ => none
      | none => none
    | _, _ => none
  | .indexAddr t x i => match compOpd x, compOpd i, P.underlying t with
    | some x, some i, some (.slice e) => if (P.info? e).isSome ∧ 0 < sizeT P e then some (.idx (sizeT P e) x i) else none
    | some x, some i, some (.array n e) => if (P.info? e).isSome then some (.idxa n (sizeT P e) x i) else none
    | _, _, _ => none
  | .index t x i => match compOpd x, compOpd i, P.underlying t with
    | some x, some i, some .string => some (.ixs x i)
    | _, _, _ => none
  | .extract x i => (compOpd x).map (.ext i)
  | .call c => compCall P c
  | .nilCheck x => (compOpd x).map .nck
  | _ => none

/-- The guard of an operation: the slot that the operation it names writes. -/
def compGuard (ops : Array Oper) : Option (Nat × Bool) → Option (Option (Nat × Bool))
  | none => some none
  | some (j, b) => match (ops[j]?).bind (·.dst) with
    | some d => some (some (d, b))
    | none => none
def compGO (P : Program) (ops : Array Oper) (nt : Nat) (o : Oper) : Option GO :=
  match compOp P o, compGuard ops o.guard with
  | some so, some g => match o.dst with
    | none => some ⟨none, g, so⟩
    | some d => if d < nt then some ⟨some d, g, so⟩ else none
  | _, _ => none
def compGOs (P : Program) (ops : Array Oper) (nt : Nat) : List Oper → Option (List GO)
  | [] => some []
  | o :: r => match compGO P ops nt o, compGOs P ops nt r with
    | some g, some gs => some (g :: gs)
    | _, _ => none

section consts
variable {N : Nm} {U : Nat → Prop} {w : World}
theorem const1_ok {v : Value} {x : V} (h : const1 v = some x) : RV N U w x v [] ∧ x.cell = true ∧ v.oneCell' = true := by
  unfold const1 at h
  split at h <;> simp at h <;> subst h
  · exact ⟨.bool _, rfl, rfl⟩
  · exact ⟨.int _ _, rfl, rfl⟩
  · exact ⟨.str _, rfl, rfl⟩
  · exact ⟨.nil, rfl, rfl⟩
theorem constL_ok {cs : List Value} {xs : List V} (h : constL cs = some xs) : RVs N U w xs cs [] := by
  induction cs generalizing xs with
  | nil => simp [constL] at h; subst h; exact .nil
  | cons v r ih =>
    unfold constL at h
    split at h
    · rename_i x xs' h1 h2
      simp at h
      subst h
      exact .cons _ _ _ _ [] [] _ (const1_ok h1).1 (ih h2) rfl
    · simp at h
theorem constL_cell {cs : List Value} {xs : List V} (h : constL cs = some xs) : xs.all V.cell = true := by
  induction cs generalizing xs with
  | nil => simp [constL] at h; subst h; rfl
  | cons v r ih =>
    unfold constL at h
    split at h
    · rename_i x xs' h1 h2
      simp at h
      subst h
      simp [(const1_ok (N := fun _ => none) (U := fun _ => False) (w := default) h1).2.1, ih h2]
    · simp at h
theorem constV_ok {v : Value} {x : V} (h : constV v = some x) : RV N U w x v [] := by
  unfold constV at h
  split at h
  · rename_i cs
    cases hc : constL cs.toList with
    | none => simp [hc] at h
    | some xs =>
      simp [hc] at h
      subst h
      have := RV.agg (N := N) (U := U) (w := w) xs cs.toList [] (constL_ok hc)
      simpa using this
  · exact (const1_ok h).1
theorem compOpd_ok {o : Operand} {x : Opd} (h : compOpd o = some x) {t : Nat → V} {a : Act} (hs : ∀ i, RV N U w (t i) (a.tmps.getD i Go.undef) []) : RV N U w (x.ev t) (a.eval o) [] := by
  unfold compOpd at h
  split at h
  · simp at h; subst h; exact hs _
  · rename_i v
    cases hc : constV v with
    | none => simp [hc] at h
    | some y => simp [hc] at h; subst h; exact constV_ok hc
  · simp at h; subst h; exact RV.fn _ [] [] .nil
  · simp at h
theorem compOpds_ok {os : List Operand} {xs : List Opd} (h : compOpds os = some xs) {t : Nat → V} {a : Act} (hs : ∀ i, RV N U w (t i) (a.tmps.getD i Go.undef) []) : RVs N U w (xs.map (Opd.ev t)) (os.map a.eval) [] := by
  induction os generalizing xs with
  | nil => simp [compOpds] at h; subst h; exact .nil
  | cons v r ih =>
    unfold compOpds at h
    split at h
    · rename_i x xs' h1 h2
      simp at h
      subst h
      exact .cons _ _ _ _ [] [] _ (compOpd_ok h1 hs) (ih h2) rfl
    · simp at h
end consts
end Go.Proofs.Ytedampaecopkhaa
