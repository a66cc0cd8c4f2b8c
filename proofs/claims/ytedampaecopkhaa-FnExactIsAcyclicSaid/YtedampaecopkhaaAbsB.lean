/- The slim code, the state of a function as pure data, and what an operation makes of it. -/
import Derived.Test.YtedampaecopkhaaAbsA
namespace Go.Proofs.Ytedampaecopkhaa
open Go

inductive Opd where
  | t (n : Nat)
  | c (v : V)
  deriving Inhabited

inductive SO where
  | mov (x : Opd)
  | pick (c a b : Opd)
  | new (zero : List V)
  | box (x : Opd)
  | agg (zero : List V) (parts : List (Nat × Nat × Opd))
  | mks (len sz : Nat) (zero : List V) (parts : List (Nat × Nat × Opd))
  | ld (n : Option Nat) (dflt : V) (x : Opd)
  | st (n : Nat) (x v : Opd)
  | bin (tb : Bool) (op : BinOp) (x y : Opd)
  | un (op : UnOp) (x : Opd)
  | conv (k : IntKind) (x : Opd)
  | mk (sz bytes : Nat) (zero : List V) (len cap : Opd)
  | sli (sz : Nat) (x : Opd) (lo hi mx : Option Opd)
  | slis (x : Opd) (lo hi : Option Opd)
  | fad (off : Nat) (x : Opd)
  | fld (n : Option Nat) (off : Nat) (x : Opd)
  | idx (sz : Nat) (x i : Opd)
  | idxa (len sz : Nat) (x i : Opd)
  | ixs (x i : Opd)
  | ext (i : Nat) (x : Opd)
  | len (x : Opd)
  | lens (x : Opd)
  | app (sz bytes : Nat) (s x : Opd)
  | call (f : FuncId) (args : List Opd)
  | callv (x : Opd) (args : List Opd)
  | fn (f : FuncId) (caps : List Opd)
  | nck (x : Opd)
  deriving Inhabited

/-- An operation with the slot that it writes and its guard (a slot and the Bool that is wanted there). -/
structure GO where
  d : Option Nat
  g : Option (Nat × Bool)
  o : SO
  deriving Inhabited

/-- An operation of a statement whose order is open: does it write or make rows; may it be looked at without the rows. -/
structure DI where
  g : GO
  loud : Bool
  free : Bool
  deriving Inhabited

inductive SC where
  | skip
  | reg (ops : List GO)
  | dreg (ops : List DI)
  | seq (a b : SC)
  | cond (c : Opd) (a b : SC)
  | block (id : Nat) (c : SC)
  | loop (c : SC)
  | exit (id : Nat)
  | ret
  deriving Inhabited

structure St where
  t : List (Nat × V)
  h : List (Nat × List V)
  nx : Nat
  deriving Inhabited

def tget : List (Nat × V) → Nat → V
  | [], _ => .undef
  | (i, v) :: r, j => if i = j then v else tget r j
def hget : List (Nat × List V) → Nat → Option (List V)
  | [], _ => none
  | (i, c) :: r, j => if i = j then some c else hget r j
def hset : List (Nat × List V) → Nat → List V → List (Nat × List V)
  | [], _, _ => []
  | (i, c) :: r, j, d => if i = j then (i, d) :: r else (i, c) :: hset r j d
def hdel : List (Nat × List V) → Nat → List (Nat × List V)
  | [], _ => []
  | (i, c) :: r, j => if i = j then r else (i, c) :: hdel r j

def Opd.ev (t : Nat → V) : Opd → V
  | .t n => t n
  | .c v => v
def upd (t : Nat → V) : Option Nat → V → Nat → V
  | some d, v, j => if d = j then v else t j
  | none, _, j => t j
def St.put (st : St) : Option Nat → V → St
  | some d, v => { st with t := (d, v) :: st.t }
  | none, _ => st

/-- The value with its names looked up: what a callee that only reads sees. -/
def dr (H : List (Nat × List V)) : Nat → V → V
  | 0, _ => .undef
  | k + 1, .sl n sz off len => match hget H n with
    | some cells => if off + len * sz ≤ cells.length then .list sz (((cells.drop off).take (len * sz)).map (dr H k)) else .undef
    | none => .undef
  | k + 1, .pt n off => match hget H n with
    | some cells => .rp ((cells.drop off).map (dr H k))
    | none => .undef
  | k + 1, .own sz cells => .list sz (cells.map (dr H k))
  | k + 1, .list sz cells => .list sz (cells.map (dr H k))
  | k + 1, .rp cells => .rp (cells.map (dr H k))
  | k + 1, .agg parts => .agg (parts.map (dr H k))
  | k + 1, .fn f caps => .fn f (caps.map (dr H k))
  | _ + 1, .nil => .list 1 []
  | _ + 1, .tup _ => .undef
  | _ + 1, v => v

/-- A value whose rows nobody writes any more. -/
def fz : Nat → V → V
  | 0, _ => .undef
  | k + 1, .own sz cells => .list sz (cells.map (fz k))
  | k + 1, .agg parts => .agg (parts.map (fz k))
  | k + 1, .tup parts => .tup (parts.map (fz k))
  | _ + 1, v => v

/-- A value that fits into one cell and owns nothing. -/
def V.cell : V → Bool
  | .int .. | .bool _ | .str _ | .nil | .list .. | .sl .. | .pt .. | .rp _ | .fn .. => true
  | _ => false
def V.cells : V → List V
  | .agg parts => parts
  | v => [v]

/-- The rows that a result owns get names. -/
abbrev Hp := List (Nat × List V) × Nat
def opnL (f : V → Hp → V × Hp) : List V → Hp → List V × Hp
  | [], s => ([], s)
  | v :: vs, s => ((f v s).1 :: (opnL f vs (f v s).2).1, (opnL f vs (f v s).2).2)
def opn : Nat → V → Hp → V × Hp
  | 0, _, s => (.undef, s)
  | _ + 1, .own sz cells, s => (.sl s.2 sz 0 (cells.length / sz), ((s.2, cells) :: s.1, s.2 + 1))
  | k + 1, .agg parts, s => (.agg (opnL (opn k) parts s).1, (opnL (opn k) parts s).2)
  | k + 1, .tup parts, s => (.tup (opnL (opn k) parts s).1, (opnL (opn k) parts s).2)
  | _ + 1, v, s => (v, s)

def bitop (op : BinOp) (k : IntKind) (x y : Int) : Int :=
  let a := BitVec.ofInt k.bits x
  let b := BitVec.ofInt k.bits y
  match op with
  | .and => k.wrap (a &&& b).toNat
  | .or => k.wrap (a ||| b).toNat
  | .xor => k.wrap (a ^^^ b).toNat
  | _ => k.wrap (a &&& ~~~b).toNat

def evBin (op : BinOp) (x y : V) : Option (Bool × V) :=
  match op, x, y with
  | .shl, .int k a, .int _ b => some (decide (0 ≤ b), .int k (k.wrap (a * 2 ^ (min b.toNat k.bits))))
  | .shr, .int k a, .int _ b => some (decide (0 ≤ b), .int k (a.fdiv (2 ^ (min b.toNat k.bits))))
  | .add, .int k a, .int k' b => some (decide (k = k'), .int k (k.wrap (a + b)))
  | .sub, .int k a, .int k' b => some (decide (k = k'), .int k (k.wrap (a - b)))
  | .mul, .int k a, .int k' b => some (decide (k = k'), .int k (k.wrap (a * b)))
  | .quo, .int k a, .int k' b => some (decide (k = k') && decide (b ≠ 0), .int k (k.wrap (a.tdiv b)))
  | .rem, .int k a, .int k' b => some (decide (k = k') && decide (b ≠ 0), .int k (a.tmod b))
  | .and, .int k a, .int k' b => some (decide (k = k'), .int k (bitop .and k a b))
  | .or, .int k a, .int k' b => some (decide (k = k'), .int k (bitop .or k a b))
  | .xor, .int k a, .int k' b => some (decide (k = k'), .int k (bitop .xor k a b))
  | .andNot, .int k a, .int k' b => some (decide (k = k'), .int k (bitop .andNot k a b))
  | .eql, .int k a, .int k' b => some (decide (k = k'), .bool (a == b))
  | .neq, .int k a, .int k' b => some (decide (k = k'), .bool (a != b))
  | .lss, .int k a, .int k' b => some (decide (k = k'), .bool (decide (a < b)))
  | .leq, .int k a, .int k' b => some (decide (k = k'), .bool (decide (a ≤ b)))
  | .gtr, .int k a, .int k' b => some (decide (k = k'), .bool (decide (b < a)))
  | .geq, .int k a, .int k' b => some (decide (k = k'), .bool (decide (b ≤ a)))
  | .eql, .str a, .str b => some (true, .bool (a.toList == b.toList))
  | .neq, .str a, .str b => some (true, .bool (!(a.toList == b.toList)))
  | .add, .str a, .str b => some (decide (a.size + b.size ≤ 9223372036854775807), .str (a ++ b))
  | _, _, _ => none

def evBinB (op : BinOp) (x y : V) : Option (Bool × V) :=
  match op, x, y with
  | .eql, .bool a, .bool b => some (true, .bool (a == b))
  | .neq, .bool a, .bool b => some (true, .bool (!(a == b)))
  | _, _, _ => none
def evUn (op : UnOp) (x : V) : Option (Bool × V) :=
  match op, x with
  | .not, .bool b => some (true, .bool (!b))
  | .neg, .int k n => some (true, .int k (k.wrap (0 - n)))
  | _, _ => none

def asI : V → Option Int
  | .int _ n => some n
  | _ => none

/-- The bounds of a slice expression. -/
def evBounds (len : Nat) (e : Opd → V) (lo hi mx : Option Opd) : Option (Bool × Int × Int) :=
  match (match lo with | none => some 0 | some x => asI (e x)), (match hi with | none => some (len : Int) | some x => asI (e x)) with
  | some l, some h =>
    match mx with
    | none => some (decide (0 ≤ l) && decide (l ≤ h) && decide (h ≤ len), l, h)
    | some x => match asI (e x) with
      | some m => some (decide (0 ≤ l) && decide (l ≤ h) && decide (h ≤ m) && decide (m ≤ len) && hi.isSome, l, h)
      | none => none
  | _, _ => none

/-- No slice that only reads: every row belongs to the value itself. -/
def nolist : Nat → V → Bool
  | 0, _ => false
  | _ + 1, .list _ _ => false
  | _ + 1, .rp _ => false
  | _ + 1, .fn _ _ => false
  | k + 1, .own _ cells => cells.all (nolist k)
  | k + 1, .agg parts => parts.all (nolist k)
  | k + 1, .tup parts => parts.all (nolist k)
  | _ + 1, _ => true
/-- No names. -/
def noname : Nat → V → Bool
  | 0, _ => false
  | _ + 1, .sl .. => false
  | _ + 1, .pt .. => false
  | k + 1, .list _ cells => cells.all (noname k)
  | _ + 1, .own .. => false
  | k + 1, .rp cells => cells.all (noname k)
  | k + 1, .fn _ cells => cells.all (noname k)
  | k + 1, .agg parts => parts.all (noname k)
  | k + 1, .tup parts => parts.all (noname k)
  | _ + 1, _ => true

/-- No names; rows of its own are let in. -/
def nonm : Nat → V → Bool
  | 0, _ => false
  | _ + 1, .sl .. => false
  | _ + 1, .pt .. => false
  | k + 1, .list _ cells => cells.all (nonm k)
  | k + 1, .own _ cells => cells.all (nonm k)
  | k + 1, .rp cells => cells.all (nonm k)
  | k + 1, .fn _ cells => cells.all (nonm k)
  | k + 1, .agg parts => parts.all (nonm k)
  | k + 1, .tup parts => parts.all (nonm k)
  | _ + 1, _ => true

/-- What is known of callees: of one that only reads, its value; of one that writes into the row of its argument 'i' (name 0 there), its value and the row behind the call. -/
structure Env where
  p : List (FuncId × (List V → Option V))
  l : List (FuncId × Nat × (List V → List V → Option (V × List V))) := []
def lookp : List (FuncId × (List V → Option V)) → FuncId → Option (List V → Option V)
  | [], _ => none
  | (f, F) :: r, g => if f = g then some F else lookp r g
def lookl : List (FuncId × Nat × (List V → List V → Option (V × List V))) → FuncId → Option (Nat × (List V → List V → Option (V × List V)))
  | [], _ => none
  | (f, F) :: r, g => if f = g then some F else lookl r g
/-- Name 0 becomes 'n'. -/
def ren0 (n : Nat) : Nat → V → V
  | 0, _ => .undef
  | _ + 1, .sl m sz off len => .sl (if m = 0 then n else m) sz off len
  | _ + 1, .pt m off => .pt (if m = 0 then n else m) off
  | k + 1, .tup parts => .tup (parts.map (ren0 n k))
  | k + 1, .agg parts => .agg (parts.map (ren0 n k))
  | k + 1, .own sz parts => .own sz (parts.map (ren0 n k))
  | _ + 1, v => v

def setRange {α : Type} : List α → Nat → List α → List α
  | cells, _, [] => cells
  | cells, o, v :: vs => setRange (cells.set o v) (o + 1) vs
def fillRange : List V → List (Nat × Nat × V) → Option (List V)
  | cells, [] => some cells
  | cells, (off, size, v) :: r =>
    if v.cells.length = size ∧ off + size ≤ cells.length ∧ (v.cells.all V.cell) then fillRange (setRange cells off v.cells) r else none

/-- Operations that leave all rows as they are. The Bool: that nothing panics. -/
def evQ (Γ : Env) (H : List (Nat × List V)) (e : Opd → V) : SO → Option (Bool × V)
  | .mov x => some (true, e x)
  | .pick c a b => match e c with
    | .bool true => some (true, e a)
    | .bool false => some (true, e b)
    | _ => none
  | .ld none dflt x => match e x with
    | .pt n off => match hget H n with
      | some cells => some (decide (off < cells.length) && (cells.getD off dflt).cell, cells.getD off dflt)
      | none => none
    | .rp cells => some (decide (0 < cells.length), cells.getD 0 dflt)
    | _ => none
  | .ld (some k) _ x => match e x with
    | .pt n off => match hget H n with
      | some cells => some (decide (off + k ≤ cells.length) && ((cells.drop off).take k).all V.cell, .agg ((cells.drop off).take k))
      | none => none
    | .rp cells => some (decide (k ≤ cells.length), .agg (cells.take k))
    | _ => none
  | .bin false op x y => evBin op (e x) (e y)
  | .bin true op x y => evBinB op (e x) (e y)
  | .un op x => evUn op (e x)
  | .conv k x => match e x with
    | .int _ n => some (true, .int k (k.wrap n))
    | _ => none
  | .sli sz x lo hi mx => match e x with
    | .list sz' cells => match evBounds (cells.length / sz) e lo hi mx with
      | some (b, l, h) => some (b && decide (sz = sz'), .list sz ((cells.drop (l.toNat * sz)).take ((h - l).toNat * sz)))
      | none => none
    | .sl n sz' off len => match evBounds len e lo hi mx with
      | some (b, l, h) => some (b && decide (sz = sz'), .sl n sz (off + l.toNat * sz) (h - l).toNat)
      | none => none
    | .nil => match evBounds 0 e lo hi mx with
      | some (b, _, _) => some (b && mx.isNone, .nil)
      | none => none
    | _ => none
  | .slis x lo hi => match e x with
    | .str s => match evBounds s.size e lo hi none with
      | some (b, l, h) => some (b, .str (s.extract l.toNat h.toNat))
      | none => none
    | _ => none
  | .fad off x => match e x with
    | .pt n o => some (true, .pt n (o + off))
    | .rp cells => some (true, .rp (cells.drop off))
    | _ => none
  | .fld none off x => match e x with
    | .agg parts => some (decide (off < parts.length), parts.getD off .undef)
    | _ => none
  | .fld (some k) off x => match e x with
    | .agg parts => some (decide (off + k ≤ parts.length), .agg ((parts.drop off).take k))
    | _ => none
  | .idx sz x i => match e x, asI (e i) with
    | .sl n sz' off len, some i => some (decide (sz = sz') && decide (0 ≤ i) && decide (i < len), .pt n (off + i.toNat * sz))
    | .list sz' cells, some i => some (decide (sz = sz') && decide (0 ≤ i) && decide (i < ((cells.length / sz : Nat) : Int)), .rp (cells.drop (i.toNat * sz)))
    | _, _ => none
  | .idxa len sz x i => match e x, asI (e i) with
    | .pt n off, some i => some (decide (0 ≤ i) && decide (i < len), .pt n (off + i.toNat * sz))
    | _, _ => none
  | .ixs x i => match e x, asI (e i) with
    | .str s, some i => some (decide (0 ≤ i) && decide (i < s.size), .int .u8 ((s.data.toList.getD i.toNat 0).toNat : Int))
    | _, _ => none
  | .ext i x => match e x with
    | .tup vs => some (decide (i < vs.length), vs.getD i .undef)
    | _ => none
  | .len x => match e x with
    | .list sz cells => some (true, .int .i64 ((cells.length / sz : Nat) : Int))
    | .sl _ _ _ len => some (true, .int .i64 (len : Int))
    | .nil => some (true, .int .i64 0)
    | _ => none
  | .lens x => match e x with
    | .str s => some (true, .int .i64 (s.size : Int))
    | _ => none
  | .call f args => match lookp Γ.p f with
    | some F => match F (args.map fun x => dr H 6 (e x)) with
      | some r => some (nolist 6 r || args.all fun x => noname 6 (e x), r)
      | none => none
    | none => none
  | .callv x args => match e x with
    | .fn f caps => match lookp Γ.p f with
      | some F => match F ((args.map fun x => dr H 6 (e x)) ++ caps.map (dr H 6)) with
        | some r => some (nolist 6 r, r)
        | none => none
      | none => none
    | _ => none
  | .fn f caps => some (true, .fn f (caps.map e))
  | .nck x => match e x with
    | .pt n off => some (true, .pt n off)
    | .rp cells => some (true, .rp cells)
    | _ => none
  | .agg zero parts => match fillRange zero (parts.map fun (o, s, x) => (o, s, e x)) with
    | some cells => some (true, .agg cells)
    | none => none
  | _ => none

/-- The cells that are appended. -/
def srcOf (H : List (Nat × List V)) (sz : Nat) : V → Option (List V)
  | .sl m sz' off len => match hget H m with
    | some c => if sz = sz' ∧ off + len * sz ≤ c.length then some ((c.drop off).take (len * sz)) else none
    | none => none
  | .list sz' cells => if sz = sz' then some cells else none
  | .nil => some []
  | _ => none

def evApp (sz bytes : Nat) (news : List V) (s : Hp) : V → Option (Bool × V × Hp)
  | .sl n sz' off len => match hget s.1 n with
    | some cells => some (decide (sz = sz') && news.all V.cell && decide (off + len * sz ≤ cells.length) && decide ((len + news.length / sz) * bytes ≤ 140737488355328),
        .sl s.2 sz 0 (len + news.length / sz), ((s.2, (cells.drop off).take (len * sz) ++ news) :: hdel s.1 n, s.2 + 1))
    | none => none
  | .nil => some (news.all V.cell && decide ((news.length / sz) * bytes ≤ 140737488355328),
        .sl s.2 sz 0 (news.length / sz), ((s.2, news) :: s.1, s.2 + 1))
  | _ => none

/-- All operations. -/
def evH (Γ : Env) (e : Opd → V) (s : Hp) : SO → Option (Bool × V × Hp)
  | .new zero => some (true, .pt s.2 0, ((s.2, zero) :: s.1, s.2 + 1))
  | .box x => some (((e x).cells.all V.cell), .pt s.2 0, ((s.2, (e x).cells) :: s.1, s.2 + 1))
  | .mks len sz zero parts => match fillRange zero (parts.map fun (o, n, x) => (o, n, e x)) with
    | some cells => some (true, .sl s.2 sz 0 len, ((s.2, cells) :: s.1, s.2 + 1))
    | none => none
  | .mk sz bytes zero len cap => match asI (e len), asI (e cap) with
    | some l, some c => some (decide (0 ≤ l) && decide (l ≤ c) && decide (bytes * c ≤ 281474976710656) && decide (c ≤ 9223372036854775807), .sl s.2 sz 0 l.toNat,
        ((s.2, (List.replicate c.toNat zero).flatten) :: s.1, s.2 + 1))
    | _, _ => none
  | .st n x v => match e x with
    | .pt nm off => match hget s.1 nm with
      | some cells => some (decide (off + n ≤ cells.length) && decide ((e v).cells.length = n) && (e v).cells.all V.cell, .tup [],
          (hset s.1 nm (setRange cells off (e v).cells), s.2))
      | none => none
    | _ => none
  | .app sz bytes a x => match srcOf s.1 sz (e x) with
    | none => none
    | some news => evApp sz bytes news s (e a)
  | .call f args => match lookl Γ.l f with
    | some (i, G) => match (args[i]?).map e with
      | some (.sl n sz off len) => match hget s.1 n with
        | some cells => match G ((args.map fun x => dr (hdel s.1 n) 6 (e x)).set i (.sl 0 sz off len)) cells with
          | some (r, cells') => some (nolist 6 r && cells.all (nonm 6) && cells'.all (nonm 6) && (cells'.all (nolist 6) || (args.eraseIdx i).all fun x => noname 6 (e x)), opn 6 (ren0 n 6 r) (hset s.1 n cells', s.2))
          | none => none
        | none => none
      | some (.pt n off) => match hget s.1 n with
        | some cells => match G ((args.map fun x => dr (hdel s.1 n) 6 (e x)).set i (.pt 0 off)) cells with
          | some (r, cells') => some (nolist 6 r && cells.all (nonm 6) && cells'.all (nonm 6) && (cells'.all (nolist 6) || (args.eraseIdx i).all fun x => noname 6 (e x)), opn 6 (ren0 n 6 r) (hset s.1 n cells', s.2))
          | none => none
        | none => none
      | some (.agg [.int q m, .sl n sz off len]) => match hget s.1 n with
        | some cells => match G ((args.map fun x => dr (hdel s.1 n) 6 (e x)).set i (.agg [.int q m, .sl 0 sz off len])) cells with
          | some (r, cells') => some (nolist 6 r && cells.all (nonm 6) && cells'.all (nonm 6) && (cells'.all (nolist 6) || (args.eraseIdx i).all fun x => noname 6 (e x)), opn 6 (ren0 n 6 r) (hset s.1 n cells', s.2))
          | none => none
        | none => none
      | _ => none
    | none => match evQ Γ s.1 e (.call f args) with
      | some (b, v) => some (b, opn 6 v s)
      | none => none
  | o => match evQ Γ s.1 e o with
    | some (b, v) => some (b, opn 6 v s)
    | none => none

end Go.Proofs.Ytedampaecopkhaa
