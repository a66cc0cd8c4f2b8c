import Derived.Test.YtkbgmkkboiihnaaKB
import Derived.Test.YtkbgmkkboiihnaaProg
namespace Go.Proofs.Ytkbgmkkboiihnaa
open Go Go.RowKit
set_option linter.unusedSimpArgs false

attribute [simp] tget hget hset hdel thenE blockE retE resV resOf mt mt1 mt2 mtL initT asI V.cell V.cells evBin evBinB evUn evBounds evApp srcOf lookp lookl setRange fillRange subT subH

@[simp] theorem put_some (l : Tm) (d : Nat) (v : V) : put l (some d) v = (d, v) :: l := (rfl)
@[simp] theorem put_none (l : Tm) (v : V) : put l none v = l := (rfl)
section ops
variable {Γ : Env} {e : Opd → V} {s : Hp} {H : List (Nat × List V)}
@[simp] theorem ev_t (t : Nat → V) (n : Nat) : Opd.ev t (.t n) = t n := (rfl)
@[simp] theorem ev_c (t : Nat → V) (v : V) : Opd.ev t (.c v) = v := (rfl)
@[simp] theorem opn_int (j : Nat) (k : IntKind) (n : Int) : opn (j + 1) (.int k n) s = (.int k n, s) := (rfl)
@[simp] theorem opn_bool (j : Nat) (b : Bool) : opn (j + 1) (.bool b) s = (.bool b, s) := (rfl)
@[simp] theorem opn_str (j : Nat) (b : ByteArray) : opn (j + 1) (.str b) s = (.str b, s) := (rfl)
@[simp] theorem opn_nil (j : Nat) : opn (j + 1) .nil s = (.nil, s) := (rfl)
@[simp] theorem opn_list (j sz : Nat) (c : List V) : opn (j + 1) (.list sz c) s = (.list sz c, s) := (rfl)
@[simp] theorem opn_own (j sz : Nat) (c : List V) : opn (j + 1) (.own sz c) s = (.sl s.2 sz 0 (c.length / sz), ((s.2, c) :: s.1, s.2 + 1)) := (rfl)
@[simp] theorem opn_sl (j n sz off len : Nat) : opn (j + 1) (.sl n sz off len) s = (.sl n sz off len, s) := (rfl)
@[simp] theorem opn_pt (j n off : Nat) : opn (j + 1) (.pt n off) s = (.pt n off, s) := (rfl)
@[simp] theorem opn_rp (j : Nat) (c : List V) : opn (j + 1) (.rp c) s = (.rp c, s) := (rfl)
@[simp] theorem opn_fn (j : Nat) (f : FuncId) (c : List V) : opn (j + 1) (.fn f c) s = (.fn f c, s) := (rfl)
@[simp] theorem opn_undef (j : Nat) : opn (j + 1) .undef s = (.undef, s) := (rfl)
@[simp] theorem opn_agg (j : Nat) (c : List V) : opn (j + 1) (.agg c) s = (.agg (opnL (opn j) c s).1, (opnL (opn j) c s).2) := (rfl)
@[simp] theorem opn_tup (j : Nat) (c : List V) : opn (j + 1) (.tup c) s = (.tup (opnL (opn j) c s).1, (opnL (opn j) c s).2) := (rfl)
@[simp] theorem opnL_nil (f : V → Hp → V × Hp) : opnL f [] s = ([], s) := (rfl)
@[simp] theorem opnL_cons (f : V → Hp → V × Hp) (v : V) (vs : List V) : opnL f (v :: vs) s = ((f v s).1 :: (opnL f vs (f v s).2).1, (opnL f vs (f v s).2).2) := (rfl)

@[simp] theorem fz_int (j : Nat) (k : IntKind) (n : Int) : fz (j + 1) (.int k n) = .int k n := (rfl)
@[simp] theorem fz_bool (j : Nat) (b : Bool) : fz (j + 1) (.bool b) = .bool b := (rfl)
@[simp] theorem fz_str (j : Nat) (b : ByteArray) : fz (j + 1) (.str b) = .str b := (rfl)
@[simp] theorem fz_nil (j : Nat) : fz (j + 1) .nil = .nil := (rfl)
@[simp] theorem fz_list (j sz : Nat) (c : List V) : fz (j + 1) (.list sz c) = .list sz c := (rfl)
@[simp] theorem fz_own (j sz : Nat) (c : List V) : fz (j + 1) (.own sz c) = .list sz (c.map (fz j)) := (rfl)
@[simp] theorem fz_sl (j n sz off len : Nat) : fz (j + 1) (.sl n sz off len) = .sl n sz off len := (rfl)
@[simp] theorem fz_pt (j n off : Nat) : fz (j + 1) (.pt n off) = .pt n off := (rfl)
@[simp] theorem fz_rp (j : Nat) (c : List V) : fz (j + 1) (.rp c) = .rp c := (rfl)
@[simp] theorem fz_fn (j : Nat) (f : FuncId) (c : List V) : fz (j + 1) (.fn f c) = .fn f c := (rfl)
@[simp] theorem fz_agg (j : Nat) (c : List V) : fz (j + 1) (.agg c) = .agg (c.map (fz j)) := (rfl)
@[simp] theorem fz_tup (j : Nat) (c : List V) : fz (j + 1) (.tup c) = .tup (c.map (fz j)) := (rfl)

@[simp] theorem dr_int (j : Nat) (k : IntKind) (n : Int) : dr H (j + 1) (.int k n) = .int k n := (rfl)
@[simp] theorem dr_bool (j : Nat) (b : Bool) : dr H (j + 1) (.bool b) = .bool b := (rfl)
@[simp] theorem dr_str (j : Nat) (b : ByteArray) : dr H (j + 1) (.str b) = .str b := (rfl)
@[simp] theorem dr_nil (j : Nat) : dr H (j + 1) .nil = .list 1 [] := (rfl)
@[simp] theorem dr_list (j sz : Nat) (c : List V) : dr H (j + 1) (.list sz c) = .list sz (c.map (dr H j)) := (rfl)
@[simp] theorem dr_own (j sz : Nat) (c : List V) : dr H (j + 1) (.own sz c) = .list sz (c.map (dr H j)) := (rfl)
@[simp] theorem dr_rp (j : Nat) (c : List V) : dr H (j + 1) (.rp c) = .rp (c.map (dr H j)) := (rfl)
@[simp] theorem dr_fn (j : Nat) (f : FuncId) (c : List V) : dr H (j + 1) (.fn f c) = .fn f (c.map (dr H j)) := (rfl)
@[simp] theorem dr_agg (j : Nat) (c : List V) : dr H (j + 1) (.agg c) = .agg (c.map (dr H j)) := (rfl)
@[simp] theorem dr_sl (j n sz off len : Nat) : dr H (j + 1) (.sl n sz off len) = match hget H n with
    | some cells => if off + len * sz ≤ cells.length then .list sz (((cells.drop off).take (len * sz)).map (dr H j)) else .undef
    | none => .undef := (rfl)
@[simp] theorem dr_pt (j n off : Nat) : dr H (j + 1) (.pt n off) = match hget H n with
    | some cells => .rp ((cells.drop off).map (dr H j))
    | none => .undef := (rfl)

@[simp] theorem nl_int (j : Nat) (k : IntKind) (n : Int) : nolist (j + 1) (.int k n) = true := (rfl)
@[simp] theorem nl_bool (j : Nat) (b : Bool) : nolist (j + 1) (.bool b) = true := (rfl)
@[simp] theorem nl_str (j : Nat) (b : ByteArray) : nolist (j + 1) (.str b) = true := (rfl)
@[simp] theorem nl_nil (j : Nat) : nolist (j + 1) .nil = true := (rfl)
@[simp] theorem nl_list (j sz : Nat) (c : List V) : nolist (j + 1) (.list sz c) = false := (rfl)
@[simp] theorem nl_own (j sz : Nat) (c : List V) : nolist (j + 1) (.own sz c) = c.all (nolist j) := (rfl)
@[simp] theorem nl_rp (j : Nat) (c : List V) : nolist (j + 1) (.rp c) = false := (rfl)
@[simp] theorem nl_fn (j : Nat) (f : FuncId) (c : List V) : nolist (j + 1) (.fn f c) = false := (rfl)
@[simp] theorem nl_agg (j : Nat) (c : List V) : nolist (j + 1) (.agg c) = c.all (nolist j) := (rfl)
@[simp] theorem nl_tup (j : Nat) (c : List V) : nolist (j + 1) (.tup c) = c.all (nolist j) := (rfl)
@[simp] theorem nn_int (j : Nat) (k : IntKind) (n : Int) : noname (j + 1) (.int k n) = true := (rfl)
@[simp] theorem nn_bool (j : Nat) (b : Bool) : noname (j + 1) (.bool b) = true := (rfl)
@[simp] theorem nn_str (j : Nat) (b : ByteArray) : noname (j + 1) (.str b) = true := (rfl)
@[simp] theorem nn_nil (j : Nat) : noname (j + 1) .nil = true := (rfl)
@[simp] theorem nn_list (j sz : Nat) (c : List V) : noname (j + 1) (.list sz c) = c.all (noname j) := (rfl)
@[simp] theorem nn_own (j sz : Nat) (c : List V) : noname (j + 1) (.own sz c) = false := (rfl)
@[simp] theorem nn_sl (j n sz off len : Nat) : noname (j + 1) (.sl n sz off len) = false := (rfl)
@[simp] theorem nn_pt (j n off : Nat) : noname (j + 1) (.pt n off) = false := (rfl)
@[simp] theorem nn_rp (j : Nat) (c : List V) : noname (j + 1) (.rp c) = c.all (noname j) := (rfl)
@[simp] theorem nn_fn (j : Nat) (f : FuncId) (c : List V) : noname (j + 1) (.fn f c) = c.all (noname j) := (rfl)
@[simp] theorem nn_agg (j : Nat) (c : List V) : noname (j + 1) (.agg c) = c.all (noname j) := (rfl)
@[simp] theorem nn_tup (j : Nat) (c : List V) : noname (j + 1) (.tup c) = c.all (noname j) := (rfl)
@[simp] theorem nm_int (j : Nat) (k : IntKind) (n : Int) : nonm (j + 1) (.int k n) = true := (rfl)
@[simp] theorem nm_bool (j : Nat) (b : Bool) : nonm (j + 1) (.bool b) = true := (rfl)
@[simp] theorem nm_str (j : Nat) (b : ByteArray) : nonm (j + 1) (.str b) = true := (rfl)
@[simp] theorem nm_nil (j : Nat) : nonm (j + 1) .nil = true := (rfl)
@[simp] theorem nm_undef (j : Nat) : nonm (j + 1) .undef = true := (rfl)
@[simp] theorem nm_list (j sz : Nat) (c : List V) : nonm (j + 1) (.list sz c) = c.all (nonm j) := (rfl)
@[simp] theorem nm_own (j sz : Nat) (c : List V) : nonm (j + 1) (.own sz c) = c.all (nonm j) := (rfl)
@[simp] theorem nm_sl (j n sz off len : Nat) : nonm (j + 1) (.sl n sz off len) = false := (rfl)
@[simp] theorem nm_pt (j n off : Nat) : nonm (j + 1) (.pt n off) = false := (rfl)
@[simp] theorem nm_rp (j : Nat) (c : List V) : nonm (j + 1) (.rp c) = c.all (nonm j) := (rfl)
@[simp] theorem nm_fn (j : Nat) (f : FuncId) (c : List V) : nonm (j + 1) (.fn f c) = c.all (nonm j) := (rfl)
@[simp] theorem nm_agg (j : Nat) (c : List V) : nonm (j + 1) (.agg c) = c.all (nonm j) := (rfl)
@[simp] theorem nm_tup (j : Nat) (c : List V) : nonm (j + 1) (.tup c) = c.all (nonm j) := (rfl)

/-- From a quiet operation to one of all. -/
def up (s : Hp) : Option (Bool × V) → Option (Bool × V × Hp)
  | some (b, v) => some (b, opn 6 v s)
  | none => none
@[simp] theorem up_some (b : Bool) (v : V) : up s (some (b, v)) = some (b, opn 6 v s) := (rfl)
@[simp] theorem up_none : up s none = none := (rfl)

@[simp] theorem h_mov (x : Opd) : evH Γ e s (.mov x) = some (true, opn 6 (e x) s) := (rfl)
@[simp] theorem h_pick (c a b : Opd) : evH Γ e s (.pick c a b) = up s (evQ Γ s.1 e (.pick c a b)) := (rfl)
@[simp] theorem h_ldn (k : Nat) (d : V) (x : Opd) : evH Γ e s (.ld (some k) d x) = up s (evQ Γ s.1 e (.ld (some k) d x)) := (rfl)
@[simp] theorem h_ld (d : V) (x : Opd) : evH Γ e s (.ld none d x) = match e x with
    | .pt n off => match hget s.1 n with
      | some cells => ldU s n off cells (cells.getD off d)
      | none => none
    | .rp cells => some (decide (0 < cells.length), opn 6 (cells.getD 0 d) s)
    | _ => none := (rfl)
section
variable {n off : Nat} {cells : List V}
@[simp] theorem ldU_own (sz : Nat) (cn : List V) : ldU s n off cells (.own sz cn) = some (decide (off < cells.length) && decide (0 < sz), .sl s.2 sz 0 (cn.length / sz), ((s.2, cn) :: hset s.1 n (cells.set off (.sl s.2 sz 0 (cn.length / sz))), s.2 + 1)) := (rfl)
@[simp] theorem ldU_int (k : IntKind) (m : Int) : ldU s n off cells (.int k m) = some (decide (off < cells.length), .int k m, s) := by simp [ldU, V.cell, opn]
@[simp] theorem ldU_bool (b : Bool) : ldU s n off cells (.bool b) = some (decide (off < cells.length), .bool b, s) := by simp [ldU, V.cell, opn]
@[simp] theorem ldU_str (b : ByteArray) : ldU s n off cells (.str b) = some (decide (off < cells.length), .str b, s) := by simp [ldU, V.cell, opn]
@[simp] theorem ldU_nil : ldU s n off cells .nil = some (decide (off < cells.length), .nil, s) := by simp [ldU, V.cell, opn]
@[simp] theorem ldU_list (sz : Nat) (c : List V) : ldU s n off cells (.list sz c) = some (decide (off < cells.length), .list sz c, s) := by simp [ldU, V.cell, opn]
@[simp] theorem ldU_sl (m sz o len : Nat) : ldU s n off cells (.sl m sz o len) = some (decide (off < cells.length), .sl m sz o len, s) := by simp [ldU, V.cell, opn]
@[simp] theorem ldU_pt (m o : Nat) : ldU s n off cells (.pt m o) = some (decide (off < cells.length), .pt m o, s) := by simp [ldU, V.cell, opn]
@[simp] theorem ldU_rp (c : List V) : ldU s n off cells (.rp c) = some (decide (off < cells.length), .rp c, s) := by simp [ldU, V.cell, opn]
@[simp] theorem ldU_fn (f : FuncId) (c : List V) : ldU s n off cells (.fn f c) = some (decide (off < cells.length), .fn f c, s) := by simp [ldU, V.cell, opn]
end
@[simp] theorem h_bin (t : Bool) (op : BinOp) (x y : Opd) : evH Γ e s (.bin t op x y) = up s (evQ Γ s.1 e (.bin t op x y)) := (rfl)
@[simp] theorem h_un (op : UnOp) (x : Opd) : evH Γ e s (.un op x) = up s (evUn op (e x)) := (rfl)
@[simp] theorem h_conv (k : IntKind) (x : Opd) : evH Γ e s (.conv k x) = up s (evQ Γ s.1 e (.conv k x)) := (rfl)
@[simp] theorem h_sli (sz : Nat) (x : Opd) (lo hi mx : Option Opd) : evH Γ e s (.sli sz x lo hi mx) = up s (evQ Γ s.1 e (.sli sz x lo hi mx)) := (rfl)
@[simp] theorem h_slis (x : Opd) (lo hi : Option Opd) : evH Γ e s (.slis x lo hi) = up s (evQ Γ s.1 e (.slis x lo hi)) := (rfl)
@[simp] theorem h_fad (o : Nat) (x : Opd) : evH Γ e s (.fad o x) = up s (evQ Γ s.1 e (.fad o x)) := (rfl)
@[simp] theorem h_fld (n : Option Nat) (o : Nat) (x : Opd) : evH Γ e s (.fld n o x) = up s (evQ Γ s.1 e (.fld n o x)) := (rfl)
@[simp] theorem h_idx (sz : Nat) (x i : Opd) : evH Γ e s (.idx sz x i) = up s (evQ Γ s.1 e (.idx sz x i)) := (rfl)
@[simp] theorem h_idxa (n sz : Nat) (x i : Opd) : evH Γ e s (.idxa n sz x i) = up s (evQ Γ s.1 e (.idxa n sz x i)) := (rfl)
@[simp] theorem h_ixs (x i : Opd) : evH Γ e s (.ixs x i) = up s (evQ Γ s.1 e (.ixs x i)) := (rfl)
@[simp] theorem h_ext (i : Nat) (x : Opd) : evH Γ e s (.ext i x) = up s (evQ Γ s.1 e (.ext i x)) := (rfl)
@[simp] theorem h_len (x : Opd) : evH Γ e s (.len x) = up s (evQ Γ s.1 e (.len x)) := (rfl)
@[simp] theorem h_lens (x : Opd) : evH Γ e s (.lens x) = up s (evQ Γ s.1 e (.lens x)) := (rfl)
@[simp] theorem h_isn (pos : Bool) (x : Opd) : evH Γ e s (.isn pos x) = up s (evQ Γ s.1 e (.isn pos x)) := (rfl)
@[simp] theorem h_mm (mx : Bool) (x y : Opd) : evH Γ e s (.mm mx x y) = up s (evQ Γ s.1 e (.mm mx x y)) := (rfl)
@[simp] theorem h_callv (x : Opd) (args : List Opd) : evH Γ e s (.callv x args) = up s (evQ Γ s.1 e (.callv x args)) := (rfl)
@[simp] theorem h_fn (f : FuncId) (caps : List Opd) : evH Γ e s (.fn f caps) = some (true, opn 6 (.fn f (caps.map e)) s) := (rfl)
@[simp] theorem h_nck (x : Opd) : evH Γ e s (.nck x) = up s (evQ Γ s.1 e (.nck x)) := (rfl)
@[simp] theorem h_agg (z : List V) (ps : List (Nat × Nat × Opd)) : evH Γ e s (.agg z ps) = up s (evQ Γ s.1 e (.agg z ps)) := (rfl)
@[simp] theorem h_new (z : List V) : evH Γ e s (.new z) = some (true, .pt s.2 0, ((s.2, z) :: s.1, s.2 + 1)) := (rfl)
@[simp] theorem h_box (x : Opd) : evH Γ e s (.box x) = some (((e x).cells.all V.cell), .pt s.2 0, ((s.2, (e x).cells) :: s.1, s.2 + 1)) := (rfl)
@[simp] theorem h_mks (len sz : Nat) (zero : List V) (parts : List (Nat × Nat × Opd)) : evH Γ e s (.mks len sz zero parts) = match fillRange zero (parts.map fun (o, n, x) => (o, n, e x)) with
    | some cells => some (true, .sl s.2 sz 0 len, ((s.2, cells) :: s.1, s.2 + 1))
    | none => none := (rfl)
@[simp] theorem h_mk (sz bytes : Nat) (zero : List V) (len cap : Opd) : evH Γ e s (.mk sz bytes zero len cap) = match asI (e len), asI (e cap) with
    | some l, some c => some (decide (0 ≤ l) && decide (l ≤ c) && decide (bytes * c ≤ 281474976710656) && decide (c ≤ 9223372036854775807), .sl s.2 sz 0 l.toNat,
        ((s.2, (List.replicate c.toNat zero).flatten) :: s.1, s.2 + 1))
    | _, _ => none := (rfl)
@[simp] theorem h_st (n : Nat) (x v : Opd) : evH Γ e s (.st n x v) = match e x with
    | .pt nm off => match hget s.1 nm with
      | some cells => some (decide (off + n ≤ cells.length) && decide ((e v).cells.length = n) && (e v).cells.all V.cell, .tup [],
          (hset s.1 nm (setRange cells off (e v).cells), s.2))
      | none => none
    | _ => none := (rfl)
@[simp] theorem h_app (sz bytes : Nat) (a x : Opd) : evH Γ e s (.app sz bytes a x) = match srcOf s.1 sz (e x) with
    | none => none
    | some news => evApp sz bytes news s (e a) := (rfl)
@[simp] theorem h_call (f : FuncId) (args : List Opd) : evH Γ e s (.call f args) = match lookl Γ.l f with
    | some (i, G) => match (args[i]?).map e with
      | some (.sl n sz off len) => match hget s.1 n with
        | some cells => match G ((args.map fun x => dr (hdel s.1 n) 6 (e x)).set i (.sl 0 sz off len)) cells with
          | some (r, cells') => some (nolist 6 r && cells.all (nonm 6) && cells'.all (nonm 6) && (cells'.all (nolist 6) || (args.eraseIdx i).all fun x => noname 6 (e x)), opn 6 (ren0 n 6 r) (hset s.1 n cells', s.2))
          | none => none
        | none => none
      | some (.pt n off) => match hget s.1 n with
        | some cells => match G ((args.map fun x => dr (hdel s.1 n) 6 (e x)).set i (.pt 0 off)) cells with
          | some (r, cells') => some (nolist 6 r && cells.all (nonm 6) && cells'.all (nonm 6) && (cells'.all (nolist 6) || (args.eraseIdx i).all fun x => noname 6 (e x)), opn 6 (ren0 n 6 r) (hset s.1 n cells', s.2))
          | none => none
        | none => none
      | some (.agg [.int q m, .sl n sz off len]) => match hget s.1 n with
        | some cells => match G ((args.map fun x => dr (hdel s.1 n) 6 (e x)).set i (.agg [.int q m, .sl 0 sz off len])) cells with
          | some (r, cells') => some (nolist 6 r && cells.all (nonm 6) && cells'.all (nonm 6) && (cells'.all (nolist 6) || (args.eraseIdx i).all fun x => noname 6 (e x)), opn 6 (ren0 n 6 r) (hset s.1 n cells', s.2))
          | none => none
        | none => none
      | _ => none
    | none => up s (evQ Γ s.1 e (.call f args)) := (rfl)

@[simp] theorem o_nil (l : Tm) (K : Tm → Hp → Prop) : vcOps Γ [] l s K = K l s := (rfl)
@[simp] theorem o_cons (d : Option Nat) (o : SO) (r : List GO) (l : Tm) (K : Tm → Hp → Prop) : vcOps Γ (⟨d, none, o⟩ :: r) l s K = match evH Γ (Opd.ev (tget l)) s o with
    | some (b, v, s') => b = true ∧ vcOps Γ r (put l d v) s' K
    | none => False := (rfl)
theorem guard_eq {A B : Prop} (b w : Bool) : ((b = w → A) ∧ (b = !w → B)) = (if b = w then A else B) := by
  cases b <;> cases w <;> simp
@[simp] theorem ite_conj (p A B : Prop) [Decidable p] : (if p then A else B) = ((p → A) ∧ (¬p → B)) := by
  by_cases h : p <;> simp [h]
@[simp] theorem o_guard (d : Option Nat) (g : Nat) (want : Bool) (o : SO) (r : List GO) (l : Tm) (K : Tm → Hp → Prop) : vcOps Γ (⟨d, some (g, want), o⟩ :: r) l s K = match tget l g with
    | .bool b =>
      if b = want then (match evH Γ (Opd.ev (tget ((g, .bool want) :: l))) s o with
        | some (b, v, s') => b = true ∧ vcOps Γ r (put ((g, .bool want) :: l) d v) s' K
        | none => False)
      else vcOps Γ r (put ((g, .bool (!want)) :: l) d (.tup [])) s K
    | .tup _ => vcOps Γ r (put l d (.tup [])) s K
    | _ => False := by
  simp only [← guard_eq]
  rfl
@[simp] theorem t_done (l : Tm) (K : Tm → Hp → Prop) : vcT Γ .done l s K = K l s := (rfl)
@[simp] theorem t_stop (l : Tm) (K : Tm → Hp → Prop) : vcT Γ .stop l s K = True := (rfl)
@[simp] theorem t_fst (d : Option Nat) (o : SO) (r : DT) (l : Tm) (K : Tm → Hp → Prop) : vcT Γ (.fst ⟨d, none, o⟩ false r) l s K = match evQ Γ s.1 (Opd.ev (tget l)) o with
    | some (b, v) => b = true ∧ vcT Γ r (put l d (fz 6 v)) s K
    | none => False := by
  simp only [vcT, quietT]
  cases h : evQ Γ s.1 (Opd.ev (tget l)) o <;> simp [h]
@[simp] theorem t_fstf (d : Option Nat) (o : SO) (r : DT) (l : Tm) (K : Tm → Hp → Prop) : vcT Γ (.fst ⟨d, none, o⟩ true r) l s K = match evQ Γ [] (Opd.ev (tget l)) o with
    | some (b, v) => b = true ∧ freeOk (Opd.ev (tget l)) o = true ∧ vcT Γ r (put l d (fz 6 v)) s K
    | none => False := by
  simp only [vcT, quietT]
  cases h : evQ Γ [] (Opd.ev (tget l)) o <;> simp [h]
@[simp] theorem t_quiet (d : Option Nat) (o : SO) (r q : DT) (l : Tm) (K : Tm → Hp → Prop) : vcT Γ (.alt ⟨d, none, o⟩ false r q) l s K = ((match evQ Γ s.1 (Opd.ev (tget l)) o with
    | some (b, v) => b = true ∧ vcT Γ r (put l d (fz 6 v)) s K
    | none => False) ∧ vcT Γ q l s K) := by
  simp only [vcT, stepT]
  cases h : evQ Γ s.1 (Opd.ev (tget l)) o <;> simp
@[simp] theorem t_loud (d : Option Nat) (o : SO) (r q : DT) (l : Tm) (K : Tm → Hp → Prop) : vcT Γ (.alt ⟨d, none, o⟩ true r q) l s K = ((match evH Γ (Opd.ev (tget l)) s o with
    | some (b, v, s') => b = true ∧ vcT Γ r (put l d v) s' K
    | none => False) ∧ vcT Γ q l s K) := by
  simp only [vcT, stepT]
  cases h : evH Γ (Opd.ev (tget l)) s o <;> simp
@[simp] theorem d_nil (l : Tm) (K : Tm → Hp → Prop) : vcD Γ [] l s K = K l s := (rfl)
@[simp] theorem d_cons (d : Option Nat) (o : SO) (r : List DI) (l : Tm) (K : Tm → Hp → Prop) : vcD Γ (⟨⟨d, none, o⟩, false, false⟩ :: r) l s K = match evQ Γ s.1 (Opd.ev (tget l)) o with
    | some (b, v) => b = true ∧ vcD Γ r (put l d (fz 6 v)) s K
    | none => False := by
  simp only [vcD]
  cases h : evQ Γ s.1 (Opd.ev (tget l)) o <;> simp [h]
@[simp] theorem d_free (d : Option Nat) (o : SO) (r : List DI) (l : Tm) (K : Tm → Hp → Prop) : vcD Γ (⟨⟨d, none, o⟩, false, true⟩ :: r) l s K = match evQ Γ [] (Opd.ev (tget l)) o with
    | some (b, v) => b = true ∧ freeOk (Opd.ev (tget l)) o = true ∧ vcD Γ r (put l d (fz 6 v)) s K
    | none => False := by
  simp only [vcD]
  cases h : evQ Γ [] (Opd.ev (tget l)) o <;> simp [h]
@[simp] theorem d_loud (d : Option Nat) (fr : Bool) (o : SO) (r : List DI) (l : Tm) (K : Tm → Hp → Prop) : vcD Γ (⟨⟨d, none, o⟩, true, fr⟩ :: r) l s K = match evH Γ (Opd.ev (tget l)) s o with
    | some (b, v, s') => b = true ∧ vcD Γ r (put l d v) s' K
    | none => False := by
  simp only [vcD]
  cases h : evH Γ (Opd.ev (tget l)) s o <;> simp [h]
@[simp] theorem d_guard (d : Option Nat) (g : Nat) (want : Bool) (o : SO) (ld fr : Bool) (r : List DI) (l : Tm) (K : Tm → Hp → Prop) : vcD Γ (⟨⟨d, some (g, want), o⟩, ld, fr⟩ :: r) l s K = match tget l g with
    | .bool b => if b = want then vcD Γ (⟨⟨d, none, o⟩, ld, fr⟩ :: r) ((g, .bool want) :: l) s K else vcD Γ r (put ((g, .bool (!want)) :: l) d (.tup [])) s K
    | .tup _ => vcD Γ r (put l d (.tup [])) s K
    | _ => False := by
  simp only [← guard_eq]
  rfl
end ops

/-- A loop, not to be unfolded. -/
structure LoopI (C : Ctx) (lends : List FuncId) (sc : SC) (Q : Post) (l : Tm) (s : Hp) : Prop where
  h : LoopOk C lends sc Q l s
section code
variable {C : Ctx} {Γ : Env} {lends : List FuncId} {Q : Post} {l : Tm} {s : Hp}
@[simp] theorem vc_skip : vc C Γ lends .skip Q l s = Q .normal l s := (rfl)
@[simp] theorem vc_reg (ops : List GO) : vc C Γ lends (.reg ops) Q l s = vcOps Γ ops l s (Q .normal) := (rfl)
@[simp] theorem vc_treg (t : DT) : vc C Γ lends (.treg t) Q l s = vcT Γ t l s (Q .normal) := (rfl)
@[simp] theorem vc_dreg (ops : List DI) : vc C Γ lends (.dreg ops) Q l s = vcD Γ ops l s (Q .normal) := (rfl)
@[simp] theorem vc_seq (a b : SC) : vc C Γ lends (.seq a b) Q l s = vc C Γ lends a (thenE (vc C Γ lends b Q) Q) l s := (rfl)
@[simp] theorem vc_cut (a b : SC) : vc C Γ lends (.cut a b) Q l s = vc C Γ lends a (thenE (CutI C.k0 (vc C Γ lends b Q)) Q) l s := (rfl)
@[simp] theorem vc_cond (c : Opd) (a b : SC) : vc C Γ lends (.cond c a b) Q l s = match c.ev (tget l) with
    | .bool t => if t = true then vc C Γ lends a Q l s else vc C Γ lends b Q l s
    | .ub => vc C Γ lends a Q l s ∧ vc C Γ lends b Q l s
    | _ => False := by
  simp only [← guard_eq, Bool.not_true]
  rfl
@[simp] theorem vc_block (id : Nat) (c : SC) : vc C Γ lends (.block id c) Q l s = vc C Γ lends c (blockE id Q) l s := (rfl)
@[simp] theorem vc_loop (c : SC) : vc C Γ lends (.loop c) Q l s = LoopI C lends c Q l s := propext ⟨fun h => ⟨h⟩, fun h => h.h⟩
@[simp] theorem vc_exit (id : Nat) : vc C Γ lends (.exit id) Q l s = Q (.exit id) l s := (rfl)
@[simp] theorem vc_ret : vc C Γ lends .ret Q l s = Q .ret l s := (rfl)
end code

section quiet
variable {Γ : Env} {H : List (Nat × List V)} {e : Opd → V}
@[simp] theorem q_mov (x : Opd) : evQ Γ H e (.mov x) = some (true, e x) := (rfl)
@[simp] theorem q_pick (c a b : Opd) : evQ Γ H e (.pick c a b) = match e c with
    | .bool true => some (true, e a)
    | .bool false => some (true, e b)
    | _ => none := (rfl)
@[simp] theorem q_ld (d : V) (x : Opd) : evQ Γ H e (.ld none d x) = match e x with
    | .pt n off => match hget H n with
      | some cells => some (decide (off < cells.length) && (cells.getD off d).cell, cells.getD off d)
      | none => none
    | .rp cells => some (decide (0 < cells.length), cells.getD 0 d)
    | _ => none := (rfl)
@[simp] theorem q_ldn (k : Nat) (d : V) (x : Opd) : evQ Γ H e (.ld (some k) d x) = match e x with
    | .pt n off => match hget H n with
      | some cells => some (decide (off + k ≤ cells.length) && ((cells.drop off).take k).all V.cell, .agg ((cells.drop off).take k))
      | none => none
    | .rp cells => some (decide (k ≤ cells.length), .agg (cells.take k))
    | _ => none := (rfl)
@[simp] theorem q_bin (op : BinOp) (x y : Opd) : evQ Γ H e (.bin false op x y) = evBin op (e x) (e y) := (rfl)
@[simp] theorem q_binb (op : BinOp) (x y : Opd) : evQ Γ H e (.bin true op x y) = evBinB op (e x) (e y) := (rfl)
@[simp] theorem q_un (op : UnOp) (x : Opd) : evQ Γ H e (.un op x) = evUn op (e x) := (rfl)
@[simp] theorem q_conv (k : IntKind) (x : Opd) : evQ Γ H e (.conv k x) = match e x with
    | .int _ n => some (true, .int k (k.wrap n))
    | _ => none := (rfl)
@[simp] theorem q_sli (sz : Nat) (x : Opd) (lo hi mx : Option Opd) : evQ Γ H e (.sli sz x lo hi mx) = match e x with
    | .list sz' cells => match evBounds (cells.length / sz) e lo hi mx with
      | some (b, l, h) => some (b && decide (sz = sz'), .list sz ((cells.drop (l.toNat * sz)).take ((h - l).toNat * sz)))
      | none => none
    | .sl n sz' off len => match evBounds len e lo hi mx with
      | some (b, l, h) => some (b && decide (sz = sz'), .sl n sz (off + l.toNat * sz) (h - l).toNat)
      | none => none
    | .nil => match evBounds 0 e lo hi mx with
      | some (b, _, _) => some (b && mx.isNone, .nil)
      | none => none
    | _ => none := (rfl)
@[simp] theorem q_fad (off : Nat) (x : Opd) : evQ Γ H e (.fad off x) = match e x with
    | .pt n o => some (true, .pt n (o + off))
    | .rp cells => some (true, .rp (cells.drop off))
    | _ => none := (rfl)
@[simp] theorem q_fld (off : Nat) (x : Opd) : evQ Γ H e (.fld none off x) = match e x with
    | .agg parts => some (decide (off < parts.length), parts.getD off .undef)
    | _ => none := (rfl)
@[simp] theorem q_fldn (k off : Nat) (x : Opd) : evQ Γ H e (.fld (some k) off x) = match e x with
    | .agg parts => some (decide (off + k ≤ parts.length), .agg ((parts.drop off).take k))
    | _ => none := (rfl)
@[simp] theorem q_idx (sz : Nat) (x i : Opd) : evQ Γ H e (.idx sz x i) = match e x, asI (e i) with
    | .sl n sz' off len, some i => some (decide (sz = sz') && decide (0 ≤ i) && decide (i < len), .pt n (off + i.toNat * sz))
    | .list sz' cells, some i => some (decide (sz = sz') && decide (0 ≤ i) && decide (i < ((cells.length / sz : Nat) : Int)), .rp (cells.drop (i.toNat * sz)))
    | _, _ => none := (rfl)
@[simp] theorem q_idxa (len sz : Nat) (x i : Opd) : evQ Γ H e (.idxa len sz x i) = match e x, asI (e i) with
    | .pt n off, some i => some (decide (0 ≤ i) && decide (i < len), .pt n (off + i.toNat * sz))
    | _, _ => none := (rfl)
@[simp] theorem q_ext (i : Nat) (x : Opd) : evQ Γ H e (.ext i x) = match e x with
    | .tup vs => some (decide (i < vs.length), vs.getD i .undef)
    | _ => none := (rfl)
@[simp] theorem q_len (x : Opd) : evQ Γ H e (.len x) = match e x with
    | .list sz cells => some (true, .int .i64 ((cells.length / sz : Nat) : Int))
    | .sl _ _ _ len => some (true, .int .i64 (len : Int))
    | .nil => some (true, .int .i64 0)
    | _ => none := (rfl)
@[simp] theorem q_lens (x : Opd) : evQ Γ H e (.lens x) = match e x with
    | .str s => some (true, .int .i64 (s.size : Int))
    | _ => none := (rfl)
@[simp] theorem q_isn (pos : Bool) (x : Opd) : evQ Γ H e (.isn pos x) = match e x with
    | .nil => some (true, .bool pos)
    | .list _ [] => some (true, .ub)
    | .list _ (_ :: _) => some (true, .bool (!pos))
    | .sl _ _ _ len => some (true, if len = 0 then .ub else .bool (!pos))
    | _ => none := (rfl)
@[simp] theorem q_mm (mx : Bool) (x y : Opd) : evQ Γ H e (.mm mx x y) = match e x, e y with
    | .int k a, .int k' b => some (decide (k = k'), .int k (if mx then max a b else min a b))
    | _, _ => none := (rfl)
@[simp] theorem q_call (f : FuncId) (args : List Opd) : evQ Γ H e (.call f args) = match lookp Γ.p f with
    | some F => match F (args.map fun x => dr H 6 (e x)) with
      | some r => some (nolist 6 r || args.all fun x => noname 6 (e x), r)
      | none => none
    | none => none := (rfl)
@[simp] theorem q_callv (x : Opd) (args : List Opd) : evQ Γ H e (.callv x args) = match e x with
    | .fn f caps => match lookp Γ.p f with
      | some F => match F ((args.map fun x => dr H 6 (e x)) ++ caps.map (dr H 6)) with
        | some r => some (nolist 6 r, r)
        | none => none
      | none => none
    | _ => none := (rfl)
@[simp] theorem q_fn (f : FuncId) (caps : List Opd) : evQ Γ H e (.fn f caps) = some (true, .fn f (caps.map e)) := (rfl)
@[simp] theorem q_nck (x : Opd) : evQ Γ H e (.nck x) = match e x with
    | .pt n off => some (true, .pt n off)
    | .rp cells => some (true, .rp cells)
    | _ => none := (rfl)
@[simp] theorem q_agg (zero : List V) (parts : List (Nat × Nat × Opd)) : evQ Γ H e (.agg zero parts) = match fillRange zero (parts.map fun (o, s, x) => (o, s, e x)) with
    | some cells => some (true, .agg cells)
    | none => none := (rfl)
end quiet

/-- Slots are forgotten, the rows stay. -/
def subE (l : Tm) : Tm → Prop
  | [] => True
  | (i, v) :: r => v = tget l i ∧ subE l r
@[simp] theorem subE_nil (l : Tm) : subE l [] = True := (rfl)
@[simp] theorem subE_cons (l : Tm) (i : Nat) (v : V) (r : Tm) : subE l ((i, v) :: r) = (v = tget l i ∧ subE l r) := (rfl)
theorem subE_get {l : Tm} : ∀ {l' : Tm}, subE l l' → ∀ i, tget l' i = .undef ∨ tget l' i = tget l i := by
  intro l'
  induction l' with
  | nil => intro _ i; exact .inl rfl
  | cons p r ih =>
    intro h i
    obtain ⟨j, v⟩ := p
    simp only [tget]
    split
    · rename_i e
      subst e
      exact .inr h.1
    · exact ih h.2 i
/-- One state serves for another; not to be unfolded. -/
structure SubI (k0 : Nat) (l : Tm) (s : Hp) (l' : Tm) (s' : Hp) : Prop where
  h : Sub k0 l s l' s'
theorem CutI.of {k0 : Nat} {K : Tm → Hp → Prop} {l l' : Tm} {s s' : Hp} (h : SubI k0 l s l' s') (hk : K l' s') : CutI k0 K l s := ⟨⟨l', s', fun C hC a w hst => h.h C hC a w hst, hk⟩⟩
theorem SubI.slots {k0 : Nat} {l l' : Tm} {s s' : Hp} (hs : s' = s) (h : subE l l') : SubI k0 l s l' s' := by
  subst hs
  refine ⟨?_⟩
  intro C _ a w hst
  obtain ⟨N, T, hr⟩ := hst
  refine ⟨N, T, hr.tsz, hr.dfr, ?_, hr.hp, hr.nd, hr.own, hr.fr, hr.nx, hr.nl, hr.kn, hr.lh⟩
  intro i
  rcases subE_get h i with e | e
  · rw [e]; exact .undef _
  · rw [e]; exact hr.sl i

theorem SubI.ren {k0 : Nat} (r : Nat → Option Nat) {l l' : Tm} {s s' : Hp} (hT : subT r l l') (hH : subH r s.1 s'.1) (hn : ∀ n, s'.2 ≤ n → r n = none) (hk : ∀ n, n < k0 → r n = some n) (hk2 : k0 ≤ s'.2) : SubI k0 l s l' s' := ⟨Sub.ren r hT hH hn hk hk2⟩
theorem SubI.trans {k0 : Nat} {l1 l2 l3 : Tm} {s1 s2 s3 : Hp} (h : SubI k0 l1 s1 l2 s2) (k : SubI k0 l2 s2 l3 s3) : SubI k0 l1 s1 l3 s3 := ⟨h.h.trans k.h⟩
section
variable {C : Ctx}
theorem LoopI.sub {lends : List FuncId} {sc : SC} {Q : Post} {l l' : Tm} {s s' : Hp} (hs : SubI C.k0 l s l' s') (h : LoopI C lends sc Q l' s') : LoopI C lends sc Q l s := ⟨h.h.sub hs.h⟩
theorem LoopI.post {lends : List FuncId} {sc : SC} {Q Q' : Post} {l : Tm} {s : Hp} (h : LoopI C lends sc Q' l s) (hq : ∀ e l s, Q' e l s → ∃ l1 s1, SubI C.k0 l s l1 s1 ∧ Q e l1 s1) : LoopI C lends sc Q l s := by
  refine ⟨?_⟩
  intro c hc a w hst
  refine wp_mono (h.h c hc a w hst) ?_
  rintro e a' w' ⟨l', s', h1, h2⟩
  obtain ⟨l1, s1, h3, h4⟩ := hq e l' s' h1
  exact ⟨l1, s1, h4, h3.h C rfl a' w' h2⟩
/-- A condition whose states may forget slots. -/
structure SubQ (k0 : Nat) (Q : Post) (e : Exit) (l : Tm) (s : Hp) : Prop where
  h : ∃ l1 s1, SubI k0 l s l1 s1 ∧ Q e l1 s1
theorem SubQ.of {k0 : Nat} {Q : Post} {e : Exit} {l l1 : Tm} {s s1 : Hp} (h : SubI k0 l s l1 s1) (hq : Q e l1 s1) : SubQ k0 Q e l s := ⟨⟨l1, s1, h, hq⟩⟩
/-- Back at the head of the loop. -/
structure Again {σ : Type} (k0 : Nat) (T : σ → Tm) (H : σ → Hp) (inv : σ → Prop) (m : σ → Nat) (x : σ) (l : Tm) (s : Hp) : Prop where
  h : ∃ x', inv x' ∧ m x' < m x ∧ SubI k0 l s (T x') (H x')
theorem Again.of {σ : Type} {k0 : Nat} {T : σ → Tm} {H : σ → Hp} {inv : σ → Prop} {m : σ → Nat} {x : σ} {l : Tm} {s : Hp} (x' : σ) (h1 : inv x') (h2 : m x' < m x) (h3 : SubI k0 l s (T x') (H x')) : Again k0 T H inv m x l s := ⟨⟨x', h1, h2, h3⟩⟩
theorem loopI {Γ : Env} (hΓ : EnvOk C.P Γ) (hm : C.P.follows .mixedOrders = true) {lends : List FuncId} {sc : SC} {Q : Post} {l : Tm} {s : Hp} {σ : Type} (T : σ → Tm) (H : σ → Hp) (inv : σ → Prop) (m : σ → Nat) (x0 : σ) (hi : inv x0)
    (h0 : SubI C.k0 l s (T x0) (H x0)) (round : ∀ x, inv x → vc C Γ lends sc (thenE (Again C.k0 T H inv m x) Q) (T x) (H x)) : LoopI C lends sc Q l s := by
  refine ⟨loop_ok hΓ hm T H inv m x0 hi h0.h ?_⟩
  intro x hx
  have e : (thenE (fun l' s' => ∃ x', inv x' ∧ m x' < m x ∧ Sub C.k0 l' s' (T x') (H x')) Q) = thenE (Again C.k0 T H inv m x) Q := by
    funext ex l s
    cases ex
    case normal => exact propext ⟨fun ⟨x', a, b, c⟩ => ⟨⟨x', a, b, ⟨c⟩⟩⟩, fun ⟨x', a, b, c⟩ => ⟨x', a, b, c.h⟩⟩
    all_goals rfl
  rw [e]
  exact round x hx
theorem loopQ {Γ : Env} (hΓ : EnvOk C.P Γ) (hm : C.P.follows .mixedOrders = true) {lends : List FuncId} {sc : SC} {Q : Post} {l : Tm} {s : Hp} {σ : Type} (T : σ → Tm) (H : σ → Hp) (inv : σ → Prop) (m : σ → Nat) (x0 : σ) (hi : inv x0)
    (h0 : SubI C.k0 l s (T x0) (H x0)) (round : ∀ x, inv x → vc C Γ lends sc (thenE (Again C.k0 T H inv m x) (SubQ C.k0 Q)) (T x) (H x)) : LoopI C lends sc Q l s :=
  (loopI hΓ hm T H inv m x0 hi h0 round).post fun _ _ _ h => h.h
end
end Go.Proofs.Ytkbgmkkboiihnaa
namespace Go.Proofs.Ytkbgmkkboiihnaa
open Go Go.RowKit

def ints (l : List Int) : List V := l.map (.int .i64)
@[simp] theorem ints_nil : ints [] = [] := rfl
@[simp] theorem ints_cons (n : Int) (l : List Int) : ints (n :: l) = .int .i64 n :: ints l := rfl
@[simp] theorem ints_len (l : List Int) : (ints l).length = l.length := by simp [ints]
@[simp] theorem ints_take (l : List Int) (k : Nat) : (ints l).take k = ints (l.take k) := by simp [ints]
@[simp] theorem ints_drop (l : List Int) (k : Nat) : (ints l).drop k = ints (l.drop k) := by simp [ints]
@[simp] theorem ints_app (l m : List Int) : ints l ++ ints m = ints (l ++ m) := by simp [ints]
@[simp] theorem ints_set (l : List Int) (k : Nat) (n : Int) : (ints l).set k (.int .i64 n) = ints (l.set k n) := by simp [ints]
/-- The number at a place; 0 beyond the end. -/
def at0 (l : List Int) (k : Nat) : Int := l[k]?.getD 0
@[simp] theorem ints_get (l : List Int) (k : Nat) : (ints l)[k]?.getD (.int .i64 0) = .int .i64 (at0 l k) := by
  simp only [ints, List.getElem?_map, at0]
  cases l[k]? <;> rfl
@[simp high] theorem ints_getD (l : List Int) (k : Nat) : (ints l).getD k (.int .i64 0) = .int .i64 (at0 l k) := by
  rw [List.getD_eq_getElem?_getD, ints_get]
@[simp] theorem at0_drop (l : List Int) (k j : Nat) : at0 (l.drop k) j = at0 l (k + j) := by simp [at0]
theorem at0_eq {l : List Int} {k : Nat} (h : k < l.length) : at0 l k = l[k] := by simp [at0, h]
theorem at0_take {l : List Int} {k j : Nat} (h : j < k) : at0 (l.take k) j = at0 l j := by simp [at0, h]
theorem at0_set {l : List Int} {k j : Nat} {x : Int} : at0 (l.set k x) j = if k = j ∧ j < l.length then x else at0 l j := by
  simp only [at0, List.getElem?_set]
  by_cases h : k = j
  · subst h
    by_cases h2 : k < l.length
    · simp [h2]
    · simp [h2]
  · simp [h]
theorem at0_ext {l m : List Int} (h : l.length = m.length) (he : ∀ k, k < l.length → at0 l k = at0 m k) : l = m := by
  apply List.ext_getElem h
  intro k h1 h2
  have := he k h1
  rwa [at0_eq h1, at0_eq h2] at this
theorem at0_app {l m : List Int} {k : Nat} : at0 (l ++ m) k = if k < l.length then at0 l k else at0 m (k - l.length) := by
  simp only [at0]
  split
  · rename_i h; rw [List.getElem?_append_left h]
  · rename_i h; rw [List.getElem?_append_right (by omega)]
@[simp] theorem ints_dr (H : List (Nat × List V)) (j : Nat) (l : List Int) : (ints l).map (dr H (j + 1)) = ints l := by simp [ints]
@[simp] theorem ints_fz (j : Nat) (l : List Int) : (ints l).map (fz (j + 1)) = ints l := by simp [ints]
@[simp] theorem ints_nl (j : Nat) (l : List Int) : (ints l).all (nolist (j + 1)) = true := by simp [ints]
@[simp] theorem ints_nn (j : Nat) (l : List Int) : (ints l).all (noname (j + 1)) = true := by simp [ints]
@[simp] theorem ints_nm (j : Nat) (l : List Int) : (ints l).all (nonm (j + 1)) = true := by simp [ints]
@[simp] theorem ints_cell (l : List Int) : (ints l).all V.cell = true := by simp [ints]
@[simp] theorem ints_ren (r : Nat → Option Nat) (l : List Int) : renL r (ints l) = some (ints l) := by
  induction l with
  | nil => rfl
  | cons a l ih => simp [renL, ren1, ih]
theorem ints_repl (n : Nat) (x : Int) : (List.replicate n [V.int .i64 x]).flatten = ints (List.replicate n x) := by
  induction n with
  | zero => rfl
  | succ n ih => simp [List.replicate_succ, ih]
@[simp] theorem repl_ints (n : Nat) (x : Int) : List.replicate n (V.int .i64 x) = ints (List.replicate n x) := by simp [ints]
theorem ints_inj {l m : List Int} : ints l = ints m ↔ l = m := by
  constructor
  · intro h
    induction l generalizing m with
    | nil => cases m with | nil => rfl | cons => simp at h
    | cons a l ih => cases m with
      | nil => simp at h
      | cons b m => simp only [ints_cons, List.cons.injEq, V.int.injEq, true_and] at h; rw [h.1, ih h.2]
  · intro h; rw [h]

def dI : V → Option Int
  | .int .i64 n => some n
  | _ => none
def dB : V → Option Bool
  | .bool b => some b
  | _ => none
def dInts : List V → Option (List Int)
  | [] => some []
  | .int .i64 n :: r => (dInts r).map (n :: ·)
  | _ => none
def dL : V → Option (List Int)
  | .list 1 cells => dInts cells
  | _ => none
/-- A number and a row. -/
def dC : V → Option (Int × List Int)
  | .agg [.int .i64 n, .list 1 cells] => (dInts cells).map fun l => (n, l)
  | _ => none
def eC (n : Int) (l : List Int) : V := .agg [.int .i64 n, .list 1 (ints l)]
@[simp] theorem dI_int (n : Int) : dI (.int .i64 n) = some n := rfl
@[simp] theorem dB_bool (b : Bool) : dB (.bool b) = some b := rfl
@[simp] theorem dInts_ints (l : List Int) : dInts (ints l) = some l := by
  induction l with
  | nil => rfl
  | cons a l ih => simp [dInts, ih]
@[simp] theorem dL_list (l : List Int) : dL (.list 1 (ints l)) = some l := by simp [dL]
@[simp] theorem dL_nil : dL (.list 1 []) = some [] := rfl
@[simp] theorem dC_agg (n : Int) (l : List Int) : dC (.agg [.int .i64 n, .list 1 (ints l)]) = some (n, l) := by simp [dC]
@[simp] theorem dC_nil (n : Int) : dC (.agg [.int .i64 n, .list 1 []]) = some (n, []) := rfl
theorem dI_inv {v : V} {n : Int} (h : dI v = some n) : v = .int .i64 n := by
  unfold dI at h
  split at h
  · injection h with h; rw [h]
  · simp at h
theorem dB_inv {v : V} {n : Bool} (h : dB v = some n) : v = .bool n := by
  unfold dB at h
  split at h
  · injection h with h; rw [h]
  · simp at h
theorem dInts_inv : ∀ {c : List V} {l : List Int}, dInts c = some l → c = ints l := by
  intro c
  induction c with
  | nil => intro l h; simp [dInts] at h; subst h; rfl
  | cons v c ih =>
    intro l h
    unfold dInts at h
    split at h
    · simp_all
    · rename_i n r e
      injection e with e1 e2
      subst e1 e2
      obtain ⟨m, hm, rfl⟩ := Option.map_eq_some_iff.1 h
      simp [ih hm]
    · simp at h
theorem dL_inv {v : V} {l : List Int} (h : dL v = some l) : v = .list 1 (ints l) := by
  unfold dL at h
  split at h
  · rw [dInts_inv h]
  · simp at h
theorem dC_inv {v : V} {n : Int × List Int} (h : dC v = some n) : v = .agg [.int .i64 n.1, .list 1 (ints n.2)] := by
  unfold dC at h
  split at h
  · obtain ⟨m, hm, rfl⟩ := Option.map_eq_some_iff.1 h
    rw [dInts_inv hm]
  · simp at h

def F1 {α : Type} (d : V → Option α) (g : α → Option V) : List V → Option V
  | [a] => (d a).bind g
  | _ => none
def F2 {α β : Type} (d : V → Option α) (d' : V → Option β) (g : α → β → Option V) : List V → Option V
  | [a, b] => (d a).bind fun x => (d' b).bind fun y => g x y
  | _ => none
def F3 {α β γ : Type} (d : V → Option α) (d' : V → Option β) (d'' : V → Option γ) (g : α → β → γ → Option V) : List V → Option V
  | [a, b, c] => (d a).bind fun x => (d' b).bind fun y => (d'' c).bind fun z => g x y z
  | _ => none
def F4 {α β γ δ : Type} (d : V → Option α) (d' : V → Option β) (d'' : V → Option γ) (d3 : V → Option δ) (g : α → β → γ → δ → Option V) : List V → Option V
  | [a, b, c, e] => (d a).bind fun x => (d' b).bind fun y => (d'' c).bind fun z => (d3 e).bind fun t => g x y z t
  | _ => none
@[simp] theorem F1_mk {α : Type} (d : V → Option α) (g : α → Option V) (a : V) : F1 d g [a] = (d a).bind g := rfl
@[simp] theorem F2_mk {α β : Type} (d : V → Option α) (d' : V → Option β) (g : α → β → Option V) (a b : V) : F2 d d' g [a, b] = (d a).bind fun x => (d' b).bind fun y => g x y := rfl
@[simp] theorem F3_mk {α β γ : Type} (d : V → Option α) (d' : V → Option β) (d'' : V → Option γ) (g : α → β → γ → Option V) (a b c : V) :
    F3 d d' d'' g [a, b, c] = (d a).bind fun x => (d' b).bind fun y => (d'' c).bind fun z => g x y z := rfl
@[simp] theorem F4_mk {α β γ δ : Type} (d : V → Option α) (d' : V → Option β) (d'' : V → Option γ) (d3 : V → Option δ) (g : α → β → γ → δ → Option V) (a b c e : V) :
    F4 d d' d'' d3 g [a, b, c, e] = (d a).bind fun x => (d' b).bind fun y => (d'' c).bind fun z => (d3 e).bind fun t => g x y z t := rfl
theorem F1_inv {α : Type} {d : V → Option α} {g : α → Option V} {args : List V} {r : V} (h : F1 d g args = some r) : ∃ a x, args = [a] ∧ d a = some x ∧ g x = some r := by
  unfold F1 at h
  split at h
  · obtain ⟨x, h1, h2⟩ := Option.bind_eq_some_iff.1 h
    exact ⟨_, x, rfl, h1, h2⟩
  · simp at h
theorem F2_inv {α β : Type} {d : V → Option α} {d' : V → Option β} {g : α → β → Option V} {args : List V} {r : V} (h : F2 d d' g args = some r) :
    ∃ a b x y, args = [a, b] ∧ d a = some x ∧ d' b = some y ∧ g x y = some r := by
  unfold F2 at h
  split at h
  · obtain ⟨x, h1, h2⟩ := Option.bind_eq_some_iff.1 h
    obtain ⟨y, h3, h4⟩ := Option.bind_eq_some_iff.1 h2
    exact ⟨_, _, x, y, rfl, h1, h3, h4⟩
  · simp at h
theorem F3_inv {α β γ : Type} {d : V → Option α} {d' : V → Option β} {d'' : V → Option γ} {g : α → β → γ → Option V} {args : List V} {r : V} (h : F3 d d' d'' g args = some r) :
    ∃ a b c x y z, args = [a, b, c] ∧ d a = some x ∧ d' b = some y ∧ d'' c = some z ∧ g x y z = some r := by
  unfold F3 at h
  split at h
  · obtain ⟨x, h1, h2⟩ := Option.bind_eq_some_iff.1 h
    obtain ⟨y, h3, h4⟩ := Option.bind_eq_some_iff.1 h2
    obtain ⟨z, h5, h6⟩ := Option.bind_eq_some_iff.1 h4
    exact ⟨_, _, _, x, y, z, rfl, h1, h3, h5, h6⟩
  · simp at h
theorem F4_inv {α β γ δ : Type} {d : V → Option α} {d' : V → Option β} {d'' : V → Option γ} {d3 : V → Option δ} {g : α → β → γ → δ → Option V} {args : List V} {r : V} (h : F4 d d' d'' d3 g args = some r) :
    ∃ a b c e x y z t, args = [a, b, c, e] ∧ d a = some x ∧ d' b = some y ∧ d'' c = some z ∧ d3 e = some t ∧ g x y z t = some r := by
  unfold F4 at h
  split at h
  · obtain ⟨x, h1, h2⟩ := Option.bind_eq_some_iff.1 h
    obtain ⟨y, h3, h4⟩ := Option.bind_eq_some_iff.1 h2
    obtain ⟨z, h5, h6⟩ := Option.bind_eq_some_iff.1 h4
    obtain ⟨t, h7, h8⟩ := Option.bind_eq_some_iff.1 h6
    exact ⟨_, _, _, _, x, y, z, t, rfl, h1, h3, h5, h7, h8⟩
  · simp at h

theorem wrapI (n : Int) (h1 : -9223372036854775808 ≤ n) (h2 : n < 9223372036854775808) : IntKind.i64.wrap n = n := by
  simp only [IntKind.wrap, IntKind.bits, IntKind.signed]
  simp only [Bool.true_and]
  split <;> simp_all <;> omega
theorem wrapU (n : Int) (h1 : 0 ≤ n) (h2 : n < 18446744073709551616) : IntKind.u64.wrap n = n := by
  simp only [IntKind.wrap, IntKind.bits, IntKind.signed]
  simp
  omega
/-- Conversion to a word without sign of a number that is not below zero. -/
theorem bits_and (a b : Nat) (ha : a < 9223372036854775808) (hb : b < 9223372036854775808) : bitop .and .i64 (a : Int) (b : Int) = ((a &&& b : Nat) : Int) := by
  have e : bitop .and .i64 (a : Int) (b : Int) = IntKind.i64.wrap ((BitVec.ofInt 64 (a : Int) &&& BitVec.ofInt 64 (b : Int)).toNat) := rfl
  have : a &&& b ≤ a := Nat.and_le_left
  rw [e, BitVec.ofInt_natCast, BitVec.ofInt_natCast, BitVec.toNat_and, BitVec.toNat_ofNat, BitVec.toNat_ofNat]
  rw [Nat.mod_eq_of_lt (by omega), Nat.mod_eq_of_lt (by omega)]
  exact wrapI _ (by omega) (by omega)
theorem bits_or (a b : Nat) (ha : a < 9223372036854775808) (hb : b < 9223372036854775808) : bitop .or .i64 (a : Int) (b : Int) = ((a ||| b : Nat) : Int) := by
  have e : bitop .or .i64 (a : Int) (b : Int) = IntKind.i64.wrap ((BitVec.ofInt 64 (a : Int) ||| BitVec.ofInt 64 (b : Int)).toNat) := rfl
  have : a ||| b < 2 ^ 63 := Nat.or_lt_two_pow (by omega) (by omega)
  rw [e, BitVec.ofInt_natCast, BitVec.ofInt_natCast, BitVec.toNat_or, BitVec.toNat_ofNat, BitVec.toNat_ofNat]
  rw [Nat.mod_eq_of_lt (by omega), Nat.mod_eq_of_lt (by omega)]
  exact wrapI _ (by omega) (by omega)
theorem bits_xor (a b : Nat) (ha : a < 9223372036854775808) (hb : b < 9223372036854775808) : bitop .xor .i64 (a : Int) (b : Int) = ((a ^^^ b : Nat) : Int) := by
  have e : bitop .xor .i64 (a : Int) (b : Int) = IntKind.i64.wrap ((BitVec.ofInt 64 (a : Int) ^^^ BitVec.ofInt 64 (b : Int)).toNat) := rfl
  have : a ^^^ b < 2 ^ 63 := Nat.xor_lt_two_pow (by omega) (by omega)
  rw [e, BitVec.ofInt_natCast, BitVec.ofInt_natCast, BitVec.toNat_xor, BitVec.toNat_ofNat, BitVec.toNat_ofNat]
  rw [Nat.mod_eq_of_lt (by omega), Nat.mod_eq_of_lt (by omega)]
  exact wrapI _ (by omega) (by omega)
theorem bitsU_and (a b : Nat) (ha : a < 18446744073709551616) (hb : b < 18446744073709551616) : bitop .and .u64 (a : Int) (b : Int) = ((a &&& b : Nat) : Int) := by
  have e : bitop .and .u64 (a : Int) (b : Int) = IntKind.u64.wrap ((BitVec.ofInt 64 (a : Int) &&& BitVec.ofInt 64 (b : Int)).toNat) := rfl
  have : a &&& b ≤ a := Nat.and_le_left
  rw [e, BitVec.ofInt_natCast, BitVec.ofInt_natCast, BitVec.toNat_and, BitVec.toNat_ofNat, BitVec.toNat_ofNat]
  rw [Nat.mod_eq_of_lt (by omega), Nat.mod_eq_of_lt (by omega)]
  exact wrapU _ (by omega) (by omega)
theorem bitsU_or (a b : Nat) (ha : a < 18446744073709551616) (hb : b < 18446744073709551616) : bitop .or .u64 (a : Int) (b : Int) = ((a ||| b : Nat) : Int) := by
  have e : bitop .or .u64 (a : Int) (b : Int) = IntKind.u64.wrap ((BitVec.ofInt 64 (a : Int) ||| BitVec.ofInt 64 (b : Int)).toNat) := rfl
  have : a ||| b < 2 ^ 64 := Nat.or_lt_two_pow (by omega) (by omega)
  rw [e, BitVec.ofInt_natCast, BitVec.ofInt_natCast, BitVec.toNat_or, BitVec.toNat_ofNat, BitVec.toNat_ofNat]
  rw [Nat.mod_eq_of_lt (by omega), Nat.mod_eq_of_lt (by omega)]
  exact wrapU _ (by omega) (by omega)
def inR (n : Int) : Prop := -9223372036854775808 ≤ n ∧ n < 9223372036854775808
instance (n : Int) : Decidable (inR n) := by unfold inR; infer_instance
end Go.Proofs.Ytkbgmkkboiihnaa
namespace Go.Proofs.Ytkbgmkkboiihnaa
open Go Go.RowKit

theorem mixed : Try.prog.follows .mixedOrders = true := by kernel_rfl
theorem envNil_ok {P : Program} : EnvOk P ⟨[], []⟩ := ⟨by simp, by simp⟩
theorem EnvOk.add {P : Program} {p : List (FuncId × (List V → Option V))} {l : List (FuncId × Nat × (List V → List V → Option (V × List V)))} (h : EnvOk P ⟨p, l⟩) {f : FuncId} {F : List V → Option V} (hf : FnOk P f F) : EnvOk P ⟨(f, F) :: p, l⟩ :=
  ⟨by
    intro x hx
    rcases List.mem_cons.1 hx with rfl | hx
    · exact hf
    · exact h.p x hx, h.l⟩
theorem EnvOk.addl {P : Program} {p : List (FuncId × (List V → Option V))} {l : List (FuncId × Nat × (List V → List V → Option (V × List V)))} (h : EnvOk P ⟨p, l⟩) {f : FuncId} {i : Nat} {G : List V → List V → Option (V × List V)} (hf : LendOk P f i G) : EnvOk P ⟨p, (f, i, G) :: l⟩ :=
  ⟨h.p, by
    intro x hx
    rcases List.mem_cons.1 hx with rfl | hx
    · exact hf
    · exact h.l x hx⟩
theorem bnd_ints {l : List Int} (h : bnd 6 (.list 1 (ints l))) : l.length ≤ 9223372036854775807 := by simpa using h.1
theorem bnd_eC {n : Int} {l : List Int} (h : bnd 6 (.agg [.int .i64 n, .list 1 (ints l)])) : l.length ≤ 9223372036854775807 := by
  have := h (.list 1 (ints l)) (by simp)
  simpa using this.1
end Go.Proofs.Ytkbgmkkboiihnaa
namespace Go.Proofs.Ytkbgmkkboiihnaa
open Go Go.RowKit

theorem Sub.nilN {k0 : Nat} {l : Tm} {H : List (Nat × List V)} {nx : Nat} (i sz : Nat) (hi : tget l i = .nil) : Sub k0 l (H, nx) ((i, .sl nx sz 0 0) :: l) ((nx, []) :: H, nx + 1) := by
  intro C hC a w hst
  obtain ⟨N, T, hr⟩ := hst
  have hN : N nx = none := hr.nx nx (Nat.le_refl _)
  have hk : ∀ U : Nat → Prop, Kept N (fun n => if n = nx then some none else N n) U U w w := fun U => ⟨fun b hb => ⟨rfl, hb⟩, fun n l h => by
    by_cases e : n = nx
    · subst e; rw [hN] at h; simp at h
    · simpa [e] using h, fun _ _ _ _ => SameAt.shape rfl⟩
  refine ⟨fun n => if n = nx then some none else N n, T, hr.tsz, hr.dfr, ?_, .consE nx H T (by simp) (hr.hp.kept (hk _) (fun _ _ => rfl)), hr.nd, hr.own, hr.fr, fun n h => ?_, fun n h => ?_, Nat.le_succ_of_le hr.kn, hr.lh⟩
  · intro j
    simp only [tget]
    split
    · rename_i e
      subst e
      have := hr.sl i
      rw [hi] at this
      generalize a.tmps.getD i Go.undef = c at this
      cases this
      exact .slE nx sz (by simp)
    · exact (hr.sl j).kept (hk _) (by simp)
  · have h2 : n ≠ nx := fun e => by rw [e] at h; exact absurd h (by show ¬ (nx + 1 ≤ nx); omega)
    simp only [h2, if_false]
    exact hr.nx n (Nat.le_of_succ_le h)
  · have h2 : n ≠ nx := fun e => by
      have := hr.kn
      simp only at this
      subst hC
      omega
    simp only [h2, if_false]
    exact hr.nl n h
theorem SubI.nilN {k0 : Nat} {l l' : Tm} {H : List (Nat × List V)} {s' : Hp} {nx : Nat} (i sz : Nat) (hi : tget l i = .nil) (h : SubI k0 ((i, .sl nx sz 0 0) :: l) ((nx, []) :: H, nx + 1) l' s') : SubI k0 l (H, nx) l' s' :=
  ⟨(Sub.nilN i sz hi).trans h.h⟩
end Go.Proofs.Ytkbgmkkboiihnaa
namespace Go.Proofs.Ytkbgmkkboiihnaa
open Go Go.RowKit

/-- The length of a slice with a name, also within a struct. -/
def bndS : V → Prop
  | .sl _ _ _ len => len ≤ 9223372036854775807
  | _ => True
def bndN : V → Prop
  | .agg ps => ∀ x ∈ ps, bndS x
  | v => bndS v
section
variable {N : Nm} {U : Nat → Prop} {w : World}
theorem bndS_ok {v : V} {c : Value} {F : List Nat} (h : RV N U w v c F) : bndS v := by
  cases h <;> simp only [bndS]
  case sl hlc hm hz => simp only [maxLen] at hm; omega
  case slE => omega
  case slZ => omega
theorem bndN_ok {v : V} {c : Value} {F : List Nat} (h : RV N U w v c F) : bndN v := by
  cases h
  case agg parts cs h =>
    intro x hx
    obtain ⟨j, hj⟩ := List.getElem?_of_mem hx
    obtain ⟨c', Fj, A, B, g1, g2, _⟩ := h.get hj
    exact bndS_ok g2
  case sl n sz off len b base cap arr e fz hn hb hs hlc hm hz => exact bndS_ok (N := N) (U := U) (w := w) (.sl n sz off len b base cap arr e fz hn hb hs hlc hm hz)
  case slE n sz hn => exact bndS_ok (N := N) (U := U) (w := w) (.slE n sz hn)
  case slZ n sz off b base o arr e fz hn hb ho hz => exact bndS_ok (N := N) (U := U) (w := w) (.slZ n sz off b base o arr e fz hn hb ho hz)
  all_goals trivial
end
theorem fn_lend {P : Program} {f : FuncId} {nt : Nat} {sc : SC} {rvs : List (Nat × Option Nat)} {lends : List FuncId} (hc : fnCode P lends f = some (nt, sc, rvs)) (hm : P.follows .mixedOrders = true) {Γ : Env} (hΓ : EnvOk P Γ) {i : Nat} {G : List V → List V → Option (V × List V)}
    (h : ∀ args cells r cells', G args cells = some (r, cells') → (∀ a ∈ args, bndN a) → args.length ≤ nt ∧ ∀ w0 U0 L0 N0, vc ⟨P, w0, U0, L0, N0, 1, nt⟩ Γ lends sc (retE 1 rvs r fun H => hget H 0 = some cells' ∧ cells'.all (nonm 6) = true) (initT 0 args) ([(0, cells)], 1)) : LendOk P f i G := by
  obtain ⟨fd, c, hf, hb, hname, hnt, h1, h2⟩ := fnCode_inv hc
  refine ⟨⟨fd, hf, by simp [hb], hname⟩, ?_⟩
  intro args cells r cells' hG l U w cargs T hU hT hargs hrow
  have hbnd : ∀ a ∈ args, bndN a := by
    intro x hx
    obtain ⟨j, hj⟩ := List.getElem?_of_mem hx
    obtain ⟨c', g1, g2⟩ := hargs.get0 hj
    exact bndN_ok g2
  obtain ⟨hlen, hvc⟩ := h args cells r cells' hG hbnd
  have hv := hvc w U T (fun n => if n = 0 then some l else none)
  have hw := vc_ok (C := ⟨P, w, U, T, fun n => if n = 0 then some l else none, 1, nt⟩) hΓ hm lends c sc _ _ _ h1 hv
  refine calls_of_wp hf hb ?_
  rw [hnt]
  have hcl := hargs.len
  have hTl := RH.lt hrow
  have hk0 : Kept (fun n => if n = 0 then some l else none) (fun n => if n = 0 then some l else none) U (Un w U w T) w w := ⟨fun b hb => ⟨rfl, (hU b hb).1, (hU b hb).2, .inl hb⟩, fun _ _ h => h, fun _ _ _ _ => SameAt.shape rfl⟩
  have hst : Ctx.St ⟨P, w, U, T, fun n => if n = 0 then some l else none, 1, nt⟩ (initT 0 args) ([(0, cells)], 1) { tmps := cargs.toArray ++ Array.replicate (nt - cargs.toArray.size) Go.undef, defers := [] } w := by
    refine ⟨fun n => if n = 0 then some l else none, T, ?_, rfl, ?_, hrow.kept hk0 (fun _ _ => rfl), hT, fun b hb => .inl hb, KeepBut.refl _ _, fun n hn => ?_, fun _ _ => rfl, Nat.le_refl _, hTl, fun h => absurd h (by show ¬ (1 = 0); omega)⟩
    · simp; omega
    · refine init_slots ?_ []
      exact hargs.kept hk0 (by simp)
    · have : n ≠ 0 := fun e => by subst e; exact absurd hn (by show ¬ (1 ≤ 0); omega)
      simp [this]
  refine wp_mono (hw _ w hst) ?_
  rintro e a' w' ⟨l', s', hq, N, T2, hr⟩
  have fin : (match resV l' s' rvs with
      | some vs => mt 1 s'.1 (resOf vs) r fun H => hget H 0 = some cells' ∧ cells'.all (nonm 6) = true
      | none => False) → a'.defers = [] ∧ ∃ v, (results fd a'.tmps).run P w' = .ok v w' ∧ ∃ c F T', Ending.returned v = .returned c ∧ (F ++ T').Nodup ∧ (∀ b ∈ F ++ T', b ∈ T ∨ (w.heap.size ≤ b ∧ b < w'.heap.size)) ∧
      RV (fun n => if n = 0 then some l else none) (fun b => U b ∨ (w.heap.size ≤ b ∧ b < w'.heap.size ∧ b ∉ F ++ T')) w' r c F ∧
      RH (fun n => if n = 0 then some l else none) (fun b => U b ∨ (w.heap.size ≤ b ∧ b < w'.heap.size ∧ b ∉ F ++ T')) w' [(0, cells')] T' ∧ KeepBut T w w' := by
    intro hq
    split at hq
    · rename_i vs hvs
      obtain ⟨cs, e1, e2⟩ := resV_ok (P := P) hr.sl hr.hp _ _ _ h2 hvs
      obtain ⟨Fp, T', H', m1, m3, ⟨D, m2⟩, hg, hnm⟩ := mt_ok s'.1 T2 _ _ _ _ hq (resOf_ok e2) hr.hp
      obtain ⟨X, T1, d1, _, d3⟩ := m3.del hg
      have hN : N 0 = some l := by
        have := hr.nl 0 (by show 0 < 1; omega)
        simpa using this
      have hfun : (fun n => if n < 1 then N n else none) = fun n => if n = 0 then some l else none := by
        funext n
        by_cases e : n = 0
        · subst e; simp [hN]
        · have : ¬ n < 1 := by omega
          simp [e, this]
      rw [hfun] at m1
      have hX : ∀ x ∈ X, x ∈ T' := fun x hx => d3.mem_iff.2 (by simp [hx])
      have hsub : ∀ x ∈ Fp ++ X, x ∈ T2 := fun x hx => m2.mem_iff.1 (by
        rcases List.mem_append.1 hx with h | h
        · simp [h]
        · simp [hX x h])
      have hTlt := RH.lt hr.hp
      have hkk : Kept (fun n => if n = 0 then some l else none) (fun n => if n = 0 then some l else none) (Un w U w' T2) (fun b => U b ∨ (w.heap.size ≤ b ∧ b < w'.heap.size ∧ b ∉ Fp ++ X)) w' w' := ⟨fun b hbU => ⟨rfl, by
        obtain ⟨u1, u2, u3⟩ := hbU
        rcases u3 with u3 | u3
        · exact .inl u3
        · exact .inr ⟨u3, u1, fun hx => u2 (hsub b hx)⟩⟩, fun _ _ h => h, fun _ _ _ _ => SameAt.shape rfl⟩
      have hnd : (Fp ++ X).Nodup := by
        have p1 := m2.nodup_iff.2 hr.nd
        have p2 : (Fp ++ T').Nodup := (List.nodup_append.1 p1).1
        have p3 : (Fp ++ (X ++ T1)).Nodup := ((List.Perm.append_left Fp d3).nodup_iff).1 p2
        rw [← List.append_assoc] at p3
        exact (List.nodup_append.1 p3).1
      refine ⟨hr.dfr, _, results_run e1, _, Fp, X, rfl, hnd, fun b hb => ?_, m1.kept hkk (fun _ _ => rfl), ?_, hr.fr⟩
      · rcases hr.own b (hsub b hb) with h | h
        · exact .inl h
        · exact .inr ⟨h, hTlt b (hsub b hb)⟩
      · rcases d1 with ⟨q1, rfl, rfl⟩ | ⟨b, base, arr, e, cs, F, q1, q2, q3, q4, rfl⟩
        · rw [hN] at q1
          simp only [Option.some.injEq] at q1
          exact .consE 0 [] [] (by simp [q1]) .nil
        · rw [hN] at q1
          simp only [Option.some.injEq] at q1
          exact .cons 0 cells' b base arr e cs F [] [] _ (by simp [q1]) q2 q3 (q4.mapN fun v c G' hm hr' => (nonm_ok (fun b hb => (hkk.u b hb).2) 6 v c G' (List.all_eq_true.1 hnm v hm) hr')) .nil (by simp)
    · exact hq.elim
  cases e with
  | normal => exact fin hq
  | ret => exact fin hq
  | _ => exact hq.elim
end Go.Proofs.Ytkbgmkkboiihnaa
namespace Go.Proofs.Ytkbgmkkboiihnaa
open Go Go.RowKit

section
variable {N : Nm} {U : Nat → Prop} {w : World}
/-- A named slice with its row is a slice that owns it. -/
theorem own_of {n sz len : Nat} {cn : List V} {c : Value} {X : List Nat} (h : RV N U w (.sl n sz 0 len) c []) (he : Ent N U w n cn X) (hl : cn.length = len * sz) : RV N U w (.own sz cn) c X := by
  rcases he with ⟨e1, rfl, rfl⟩ | ⟨b', base', arr', e', cs', F', e1, e2, e3, e4, rfl⟩
  · cases h with
    | sl _ _ _ _ b base cap arr e fz hn hb hs hlc hm hz => rw [e1] at hn; simp at hn
    | slE _ _ hn => exact .ownE sz
    | slZ _ _ _ b base o arr e fz hn hb ho hz => rw [e1] at hn; simp at hn
  · cases h with
    | sl _ _ _ _ b base cap arr e fz hn hb hs hlc hm hz =>
      rw [e1] at hn
      simp only [Option.some.injEq, Prod.mk.injEq] at hn
      obtain ⟨rfl, rfl⟩ := hn
      rw [e2] at hb
      simp only [Option.some.injEq, Obj.cells.injEq] at hb
      obtain ⟨rfl, rfl, rfl⟩ := hb
      exact .own sz cn b' (base' + 0) len cap arr' e' cs' F' _ e2 hl (by omega) hlc hm hz (fun j c hj => by simpa using e3 j c hj) e4 rfl
    | slE _ _ hn => rw [e1] at hn; simp at hn
    | slZ _ _ _ b base o arr e fz hn hb ho hz =>
      rw [e1] at hn
      simp only [Option.some.injEq, Prod.mk.injEq] at hn
      obtain ⟨rfl, rfl⟩ := hn
      rw [e2] at hb
      simp only [Option.some.injEq, Obj.cells.injEq] at hb
      obtain ⟨rfl, rfl, rfl⟩ := hb
      have h0 : cn = [] := List.eq_nil_of_length_eq_zero (by omega)
      subst h0
      cases e4
      exact .own sz [] b' o 0 0 arr' e' [] [] _ e2 (by simp) (by omega) (Nat.le_refl _) (by simp only [maxLen]; omega) hz (fun j c hj => by simp at hj) .nil rfl
end

theorem Sub.fold {k0 : Nat} {l : Tm} {H : List (Nat × List V)} {nx : Nat} (o n j sz len : Nat) {co cn : List V} (hn : hget H n = some cn) (ho : hget (hdel H n) o = some co) (hj : co[j]? = some (.sl n sz 0 len)) (hl : cn.length = len * sz) :
    Sub k0 l (H, nx) l (hset (hdel H n) o (co.set j (.own sz cn)), nx) := by
  intro C hC a w hst
  obtain ⟨N, T, hr⟩ := hst
  obtain ⟨Xn, T1, d1, d2, d3⟩ := hr.hp.del hn
  obtain ⟨Xo, T2, f1, f2, f3⟩ := d2.del ho
  rcases f1 with ⟨g1, rfl, rfl⟩ | ⟨b, base, arr, e, cs, F, g1, g2, g3, g4, rfl⟩
  · simp at hj
  · obtain ⟨c, Fj, A, B, k1, k2, k3'⟩ := g4.at2 hj
    have k3 := k3' N (kept_refl N w fun _ h => h)
    have hFj : Fj = [] := by cases k1 <;> rfl
    subst hFj
    have hown := own_of k1 d1 hl
    have hrow := k3 _ _ hown
    obtain ⟨T3, m1, m2⟩ := RH.ins (X := b :: (A ++ Xn ++ B)) ho f2 (.inr ⟨b, base, arr, e, cs, A ++ Xn ++ B, g1, g2, g3, hrow, rfl⟩)
    have hperm : T3.Perm T := by
      refine m2.trans ?_
      refine List.Perm.trans ?_ d3.symm
      refine List.Perm.trans ?_ (List.Perm.append_left Xn f3.symm)
      rw [k2]
      have p1 : (b :: (A ++ Xn ++ B) ++ T2).Perm (b :: (Xn ++ (A ++ B)) ++ T2) := by
        refine List.Perm.append_right T2 (List.Perm.cons b ?_)
        rw [List.append_assoc, ← List.append_assoc, List.append_assoc A Xn B]
        refine (List.perm_append_comm_assoc A Xn B)
      refine p1.trans ?_
      simp only [List.append_nil, List.cons_append, List.append_assoc]
      exact (List.perm_middle (a := b) (l₁ := Xn) (l₂ := A ++ (B ++ T2))).symm
    have hmem : ∀ x, x ∈ T3 ↔ x ∈ T := fun x => hperm.mem_iff
    have hU : ∀ x, Un C.w0 C.U0 w T x → Un C.w0 C.U0 w T3 x := fun x hx => ⟨hx.1, fun hm => hx.2.1 ((hmem x).1 hm), hx.2.2⟩
    have kk := kept_refl N w hU
    refine ⟨N, T3, hr.tsz, hr.dfr, fun i => (hr.sl i).kept kk (by simp), m1.kept kk (fun _ _ => rfl), hperm.nodup_iff.2 hr.nd, fun x hx => hr.own x ((hmem x).1 hx), hr.fr, hr.nx, hr.nl, hr.kn, hr.lh⟩
theorem SubI.fold {k0 : Nat} {l l' : Tm} {s' : Hp} {H : List (Nat × List V)} {nx : Nat} (o n j sz len : Nat) {co cn : List V} (hn : hget H n = some cn) (ho : hget (hdel H n) o = some co) (hj : co[j]? = some (.sl n sz 0 len)) (hl : cn.length = len * sz)
    (h : SubI k0 l (hset (hdel H n) o (co.set j (.own sz cn)), nx) l' s') : SubI k0 l (H, nx) l' s' := ⟨(Sub.fold o n j sz len hn ho hj hl).trans h.h⟩

/-- A cell that is nil gets an empty row with a name. -/
theorem Sub.nilCell {k0 : Nat} {l : Tm} {H : List (Nat × List V)} {nx : Nat} (o j sz : Nat) {co : List V} (ho : hget H o = some co) (hj : co[j]? = some .nil) :
    Sub k0 l (H, nx) l ((nx, []) :: hset H o (co.set j (.sl nx sz 0 0)), nx + 1) := by
  intro C hC a w hst
  obtain ⟨N, T, hr⟩ := hst
  have hN : N nx = none := hr.nx nx (Nat.le_refl _)
  have hk : ∀ U : Nat → Prop, Kept N (fun n => if n = nx then some none else N n) U U w w := fun U => ⟨fun b hb => ⟨rfl, hb⟩, fun n l h => by
    by_cases e : n = nx
    · subst e; rw [hN] at h; simp at h
    · simpa [e] using h, fun _ _ _ _ => SameAt.shape rfl⟩
  obtain ⟨Xo, T2, f1, f2, f3⟩ := hr.hp.del ho
  rcases f1 with ⟨g1, rfl, rfl⟩ | ⟨b, base, arr, e, cs, F, g1, g2, g3, g4, rfl⟩
  · simp at hj
  · obtain ⟨c, Fj, A, B, k1, k2, k3'⟩ := g4.at2 hj
    have k3 := k3' (fun n => if n = nx then some none else N n) (hk _)
    have hc : c = .slice none 0 0 ∧ Fj = [] := by cases k1; exact ⟨rfl, rfl⟩
    obtain ⟨rfl, rfl⟩ := hc
    have hrow := k3 (.sl nx sz 0 0) [] (.slE nx sz (by simp))
    have hne : o ≠ nx := fun e => by rw [e, hN] at g1; simp at g1
    obtain ⟨T3, m1, m2⟩ := RH.ins (N := fun n => if n = nx then some none else N n) (X := b :: (A ++ [] ++ B)) ho (f2.kept (hk _) (fun _ _ => rfl)) (.inr ⟨b, base, arr, e, cs, A ++ [] ++ B, by simp [hne, g1], g2, g3, hrow, rfl⟩)
    have hperm : T3.Perm T := by
      refine m2.trans (List.Perm.trans ?_ f3.symm)
      rw [k2]
    have hmem : ∀ x, x ∈ T3 ↔ x ∈ T := fun x => hperm.mem_iff
    have hU : ∀ x, Un C.w0 C.U0 w T x → Un C.w0 C.U0 w T3 x := fun x hx => ⟨hx.1, fun hm => hx.2.1 ((hmem x).1 hm), hx.2.2⟩
    have kk := kept_refl (fun n => if n = nx then some none else N n) w hU
    refine ⟨fun n => if n = nx then some none else N n, T3, hr.tsz, hr.dfr, fun i => ((hr.sl i).kept (hk _) (by simp)).kept kk (by simp), .consE nx _ _ (by simp) (m1.kept kk (fun _ _ => rfl)), hperm.nodup_iff.2 hr.nd, fun x hx => hr.own x ((hmem x).1 hx), hr.fr, fun n h => ?_, fun n h => ?_, Nat.le_succ_of_le hr.kn, hr.lh⟩
    · have h2 : n ≠ nx := fun e => by rw [e] at h; exact absurd h (by show ¬ (nx + 1 ≤ nx); omega)
      simp only [h2, if_false]
      exact hr.nx n (Nat.le_of_succ_le h)
    · have h2 : n ≠ nx := fun e => by
        have := hr.kn
        simp only at this
        subst hC
        omega
      simp only [h2, if_false]
      exact hr.nl n h
theorem SubI.nilCell {k0 : Nat} {l l' : Tm} {s' : Hp} {H : List (Nat × List V)} {nx : Nat} (o j sz : Nat) {co : List V} (ho : hget H o = some co) (hj : co[j]? = some .nil)
    (h : SubI k0 l ((nx, []) :: hset H o (co.set j (.sl nx sz 0 0)), nx + 1) l' s') : SubI k0 l (H, nx) l' s' := ⟨(Sub.nilCell o j sz ho hj).trans h.h⟩

/-- An inner row gets a name. -/
theorem Sub.unfold {k0 : Nat} {l : Tm} {H : List (Nat × List V)} {nx : Nat} (o j sz : Nat) {co cn : List V} (ho : hget H o = some co) (hj : co[j]? = some (.own sz cn)) (_hz : 0 < sz) :
    Sub k0 l (H, nx) l ((nx, cn) :: hset H o (co.set j (.sl nx sz 0 (cn.length / sz))), nx + 1) := by
  intro C hC a w hst
  obtain ⟨N, T, hr⟩ := hst
  have hN : N nx = none := hr.nx nx (Nat.le_refl _)
  have hk : ∀ (L : Loc) (U : Nat → Prop), Kept N (fun n => if n = nx then some L else N n) U U w w := fun L U => ⟨fun b hb => ⟨rfl, hb⟩, fun n l h => by
    by_cases e : n = nx
    · subst e; rw [hN] at h; simp at h
    · simpa [e] using h, fun _ _ _ _ => SameAt.shape rfl⟩
  obtain ⟨Xo, T2, f1, f2, f3⟩ := hr.hp.del ho
  rcases f1 with ⟨g1, rfl, rfl⟩ | ⟨b, base, arr, e, cs, F, g1, g2, g3, g4, rfl⟩
  · simp at hj
  · obtain ⟨c, Fj, A, B, k1, k2, k3⟩ := g4.at2 hj
    have hne : o ≠ nx := fun e => by rw [e, hN] at g1; simp at g1
    have key : ∃ (L : Loc), (∀ (U' : Nat → Prop), RV (fun n => if n = nx then some L else N n) U' w (.sl nx sz 0 (cn.length / sz)) c []) ∧ Ent (fun n => if n = nx then some L else N n) (Un C.w0 C.U0 w T) w nx cn Fj := by
      cases k1 with
      | ownE =>
        refine ⟨none, fun U' => ?_, .inl ⟨by simp, rfl, rfl⟩⟩
        simpa using RV.slE (N := fun n => if n = nx then some none else N n) (U := U') (w := w) nx sz (by simp)
      | own _ _ b' o' len cap arr' e' cs' F' _ hb hl hs hlc hm hz' hc h hF =>
        refine ⟨some (b', o'), fun U' => ?_, .inr ⟨b', o', arr', e', cs', F', by simp, hb, hc, h.kept (hk _ _) (fun _ _ => rfl), hF⟩⟩
        have hq : cn.length / sz = len := by rw [hl]; exact Nat.mul_div_cancel len hz'
        rw [hq]
        simpa using RV.sl (N := fun n => if n = nx then some (some (b', o')) else N n) (U := U') nx sz 0 len b' o' cap arr' e' (0, 0) (by simp) hb (by omega) hlc hm hz'
    obtain ⟨L, q1, q2⟩ := key
    have hrow := k3 _ (hk L _) _ [] (q1 _)
    obtain ⟨T3, m1, m2⟩ := RH.ins (N := fun n => if n = nx then some L else N n) (X := b :: (A ++ [] ++ B)) ho (f2.kept (hk L _) (fun _ _ => rfl)) (.inr ⟨b, base, arr, e, cs, A ++ [] ++ B, by simp [hne, g1], g2, g3, hrow, rfl⟩)
    have hperm : (Fj ++ T3).Perm T := by
      refine (List.Perm.append_left Fj m2).trans (List.Perm.trans ?_ f3.symm)
      rw [k2]
      simp only [List.append_nil, List.cons_append, List.append_assoc]
      refine List.Perm.trans (List.perm_middle) (List.Perm.cons b ?_)
      exact List.perm_append_comm_assoc Fj A (B ++ T2)
    have hmem : ∀ x, x ∈ Fj ++ T3 ↔ x ∈ T := fun x => hperm.mem_iff
    have hU : ∀ x, Un C.w0 C.U0 w T x → Un C.w0 C.U0 w (Fj ++ T3) x := fun x hx => ⟨hx.1, fun hm => hx.2.1 ((hmem x).1 hm), hx.2.2⟩
    have kk := kept_refl (fun n => if n = nx then some L else N n) w hU
    refine ⟨fun n => if n = nx then some L else N n, Fj ++ T3, hr.tsz, hr.dfr, fun i => ((hr.sl i).kept (hk L _) (by simp)).kept kk (by simp), (m1.push q2).kept kk (fun _ _ => rfl), hperm.nodup_iff.2 hr.nd, fun x hx => hr.own x ((hmem x).1 hx), hr.fr, fun n h => ?_, fun n h => ?_, Nat.le_succ_of_le hr.kn, hr.lh⟩
    · have h2 : n ≠ nx := fun e => by rw [e] at h; exact absurd h (by show ¬ (nx + 1 ≤ nx); omega)
      simp only [h2, if_false]
      exact hr.nx n (Nat.le_of_succ_le h)
    · have h2 : n ≠ nx := fun e => by
        have := hr.kn
        simp only at this
        subst hC
        omega
      simp only [h2, if_false]
      exact hr.nl n h
theorem SubI.unfold {k0 : Nat} {l l' : Tm} {s' : Hp} {H : List (Nat × List V)} {nx : Nat} (o j sz : Nat) {co cn : List V} (ho : hget H o = some co) (hj : co[j]? = some (.own sz cn)) (hz : 0 < sz)
    (h : SubI k0 l ((nx, cn) :: hset H o (co.set j (.sl nx sz 0 (cn.length / sz))), nx + 1) l' s') : SubI k0 l (H, nx) l' s' := ⟨(Sub.unfold o j sz ho hj hz).trans h.h⟩

theorem RVs.nilAll {N : Nm} {U : Nat → Prop} {w : World} (sz : Nat) {vs : List V} : ∀ {cs : List Value} {F : List Nat}, RVs N U w vs cs F → (∀ v ∈ vs, v = .nil) → RVs N U w (vs.map fun _ => .own sz []) cs F := by
  induction vs with
  | nil => intro cs F h _; cases h; exact .nil
  | cons v vs ih =>
    intro cs F h hn
    cases h with
    | cons _ _ c cs F1 Fs _ h hs hE =>
      have e := hn v (by simp)
      subst e
      cases h with
      | nil => exact .cons _ _ _ _ [] Fs _ (.ownE sz) (ih hs fun v hv => hn v (by simp [hv])) hE
/-- Cells that are nil are empty rows. -/
theorem Sub.nilAll {k0 : Nat} {l : Tm} {H : List (Nat × List V)} {nx : Nat} (o sz : Nat) {co : List V} (ho : hget H o = some co) (hn : ∀ v ∈ co, v = .nil) :
    Sub k0 l (H, nx) l (hset H o (co.map fun _ => .own sz []), nx) := by
  intro C hC a w hst
  obtain ⟨N, T, hr⟩ := hst
  obtain ⟨Xo, T2, f1, f2, f3⟩ := hr.hp.del ho
  have he : Ent N (Un C.w0 C.U0 w T) w o (co.map fun _ => .own sz []) Xo := by
    rcases f1 with ⟨g1, rfl, rfl⟩ | ⟨b, base, arr, e, cs, F, g1, g2, g3, g4, rfl⟩
    · exact .inl ⟨g1, by simp, rfl⟩
    · exact .inr ⟨b, base, arr, e, cs, F, g1, g2, g3, g4.nilAll sz hn, rfl⟩
  obtain ⟨T3, m1, m2⟩ := RH.ins ho f2 he
  have hperm : T3.Perm T := m2.trans f3.symm
  have hmem : ∀ x, x ∈ T3 ↔ x ∈ T := fun x => hperm.mem_iff
  have hU : ∀ x, Un C.w0 C.U0 w T x → Un C.w0 C.U0 w T3 x := fun x hx => ⟨hx.1, fun hm => hx.2.1 ((hmem x).1 hm), hx.2.2⟩
  have kk := kept_refl N w hU
  exact ⟨N, T3, hr.tsz, hr.dfr, fun i => (hr.sl i).kept kk (by simp), m1.kept kk (fun _ _ => rfl), hperm.nodup_iff.2 hr.nd, fun x hx => hr.own x ((hmem x).1 hx), hr.fr, hr.nx, hr.nl, hr.kn, hr.lh⟩
theorem SubI.nilAll {k0 : Nat} {l l' : Tm} {s' : Hp} {H : List (Nat × List V)} {nx : Nat} (o sz : Nat) {co : List V} (ho : hget H o = some co) (hn : ∀ v ∈ co, v = .nil)
    (h : SubI k0 l (hset H o (co.map fun _ => .own sz []), nx) l' s') : SubI k0 l (H, nx) l' s' := ⟨(Sub.nilAll o sz ho hn).trans h.h⟩

section
variable {C : Ctx}
/-- A loop each of whose rounds may begin with rows that get names. -/
theorem loopU {Γ : Env} (hΓ : EnvOk C.P Γ) (hm : C.P.follows .mixedOrders = true) {lends : List FuncId} {sc : SC} {Q : Post} {l : Tm} {s : Hp} {σ : Type} (T : σ → Tm) (H : σ → Hp) (inv : σ → Prop) (m : σ → Nat) (x0 : σ) (hi : inv x0)
    (h0 : SubI C.k0 l s (T x0) (H x0)) (round : ∀ x, inv x → ∃ l' s', SubI C.k0 (T x) (H x) l' s' ∧ vc C Γ lends sc (thenE (Again C.k0 T H inv m x) Q) l' s') : LoopI C lends sc Q l s := by
  refine ⟨?_⟩
  intro c hc a w hst
  refine wp_loop_ghost (fun x a w => inv x ∧ C.St (T x) (H x) a w) m ?_ x0 a w ⟨hi, h0.h C rfl a w hst⟩
  rintro x a w ⟨hx, hs⟩
  obtain ⟨l', s', hsub, hv⟩ := round x hx
  have h := vc_ok hΓ hm lends c sc _ _ _ hc hv a w (hsub.h C rfl a w hs)
  refine wp_mono h ?_
  rintro e a' w' ⟨l1, s1, hq, hs'⟩
  cases e with
  | normal => obtain ⟨⟨x', h1, h2, h3⟩⟩ := hq; exact ⟨x', h2, h1, h3.h C rfl a' w' hs'⟩
  | _ => exact ⟨l1, s1, hq, hs'⟩
end

/-- Rows of numbers that their cells own; rows that are only read. -/
def rowsV (m : List (List Int)) : List V := m.map fun r => .own 1 (ints r)
def rowsL (m : List (List Int)) : List V := m.map fun r => .list 1 (ints r)
/-- The row at a place. -/
def atR (m : List (List Int)) (i : Nat) : List Int := m[i]?.getD []
theorem atR_eq {m : List (List Int)} {i : Nat} (h : i < m.length) : atR m i = m[i] := by simp [atR, h]
theorem atR_set {m : List (List Int)} {i j : Nat} {r : List Int} : atR (m.set i r) j = if i = j ∧ j < m.length then r else atR m j := by
  simp only [atR, List.getElem?_set]
  by_cases h : i = j
  · subst h
    by_cases h2 : i < m.length <;> simp [h2]
  · simp [h]
@[simp] theorem rowsV_nil : rowsV [] = [] := rfl
@[simp] theorem rowsL_nil : rowsL [] = [] := rfl
@[simp] theorem rowsV_len (m : List (List Int)) : (rowsV m).length = m.length := by simp [rowsV]
@[simp] theorem rowsL_len (m : List (List Int)) : (rowsL m).length = m.length := by simp [rowsL]
@[simp high] theorem rowsV_getD {m : List (List Int)} {i : Nat} (d : V) (h : i < m.length) : (rowsV m).getD i d = .own 1 (ints (atR m i)) := by
  rw [List.getD_eq_getElem?_getD, rowsV, List.getElem?_map, atR_eq h, List.getElem?_eq_getElem h]
  rfl
@[simp high] theorem rowsL_getD {m : List (List Int)} {i : Nat} (d : V) (h : i < m.length) : (rowsL m).getD i d = .list 1 (ints (atR m i)) := by
  rw [List.getD_eq_getElem?_getD, rowsL, List.getElem?_map, atR_eq h, List.getElem?_eq_getElem h]
  rfl
@[simp high] theorem getD_set_eq {l : List V} {i : Nat} (v d : V) (h : i < l.length) : (l.set i v).getD i d = v := by
  rw [List.getD_eq_getElem?_getD, List.getElem?_set_self h]; rfl
@[simp high] theorem getD_set_ne {l : List V} {i j : Nat} (v d : V) (h : i ≠ j) : (l.set i v).getD j d = l.getD j d := by
  rw [List.getD_eq_getElem?_getD, List.getElem?_set_ne h, List.getD_eq_getElem?_getD]
@[simp] theorem rowsV_set (m : List (List Int)) (i : Nat) (r : List Int) : (rowsV m).set i (.own 1 (ints r)) = rowsV (m.set i r) := by simp [rowsV, List.map_set]
@[simp] theorem rowsV_app (m p : List (List Int)) : rowsV m ++ rowsV p = rowsV (m ++ p) := by simp [rowsV]
@[simp] theorem rowsV_take (m : List (List Int)) (k : Nat) : (rowsV m).take k = rowsV (m.take k) := by simp [rowsV]
@[simp] theorem rowsV_drop (m : List (List Int)) (k : Nat) : (rowsV m).drop k = rowsV (m.drop k) := by simp [rowsV]
@[simp] theorem rowsL_take (m : List (List Int)) (k : Nat) : (rowsL m).take k = rowsL (m.take k) := by simp [rowsL]
@[simp] theorem rowsL_drop (m : List (List Int)) (k : Nat) : (rowsL m).drop k = rowsL (m.drop k) := by simp [rowsL]
@[simp] theorem rowsV_nm (m : List (List Int)) (j : Nat) : (rowsV m).all (nonm (j + 2)) = true := by simp [rowsV, nonm]
@[simp] theorem rowsV_nl (m : List (List Int)) (j : Nat) : (rowsV m).all (nolist (j + 2)) = true := by simp [rowsV, nolist]
@[simp] theorem rowsL_nm (m : List (List Int)) (j : Nat) : (rowsL m).all (nonm (j + 2)) = true := by simp [rowsL, nonm]
@[simp] theorem rowsL_nn (m : List (List Int)) (j : Nat) : (rowsL m).all (noname (j + 2)) = true := by simp [rowsL, noname]
@[simp] theorem rowsL_cell (m : List (List Int)) : (rowsL m).all V.cell = true := by simp [rowsL, V.cell]
@[simp] theorem rowsV_dr (H : List (Nat × List V)) (m : List (List Int)) (j : Nat) : (rowsV m).map (dr H (j + 2)) = rowsL m := by simp [rowsV, rowsL, dr]
@[simp] theorem rowsL_dr (H : List (Nat × List V)) (m : List (List Int)) (j : Nat) : (rowsL m).map (dr H (j + 2)) = rowsL m := by simp [rowsL, dr]
@[simp] theorem rowsV_fz (m : List (List Int)) (j : Nat) : (rowsV m).map (fz (j + 2)) = rowsL m := by simp [rowsV, rowsL, fz]
@[simp] theorem rowsV_ren (r : Nat → Option Nat) (m : List (List Int)) : renL r (rowsV m) = some (rowsV m) := by
  induction m with
  | nil => rfl
  | cons a m ih =>
    have e : rowsV (a :: m) = .own 1 (ints a) :: rowsV m := rfl
    simp [e, renL, ren1, nonm, ih]
@[simp] theorem rowsL_ren (r : Nat → Option Nat) (m : List (List Int)) : renL r (rowsL m) = some (rowsL m) := by
  induction m with
  | nil => rfl
  | cons a m ih =>
    have e : rowsL (a :: m) = .list 1 (ints a) :: rowsL m := rfl
    simp [e, renL, ren1, nonm, ih]
@[simp] theorem repl_one (n : Nat) (v : V) : (List.replicate n [v]).flatten = List.replicate n v := by
  induction n with
  | zero => rfl
  | succ n ih => simp [List.replicate_succ, ih]
theorem rows_none (k : Nat) : (List.replicate k V.nil).map (fun _ => V.own 1 []) = rowsV (List.replicate k []) := by simp [rowsV]
theorem rowsV_get {m : List (List Int)} {i : Nat} (h : i < m.length) : (rowsV m)[i]? = some (.own 1 (ints (atR m i))) := by
  rw [rowsV, List.getElem?_map, atR_eq h, List.getElem?_eq_getElem h]
  rfl

def dRows : List V → Option (List (List Int))
  | [] => some []
  | .list 1 c :: r => (dInts c).bind fun l => (dRows r).map (l :: ·)
  | _ => none
/-- A row of rows. -/
def dLL : V → Option (List (List Int))
  | .list 1 cells => dRows cells
  | _ => none
@[simp] theorem dRows_rowsL (m : List (List Int)) : dRows (rowsL m) = some m := by
  induction m with
  | nil => rfl
  | cons a m ih =>
    have e : rowsL (a :: m) = .list 1 (ints a) :: rowsL m := rfl
    simp [e, dRows, ih]
@[simp] theorem dLL_list (m : List (List Int)) : dLL (.list 1 (rowsL m)) = some m := by simp [dLL]
@[simp] theorem dLL_nil : dLL (.list 1 []) = some [] := rfl
theorem dRows_inv : ∀ {c : List V} {m : List (List Int)}, dRows c = some m → c = rowsL m := by
  intro c
  induction c with
  | nil => intro m h; simp [dRows] at h; subst h; rfl
  | cons v c ih =>
    intro m h
    unfold dRows at h
    split at h
    · simp_all
    · rename_i n r e
      injection e with e1 e2
      subst e1 e2
      obtain ⟨l, h1, h2⟩ := Option.bind_eq_some_iff.1 h
      obtain ⟨q, h3, rfl⟩ := Option.map_eq_some_iff.1 h2
      rw [dInts_inv h1, ih h3]
      rfl
    · simp at h
theorem dLL_inv {v : V} {m : List (List Int)} (h : dLL v = some m) : v = .list 1 (rowsL m) := by
  unfold dLL at h
  split at h
  · rw [dRows_inv h]
  · simp at h

/-- All cells are numbers. -/
def numsC (cn : List V) : Prop := ∀ v ∈ cn, ∃ k z, v = .int k z
theorem nums_F {N : Nm} {U U' : Nat → Prop} {w : World} {cn : List V} : ∀ {cs : List Value} {F : List Nat}, numsC cn → RVs N U w cn cs F → F = [] ∧ RVs N U' w cn cs [] := by
  induction cn with
  | nil => intro cs F _ h; cases h; exact ⟨rfl, .nil⟩
  | cons a x ih =>
    intro cs F hc h
    cases h with
    | cons _ _ c cs F Fs _ h hs hE =>
      obtain ⟨k, z, rfl⟩ := hc a (by simp)
      cases h
      obtain ⟨h1, h2⟩ := ih (fun v hv => hc v (by simp [hv])) hs
      exact ⟨by rw [hE, h1]; rfl, .cons _ _ _ _ [] [] _ (.int k z) h2 rfl⟩
theorem list_of {N : Nm} {U U2 U' : Nat → Prop} {w : World} {n sz len : Nat} {cn : List V} {c : Value} {X : List Nat} (h : RV N U2 w (.sl n sz 0 len) c []) (he : Ent N U w n cn X) (hl : cn.length = len * sz) (hc : numsC cn) (hX : ∀ b ∈ X, U' b) : RV N U' w (.list sz cn) c [] := by
  rcases he with ⟨e1, rfl, rfl⟩ | ⟨b', base', arr', e', cs', F', e1, e2, e3, e4, rfl⟩
  · cases h with
    | sl _ _ _ _ b base cap arr e fz hn hb hs hlc hm hz => rw [e1] at hn; simp at hn
    | slE _ _ hn => exact .listE _ _ _
    | slZ _ _ _ b base o arr e fz hn hb ho hz => rw [e1] at hn; simp at hn
  · obtain ⟨hF, h4⟩ := nums_F (U' := U') hc e4
    cases h with
    | sl _ _ _ _ b base cap arr e fz hn hb hs hlc hm hz =>
      rw [e1] at hn
      simp only [Option.some.injEq, Prod.mk.injEq] at hn
      obtain ⟨rfl, rfl⟩ := hn
      exact .list sz cn b' (base' + 0) len cap cs' (hX b' (by simp)) hl hlc (by omega) hz (fun j c hj => by rw [cell_of_arr e2]; simpa using e3 j c hj) h4
    | slE _ _ hn => rw [e1] at hn; simp at hn
    | slZ _ _ _ b base o arr e fz hn hb ho hz =>
      have h0 : cn = [] := List.eq_nil_of_length_eq_zero (by omega)
      subst h0
      exact .listE _ _ _
/-- A named row that nobody writes any more: its slice becomes one that is only read. -/
theorem Sub.frz {l : Tm} {H : List (Nat × List V)} {nx : Nat} (i n sz len : Nat) {cn : List V} (hi : tget l i = .sl n sz 0 len) (hn : hget H n = some cn) (hl : cn.length = len * sz) (hc : numsC cn) :
    Sub 0 l (H, nx) ((i, .list sz cn) :: l) (hdel H n, nx) := by
  intro C hC a w hst
  obtain ⟨N, T, hr⟩ := hst
  obtain ⟨X, T1, d1, d2, d3⟩ := hr.hp.del hn
  have hL0 : C.L0 = [] := hr.lh.2 hC
  have hmem : ∀ b ∈ T1, b ∈ T := fun b hb => d3.mem_iff.2 (by simp [hb])
  have hU : ∀ b, Un C.w0 C.U0 w T b → Un C.w0 C.U0 w T1 b := fun b hb => ⟨hb.1, fun hm => hb.2.1 (hmem b hm), hb.2.2⟩
  have kk := kept_refl N w hU
  have hnd := d3.nodup_iff.1 hr.nd
  have hXU : ∀ x ∈ X, Un C.w0 C.U0 w T1 x := fun x hx => by
    have hxT : x ∈ T := d3.mem_iff.2 (by simp [hx])
    refine ⟨RH.lt hr.hp x hxT, fun hm => (List.nodup_append.1 hnd).2.2 x hx x hm rfl, .inr ?_⟩
    rcases hr.own x hxT with h | h
    · rw [hL0] at h; simp at h
    · exact h
  refine ⟨N, T1, hr.tsz, hr.dfr, ?_, d2.kept kk (fun _ _ => rfl), (List.nodup_append.1 hnd).2.1, fun b hb => hr.own b (hmem b hb), hr.fr, hr.nx, hr.nl, hr.kn, hr.lh⟩
  intro j
  simp only [tget]
  split
  · rename_i e
    subst e
    have hv := hr.sl i
    rw [hi] at hv
    exact list_of hv d1 hl hc hXU
  · exact (hr.sl j).kept kk (by simp)
theorem SubI.frz {l l' : Tm} {H : List (Nat × List V)} {s' : Hp} {nx : Nat} (i n sz len : Nat) {cn : List V} (hi : tget l i = .sl n sz 0 len) (hn : hget H n = some cn) (hl : cn.length = len * sz) (hc : numsC cn)
    (h : SubI 0 ((i, .list sz cn) :: l) (hdel H n, nx) l' s') : SubI 0 l (H, nx) l' s' := ⟨(Sub.frz i n sz len hi hn hl hc).trans h.h⟩
/-- A named row within another one, which nobody writes any more. -/
theorem Sub.frzC {l : Tm} {H : List (Nat × List V)} {nx : Nat} (o n j sz len : Nat) {co cn : List V} (hn : hget H n = some cn) (ho : hget (hdel H n) o = some co) (hj : co[j]? = some (.sl n sz 0 len)) (hl : cn.length = len * sz) (hc : numsC cn) :
    Sub 0 l (H, nx) l (hset (hdel H n) o (co.set j (.list sz cn)), nx) := by
  intro C hC a w hst
  obtain ⟨N, T, hr⟩ := hst
  have hL0 : C.L0 = [] := hr.lh.2 hC
  obtain ⟨Xn, T1, d1, d2, d3⟩ := hr.hp.del hn
  obtain ⟨Xo, T2, f1, f2, f3⟩ := d2.del ho
  have hnd := d3.nodup_iff.1 hr.nd
  have hmem1 : ∀ b ∈ T1, b ∈ T := fun b hb => d3.mem_iff.2 (by simp [hb])
  rcases f1 with ⟨g1, rfl, rfl⟩ | ⟨b, base, arr, e, cs, F, g1, g2, g3, g4, rfl⟩
  · simp at hj
  · have hXU : ∀ x ∈ Xn, Un C.w0 C.U0 w T1 x := fun x hx => by
      have hxT : x ∈ T := d3.mem_iff.2 (by simp [hx])
      refine ⟨RH.lt hr.hp x hxT, fun hm => (List.nodup_append.1 hnd).2.2 x hx x hm rfl, .inr ?_⟩
      rcases hr.own x hxT with h | h
      · rw [hL0] at h; simp at h
      · exact h
    have hU1 : ∀ x, Un C.w0 C.U0 w T x → Un C.w0 C.U0 w T1 x := fun x hx => ⟨hx.1, fun hm => hx.2.1 (hmem1 x hm), hx.2.2⟩
    obtain ⟨c, Fj, A, B, k1, k2, k3'⟩ := (g4.kept (kept_refl N w hU1) (fun _ _ => rfl)).at2 hj
    have hFj : Fj = [] := by cases k1 <;> rfl
    subst hFj
    have hlist : RV N (Un C.w0 C.U0 w T1) w (.list sz cn) c [] := list_of k1 d1 hl hc hXU
    have hrow := k3' N (kept_refl N w fun _ h => h) _ [] hlist
    obtain ⟨T3, m1, m2⟩ := RH.ins (X := b :: (A ++ [] ++ B)) ho (f2.kept (kept_refl N w hU1) (fun _ _ => rfl)) (.inr ⟨b, base, arr, e, cs, A ++ [] ++ B, g1, g2, g3, hrow, rfl⟩)
    have hperm : T3.Perm T1 := by
      refine m2.trans ?_
      refine List.Perm.trans ?_ f3.symm
      rw [k2]
    have hmem : ∀ x, x ∈ T3 ↔ x ∈ T1 := fun x => hperm.mem_iff
    have hU : ∀ x, Un C.w0 C.U0 w T1 x → Un C.w0 C.U0 w T3 x := fun x hx => ⟨hx.1, fun hm => hx.2.1 ((hmem x).1 hm), hx.2.2⟩
    have kk := kept_refl N w hU
    refine ⟨N, T3, hr.tsz, hr.dfr, fun i => ((hr.sl i).kept (kept_refl N w hU1) (by simp)).kept kk (by simp), m1.kept kk (fun _ _ => rfl), hperm.nodup_iff.2 (List.nodup_append.1 hnd).2.1, fun x hx => hr.own x (hmem1 x ((hmem x).1 hx)), hr.fr, hr.nx, hr.nl, hr.kn, hr.lh⟩
theorem SubI.frzC {l l' : Tm} {s' : Hp} {H : List (Nat × List V)} {nx : Nat} (o n j sz len : Nat) {co cn : List V} (hn : hget H n = some cn) (ho : hget (hdel H n) o = some co) (hj : co[j]? = some (.sl n sz 0 len)) (hl : cn.length = len * sz) (hc : numsC cn)
    (h : SubI 0 l (hset (hdel H n) o (co.set j (.list sz cn)), nx) l' s') : SubI 0 l (H, nx) l' s' := ⟨(Sub.frzC o n j sz len hn ho hj hl hc).trans h.h⟩
/-- What lies behind the first k cells of a row is forgotten. -/
theorem Sub.shrink {k0 : Nat} {l : Tm} {H : List (Nat × List V)} {nx : Nat} (n k : Nat) {cn : List V} (hn : hget H n = some cn) (hc : numsC cn) :
    Sub k0 l (H, nx) l (hset H n (cn.take k), nx) := by
  intro C hC a w hst
  obtain ⟨N, T, hr⟩ := hst
  obtain ⟨X, T1, d1, d2, d3⟩ := hr.hp.del hn
  have he : Ent N (Un C.w0 C.U0 w T) w n (cn.take k) X := by
    rcases d1 with ⟨e1, rfl, rfl⟩ | ⟨b, base, arr, e, cs, F, e1, e2, e3, e4, rfl⟩
    · exact .inl ⟨e1, by simp, rfl⟩
    · obtain ⟨hF, h4⟩ := nums_F (U' := Un C.w0 C.U0 w T) hc e4
      subst hF
      refine .inr ⟨b, base, arr, e, cs.take k, [], e1, e2, fun j c hj => ?_, h4.take k, rfl⟩
      rw [List.getElem?_take] at hj
      split at hj
      · exact e3 j c hj
      · simp at hj
  obtain ⟨T3, m1, m2⟩ := RH.ins (X := X) hn d2 he
  have hperm : T3.Perm T := m2.trans d3.symm
  have hmem : ∀ x, x ∈ T3 ↔ x ∈ T := fun x => hperm.mem_iff
  have hU : ∀ x, Un C.w0 C.U0 w T x → Un C.w0 C.U0 w T3 x := fun x hx => ⟨hx.1, fun hm => hx.2.1 ((hmem x).1 hm), hx.2.2⟩
  have kk := kept_refl N w hU
  exact ⟨N, T3, hr.tsz, hr.dfr, fun i => (hr.sl i).kept kk (by simp), m1.kept kk (fun _ _ => rfl), hperm.nodup_iff.2 hr.nd, fun x hx => hr.own x ((hmem x).1 hx), hr.fr, hr.nx, hr.nl, hr.kn, hr.lh⟩
theorem SubI.shrink {k0 : Nat} {l l' : Tm} {s' : Hp} {H : List (Nat × List V)} {nx : Nat} (n k : Nat) {cn : List V} (hn : hget H n = some cn) (hc : numsC cn)
    (h : SubI k0 l (hset H n (cn.take k), nx) l' s') : SubI k0 l (H, nx) l' s' := ⟨(Sub.shrink n k hn hc).trans h.h⟩
theorem nums_ints (x : List Int) : numsC (ints x) := fun v hv => by
  obtain ⟨z, _, rfl⟩ := List.mem_map.1 hv
  exact ⟨_, _, rfl⟩
/-- A state that can be folded into one of Q. -/
def foldE (k0 : Nat) (Q : Post) : Post := fun e l s => CutI k0 (Q e) l s
/-- The same; ahead of the return rows may be folded. -/
theorem fn_lend2 {P : Program} {f : FuncId} {nt : Nat} {sc : SC} {rvs : List (Nat × Option Nat)} {lends : List FuncId} (hc : fnCode P lends f = some (nt, sc, rvs)) (hm : P.follows .mixedOrders = true) {Γ : Env} (hΓ : EnvOk P Γ) {i : Nat} {G : List V → List V → Option (V × List V)}
    (h : ∀ args cells r cells', G args cells = some (r, cells') → (∀ a ∈ args, bndN a) → args.length ≤ nt ∧ ∀ w0 U0 L0 N0, vc ⟨P, w0, U0, L0, N0, 1, nt⟩ Γ lends sc (foldE 1 (retE 1 rvs r fun H => hget H 0 = some cells' ∧ cells'.all (nonm 6) = true)) (initT 0 args) ([(0, cells)], 1)) : LendOk P f i G := by
  obtain ⟨fd, c, hf, hb, hname, hnt, h1, h2⟩ := fnCode_inv hc
  refine ⟨⟨fd, hf, by simp [hb], hname⟩, ?_⟩
  intro args cells r cells' hG l U w cargs T hU hT hargs hrow
  have hbnd : ∀ a ∈ args, bndN a := by
    intro x hx
    obtain ⟨j, hj⟩ := List.getElem?_of_mem hx
    obtain ⟨c', g1, g2⟩ := hargs.get0 hj
    exact bndN_ok g2
  obtain ⟨hlen, hvc⟩ := h args cells r cells' hG hbnd
  have hv := hvc w U T (fun n => if n = 0 then some l else none)
  have hw := vc_ok (C := ⟨P, w, U, T, fun n => if n = 0 then some l else none, 1, nt⟩) hΓ hm lends c sc _ _ _ h1 hv
  refine calls_of_wp hf hb ?_
  rw [hnt]
  have hcl := hargs.len
  have hTl := RH.lt hrow
  have hk0 : Kept (fun n => if n = 0 then some l else none) (fun n => if n = 0 then some l else none) U (Un w U w T) w w := ⟨fun b hb => ⟨rfl, (hU b hb).1, (hU b hb).2, .inl hb⟩, fun _ _ h => h, fun _ _ _ _ => SameAt.shape rfl⟩
  have hst : Ctx.St ⟨P, w, U, T, fun n => if n = 0 then some l else none, 1, nt⟩ (initT 0 args) ([(0, cells)], 1) { tmps := cargs.toArray ++ Array.replicate (nt - cargs.toArray.size) Go.undef, defers := [] } w := by
    refine ⟨fun n => if n = 0 then some l else none, T, ?_, rfl, ?_, hrow.kept hk0 (fun _ _ => rfl), hT, fun b hb => .inl hb, KeepBut.refl _ _, fun n hn => ?_, fun _ _ => rfl, Nat.le_refl _, hTl, fun h => absurd h (by show ¬ (1 = 0); omega)⟩
    · simp; omega
    · refine init_slots ?_ []
      exact hargs.kept hk0 (by simp)
    · have : n ≠ 0 := fun e => by subst e; exact absurd hn (by show ¬ (1 ≤ 0); omega)
      simp [this]
  refine wp_mono (hw _ w hst) ?_
  rintro e a' w' ⟨l9, s9, hq9, hs9⟩
  obtain ⟨⟨l', s', hsub9, hq⟩⟩ := hq9
  obtain ⟨N, T2, hr⟩ := hsub9 _ rfl _ _ hs9
  have fin : (match resV l' s' rvs with
      | some vs => mt 1 s'.1 (resOf vs) r fun H => hget H 0 = some cells' ∧ cells'.all (nonm 6) = true
      | none => False) → a'.defers = [] ∧ ∃ v, (results fd a'.tmps).run P w' = .ok v w' ∧ ∃ c F T', Ending.returned v = .returned c ∧ (F ++ T').Nodup ∧ (∀ b ∈ F ++ T', b ∈ T ∨ (w.heap.size ≤ b ∧ b < w'.heap.size)) ∧
      RV (fun n => if n = 0 then some l else none) (fun b => U b ∨ (w.heap.size ≤ b ∧ b < w'.heap.size ∧ b ∉ F ++ T')) w' r c F ∧
      RH (fun n => if n = 0 then some l else none) (fun b => U b ∨ (w.heap.size ≤ b ∧ b < w'.heap.size ∧ b ∉ F ++ T')) w' [(0, cells')] T' ∧ KeepBut T w w' := by
    intro hq
    split at hq
    · rename_i vs hvs
      obtain ⟨cs, e1, e2⟩ := resV_ok (P := P) hr.sl hr.hp _ _ _ h2 hvs
      obtain ⟨Fp, T', H', m1, m3, ⟨D, m2⟩, hg, hnm⟩ := mt_ok s'.1 T2 _ _ _ _ hq (resOf_ok e2) hr.hp
      obtain ⟨X, T1, d1, _, d3⟩ := m3.del hg
      have hN : N 0 = some l := by
        have := hr.nl 0 (by show 0 < 1; omega)
        simpa using this
      have hfun : (fun n => if n < 1 then N n else none) = fun n => if n = 0 then some l else none := by
        funext n
        by_cases e : n = 0
        · subst e; simp [hN]
        · have : ¬ n < 1 := by omega
          simp [e, this]
      rw [hfun] at m1
      have hX : ∀ x ∈ X, x ∈ T' := fun x hx => d3.mem_iff.2 (by simp [hx])
      have hsub : ∀ x ∈ Fp ++ X, x ∈ T2 := fun x hx => m2.mem_iff.1 (by
        rcases List.mem_append.1 hx with h | h
        · simp [h]
        · simp [hX x h])
      have hTlt := RH.lt hr.hp
      have hkk : Kept (fun n => if n = 0 then some l else none) (fun n => if n = 0 then some l else none) (Un w U w' T2) (fun b => U b ∨ (w.heap.size ≤ b ∧ b < w'.heap.size ∧ b ∉ Fp ++ X)) w' w' := ⟨fun b hbU => ⟨rfl, by
        obtain ⟨u1, u2, u3⟩ := hbU
        rcases u3 with u3 | u3
        · exact .inl u3
        · exact .inr ⟨u3, u1, fun hx => u2 (hsub b hx)⟩⟩, fun _ _ h => h, fun _ _ _ _ => SameAt.shape rfl⟩
      have hnd : (Fp ++ X).Nodup := by
        have p1 := m2.nodup_iff.2 hr.nd
        have p2 : (Fp ++ T').Nodup := (List.nodup_append.1 p1).1
        have p3 : (Fp ++ (X ++ T1)).Nodup := ((List.Perm.append_left Fp d3).nodup_iff).1 p2
        rw [← List.append_assoc] at p3
        exact (List.nodup_append.1 p3).1
      refine ⟨hr.dfr, _, results_run e1, _, Fp, X, rfl, hnd, fun b hb => ?_, m1.kept hkk (fun _ _ => rfl), ?_, hr.fr⟩
      · rcases hr.own b (hsub b hb) with h | h
        · exact .inl h
        · exact .inr ⟨h, hTlt b (hsub b hb)⟩
      · rcases d1 with ⟨q1, rfl, rfl⟩ | ⟨b, base, arr, e, cs, F, q1, q2, q3, q4, rfl⟩
        · rw [hN] at q1
          simp only [Option.some.injEq] at q1
          exact .consE 0 [] [] (by simp [q1]) .nil
        · rw [hN] at q1
          simp only [Option.some.injEq] at q1
          exact .cons 0 cells' b base arr e cs F [] [] _ (by simp [q1]) q2 q3 (q4.mapN fun v c G' hm hr' => (nonm_ok (fun b hb => (hkk.u b hb).2) 6 v c G' (List.all_eq_true.1 hnm v hm) hr')) .nil (by simp)
    · exact hq.elim
  cases e with
  | normal => exact fin hq
  | ret => exact fin hq
  | _ => exact hq.elim
end Go.Proofs.Ytkbgmkkboiihnaa
