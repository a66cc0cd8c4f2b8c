/- Evaluation: rules for simp that run a verification condition. -/
import Derived.Test.YtedampaecopkhaaAbsS
namespace Go.Proofs.Ytedampaecopkhaa
open Go Go.RowKit
set_option linter.unusedSimpArgs false

attribute [simp] tget hget hset hdel thenE blockE retE resV resOf mt mt1 mt2 mtL initT asI V.cell V.cells evBin evBinB evUn evBounds evApp srcOf lookp lookl setRange fillRange subT subH

@[simp] theorem put_some (l : Tm) (d : Nat) (v : V) : put l (some d) v = (d, v) :: l := (rfl)
@[simp] theorem put_none (l : Tm) (v : V) : put l none v = l := (rfl)
section ops
variable {Γ : Env} {e : Opd → V} {s : Hp} {H : List (Nat × List V)}
@[simp] theorem ev_t (t : Nat → V) (n : Nat) : Opd.ev t (.t n) = t n := (rfl)
@[simp] theorem ev_c (t : Nat → V) (v : V) : Opd.ev t (.c v) = v := (rfl)
@[simp] theorem opn_int (j : Nat) (k : IntKind) (n : Int) : opn (j + 1) (.int k n) s = (.int k n, s) := (rfl)
@[simp] theorem opn_bool (j : Nat) (b : Bool) : opn (j + 1) (.bool b) s = (.bool b, s) := (rfl)
@[simp] theorem opn_str (j : Nat) (b : ByteArray) : opn (j + 1) (.str b) s = (.str b, s) := (rfl)
@[simp] theorem opn_nil (j : Nat) : opn (j + 1) .nil s = (.nil, s) := (rfl)
@[simp] theorem opn_list (j sz : Nat) (c : List V) : opn (j + 1) (.list sz c) s = (.list sz c, s) := (rfl)
@[simp] theorem opn_own (j sz : Nat) (c : List V) : opn (j + 1) (.own sz c) s = (.sl s.2 sz 0 (c.length / sz), ((s.2, c) :: s.1, s.2 + 1)) := (rfl)
@[simp] theorem opn_sl (j n sz off len : Nat) : opn (j + 1) (.sl n sz off len) s = (.sl n sz off len, s) := (rfl)
@[simp] theorem opn_pt (j n off : Nat) : opn (j + 1) (.pt n off) s = (.pt n off, s) := (rfl)
@[simp] theorem opn_rp (j : Nat) (c : List V) : opn (j + 1) (.rp c) s = (.rp c, s) := (rfl)
@[simp] theorem opn_fn (j : Nat) (f : FuncId) (c : List V) : opn (j + 1) (.fn f c) s = (.fn f c, s) := (rfl)
@[simp] theorem opn_undef (j : Nat) : opn (j + 1) .undef s = (.undef, s) := (rfl)
@[simp] theorem opn_agg (j : Nat) (c : List V) : opn (j + 1) (.agg c) s = (.agg (opnL (opn j) c s).1, (opnL (opn j) c s).2) := (rfl)
@[simp] theorem opn_tup (j : Nat) (c : List V) : opn (j + 1) (.tup c) s = (.tup (opnL (opn j) c s).1, (opnL (opn j) c s).2) := (rfl)
@[simp] theorem opnL_nil (f : V → Hp → V × Hp) : opnL f [] s = ([], s) := (rfl)
@[simp] theorem opnL_cons (f : V → Hp → V × Hp) (v : V) (vs : List V) : opnL f (v :: vs) s = ((f v s).1 :: (opnL f vs (f v s).2).1, (opnL f vs (f v s).2).2) := (rfl)

@[simp] theorem fz_int (j : Nat) (k : IntKind) (n : Int) : fz (j + 1) (.int k n) = .int k n := (rfl)
@[simp] theorem fz_bool (j : Nat) (b : Bool) : fz (j + 1) (.bool b) = .bool b := (rfl)
@[simp] theorem fz_str (j : Nat) (b : ByteArray) : fz (j + 1) (.str b) = .str b := (rfl)
@[simp] theorem fz_nil (j : Nat) : fz (j + 1) .nil = .nil := (rfl)
@[simp] theorem fz_list (j sz : Nat) (c : List V) : fz (j + 1) (.list sz c) = .list sz c := (rfl)
@[simp] theorem fz_own (j sz : Nat) (c : List V) : fz (j + 1) (.own sz c) = .list sz (c.map (fz j)) := (rfl)
@[simp] theorem fz_sl (j n sz off len : Nat) : fz (j + 1) (.sl n sz off len) = .sl n sz off len := (rfl)
@[simp] theorem fz_pt (j n off : Nat) : fz (j + 1) (.pt n off) = .pt n off := (rfl)
@[simp] theorem fz_rp (j : Nat) (c : List V) : fz (j + 1) (.rp c) = .rp c := (rfl)
@[simp] theorem fz_fn (j : Nat) (f : FuncId) (c : List V) : fz (j + 1) (.fn f c) = .fn f c := (rfl)
@[simp] theorem fz_agg (j : Nat) (c : List V) : fz (j + 1) (.agg c) = .agg (c.map (fz j)) := (rfl)
@[simp] theorem fz_tup (j : Nat) (c : List V) : fz (j + 1) (.tup c) = .tup (c.map (fz j)) := (rfl)

@[simp] theorem dr_int (j : Nat) (k : IntKind) (n : Int) : dr H (j + 1) (.int k n) = .int k n := (rfl)
@[simp] theorem dr_bool (j : Nat) (b : Bool) : dr H (j + 1) (.bool b) = .bool b := (rfl)
@[simp] theorem dr_str (j : Nat) (b : ByteArray) : dr H (j + 1) (.str b) = .str b := (rfl)
@[simp] theorem dr_nil (j : Nat) : dr H (j + 1) .nil = .list 1 [] := (rfl)
@[simp] theorem dr_list (j sz : Nat) (c : List V) : dr H (j + 1) (.list sz c) = .list sz (c.map (dr H j)) := (rfl)
@[simp] theorem dr_own (j sz : Nat) (c : List V) : dr H (j + 1) (.own sz c) = .list sz (c.map (dr H j)) := (rfl)
@[simp] theorem dr_rp (j : Nat) (c : List V) : dr H (j + 1) (.rp c) = .rp (c.map (dr H j)) := (rfl)
@[simp] theorem dr_fn (j : Nat) (f : FuncId) (c : List V) : dr H (j + 1) (.fn f c) = .fn f (c.map (dr H j)) := (rfl)
@[simp] theorem dr_agg (j : Nat) (c : List V) : dr H (j + 1) (.agg c) = .agg (c.map (dr H j)) := (rfl)
@[simp] theorem dr_sl (j n sz off len : Nat) : dr H (j + 1) (.sl n sz off len) = match hget H n with
    | some cells => if off + len * sz ≤ cells.length then .list sz (((cells.drop off).take (len * sz)).map (dr H j)) else .undef
    | none => .undef := (rfl)
@[simp] theorem dr_pt (j n off : Nat) : dr H (j + 1) (.pt n off) = match hget H n with
    | some cells => .rp ((cells.drop off).map (dr H j))
    | none => .undef := (rfl)

@[simp] theorem nl_int (j : Nat) (k : IntKind) (n : Int) : nolist (j + 1) (.int k n) = true := (rfl)
@[simp] theorem nl_bool (j : Nat) (b : Bool) : nolist (j + 1) (.bool b) = true := (rfl)
@[simp] theorem nl_str (j : Nat) (b : ByteArray) : nolist (j + 1) (.str b) = true := (rfl)
@[simp] theorem nl_nil (j : Nat) : nolist (j + 1) .nil = true := (rfl)
@[simp] theorem nl_list (j sz : Nat) (c : List V) : nolist (j + 1) (.list sz c) = false := (rfl)
@[simp] theorem nl_own (j sz : Nat) (c : List V) : nolist (j + 1) (.own sz c) = c.all (nolist j) := (rfl)
@[simp] theorem nl_rp (j : Nat) (c : List V) : nolist (j + 1) (.rp c) = false := (rfl)
@[simp] theorem nl_fn (j : Nat) (f : FuncId) (c : List V) : nolist (j + 1) (.fn f c) = false := (rfl)
@[simp] theorem nl_agg (j : Nat) (c : List V) : nolist (j + 1) (.agg c) = c.all (nolist j) := (rfl)
@[simp] theorem nl_tup (j : Nat) (c : List V) : nolist (j + 1) (.tup c) = c.all (nolist j) := (rfl)
@[simp] theorem nn_int (j : Nat) (k : IntKind) (n : Int) : noname (j + 1) (.int k n) = true := (rfl)
@[simp] theorem nn_bool (j : Nat) (b : Bool) : noname (j + 1) (.bool b) = true := (rfl)
@[simp] theorem nn_str (j : Nat) (b : ByteArray) : noname (j + 1) (.str b) = true := (rfl)
@[simp] theorem nn_nil (j : Nat) : noname (j + 1) .nil = true := (rfl)
@[simp] theorem nn_list (j sz : Nat) (c : List V) : noname (j + 1) (.list sz c) = c.all (noname j) := (rfl)
@[simp] theorem nn_own (j sz : Nat) (c : List V) : noname (j + 1) (.own sz c) = false := (rfl)
@[simp] theorem nn_sl (j n sz off len : Nat) : noname (j + 1) (.sl n sz off len) = false := (rfl)
@[simp] theorem nn_pt (j n off : Nat) : noname (j + 1) (.pt n off) = false := (rfl)
@[simp] theorem nn_rp (j : Nat) (c : List V) : noname (j + 1) (.rp c) = c.all (noname j) := (rfl)
@[simp] theorem nn_fn (j : Nat) (f : FuncId) (c : List V) : noname (j + 1) (.fn f c) = c.all (noname j) := (rfl)
@[simp] theorem nn_agg (j : Nat) (c : List V) : noname (j + 1) (.agg c) = c.all (noname j) := (rfl)
@[simp] theorem nn_tup (j : Nat) (c : List V) : noname (j + 1) (.tup c) = c.all (noname j) := (rfl)
@[simp] theorem nm_int (j : Nat) (k : IntKind) (n : Int) : nonm (j + 1) (.int k n) = true := (rfl)
@[simp] theorem nm_bool (j : Nat) (b : Bool) : nonm (j + 1) (.bool b) = true := (rfl)
@[simp] theorem nm_str (j : Nat) (b : ByteArray) : nonm (j + 1) (.str b) = true := (rfl)
@[simp] theorem nm_nil (j : Nat) : nonm (j + 1) .nil = true := (rfl)
@[simp] theorem nm_undef (j : Nat) : nonm (j + 1) .undef = true := (rfl)
@[simp] theorem nm_list (j sz : Nat) (c : List V) : nonm (j + 1) (.list sz c) = c.all (nonm j) := (rfl)
@[simp] theorem nm_own (j sz : Nat) (c : List V) : nonm (j + 1) (.own sz c) = c.all (nonm j) := (rfl)
@[simp] theorem nm_sl (j n sz off len : Nat) : nonm (j + 1) (.sl n sz off len) = false := (rfl)
@[simp] theorem nm_pt (j n off : Nat) : nonm (j + 1) (.pt n off) = false := (rfl)
@[simp] theorem nm_rp (j : Nat) (c : List V) : nonm (j + 1) (.rp c) = c.all (nonm j) := (rfl)
@[simp] theorem nm_fn (j : Nat) (f : FuncId) (c : List V) : nonm (j + 1) (.fn f c) = c.all (nonm j) := (rfl)
@[simp] theorem nm_agg (j : Nat) (c : List V) : nonm (j + 1) (.agg c) = c.all (nonm j) := (rfl)
@[simp] theorem nm_tup (j : Nat) (c : List V) : nonm (j + 1) (.tup c) = c.all (nonm j) := (rfl)

/-- From a quiet operation to one of all. -/
def up (s : Hp) : Option (Bool × V) → Option (Bool × V × Hp)
  | some (b, v) => some (b, opn 6 v s)
  | none => none
@[simp] theorem up_some (b : Bool) (v : V) : up s (some (b, v)) = some (b, opn 6 v s) := (rfl)
@[simp] theorem up_none : up s none = none := (rfl)

@[simp] theorem h_mov (x : Opd) : evH Γ e s (.mov x) = some (true, opn 6 (e x) s) := (rfl)
@[simp] theorem h_pick (c a b : Opd) : evH Γ e s (.pick c a b) = up s (evQ Γ s.1 e (.pick c a b)) := (rfl)
@[simp] theorem h_ld (n : Option Nat) (d : V) (x : Opd) : evH Γ e s (.ld n d x) = up s (evQ Γ s.1 e (.ld n d x)) := (rfl)
@[simp] theorem h_bin (t : Bool) (op : BinOp) (x y : Opd) : evH Γ e s (.bin t op x y) = up s (evQ Γ s.1 e (.bin t op x y)) := (rfl)
@[simp] theorem h_un (op : UnOp) (x : Opd) : evH Γ e s (.un op x) = up s (evUn op (e x)) := (rfl)
@[simp] theorem h_conv (k : IntKind) (x : Opd) : evH Γ e s (.conv k x) = up s (evQ Γ s.1 e (.conv k x)) := (rfl)
@[simp] theorem h_sli (sz : Nat) (x : Opd) (lo hi mx : Option Opd) : evH Γ e s (.sli sz x lo hi mx) = up s (evQ Γ s.1 e (.sli sz x lo hi mx)) := (rfl)
@[simp] theorem h_slis (x : Opd) (lo hi : Option Opd) : evH Γ e s (.slis x lo hi) = up s (evQ Γ s.1 e (.slis x lo hi)) := (rfl)
@[simp] theorem h_fad (o : Nat) (x : Opd) : evH Γ e s (.fad o x) = up s (evQ Γ s.1 e (.fad o x)) := (rfl)
@[simp] theorem h_fld (n : Option Nat) (o : Nat) (x : Opd) : evH Γ e s (.fld n o x) = up s (evQ Γ s.1 e (.fld n o x)) := (rfl)
@[simp] theorem h_idx (sz : Nat) (x i : Opd) : evH Γ e s (.idx sz x i) = up s (evQ Γ s.1 e (.idx sz x i)) := (rfl)
@[simp] theorem h_idxa (n sz : Nat) (x i : Opd) : evH Γ e s (.idxa n sz x i) = up s (evQ Γ s.1 e (.idxa n sz x i)) := (rfl)
@[simp] theorem h_ixs (x i : Opd) : evH Γ e s (.ixs x i) = up s (evQ Γ s.1 e (.ixs x i)) := (rfl)
@[simp] theorem h_ext (i : Nat) (x : Opd) : evH Γ e s (.ext i x) = up s (evQ Γ s.1 e (.ext i x)) := (rfl)
@[simp] theorem h_len (x : Opd) : evH Γ e s (.len x) = up s (evQ Γ s.1 e (.len x)) := (rfl)
@[simp] theorem h_lens (x : Opd) : evH Γ e s (.lens x) = up s (evQ Γ s.1 e (.lens x)) := (rfl)
@[simp] theorem h_callv (x : Opd) (args : List Opd) : evH Γ e s (.callv x args) = up s (evQ Γ s.1 e (.callv x args)) := (rfl)
@[simp] theorem h_fn (f : FuncId) (caps : List Opd) : evH Γ e s (.fn f caps) = some (true, opn 6 (.fn f (caps.map e)) s) := (rfl)
@[simp] theorem h_nck (x : Opd) : evH Γ e s (.nck x) = up s (evQ Γ s.1 e (.nck x)) := (rfl)
@[simp] theorem h_agg (z : List V) (ps : List (Nat × Nat × Opd)) : evH Γ e s (.agg z ps) = up s (evQ Γ s.1 e (.agg z ps)) := (rfl)
@[simp] theorem h_new (z : List V) : evH Γ e s (.new z) = some (true, .pt s.2 0, ((s.2, z) :: s.1, s.2 + 1)) := (rfl)
@[simp] theorem h_box (x : Opd) : evH Γ e s (.box x) = some (((e x).cells.all V.cell), .pt s.2 0, ((s.2, (e x).cells) :: s.1, s.2 + 1)) := (rfl)
@[simp] theorem h_mks (len sz : Nat) (zero : List V) (parts : List (Nat × Nat × Opd)) : evH Γ e s (.mks len sz zero parts) = match fillRange zero (parts.map fun (o, n, x) => (o, n, e x)) with
    | some cells => some (true, .sl s.2 sz 0 len, ((s.2, cells) :: s.1, s.2 + 1))
    | none => none := (rfl)
@[simp] theorem h_mk (sz bytes : Nat) (zero : List V) (len cap : Opd) : evH Γ e s (.mk sz bytes zero len cap) = match asI (e len), asI (e cap) with
    | some l, some c => some (decide (0 ≤ l) && decide (l ≤ c) && decide (bytes * c ≤ 281474976710656) && decide (c ≤ 9223372036854775807), .sl s.2 sz 0 l.toNat,
        ((s.2, (List.replicate c.toNat zero).flatten) :: s.1, s.2 + 1))
    | _, _ => none := (rfl)
@[simp] theorem h_st (n : Nat) (x v : Opd) : evH Γ e s (.st n x v) = match e x with
    | .pt nm off => match hget s.1 nm with
      | some cells => some (decide (off + n ≤ cells.length) && decide ((e v).cells.length = n) && (e v).cells.all V.cell, .tup [],
          (hset s.1 nm (setRange cells off (e v).cells), s.2))
      | none => none
    | _ => none := (rfl)
@[simp] theorem h_app (sz bytes : Nat) (a x : Opd) : evH Γ e s (.app sz bytes a x) = match srcOf s.1 sz (e x) with
    | none => none
    | some news => evApp sz bytes news s (e a) := (rfl)
@[simp] theorem h_call (f : FuncId) (args : List Opd) : evH Γ e s (.call f args) = match lookl Γ.l f with
    | some (i, G) => match (args[i]?).map e with
      | some (.sl n sz off len) => match hget s.1 n with
        | some cells => match G ((args.map fun x => dr (hdel s.1 n) 6 (e x)).set i (.sl 0 sz off len)) cells with
          | some (r, cells') => some (nolist 6 r && cells.all (nonm 6) && cells'.all (nonm 6) && (cells'.all (nolist 6) || (args.eraseIdx i).all fun x => noname 6 (e x)), opn 6 (ren0 n 6 r) (hset s.1 n cells', s.2))
          | none => none
        | none => none
      | some (.pt n off) => match hget s.1 n with
        | some cells => match G ((args.map fun x => dr (hdel s.1 n) 6 (e x)).set i (.pt 0 off)) cells with
          | some (r, cells') => some (nolist 6 r && cells.all (nonm 6) && cells'.all (nonm 6) && (cells'.all (nolist 6) || (args.eraseIdx i).all fun x => noname 6 (e x)), opn 6 (ren0 n 6 r) (hset s.1 n cells', s.2))
          | none => none
        | none => none
      | some (.agg [.int q m, .sl n sz off len]) => match hget s.1 n with
        | some cells => match G ((args.map fun x => dr (hdel s.1 n) 6 (e x)).set i (.agg [.int q m, .sl 0 sz off len])) cells with
          | some (r, cells') => some (nolist 6 r && cells.all (nonm 6) && cells'.all (nonm 6) && (cells'.all (nolist 6) || (args.eraseIdx i).all fun x => noname 6 (e x)), opn 6 (ren0 n 6 r) (hset s.1 n cells', s.2))
          | none => none
        | none => none
      | _ => none
    | none => up s (evQ Γ s.1 e (.call f args)) := (rfl)

@[simp] theorem o_nil (l : Tm) (K : Tm → Hp → Prop) : vcOps Γ [] l s K = K l s := (rfl)
@[simp] theorem o_cons (d : Option Nat) (o : SO) (r : List GO) (l : Tm) (K : Tm → Hp → Prop) : vcOps Γ (⟨d, none, o⟩ :: r) l s K = match evH Γ (Opd.ev (tget l)) s o with
    | some (b, v, s') => b = true ∧ vcOps Γ r (put l d v) s' K
    | none => False := (rfl)
theorem guard_eq {A B : Prop} (b w : Bool) : ((b = w → A) ∧ (b = !w → B)) = (if b = w then A else B) := by
  cases b <;> cases w <;> simp
@[simp] theorem ite_conj (p A B : Prop) [Decidable p] : (if p then A else B) = ((p → A) ∧ (¬p → B)) := by
  by_cases h : p <;> simp [h]
@[simp] theorem o_guard (d : Option Nat) (g : Nat) (want : Bool) (o : SO) (r : List GO) (l : Tm) (K : Tm → Hp → Prop) : vcOps Γ (⟨d, some (g, want), o⟩ :: r) l s K = match tget l g with
    | .bool b =>
      if b = want then (match evH Γ (Opd.ev (tget ((g, .bool want) :: l))) s o with
        | some (b, v, s') => b = true ∧ vcOps Γ r (put ((g, .bool want) :: l) d v) s' K
        | none => False)
      else vcOps Γ r (put ((g, .bool (!want)) :: l) d (.tup [])) s K
    | .tup _ => vcOps Γ r (put l d (.tup [])) s K
    | _ => False := by
  simp only [← guard_eq]
  rfl
@[simp] theorem d_nil (l : Tm) (K : Tm → Hp → Prop) : vcD Γ [] l s K = K l s := (rfl)
@[simp] theorem d_cons (d : Option Nat) (o : SO) (r : List DI) (l : Tm) (K : Tm → Hp → Prop) : vcD Γ (⟨⟨d, none, o⟩, false, false⟩ :: r) l s K = match evQ Γ s.1 (Opd.ev (tget l)) o with
    | some (b, v) => b = true ∧ vcD Γ r (put l d (fz 6 v)) s K
    | none => False := by
  simp only [vcD]
  cases h : evQ Γ s.1 (Opd.ev (tget l)) o <;> simp [h]
@[simp] theorem d_free (d : Option Nat) (o : SO) (r : List DI) (l : Tm) (K : Tm → Hp → Prop) : vcD Γ (⟨⟨d, none, o⟩, false, true⟩ :: r) l s K = match evQ Γ [] (Opd.ev (tget l)) o with
    | some (b, v) => b = true ∧ freeOk (Opd.ev (tget l)) o = true ∧ vcD Γ r (put l d (fz 6 v)) s K
    | none => False := by
  simp only [vcD]
  cases h : evQ Γ [] (Opd.ev (tget l)) o <;> simp [h]
@[simp] theorem d_loud (d : Option Nat) (fr : Bool) (o : SO) (r : List DI) (l : Tm) (K : Tm → Hp → Prop) : vcD Γ (⟨⟨d, none, o⟩, true, fr⟩ :: r) l s K = match evH Γ (Opd.ev (tget l)) s o with
    | some (b, v, s') => b = true ∧ vcD Γ r (put l d v) s' K
    | none => False := by
  simp only [vcD]
  cases h : evH Γ (Opd.ev (tget l)) s o <;> simp [h]
@[simp] theorem d_guard (d : Option Nat) (g : Nat) (want : Bool) (o : SO) (ld fr : Bool) (r : List DI) (l : Tm) (K : Tm → Hp → Prop) : vcD Γ (⟨⟨d, some (g, want), o⟩, ld, fr⟩ :: r) l s K = match tget l g with
    | .bool b => if b = want then vcD Γ (⟨⟨d, none, o⟩, ld, fr⟩ :: r) ((g, .bool want) :: l) s K else vcD Γ r (put ((g, .bool (!want)) :: l) d (.tup [])) s K
    | .tup _ => vcD Γ r (put l d (.tup [])) s K
    | _ => False := by
  simp only [← guard_eq]
  rfl
end ops

/-- A loop, not to be unfolded. -/
structure LoopI (C : Ctx) (lends : List FuncId) (sc : SC) (Q : Post) (l : Tm) (s : Hp) : Prop where
  h : LoopOk C lends sc Q l s
section code
variable {C : Ctx} {Γ : Env} {lends : List FuncId} {Q : Post} {l : Tm} {s : Hp}
@[simp] theorem vc_skip : vc C Γ lends .skip Q l s = Q .normal l s := (rfl)
@[simp] theorem vc_reg (ops : List GO) : vc C Γ lends (.reg ops) Q l s = vcOps Γ ops l s (Q .normal) := (rfl)
@[simp] theorem vc_dreg (ops : List DI) : vc C Γ lends (.dreg ops) Q l s = vcD Γ ops l s (Q .normal) := (rfl)
@[simp] theorem vc_seq (a b : SC) : vc C Γ lends (.seq a b) Q l s = vc C Γ lends a (thenE (vc C Γ lends b Q) Q) l s := (rfl)
@[simp] theorem vc_cond (c : Opd) (a b : SC) : vc C Γ lends (.cond c a b) Q l s = match c.ev (tget l) with
    | .bool t => if t = true then vc C Γ lends a Q l s else vc C Γ lends b Q l s
    | _ => False := by
  simp only [← guard_eq, Bool.not_true]
  rfl
@[simp] theorem vc_block (id : Nat) (c : SC) : vc C Γ lends (.block id c) Q l s = vc C Γ lends c (blockE id Q) l s := (rfl)
@[simp] theorem vc_loop (c : SC) : vc C Γ lends (.loop c) Q l s = LoopI C lends c Q l s := propext ⟨fun h => ⟨h⟩, fun h => h.h⟩
@[simp] theorem vc_exit (id : Nat) : vc C Γ lends (.exit id) Q l s = Q (.exit id) l s := (rfl)
@[simp] theorem vc_ret : vc C Γ lends .ret Q l s = Q .ret l s := (rfl)
end code

section quiet
variable {Γ : Env} {H : List (Nat × List V)} {e : Opd → V}
@[simp] theorem q_mov (x : Opd) : evQ Γ H e (.mov x) = some (true, e x) := (rfl)
@[simp] theorem q_pick (c a b : Opd) : evQ Γ H e (.pick c a b) = match e c with
    | .bool true => some (true, e a)
    | .bool false => some (true, e b)
    | _ => none := (rfl)
@[simp] theorem q_ld (d : V) (x : Opd) : evQ Γ H e (.ld none d x) = match e x with
    | .pt n off => match hget H n with
      | some cells => some (decide (off < cells.length) && (cells.getD off d).cell, cells.getD off d)
      | none => none
    | .rp cells => some (decide (0 < cells.length), cells.getD 0 d)
    | _ => none := (rfl)
@[simp] theorem q_ldn (k : Nat) (d : V) (x : Opd) : evQ Γ H e (.ld (some k) d x) = match e x with
    | .pt n off => match hget H n with
      | some cells => some (decide (off + k ≤ cells.length) && ((cells.drop off).take k).all V.cell, .agg ((cells.drop off).take k))
      | none => none
    | .rp cells => some (decide (k ≤ cells.length), .agg (cells.take k))
    | _ => none := (rfl)
@[simp] theorem q_bin (op : BinOp) (x y : Opd) : evQ Γ H e (.bin false op x y) = evBin op (e x) (e y) := (rfl)
@[simp] theorem q_binb (op : BinOp) (x y : Opd) : evQ Γ H e (.bin true op x y) = evBinB op (e x) (e y) := (rfl)
@[simp] theorem q_un (op : UnOp) (x : Opd) : evQ Γ H e (.un op x) = evUn op (e x) := (rfl)
@[simp] theorem q_conv (k : IntKind) (x : Opd) : evQ Γ H e (.conv k x) = match e x with
    | .int _ n => some (true, .int k (k.wrap n))
    | _ => none := (rfl)
@[simp] theorem q_sli (sz : Nat) (x : Opd) (lo hi mx : Option Opd) : evQ Γ H e (.sli sz x lo hi mx) = match e x with
    | .list sz' cells => match evBounds (cells.length / sz) e lo hi mx with
      | some (b, l, h) => some (b && decide (sz = sz'), .list sz ((cells.drop (l.toNat * sz)).take ((h - l).toNat * sz)))
      | none => none
    | .sl n sz' off len => match evBounds len e lo hi mx with
      | some (b, l, h) => some (b && decide (sz = sz'), .sl n sz (off + l.toNat * sz) (h - l).toNat)
      | none => none
    | .nil => match evBounds 0 e lo hi mx with
      | some (b, _, _) => some (b && mx.isNone, .nil)
      | none => none
    | _ => none := (rfl)
@[simp] theorem q_fad (off : Nat) (x : Opd) : evQ Γ H e (.fad off x) = match e x with
    | .pt n o => some (true, .pt n (o + off))
    | .rp cells => some (true, .rp (cells.drop off))
    | _ => none := (rfl)
@[simp] theorem q_fld (off : Nat) (x : Opd) : evQ Γ H e (.fld none off x) = match e x with
    | .agg parts => some (decide (off < parts.length), parts.getD off .undef)
    | _ => none := (rfl)
@[simp] theorem q_fldn (k off : Nat) (x : Opd) : evQ Γ H e (.fld (some k) off x) = match e x with
    | .agg parts => some (decide (off + k ≤ parts.length), .agg ((parts.drop off).take k))
    | _ => none := (rfl)
@[simp] theorem q_idx (sz : Nat) (x i : Opd) : evQ Γ H e (.idx sz x i) = match e x, asI (e i) with
    | .sl n sz' off len, some i => some (decide (sz = sz') && decide (0 ≤ i) && decide (i < len), .pt n (off + i.toNat * sz))
    | .list sz' cells, some i => some (decide (sz = sz') && decide (0 ≤ i) && decide (i < ((cells.length / sz : Nat) : Int)), .rp (cells.drop (i.toNat * sz)))
    | _, _ => none := (rfl)
@[simp] theorem q_idxa (len sz : Nat) (x i : Opd) : evQ Γ H e (.idxa len sz x i) = match e x, asI (e i) with
    | .pt n off, some i => some (decide (0 ≤ i) && decide (i < len), .pt n (off + i.toNat * sz))
    | _, _ => none := (rfl)
@[simp] theorem q_ext (i : Nat) (x : Opd) : evQ Γ H e (.ext i x) = match e x with
    | .tup vs => some (decide (i < vs.length), vs.getD i .undef)
    | _ => none := (rfl)
@[simp] theorem q_len (x : Opd) : evQ Γ H e (.len x) = match e x with
    | .list sz cells => some (true, .int .i64 ((cells.length / sz : Nat) : Int))
    | .sl _ _ _ len => some (true, .int .i64 (len : Int))
    | .nil => some (true, .int .i64 0)
    | _ => none := (rfl)
@[simp] theorem q_lens (x : Opd) : evQ Γ H e (.lens x) = match e x with
    | .str s => some (true, .int .i64 (s.size : Int))
    | _ => none := (rfl)
@[simp] theorem q_call (f : FuncId) (args : List Opd) : evQ Γ H e (.call f args) = match lookp Γ.p f with
    | some F => match F (args.map fun x => dr H 6 (e x)) with
      | some r => some (nolist 6 r || args.all fun x => noname 6 (e x), r)
      | none => none
    | none => none := (rfl)
@[simp] theorem q_callv (x : Opd) (args : List Opd) : evQ Γ H e (.callv x args) = match e x with
    | .fn f caps => match lookp Γ.p f with
      | some F => match F ((args.map fun x => dr H 6 (e x)) ++ caps.map (dr H 6)) with
        | some r => some (nolist 6 r, r)
        | none => none
      | none => none
    | _ => none := (rfl)
@[simp] theorem q_fn (f : FuncId) (caps : List Opd) : evQ Γ H e (.fn f caps) = some (true, .fn f (caps.map e)) := (rfl)
@[simp] theorem q_nck (x : Opd) : evQ Γ H e (.nck x) = match e x with
    | .pt n off => some (true, .pt n off)
    | .rp cells => some (true, .rp cells)
    | _ => none := (rfl)
@[simp] theorem q_agg (zero : List V) (parts : List (Nat × Nat × Opd)) : evQ Γ H e (.agg zero parts) = match fillRange zero (parts.map fun (o, s, x) => (o, s, e x)) with
    | some cells => some (true, .agg cells)
    | none => none := (rfl)
end quiet

/-- Slots are forgotten, the rows stay. -/
def subE (l : Tm) : Tm → Prop
  | [] => True
  | (i, v) :: r => v = tget l i ∧ subE l r
@[simp] theorem subE_nil (l : Tm) : subE l [] = True := (rfl)
@[simp] theorem subE_cons (l : Tm) (i : Nat) (v : V) (r : Tm) : subE l ((i, v) :: r) = (v = tget l i ∧ subE l r) := (rfl)
theorem subE_get {l : Tm} : ∀ {l' : Tm}, subE l l' → ∀ i, tget l' i = .undef ∨ tget l' i = tget l i := by
  intro l'
  induction l' with
  | nil => intro _ i; exact .inl rfl
  | cons p r ih =>
    intro h i
    obtain ⟨j, v⟩ := p
    simp only [tget]
    split
    · rename_i e
      subst e
      exact .inr h.1
    · exact ih h.2 i
/-- One state serves for another; not to be unfolded. -/
structure SubI (k0 : Nat) (l : Tm) (s : Hp) (l' : Tm) (s' : Hp) : Prop where
  h : Sub k0 l s l' s'
theorem SubI.slots {k0 : Nat} {l l' : Tm} {s s' : Hp} (hs : s' = s) (h : subE l l') : SubI k0 l s l' s' := by
  subst hs
  refine ⟨?_⟩
  intro C _ a w hst
  obtain ⟨N, T, hr⟩ := hst
  refine ⟨N, T, hr.tsz, hr.dfr, ?_, hr.hp, hr.nd, hr.own, hr.fr, hr.nx, hr.nl, hr.kn, hr.lh⟩
  intro i
  rcases subE_get h i with e | e
  · rw [e]; exact .undef _
  · rw [e]; exact hr.sl i

theorem SubI.ren {k0 : Nat} (r : Nat → Option Nat) {l l' : Tm} {s s' : Hp} (hT : subT r l l') (hH : subH r s.1 s'.1) (hn : ∀ n, s'.2 ≤ n → r n = none) (hk : ∀ n, n < k0 → r n = some n) (hk2 : k0 ≤ s'.2) : SubI k0 l s l' s' := ⟨Sub.ren r hT hH hn hk hk2⟩
theorem SubI.trans {k0 : Nat} {l1 l2 l3 : Tm} {s1 s2 s3 : Hp} (h : SubI k0 l1 s1 l2 s2) (k : SubI k0 l2 s2 l3 s3) : SubI k0 l1 s1 l3 s3 := ⟨h.h.trans k.h⟩
section
variable {C : Ctx}
theorem LoopI.sub {lends : List FuncId} {sc : SC} {Q : Post} {l l' : Tm} {s s' : Hp} (hs : SubI C.k0 l s l' s') (h : LoopI C lends sc Q l' s') : LoopI C lends sc Q l s := ⟨h.h.sub hs.h⟩
theorem LoopI.post {lends : List FuncId} {sc : SC} {Q Q' : Post} {l : Tm} {s : Hp} (h : LoopI C lends sc Q' l s) (hq : ∀ e l s, Q' e l s → ∃ l1 s1, SubI C.k0 l s l1 s1 ∧ Q e l1 s1) : LoopI C lends sc Q l s := by
  refine ⟨?_⟩
  intro c hc a w hst
  refine wp_mono (h.h c hc a w hst) ?_
  rintro e a' w' ⟨l', s', h1, h2⟩
  obtain ⟨l1, s1, h3, h4⟩ := hq e l' s' h1
  exact ⟨l1, s1, h4, h3.h C rfl a' w' h2⟩
/-- A condition whose states may forget slots. -/
structure SubQ (k0 : Nat) (Q : Post) (e : Exit) (l : Tm) (s : Hp) : Prop where
  h : ∃ l1 s1, SubI k0 l s l1 s1 ∧ Q e l1 s1
theorem SubQ.of {k0 : Nat} {Q : Post} {e : Exit} {l l1 : Tm} {s s1 : Hp} (h : SubI k0 l s l1 s1) (hq : Q e l1 s1) : SubQ k0 Q e l s := ⟨⟨l1, s1, h, hq⟩⟩
/-- Back at the head of the loop. -/
structure Again {σ : Type} (k0 : Nat) (T : σ → Tm) (H : σ → Hp) (inv : σ → Prop) (m : σ → Nat) (x : σ) (l : Tm) (s : Hp) : Prop where
  h : ∃ x', inv x' ∧ m x' < m x ∧ SubI k0 l s (T x') (H x')
theorem Again.of {σ : Type} {k0 : Nat} {T : σ → Tm} {H : σ → Hp} {inv : σ → Prop} {m : σ → Nat} {x : σ} {l : Tm} {s : Hp} (x' : σ) (h1 : inv x') (h2 : m x' < m x) (h3 : SubI k0 l s (T x') (H x')) : Again k0 T H inv m x l s := ⟨⟨x', h1, h2, h3⟩⟩
theorem loopI {Γ : Env} (hΓ : EnvOk C.P Γ) (hm : C.P.follows .mixedOrders = true) {lends : List FuncId} {sc : SC} {Q : Post} {l : Tm} {s : Hp} {σ : Type} (T : σ → Tm) (H : σ → Hp) (inv : σ → Prop) (m : σ → Nat) (x0 : σ) (hi : inv x0)
    (h0 : SubI C.k0 l s (T x0) (H x0)) (round : ∀ x, inv x → vc C Γ lends sc (thenE (Again C.k0 T H inv m x) Q) (T x) (H x)) : LoopI C lends sc Q l s := by
  refine ⟨loop_ok hΓ hm T H inv m x0 hi h0.h ?_⟩
  intro x hx
  have e : (thenE (fun l' s' => ∃ x', inv x' ∧ m x' < m x ∧ Sub C.k0 l' s' (T x') (H x')) Q) = thenE (Again C.k0 T H inv m x) Q := by
    funext ex l s
    cases ex
    case normal => exact propext ⟨fun ⟨x', a, b, c⟩ => ⟨⟨x', a, b, ⟨c⟩⟩⟩, fun ⟨x', a, b, c⟩ => ⟨x', a, b, c.h⟩⟩
    all_goals rfl
  rw [e]
  exact round x hx
theorem loopQ {Γ : Env} (hΓ : EnvOk C.P Γ) (hm : C.P.follows .mixedOrders = true) {lends : List FuncId} {sc : SC} {Q : Post} {l : Tm} {s : Hp} {σ : Type} (T : σ → Tm) (H : σ → Hp) (inv : σ → Prop) (m : σ → Nat) (x0 : σ) (hi : inv x0)
    (h0 : SubI C.k0 l s (T x0) (H x0)) (round : ∀ x, inv x → vc C Γ lends sc (thenE (Again C.k0 T H inv m x) (SubQ C.k0 Q)) (T x) (H x)) : LoopI C lends sc Q l s :=
  (loopI hΓ hm T H inv m x0 hi h0 round).post fun _ _ _ h => h.h
end
end Go.Proofs.Ytedampaecopkhaa
