/- Operations that leave all rows as they are: what the model's run gives. -/
import Derived.Test.YtedampaecopkhaaAbsC
import Derived.Laws.Small
import Derived.Laws.Cells
import Derived.Laws.Slices
import Derived.Laws.Shifts
namespace Go.Proofs.Ytedampaecopkhaa
open Go Go.RowKit

section basic
variable {N : Nm} {U : Nat → Prop} {w : World}
theorem RV.int_inv {k : IntKind} {n : Int} {c : Value} {F : List Nat} (h : RV N U w (.int k n) c F) : c = .int k n ∧ F = [] := by cases h; exact ⟨rfl, rfl⟩
theorem RV.bool_inv {b : Bool} {c : Value} {F : List Nat} (h : RV N U w (.bool b) c F) : c = .bool b ∧ F = [] := by cases h; exact ⟨rfl, rfl⟩
theorem RV.str_inv {b : ByteArray} {c : Value} {F : List Nat} (h : RV N U w (.str b) c F) : c = .string b ∧ F = [] := by cases h; exact ⟨rfl, rfl⟩
theorem RV.nil_inv {c : Value} {F : List Nat} (h : RV N U w .nil c F) : c = .slice none 0 0 ∧ F = [] := by cases h; exact ⟨rfl, rfl⟩
theorem RV.cell_nil {v : V} {c : Value} {F : List Nat} (h : RV N U w v c F) (hv : v.cell = true) : F = [] ∧ c.oneCell' = true := by
  cases h <;> first
    | exact ⟨rfl, rfl⟩
    | simp [V.cell] at hv
theorem RVs.cell_nil {vs : List V} {cs : List Value} {F : List Nat} (h : RVs N U w vs cs F) (hv : vs.all V.cell = true) : F = [] ∧ ∀ c ∈ cs, c.oneCell' = true := by
  induction vs generalizing cs F with
  | nil => cases h; exact ⟨rfl, by simp⟩
  | cons v vs ih =>
    cases h with
    | cons _ _ c cs F Fs _ h hs hE =>
      simp only [List.all_cons, Bool.and_eq_true] at hv
      obtain ⟨e1, e2⟩ := h.cell_nil hv.1
      obtain ⟨e3, e4⟩ := ih hs hv.2
      refine ⟨by simp [hE, e1, e3], ?_⟩
      intro x hx
      rcases List.mem_cons.1 hx with rfl | hx
      · exact e2
      · exact e4 x hx
theorem asI_inv {v : V} {n : Int} {c : Value} {F : List Nat} (h : RV N U w v c F) (he : asI v = some n) : ∃ k, v = .int k n ∧ c = .int k n := by
  cases v <;> simp [asI] at he
  subst he
  obtain ⟨e, _⟩ := h.int_inv
  exact ⟨_, rfl, e⟩
theorem RH.get {H : List (Nat × List V)} {T : List Nat} (h : RH N U w H T) {n : Nat} {cells : List V} (hg : hget H n = some cells) :
    (N n = some none ∧ cells = []) ∨ ∃ b base arr e cs F A B, N n = some (some (b, base)) ∧ w.heap[b]? = some (.cells arr e (0, 0)) ∧
      (∀ j c, cs[j]? = some c → arr[base + j]? = some c) ∧ RVs N U w cells cs F ∧ T = A ++ (b :: F) ++ B := by
  induction h with
  | nil => simp [hget] at hg
  | consE m H T hn h ih =>
    unfold hget at hg
    split at hg
    · rename_i he; subst he; simp at hg; subst hg; exact .inl ⟨hn, rfl⟩
    · exact ih hg
  | cons m cells' b base arr e cs F H T TT hn hb hc h hH hT ih =>
    unfold hget at hg
    split at hg
    · rename_i he; subst he; simp at hg; subst hg
      exact .inr ⟨b, base, arr, e, cs, F, [], T, hn, hb, hc, h, by simp [hT]⟩
    · rcases ih hg with h1 | ⟨b', base', arr', e', cs', F', A, B, h1, h2, h3, h4, h5⟩
      · exact .inl h1
      · exact .inr ⟨b', base', arr', e', cs', F', b :: F ++ A, B, h1, h2, h3, h4, by simp [hT, h5]⟩
theorem cell_of_arr {b : Nat} {arr : Array Value} {e : TypeId} {fz : Nat × Nat} (hb : w.heap[b]? = some (.cells arr e fz)) (o : Nat) : w.cell? ⟨b, o, none⟩ = arr[o]? := cell_of_row w b o arr e fz hb
end basic

section runs
variable {P : Program} {N : Nm} {U : Nat → Prop} {w : World}

theorem info_size {t : TypeId} (h : (P.info? t).isSome = true) (w : World) : (sizeOf t).run P w = .ok (sizeT P t) w := by
  obtain ⟨i, hi⟩ := Option.isSome_iff_exists.1 h
  simp [sizeOf, typeInfo, hi, sizeT]
theorem run_isAgg {t : TypeId} {b : Bool} (h : aggB P t = some b) (w : World) : (isAgg t).run P w = .ok b w := by
  unfold aggB at h
  split at h
  · rename_i hu; simp at h; subst h; simp [isAgg, run_underlying hu]
  · rename_i hu; simp at h; subst h; simp [isAgg, run_underlying hu]
  · rename_i x hn1 hn2 hu
    simp at h
    subst h
    unfold isAgg
    rw [Sem.run_bind, run_underlying hu, Result.andThen_ok]
    split
    · rename_i fs; exact (hn1 fs rfl).elim
    · rename_i n e; exact (hn2 n e rfl).elim
    · rfl
  · simp at h

theorem bin_run (op : BinOp) (t : TypeId) (xo yo : Operand) {x y v : V} {cx cy : Value} (hx : RV N U w x cx []) (hy : RV N U w y cy []) (he : evBin op x y = some (true, v)) :
    ∃ c, ((do eqGuard op t xo yo cx cy; binOp op t cx cy) : Sem Value).run P w = .ok c w ∧ RV N U w v c [] := by
  cases op <;> cases x <;> simp [evBin] at he <;> cases y <;> simp at he
  all_goals first
    | (obtain ⟨e1, _⟩ := hx.int_inv
       obtain ⟨e2, _⟩ := hy.int_inv
       subst e1; subst e2)
    | (obtain ⟨e1, _⟩ := hx.str_inv
       obtain ⟨e2, _⟩ := hy.str_inv
       subst e1; subst e2)
  all_goals first
    | (obtain ⟨⟨rfl, h0⟩, rfl⟩ := he
       simp only [go_sem, Sem.run_bind, Sem.run_pure, Result.andThen_ok, Op.intDiv, h0, if_false]
       exact ⟨_, rfl, .int _ _⟩)
    | (obtain ⟨rfl, rfl⟩ := he
       first
         | (simp only [go_sem, Sem.run_bind, Sem.run_pure, Result.andThen_ok, Op.intArith, Op.intBits, bitop]
            exact ⟨_, rfl, by first | exact .int _ _ | exact .bool _⟩)
         | (rename_i h0
            simp only [go_sem, Sem.run_bind, Sem.run_pure, Result.andThen_ok, Op.shift, if_neg (Int.not_lt.2 h0)]
            exact ⟨_, rfl, .int _ _⟩))
    | (obtain ⟨h0, rfl⟩ := he
       simp only [go_sem, Sem.run_bind, Sem.run_pure, Result.andThen_ok, Op.shift, if_neg (Int.not_lt.2 h0)]
       exact ⟨_, rfl, .int _ _⟩)
    | (obtain ⟨h0, rfl⟩ := he
       simp only [go_sem, binOp, Sem.run_bind, Sem.run_pure, Result.andThen_ok, Op.stringOp]
       rw [if_neg (by simp only [IntKind.max_i64]; omega)]
       exact ⟨_, rfl, .str _⟩)
    | (subst he
       simp only [go_sem, binOp, Sem.run_bind, Sem.run_pure, Result.andThen_ok, Op.stringOp]
       exact ⟨_, rfl, .bool _⟩)
theorem binb_run (op : BinOp) (t : TypeId) (ht : P.underlying t = some .bool) (xo yo : Operand) {x y v : V} {cx cy : Value} (hx : RV N U w x cx []) (hy : RV N U w y cy []) (he : evBinB op x y = some (true, v)) :
    ∃ c, ((do eqGuard op t xo yo cx cy; binOp op t cx cy) : Sem Value).run P w = .ok c w ∧ RV N U w v c [] := by
  cases op <;> cases x <;> simp [evBinB] at he <;> cases y <;> simp at he
  all_goals
    obtain ⟨e1, _⟩ := hx.bool_inv
    obtain ⟨e2, _⟩ := hy.bool_inv
    subst e1; subst e2; subst he
  · simp only [go_sem, Sem.run_bind, Sem.run_pure, Result.andThen_ok, run_eql_bool w t _ _ ht]
    exact ⟨_, rfl, .bool _⟩
  · simp only [go_sem, Sem.run_bind, Sem.run_pure, Result.andThen_ok, run_neq_bool w t _ _ ht]
    exact ⟨_, rfl, .bool _⟩
theorem un_run (op : UnOp) {x v : V} {cx : Value} (hx : RV N U w x cx []) (he : evUn op x = some (true, v)) :
    ∃ c, (Op.unary op cx).run P w = .ok c w ∧ RV N U w v c [] := by
  cases op <;> cases x <;> simp [evUn] at he
  · obtain ⟨e1, _⟩ := hx.int_inv
    subst e1; subst he
    exact ⟨_, by simp [Op.unary, Op.intArith], .int _ _⟩
  · obtain ⟨e1, _⟩ := hx.bool_inv
    subst e1; subst he
    exact ⟨_, by simp [Op.unary], .bool _⟩
theorem conv_run {src dst : TypeId} {ks k : IntKind} (hs : P.underlying src = some (.int ks)) (hd : P.underlying dst = some (.int k)) {j : IntKind} {n : Int} {cx : Value} (hx : RV N U w (.int j n) cx []) :
    (convert src dst cx).run P w = .ok (.int k (k.wrap n)) w := by
  obtain ⟨e1, _⟩ := hx.int_inv
  subst e1
  simp [convert, run_underlying hs, run_underlying hd, Conv.intToInt]

theorem pt_cells {H : List (Nat × List V)} {T : List Nat} (hh : RH N U w H T) {n off : Nat} {cells : List V} (hg : hget H n = some cells) {cx : Value} (hx : RV N U w (.pt n off) cx []) :
    ∃ b base cs F, cx = .pointer (some ⟨b, base + off, none⟩) ∧ RVs N U w cells cs F ∧ (∀ j c, cs[j]? = some c → w.cell? ⟨b, base + j, none⟩ = some c) ∧
      N n = some (some (b, base)) ∧ (∃ arr e, w.heap[b]? = some (.cells arr e (0, 0))) ∧ ∃ A B, T = A ++ (b :: F) ++ B := by
  cases hx with
  | pt _ _ b base hn =>
    rcases hh.get hg with ⟨h1, _⟩ | ⟨b', base', arr, e, cs, F, A, B, h1, h2, h3, h4, h5⟩
    · rw [hn] at h1; simp at h1
    · rw [hn] at h1
      simp at h1
      obtain ⟨rfl, rfl⟩ := h1
      exact ⟨b, base, cs, F, rfl, h4, fun j c hj => by rw [cell_of_arr h2]; exact h3 j c hj, hn, ⟨arr, e, h2⟩, A, B, h5⟩

theorem ld1_run {t : TypeId} (ha : aggB P t = some false) {H : List (Nat × List V)} {T : List Nat} (hh : RH N U w H T) {n off : Nat} {cells : List V} (hg : hget H n = some cells)
    {cx : Value} (hx : RV N U w (.pt n off) cx []) (dflt : V) (ho : off < cells.length) (hcell : (cells.getD off dflt).cell = true) :
    ∃ c, (Instr.loadAt t cx).run P w = .ok c w ∧ RV N U w (cells.getD off dflt) c [] := by
  obtain ⟨b, base, cs, F, rfl, h4, h3, _⟩ := pt_cells hh hg hx
  have hj : cells[off]? = some (cells.getD off dflt) := by simp [List.getD, List.getElem?_eq_getElem ho]
  obtain ⟨c, Fj, A, B, g1, g2, _⟩ := h4.get hj
  obtain ⟨rfl, _⟩ := g2.cell_nil hcell
  refine ⟨c, ?_, g2⟩
  simp [Instr.loadAt, Instr.sureAddr, loadVar, run_isAgg ha, h3 off c g1]
theorem ld1_run_rp {t : TypeId} (ha : aggB P t = some false) {cells : List V}
    {cx : Value} (hx : RV N U w (.rp cells) cx []) (dflt : V) (ho : 0 < cells.length) :
    ∃ c, (Instr.loadAt t cx).run P w = .ok c w ∧ RV N U w (cells.getD 0 dflt) c [] := by
  cases hx with
  | rp _ b o cs hU hc h =>
    have hj : cells[0]? = some (cells.getD 0 dflt) := by simp [List.getD, List.getElem?_eq_getElem ho]
    obtain ⟨c, g1, g2⟩ := h.get0 hj
    have h0 := hc 0 c g1
    simp only [Nat.add_zero] at h0
    exact ⟨c, by simp [Instr.loadAt, Instr.sureAddr, loadVar, run_isAgg ha, h0], g2⟩
theorem addr_add (b o n : Nat) : (⟨b, o, none⟩ : Addr).add n = ⟨b, o + n, none⟩ := Addr.add_lit b o n
theorem ldn_run {t : TypeId} (ha : aggB P t = some true) {i : TypeInfo} (hi : P.info? t = some i) {b o : Nat} {cs : List Value} (hl : cs.length = i.size)
    (hc : ∀ j c, cs[j]? = some c → w.cell? ⟨b, o + j, none⟩ = some c) :
    (Instr.loadAt t (.pointer (some ⟨b, o, none⟩))).run P w = .ok (.agg cs.toArray) w := by
  have h := run_loadCells_list (P := P) w ⟨b, o, none⟩ cs (fun j v hj => by rw [addr_add]; exact hc j v hj)
  rw [hl] at h
  simp [Instr.loadAt, Instr.sureAddr, loadVar, run_isAgg ha, sizeOf, typeInfo, hi, h]
theorem ldn_run_pt {t : TypeId} (ha : aggB P t = some true) {i : TypeInfo} (hi : P.info? t = some i) {H : List (Nat × List V)} {T : List Nat} (hh : RH N U w H T) {n off : Nat} {cells : List V} (hg : hget H n = some cells)
    {cx : Value} (hx : RV N U w (.pt n off) cx []) (ho : off + i.size ≤ cells.length) (hcell : ((cells.drop off).take i.size).all V.cell = true) :
    ∃ c, (Instr.loadAt t cx).run P w = .ok c w ∧ RV N U w (.agg ((cells.drop off).take i.size)) c [] := by
  obtain ⟨b, base, cs, F, rfl, h4, h3, _⟩ := pt_cells hh hg hx
  have e0 : cells = cells.take off ++ ((cells.drop off).take i.size ++ (cells.drop off).drop i.size) := by rw [List.take_append_drop, List.take_append_drop]
  rw [e0] at h4
  obtain ⟨c1, c2, F1, F2, rfl, rfl, g1, g2⟩ := h4.split
  obtain ⟨c3, c4, F3, F4, rfl, rfl, g3, g4⟩ := g2.split
  have l1 := g1.len
  have l3 := g3.len
  rw [List.length_take] at l1
  rw [List.length_take, List.length_drop] at l3
  obtain ⟨rfl, _⟩ := g3.cell_nil hcell
  refine ⟨_, ldn_run ha hi (by omega) (fun j c hj => ?_), .agg _ c3 [] g3⟩
  have := h3 (off + j) c (by
    rw [List.getElem?_append_right (by omega), List.getElem?_append_left (by have := (List.getElem?_eq_some_iff.1 hj).1; omega)]
    rw [show off + j - c1.length = j by omega]; exact hj)
  rw [Nat.add_assoc]; exact this
theorem ldn_run_rp {t : TypeId} (ha : aggB P t = some true) {i : TypeInfo} (hi : P.info? t = some i) {cells : List V}
    {cx : Value} (hx : RV N U w (.rp cells) cx []) (ho : i.size ≤ cells.length) :
    ∃ c, (Instr.loadAt t cx).run P w = .ok c w ∧ RV N U w (.agg (cells.take i.size)) c [] := by
  cases hx with
  | rp _ b o cs hU hc h =>
    have g := h.take i.size
    have hl : (cs.take i.size).length = i.size := by rw [g.len, List.length_take]; omega
    exact ⟨_, ldn_run ha hi hl (fun j c hj => hc j c (by
      rw [List.getElem?_take] at hj
      split at hj
      · exact hj
      · cases hj)), .agg _ _ [] g⟩
theorem compOpt_none {x : Option Operand} (h : compOpt x = some none) : x = none := by
  cases x with
  | none => rfl
  | some x => simp [compOpt] at h
theorem compOpt_some {x : Option Operand} {y : Opd} (h : compOpt x = some (some y)) : ∃ x', x = some x' ∧ compOpd x' = some y := by
  cases x with
  | none => simp [compOpt] at h
  | some x => exact ⟨x, rfl, by simpa [compOpt] using h⟩
theorem bound_run {o : Operand} {x : Opd} (hc : compOpd o = some x) {t : Nat → V} {a : Act} (hs : ∀ i, RV N U w (t i) (a.tmps.getD i Go.undef) []) {n : Int} (hn : asI (x.ev t) = some n)
    {y : Nat} (code : BoundsCode) (h0 : 0 ≤ n) (h1 : n ≤ y) : (Instr.sliceBound (a.eval o) y code).run P w = .ok n.toNat w := by
  obtain ⟨k, _, e2⟩ := asI_inv (compOpd_ok hc hs) hn
  rw [e2]
  exact run_sliceBound w k n y code h0 h1
theorem bounds_run (isS : Bool) {len cap : Nat} (hlc : len ≤ cap) {lo hi mx : Option Operand} {lo' hi' mx' : Option Opd} (hlo : compOpt lo = some lo') (hhi : compOpt hi = some hi') (hmx : compOpt mx = some mx')
    {t : Nat → V} {a : Act} (hs : ∀ i, RV N U w (t i) (a.tmps.getD i Go.undef) []) {l h : Int} (he : evBounds len (Opd.ev t) lo' hi' mx' = some (true, l, h)) :
    0 ≤ l ∧ l ≤ h ∧ h ≤ len ∧ ∃ m : Nat, h ≤ m ∧ m ≤ cap ∧ (mx' = none → m = cap) ∧ (Instr.sliceBounds isS len cap (lo.map a.eval) (hi.map a.eval) (mx.map a.eval)).run P w = .ok (l.toNat, h.toNat, m) w := by
  unfold evBounds at he
  cases lo' with
  | none =>
    have := compOpt_none hlo
    subst this
    cases hi' with
    | none =>
      have := compOpt_none hhi
      subst this
      cases mx' with
      | none =>
        have := compOpt_none hmx
        subst this
        simp at he
        obtain ⟨_, rfl, rfl⟩ := he
        exact ⟨by omega, by omega, by omega, cap, by omega, Nat.le_refl _, fun _ => rfl, by simp [Instr.sliceBounds]; omega⟩
      | some m =>
        simp at he
        split at he <;> simp at he
    | some h' =>
      obtain ⟨hi0, rfl, hch⟩ := compOpt_some hhi
      simp only at he
      cases hh : asI (Opd.ev t h') with
      | none => simp [hh] at he
      | some n =>
        cases mx' with
        | none =>
          have := compOpt_none hmx
          subst this
          simp [hh] at he
          obtain ⟨⟨h1, h2⟩, rfl, rfl⟩ := he
          refine ⟨by omega, by omega, by omega, cap, by omega, Nat.le_refl _, fun _ => rfl, ?_⟩
          have r1 := fun code => bound_run (P := P) hch hs hh (y := cap) code h1 (by omega)
          cases isS <;> simp [Instr.sliceBounds, r1]
        | some m =>
          obtain ⟨mx0, rfl, hcm⟩ := compOpt_some hmx
          cases hm : asI (Opd.ev t m) with
          | none => simp [hh, hm] at he
          | some m' =>
            simp [hh, hm] at he
            obtain ⟨⟨⟨h1, h2⟩, h3⟩, rfl, rfl⟩ := he
            refine ⟨by omega, by omega, by omega, m'.toNat, by omega, by omega, (fun h => by cases h), ?_⟩
            have r1 := fun code => bound_run (P := P) hcm hs hm (y := cap) code (by omega) (by omega)
            have r2 := fun code => bound_run (P := P) hch hs hh (y := m'.toNat) code h1 (by omega)
            cases isS <;> simp [Instr.sliceBounds, r1, r2]
  | some l' =>
    obtain ⟨lo0, rfl, hcl⟩ := compOpt_some hlo
    simp only at he
    cases hl : asI (Opd.ev t l') with
    | none => simp [hl] at he
    | some q =>
    cases hi' with
    | none =>
      have := compOpt_none hhi
      subst this
      cases mx' with
      | none =>
        have := compOpt_none hmx
        subst this
        simp [hl] at he
        obtain ⟨⟨h1, h2⟩, rfl, rfl⟩ := he
        refine ⟨by omega, by omega, by omega, cap, by omega, Nat.le_refl _, fun _ => rfl, ?_⟩
        have r1 := fun code => bound_run (P := P) hcl hs hl (y := len) code h1 (by omega)
        simp [Instr.sliceBounds, r1]
      | some m =>
        simp [hl] at he
        split at he <;> simp at he
    | some h' =>
      obtain ⟨hi0, rfl, hch⟩ := compOpt_some hhi
      simp only at he
      cases hh : asI (Opd.ev t h') with
      | none => simp [hh, hl] at he
      | some n =>
        cases mx' with
        | none =>
          have := compOpt_none hmx
          subst this
          simp [hh, hl] at he
          obtain ⟨⟨⟨h0, h1⟩, h2⟩, rfl, rfl⟩ := he
          refine ⟨by omega, by omega, by omega, cap, by omega, Nat.le_refl _, fun _ => rfl, ?_⟩
          have r1 := fun code => bound_run (P := P) hch hs hh (y := cap) code (by omega) (by omega)
          have r2 := fun code => bound_run (P := P) hcl hs hl (y := n.toNat) code h0 (by omega)
          cases isS <;> simp [Instr.sliceBounds, r1, r2]
        | some m =>
          obtain ⟨mx0, rfl, hcm⟩ := compOpt_some hmx
          cases hm : asI (Opd.ev t m) with
          | none => simp [hh, hm, hl] at he
          | some m' =>
            simp [hh, hm, hl] at he
            obtain ⟨⟨⟨⟨h0, h1⟩, h2⟩, h3⟩, rfl, rfl⟩ := he
            refine ⟨by omega, by omega, by omega, m'.toNat, by omega, by omega, (fun h => by cases h), ?_⟩
            have r1 := fun code => bound_run (P := P) hcm hs hm (y := cap) code (by omega) (by omega)
            have r2 := fun code => bound_run (P := P) hch hs hh (y := m'.toNat) code (by omega) (by omega)
            have r3 := fun code => bound_run (P := P) hcl hs hl (y := n.toNat) code h0 (by omega)
            cases isS <;> simp [Instr.sliceBounds, r1, r2, r3]
theorem slice_run {elem : TypeId} {ty : TypeId} (hu : P.underlying ty = some (.slice elem)) (hie : (P.info? elem).isSome = true) {av : Option Addr} {len cap : Nat} {lo hi mx : Option Value} {l h m : Nat}
    (hb : (Instr.sliceBounds true len cap lo hi mx).run P w = .ok (l, h, m) w) :
    (Instr.sliceAt ty (.slice av len cap) lo hi mx).run P w = .ok (.slice (if m = l then av else av.map (·.add (l * sizeT P elem))) (h - l) (m - l)) w := by
  simp [Instr.sliceAt, Instr.slice, run_underlying hu, hb, info_size hie]
theorem sliL_run {elem ty : TypeId} (hu : P.underlying ty = some (.slice elem)) (hi : (P.info? elem).isSome = true) (hsz : 0 < sizeT P elem) {lo hi' mx : Option Operand} {lo' hi'' mx' : Option Opd}
    (hlo : compOpt lo = some lo') (hhi : compOpt hi' = some hi'') (hmx : compOpt mx = some mx') {t : Nat → V} {a : Act} (hs : ∀ i, RV N U w (t i) (a.tmps.getD i Go.undef) [])
    {cells : List V} {cx : Value} (hx : RV N U w (.list (sizeT P elem) cells) cx []) {l h : Int} (he : evBounds (cells.length / sizeT P elem) (Opd.ev t) lo' hi'' mx' = some (true, l, h)) :
    ∃ c, (Instr.sliceAt ty cx (lo.map a.eval) (hi'.map a.eval) (mx.map a.eval)).run P w = .ok c w ∧
      RV N U w (.list (sizeT P elem) ((cells.drop (l.toNat * sizeT P elem)).take ((h - l).toNat * sizeT P elem))) c [] := by
  cases hx with
  | listE _ av cap =>
    simp only [List.length_nil, Nat.zero_div] at he
    obtain ⟨h0, h1, h2, m, h3, h4, h5, hr⟩ := bounds_run (P := P) (w := w) true (Nat.zero_le cap) hlo hhi hmx hs he
    refine ⟨_, slice_run hu hi hr, ?_⟩
    have e1 : l.toNat = 0 := by omega
    have e2 : h.toNat = 0 := by omega
    rw [e1, e2]
    simp only [List.drop_nil, List.take_nil, Nat.sub_self]
    exact .listE _ _ _
  | list _ _ b o len cap cs hU hl hlc hm _ hc hv =>
    have e0 : cells.length / sizeT P elem = len := by rw [hl]; exact Nat.mul_div_cancel _ hsz
    rw [e0] at he
    obtain ⟨h0, h1, h2, m, h3, h4, h5, hr⟩ := bounds_run (P := P) (w := w) true hlc hlo hhi hmx hs he
    refine ⟨_, slice_run hu hi hr, ?_⟩
    have e3 : (h - l).toNat = h.toNat - l.toNat := by omega
    rw [e3]
    by_cases hz : h.toNat - l.toNat = 0
    · rw [hz]
      simp only [Nat.zero_mul, List.take_zero]
      exact .listE _ _ _
    · rw [if_neg (by omega)]
      simp only [Option.map_some, addr_add]
      have hmul : (h.toNat - l.toNat) * sizeT P elem + l.toNat * sizeT P elem ≤ len * sizeT P elem := by
        rw [← Nat.add_mul]; exact Nat.mul_le_mul_right _ (by omega)
      refine .list _ _ b _ _ _ ((cs.drop (l.toNat * sizeT P elem)).take ((h.toNat - l.toNat) * sizeT P elem)) hU ?_ (by omega) (by omega) hsz ?_ ((hv.drop _).take _)
      · rw [List.length_take, List.length_drop, hl]; omega
      · intro j c hj
        rw [List.getElem?_take] at hj
        split at hj
        · rw [List.getElem?_drop] at hj
          rw [Nat.add_assoc]
          exact hc _ c hj
        · cases hj
theorem sliS_run {elem ty : TypeId} (hu : P.underlying ty = some (.slice elem)) (hi : (P.info? elem).isSome = true) {lo hi' mx : Option Operand} {lo' hi'' mx' : Option Opd}
    (hlo : compOpt lo = some lo') (hhi : compOpt hi' = some hi'') (hmx : compOpt mx = some mx') {t : Nat → V} {a : Act} (hs : ∀ i, RV N U w (t i) (a.tmps.getD i Go.undef) [])
    {n off len : Nat} {cx : Value} (hx : RV N U w (.sl n (sizeT P elem) off len) cx []) {l h : Int} (he : evBounds len (Opd.ev t) lo' hi'' mx' = some (true, l, h)) :
    ∃ c, (Instr.sliceAt ty cx (lo.map a.eval) (hi'.map a.eval) (mx.map a.eval)).run P w = .ok c w ∧
      RV N U w (.sl n (sizeT P elem) (off + l.toNat * sizeT P elem) (h - l).toNat) c [] := by
  cases hx with
  | slE _ _ hn =>
    obtain ⟨h0, h1, h2, m, h3, h4, h5, hr⟩ := bounds_run (P := P) (w := w) true (Nat.le_refl 0) hlo hhi hmx hs he
    refine ⟨_, slice_run hu hi hr, ?_⟩
    have e1 : l.toNat = 0 := by omega
    have e2 : h.toNat = 0 := by omega
    have e4 : (h - l).toNat = 0 := by omega
    have e5 : m = 0 := by omega
    rw [e1, e2, e4, e5]
    simp only [if_true, Nat.zero_mul, Nat.add_zero, Nat.sub_self]
    exact .slE _ _ hn
  | slZ _ _ _ b base o arr e fz hn hb ho hz' =>
    obtain ⟨h0, h1, h2, m, h3, h4, h5, hr⟩ := bounds_run (P := P) (w := w) true (Nat.le_refl 0) hlo hhi hmx hs he
    refine ⟨_, slice_run hu hi hr, ?_⟩
    have e1 : l.toNat = 0 := by omega
    have e2 : h.toNat = 0 := by omega
    have e4 : (h - l).toNat = 0 := by omega
    have e5 : m = 0 := by omega
    rw [e1, e2, e4, e5]
    simp only [if_true, Nat.sub_self]
    exact .slZ _ _ _ b base o arr e fz hn hb ho hz'
  | sl _ _ _ _ b base cap arr e fz hn hb hsz' hlc hm hz' =>
    obtain ⟨h0, h1, h2, m, h3, h4, h5, hr⟩ := bounds_run (P := P) (w := w) true hlc hlo hhi hmx hs he
    refine ⟨_, slice_run hu hi hr, ?_⟩
    have e3 : (h - l).toNat = h.toNat - l.toNat := by omega
    rw [e3]
    by_cases hz : m = l.toNat
    · have : h.toNat - l.toNat = 0 := by omega
      rw [this, if_pos hz, hz, Nat.sub_self]
      exact .slZ _ _ _ b base _ arr e fz hn hb (by omega) hz'
    · rw [if_neg hz]
      simp only [Option.map_some, addr_add]
      rw [Nat.add_assoc]
      have hmul : l.toNat * sizeT P elem + (m - l.toNat) * sizeT P elem ≤ cap * sizeT P elem := by
        rw [← Nat.add_mul]; exact Nat.mul_le_mul_right _ (by omega)
      exact .sl _ _ _ _ b base _ arr e fz hn hb (by omega) (by omega) (by omega) hz'
theorem sliN_run {elem ty : TypeId} (hu : P.underlying ty = some (.slice elem)) (hi : (P.info? elem).isSome = true) {lo hi' : Option Operand} {lo' hi'' : Option Opd}
    (hlo : compOpt lo = some lo') (hhi : compOpt hi' = some hi'') {t : Nat → V} {a : Act} (hs : ∀ i, RV N U w (t i) (a.tmps.getD i Go.undef) [])
    {l h : Int} (he : evBounds 0 (Opd.ev t) lo' hi'' none = some (true, l, h)) :
    (Instr.sliceAt ty (.slice none 0 0) (lo.map a.eval) (hi'.map a.eval) none).run P w = .ok (.slice none 0 0) w := by
  obtain ⟨h0, h1, h2, m, h3, h4, h5, hr⟩ := bounds_run (P := P) (w := w) true (Nat.le_refl 0) hlo hhi (mx := none) (mx' := none) rfl hs he
  have := slice_run hu hi (av := none) hr
  have e1 : l.toNat = 0 := by omega
  have e2 : h.toNat = 0 := by omega
  have e5 : m = 0 := by omega
  rw [e1, e2, e5] at this
  simpa using this
theorem sliT_run {ty : TypeId} (hu : P.underlying ty = some .string) {lo hi' : Option Operand} {lo' hi'' : Option Opd}
    (hlo : compOpt lo = some lo') (hhi : compOpt hi' = some hi'') {t : Nat → V} {a : Act} (hs : ∀ i, RV N U w (t i) (a.tmps.getD i Go.undef) [])
    {s : ByteArray} {l h : Int} (he : evBounds s.size (Opd.ev t) lo' hi'' none = some (true, l, h)) :
    (Instr.sliceAt ty (.string s) (lo.map a.eval) (hi'.map a.eval) none).run P w = .ok (.string (s.extract l.toNat h.toNat)) w := by
  obtain ⟨h0, h1, h2, m, h3, h4, h5, hr⟩ := bounds_run (P := P) (w := w) false (Nat.le_refl s.size) hlo hhi (mx := none) (mx' := none) rfl hs he
  simp only [Option.map_none] at hr
  simp [Instr.sliceAt, Instr.slice, run_underlying hu, hr]
end runs
end Go.Proofs.Ytedampaecopkhaa
