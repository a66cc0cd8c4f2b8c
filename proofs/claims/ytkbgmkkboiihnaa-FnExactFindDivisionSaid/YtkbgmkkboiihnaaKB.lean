import Derived.Test.YtkbgmkkboiihnaaKA
import Derived.Orders
namespace Go.Proofs.Ytkbgmkkboiihnaa
open Go Go.RowKit

section
variable {P : Program} {w0 : World} {U0 : Nat → Prop} {L0 : List Nat} {N0 : Nm} {k0 nt : Nat} {t : Nat → V} {s : Hp} {N : Nm} {T : List Nat} {a : Act} {w : World}

def ext (N : Nm) (n : Nat) (l : Loc) : Nm := fun m => if m = n then some l else N m
theorem ext_old {N : Nm} {n : Nat} {l : Loc} (h : N n = none) : ∀ m l', N m = some l' → ext N n l m = some l' := by
  intro m l' hm
  unfold ext
  split
  · rename_i e; rw [e, h] at hm; cases hm
  · exact hm
theorem ext_new (N : Nm) (n : Nat) (l : Loc) : ext N n l n = some l := by simp [ext]

theorem RS.push (h : RS w0 U0 L0 N0 k0 nt t s N T a w) {dst : Option Nat} (hd : ∀ d, dst = some d → d < nt) {H1 : List (Nat × List V)} {T1 : List Nat} (hH : RH N (Un w0 U0 w T) w H1 T1) (hT1 : ∀ x ∈ T1, x ∈ T)
    {l : Loc} {X : List Nat} {w' : World} (hsz : w.heap.size ≤ w'.heap.size) (hsame : ∀ x, x < w.heap.size → (x ∉ T ∨ x ∈ T1) → SameAt w w' x) (hshape : ∀ x, x < w.heap.size → ShapeAt w w' x)
    (hnd : (X ++ T1).Nodup) (hX : ∀ x ∈ X, x ∈ T ∨ w.heap.size ≤ x) (hfr : KeepBut L0 w0 w') {v : V} {c : Value} {cells : List V}
    (hEnt : Kept N (ext N s.2 l) (Un w0 U0 w T) (Un w0 U0 w' (X ++ T1)) w w' → Ent (ext N s.2 l) (Un w0 U0 w' (X ++ T1)) w' s.2 cells X)
    (hval : Kept N (ext N s.2 l) (Un w0 U0 w T) (Un w0 U0 w' (X ++ T1)) w w' → RV (ext N s.2 l) (Un w0 U0 w' (X ++ T1)) w' v c []) :
    ∃ N' T', RS w0 U0 L0 N0 k0 nt (upd t dst v) ((s.2, cells) :: H1, s.2 + 1) N' T' (a.put dst c) w' := by
  have hTlt := h.hp.lt
  have k : Kept N (ext N s.2 l) (Un w0 U0 w T) (Un w0 U0 w' (X ++ T1)) w w' := by
    refine ⟨fun x hU => ⟨hsame x hU.1 (.inl hU.2.1), Nat.lt_of_lt_of_le hU.1 hsz, fun hm => ?_, hU.2.2⟩, ext_old (h.nx _ (Nat.le_refl _)), fun n b base hn arr e fz hb => hshape b (heap_lt hb) arr e fz hb⟩
    rcases List.mem_append.1 hm with hm | hm
    · rcases hX x hm with hx | hx
      · exact hU.2.1 hx
      · have := hU.1; omega
    · exact hU.2.1 (hT1 x hm)
  refine ⟨_, X ++ T1, h.step hd k (hval k) ?_ hnd ?_ hfr ?_ (by simp) ?_⟩
  · exact RH.push (hH.kept k (fun x hx => hsame x (hTlt x (hT1 x hx)) (.inr hx))) (hEnt k)
  · intro x hx
    rcases List.mem_append.1 hx with hx | hx
    · rcases hX x hx with hx | hx
      · exact h.own x hx
      · exact .inr (Nat.le_trans h.fr.size hx)
    · exact h.own x (hT1 x hx)
  · intro n hn
    show (if n = s.2 then some l else N n) = none
    have hn' : s.2 + 1 ≤ n := hn
    rw [if_neg (by omega)]
    exact h.nx n (by omega)
  · intro n hn
    show (if n = s.2 then some l else N n) = N n
    rw [if_neg (by omega)]

/-- A store. -/
theorem RS.store (h : RS w0 U0 L0 N0 k0 nt t s N T a w) {dst : Option Nat} (hd : ∀ d, dst = some d → d < nt) {n off : Nat} {cells : List V} (hg : hget s.1 n = some cells) {cx : Value} (hx : RV N (Un w0 U0 w T) w (.pt n off) cx [])
    {v : V} {cv : Value} (hv : RV N (Un w0 U0 w T) w v cv []) (hcell : v.cells.all V.cell = true) (hlen : off + v.cells.length ≤ cells.length) (hpos : 0 < v.cells.length) {ty : TypeId} (hi : (P.info? ty).isSome = true) (hsz : sizeT P ty = v.cells.length) :
    ∃ w', (Instr.storeAt ty cx cv).run P w = .ok () w' ∧ ∃ N' T', RS w0 U0 L0 N0 k0 nt (upd t dst (.tup [])) (hset s.1 n (setRange cells off v.cells), s.2) N' T' (a.put dst Go.undef) w' := by
  have hvc := hv.cells hcell
  have hone : ∀ x ∈ cv.cells.toList, x.oneCell' = true := hvc.cells1 hcell
  have hl1 : cv.cells.toList.length = v.cells.length := hvc.len
  obtain ⟨b, base, cs, F, rfl, g4, g3, hn, ⟨arr, e, hb⟩, _⟩ := pt_cells h.hp hg hx
  have hl2 : cs.length = cells.length := g4.len
  have harr : ∀ j, j < cs.length → base + j < arr.size := fun j hj => by
    have := g3 j cs[j] (by simp [hj])
    rw [cell_of_arr hb] at this
    exact (Array.getElem?_eq_some_iff.1 this).1
  have hfit : base + off + cv.cells.toList.length ≤ arr.size := by
    have := harr (off + v.cells.length - 1) (by omega)
    omega
  have hrun := run_storeCells_at (P := P) b (base + off) e cv.cells.toList 0 arr w hb (by omega) hone
  have hcs : cv.cells.size = v.cells.length := by simpa using hl1
  refine ⟨_, ?_, h.row (arr' := (setRange arr.toList (base + off) cv.cells.toList).toArray) hd hg hn hb (by simp [setRange_length]) ?_ (.tup [] [] [] .nil)⟩
  · have he : (setRange arr.toList (base + off) cv.cells.toList).toArray = (arr.toList.take (base + off + 0) ++ cv.cells.toList ++ arr.toList.drop (base + off + 0 + cv.cells.toList.length)).toArray := by
      rw [setRange_eq _ _ _ (by simpa using hfit)]
      simp
    rw [he]
    simp only [Instr.storeAt, Instr.sureAddr, storeVar, Sem.run_bind, Sem.run_pure, Result.andThen_ok, info_size hi, hcs, hsz]
    simp only [ne_eq, not_true_eq_false, if_false]
    simpa using hrun
  · intro cs2 F2 q1 q2
    obtain ⟨F', k1, k2⟩ := q2.setRange hvc (o := off) hlen
    refine ⟨_, F', k1, k2, fun j c hj => ?_⟩
    have hl3 : cs2.length = cells.length := q2.len
    rw [setRange_get _ _ _ _ (by omega)] at hj
    rw [List.getElem?_toArray, setRange_get _ _ _ _ (by simpa using hfit)]
    split at hj
    · rw [if_pos (by omega), show base + j - (base + off) = j - off by omega]
      exact hj
    · rw [if_neg (by omega)]
      simpa using q1 j c hj
theorem made_list (z : Array Value) (k : Nat) : ((Array.range (k * z.size)).map (fun i => z[i % z.size]!)).toList = (List.replicate k z.toList).flatten := by
  rw [Array.toList_map, Array.toList_range]
  induction k with
  | zero => simp
  | succ k ih =>
    rw [List.replicate_succ, List.flatten_cons, Nat.succ_mul, Nat.add_comm, List.range_add, List.map_append, ← ih]
    congr 1
    · apply List.ext_getElem
      · simp
      · intro i h1 h2
        simp at h1 h2
        simp [Nat.mod_eq_of_lt h1, h1]
    · rw [List.map_map]
      apply List.map_congr_left
      intro i _
      simp
theorem RVs.repl {U : Nat → Prop} {z : List V} {zc : List Value} (h : RVs N U w z zc []) (k : Nat) : RVs N U w (List.replicate k z).flatten (List.replicate k zc).flatten [] := by
  induction k with
  | zero => exact .nil
  | succ k ih =>
    rw [List.replicate_succ, List.replicate_succ, List.flatten_cons, List.flatten_cons]
    simpa using h.append ih
theorem alloc_run {ty : TypeId} {zv : Value} (hz : (zeroValue ty).run P w = .ok zv w) : (Instr.alloc ty true (.tuple #[])).run P w = .ok (.pointer (some ⟨w.heap.size, 0, none⟩)) (w.alloc (.cells zv.cells ty)) := by
  simp [Instr.alloc, hz, newVar, newRow]
theorem box_run (ty : TypeId) (v : Value) : (Instr.box ty v).run P w = .ok (.pointer (some ⟨w.heap.size, 0, none⟩)) (w.alloc (.cells v.cells ty)) := by
  simp [Instr.box, newVar, newRow]
theorem mks_run {ty e : TypeId} (hu : P.underlying ty = some (.slice e)) {z : List V} (hz : zeroL P e = some z) (hsz : z.length = sizeT P e) {len : Nat} (hlen : len * sizeT P e ≤ 65536)
    {U : Nat → Prop} {ps : Array (Nat × Value)} {qs : List (Nat × Nat × V)} (hp : PR N U w (fun i => some (i * sizeT P e, sizeT P e)) ps.toList qs) {cells : List V} (he : fillRange (List.replicate len z).flatten qs = some cells) :
    ∃ arr : Array Value, (Instr.buildSlice ty len ps).run P w = .ok (.slice (some ⟨w.heap.size, 0, none⟩) len len) (w.alloc (.cells arr e)) ∧ RVs N U w cells arr.toList [] ∧ arr.size = len * sizeT P e := by
  obtain ⟨zv, h1, h2, h3, i, h4, h5⟩ := zeroL_run (P := P) (N := N) (U := U) hz w
  have hl := h2.len
  have hzs : zv.cells.size = sizeT P e := by rw [← hsz, ← hl]; simp
  have hr := h2.repl len
  rw [← made_list] at hr
  rw [hzs] at hr
  obtain ⟨cs', g1, g2⟩ := fill_ok hp hr he
  have hfl : ∀ (qs : List (Nat × Nat × V)) (a b : List V), fillRange a qs = some b → b.length = a.length := by
    intro qs
    induction qs with
    | nil => intro a b h; simp [fillRange] at h; rw [h]
    | cons q qs ih =>
      intro a b h
      obtain ⟨o, n, v⟩ := q
      unfold fillRange at h
      split at h
      · rw [ih _ _ h, setRange_length]
      · simp at h
  have hcl : cs'.size = len * sizeT P e := by
    have e1 := g2.len
    rw [hfl _ _ _ he] at e1
    simpa [hsz] using e1
  refine ⟨cs', ?_, g2, hcl⟩
  have hnot : ¬ (16777216 < len * sizeT P e) := by omega
  have hsome : (P.info? e).isSome = true := by rw [h4]; rfl
  by_cases h0 : len * sizeT P e = 0
  · have g1' := g1
    rw [h0] at g1'
    simp only [Array.range_zero', Array.map_empty] at g1'
    simp [Instr.buildSlice, run_underlying hu, info_size hsome, h0, newRow, g1', Array.range_zero']
  · simp [Instr.buildSlice, run_underlying hu, info_size hsome, h0, hnot, h1, hzs, newRow, g1]
/-- What is appended. -/
structure Src (P : Program) (size : Nat) (cx : Value) (m : Nat) (ncs : List Value) (w : World) : Prop where
  len : (Builtin.lenOf cx).run P w = .ok m w
  cells : ∀ w' : World, w'.heap = w.heap → (Builtin.firstCells size m cx).run P w' = .ok ncs.toArray w'
  cnt : ncs.length = m * size
theorem app_room {ty u rt e eu : TypeId} (hu : P.underlying ty = some (.slice e)) (hu2 : P.underlying u = some (.slice eu)) (hi : (P.info? e).isSome = true) {cx : Value} {m : Nat} {ncs : List Value} (hx : Src P (sizeT P e) cx m ncs w)
    {b o sLen sCap : Nat} {arr : Array Value} {e0 : TypeId} (hb : w.heap[b]? = some (.cells arr e0 (0, 0))) (hone : ∀ x ∈ ncs, x.oneCell' = true) (hroom : sLen + m ≤ sCap) (hfit : o + sLen * sizeT P e + ncs.length ≤ arr.size) :
    (Builtin.append_ #[ty, u] rt #[.slice (some ⟨b, o, none⟩) sLen sCap, cx]).run P w = .ok (.slice (some ⟨b, o, none⟩) (sLen + m) sCap) (w.setRow b (setRange arr.toList (o + sLen * sizeT P e) ncs).toArray) := by
  have hrun := run_storeCells_at (P := P) b (o + sLen * sizeT P e) e0 ncs 0 arr w hb (by omega) hone
  have he : (setRange arr.toList (o + sLen * sizeT P e) ncs).toArray = (arr.toList.take (o + sLen * sizeT P e + 0) ++ ncs ++ arr.toList.drop (o + sLen * sizeT P e + 0 + ncs.length)).toArray := by
    rw [setRange_eq _ _ _ (by simpa using hfit)]
    simp
  rw [he]
  simp [Builtin.append_, run_underlying hu, run_underlying hu2, info_size hi, hx.len, hx.cells w rfl, hroom, addr_add] at hrun ⊢
  rw [hrun]
  simp
theorem app_same {ty u rt e eu : TypeId} (hu : P.underlying ty = some (.slice e)) (hu2 : P.underlying u = some (.slice eu)) (hi : (P.info? e).isSome = true) {cx : Value} {ncs : List Value} (hx : Src P (sizeT P e) cx 0 ncs w)
    (base : Option Addr) {sLen sCap : Nat} (hs : sLen ≤ sCap) : (Builtin.append_ #[ty, u] rt #[.slice base sLen sCap, cx]).run P w = .ok (.slice base sLen sCap) w := by
  have h0 : ncs = [] := List.eq_nil_of_length_eq_zero (by simpa using hx.cnt)
  have hc := hx.cells w rfl
  rw [h0] at hc
  cases base <;> simp [Builtin.append_, run_underlying hu, run_underlying hu2, info_size hi, hx.len, hc, hs, storeCells]
theorem app_grow {ty u rt e eu : TypeId} (hu : P.underlying ty = some (.slice e)) (hu2 : P.underlying u = some (.slice eu)) {i : TypeInfo} (hi : P.info? e = some i) {zv : Value} (hz : i.zero = some zv) {cx : Value} {m : Nat} {ncs : List Value} (hx : Src P (sizeT P e) cx m ncs w)
    {base : Option Addr} {sLen sCap : Nat} {ocs : List Value} (ho : ∀ w' : World, w'.heap = w.heap → (Builtin.firstCells (sizeT P e) sLen (.slice base sLen sCap)).run P w' = .ok ocs.toArray w')
    (hg : sCap < sLen + m) (h63 : ((sLen + m : Nat) : Int) ≤ 9223372036854775807) (hfit : Builtin.nextslicecap (sLen + m) sCap * i.bytes ≤ 281474976710656) :
    (Builtin.append_ #[ty, u] rt #[.slice base sLen sCap, cx]).run P w = .ok (.slice (some ⟨w.heap.size, 0, none⟩) (sLen + m) (grownCap w (sLen + m) sCap e))
      (w.drew.alloc (.cells (ocs ++ ncs ++ (Builtin.zeroCells zv.cells (grownCap w (sLen + m) sCap e - (sLen + m))).toList).toArray e)) := by
  have hsome : (P.info? e).isSome = true := by rw [hi]; rfl
  have hn : ¬ (sLen + m ≤ sCap) := by omega
  have h63' : ¬ (9223372036854775807 < ((sLen : Int) + (m : Int))) := by omega
  have h48' : ¬ (281474976710656 < Builtin.nextslicecap (sLen + m) sCap * i.bytes) := by omega
  have hx2 := hx.cells w.drew rfl
  have ho2 := ho w.drew rfl
  simp [Builtin.append_, run_underlying hu, run_underlying hu2, info_size hsome, typeInfo, zeroValue, hi, hz, hx.len, hn, h63', h48', Question.forced, hx2, ho2, newRow, grownCap]
  congr 2
  apply Array.ext'
  simp
theorem same_cell {w w' : World} (h : w'.heap = w.heap) (p : Addr) : w'.cell? p = w.cell? p := by simp [World.cell?, h]
theorem first_some {size n : Nat} {b o len cap : Nat} {cs : List Value} (hl : cs.length = n * size) (h : ∀ j c, cs[j]? = some c → w.cell? ⟨b, o + j, none⟩ = some c) {w' : World} (hw : w'.heap = w.heap) :
    (Builtin.firstCells size n (.slice (some ⟨b, o, none⟩) len cap)).run P w' = .ok cs.toArray w' :=
  run_firstCells_some w' size n ⟨b, o, none⟩ len cap cs hl (fun j v hj => by rw [addr_add, same_cell hw]; exact h j v hj)
theorem first_zero {size : Nat} {base : Option Addr} {len cap : Nat} (w' : World) : (Builtin.firstCells size 0 (.slice base len cap)).run P w' = .ok #[] w' := by
  cases base with
  | none => exact run_firstCells_none w' size 0 len cap
  | some p => exact run_firstCells_some w' size 0 p len cap [] (by simp) (by simp)
/-- A part of a row: its cells. -/
theorem RVs.mid {U : Nat → Prop} {cells : List V} {cs : List Value} {F : List Nat} (h : RVs N U w cells cs F) {off k : Nat} (hle : off + k ≤ cells.length) :
    ∃ ms G, RVs N U w ((cells.drop off).take k) ms G ∧ List.Sublist G F ∧ (∀ j c, ms[j]? = some c → cs[off + j]? = some c) ∧ ms.length = k := by
  rw [show cells = cells.take off ++ ((cells.drop off).take k ++ (cells.drop off).drop k) by rw [List.take_append_drop, List.take_append_drop]] at h
  obtain ⟨c1, c2, F1, F2, rfl, rfl, g1, g2⟩ := h.split
  obtain ⟨c3, c4, F3, F4, rfl, rfl, g3, g4⟩ := g2.split
  have l1 := g1.len
  have l3 := g3.len
  rw [List.length_take] at l1
  rw [List.length_take, List.length_drop] at l3
  refine ⟨c3, F3, g3, (List.sublist_append_left F3 F4).trans (List.sublist_append_right F1 _), fun j c hj => ?_, by omega⟩
  rw [List.getElem?_append_right (by omega), List.getElem?_append_left (by have := (List.getElem?_eq_some_iff.1 hj).1; omega)]
  rw [show off + j - c1.length = j by omega]
  exact hj
theorem src_ok (hh : RH N (Un w0 U0 w T) w s.1 T) {sz : Nat} (hz : 0 < sz) {x : V} {news : List V} (he : srcOf s.1 sz x = some news) (hcell : news.all V.cell = true) {cx : Value} (hx : RV N (Un w0 U0 w T) w x cx []) :
    ∃ ncs, Src P sz cx (news.length / sz) ncs w ∧ RVs N (Un w0 U0 w T) w news ncs [] := by
  cases x <;> simp only [srcOf] at he <;> try (simp at he; done)
  case nil =>
    simp only [Option.some.injEq] at he
    subst he
    obtain ⟨rfl, _⟩ := hx.nil_inv
    exact ⟨[], ⟨by simp [Builtin.lenOf], fun w' _ => by simpa using first_zero (P := P) w', by simp⟩, .nil⟩
  case list sz' cells =>
    split at he
    · rename_i hsz
      subst hsz
      simp only [Option.some.injEq] at he
      subst he
      cases hx with
      | listE => exact ⟨[], ⟨by simp [Builtin.lenOf], fun w' _ => by simpa using first_zero (P := P) w', by simp⟩, .nil⟩
      | list _ _ b o len cap cs hU hl hlc hm _ hc hv =>
        have hn : cells.length / sz = len := by rw [hl]; exact Nat.mul_div_cancel _ hz
        rw [hn]
        exact ⟨cs, ⟨by simp [Builtin.lenOf], fun w' hw => first_some (hv.len.trans hl) hc hw, hv.len.trans hl⟩, hv⟩
    · simp at he
  case sl m sz' off len =>
    split at he
    · rename_i c hg
      split at he
      · rename_i hcond
        obtain ⟨hsz, hle⟩ := hcond
        subst hsz
        simp only [Option.some.injEq] at he
        subst he
        have hlen : ((c.drop off).take (len * sz)).length / sz = len := by
          rw [List.length_take, List.length_drop, Nat.min_eq_left (by omega)]
          exact Nat.mul_div_cancel _ hz
        rw [hlen]
        cases hx with
        | slE _ _ hn => 
          have h0 : RVs N (Un w0 U0 w T) w ((c.drop 0).take (0 * sz)) [] [] := by simp only [Nat.zero_mul, List.take_zero]; exact .nil
          exact ⟨[], ⟨by simp [Builtin.lenOf], fun w' _ => by simpa using first_zero (P := P) w', by simp⟩, h0⟩
        | slZ _ _ _ b base o arr e fz hn hb ho _ =>
          have h0 : RVs N (Un w0 U0 w T) w ((c.drop off).take (0 * sz)) [] [] := by simp only [Nat.zero_mul, List.take_zero]; exact .nil
          exact ⟨[], ⟨by simp [Builtin.lenOf], fun w' _ => by simpa using first_zero (P := P) w', by simp⟩, h0⟩
        | sl _ _ _ _ b base cap arr e fz hn hb hs hlc hm _ =>
          rcases hh.get hg with ⟨h1, _⟩ | ⟨b', base', arr', e', cs, F, A, B, h1, h2, h3, h4, h5⟩
          · rw [hn] at h1; simp at h1
          · rw [hn] at h1
            simp at h1
            obtain ⟨rfl, rfl⟩ := h1
            obtain ⟨ms, G, g1, g2, g3, g4⟩ := h4.mid hle
            obtain ⟨rfl, _⟩ := g1.cell_nil hcell
            refine ⟨ms, ⟨by simp [Builtin.lenOf], fun w' hw => first_some g4 (fun j c hj => ?_) hw, g4⟩, g1⟩
            rw [cell_of_arr h2, Nat.add_assoc]
            exact h3 _ c (g3 j c hj)
      · simp at he
    · simp at he
end
end Go.Proofs.Ytkbgmkkboiihnaa
namespace Go.Proofs.Ytkbgmkkboiihnaa
open Go Go.RowKit

section
variable {P : Program} {w0 : World} {U0 : Nat → Prop} {L0 : List Nat} {N0 : Nm} {k0 nt : Nat} {t : Nat → V} {s : Hp} {N : Nm} {T : List Nat} {a : Act} {w : World}

structure AppT (P : Program) (ty u e : TypeId) : Prop where
  hu : P.underlying ty = some (.slice e)
  hu2 : ∃ eu, P.underlying u = some (.slice eu)
  hi : (P.info? e).isSome = true
  hz : 0 < sizeT P e
  zl : ∃ i zv, P.info? e = some i ∧ i.zero = some zv ∧ zv.cells.size = sizeT P e

/-- The new slice in a new row. -/
theorem RS.grow (h : RS w0 U0 L0 N0 k0 nt t s N T a w) {dst : Option Nat} (hd : ∀ d, dst = some d → d < nt) {H1 : List (Nat × List V)} {T1 : List Nat} (hH : RH N (Un w0 U0 w T) w H1 T1) (hT1 : ∀ x ∈ T1, x ∈ T) {G : List Nat} (hGT : ∀ x ∈ G, x ∈ T) (hnd : (G ++ T1).Nodup)
    {old news : List V} {ocs ncs : List Value} (ho : RVs N (Un w0 U0 w T) w old ocs G) (hn : RVs N (Un w0 U0 w T) w news ncs []) {rest : List Value} {e : TypeId} {sz len cap : Nat} (hsz : 0 < sz) (hlc : len ≤ cap) (hm : cap ≤ maxLen) (hfit : cap * sz ≤ ocs.length + ncs.length + rest.length) :
    ∃ N' T', RS w0 U0 L0 N0 k0 nt (upd t dst (.sl s.2 sz 0 len)) ((s.2, old ++ news) :: H1, s.2 + 1) N' T' (a.put dst (.slice (some ⟨w.heap.size, 0, none⟩) len cap)) (w.drew.alloc (.cells (ocs ++ ncs ++ rest).toArray e)) := by
  have hTlt := h.hp.lt
  have hb : Below w.heap.size w (w.drew.alloc (.cells (ocs ++ ncs ++ rest).toArray e)) := Below.alloc (Below.drew (Below.refl _ _)) (Nat.le_refl _) _
  have hnew : (w.drew.alloc (.cells (ocs ++ ncs ++ rest).toArray e)).heap[w.heap.size]? = some (.cells (ocs ++ ncs ++ rest).toArray e (0, 0)) := heap_alloc_new w.drew _
  refine h.push hd hH hT1 (l := some (w.heap.size, 0)) (X := w.heap.size :: G) hb.size (fun x hx _ => hb.block x hx) (fun x hx => SameAt.shape (hb.block x hx)) ?_ ?_ (h.fr.trans (below_keep hb L0)) (fun k => ?_) (fun k => ?_)
  · rw [List.cons_append, List.nodup_cons]
    refine ⟨fun hm => ?_, hnd⟩
    rcases List.mem_append.1 hm with hm | hm
    · have := hTlt _ (hGT _ hm); omega
    · have := hTlt _ (hT1 _ hm); omega
  · intro x hx
    rcases List.mem_cons.1 hx with rfl | hx
    · exact .inr (Nat.le_refl _)
    · exact .inl (hGT x hx)
  · refine .inr ⟨w.heap.size, 0, _, e, ocs ++ ncs, G, ext_new _ _ _, hnew, fun j c hj => ?_, ?_, rfl⟩
    · rw [Nat.zero_add, List.getElem?_toArray, List.getElem?_append_left (by have := (List.getElem?_eq_some_iff.1 hj).1; omega)]
      exact hj
    · have := (ho.kept k (fun x hx => hb.block x (hTlt x (hGT x hx)))).append (hn.kept k (by simp))
      simpa using this
  · have := RV.sl (N := ext N s.2 (some (w.heap.size, 0))) (U := Un w0 U0 (w.drew.alloc (.cells (ocs ++ ncs ++ rest).toArray e)) (w.heap.size :: G ++ T1)) s.2 sz 0 len w.heap.size 0 cap _ e (0, 0) (ext_new _ _ _) hnew (by simp; omega) hlc hm hsz
    simpa using this

theorem grown_size {P : Program} {e : TypeId} {zv : Value} (hz : zv.cells.size = sizeT P e) (ocs ncs : List Value) {len m : Nat} (h1 : ocs.length = len * sizeT P e) (h2 : ncs.length = m * sizeT P e) {cap : Nat} (hc : len + m ≤ cap) :
    cap * sizeT P e ≤ ocs.length + ncs.length + (Builtin.zeroCells zv.cells (cap - (len + m))).toList.length := by
  have e1 : (Builtin.zeroCells zv.cells (cap - (len + m))).toList.length = (cap - (len + m)) * sizeT P e := by rw [Array.length_toList, size_zeroCells, hz]
  rw [e1, h1, h2, ← Nat.add_mul, ← Nat.add_mul]
  exact Nat.mul_le_mul_right _ (by omega)

set_option maxHeartbeats 1000000 in
theorem RS.app (h : RS w0 U0 L0 N0 k0 nt t s N T a w) {dst : Option Nat} (hd : ∀ d, dst = some d → d < nt) {ty u rt e : TypeId} (ht : AppT P ty u e) {bytes : Nat} (hby : bytes = bytesT P e) {x : V} {news : List V} (he : srcOf s.1 (sizeT P e) x = some news) (hcell : news.all V.cell = true)
    {cx : Value} (hx : RV N (Un w0 U0 w T) w x cx []) {sv v : V} {s' : Hp} {cs : Value} (hs : RV N (Un w0 U0 w T) w sv cs [])
    (hev : evApp (sizeT P e) bytes news s sv = some (true, v, s')) (hb47 : bytes = 0 → False) :
    ∃ c w', (Builtin.append_ #[ty, u] rt #[cs, cx]).run P w = .ok c w' ∧ ∃ N' T', RS w0 U0 L0 N0 k0 nt (upd t dst v) s' N' T' (a.put dst c) w' := by
  obtain ⟨hu, ⟨eu, hu2⟩, hi, hz, i, zv, hi2, hz0, hzs⟩ := ht
  obtain ⟨ncs, hsrc, hn⟩ := src_ok (P := P) h.hp hz he hcell hx
  have hone : ∀ y ∈ ncs, y.oneCell' = true := hn.cells1 hcell
  have hTlt := h.hp.lt
  have hib : i.bytes = bytes := by rw [hby]; simp [bytesT, hi2]
  -- a slice without elements, whatever it is
  have empty : ∀ (base : Option Addr) (cap : Nat) (H1 : List (Nat × List V)) (T1 : List Nat), RH N (Un w0 U0 w T) w H1 T1 → (∀ y ∈ T1, y ∈ T) → T1.Nodup → cap = 0 → 0 < news.length / sizeT P e → (news.length / sizeT P e) * bytes ≤ 140737488355328 →
      ∃ c w', (Builtin.append_ #[ty, u] rt #[.slice base 0 cap, cx]).run P w = .ok c w' ∧ ∃ N' T', RS w0 U0 L0 N0 k0 nt (upd t dst (V.sl s.2 (sizeT P e) 0 (news.length / sizeT P e))) ((s.2, news) :: H1, s.2 + 1) N' T' (a.put dst c) w' := by
    intro base cap H1 T1 hH hT1 hnd hcap hpos hbytes
    subst hcap
    have hle : (0 + news.length / sizeT P e) * i.bytes ≤ 140737488355328 := by rw [hib, Nat.zero_add]; exact hbytes
    have hm63 : 0 + news.length / sizeT P e ≤ maxLen := by
      have : news.length / sizeT P e ≤ (news.length / sizeT P e) * bytes := Nat.le_mul_of_pos_right _ (Nat.pos_of_ne_zero hb47)
      simp only [maxLen]; omega
    have hr := app_grow (P := P) (rt := rt) hu hu2 hi2 hz0 hsrc (base := base) (sLen := 0) (sCap := 0) (ocs := []) (fun w' _ => first_zero w') (by omega) (by simp only [maxLen] at hm63; omega) (growslice_fits (by omega) hle)
    refine ⟨_, _, hr, ?_⟩
    have hgc := grownCap_ge w (0 + news.length / sizeT P e) 0 e
    have hgm := grownCap_le_maxLen w (0 + news.length / sizeT P e) 0 e hm63
    have := h.grow (G := []) hd hH hT1 (by simp) (by simpa using hnd) (old := []) (ocs := []) .nil hn (rest := (Builtin.zeroCells zv.cells (grownCap w (0 + news.length / sizeT P e) 0 e - (0 + news.length / sizeT P e))).toList) (e := e) (sz := sizeT P e) (len := 0 + news.length / sizeT P e) hz hgc hgm
      (grown_size hzs [] ncs (by simp) hsrc.cnt hgc)
    simpa using this
  -- nothing is appended to nothing
  have nothing : ∀ (base : Option Addr) (cap : Nat) (l : Loc) (H1 : List (Nat × List V)) (T1 X : List Nat), RH N (Un w0 U0 w T) w H1 T1 → (∀ y ∈ T1, y ∈ T) → (∀ y ∈ X, y ∈ T) → (X ++ T1).Nodup → news.length / sizeT P e = 0 →
      (∀ N' U', N' s.2 = some l → Kept N N' (Un w0 U0 w T) U' w w → RV N' U' w (.sl s.2 (sizeT P e) 0 0) (.slice base 0 cap) [] ∧ Ent N' U' w s.2 [] X) →
      ∃ c w', (Builtin.append_ #[ty, u] rt #[.slice base 0 cap, cx]).run P w = .ok c w' ∧ ∃ N' T', RS w0 U0 L0 N0 k0 nt (upd t dst (V.sl s.2 (sizeT P e) 0 0)) ((s.2, []) :: H1, s.2 + 1) N' T' (a.put dst c) w' := by
    intro base cap l H1 T1 X hH hT1 hX hnd hm hval
    have hsrc0 := hsrc
    rw [hm] at hsrc0
    refine ⟨_, _, app_same hu hu2 hi hsrc0 base (Nat.zero_le _), ?_⟩
    exact h.push hd hH hT1 (l := l) (X := X) (Nat.le_refl _) (fun _ _ _ => rfl) (fun _ _ => SameAt.shape rfl) hnd (fun y hy => .inl (hX y hy)) h.fr (fun k => (hval _ _ (ext_new _ _ _) k).2) (fun k => (hval _ _ (ext_new _ _ _) k).1)
  have hnews0 : news.length / sizeT P e = 0 → news = [] := by
    intro hm
    have h1 := hsrc.cnt
    rw [hm, Nat.zero_mul] at h1
    have h2 := hn.len
    exact List.eq_nil_of_length_eq_zero (by omega)
  cases sv <;> simp only [evApp] at hev <;> try (simp at hev; done)
  case nil =>
    simp only [Option.some.injEq, Prod.mk.injEq, Bool.and_eq_true, decide_eq_true_eq] at hev
    obtain ⟨⟨_, hbytes⟩, rfl, rfl⟩ := hev
    obtain ⟨rfl, _⟩ := hs.nil_inv
    rcases Nat.eq_zero_or_pos (news.length / sizeT P e) with hm | hm
    · have hn0 := hnews0 hm
      rw [hm, hn0]
      exact nothing none 0 none s.1 T [] h.hp (fun _ h => h) (by simp) (by simpa using h.nd) hm (fun N' U' hl _ => ⟨.slE _ _ hl, .inl ⟨hl, rfl, rfl⟩⟩)
    · exact empty none 0 s.1 T h.hp (fun _ h => h) h.nd rfl hm hbytes
  case sl n sz' off len =>
    split at hev
    · rename_i cells hg
      simp only [Option.some.injEq, Prod.mk.injEq, Bool.and_eq_true, decide_eq_true_eq] at hev
      obtain ⟨⟨⟨⟨hsz, _⟩, hle⟩, hbytes⟩, rfl, rfl⟩ := hev
      subst hsz
      obtain ⟨X, T1, d1, d2, d3⟩ := h.hp.del hg
      have hT1 : ∀ y ∈ T1, y ∈ T := fun y hy => d3.mem_iff.2 (by simp [hy])
      have hndX : (X ++ T1).Nodup := d3.nodup_iff.1 h.nd
      have hnd1 : T1.Nodup := (List.nodup_append.1 hndX).2.1
      cases hs with
      | slE _ _ hn' =>
        have hc : ((cells.drop 0).take (0 * sizeT P e) ++ news) = news := by simp
        rw [hc]
        simp only [Nat.zero_add] at hbytes ⊢
        rcases Nat.eq_zero_or_pos (news.length / sizeT P e) with hm | hm
        · have hn0 := hnews0 hm
          rw [hm, hn0]
          exact nothing none 0 none _ T1 [] d2 hT1 (by simp) (by simpa using hnd1) hm (fun N' U' hl _ => ⟨.slE _ _ hl, .inl ⟨hl, rfl, rfl⟩⟩)
        · exact empty none 0 _ T1 d2 hT1 hnd1 rfl hm hbytes
      | slZ _ _ _ b base o arr0 e0 fz hn' hb0 ho0 hz0' =>
        have hc : ((cells.drop off).take (0 * sizeT P e) ++ news) = news := by simp
        rw [hc]
        simp only [Nat.zero_add] at hbytes ⊢
        rcases Nat.eq_zero_or_pos (news.length / sizeT P e) with hm | hm
        · have hn0 := hnews0 hm
          rw [hm, hn0]
          rcases d1 with ⟨g1, _⟩ | ⟨b', base', arr, e', cs', F, g1, g2, g3, g4, rfl⟩
          · rw [hn'] at g1; simp at g1
          · rw [hn'] at g1
            simp at g1
            obtain ⟨rfl, rfl⟩ := g1
            refine nothing (some ⟨b, o, none⟩) 0 (some (b, base)) _ T1 [b] d2 hT1 (fun y hy => d3.mem_iff.2 (by simp at hy; simp [hy])) ?_ hm (fun N' U' hl _ => ⟨.slZ _ _ _ b base o arr0 e0 fz hl hb0 ho0 hz0', .inr ⟨b, base, arr, e', [], [], hl, g2, by simp, .nil, rfl⟩⟩)
            simp only [List.cons_append, List.nodup_cons, List.mem_append, List.nodup_append] at hndX
            simp only [List.singleton_append, List.nodup_cons]
            exact ⟨fun hm => hndX.1 (.inr hm), hnd1⟩
        · exact empty (some ⟨b, o, none⟩) 0 _ T1 d2 hT1 hnd1 rfl hm hbytes
      | sl _ _ _ _ b base cap arr e' fz hn' hb hs' hlc hm _ =>
        rcases d1 with ⟨g1, _⟩ | ⟨b', base', arr', e'', cs', F, g1, g2, g3, g4, rfl⟩
        · rw [hn'] at g1; simp at g1
        · rw [hn'] at g1
          simp at g1
          obtain ⟨rfl, rfl⟩ := g1
          rw [hb] at g2
          simp at g2
          obtain ⟨rfl, rfl, rfl⟩ := g2
          obtain ⟨ms, G, m1, m2, m3, m4⟩ := g4.mid hle
          have hGT : ∀ y ∈ G, y ∈ T := fun y hy => d3.mem_iff.2 (by simp [m2.subset hy])
          have hndG : (G ++ T1).Nodup := by
            simp only [List.cons_append, List.nodup_cons, List.nodup_append] at hndX
            rw [List.nodup_append]
            exact ⟨m2.nodup hndX.2.1, hnd1, fun y hy z hz' => hndX.2.2.2 y (m2.subset hy) z hz'⟩
          have hbG : b ∉ G ++ T1 := by
            simp only [List.cons_append, List.nodup_cons, List.mem_append] at hndX
            intro hm'
            rcases List.mem_append.1 hm' with hm' | hm'
            · exact hndX.1 (.inl (m2.subset hm'))
            · exact hndX.1 (.inr hm')
          have hmsT : ∀ j c, ms[j]? = some c → arr[base + off + j]? = some c := fun j c hj => by rw [Nat.add_assoc]; exact g3 _ c (m3 j c hj)
          have hne : ∀ x, (x ∉ T ∨ x ∈ T1) → x ≠ b := by
            intro x hx e
            subst e
            rcases hx with hx | hx
            · exact hx (d3.mem_iff.2 (by simp))
            · exact hbG (by simp [hx])
          by_cases hroom : len + news.length / sizeT P e ≤ cap
          · have hfit : base + off + len * sizeT P e + ncs.length ≤ arr.size := by
              have h1 : (len + news.length / sizeT P e) * sizeT P e ≤ cap * sizeT P e := Nat.mul_le_mul_right _ hroom
              rw [Nat.add_mul] at h1
              have h2 := hsrc.cnt
              omega
            have hr := app_room (P := P) (rt := rt) hu hu2 hi hsrc (b := b) (o := base + off) (sLen := len) (sCap := cap) hb hone hroom hfit
            refine ⟨_, _, hr, ?_⟩
            have hsize : (setRange arr.toList (base + off + len * sizeT P e) ncs).toArray.size = arr.size := by simp [setRange_length]
            have hother : ∀ x, x ≠ b → SameAt w (w.setRow b (setRange arr.toList (base + off + len * sizeT P e) ncs).toArray) x := fun x hx => setRow_other w b x _ hx
            have hnewb := setRow_heap w b arr (setRange arr.toList (base + off + len * sizeT P e) ncs).toArray e' (0, 0) hb
            refine h.push hd d2 hT1 (l := some (b, base + off)) (X := b :: G) (by rw [size_setRow]; exact Nat.le_refl _) (fun x _ hx => hother x (hne x hx)) ?_ ?_ ?_ ?_ (fun k => ?_) (fun k => ?_)
            · intro x _ arr2 e2 fz2 hbb
              by_cases hbe : x = b
              · subst hbe
                rw [hb] at hbb
                simp at hbb
                obtain ⟨rfl, rfl, rfl⟩ := hbb
                exact ⟨_, e', (0, 0), hnewb, hsize⟩
              · exact ⟨arr2, e2, fz2, (hother x hbe).trans hbb, rfl⟩
            · rw [List.cons_append, List.nodup_cons]; exact ⟨hbG, hndG⟩
            · intro x hx
              rcases List.mem_cons.1 hx with rfl | hx
              · exact .inl (d3.mem_iff.2 (by simp))
              · exact .inl (hGT x hx)
            · refine ⟨h.fr.os, h.fr.tape, h.fr.output, by rw [size_setRow]; exact h.fr.size, fun x hx hxL => (hother x (fun e => ?_)).trans (h.fr.block x hx hxL), fun x hx arr2 e2 fz2 hbb => ?_⟩
              · subst e
                rcases h.own x (d3.mem_iff.2 (by simp)) with ho | ho
                · exact hxL ho
                · omega
              · obtain ⟨arr3, e3, fz3, q1, q2⟩ := h.fr.shape x hx arr2 e2 fz2 hbb
                by_cases hbe : x = b
                · subst hbe
                  rw [hb] at q1
                  simp at q1
                  obtain ⟨rfl, rfl, rfl⟩ := q1
                  exact ⟨_, e', (0, 0), hnewb, hsize.trans q2⟩
                · exact ⟨arr3, e3, fz3, (hother x hbe).trans q1, q2⟩
            · refine .inr ⟨b, base + off, _, e', ms ++ ncs, G, ext_new _ _ _, hnewb, fun j c hj => ?_, ?_, rfl⟩
              · rw [List.getElem?_toArray, setRange_get _ _ _ _ (by simpa using hfit)]
                have hml : ms.length = len * sizeT P e := m4
                have hjl := (List.getElem?_eq_some_iff.1 hj).1
                rw [List.length_append] at hjl
                by_cases hj2 : j < ms.length
                · rw [List.getElem?_append_left hj2] at hj
                  rw [if_neg (by omega)]
                  simpa using hmsT j c hj
                · rw [List.getElem?_append_right (by omega)] at hj
                  rw [if_pos (by omega)]
                  rw [show base + off + j - (base + off + len * sizeT P e) = j - ms.length by omega]
                  exact hj
              · have := (m1.kept k (fun x hx => hother x (fun e => hbG (e ▸ by simp [hx])))).append (hn.kept k (by simp))
                simpa using this
            · have := RV.sl (N := ext N s.2 (some (b, base + off))) (U := Un w0 U0 (w.setRow b (setRange arr.toList (base + off + len * sizeT P e) ncs).toArray) (b :: G ++ T1)) s.2 (sizeT P e) 0 (len + news.length / sizeT P e) b (base + off) cap _ e' (0, 0) (ext_new _ _ _) hnewb (by rw [hsize]; omega) hroom hm hz
              simpa using this
          · have hle2 : (len + news.length / sizeT P e) * i.bytes ≤ 140737488355328 := by rw [hib]; exact hbytes
            have hm63 : len + news.length / sizeT P e ≤ maxLen := by
              have : len + news.length / sizeT P e ≤ (len + news.length / sizeT P e) * bytes := Nat.le_mul_of_pos_right _ (Nat.pos_of_ne_zero hb47)
              simp only [maxLen]; omega
            have hr := app_grow (P := P) (rt := rt) hu hu2 hi2 hz0 hsrc (base := some ⟨b, base + off, none⟩) (sLen := len) (sCap := cap) (ocs := ms) (fun w' hw => first_some m4 (fun j c hj => by rw [cell_of_arr hb]; exact hmsT j c hj) hw) (by omega) (by simp only [maxLen] at hm63; omega) (growslice_fits (by omega) hle2)
            refine ⟨_, _, hr, ?_⟩
            have hgc := grownCap_ge w (len + news.length / sizeT P e) cap e
            have hgm := grownCap_le_maxLen w (len + news.length / sizeT P e) cap e hm63
            exact h.grow hd d2 hT1 hGT hndG m1 hn (rest := (Builtin.zeroCells zv.cells (grownCap w (len + news.length / sizeT P e) cap e - (len + news.length / sizeT P e))).toList) (e := e) (sz := sizeT P e) (len := len + news.length / sizeT P e) hz hgc hgm
              (grown_size hzs ms ncs m4 hsrc.cnt hgc)
    · simp at hev
end
end Go.Proofs.Ytkbgmkkboiihnaa
namespace Go.Proofs.Ytkbgmkkboiihnaa
open Go Go.RowKit

section
variable {N : Nm} {U : Nat → Prop} {w : World}
/-- A value without names does not care for names; and may read more. -/
theorem nonm_ok {N' : Nm} {U' : Nat → Prop} (hU : ∀ b, U b → U' b) : ∀ (k : Nat) (v : V) (c : Value) (F : List Nat), nonm k v = true → RV N U w v c F → RV N' U' w v c F := by
  intro k
  induction k with
  | zero => intro v c F hn h; simp [nonm] at hn
  | succ k ih =>
    intro v c F hn h
    have sub : ∀ (cells : List V), cells.all (nonm k) = true → ∀ (cs : List Value) (G : List Nat), RVs N U w cells cs G → RVs N' U' w cells cs G := by
      intro cells hc cs G hv
      exact hv.mapN fun v c G' hm hr => ih v c G' (List.all_eq_true.1 hc v hm) hr
    cases h with
    | undef => exact .undef _
    | ub => exact .ub _
    | nfn => exact .nfn
    | int => exact .int _ _
    | bool => exact .bool _
    | str => exact .str _
    | nil => exact .nil
    | listE => exact .listE _ _ _
    | list sz cells b o len cap cs hUb hl hlc hm hz hc hv => exact .list sz cells b o len cap cs (hU b hUb) hl hlc hm hz hc (sub cells (by simpa [nonm] using hn) cs [] hv)
    | ownE => exact .ownE _
    | own sz cells b o len cap arr e cs F _ hb hl hs hlc hm hz hc hv hF =>
      exact .own sz cells b o len cap arr e cs F _ hb hl hs hlc hm hz hc (sub cells (by simpa [nonm] using hn) cs F hv) hF
    | agg parts cs F hv => exact .agg _ cs F (sub parts (by simpa [nonm] using hn) cs F hv)
    | tup parts cs F hv => exact .tup _ cs F (sub parts (by simpa [nonm] using hn) cs F hv)
    | sl => simp [nonm] at hn
    | slE => simp [nonm] at hn
    | slZ => simp [nonm] at hn
    | pt => simp [nonm] at hn
    | rp cells b o cs hUb hc hv => exact .rp cells b o cs (hU b hUb) hc (sub cells (by simpa [nonm] using hn) cs [] hv)
    | fn f caps cs hv => exact .fn f caps cs (sub caps (by simpa [nonm] using hn) cs [] hv)
theorem RVs.mapS {N' : Nm} {g : V → V} {vs : List V} {cs : List Value} {F : List Nat} (h : RVs N U w vs cs F) (hg : ∀ v c G, v ∈ vs → RV N U w v c G → RV N' U w (g v) c G) : RVs N' U w (vs.map g) cs F := by
  induction vs generalizing cs F with
  | nil => cases h; exact .nil
  | cons v vs ih =>
    cases h with
    | cons _ _ c cs F Fs _ h hs hE => exact .cons _ _ _ _ F Fs _ (hg _ _ _ (by simp) h) (ih hs (fun v c G hv hr => hg v c G (by simp [hv]) hr)) hE
/-- Name 0 becomes 'n'. -/
theorem ren0_ok {l : Loc} {n : Nat} {N' : Nm} (hn : N' n = some l) : ∀ (k : Nat) (v : V) (c : Value) (F : List Nat), nolist k v = true → RV (fun m => if m = 0 then some l else none) U w v c F → RV N' U w (ren0 n k v) c F := by
  have nm : ∀ {m : Nat} {q : Loc}, (fun m => if m = 0 then some l else none : Nm) m = some q → m = 0 ∧ q = l := by
    intro m q h
    simp only at h
    split at h
    · rename_i e; exact ⟨e, by simpa using h.symm⟩
    · cases h
  intro k
  induction k with
  | zero => intro v c F hn h; simp [nolist] at hn
  | succ k ih =>
    intro v c F hl h
    have sub : ∀ (cells : List V), cells.all (nolist k) = true → ∀ (cs : List Value) (G : List Nat), RVs (fun m => if m = 0 then some l else none) U w cells cs G → RVs N' U w (cells.map (ren0 n k)) cs G := by
      intro cells hc cs G hv
      exact hv.mapS fun v c G' hm hr => ih v c G' (List.all_eq_true.1 hc v hm) hr
    cases h with
    | undef => exact .undef _
    | ub => exact .ub _
    | nfn => exact .nfn
    | int => exact .int _ _
    | bool => exact .bool _
    | str => exact .str _
    | nil => exact .nil
    | listE => exact .listE _ _ _
    | list => simp [nolist] at hl
    | ownE => exact .ownE _
    | own sz cells b o len cap arr e cs F _ hb hl' hs hlc hm hz hc hv hF =>
      exact .own sz _ b o len cap arr e cs F _ hb (by simpa using hl') hs hlc hm hz hc (sub cells (by simpa [nolist] using hl) cs F hv) hF
    | agg parts cs F hv => exact .agg _ cs F (sub parts (by simpa [nolist] using hl) cs F hv)
    | tup parts cs F hv => exact .tup _ cs F (sub parts (by simpa [nolist] using hl) cs F hv)
    | sl m sz off len b base cap arr e fz h1 hb hs hlc hm hz =>
      obtain ⟨rfl, h2⟩ := nm h1
      simp only [ren0, if_true]
      exact .sl n sz off len b base cap arr e fz (by rw [hn, h2]) hb hs hlc hm hz
    | slE m sz h1 =>
      obtain ⟨rfl, h2⟩ := nm h1
      simp only [ren0, if_true]
      exact .slE n sz (by rw [hn, h2])
    | slZ m sz off b base o arr e fz h1 hb ho hz =>
      obtain ⟨rfl, h2⟩ := nm h1
      simp only [ren0, if_true]
      exact .slZ n sz off b base o arr e fz (by rw [hn, h2]) hb ho hz
    | pt m off b base h1 =>
      obtain ⟨rfl, h2⟩ := nm h1
      simp only [ren0, if_true]
      exact .pt n off b base (by rw [hn, h2])
    | rp => simp [nolist] at hl
    | fn => simp [nolist] at hl
end

section
variable {P : Program} {w0 : World} {U0 : Nat → Prop} {L0 : List Nat} {N0 : Nm} {k0 nt : Nat} {t : Nat → V} {s : Hp} {N : Nm} {T : List Nat} {a : Act} {w : World}

/-- Behind a call that writes into the row of name 'n'. -/
theorem RS.lent (h : RS w0 U0 L0 N0 k0 nt t s N T a w) {dst : Option Nat} (hd : ∀ d, dst = some d → d < nt) {n : Nat} {cells cells' : List V} (hg : hget s.1 n = some cells) {l : Loc} (hl : N n = some l) {X T1 : List Nat}
    (h2 : RH N (Un w0 U0 w T) w (hdel s.1 n) T1) (h3 : T.Perm (X ++ T1)) {w' : World} {c : Value} {F T' : List Nat} {r : V} (hnl : nolist 6 r = true) (hnm : cells'.all (nonm 6) = true) {Ul : Nat → Prop}
    (hnd : (F ++ T').Nodup) (hsub : ∀ b ∈ F ++ T', b ∈ X ∨ (w.heap.size ≤ b ∧ b < w'.heap.size))
    (hr : RV (fun m => if m = 0 then some l else none) Ul w' r c F) (hh : RH (fun m => if m = 0 then some l else none) Ul w' [(0, cells')] T')
    (hq : cells'.all (nolist 6) = true ∨ ∀ b, Ul b → Un w0 U0 w T b ∨ (w.heap.size ≤ b ∧ b < w'.heap.size ∧ b ∉ F ++ T')) (hk : KeepBut X w w') :
    ∃ N' T2, RS w0 U0 L0 N0 k0 nt (upd t dst (opn 6 (ren0 n 6 r) (hset s.1 n cells', s.2)).1) (opn 6 (ren0 n 6 r) (hset s.1 n cells', s.2)).2 N' T2 (a.put dst c) w' := by
  have hTlt := h.hp.lt
  have hmem : ∀ x, x ∈ T ↔ x ∈ X ++ T1 := fun x => h3.mem_iff
  have hndT : (X ++ T1).Nodup := h3.nodup_iff.1 h.nd
  have hXT : ∀ x ∈ X, x ∈ T := fun x hx => (hmem x).2 (by simp [hx])
  have hT1T : ∀ x ∈ T1, x ∈ T := fun x hx => (hmem x).2 (by simp [hx])
  have hXT1 : ∀ x ∈ X, x ∉ T1 := fun x hx hx' => (List.nodup_append.1 hndT).2.2 x hx x hx' rfl
  have hFT1 : ∀ x ∈ F ++ T', x ∉ T1 := fun x hx hx' => by
    rcases hsub x hx with hx2 | hx2
    · exact hXT1 x hx2 hx'
    · have := hTlt x (hT1T x hx'); omega
  -- the blocks that may be read behind the call
  let U2 : Nat → Prop := fun b => b < w'.heap.size ∧ b ∉ T1 ∧ b ∉ F ++ T' ∧ (U0 b ∨ w0.heap.size ≤ b)
  have k1 : Kept N N (Un w0 U0 w T) U2 w w' := by
    refine ⟨fun b hU => ⟨hk.block b hU.1 (fun hx => hU.2.1 (hXT b hx)), Nat.lt_of_lt_of_le hU.1 hk.size, fun hx => hU.2.1 (hT1T b hx), fun hx => ?_, hU.2.2⟩, fun _ _ h => h, fun m b base hm arr e fz hb => hk.shape b (heap_lt hb) arr e fz hb⟩
    rcases hsub b hx with hx | hx
    · exact hU.2.1 (hXT b hx)
    · have := hU.1; omega
  have g2 : RH N U2 w' (hdel s.1 n) T1 := h2.kept k1 (fun x hx => hk.block x (hTlt x (hT1T x hx)) (fun hX => hXT1 x hX hx))
  -- the row that was lent
  obtain ⟨Y, T0, e1, e2, e3⟩ := hh.pop
  have hT0 : T0 = [] := by cases e2; rfl
  subst hT0
  simp only [List.append_nil] at e3
  subst e3
  have hent : Ent N U2 w' n cells' T' := by
    have hcv : ∀ cs G, RVs (fun m => if m = 0 then some l else none) Ul w' cells' cs G → RVs N U2 w' cells' cs G := by
      intro cs G hv
      rcases hq with hq | hq
      · have v1 : RVs (fun m => if m = 0 then some l else none) U2 w' cells' cs G := hv.mapN fun v c G' hm hr => nolist_ok (fun _ _ h => h) 6 v c G' (List.all_eq_true.1 hq v hm) hr
        exact v1.mapN fun v c G' hm hr => nonm_ok (fun _ h => h) 6 v c G' (List.all_eq_true.1 hnm v hm) hr
      · refine hv.mapN fun v c G' hm hr => nonm_ok (fun b hb => ?_) 6 v c G' (List.all_eq_true.1 hnm v hm) hr
        rcases hq b hb with hb | hb
        · refine ⟨Nat.lt_of_lt_of_le hb.1 hk.size, fun hx => hb.2.1 (hT1T b hx), fun hx => ?_, hb.2.2⟩
          rcases hsub b hx with hx | hx
          · exact hb.2.1 (hXT b hx)
          · have := hb.1; omega
        · exact ⟨hb.2.1, fun hx => by have := hTlt b (hT1T b hx); omega, hb.2.2, .inr (Nat.le_trans h.fr.size hb.1)⟩
    rcases e1 with ⟨q1, rfl, rfl⟩ | ⟨b, base, arr, e, cs, G, q1, q2, q3, q4, rfl⟩
    · exact .inl ⟨by simp at q1; rw [hl, q1], rfl, rfl⟩
    · exact .inr ⟨b, base, arr, e, cs, G, by simp at q1; rw [hl, q1], q2, q3, hcv cs G q4, rfl⟩
  obtain ⟨T3, i1, i2⟩ := RH.ins hg g2 hent
  have hr2 : RV N U2 w' (ren0 n 6 r) c F := ren0_ok hl 6 r c F hnl (nolist_ok (fun _ _ h => h) 6 r c F hnl hr)
  obtain ⟨N', T4, D, a1, a2, a3, a4, a5, a6, a7⟩ := opn_ok 6 (ren0 n 6 r) c F N (hset s.1 n cells', s.2) T3 hr2 i1 h.nx
  have hm4 : ∀ x ∈ T4, x ∈ F ++ T' ∨ x ∈ T1 := fun x hx => by
    have p := a7.mem_iff (a := x)
    simp only [List.mem_append] at p
    rcases p.1 (.inl hx) with hx | hx
    · exact .inl (by simp [hx])
    · rcases List.mem_append.1 (i2.mem_iff.1 hx) with hx | hx
      · exact .inl (by simp [hx])
      · exact .inr hx
  have hU4 : ∀ b, U2 b → Un w0 U0 w' T4 b := fun b hb => ⟨hb.1, fun hm => (hm4 b hm).elim hb.2.2.1 hb.2.1, hb.2.2.2⟩
  have k2 : Kept N' N' U2 (Un w0 U0 w' T4) w' w' := kept_refl N' w' hU4
  have k3 : Kept N N' (Un w0 U0 w T) (Un w0 U0 w' T4) w w' := ⟨fun b hb => ⟨(k1.u b hb).1, hU4 b (k1.u b hb).2⟩, a1, k1.s⟩
  refine ⟨N', T4, h.step hd k3 (a5.kept k2 (by simp)) (a6.kept k2 (fun _ _ => rfl)) ?_ ?_ ?_ a2 a4 a3⟩
  · have n1 : (F ++ T3).Nodup := by
      have p : (F ++ T3).Perm (F ++ (T' ++ T1)) := i2.append_left F
      rw [p.nodup_iff, ← List.append_assoc, List.nodup_append]
      exact ⟨hnd, (List.nodup_append.1 hndT).2.1, fun x hx y hy e => hFT1 x hx (e ▸ hy)⟩
    exact (List.nodup_append.1 (a7.nodup_iff.2 n1)).1
  · intro b hb
    rcases hm4 b hb with hx | hx
    · rcases hsub b hx with hx | hx
      · exact h.own b (hXT b hx)
      · exact .inr (Nat.le_trans h.fr.size hx.1)
    · exact h.own b (hT1T b hx)
  · refine ⟨hk.os.trans h.fr.os, hk.tape.trans h.fr.tape, hk.output.trans h.fr.output, Nat.le_trans h.fr.size hk.size, fun i hi hL => ?_, fun i hi arr e fz hb => ?_⟩
    · refine (hk.block i (Nat.lt_of_lt_of_le hi h.fr.size) (fun hx => ?_)).trans (h.fr.block i hi hL)
      rcases h.own i (hXT i hx) with ho | ho
      · exact hL ho
      · omega
    · obtain ⟨arr1, e1, fz1, q1, q2⟩ := h.fr.shape i hi arr e fz hb
      obtain ⟨arr2, e2, fz2, q3, q4⟩ := hk.shape i (Nat.lt_of_lt_of_le hi h.fr.size) arr1 e1 fz1 q1
      exact ⟨arr2, e2, fz2, q3, q4.trans q2⟩

/-- The arguments of such a call. -/
theorem lend_args (h : RS w0 U0 L0 N0 k0 nt t s N T a w) {n : Nat} {l : Loc} {T1 : List Nat} (h2 : RH N (Un w0 U0 w T) w (hdel s.1 n) T1) {U' : Nat → Prop} (hU : ∀ b, Un w0 U0 w T b → U' b)
    {os : List Operand} {xs : List Opd} (hc : compOpds os = some xs) {i : Nat} (hT1 : (∀ b ∈ T1, U' b) ∨ ((xs.eraseIdx i).all fun x => noname 6 (x.ev t)) = true) {v : V} {cv : Value} (hi : (os[i]?).map a.eval = some cv)
    (hv : RV (fun m => if m = 0 then some l else none) U' w v cv []) : RVs (fun m => if m = 0 then some l else none) U' w ((xs.map fun x => dr (hdel s.1 n) 6 (x.ev t)).set i v) (os.map a.eval) [] := by
  induction os generalizing xs i with
  | nil => simp at hi
  | cons o os ih =>
    unfold compOpds at hc
    split at hc
    · rename_i x xs' c1 c2
      simp only [Option.some.injEq] at hc
      subst hc
      have lift : ∀ v c, RV (fun _ => none) U' w v c [] → RV (fun m => if m = 0 then some l else none) U' w v c [] := fun v c hr => hr.kept ⟨fun b hb => ⟨rfl, hb⟩, by simp, by simp⟩ (by simp)
      have lifts : ∀ vs cs, RVs (fun _ => none) U' w vs cs [] → RVs (fun m => if m = 0 then some l else none) U' w vs cs [] := fun vs cs hr => hr.kept ⟨fun b hb => ⟨rfl, hb⟩, by simp, by simp⟩ (by simp)
      cases i with
      | zero =>
        simp at hi
        subst hi
        simp only [List.map_cons, List.set_cons_zero]
        refine .cons _ _ _ _ [] [] _ hv (lifts _ _ (args_ok h2 hU c2 h.sl 6 ?_)) rfl
        rcases hT1 with hT1 | hT1
        · exact .inl hT1
        · exact .inr (by simpa using hT1)
      | succ i =>
        simp at hi
        simp only [List.map_cons, List.set_cons_succ]
        refine .cons _ _ _ _ [] [] _ (lift _ _ (dr_ok h2 hU 6 _ _ [] ?_ (compOpd_ok c1 h.sl))) (ih c2 ?_ (by simpa using hi)) rfl
        · rcases hT1 with hT1 | hT1
          · exact .inl ⟨hT1, by simp⟩
          · simp only [List.eraseIdx_cons_succ, List.all_cons, Bool.and_eq_true] at hT1
            exact .inr hT1.1
        · rcases hT1 with hT1 | hT1
          · exact .inl hT1
          · simp only [List.eraseIdx_cons_succ, List.all_cons, Bool.and_eq_true] at hT1
            exact .inr hT1.2
    · simp at hc
end
end Go.Proofs.Ytkbgmkkboiihnaa
namespace Go.Proofs.Ytkbgmkkboiihnaa
open Go Go.RowKit

section
variable {P : Program} {w0 : World} {U0 : Nat → Prop} {L0 : List Nat} {N0 : Nm} {k0 nt : Nat} {t : Nat → V} {s : Hp} {N : Nm} {T : List Nat} {a : Act} {w : World}

theorem RS.quiet (h : RS w0 U0 L0 N0 k0 nt t s N T a w) {Γ : Env} (hΓ : EnvOk P Γ) {o : Oper} {so : SO} (hc : compOp P o = some so) (hd : ∀ d, o.dst = some d → d < nt) {v : V} (he : evQ Γ s.1 (Opd.ev t) so = some (true, v))
    {K : Act → World → Prop} {Q : Exit → Act → World → Prop} (hK : ∀ a' w' N' T', RS w0 U0 L0 N0 k0 nt (upd t o.dst (opn 6 v s).1) (opn 6 v s).2 N' T' a' w' → K a' w') : o.wp P a w K Q := by
  refine evQ_wp hΓ hc h.sl h.hp (fun b hb => hb.1) h.hp.lt he ?_
  intro c w' F hb hF hv
  obtain ⟨N', T', hr⟩ := h.back hd hb hF hv
  exact hK _ _ _ _ hr

theorem RS.lendCall (h : RS w0 U0 L0 N0 k0 nt t s N T a w) {f : FuncId} {i : Nat} {G : List V → List V → Option (V × List V)} (hf : LendOk P f i G) {o : Oper} {c : Call} (ho : o.op = .call c) (hcal : c.callee = .value (.func f))
    {xs : List Opd} (hxs : compOpds c.args.toList = some xs) (hd : ∀ d, o.dst = some d → d < nt) {n : Nat} {v0 v1 : V} (hv0 : (xs[i]?).map (Opd.ev t) = some v0)
    (hv1 : ∀ (c : Value) (U' : Nat → Prop), RV N (Un w0 U0 w T) w v0 c [] → ∃ l, N n = some l ∧ RV (fun m => if m = 0 then some l else none) U' w v1 c [])
    {cells cells' : List V} (hg : hget s.1 n = some cells) {r : V} (hG : G ((xs.map fun x => dr (hdel s.1 n) 6 (x.ev t)).set i v1) cells = some (r, cells'))
    (hb : (nolist 6 r && cells.all (nonm 6) && cells'.all (nonm 6) && (cells'.all (nolist 6) || (xs.eraseIdx i).all fun x => noname 6 (x.ev t))) = true)
    {K : Act → World → Prop} {Q : Exit → Act → World → Prop} (hK : ∀ a' w' N' T', RS w0 U0 L0 N0 k0 nt (upd t o.dst (opn 6 (ren0 n 6 r) (hset s.1 n cells', s.2)).1) (opn 6 (ren0 n 6 r) (hset s.1 n cells', s.2)).2 N' T' a' w' → K a' w') : o.wp P a w K Q := by
  simp only [Bool.and_eq_true, Bool.or_eq_true] at hb
  obtain ⟨⟨⟨b1, b2⟩, b3⟩, b4⟩ := hb
  have hTlt := h.hp.lt
  obtain ⟨X, T1, d1, d2, d3⟩ := h.hp.del hg
  have hmem : ∀ x, x ∈ T ↔ x ∈ X ++ T1 := fun x => d3.mem_iff
  have hndT : (X ++ T1).Nodup := d3.nodup_iff.1 h.nd
  -- the argument that is lent
  obtain ⟨x0, hx0, he0⟩ := opt_map hv0
  have hos : ∃ cv, ((c.args.toList)[i]?).map a.eval = some cv ∧ RV N (Un w0 U0 w T) w v0 cv [] := by
    have key : ∀ (os : List Operand) (xs : List Opd) (i : Nat), compOpds os = some xs → xs[i]? = some x0 → ∃ cv, (os[i]?).map a.eval = some cv ∧ RV N (Un w0 U0 w T) w (x0.ev t) cv [] := by
      intro os
      induction os with
      | nil => intro xs i hc hx; simp [compOpds] at hc; subst hc; simp at hx
      | cons o os ih =>
        intro xs i hc hx
        unfold compOpds at hc
        split at hc
        · rename_i x xs' c1 c2
          simp only [Option.some.injEq] at hc
          subst hc
          cases i with
          | zero => simp at hx; subst hx; exact ⟨_, rfl, compOpd_ok c1 h.sl⟩
          | succ i => simp at hx; simpa using ih xs' i c2 hx
        · simp at hc
    obtain ⟨cv, q1, q2⟩ := key _ _ i hxs hx0
    exact ⟨cv, q1, he0 ▸ q2⟩
  obtain ⟨cv, hcv, hrv⟩ := hos
  have hrun : (execOp a.eval o).run P w = .ok (.enter f (c.args.toList.map a.eval).toArray) w := by
    have e1 : (c.args.toList.map a.eval).toArray = c.args.map a.eval := by apply Array.ext'; simp
    rw [e1]
    simp only [execOp, ho, resolve, hcal, Act.eval, Deferred.ofValue, Sem.run_bind, Sem.run_pure, Result.andThen_ok, invoke]
    have := callable_run hf.fn (c.args.map a.eval) w
    simpa using this
  have main : ∀ (U' : Nat → Prop), (∀ b, Un w0 U0 w T b → U' b) → (∀ b, U' b → b < w.heap.size ∧ b ∉ X) → ((∀ b ∈ T1, U' b) ∨ ((xs.eraseIdx i).all fun x => noname 6 (x.ev t)) = true) → (cells'.all (nolist 6) = true ∨ ∀ b, U' b → Un w0 U0 w T b) → o.wp P a w K Q := by
    intro U' hU1 hU2 hU3 hU4
    obtain ⟨l, hl, hrv1⟩ := hv1 cv U' hrv
    have hargs := lend_args h d2 hU1 hxs (i := i) hU3 hcv hrv1
    have hent : RH (fun m => if m = 0 then some l else none) U' w [(0, cells)] X := by
      rcases d1 with ⟨q1, rfl, rfl⟩ | ⟨b, base, arr, e, cs, F, q1, q2, q3, q4, rfl⟩
      · rw [hl] at q1
        simp only [Option.some.injEq] at q1
        exact RH.push (X := []) .nil (.inl ⟨by simp [q1], rfl, rfl⟩)
      · rw [hl] at q1
        simp only [Option.some.injEq] at q1
        have := RH.push (N := fun m => if m = 0 then some l else none) (U := U') (w := w) (n := 0) (cells := cells) (X := b :: F) .nil (.inr ⟨b, base, arr, e, cs, F, by simp [q1], q2, q3,
          q4.mapN fun v c G' hm hr => nonm_ok hU1 6 v c G' (List.all_eq_true.1 b2 v hm) hr, rfl⟩)
        simpa using this
    have hcall := hf.ok _ _ _ _ hG l U' w _ X hU2 (List.nodup_append.1 hndT).1 hargs hent
    unfold Oper.wp
    rw [hrun]
    refine Calls.mono hcall ?_
    rintro e w' ⟨c', F, T', rfl, n1, n2, n3, n4, n5⟩
    obtain ⟨N', T2, hr⟩ := h.lent (dst := o.dst) hd hg hl d2 d3 b1 b3 n1 n2 n3 n4 (by
      rcases hU4 with hU4 | hU4
      · exact .inl hU4
      · refine .inr fun b hb => ?_
        rcases hb with hb | hb
        · exact .inl (hU4 b hb)
        · exact .inr hb) n5
    exact hK _ _ _ _ hr
  rcases b4 with b4 | b4
  · refine main (fun b => b < w.heap.size ∧ b ∉ X) (fun b hb => ⟨hb.1, fun hx => hb.2.1 ((hmem b).2 (by simp [hx]))⟩) (fun b hb => hb) (.inl fun b hb => ⟨hTlt b ((hmem b).2 (by simp [hb])), fun hx => (List.nodup_append.1 hndT).2.2 b hx b hb rfl⟩) (.inl b4)
  · exact main (Un w0 U0 w T) (fun b hb => hb) (fun b hb => ⟨hb.1, fun hx => hb.2.1 ((hmem b).2 (by simp [hx]))⟩) (.inr b4) (.inr fun b hb => hb)

def SO.isQuiet : SO → Bool
  | .new _ | .box _ | .mks .. | .mk .. | .st .. | .app .. | .call .. | .ld none _ _ => false
  | _ => true
theorem evH_quiet {Γ : Env} {e : Opd → V} {s : Hp} {so : SO} (hq : so.isQuiet = true) : evH Γ e s so = match evQ Γ s.1 e so with
    | some (b, v) => some (b, opn 6 v s)
    | none => none := by
  cases so
  case ld n d x => cases n with
    | none => simp [SO.isQuiet] at hq
    | some k => rfl
  all_goals first | rfl | (simp [SO.isQuiet] at hq)
section inv
variable {o : Oper}
theorem inv_new {z : List V} (h : compOp P o = some (.new z)) : ∃ t, o.op = .alloc t ∧ zeroL P t = some z := by
  unfold compOp at h
  split at h
  case h_4 t ho => obtain ⟨z', h1, h2⟩ := opt_map h; cases h2; exact ⟨t, ho, h1⟩
  all_goals (try unfold compCall at h)
  all_goals (repeat' (first | (simp at h; done) | split at h))
theorem inv_box {x : Opd} (h : compOp P o = some (.box x)) : ∃ t x', o.op = .box t x' ∧ compOpd x' = some x := by
  unfold compOp at h
  split at h
  case h_5 t x' ho => obtain ⟨z', h1, h2⟩ := opt_map h; cases h2; exact ⟨t, x', ho, h1⟩
  all_goals (try unfold compCall at h)
  all_goals (repeat' (first | (simp at h; done) | split at h))
theorem inv_mks {len sz : Nat} {zero : List V} {qs : List (Nat × Nat × Opd)} (h : compOp P o = some (.mks len sz zero qs)) :
    ∃ t e parts z, o.op = .buildSlice t len parts ∧ P.underlying t = some (.slice e) ∧ zeroL P e = some z ∧ 0 < sizeT P e ∧ z.length = sizeT P e ∧ len * sizeT P e ≤ 65536 ∧ sz = sizeT P e ∧ zero = (List.replicate len z).flatten ∧
      compParts (fun i => some (i * sizeT P e, sizeT P e)) parts.toList = some qs := by
  unfold compOp at h
  split at h
  case h_7 t n parts ho =>
    split at h
    · rename_i e he
      split at h
      · rename_i z hz
        split at h
        · rename_i hc
          obtain ⟨q, h1, h2⟩ := opt_map h
          cases h2
          refine ⟨t, e, parts, z, ho, ?_, hz, hc.1, hc.2.1, hc.2.2, rfl, rfl, h1⟩
          unfold elemT at he
          split at he
          · rename_i hu; simp at he; rw [hu, he]
          · simp at he
        · simp at h
      · simp at h
    · simp at h
  all_goals (try unfold compCall at h)
  all_goals (repeat' (first | (simp at h; done) | split at h))
theorem inv_st {n : Nat} {x v : Opd} (h : compOp P o = some (.st n x v)) : ∃ t x' v' i, o.op = .store t x' v' ∧ compOpd x' = some x ∧ compOpd v' = some v ∧ P.info? t = some i ∧ n = i.size ∧ 0 < i.size := by
  unfold compOp at h
  split at h
  case h_9 t x' v' ho =>
    split at h
    · rename_i x1 v1 i h1 h2 h3
      split at h
      · rename_i hp
        simp only [Option.some.injEq, SO.st.injEq] at h
        obtain ⟨rfl, rfl, rfl⟩ := h
        exact ⟨t, x', v', i, ho, h1, h2, h3, rfl, hp⟩
      · simp at h
    · simp at h
  all_goals (try unfold compCall at h)
  all_goals (repeat' (first | (simp at h; done) | split at h))
theorem inv_mk {sz bytes : Nat} {zero : List V} {l c : Opd} (h : compOp P o = some (.mk sz bytes zero l c)) :
    ∃ t e l' c', o.op = .makeSlice t l' c' ∧ compOpd l' = some l ∧ compOpd c' = some c ∧ P.underlying t = some (.slice e) ∧ zeroL P e = some zero ∧ 0 < sizeT P e ∧ zero.length = sizeT P e ∧ sz = sizeT P e ∧ bytes = bytesT P e := by
  unfold compOp at h
  split at h
  case h_14 t l' c' ho =>
    split at h
    · rename_i l1 c1 e h1 h2 h3
      split at h
      · rename_i z hz
        split at h
        · rename_i hc
          simp only [Option.some.injEq, SO.mk.injEq] at h
          obtain ⟨rfl, rfl, rfl, rfl, rfl⟩ := h
          refine ⟨t, e, l', c', ho, h1, h2, ?_, hz, hc.1, hc.2, rfl, rfl⟩
          unfold elemT at h3
          split at h3
          · rename_i hu; simp at h3; rw [hu, h3]
          · simp at h3
        · simp at h
      · simp at h
    · simp at h
  all_goals (try unfold compCall at h)
  all_goals (repeat' (first | (simp at h; done) | split at h))
theorem inv_app {sz bytes : Nat} {x y : Opd} (h : compOp P o = some (.app sz bytes x y)) :
    ∃ c x' y' t u e, o.op = .call c ∧ c.callee = .builtin .append ∧ c.args = #[x', y'] ∧ c.argTypes = #[t, u] ∧ compOpd x' = some x ∧ compOpd y' = some y ∧ AppT P t u e ∧ sz = sizeT P e ∧ bytes = bytesT P e ∧ 0 < bytesT P e := by
  unfold compOp at h
  split at h
  case h_21 c ho =>
    unfold compCall at h
    split at h
    case h_4 hcal =>
      split at h
      · rename_i s1 x1 t u ha ht
        split at h
        · rename_i s2 x2 e eu h1 h2 h3 h4
          split at h
          · rename_i hc
            simp only [Option.some.injEq, SO.app.injEq] at h
            obtain ⟨rfl, rfl, rfl, rfl⟩ := h
            have el : ∀ {t e}, elemT P t = some e → P.underlying t = some (.slice e) := by
              intro t e he
              unfold elemT at he
              split at he
              · rename_i hu; simp at he; rw [hu, he]
              · simp at he
            refine ⟨c, s1, x1, t, u, e, ho, hcal, by apply Array.ext'; simpa using ha, by apply Array.ext'; simpa using ht, h1, h2, ⟨el h3, ⟨eu, el h4⟩, hc.1, hc.2.1, ?_⟩, rfl, rfl, hc.2.2.2⟩
            have hz := hc.2.2.1
            have hp := hc.2.1
            unfold zeroLen at hz
            split at hz
            · rename_i z hzl
              obtain ⟨zv, _, q2, _, i, q4, q5⟩ := zeroL_run (P := P) (N := fun _ => none) (U := fun _ => False) hzl default
              exact ⟨i, zv, q4, q5, by rw [← hz, ← q2.len]; simp⟩
            · omega
          · simp at h
        · simp at h
      · simp at h
    all_goals (repeat' (first | (simp at h; done) | split at h))
  all_goals (repeat' (first | (simp at h; done) | split at h))
theorem inv_call {f : FuncId} {xs : List Opd} (h : compOp P o = some (.call f xs)) : ∃ c, o.op = .call c ∧ c.callee = .value (.func f) ∧ compOpds c.args.toList = some xs := by
  unfold compOp at h
  split at h
  case h_21 c ho =>
    unfold compCall at h
    split at h
    case h_1 f' hcal => obtain ⟨q, h1, h2⟩ := opt_map h; cases h2; exact ⟨c, ho, hcal, h1⟩
    all_goals (repeat' (first | (simp at h; done) | split at h))
  all_goals (repeat' (first | (simp at h; done) | split at h))
end inv

section
variable {N : Nm} {U : Nat → Prop} {w : World}
/-- One cell of a row is replaced; there may be more names. -/
theorem RVs.at2 {vs : List V} : ∀ {cs : List Value} {F : List Nat}, RVs N U w vs cs F → ∀ {j : Nat} {v : V}, vs[j]? = some v →
    ∃ c Fj A B, RV N U w v c Fj ∧ F = A ++ Fj ++ B ∧ ∀ (N' : Nm), Kept N N' U U w w → ∀ v' F', RV N' U w v' c F' → RVs N' U w (vs.set j v') cs (A ++ F' ++ B) := by
  induction vs with
  | nil => intro cs F h j v hj; simp at hj
  | cons u vs ih =>
    intro cs F h j v hj
    cases h with
    | cons _ _ c cs F1 Fs _ h hs hE =>
      cases j with
      | zero =>
        simp at hj
        subst hj
        refine ⟨c, F1, [], Fs, h, by simp [hE], fun N' hk v' F' h' => ?_⟩
        exact .cons _ _ _ _ F' Fs _ h' (hs.kept hk (fun _ _ => rfl)) (by simp)
      | succ j =>
        simp at hj
        obtain ⟨c', Fj, A, B, k1, k2, k3⟩ := ih hs hj
        refine ⟨c', Fj, F1 ++ A, B, k1, by simp [hE, k2], fun N' hk v' F' h' => ?_⟩
        exact .cons _ _ _ _ F1 (A ++ F' ++ B) _ (h.kept hk (fun _ _ => rfl)) (k3 N' hk v' F' h') (by simp)
end
/-- An inner row gets a name. -/
theorem RS.unfold {t : Nat → V} {s : Hp} {N : Nm} {T : List Nat} {a : Act} {w : World} {w0 : World} {U0 : Nat → Prop} {L0 : List Nat} {N0 : Nm} {k0 nt : Nat} (hr : RS w0 U0 L0 N0 k0 nt t s N T a w) (o j sz : Nat) {co cn : List V} (ho : hget s.1 o = some co) (hj : co[j]? = some (.own sz cn)) (_hz : 0 < sz) :
    o ≠ s.2 ∧ ∃ N' T', RS w0 U0 L0 N0 k0 nt t ((s.2, cn) :: hset s.1 o (co.set j (.sl s.2 sz 0 (cn.length / sz))), s.2 + 1) N' T' a w := by
  have hN : N s.2 = none := hr.nx s.2 (Nat.le_refl _)
  have hk : ∀ (L : Loc) (U : Nat → Prop), Kept N (fun n => if n = s.2 then some L else N n) U U w w := fun L U => ⟨fun b hb => ⟨rfl, hb⟩, fun n l h => by
    by_cases e : n = s.2
    · subst e; rw [hN] at h; simp at h
    · simpa [e] using h, fun _ _ _ _ => SameAt.shape rfl⟩
  obtain ⟨Xo, T2, f1, f2, f3⟩ := hr.hp.del ho
  rcases f1 with ⟨g1, rfl, rfl⟩ | ⟨b, base, arr, e, cs, F, g1, g2, g3, g4, rfl⟩
  · simp at hj
  · obtain ⟨c, Fj, A, B, k1, k2, k3⟩ := g4.at2 hj
    have hne : o ≠ s.2 := fun e => by rw [e, hN] at g1; simp at g1
    have key : ∃ (L : Loc), (∀ (U' : Nat → Prop), RV (fun n => if n = s.2 then some L else N n) U' w (.sl s.2 sz 0 (cn.length / sz)) c []) ∧ Ent (fun n => if n = s.2 then some L else N n) (Un w0 U0 w T) w s.2 cn Fj := by
      cases k1 with
      | ownE =>
        refine ⟨none, fun U' => ?_, .inl ⟨by simp, rfl, rfl⟩⟩
        simpa using RV.slE (N := fun n => if n = s.2 then some none else N n) (U := U') (w := w) s.2 sz (by simp)
      | own _ _ b' o' len cap arr' e' cs' F' _ hb hl hs hlc hm hz' hc h hF =>
        refine ⟨some (b', o'), fun U' => ?_, .inr ⟨b', o', arr', e', cs', F', by simp, hb, hc, h.kept (hk _ _) (fun _ _ => rfl), hF⟩⟩
        have hq : cn.length / sz = len := by rw [hl]; exact Nat.mul_div_cancel len hz'
        rw [hq]
        simpa using RV.sl (N := fun n => if n = s.2 then some (some (b', o')) else N n) (U := U') s.2 sz 0 len b' o' cap arr' e' (0, 0) (by simp) hb (by omega) hlc hm hz'
    obtain ⟨L, q1, q2⟩ := key
    have hrow := k3 _ (hk L _) _ [] (q1 _)
    obtain ⟨T3, m1, m2⟩ := RH.ins (N := fun n => if n = s.2 then some L else N n) (X := b :: (A ++ [] ++ B)) ho (f2.kept (hk L _) (fun _ _ => rfl)) (.inr ⟨b, base, arr, e, cs, A ++ [] ++ B, by simp [hne, g1], g2, g3, hrow, rfl⟩)
    have hperm : (Fj ++ T3).Perm T := by
      refine (List.Perm.append_left Fj m2).trans (List.Perm.trans ?_ f3.symm)
      rw [k2]
      simp only [List.append_nil, List.cons_append, List.append_assoc]
      refine List.Perm.trans (List.perm_middle) (List.Perm.cons b ?_)
      exact List.perm_append_comm_assoc Fj A (B ++ T2)
    have hmem : ∀ x, x ∈ Fj ++ T3 ↔ x ∈ T := fun x => hperm.mem_iff
    have hU : ∀ x, Un w0 U0 w T x → Un w0 U0 w (Fj ++ T3) x := fun x hx => ⟨hx.1, fun hm => hx.2.1 ((hmem x).1 hm), hx.2.2⟩
    have kk := kept_refl (fun n => if n = s.2 then some L else N n) w hU
    refine ⟨hne, fun n => if n = s.2 then some L else N n, Fj ++ T3, hr.tsz, hr.dfr, fun i => ((hr.sl i).kept (hk L _) (by simp)).kept kk (by simp), (m1.push q2).kept kk (fun _ _ => rfl), hperm.nodup_iff.2 hr.nd, fun x hx => hr.own x ((hmem x).1 hx), hr.fr, fun n h => ?_, fun n h => ?_, Nat.le_succ_of_le hr.kn, hr.lh⟩
    · have h2 : n ≠ s.2 := fun e => by rw [e] at h; exact absurd h (by show ¬ (s.2 + 1 ≤ s.2); omega)
      simp only [h2, if_false]
      exact hr.nx n (Nat.le_of_succ_le h)
    · have h2 : n ≠ s.2 := fun e => by
        have := hr.kn
        omega
      simp only [h2, if_false]
      exact hr.nl n h
theorem hget_hset {H : List (Nat × List V)} : ∀ {n : Nat} {old c : List V}, hget H n = some old → hget (hset H n c) n = some c := by
  induction H with
  | nil => intro n old c h; simp [hget] at h
  | cons p H ih =>
    obtain ⟨i, d⟩ := p
    intro n old c h
    simp only [hget, hset] at h ⊢
    split
    · rename_i e; simp [hget, e]
    · rename_i e
      rw [if_neg e] at h
      simp [hget, e, ih h]
set_option maxHeartbeats 1000000 in
theorem RS.oper (h : RS w0 U0 L0 N0 k0 nt t s N T a w) {Γ : Env} (hΓ : EnvOk P Γ) {o : Oper} {so : SO} (hc : compOp P o = some so) (hd : ∀ d, o.dst = some d → d < nt) {v : V} {s' : Hp} (he : evH Γ (Opd.ev t) s so = some (true, v, s'))
    {K : Act → World → Prop} {Q : Exit → Act → World → Prop} (hK : ∀ a' w' N' T', RS w0 U0 L0 N0 k0 nt (upd t o.dst v) s' N' T' a' w' → K a' w') : o.wp P a w K Q := by
  have lift : ∀ (s : Sem Value) c w', s.run P w = .ok c w' → ((do pure (.value (← s))) : Sem Next).run P w = .ok (.value c) w' := fun s c w' h => by simp [h]
  by_cases hq : so.isQuiet = true
  · rw [evH_quiet hq] at he
    split at he
    · rename_i b v1 h1
      simp only [Option.some.injEq, Prod.mk.injEq] at he
      obtain ⟨rfl, h2⟩ := he
      refine h.quiet hΓ hc hd h1 ?_
      intro a' w' N' T' hr
      rw [h2] at hr
      exact hK _ _ _ _ hr
    · simp at he
  cases so <;> try (exact absurd rfl hq)
  case ld n d x =>
    cases n with
    | some k => exact absurd rfl hq
    | none =>
      simp only [evH] at he
      split at he
      · rename_i nm off hx
        split at he
        · rename_i cells hg
          have other : ∀ v1, cells.getD off d = v1 → v1.cell = true → off < cells.length → v = (opn 6 v1 s).1 → s' = (opn 6 v1 s).2 → o.wp P a w K Q := by
            intro v1 e1 e2 e3 e4 e5
            refine h.quiet hΓ hc hd (v := v1) ?_ ?_
            · simp only [evQ, hx, hg, e1, e2, e3, decide_true, Bool.and_self]
            · intro a' w' N' T' hr
              rw [← e4, ← e5] at hr
              exact hK _ _ _ _ hr
          cases hv1 : cells.getD off d
          case own sz cn =>
            rw [hv1] at he
            simp only [ldU, Option.some.injEq, Prod.mk.injEq, Bool.and_eq_true, decide_eq_true_eq] at he
            obtain ⟨⟨hlt, hz⟩, rfl, rfl⟩ := he
            have hj : cells[off]? = some (.own sz cn) := by
              rw [List.getD_eq_getElem?_getD, List.getElem?_eq_getElem hlt] at hv1
              rw [List.getElem?_eq_getElem hlt]
              simpa using hv1
            obtain ⟨hne, N', T', hr⟩ := h.unfold nm off sz hg hj hz
            have hg' : hget ((s.2, cn) :: hset s.1 nm (cells.set off (.sl s.2 sz 0 (cn.length / sz)))) nm = some (cells.set off (.sl s.2 sz 0 (cn.length / sz))) := by
              simp only [hget, if_neg (Ne.symm hne)]
              exact hget_hset hg
            refine hr.quiet hΓ hc hd (v := .sl s.2 sz 0 (cn.length / sz)) ?_ ?_
            · simp only [evQ, hx, hg']
              simp [V.cell, hlt]
            · intro a' w' N' T' hr
              exact hK _ _ _ _ hr
          all_goals
            rw [hv1] at he
            simp only [ldU, Option.some.injEq, Prod.mk.injEq, Bool.and_eq_true, decide_eq_true_eq] at he
            obtain ⟨⟨hlt, hcell⟩, h2⟩ := he
            exact other _ hv1 hcell hlt (by rw [h2]) (by rw [h2])
        · simp at he
      · rename_i cells hx
        simp only [Option.some.injEq, Prod.mk.injEq, decide_eq_true_eq] at he
        obtain ⟨hlt, h2⟩ := he
        refine h.quiet hΓ hc hd (v := cells.getD 0 d) ?_ ?_
        · simp only [evQ, hx, hlt, decide_true]
        · intro a' w' N' T' hr
          rw [h2] at hr
          exact hK _ _ _ _ hr
      · simp at he
  case new zero =>
    simp only [evH, Option.some.injEq, Prod.mk.injEq, true_and] at he
    obtain ⟨rfl, rfl⟩ := he
    obtain ⟨ty, ho, hz⟩ := inv_new hc
    obtain ⟨zv, h1, h2, _⟩ := zeroL_run (P := P) (N := N) (U := Un w0 U0 w T) hz w
    obtain ⟨N', T', hr⟩ := h.new (w1 := w) (dst := o.dst) hd (Below.refl _ _) rfl h2 (cells_ok (arr := zv.cells) rfl) (e := ty) (v := .pt s.2 0) (c := .pointer (some ⟨w.heap.size, 0, none⟩)) (fun N' U' hn => by simpa using RV.pt (N := N') (U := U') s.2 0 w.heap.size 0 hn)
    exact wp_value (by simp only [execOp, ho]; exact lift _ _ _ (alloc_run h1)) (hK _ _ _ _ hr)
  case box x =>
    simp only [evH, Option.some.injEq, Prod.mk.injEq] at he
    obtain ⟨hcell, rfl, rfl⟩ := he
    obtain ⟨ty, x', ho, hx⟩ := inv_box hc
    have hv := (compOpd_ok hx h.sl).cells hcell
    obtain ⟨N', T', hr⟩ := h.new (w1 := w) (dst := o.dst) hd (Below.refl _ _) rfl hv (cells_ok (arr := (a.eval x').cells) rfl) (e := ty) (v := .pt s.2 0) (c := .pointer (some ⟨w.heap.size, 0, none⟩)) (fun N' U' hn => by simpa using RV.pt (N := N') (U := U') s.2 0 w.heap.size 0 hn)
    exact wp_value (by simp only [execOp, ho]; exact lift _ _ _ (box_run ty _)) (hK _ _ _ _ hr)
  case mks len sz zero parts =>
    simp only [evH] at he
    obtain ⟨ty, e, ps, z, ho, hu, hz, hp, hzl, hlen, rfl, rfl, hps⟩ := inv_mks hc
    split at he
    · rename_i cells hf
      simp only [Option.some.injEq, Prod.mk.injEq, true_and] at he
      obtain ⟨rfl, rfl⟩ := he
      have g := compParts_ok hps h.sl
      obtain ⟨arr, r1, r2, r3⟩ := mks_run (P := P) (N := N) (w := w) (U := Un w0 U0 w T) hu hz hzl hlen (ps := ps.map fun (i, x) => (i, a.eval x)) (by simpa using g) hf
      obtain ⟨N', T', hr⟩ := h.new (w1 := w) (dst := o.dst) hd (Below.refl _ _) rfl r2 (cells_ok (arr := arr) rfl) (e := e) (v := .sl s.2 (sizeT P e) 0 len) (c := .slice (some ⟨w.heap.size, 0, none⟩) len len)
        (fun N' U' hn => by simpa using RV.sl (N := N') (U := U') s.2 (sizeT P e) 0 len w.heap.size 0 len arr e (0, 0) hn (heap_alloc_new w _) (by omega) (Nat.le_refl _) (by have : len * 1 ≤ len * sizeT P e := Nat.mul_le_mul_left _ hp; simp only [maxLen]; omega) hp)
      exact wp_value (by simp only [execOp, ho]; exact lift _ _ _ r1) (hK _ _ _ _ hr)
    · simp at he
  case mk sz bytes zero len cap =>
    simp only [evH] at he
    obtain ⟨ty, e, l', c', ho, h1, h2, hu, hz, hp, hzl, rfl, rfl⟩ := inv_mk hc
    split at he
    · rename_i l c hl hcc
      simp only [Option.some.injEq, Prod.mk.injEq, Bool.and_eq_true, decide_eq_true_eq] at he
      obtain ⟨⟨⟨⟨k1, k2⟩, k3⟩, k4⟩, rfl, rfl⟩ := he
      obtain ⟨kl, _, el⟩ := asI_inv (compOpd_ok h1 h.sl) hl
      obtain ⟨kc, _, ec⟩ := asI_inv (compOpd_ok h2 h.sl) hcc
      obtain ⟨zv, q1, q2, q3, i, q4, q5⟩ := zeroL_run (P := P) (N := N) (U := Un w0 U0 w T) hz w
      have hzs : zv.cells.size = sizeT P e := by rw [← hzl, ← q2.len]; simp
      have hsz : i.size = zv.cells.size := by rw [hzs]; simp [sizeT, q4]
      have hr0 := run_make (P := P) w ty e i zv hu q4 q5 kl kc l c k1 k2 (by simpa [bytesT, q4] using k3) k4
      have hm : (madeCells zv.cells (c.toNat * i.size)).toList = (List.replicate c.toNat zv.cells.toList).flatten := by rw [hsz]; exact made_list _ _
      obtain ⟨N', T', hr⟩ := h.new (w1 := w) (dst := o.dst) hd (Below.refl _ _) rfl (q2.repl c.toNat) (cells_ok hm) (e := e) (v := .sl s.2 (sizeT P e) 0 l.toNat) (c := .slice (some ⟨w.heap.size, 0, none⟩) l.toNat c.toNat)
        (fun N' U' hn => by simpa using RV.sl (N := N') (U := U') s.2 (sizeT P e) 0 l.toNat w.heap.size 0 c.toNat _ e (0, 0) hn (heap_alloc_new w _) (by rw [size_madeCells, hsz, hzs]; omega) (by omega) (by simp only [maxLen]; omega) hp)
      exact wp_value (by simp only [execOp, ho, el, ec]; exact lift _ _ _ hr0) (hK _ _ _ _ hr)
    · simp at he
  case st n x v' =>
    simp only [evH] at he
    obtain ⟨ty, x1, v1, i, ho, h1, h2, hi, rfl, hpos⟩ := inv_st hc
    split at he
    · rename_i nm off hx
      split at he
      · rename_i cells hg
        simp only [Option.some.injEq, Prod.mk.injEq, Bool.and_eq_true, decide_eq_true_eq] at he
        obtain ⟨⟨⟨k1, k2⟩, k3⟩, rfl, rfl⟩ := he
        have g1 := compOpd_ok h1 h.sl
        rw [hx] at g1
        obtain ⟨w', r1, N', T', hr⟩ := h.store (P := P) (dst := o.dst) hd hg g1 (compOpd_ok h2 h.sl) k3 (by omega) (by omega) (ty := ty) (by rw [hi]; rfl) (by rw [k2]; simp [sizeT, hi])
        refine wp_skip' ?_ (hK _ _ _ _ hr)
        simp only [execOp, ho]
        simp [r1]
      · simp at he
    · simp at he
  case app sz bytes x y =>
    simp only [evH] at he
    obtain ⟨c, x', y', ty, u, e, ho, hcal, ha, hty, h1, h2, hT, rfl, rfl, hbp⟩ := inv_app hc
    split at he
    · simp at he
    · rename_i news hn
      have hcell : news.all V.cell = true := by
        unfold evApp at he
        split at he
        · split at he
          · simp only [Option.some.injEq, Prod.mk.injEq, Bool.and_eq_true] at he
            exact he.1.1.1.2
          · simp at he
        · simp only [Option.some.injEq, Prod.mk.injEq, Bool.and_eq_true] at he
          exact he.1.1
        · simp at he
      obtain ⟨c', w', r1, N', T', hr⟩ := h.app (P := P) (dst := o.dst) hd (rt := o.type) hT rfl hn hcell (compOpd_ok h2 h.sl) (compOpd_ok h1 h.sl) he (by omega)
      refine wp_value ?_ (hK _ _ _ _ hr)
      simp only [execOp, ho, resolve, hcal, ha, hty, Sem.run_bind, Sem.run_pure, Result.andThen_ok, invoke, builtin]
      have e3 : (#[x', y'].map a.eval) = #[a.eval x', a.eval y'] := by simp
      rw [e3, r1]
      rfl
  case call f xs =>
    simp only [evH] at he
    obtain ⟨c, ho, hcal, hxs⟩ := inv_call hc
    split at he
    · rename_i i G hl
      have hf := hΓ.lookl hl
      split at he
      · rename_i n sz off len hv0
        split at he
        · rename_i cells hg
          split at he
          · rename_i r cells' hG
            simp only [Option.some.injEq, Prod.mk.injEq] at he
            obtain ⟨hb, he⟩ := he
            refine h.lendCall hf ho hcal hxs hd hv0 (v1 := .sl 0 sz off len) ?_ hg hG hb ?_
            · intro cv U' hr
              cases hr with
              | sl _ _ _ _ b base cap arr e fz hn hb' hs hlc hm hz => exact ⟨_, hn, .sl 0 sz off len b base cap arr e fz (by simp) hb' hs hlc hm hz⟩
              | slE _ _ hn => exact ⟨_, hn, .slE 0 sz (by simp)⟩
              | slZ _ _ _ b base o arr e fz hn hb' ho hz => exact ⟨_, hn, .slZ 0 sz off b base o arr e fz (by simp) hb' ho hz⟩
            · intro a' w' N' T' hr
              rw [he] at hr
              exact hK _ _ _ _ hr
          · simp at he
        · simp at he
      · rename_i n off hv0
        split at he
        · rename_i cells hg
          split at he
          · rename_i r cells' hG
            simp only [Option.some.injEq, Prod.mk.injEq] at he
            obtain ⟨hb, he⟩ := he
            refine h.lendCall hf ho hcal hxs hd hv0 (v1 := .pt 0 off) ?_ hg hG hb ?_
            · intro cv U' hr
              cases hr with
              | pt _ _ b base hn => exact ⟨_, hn, .pt 0 off b base (by simp)⟩
            · intro a' w' N' T' hr
              rw [he] at hr
              exact hK _ _ _ _ hr
          · simp at he
        · simp at he
      · rename_i q m n sz off len hv0
        split at he
        · rename_i cells hg
          split at he
          · rename_i r cells' hG
            simp only [Option.some.injEq, Prod.mk.injEq] at he
            obtain ⟨hb, he⟩ := he
            refine h.lendCall hf ho hcal hxs hd hv0 (n := n) (v1 := .agg [.int q m, .sl 0 sz off len]) ?_ hg hG hb ?_
            · intro cv U' hr
              cases hr with
              | agg _ cs F hr =>
                cases hr with
                | cons _ _ c1 cs1 F1 F2 _ h1 hr hF =>
                  cases hr with
                  | cons _ _ c2 cs2 F3 F4 _ h2 hr hF2 =>
                    cases hr
                    cases h1
                    have key : ∃ l, N n = some l ∧ RV (fun k => if k = 0 then some l else none) U' w (.sl 0 sz off len) c2 [] := by
                      cases h2 with
                      | sl _ _ _ _ b base cap arr e fz hn hb' hs hlc hm hz => exact ⟨_, hn, .sl 0 sz off len b base cap arr e fz (by simp) hb' hs hlc hm hz⟩
                      | slE _ _ hn => exact ⟨_, hn, .slE 0 sz (by simp)⟩
                      | slZ _ _ _ b base o arr e fz hn hb' ho hz => exact ⟨_, hn, .slZ 0 sz off b base o arr e fz (by simp) hb' ho hz⟩
                    obtain ⟨l, k1, k2⟩ := key
                    exact ⟨l, k1, .agg _ [_, c2] [] (.cons _ _ _ _ [] [] _ (.int q m) (.cons _ _ _ _ [] [] _ k2 .nil rfl) rfl)⟩
            · intro a' w' N' T' hr
              rw [he] at hr
              exact hK _ _ _ _ hr
          · simp at he
        · simp at he
      · simp at he
    · split at he
      · rename_i b v1 h1
        simp only [Option.some.injEq, Prod.mk.injEq] at he
        obtain ⟨rfl, h2⟩ := he
        refine h.quiet hΓ hc hd h1 ?_
        intro a' w' N' T' hr
        rw [h2] at hr
        exact hK _ _ _ _ hr
      · simp at he
end
end Go.Proofs.Ytkbgmkkboiihnaa
namespace Go.Proofs.Ytkbgmkkboiihnaa
open Go Go.RowKit

abbrev Tm := List (Nat × V)
def put (l : Tm) : Option Nat → V → Tm
  | some d, v => (d, v) :: l
  | none, _ => l
theorem tget_put (l : Tm) (d : Option Nat) (v : V) : tget (put l d v) = upd (tget l) d v := by
  cases d with
  | none => rfl
  | some d => funext j; rfl

/-- The operations of a statement, one behind the other. -/
def vcOps (Γ : Env) : List GO → Tm → Hp → (Tm → Hp → Prop) → Prop
  | [], l, s, K => K l s
  | g :: r, l, s, K =>
    match g.g with
    | none => match evH Γ (Opd.ev (tget l)) s g.o with
      | some (b, v, s') => b = true ∧ vcOps Γ r (put l g.d v) s' K
      | none => False
    | some (d, want) => match tget l d with
      | .bool b =>
        (b = want → match evH Γ (Opd.ev (tget ((d, .bool want) :: l))) s g.o with
          | some (b, v, s') => b = true ∧ vcOps Γ r (put ((d, .bool want) :: l) g.d v) s' K
          | none => False) ∧
        (b = !want → vcOps Γ r (put ((d, .bool (!want)) :: l) g.d (.tup [])) s K)
      | .tup _ => vcOps Γ r (put l g.d (.tup [])) s K
      | _ => False

/-- All that a call of a function fixes. -/
structure Ctx where
  P : Program
  w0 : World
  U0 : Nat → Prop
  L0 : List Nat
  N0 : Nm
  k0 : Nat
  nt : Nat
def Ctx.RS (C : Ctx) (t : Nat → V) (s : Hp) (N : Nm) (T : List Nat) (a : Act) (w : World) : Prop := Go.Proofs.Ytkbgmkkboiihnaa.RS C.w0 C.U0 C.L0 C.N0 C.k0 C.nt t s N T a w
/-- The model's state 'a', 'w' is one of 'l', 's'. -/
def Ctx.St (C : Ctx) (l : Tm) (s : Hp) (a : Act) (w : World) : Prop := ∃ N T, C.RS (tget l) s N T a w

section
variable {C : Ctx}
theorem RS.skip {t : Nat → V} {s : Hp} {N : Nm} {T : List Nat} {a : Act} {w : World} (h : C.RS t s N T a w) {dst : Option Nat} (hd : ∀ d, dst = some d → d < C.nt) : C.RS (upd t dst (.tup [])) s N T (a.put dst Go.undef) w :=
  RS.step h hd (kept_refl N w fun _ h => h) (.tup [] [] [] .nil) h.hp h.nd h.own h.fr h.nx (Nat.le_refl _) (fun _ _ => rfl)
theorem upd_same {t : Nat → V} {d : Nat} {v : V} (h : t d = v) : upd t (some d) v = t := by
  funext j
  simp only [upd]
  split
  · rename_i e; rw [← e, h]
  · rfl

theorem compGOs_cons {P : Program} {ops : Array Oper} {nt : Nat} {o : Oper} {r : List Oper} {gs : List GO} (h : compGOs P ops nt (o :: r) = some gs) : ∃ g gs', gs = g :: gs' ∧ compGO P ops nt o = some g ∧ compGOs P ops nt r = some gs' := by
  unfold compGOs at h
  split at h
  · rename_i g gs' h1 h2
    simp at h
    exact ⟨g, gs', h.symm, h1, h2⟩
  · simp at h
theorem compGO_inv {P : Program} {ops : Array Oper} {nt : Nat} {o : Oper} {g : GO} (h : compGO P ops nt o = some g) : compOp P o = some g.o ∧ compGuard ops o.guard = some g.g ∧ g.d = o.dst ∧ ∀ d, o.dst = some d → d < nt := by
  unfold compGO at h
  split at h
  · rename_i so gg h1 h2
    split at h
    · rename_i hd
      simp at h
      subst h
      exact ⟨h1, h2, hd.symm, fun d hd' => by rw [hd] at hd'; cases hd'⟩
    · rename_i d hd
      split at h
      · rename_i hlt
        simp at h
        subst h
        exact ⟨h1, h2, hd.symm, fun d' hd' => by rw [hd] at hd'; cases hd'; exact hlt⟩
      · simp at h
  · simp at h
theorem guard_none {ops : Array Oper} {g : Option (Nat × Bool)} (h : compGuard ops g = some none) : g = none := by
  unfold compGuard at h
  split at h
  · rfl
  · split at h <;> simp at h
theorem guard_some {ops : Array Oper} {g : Option (Nat × Bool)} {d : Nat} {b : Bool} (h : compGuard ops g = some (some (d, b))) : ∃ j, g = some (j, b) ∧ (ops[j]?).bind (·.dst) = some d := by
  unfold compGuard at h
  split at h
  · simp at h
  · rename_i j b'
    split at h
    · rename_i d' hd
      simp at h
      obtain ⟨rfl, rfl⟩ := h
      exact ⟨j, rfl, hd⟩
    · simp at h
theorem yielded_bool {ops : Array Oper} {j d : Nat} (hj : (ops[j]?).bind (·.dst) = some d) {a : Act} {b : Bool} (h : a.tmps.getD d Go.undef = .bool b) : yielded ops a.tmps j = some b := by
  unfold yielded
  rw [hj]
  simp only [Option.bind_some]
  rw [Array.getD_eq_getD_getElem?] at h
  cases hc : a.tmps[d]? with
  | none => rw [hc] at h; simp [Go.undef] at h
  | some c => rw [hc] at h; simp at h; subst h; rfl
theorem yielded_tup {ops : Array Oper} {j d : Nat} (hj : (ops[j]?).bind (·.dst) = some d) {a : Act} {cs : Array Value} (h : a.tmps.getD d Go.undef = .tuple cs) : yielded ops a.tmps j = none := by
  unfold yielded
  rw [hj]
  simp only [Option.bind_some]
  rw [Array.getD_eq_getD_getElem?] at h
  cases hc : a.tmps[d]? with
  | none => rfl
  | some c => rw [hc] at h; simp at h; subst h; rfl

/-- One operation comes up. -/
theorem wpOp_of {ops : Array Oper} {i : Nat} {o : Oper} (hi : ops[i]? = some o) {Q : Exit → Act → World → Prop} {K : Act → World → Prop} {a : Act} {w : World}
    (h : if Region.wanted o (yielded ops a.tmps) then o.wp C.P a w K Q else K (a.put o.dst Go.undef) w) : wpOp C.P ops Q i K a w := by
  unfold wpOp
  simp only [hi]
  split
  · rename_i hw; rw [if_pos hw] at h; exact .inl h
  · rename_i hw; rw [if_neg hw] at h; exact h

theorem vcOps_ok {Γ : Env} (hΓ : EnvOk C.P Γ) {ops : Array Oper} {Q : Exit → Act → World → Prop} {K : Tm → Hp → Prop} (hK : ∀ l s a w, K l s → C.St l s a w → Q .normal a w) :
    ∀ (os : List Oper) (gs : List GO) (k : Nat), (∀ j, os[j]? = ops[k + j]?) → compGOs C.P ops C.nt os = some gs → ∀ (l : Tm) (s : Hp) (N : Nm) (T : List Nat) (a : Act) (w : World), vcOps Γ gs l s K → C.RS (tget l) s N T a w →
      wpOps C.P ops Q (List.range' k os.length) a w := by
  intro os
  induction os with
  | nil =>
    intro gs k _ hc l s N T a w hv hr
    simp [compGOs] at hc
    subst hc
    exact hK _ _ _ _ hv ⟨N, T, hr⟩
  | cons o os ih =>
    intro gs k hos hc l s N T a w hv hr
    obtain ⟨g, gs', rfl, c1, c2⟩ := compGOs_cons hc
    obtain ⟨d1, d2, d3, d4⟩ := compGO_inv c1
    have hi : ops[k]? = some o := by have := hos 0; simpa using this.symm
    have hos' : ∀ j, os[j]? = ops[k + 1 + j]? := fun j => by have := hos (j + 1); simpa [Nat.add_assoc, Nat.add_comm 1 j] using this
    rw [List.length_cons, List.range'_succ, wpOps_cons]
    refine wpOp_of hi ?_
    have run : ∀ (l1 : Tm), C.RS (tget l1) s N T a w → (match evH Γ (Opd.ev (tget l1)) s g.o with
          | some (b, v, s') => b = true ∧ vcOps Γ gs' (put l1 g.d v) s' K
          | none => False) → o.wp C.P a w (wpOps C.P ops Q (List.range' (k + 1) os.length)) Q := by
      intro l1 hr1 hv1
      split at hv1
      · rename_i b v s' he
        obtain ⟨rfl, hv1⟩ := hv1
        refine RS.oper hr1 hΓ d1 d4 he ?_
        intro a' w' N' T' hr'
        rw [d3] at hv1
        exact ih gs' (k + 1) hos' c2 _ _ N' T' a' w' hv1 (by rw [tget_put]; exact hr')
      · exact hv1.elim
    have skip : ∀ (l1 : Tm), C.RS (tget l1) s N T a w → vcOps Γ gs' (put l1 g.d (.tup [])) s K → wpOps C.P ops Q (List.range' (k + 1) os.length) (a.put o.dst Go.undef) w := by
      intro l1 hr1 hv1
      rw [d3] at hv1
      exact ih gs' (k + 1) hos' c2 _ _ N T _ w hv1 (by rw [tget_put]; exact RS.skip hr1 d4)
    unfold vcOps at hv
    split at hv
    · rename_i hg
      rw [hg] at d2
      have := guard_none d2
      rw [if_pos (by simp [Region.wanted, this])]
      exact run l hr hv
    · rename_i d want hg
      rw [hg] at d2
      obtain ⟨j, e1, e2⟩ := guard_some d2
      split at hv
      · rename_i b hb
        have hs := hr.sl d
        rw [hb] at hs
        have hc := (hs.bool_inv).1
        have hy := yielded_bool e2 hc
        have same : ∀ b', b = b' → tget ((d, .bool b') :: l) = tget l := fun b' e => by
          subst e
          exact upd_same (t := tget l) (d := d) hb
        by_cases hw : b = want
        · rw [if_pos (by simp [Region.wanted, e1, hy, hw])]
          exact run _ (by rw [same _ hw]; exact hr) (hv.1 hw)
        · have hw' : b = !want := by cases b <;> cases want <;> simp_all
          rw [if_neg (by simp [Region.wanted, e1, hy, hw])]
          exact skip _ (by rw [same _ hw']; exact hr) (hv.2 hw')
      · rename_i ps hb
        have hs := hr.sl d
        rw [hb] at hs
        have hy : yielded ops a.tmps j = none := by
          generalize hq : a.tmps.getD d Go.undef = q at hs
          cases hs with
          | tup _ cs _ _ => exact yielded_tup e2 hq
        rw [if_neg (by simp [Region.wanted, e1, hy])]
        exact skip l hr hv
      · exact hv.elim
end
end Go.Proofs.Ytkbgmkkboiihnaa
namespace Go.Proofs.Ytkbgmkkboiihnaa
open Go Go.RowKit

def SO.opds : SO → List Opd
  | .mov x | .box x | .ld _ _ x | .un _ x | .conv _ x | .fad _ x | .fld _ _ x | .ext _ x | .len x | .lens x | .nck x | .isn _ x => [x]
  | .pick c a b => [c, a, b]
  | .new _ => []
  | .agg _ ps | .mks _ _ _ ps => ps.map fun p => p.2.2
  | .st _ x v => [x, v]
  | .bin _ _ x y | .mm _ x y => [x, y]
  | .mk _ _ _ l c => [l, c]
  | .sli _ x lo hi mx => x :: (lo.toList ++ hi.toList ++ mx.toList)
  | .slis x lo hi => x :: (lo.toList ++ hi.toList)
  | .idx _ x i | .idxa _ _ x i | .ixs x i => [x, i]
  | .app _ _ s x => [s, x]
  | .call _ args => args
  | .callv x args => x :: args
  | .fn _ caps => caps
def Opd.slot : Opd → List Nat
  | .t n => [n]
  | .c _ => []
def GO.reads (g : GO) : List Nat := g.o.opds.flatMap Opd.slot ++ (match g.g with | some (d, _) => [d] | none => [])

section congr
variable {e e' : Opd → V}
theorem bounds_congr {len : Nat} {lo hi mx : Option Opd} (h : ∀ x ∈ lo.toList ++ hi.toList ++ mx.toList, e x = e' x) : evBounds len e lo hi mx = evBounds len e' lo hi mx := by
  cases lo <;> cases hi <;> cases mx <;> simp_all [evBounds]
theorem parts_congr {ps : List (Nat × Nat × Opd)} (h : ∀ x ∈ ps.map (fun p => p.2.2), e x = e' x) : (ps.map fun (o, s, x) => (o, s, e x)) = ps.map fun (o, s, x) => (o, s, e' x) := by
  apply List.map_congr_left
  intro p hp
  obtain ⟨o, s, x⟩ := p
  simp only [h x (List.mem_map.2 ⟨(o, s, x), hp, rfl⟩)]
theorem evQ_congr (Γ : Env) (H : List (Nat × List V)) (so : SO) (h : ∀ x ∈ so.opds, e x = e' x) : evQ Γ H e so = evQ Γ H e' so := by
  cases so <;> simp only [SO.opds] at h
  case ld n d x => cases n <;> simp only [evQ, h x (by simp)]
  case bin b op x y => cases b <;> simp only [evQ, h x (by simp), h y (by simp)]
  case fld n off x => cases n <;> simp only [evQ, h x (by simp)]
  case agg z ps => simp only [evQ, parts_congr h]
  case sli sz x lo hi mx =>
    have h1 := h x (by simp)
    have h2 : ∀ y ∈ lo.toList ++ hi.toList ++ mx.toList, e y = e' y := fun y hy => h y (by simp only [List.mem_cons]; exact .inr hy)
    simp only [evQ, h1]
    split <;> simp only [bounds_congr h2]
  case slis x lo hi =>
    have h1 := h x (by simp)
    have h2 : ∀ y ∈ lo.toList ++ hi.toList ++ (none : Option Opd).toList, e y = e' y := fun y hy => h y (by simp only [List.mem_cons]; exact .inr (by simpa using hy))
    simp only [evQ, h1]
    split <;> simp only [bounds_congr h2]
  case call f args =>
    have h1 : (args.map fun x => dr H 6 (e x)) = args.map fun x => dr H 6 (e' x) := List.map_congr_left fun x hx => by rw [h x hx]
    have h2 : (args.all fun x => noname 6 (e x)) = args.all fun x => noname 6 (e' x) := by
      rw [Bool.eq_iff_iff, List.all_eq_true, List.all_eq_true]
      exact ⟨fun g x hx => by rw [← h x hx]; exact g x hx, fun g x hx => by rw [h x hx]; exact g x hx⟩
    simp only [evQ, h1, h2]
  case callv y args =>
    have h1 : (args.map fun x => dr H 6 (e x)) = args.map fun x => dr H 6 (e' x) := List.map_congr_left fun x hx => by rw [h x (by simp [hx])]
    simp only [evQ, h1, h y (by simp)]
  case fn f caps =>
    have h1 : caps.map e = caps.map e' := List.map_congr_left h
    simp only [evQ, h1]
  all_goals first
    | rfl
    | (simp only [evQ]; done)
    | (simp only [evQ, h _ (List.mem_cons_self ..)]; done)
    | (simp only [evQ, h _ (List.mem_cons_self ..), h _ (List.mem_cons_of_mem _ (List.mem_cons_self ..))]; done)
    | (simp only [evQ, h _ (List.mem_cons_self ..), h _ (List.mem_cons_of_mem _ (List.mem_cons_self ..)), h _ (List.mem_cons_of_mem _ (List.mem_cons_of_mem _ (List.mem_cons_self ..)))]; done)
theorem evH_congr (Γ : Env) (s : Hp) (so : SO) (h : ∀ x ∈ so.opds, e x = e' x) : evH Γ e s so = evH Γ e' s so := by
  by_cases hq : so.isQuiet = true
  · rw [evH_quiet hq, evH_quiet hq, evQ_congr Γ s.1 so h]
  cases so <;> try (exact absurd rfl hq)
  case new => rfl
  case ld n d x =>
    cases n with
    | some k => exact absurd rfl hq
    | none => simp only [evH, h x (by simp [SO.opds])]
  case box x => simp only [evH, h x (by simp [SO.opds])]
  case mks n sz z ps => simp only [evH, parts_congr (by simpa [SO.opds] using h)]
  case mk sz b z l c => simp only [evH, h l (by simp [SO.opds]), h c (by simp [SO.opds])]
  case st n x v => simp only [evH, h x (by simp [SO.opds]), h v (by simp [SO.opds])]
  case app sz b x y => simp only [evH, h x (by simp [SO.opds]), h y (by simp [SO.opds])]
  case call f args =>
    have h0 := h
    simp only [SO.opds] at h
    have h1 : ∀ n, (args.map fun x => dr (hdel s.1 n) 6 (e x)) = args.map fun x => dr (hdel s.1 n) 6 (e' x) := fun n => List.map_congr_left fun x hx => by rw [h x hx]
    have h2 : ∀ i : Nat, ((args.eraseIdx i).all fun x => noname 6 (e x)) = (args.eraseIdx i).all fun x => noname 6 (e' x) := fun i => by
      rw [Bool.eq_iff_iff, List.all_eq_true, List.all_eq_true]
      exact ⟨fun g x hx => by rw [← h x (List.mem_of_mem_eraseIdx hx)]; exact g x hx, fun g x hx => by rw [h x (List.mem_of_mem_eraseIdx hx)]; exact g x hx⟩
    have h3 : ∀ i : Nat, (args[i]?).map e = (args[i]?).map e' := fun i => by
      cases hi : args[i]? with
      | none => rfl
      | some x => simp [h x (List.mem_of_getElem? hi)]
    simp only [evH, h1, h2, h3, evQ_congr Γ s.1 (.call f args) h0]
end congr

/-- It may be looked at without the rows. -/
def freeOk (e : Opd → V) : SO → Bool
  | .call _ args => args.all fun x => noname 6 (e x)
  | .callv x args => match e x with
    | .fn _ caps => caps.all (noname 6) && args.all fun x => noname 6 (e x)
    | _ => false
  | _ => true
theorem dr_free (H H' : List (Nat × List V)) : ∀ (k : Nat) (v : V), noname k v = true → dr H k v = dr H' k v := by
  intro k
  induction k with
  | zero => intro v _; rfl
  | succ k ih =>
    intro v hv
    have sub : ∀ (cells : List V), cells.all (noname k) = true → cells.map (dr H k) = cells.map (dr H' k) := fun cells hc => List.map_congr_left fun x hx => ih x (List.all_eq_true.1 hc x hx)
    cases v <;> first
      | rfl
      | (simp [noname] at hv; done)
      | (simp only [noname] at hv; simp only [dr, sub _ hv])
theorem evQ_free {Γ : Env} {e : Opd → V} {so : SO} {v : V} (h : evQ Γ [] e so = some (true, v)) (hf : freeOk e so = true) (H : List (Nat × List V)) : evQ Γ H e so = some (true, v) := by
  cases so
  case ld n d x =>
    cases n <;> simp only [evQ] at h ⊢
    · split at h
      · simp [hget] at h
      · exact h
      · simp at h
    · split at h
      · simp [hget] at h
      · exact h
      · simp at h
  case call f args =>
    simp only [freeOk] at hf
    have h1 : (args.map fun x => dr [] 6 (e x)) = args.map fun x => dr H 6 (e x) := List.map_congr_left fun x hx => dr_free _ _ 6 _ (List.all_eq_true.1 hf x hx)
    simp only [evQ, h1] at h ⊢
    exact h
  case callv y args =>
    simp only [freeOk] at hf
    cases hy : e y <;> rw [hy] at hf <;> simp only [Bool.and_eq_true] at hf <;> try (simp at hf; done)
    rename_i f caps
    have h1 : (args.map fun x => dr [] 6 (e x)) = args.map fun x => dr H 6 (e x) := List.map_congr_left fun x hx => dr_free _ _ 6 _ (List.all_eq_true.1 hf.2 x hx)
    have h2 : caps.map (dr [] 6) = caps.map (dr H 6) := List.map_congr_left fun x hx => dr_free _ _ 6 _ (List.all_eq_true.1 hf.1 x hx)
    simp only [evQ, hy, h1, h2] at h ⊢
    exact h
  all_goals first
    | exact h
    | (simp [evQ] at h; done)
    | (rename_i b _ _ _; cases b <;> exact h)
    | (rename_i n _ _; cases n <;> exact h)

section ready
variable {ops : Array Oper} {listed : Array Bool}
theorem mem_ready {i : Nat} : i ∈ Region.ready .any ops listed ↔ ∃ o, ops[i]? = some o ∧ listed.getD i true = false ∧ ∀ e ∈ o.after, Region.binds .any e = true → listed.getD e.on false = true := by
  unfold Region.ready
  rw [List.mem_filter, List.mem_range]
  constructor
  · rintro ⟨h1, h2⟩
    rw [Array.getElem?_eq_getElem h1] at h2
    simp only [Bool.and_eq_true, Bool.not_eq_true', Option.map_some, Option.getD_some] at h2
    refine ⟨_, Array.getElem?_eq_getElem h1, h2.1, fun e he hb => ?_⟩
    obtain ⟨n, hn, rfl⟩ := Array.mem_iff_getElem.1 he
    have := Array.all_eq_true.1 h2.2 n hn
    simpa [hb] using this
  · rintro ⟨o, h1, h2, h3⟩
    have hi := (Array.getElem?_eq_some_iff.1 h1).1
    refine ⟨hi, ?_⟩
    rw [h1]
    simp only [h2, Bool.not_false, Option.map_some, Option.getD_some, Bool.true_and]
    rw [Array.all_eq_true]
    intro n hn
    cases hb : Region.binds .any o.after[n] with
    | false => simp
    | true => simp [h3 _ (Array.getElem_mem hn) hb]
theorem getD_set {b : Bool} {i j : Nat} (h : i ≠ j) (d : Bool) : (listed.setIfInBounds i b).getD j d = listed.getD j d := by
  simp only [Array.getD_eq_getD_getElem?, Array.getElem?_setIfInBounds_ne h]
theorem getD_set_mono {i j : Nat} (h : listed.getD j false = true) : (listed.setIfInBounds i true).getD j false = true := by
  by_cases hij : i = j
  · subst hij
    simp only [Array.getD_eq_getD_getElem?, Array.getElem?_setIfInBounds] at h ⊢
    split
    · split
      · rfl
      · rename_i h1 h2
        rw [Array.getElem?_eq_none (by omega)] at h
        simp at h
    · rename_i h1; exact (h1 trivial).elim
  · rw [getD_set hij]; exact h
theorem ready_set {i j : Nat} (h : j ∈ Region.ready .any ops listed) (hij : i ≠ j) : j ∈ Region.ready .any ops (listed.setIfInBounds i true) := by
  rw [mem_ready] at h ⊢
  obtain ⟨o, h1, h2, h3⟩ := h
  exact ⟨o, h1, by rw [getD_set hij]; exact h2, fun e he hb => getD_set_mono (h3 e he hb)⟩
end ready

/-- One operation of a statement whose order is open, as a function of the state. -/
def runD (Γ : Env) (loud : Bool) (o : SO) (t : Nat → V) (s : Hp) : Option (V × Hp) :=
  if loud then match evH Γ (Opd.ev t) s o with
    | some (true, v, s') => some (v, s')
    | _ => none
  else match evQ Γ s.1 (Opd.ev t) o with
    | some (true, v) => some (fz 6 v, s)
    | _ => none
def valD (Γ : Env) (loud : Bool) (g : GO) (t : Nat → V) (s : Hp) : Option (V × Hp) :=
  match g.g with
  | none => runD Γ loud g.o t s
  | some (d, want) => match t d with
    | .bool b => if b = want then runD Γ loud g.o t s else some (.tup [], s)
    | .tup _ => some (.tup [], s)
    | _ => none
theorem ev_congr {t t' : Nat → V} {x : Opd} (h : ∀ n ∈ x.slot, t n = t' n) : x.ev t = x.ev t' := by
  cases x with
  | t n => exact h n (by simp [Opd.slot])
  | c v => rfl
theorem opds_congr {t t' : Nat → V} {g : GO} (h : ∀ n ∈ g.reads, t n = t' n) : ∀ x ∈ g.o.opds, x.ev t = x.ev t' := fun x hx => ev_congr fun n hn => h n (by
  unfold GO.reads
  rw [List.mem_append]
  exact .inl (List.mem_flatMap.2 ⟨x, hx, hn⟩))
theorem valD_congr {Γ : Env} {loud : Bool} {g : GO} {t t' : Nat → V} (h : ∀ n ∈ g.reads, t n = t' n) (s : Hp) : valD Γ loud g t s = valD Γ loud g t' s := by
  have h1 : runD Γ loud g.o t s = runD Γ loud g.o t' s := by
    unfold runD
    rw [evH_congr Γ s g.o (opds_congr h), evQ_congr Γ s.1 g.o (opds_congr h)]
  unfold valD
  rw [h1]
  cases hg : g.g with
  | none => rfl
  | some p =>
    obtain ⟨d, want⟩ := p
    have : t d = t' d := h d (by simp [GO.reads, hg])
    simp only [this]
/-- Neither reads or writes what the other writes. -/
def apartG (g g' : GO) : Bool :=
  (match g.d with
   | some d => !(g'.reads.contains d) && g'.d != some d
   | none => true) &&
  (match g'.d with
   | some d => !(g.reads.contains d)
   | none => true)
theorem apartG_spec {g g' : GO} (h : apartG g g' = true) : (∀ d, g.d = some d → d ∉ g'.reads ∧ g'.d ≠ some d) ∧ (∀ d, g'.d = some d → d ∉ g.reads) := by
  constructor
  · intro d hd
    simp [apartG, hd] at h
    exact ⟨h.1.1, h.1.2⟩
  · intro d hd
    simp [apartG, hd] at h
    exact h.2
theorem upd_read {t : Nat → V} {d : Option Nat} {v : V} {l : List Nat} (h : ∀ x, d = some x → x ∉ l) : ∀ n ∈ l, upd t d v n = t n := by
  intro n hn
  cases d with
  | none => rfl
  | some x =>
    simp only [upd]
    rw [if_neg (by rintro rfl; exact h _ rfl hn)]
theorem upd_comm {t : Nat → V} {d d' : Option Nat} (h : ∀ x, d = some x → d' ≠ some x) (v v' : V) : upd (upd t d v) d' v' = upd (upd t d' v') d v := by
  cases d with
  | none => rfl
  | some x =>
    cases d' with
    | none => rfl
    | some y =>
      have hne : x ≠ y := fun e => h x rfl (by rw [e])
      funext j
      simp only [upd]
      split <;> split <;> simp_all

/-- Whatever order is picked from here on. -/
def AnyD (Γ : Env) (ops : Array Oper) (gl : List (GO × Bool)) (K : (Nat → V) → Hp → Prop) : Nat → Array Bool → (Nat → V) → Hp → Prop
  | 0, listed, t, s => Region.ready .any ops listed = [] ∧ K t s
  | n + 1, listed, t, s => (Region.ready .any ops listed = [] → K t s) ∧ ∀ i ∈ Region.ready .any ops listed,
      ∃ g loud v s', gl[i]? = some (g, loud) ∧ valD Γ loud g t s = some (v, s') ∧ AnyD Γ ops gl K n (listed.setIfInBounds i true) (upd t g.d v) s'

/-- A quiet operation that may come up now may be taken first. -/
theorem anyD_first {Γ : Env} {ops : Array Oper} {gl : List (GO × Bool)} {K : (Nat → V) → Hp → Prop} {i : Nat} {g : GO} (hi : gl[i]? = some (g, false)) {v : V} (I : Array Bool → Prop) (S : (Nat → V) → Hp → Prop)
    (hS : ∀ t s, S t s → valD Γ false g t s = some (v, s))
    (hI : ∀ listed t s j gj lj vj s', I listed → S t s → j ∈ Region.ready .any ops listed → j ≠ i → gl[j]? = some (gj, lj) → apartG g gj = true → valD Γ lj gj t s = some (vj, s') → I (listed.setIfInBounds j true) ∧ S (upd t gj.d vj) s') :
    ∀ (n : Nat) (listed : Array Bool) (t : Nat → V) (s : Hp), I listed → S t s → i ∈ Region.ready .any ops listed →
      (∀ j gj lj, gl[j]? = some (gj, lj) → j ≠ i → listed.getD j true = false → (∀ o, ops[j]? = some o → ∀ e ∈ o.after, Region.binds .any e = true → e.on ≠ i) → apartG g gj = true) →
      AnyD Γ ops gl K n (listed.setIfInBounds i true) (upd t g.d v) s → AnyD Γ ops gl K (n + 1) listed t s := by
  intro n
  induction n with
  | zero =>
    intro listed t s hIl hSt hr hap h
    refine ⟨fun h0 => (by rw [h0] at hr; cases hr), fun j hj => ?_⟩
    by_cases hji : j = i
    · subst hji; exact ⟨g, false, v, s, hi, hS t s hSt, h⟩
    · have := ready_set (i := i) hj (fun e => hji e.symm)
      rw [h.1] at this
      cases this
  | succ n ih =>
    intro listed t s hIl hSt hr hap h
    refine ⟨fun h0 => (by rw [h0] at hr; cases hr), fun j hj => ?_⟩
    by_cases hji : j = i
    · subst hji; exact ⟨g, false, v, s, hi, hS t s hSt, h⟩
    · have hj2 := ready_set (i := i) hj (fun e => hji e.symm)
      obtain ⟨gj, lj, vj, s', e1, e2, e3⟩ := h.2 j hj2
      have hjr := mem_ready.1 hj
      obtain ⟨oj, o1, o2, o3⟩ := hjr
      have hir := mem_ready.1 hr
      obtain ⟨oi, p1, p2, p3⟩ := hir
      have hedge : ∀ o, ops[j]? = some o → ∀ e ∈ o.after, Region.binds .any e = true → e.on ≠ i := by
        intro o ho e he hb hei
        rw [o1] at ho
        cases ho
        have := o3 e he hb
        rw [hei] at this
        simp only [Array.getD_eq_getD_getElem?] at this p2
        cases hq : listed[i]? <;> rw [hq] at this p2 <;> simp_all
      have ha := hap j gj lj e1 hji o2 hedge
      obtain ⟨a1, a2⟩ := apartG_spec ha
      have e2' : valD Γ lj gj t s = some (vj, s') := by
        rw [← e2]
        exact valD_congr (fun n hn => (upd_read (fun x hx => (a1 x hx).1) n hn).symm) s
      obtain ⟨q1, q2⟩ := hI listed t s j gj lj vj s' hIl hSt hj hji e1 ha e2'
      refine ⟨gj, lj, vj, s', e1, e2', ih _ _ _ q1 q2 (ready_set hr hji) ?_ ?_⟩
      · intro k gk lk hk hki hkl hke
        by_cases hjk : j = k
        · subst hjk
          rw [e1] at hk
          cases hk
          exact ha
        · rw [getD_set hjk] at hkl
          exact hap k gk lk hk hki hkl hke
      · rw [← upd_comm (fun x hx => (a1 x hx).2)]
        rw [Array.setIfInBounds_comm _ _ hji]
        exact e3
end Go.Proofs.Ytkbgmkkboiihnaa
namespace Go.Proofs.Ytkbgmkkboiihnaa
open Go Go.RowKit

section
variable {N : Nm} {U U' : Nat → Prop} {w : World}
theorem RVs.mapE {g : V → V} {vs : List V} {cs : List Value} {F : List Nat} (h : RVs N U w vs cs F) (hg : ∀ v c G, v ∈ vs → RV N U w v c G → (∀ b ∈ G, b ∈ F) → RV N U' w (g v) c []) : RVs N U' w (vs.map g) cs [] := by
  induction vs generalizing cs F with
  | nil => cases h; exact .nil
  | cons v vs ih =>
    cases h with
    | cons _ _ c cs F Fs _ h hs hE =>
      subst hE
      exact .cons _ _ _ _ [] [] _ (hg _ _ _ (by simp) h (fun b hb => by simp [hb])) (ih hs (fun v c G hv hr hsub => hg v c G (by simp [hv]) hr (fun b hb => by simp [hsub b hb]))) rfl
theorem fz_ok (hU : ∀ b, U b → U' b) : ∀ (k : Nat) (v : V) (c : Value) (F : List Nat), (∀ b ∈ F, U' b) → RV N U w v c F → RV N U' w (fz k v) c [] := by
  intro k
  induction k with
  | zero => intro v c F _ _; exact .undef _
  | succ k ih =>
    intro v c F hF h
    have sub : ∀ (cells : List V) (cs : List Value) (G : List Nat), (∀ b ∈ G, U' b) → RVs N U w cells cs G → RVs N U' w (cells.map (fz k)) cs [] := by
      intro cells cs G hG hv
      exact hv.mapE fun v c G' hm hr hsub => ih v c G' (fun b hb => hG b (hsub b hb)) hr
    have kr : Kept N N U U' w w := kept_refl N w hU
    cases h with
    | undef => exact .undef _
    | ub => exact .ub _
    | nfn => exact .nfn
    | int => exact .int _ _
    | bool => exact .bool _
    | str => exact .str _
    | nil => exact .nil
    | listE => exact .listE _ _ _
    | list sz cells b o len cap cs hUb hl hlc hm hz hc hv => exact .list sz cells b o len cap cs (hU b hUb) hl hlc hm hz hc (hv.kept kr (by simp))
    | ownE => exact .listE _ _ _
    | own sz cells b o len cap arr e cs F _ hb hl hs hlc hm hz hc hv hFF =>
      subst hFF
      exact .list sz _ b o len cap cs (hF b (by simp)) (by simpa using hl) hlc (by omega) hz (fun j c hj => by rw [cell_of_arr hb]; exact hc j c hj) (sub cells cs F (fun x hx => hF x (by simp [hx])) hv)
    | agg parts cs F hv => exact .agg _ cs [] (sub parts cs F hF hv)
    | tup parts cs F hv => exact .tup _ cs [] (sub parts cs F hF hv)
    | sl n sz off len b base cap arr e fz hn hb hs hlc hm hz => exact .sl n sz off len b base cap arr e fz hn hb hs hlc hm hz
    | slE n sz hn => exact .slE n sz hn
    | slZ n sz off b base o arr e fz hn hb ho hz => exact .slZ n sz off b base o arr e fz hn hb ho hz
    | pt n off b base hn => exact .pt n off b base hn
    | rp cells b o cs hUb hc hv => exact .rp cells b o cs (hU b hUb) hc (hv.kept kr (by simp))
    | fn f caps cs hv => exact .fn f caps cs (hv.kept kr (by simp))
end

section
variable {C : Ctx}
theorem RS.frozen {t : Nat → V} {s : Hp} {N : Nm} {T : List Nat} {a : Act} {w : World} (h : C.RS t s N T a w) {Γ : Env} (hΓ : EnvOk C.P Γ) {o : Oper} {so : SO} (hc : compOp C.P o = some so) (hd : ∀ d, o.dst = some d → d < C.nt) {v : V} (he : evQ Γ s.1 (Opd.ev t) so = some (true, v))
    {K : Act → World → Prop} {Q : Exit → Act → World → Prop} (hK : ∀ a' w' N' T', C.RS (upd t o.dst (fz 6 v)) s N' T' a' w' → K a' w') : o.wp C.P a w K Q := by
  refine evQ_wp hΓ hc h.sl h.hp (fun b hb => hb.1) h.hp.lt he ?_
  intro c w' F hb hF hv
  have hTlt := RH.lt h.hp
  have hU : ∀ b, Uf (Un C.w0 C.U0 w T) w w' F b → Un C.w0 C.U0 w' T b := by
    intro b hU
    rcases hU with ⟨g1, g2⟩ | ⟨g1, g2, g3⟩
    · exact ⟨Nat.lt_of_lt_of_le g1 hb.size, g2⟩
    · exact ⟨g2, fun hm => by have := hTlt b hm; omega, .inr (Nat.le_trans h.fr.size g1)⟩
  have hFU : ∀ b ∈ F, Un C.w0 C.U0 w' T b := fun b hbF => ⟨(hF.2 b hbF).2, fun hm => by have := hTlt b hm; have := (hF.2 b hbF).1; omega, .inr (Nat.le_trans h.fr.size (hF.2 b hbF).1)⟩
  have k : Kept N N (Un C.w0 C.U0 w T) (Un C.w0 C.U0 w' T) w w' := ⟨fun b hU => ⟨hb.block b hU.1, Nat.lt_of_lt_of_le hU.1 hb.size, hU.2⟩, fun _ _ h => h, fun n b base hn arr e fz hbb => ⟨arr, e, fz, by rw [hb.block b (heap_lt hbb)]; exact hbb, rfl⟩⟩
  exact hK _ _ N T (RS.step h hd k (fz_ok hU 6 v c F hFU hv) (RH.kept k h.hp (fun b hbT => hb.block b (hTlt b hbT))) h.nd h.own (KeepBut.trans h.fr (below_keep hb C.L0)) h.nx (Nat.le_refl _) (fun _ _ => rfl))

/-- What the operations of the statement are. -/
def Comp (P : Program) (ops : Array Oper) (nt : Nat) (gl : List (GO × Bool)) : Prop := ∀ (i : Nat) (o : Oper), ops[i]? = some o → ∃ (g : GO) (loud : Bool), gl[i]? = some (g, loud) ∧ compGO P ops nt o = some g

theorem anyD_ok {Γ : Env} (hΓ : EnvOk C.P Γ) {ops : Array Oper} {gl : List (GO × Bool)} (hcomp : Comp C.P ops C.nt gl) {Q : Exit → Act → World → Prop} {K : (Nat → V) → Hp → Prop} (hK : ∀ t s N T a w, K t s → C.RS t s N T a w → Q .normal a w) :
    ∀ (n : Nat) (listed : Array Bool) (t : Nat → V) (s : Hp) (N : Nm) (T : List Nat) (a : Act) (w : World), AnyD Γ ops gl K n listed t s → C.RS t s N T a w → wpAny C.P .any ops Q n listed a w := by
  intro n
  induction n with
  | zero => intro listed t s N T a w h hr; exact ⟨h.1, hK _ _ _ _ _ _ h.2 hr⟩
  | succ n ih =>
    intro listed t s N T a w h hr
    refine ⟨fun h0 => hK _ _ _ _ _ _ (h.1 h0) hr, fun i hi => ?_⟩
    obtain ⟨g, loud, v, s', e1, e2, e3⟩ := h.2 i hi
    obtain ⟨o, o1, _, _⟩ := mem_ready.1 hi
    obtain ⟨g', loud', f1, f2⟩ := hcomp i o o1
    rw [e1] at f1
    cases f1
    obtain ⟨d1, d2, d3, d4⟩ := compGO_inv f2
    refine wpOp_of o1 ?_
    rw [d3] at e3
    have run : runD Γ loud g.o t s = some (v, s') → o.wp C.P a w (wpAny C.P .any ops Q n (listed.setIfInBounds i true)) Q := by
      intro hrun
      unfold runD at hrun
      split at hrun
      · split at hrun
        · rename_i v1 s1 he
          simp only [Option.some.injEq, Prod.mk.injEq] at hrun
          obtain ⟨rfl, rfl⟩ := hrun
          exact RS.oper hr hΓ d1 d4 he fun a' w' N' T' hr' => ih _ _ _ N' T' a' w' e3 hr'
        · simp at hrun
      · split at hrun
        · rename_i v1 he
          simp only [Option.some.injEq, Prod.mk.injEq] at hrun
          obtain ⟨rfl, rfl⟩ := hrun
          exact RS.frozen hr hΓ d1 d4 he fun a' w' N' T' hr' => ih _ _ _ N' T' a' w' e3 hr'
        · simp at hrun
    have skip : (v, s') = (.tup [], s) → wpAny C.P .any ops Q n (listed.setIfInBounds i true) (a.put o.dst Go.undef) w := by
      intro he
      simp only [Prod.mk.injEq] at he
      obtain ⟨rfl, rfl⟩ := he
      exact ih _ _ _ N T _ w e3 (RS.skip hr d4)
    unfold valD at e2
    split at e2
    · rename_i hg
      rw [hg] at d2
      have := guard_none d2
      rw [if_pos (by simp [Region.wanted, this])]
      exact run e2
    · rename_i d want hg
      rw [hg] at d2
      obtain ⟨j, q1, q2⟩ := guard_some d2
      split at e2
      · rename_i b hb
        have hs := hr.sl d
        rw [hb] at hs
        have hy := yielded_bool q2 (hs.bool_inv).1
        split at e2
        · rename_i hw
          rw [if_pos (by simp [Region.wanted, q1, hy, hw])]
          exact run e2
        · rename_i hw
          rw [if_neg (by simp [Region.wanted, q1, hy, hw])]
          simp only [Option.some.injEq] at e2
          exact skip e2.symm
      · rename_i ps hb
        have hs := hr.sl d
        rw [hb] at hs
        have hy : yielded ops a.tmps j = none := by
          generalize hq : a.tmps.getD d Go.undef = q at hs
          cases hs with
          | tup _ cs _ _ => exact yielded_tup q2 hq
        rw [if_neg (by simp [Region.wanted, q1, hy])]
        simp only [Option.some.injEq] at e2
        exact skip e2.symm
      · simp at e2
end

/-- The operations of the statement in an order that serves for all orders. -/
def vcD (Γ : Env) : List DI → Tm → Hp → (Tm → Hp → Prop) → Prop
  | [], l, s, K => K l s
  | d :: r, l, s, K =>
    let go (l : Tm) : Prop :=
      if d.loud then match evH Γ (Opd.ev (tget l)) s d.g.o with
        | some (b, v, s') => b = true ∧ vcD Γ r (put l d.g.d v) s' K
        | none => False
      else match evQ Γ (if d.free then [] else s.1) (Opd.ev (tget l)) d.g.o with
        | some (b, v) => b = true ∧ (d.free = true → freeOk (Opd.ev (tget l)) d.g.o = true) ∧ vcD Γ r (put l d.g.d (fz 6 v)) s K
        | none => False
    match d.g.g with
    | none => go l
    | some (x, want) => match tget l x with
      | .bool b => (b = want → go ((x, .bool want) :: l)) ∧ (b = !want → vcD Γ r (put ((x, .bool (!want)) :: l) d.g.d (.tup [])) s K)
      | .tup _ => vcD Γ r (put l d.g.d (.tup [])) s K
      | _ => False

/-- The operations that wait for 'i', and 'i' itself: a guess, checked by 'checkDep'. -/
def depOf (ops : Array Oper) (i : Nat) : List Bool :=
  ops.toList.zipIdx.foldl (fun acc (o, j) => acc ++ [j == i || o.after.any fun e => Region.binds .any e && acc.getD e.on false]) []
def checkDep (ops : Array Oper) (i : Nat) (dep : List Bool) : Bool :=
  ops.toList.zipIdx.all fun (o, j) => !(dep.getD j false) || j == i || o.after.any fun e => Region.binds .any e && dep.getD e.on false
/-- No operation that writes rows may come up before 'i'. -/
def heldB (ops : Array Oper) (gl : List (GO × Bool)) (listed : Array Bool) (i : Nat) : Bool :=
  let dep := depOf ops i
  checkDep ops i dep && (dep.zipIdx.all fun (d, j) => !d || !(listed.getD j true)) && gl.zipIdx.all fun (g, j) => !g.2 || listed.getD j true || dep.getD j false
def apartAll (ops : Array Oper) (gl : List (GO × Bool)) (listed : Array Bool) (i : Nat) (g : GO) : Bool :=
  gl.zipIdx.all fun (g', j) => j == i || listed.getD j true || ((ops[j]?).map fun o => o.after.any fun e => Region.binds .any e && e.on == i).getD false || apartG g g'.1
def schedD (ops : Array Oper) (gl : List (GO × Bool)) : Nat → Array Bool → Option (List DI)
  | 0, listed => if (Region.ready .any ops listed).isEmpty then some [] else none
  | n + 1, listed =>
    match Region.ready .any ops listed with
    | [] => some []
    | i :: rest =>
      match (i :: rest).find? fun i => match gl[i]? with | some (_, false) => true | _ => false with
      | some i => match gl[i]? with
        | some (g, false) => if apartAll ops gl listed i g then (schedD ops gl n (listed.setIfInBounds i true)).map (⟨g, false, !heldB ops gl listed i⟩ :: ·) else none
        | _ => none
      | none => if rest.isEmpty then match gl[i]? with
          | some (g, true) => (schedD ops gl n (listed.setIfInBounds i true)).map (⟨g, true, false⟩ :: ·)
          | _ => none
        else none
theorem all_zip {α : Type} {l : List α} {p : α × Nat → Bool} (h : (l.zipIdx.all p) = true) {j : Nat} {x : α} (hj : l[j]? = some x) : p (x, j) = true := by
  rw [List.all_eq_true] at h
  refine h (x, j) ?_
  rw [List.mem_iff_getElem?]
  exact ⟨j, by simp [List.getElem?_zipIdx, hj]⟩
theorem apartAll_spec {ops : Array Oper} {gl : List (GO × Bool)} {listed : Array Bool} {i : Nat} {g : GO} (h : apartAll ops gl listed i g = true) {j : Nat} {gj : GO} {lj : Bool} (hj : gl[j]? = some (gj, lj)) (hji : j ≠ i) (hl : listed.getD j true = false)
    (he : ∀ o, ops[j]? = some o → ∀ e ∈ o.after, Region.binds .any e = true → e.on ≠ i) : apartG g gj = true := by
  have := all_zip h hj
  simp only [Bool.or_eq_true, beq_iff_eq, hl, Bool.false_eq_true, or_false] at this
  rcases this with (h1 | h1) | h1
  · exact absurd h1 hji
  · exfalso
    cases ho : ops[j]? with
    | none => rw [ho] at h1; simp at h1
    | some o =>
      rw [ho] at h1
      simp only [Option.map_some, Option.getD_some] at h1
      rw [Array.any_eq_true] at h1
      obtain ⟨n, hn, h2⟩ := h1
      simp only [Bool.and_eq_true, beq_iff_eq] at h2
      exact he o ho _ (Array.getElem_mem hn) h2.1 h2.2
  · exact h1
theorem checkDep_spec {ops : Array Oper} {i : Nat} {dep : List Bool} (h : checkDep ops i dep = true) {j : Nat} {o : Oper} (ho : ops[j]? = some o) (hd : dep.getD j false = true) (hji : j ≠ i) : ∃ e ∈ o.after, Region.binds .any e = true ∧ dep.getD e.on false = true := by
  have := all_zip h (j := j) (x := o) (by simpa using ho)
  simp only [hd, Bool.not_true, Bool.false_or, Bool.or_eq_true, beq_iff_eq] at this
  rcases this with h1 | h1
  · exact absurd h1 hji
  · rw [Array.any_eq_true] at h1
    obtain ⟨n, hn, h2⟩ := h1
    simp only [Bool.and_eq_true] at h2
    exact ⟨_, Array.getElem_mem hn, h2.1, h2.2⟩
theorem getD_tf {l : Array Bool} {j : Nat} (h1 : l.getD j false = true) (h2 : l.getD j true = false) : False := by
  simp only [Array.getD_eq_getD_getElem?] at h1 h2
  cases hq : l[j]? <;> rw [hq] at h1 h2 <;> simp_all
theorem runD_quiet {Γ : Env} {o : SO} {t : Nat → V} {s s' : Hp} {v : V} (h : runD Γ false o t s = some (v, s')) : s' = s := by
  unfold runD at h
  simp only [Bool.false_eq_true, if_false] at h
  split at h
  · simp only [Option.some.injEq, Prod.mk.injEq] at h; exact h.2.symm
  · simp at h
theorem valD_quiet {Γ : Env} {g : GO} {t : Nat → V} {s s' : Hp} {v : V} (h : valD Γ false g t s = some (v, s')) : s' = s := by
  unfold valD at h
  split at h
  · exact runD_quiet h
  · split at h
    · split at h
      · exact runD_quiet h
      · simp only [Option.some.injEq, Prod.mk.injEq] at h; exact h.2.symm
    · simp only [Option.some.injEq, Prod.mk.injEq] at h; exact h.2.symm
    · simp at h

theorem vcD_ok {Γ : Env} {ops : Array Oper} {gl : List (GO × Bool)} {K : Tm → Hp → Prop} : ∀ (n : Nat) (listed : Array Bool) (ds : List DI) (l : Tm) (s : Hp), schedD ops gl n listed = some ds → vcD Γ ds l s K →
    AnyD Γ ops gl (fun t s => ∃ l, tget l = t ∧ K l s) n listed (tget l) s := by
  intro n
  induction n with
  | zero =>
    intro listed ds l s hs hv
    unfold schedD at hs
    split at hs
    · rename_i he
      simp at hs
      subst hs
      exact ⟨by simpa using he, l, rfl, hv⟩
    · simp at hs
  | succ n ih =>
    intro listed ds l s hs hv
    unfold schedD at hs
    split at hs
    · rename_i he
      simp at hs
      subst hs
      exact ⟨fun _ => ⟨l, rfl, hv⟩, fun i hi => by rw [he] at hi; cases hi⟩
    · rename_i i0 rest hrd
      split at hs
      · -- a quiet one
        rename_i i hfind
        split at hs
        · rename_i g hgi
          split at hs
          · rename_i hap
            obtain ⟨ds', h1, rfl⟩ := opt_map hs
            have hir : i ∈ Region.ready .any ops listed := by rw [hrd]; exact List.mem_of_find?_eq_some hfind
            have fin : ∀ (v : V) (l1 : Tm), tget l1 = tget l → vcD Γ ds' (put l1 g.d v) s K →
                (∀ t' s', (∀ n ∈ g.reads, t' n = tget l n) → ((!heldB ops gl listed i) = false → s'.1 = s.1) → valD Γ false g t' s' = some (v, s')) →
                AnyD Γ ops gl (fun t s => ∃ l, tget l = t ∧ K l s) (n + 1) listed (tget l) s := by
              intro v l1 hl1 hv1 hst
              have hrest := ih _ _ _ _ h1 hv1
              rw [tget_put, hl1] at hrest
              cases hh : heldB ops gl listed i with
              | false =>
                refine anyD_first hgi (v := v) (fun _ => True) (fun t' _ => ∀ n ∈ g.reads, t' n = tget l n) (fun t' s' hS => hst t' s' hS (by simp [hh])) ?_ n listed _ _ trivial (fun _ _ => rfl) hir (fun j gj lj hj hji hlj hej => apartAll_spec hap hj hji hlj hej) hrest
                intro listed' t' s' j gj lj vj s'' _ hS hjr hji hgj hapj hval
                exact ⟨trivial, fun m hm => by rw [upd_read (l := g.reads) (fun x hx => (apartG_spec hapj).2 x hx) m hm]; exact hS m hm⟩
              | true =>
                unfold heldB at hh
                simp only [Bool.and_eq_true] at hh
                obtain ⟨⟨hd1, hd3⟩, hd2⟩ := hh
                have hdd : ∀ j : Nat, (depOf ops i).getD j false = true → listed.getD j true = false := by
                  intro j hdj
                  have hdj' : (depOf ops i)[j]? = some true := by
                    rw [List.getD_eq_getElem?_getD] at hdj
                    cases hq : (depOf ops i)[j]? <;> rw [hq] at hdj <;> simp_all
                  have := all_zip hd3 hdj'
                  simpa using this
                have hdl : ∀ (j : Nat) (gj : GO) (lj : Bool), gl[j]? = some (gj, lj) → lj = true → listed.getD j true = true ∨ (depOf ops i).getD j false = true := by
                  intro j gj lj hj hlj
                  have := all_zip hd2 hj
                  simp only [Bool.or_eq_true, Bool.not_eq_true'] at this
                  rcases this with (h | h) | h
                  · rw [hlj] at h; cases h
                  · exact .inl h
                  · exact .inr h
                refine anyD_first hgi (v := v) (fun listed' => (∀ j, (depOf ops i).getD j false = true → listed'.getD j true = false) ∧ ∀ j, listed.getD j true = true → listed'.getD j true = true)
                  (fun t' s' => (∀ n ∈ g.reads, t' n = tget l n) ∧ s'.1 = s.1) (fun t' s' hS => hst t' s' hS.1 (fun _ => hS.2)) ?_ n listed _ _ ⟨hdd, fun _ h => h⟩ ⟨fun _ _ => rfl, rfl⟩ hir (fun j gj lj hj hji hlj hej => apartAll_spec hap hj hji hlj hej) hrest
                intro listed' t' s' j gj lj vj s'' hI hS hjr hji hgj hapj hval
                obtain ⟨oj, o1, o2, o3⟩ := mem_ready.1 hjr
                have hnd : (depOf ops i).getD j false = false := by
                  cases hdj : (depOf ops i).getD j false with
                  | false => rfl
                  | true =>
                    exfalso
                    obtain ⟨e, he1, he2, he3⟩ := checkDep_spec hd1 o1 hdj hji
                    have hlist := o3 e he1 he2
                    exact getD_tf hlist (hI.1 e.on he3)
                have hq : lj = false := by
                  cases lj with
                  | false => rfl
                  | true =>
                    exfalso
                    rcases hdl j gj true hgj rfl with h | h
                    · have := hI.2 j h
                      rw [o2] at this
                      cases this
                    · rw [hnd] at h; cases h
                subst hq
                have hs'' := valD_quiet hval
                subst hs''
                refine ⟨⟨fun k hdk => ?_, fun k hk => ?_⟩, fun m hm => by rw [upd_read (l := g.reads) (fun x hx => (apartG_spec hapj).2 x hx) m hm]; exact hS.1 m hm, hS.2⟩
                · have hjk : j ≠ k := fun e => by rw [← e, hnd] at hdk; cases hdk
                  rw [getD_set hjk]
                  exact hI.1 k hdk
                · by_cases hjk : j = k
                  · subst hjk
                    have := hI.2 j hk
                    rw [o2] at this
                    cases this
                  · rw [getD_set hjk]; exact hI.2 k hk
            -- what the walk shows of the operation
            have go : ∀ (l1 : Tm), tget l1 = tget l → (g.g = none ∨ ∃ x want, g.g = some (x, want) ∧ tget l x = .bool want) →
                (match evQ Γ (if (!heldB ops gl listed i) then [] else s.1) (Opd.ev (tget l1)) g.o with
                  | some (b, v) => b = true ∧ ((!heldB ops gl listed i) = true → freeOk (Opd.ev (tget l1)) g.o = true) ∧ vcD Γ ds' (put l1 g.d (fz 6 v)) s K
                  | none => False) → AnyD Γ ops gl (fun t s => ∃ l, tget l = t ∧ K l s) (n + 1) listed (tget l) s := by
              intro l1 hl1 hgd hgo
              split at hgo
              · rename_i b v he
                obtain ⟨rfl, hf, hrest⟩ := hgo
                refine fin (fz 6 v) l1 hl1 hrest fun t' s' hag hsame => ?_
                have hrun : runD Γ false g.o t' s' = some (fz 6 v, s') := by
                  unfold runD
                  simp only [Bool.false_eq_true, if_false]
                  have : evQ Γ s'.1 (Opd.ev t') g.o = some (true, v) := by
                    rw [evQ_congr Γ s'.1 g.o (opds_congr (g := g) hag)]
                    rw [hl1] at he hf
                    cases hh : heldB ops gl listed i with
                    | false => rw [hh] at he hf; exact evQ_free (by simpa using he) (hf rfl) s'.1
                    | true =>
                      rw [hh] at he hsame
                      rw [hsame rfl]
                      simpa using he
                  rw [this]
                unfold valD
                rcases hgd with hgd | ⟨x, want, hgd, hx⟩
                · rw [hgd]; exact hrun
                · rw [hgd]
                  simp only [hag x (by simp [GO.reads, hgd]), hx, if_true]
                  exact hrun
              · exact hgo.elim
            unfold vcD at hv
            simp only at hv
            split at hv
            · rename_i hgd
              simp only [Bool.false_eq_true, if_false] at hv
              exact go l rfl (.inl hgd) hv
            · rename_i x want hgd
              split at hv
              · rename_i b hb
                by_cases hw : b = want
                · subst hw
                  have := hv.1 rfl
                  simp only [Bool.false_eq_true, if_false] at this
                  exact go ((x, .bool b) :: l) (upd_same (t := tget l) (d := x) hb) (.inr ⟨x, b, hgd, hb⟩) this
                · have hw' : b = !want := by cases b <;> cases want <;> simp_all
                  refine fin (.tup []) ((x, .bool (!want)) :: l) (upd_same (t := tget l) (d := x) (by rw [hb, hw'])) (hv.2 hw') fun t' s' hag _ => ?_
                  unfold valD
                  rw [hgd]
                  simp only [hag x (by simp [GO.reads, hgd]), hb, if_neg hw]
              · rename_i ps hb
                refine fin (.tup []) l rfl hv fun t' s' hag _ => ?_
                unfold valD
                rw [hgd]
                simp only [hag x (by simp [GO.reads, hgd]), hb]
              · exact hv.elim
          · simp at hs
        · simp at hs
      · -- a loud one, alone
        split at hs
        · rename_i hre
          split at hs
          · rename_i g hgi
            obtain ⟨ds', h1, rfl⟩ := opt_map hs
            have hrest : rest = [] := by simpa using hre
            subst hrest
            refine ⟨fun h0 => (by rw [hrd] at h0; cases h0), fun i hi => ?_⟩
            rw [hrd] at hi
            have hii : i = i0 := by simpa using hi
            subst hii
            unfold vcD at hv
            simp only [if_true] at hv
            have go : ∀ (l1 : Tm), tget l1 = tget l → (g.g = none ∨ ∃ x want, g.g = some (x, want) ∧ tget l x = .bool want) →
                (match evH Γ (Opd.ev (tget l1)) s g.o with
                  | some (b, v, s') => b = true ∧ vcD Γ ds' (put l1 g.d v) s' K
                  | none => False) → ∃ g' loud v s', gl[i]? = some (g', loud) ∧ valD Γ loud g' (tget l) s = some (v, s') ∧ AnyD Γ ops gl (fun t s => ∃ l, tget l = t ∧ K l s) n (listed.setIfInBounds i true) (upd (tget l) g'.d v) s' := by
              intro l1 hl1 hgd hgo
              split at hgo
              · rename_i b v s' he
                obtain ⟨rfl, hr⟩ := hgo
                have := ih _ _ _ _ h1 hr
                rw [tget_put, hl1] at this
                refine ⟨g, true, v, s', hgi, ?_, this⟩
                rw [hl1] at he
                have hrun : runD Γ true g.o (tget l) s = some (v, s') := by unfold runD; simp [he]
                unfold valD
                rcases hgd with hgd | ⟨x, want, hgd, hx⟩
                · rw [hgd]; exact hrun
                · rw [hgd]; simp only [hx, if_true]; exact hrun
              · exact hgo.elim
            have skip : ∀ (l1 : Tm), tget l1 = tget l → valD Γ true g (tget l) s = some (.tup [], s) → vcD Γ ds' (put l1 g.d (.tup [])) s K → ∃ g' loud v s', gl[i]? = some (g', loud) ∧ valD Γ loud g' (tget l) s = some (v, s') ∧ AnyD Γ ops gl (fun t s => ∃ l, tget l = t ∧ K l s) n (listed.setIfInBounds i true) (upd (tget l) g'.d v) s' := by
              intro l1 hl1 hval hr
              have := ih _ _ _ _ h1 hr
              rw [tget_put, hl1] at this
              exact ⟨g, true, _, s, hgi, hval, this⟩
            split at hv
            · rename_i hgd; exact go l rfl (.inl hgd) hv
            · rename_i x want hgd
              split at hv
              · rename_i b hb
                by_cases hw : b = want
                · subst hw
                  exact go ((x, .bool b) :: l) (upd_same (t := tget l) (d := x) hb) (.inr ⟨x, b, hgd, hb⟩) (hv.1 rfl)
                · have hw' : b = !want := by cases b <;> cases want <;> simp_all
                  refine skip ((x, .bool (!want)) :: l) (upd_same (t := tget l) (d := x) (by rw [hb, hw'])) ?_ (hv.2 hw')
                  unfold valD
                  rw [hgd]
                  simp only [hb, if_neg hw]
              · rename_i ps hb
                refine skip l rfl ?_ hv
                unfold valD
                rw [hgd]
                simp only [hb]
              · exact hv.elim
          · simp at hs
        · simp at hs

/-- A quiet operation that may be taken first. -/
def quietT (Γ : Env) (g : GO) (free : Bool) (l : Tm) (s : Hp) (N : Tm → Prop) : Prop :=
  let go (l : Tm) : Prop :=
    match evQ Γ (if free then [] else s.1) (Opd.ev (tget l)) g.o with
      | some (b, v) => b = true ∧ (free = true → freeOk (Opd.ev (tget l)) g.o = true) ∧ N (put l g.d (fz 6 v))
      | none => False
  match g.g with
  | none => go l
  | some (x, want) => match tget l x with
    | .bool b => (b = want → go ((x, .bool want) :: l)) ∧ (b = !want → N (put ((x, .bool (!want)) :: l) g.d (.tup [])))
    | .tup _ => N (put l g.d (.tup []))
    | _ => False
theorem quietT_ok {Γ : Env} {ops : Array Oper} {gl : List (GO × Bool)} {K : (Nat → V) → Hp → Prop} {n : Nat} {listed : Array Bool} {i : Nat} {g : GO} {l : Tm} {s : Hp} (N : Tm → Prop) (hgi : gl[i]? = some (g, false)) (hir : i ∈ Region.ready .any ops listed) (hap : apartAll ops gl listed i g = true)
    (hrest : ∀ l', N l' → AnyD Γ ops gl K n (listed.setIfInBounds i true) (tget l') s) (hv : quietT Γ g (!heldB ops gl listed i) l s N) : AnyD Γ ops gl K (n + 1) listed (tget l) s := by
  have fin : ∀ (v : V) (l1 : Tm), tget l1 = tget l → N (put l1 g.d v) →
      (∀ t' s', (∀ n ∈ g.reads, t' n = tget l n) → ((!heldB ops gl listed i) = false → s'.1 = s.1) → valD Γ false g t' s' = some (v, s')) →
      AnyD Γ ops gl K (n + 1) listed (tget l) s := by
    intro v l1 hl1 hv1 hst
    have hrest := hrest _ hv1
    rw [tget_put, hl1] at hrest
    cases hh : heldB ops gl listed i with
    | false =>
      refine anyD_first hgi (v := v) (fun _ => True) (fun t' _ => ∀ n ∈ g.reads, t' n = tget l n) (fun t' s' hS => hst t' s' hS (by simp [hh])) ?_ n listed _ _ trivial (fun _ _ => rfl) hir (fun j gj lj hj hji hlj hej => apartAll_spec hap hj hji hlj hej) hrest
      intro listed' t' s' j gj lj vj s'' _ hS hjr hji hgj hapj hval
      exact ⟨trivial, fun m hm => by rw [upd_read (l := g.reads) (fun x hx => (apartG_spec hapj).2 x hx) m hm]; exact hS m hm⟩
    | true =>
      unfold heldB at hh
      simp only [Bool.and_eq_true] at hh
      obtain ⟨⟨hd1, hd3⟩, hd2⟩ := hh
      have hdd : ∀ j : Nat, (depOf ops i).getD j false = true → listed.getD j true = false := by
        intro j hdj
        have hdj' : (depOf ops i)[j]? = some true := by
          rw [List.getD_eq_getElem?_getD] at hdj
          cases hq : (depOf ops i)[j]? <;> rw [hq] at hdj <;> simp_all
        have := all_zip hd3 hdj'
        simpa using this
      have hdl : ∀ (j : Nat) (gj : GO) (lj : Bool), gl[j]? = some (gj, lj) → lj = true → listed.getD j true = true ∨ (depOf ops i).getD j false = true := by
        intro j gj lj hj hlj
        have := all_zip hd2 hj
        simp only [Bool.or_eq_true, Bool.not_eq_true'] at this
        rcases this with (h | h) | h
        · rw [hlj] at h; cases h
        · exact .inl h
        · exact .inr h
      refine anyD_first hgi (v := v) (fun listed' => (∀ j, (depOf ops i).getD j false = true → listed'.getD j true = false) ∧ ∀ j, listed.getD j true = true → listed'.getD j true = true)
        (fun t' s' => (∀ n ∈ g.reads, t' n = tget l n) ∧ s'.1 = s.1) (fun t' s' hS => hst t' s' hS.1 (fun _ => hS.2)) ?_ n listed _ _ ⟨hdd, fun _ h => h⟩ ⟨fun _ _ => rfl, rfl⟩ hir (fun j gj lj hj hji hlj hej => apartAll_spec hap hj hji hlj hej) hrest
      intro listed' t' s' j gj lj vj s'' hI hS hjr hji hgj hapj hval
      obtain ⟨oj, o1, o2, o3⟩ := mem_ready.1 hjr
      have hnd : (depOf ops i).getD j false = false := by
        cases hdj : (depOf ops i).getD j false with
        | false => rfl
        | true =>
          exfalso
          obtain ⟨e, he1, he2, he3⟩ := checkDep_spec hd1 o1 hdj hji
          have hlist := o3 e he1 he2
          exact getD_tf hlist (hI.1 e.on he3)
      have hq : lj = false := by
        cases lj with
        | false => rfl
        | true =>
          exfalso
          rcases hdl j gj true hgj rfl with h | h
          · have := hI.2 j h
            rw [o2] at this
            cases this
          · rw [hnd] at h; cases h
      subst hq
      have hs'' := valD_quiet hval
      subst hs''
      refine ⟨⟨fun k hdk => ?_, fun k hk => ?_⟩, fun m hm => by rw [upd_read (l := g.reads) (fun x hx => (apartG_spec hapj).2 x hx) m hm]; exact hS.1 m hm, hS.2⟩
      · have hjk : j ≠ k := fun e => by rw [← e, hnd] at hdk; cases hdk
        rw [getD_set hjk]
        exact hI.1 k hdk
      · by_cases hjk : j = k
        · subst hjk
          have := hI.2 j hk
          rw [o2] at this
          cases this
        · rw [getD_set hjk]; exact hI.2 k hk
  -- what the walk shows of the operation
  have go : ∀ (l1 : Tm), tget l1 = tget l → (g.g = none ∨ ∃ x want, g.g = some (x, want) ∧ tget l x = .bool want) →
      (match evQ Γ (if (!heldB ops gl listed i) then [] else s.1) (Opd.ev (tget l1)) g.o with
        | some (b, v) => b = true ∧ ((!heldB ops gl listed i) = true → freeOk (Opd.ev (tget l1)) g.o = true) ∧ N (put l1 g.d (fz 6 v))
        | none => False) → AnyD Γ ops gl K (n + 1) listed (tget l) s := by
    intro l1 hl1 hgd hgo
    split at hgo
    · rename_i b v he
      obtain ⟨rfl, hf, hrest⟩ := hgo
      refine fin (fz 6 v) l1 hl1 hrest fun t' s' hag hsame => ?_
      have hrun : runD Γ false g.o t' s' = some (fz 6 v, s') := by
        unfold runD
        simp only [Bool.false_eq_true, if_false]
        have : evQ Γ s'.1 (Opd.ev t') g.o = some (true, v) := by
          rw [evQ_congr Γ s'.1 g.o (opds_congr (g := g) hag)]
          rw [hl1] at he hf
          cases hh : heldB ops gl listed i with
          | false => rw [hh] at he hf; exact evQ_free (by simpa using he) (hf rfl) s'.1
          | true =>
            rw [hh] at he hsame
            rw [hsame rfl]
            simpa using he
        rw [this]
      unfold valD
      rcases hgd with hgd | ⟨x, want, hgd, hx⟩
      · rw [hgd]; exact hrun
      · rw [hgd]
        simp only [hag x (by simp [GO.reads, hgd]), hx, if_true]
        exact hrun
    · exact hgo.elim
  unfold quietT at hv
  simp only at hv
  split at hv
  · rename_i hgd
    exact go l rfl (.inl hgd) hv
  · rename_i x want hgd
    split at hv
    · rename_i b hb
      by_cases hw : b = want
      · subst hw
        have := hv.1 rfl
        exact go ((x, .bool b) :: l) (upd_same (t := tget l) (d := x) hb) (.inr ⟨x, b, hgd, hb⟩) this
      · have hw' : b = !want := by cases b <;> cases want <;> simp_all
        refine fin (.tup []) ((x, .bool (!want)) :: l) (upd_same (t := tget l) (d := x) (by rw [hb, hw'])) (hv.2 hw') fun t' s' hag _ => ?_
        unfold valD
        rw [hgd]
        simp only [hag x (by simp [GO.reads, hgd]), hb, if_neg hw]
    · rename_i ps hb
      refine fin (.tup []) l rfl hv fun t' s' hag _ => ?_
      unfold valD
      rw [hgd]
      simp only [hag x (by simp [GO.reads, hgd]), hb]
    · exact hv.elim

/-- An operation, then what is asked of the rest. -/
def stepT (Γ : Env) (g : GO) (loud : Bool) (l : Tm) (s : Hp) (N : Tm → Hp → Prop) : Prop :=
  let go (l : Tm) : Prop :=
    if loud then match evH Γ (Opd.ev (tget l)) s g.o with
      | some (b, v, s') => b = true ∧ N (put l g.d v) s'
      | none => False
    else match evQ Γ s.1 (Opd.ev (tget l)) g.o with
      | some (b, v) => b = true ∧ N (put l g.d (fz 6 v)) s
      | none => False
  match g.g with
  | none => go l
  | some (x, want) => match tget l x with
    | .bool b => (b = want → go ((x, .bool want) :: l)) ∧ (b = !want → N (put ((x, .bool (!want)) :: l) g.d (.tup [])) s)
    | .tup _ => N (put l g.d (.tup [])) s
    | _ => False
def vcT (Γ : Env) : DT → Tm → Hp → (Tm → Hp → Prop) → Prop
  | .done, l, s, K => K l s
  | .stop, _, _, _ => True
  | .fst g free r, l, s, K => quietT Γ g free l s (fun l => vcT Γ r l s K)
  | .alt g loud r o, l, s, K => stepT Γ g loud l s (fun l s => vcT Γ r l s K) ∧ vcT Γ o l s K
def isLd : SO → Bool
  | .ld .. => true
  | _ => false
def firstQ (bl : Bool) (ops : Array Oper) (gl : List (GO × Bool)) (listed : Array Bool) (i : Nat) : Bool :=
  match gl[i]? with
  | some (g, false) => apartAll ops gl listed i g && !(bl && !heldB ops gl listed i && isLd g.o)
  | _ => false
/-- All orders; quiet operations first where that may be (bl: loads that could come behind a write are left to all orders). -/
def treeD (bl : Bool) (ops : Array Oper) (gl : List (GO × Bool)) : Nat → Array Bool → Option DT
  | 0, listed => if (Region.ready .any ops listed).isEmpty then some .done else none
  | n + 1, listed => match Region.ready .any ops listed with
    | [] => some .done
    | i :: is => match (i :: is).find? (firstQ bl ops gl listed) with
      | some i => match gl[i]? with
        | some (g, false) => (treeD bl ops gl n (listed.setIfInBounds i true)).map (.fst g (!heldB ops gl listed i) ·)
        | _ => none
      | none => (i :: is).foldr (fun i acc => match gl[i]?, acc with
        | some (g, loud), some o => (treeD bl ops gl n (listed.setIfInBounds i true)).map fun r => .alt g loud r o
        | _, _ => none) (some .stop)
theorem stepT_ok {Γ : Env} {g : GO} {loud : Bool} {l : Tm} {s : Hp} {N : Tm → Hp → Prop} (h : stepT Γ g loud l s N) : ∃ v l1 s', valD Γ loud g (tget l) s = some (v, s') ∧ tget l1 = upd (tget l) g.d v ∧ N l1 s' := by
  have go : ∀ (l1 : Tm), tget l1 = tget l → (g.g = none ∨ ∃ x want, g.g = some (x, want) ∧ tget l x = .bool want) →
      (if loud then (match evH Γ (Opd.ev (tget l1)) s g.o with
        | some (b, v, s') => b = true ∧ N (put l1 g.d v) s'
        | none => False)
      else (match evQ Γ s.1 (Opd.ev (tget l1)) g.o with
        | some (b, v) => b = true ∧ N (put l1 g.d (fz 6 v)) s
        | none => False)) → ∃ v l1 s', valD Γ loud g (tget l) s = some (v, s') ∧ tget l1 = upd (tget l) g.d v ∧ N l1 s' := by
    intro l1 hl1 hgd hgo
    have wrap : ∀ v s', runD Γ loud g.o (tget l) s = some (v, s') → valD Γ loud g (tget l) s = some (v, s') := by
      intro v s' hrun
      unfold valD
      rcases hgd with hgd | ⟨x, want, hgd, hx⟩
      · rw [hgd]; exact hrun
      · rw [hgd]; simp only [hx, if_true]; exact hrun
    cases loud with
    | true =>
      simp only [if_true] at hgo
      split at hgo
      · rename_i b v s' he
        obtain ⟨rfl, hr⟩ := hgo
        rw [hl1] at he
        exact ⟨v, put l1 g.d v, s', wrap v s' (by unfold runD; simp [he]), by rw [tget_put, hl1], hr⟩
      · exact hgo.elim
    | false =>
      simp only [Bool.false_eq_true, if_false] at hgo
      split at hgo
      · rename_i b v he
        obtain ⟨rfl, hr⟩ := hgo
        rw [hl1] at he
        exact ⟨fz 6 v, put l1 g.d (fz 6 v), s, wrap _ s (by unfold runD; simp [he]), by rw [tget_put, hl1], hr⟩
      · exact hgo.elim
  unfold stepT at h
  simp only at h
  split at h
  · rename_i hgd; exact go l rfl (.inl hgd) h
  · rename_i x want hgd
    split at h
    · rename_i b hb
      by_cases hw : b = want
      · subst hw
        exact go ((x, .bool b) :: l) (upd_same (t := tget l) (d := x) hb) (.inr ⟨x, b, hgd, hb⟩) (h.1 rfl)
      · have hw' : b = !want := by cases b <;> cases want <;> first | rfl | exact absurd rfl hw
        refine ⟨.tup [], put ((x, .bool (!want)) :: l) g.d (.tup []), s, ?_, ?_, h.2 hw'⟩
        · unfold valD
          rw [hgd]
          simp only [hb, if_neg hw]
        · rw [tget_put, show tget ((x, V.bool (!want)) :: l) = tget l from upd_same (t := tget l) (d := x) (by rw [hb, hw'])]
    · rename_i ps hb
      refine ⟨.tup [], put l g.d (.tup []), s, ?_, ?_, h⟩
      · unfold valD
        rw [hgd]
        simp only [hb]
      · rw [tget_put]
    · exact h.elim
theorem vcT_ok {Γ : Env} {bl : Bool} {ops : Array Oper} {gl : List (GO × Bool)} {K : Tm → Hp → Prop} : ∀ (n : Nat) (listed : Array Bool) (t : DT) (l : Tm) (s : Hp), treeD bl ops gl n listed = some t → vcT Γ t l s K →
    AnyD Γ ops gl (fun t s => ∃ l, tget l = t ∧ K l s) n listed (tget l) s := by
  intro n
  induction n with
  | zero =>
    intro listed t l s hs hv
    unfold treeD at hs
    split at hs
    · rename_i he
      simp at hs
      subst hs
      exact ⟨by simpa using he, l, rfl, hv⟩
    · simp at hs
  | succ n ih =>
    intro listed t l s hs hv
    unfold treeD at hs
    have all : ∀ (is : List Nat) (t : DT), is.foldr (fun i acc => match gl[i]?, acc with
      | some (g, loud), some o => (treeD bl ops gl n (listed.setIfInBounds i true)).map fun r => .alt g loud r o
      | _, _ => none) (some .stop) = some t → vcT Γ t l s K → ∀ i ∈ is, ∃ g loud v s', gl[i]? = some (g, loud) ∧ valD Γ loud g (tget l) s = some (v, s') ∧ AnyD Γ ops gl (fun t s => ∃ l, tget l = t ∧ K l s) n (listed.setIfInBounds i true) (upd (tget l) g.d v) s' := by
      intro is
      induction is with
      | nil => intro t _ _ i hi; simp at hi
      | cons j is ih2 =>
        intro t ht hv i hi
        rw [List.foldr_cons] at ht
        split at ht
        · rename_i g loud o hg ho
          obtain ⟨r, h1, rfl⟩ := Option.map_eq_some_iff.1 ht
          obtain ⟨hv1, hv2⟩ := hv
          rcases List.mem_cons.1 hi with rfl | hi
          · obtain ⟨v, l1, s', e1, e2, e3⟩ := stepT_ok hv1
            have := ih _ _ _ _ h1 e3
            rw [e2] at this
            exact ⟨g, loud, v, s', hg, e1, this⟩
          · exact ih2 o ho hv2 i hi
        · simp at ht
    split at hs
    · rename_i he
      simp at hs
      subst hs
      exact ⟨fun _ => ⟨l, rfl, hv⟩, fun i hi => by rw [he] at hi; cases hi⟩
    · rename_i i0 rest hrd
      split at hs
      · rename_i i hfind
        have hir : i ∈ Region.ready .any ops listed := by rw [hrd]; exact List.mem_of_find?_eq_some hfind
        have hq := List.find?_some hfind
        split at hs
        · rename_i g hgi
          obtain ⟨r, h1, rfl⟩ := Option.map_eq_some_iff.1 hs
          have hap : apartAll ops gl listed i g = true := by
            unfold firstQ at hq
            rw [hgi] at hq
            simp only [Bool.and_eq_true] at hq
            exact hq.1
          exact quietT_ok (fun l => vcT Γ r l s K) hgi hir hap (fun l' h => ih _ _ _ _ h1 h) hv
        · simp at hs
      · refine ⟨fun h0 => (by rw [hrd] at h0; cases h0), fun i hi => ?_⟩
        rw [hrd] at hi
        exact all _ t hs hv i hi
end Go.Proofs.Ytkbgmkkboiihnaa
namespace Go.Proofs.Ytkbgmkkboiihnaa
open Go Go.RowKit

def loudB (lends : List FuncId) : SO → Bool
  | .call f _ => lends.contains f
  | .ld .. => false
  | so => !so.isQuiet
def glOf (P : Program) (nt : Nat) (lends : List FuncId) (ops : Array Oper) : Option (List (GO × Bool)) :=
  (compGOs P ops nt ops.toList).map fun gs => gs.map fun g => (g, loudB lends g.o)
/-- Does it begin with a call that writes into a row of the caller? -/
def startsLend (lends : List FuncId) : SC → Bool
  | .reg ops => ops.any fun g => match g.o with
    | .call f _ => lends.contains f
    | _ => false
  | .seq a _ => startsLend lends a
  | .cut a _ => startsLend lends a
  | _ => false
/-- Does it begin with a statement whose order is open? -/
def startsD : SC → Bool
  | .dreg _ => true
  | .treg _ => true
  | .seq a _ => startsD a
  | .cut a _ => startsD a
  | _ => false
def compC (P : Program) (nt : Nat) (lends : List FuncId) : Code → Option SC
  | .skip => some .skip
  | .region _ ops draw =>
    if draw then match glOf P nt lends ops with
      | some gl => match schedD ops gl ops.size (Array.replicate ops.size false) with
        | some ds => if ds.any (fun d => d.free && isLd d.g.o) && (decide (ops.size ≤ 9) || lends.contains 777777) then (treeD (!lends.contains 999999) ops gl ops.size (Array.replicate ops.size false)).map .treg else some (.dreg ds)
        | none => if ops.size ≤ 24 then (treeD (!lends.contains 999999) ops gl ops.size (Array.replicate ops.size false)).map .treg else none
      | none => none
    else (compGOs P ops nt ops.toList).map .reg
  | .seq a b => match compC P nt lends a, compC P nt lends b with
    | some a, some b => some (if (lends.contains 888888 && startsLend lends b) || (lends.contains 666666 && startsD b) then .cut a b else .seq a b)
    | _, _ => none
  | .cond c a b => match compOpd c, compC P nt lends a, compC P nt lends b with
    | some c, some a, some b => some (.cond c a b)
    | _, _, _ => none
  | .block id c => (compC P nt lends c).map (.block id)
  | .loop c => (compC P nt lends c).map .loop
  | .exit id => some (.exit id)
  | .ret => some .ret
  | _ => none

abbrev Post := Exit → Tm → Hp → Prop
def thenE (next : Tm → Hp → Prop) (Q : Post) : Post
  | .normal, l, s => next l s
  | e, l, s => Q e l s
def blockE (id : Nat) (Q : Post) : Post
  | .exit id', l, s => if id' = id then Q .normal l s else Q (.exit id') l s
  | e, l, s => Q e l s

/-- What 'c' does from the state 'l', 's' on. -/
def AWp (C : Ctx) (c : Code) (Q : Post) (l : Tm) (s : Hp) : Prop :=
  ∀ a w, C.St l s a w → c.wp C.P (fun e a' w' => ∃ l' s', Q e l' s' ∧ C.St l' s' a' w') a w
/-- A loop, whatever code it comes from. -/
def LoopOk (C : Ctx) (lends : List FuncId) (sc : SC) (Q : Post) (l : Tm) (s : Hp) : Prop :=
  ∀ c, compC C.P C.nt lends c = some sc → AWp C (.loop c) Q l s

/-- Ahead of what follows the rows may get other names. -/
structure CutI (k0 : Nat) (K : Tm → Hp → Prop) (l : Tm) (s : Hp) : Prop where
  h : ∃ l' s', (∀ C : Ctx, C.k0 = k0 → ∀ a w, C.St l s a w → C.St l' s' a w) ∧ K l' s'
/-- The verification condition. -/
def vc (C : Ctx) (Γ : Env) (lends : List FuncId) : SC → Post → Tm → Hp → Prop
  | .skip, Q, l, s => Q .normal l s
  | .reg ops, Q, l, s => vcOps Γ ops l s (Q .normal)
  | .dreg ops, Q, l, s => vcD Γ ops l s (Q .normal)
  | .treg t, Q, l, s => vcT Γ t l s (Q .normal)
  | .seq a b, Q, l, s => vc C Γ lends a (thenE (vc C Γ lends b Q) Q) l s
  | .cut a b, Q, l, s => vc C Γ lends a (thenE (CutI C.k0 (vc C Γ lends b Q)) Q) l s
  | .cond c a b, Q, l, s => match c.ev (tget l) with
    | .bool t => (t = true → vc C Γ lends a Q l s) ∧ (t = false → vc C Γ lends b Q l s)
    | .ub => vc C Γ lends a Q l s ∧ vc C Γ lends b Q l s
    | _ => False
  | .block id c, Q, l, s => vc C Γ lends c (blockE id Q) l s
  | .loop c, Q, l, s => LoopOk C lends c Q l s
  | .exit id, Q, l, s => Q (.exit id) l s
  | .ret, Q, l, s => Q .ret l s

section
variable {C : Ctx}
theorem vcOps_mono {Γ : Env} {K K' : Tm → Hp → Prop} (h : ∀ l s, K l s → K' l s) : ∀ (gs : List GO) (l : Tm) (s : Hp), vcOps Γ gs l s K → vcOps Γ gs l s K' := by
  intro gs
  induction gs with
  | nil => intro l s hv; exact h _ _ hv
  | cons g gs ih =>
    intro l s hv
    have run : ∀ l1, (match evH Γ (Opd.ev (tget l1)) s g.o with
      | some (b, v, s') => b = true ∧ vcOps Γ gs (put l1 g.d v) s' K
      | none => False) → (match evH Γ (Opd.ev (tget l1)) s g.o with
      | some (b, v, s') => b = true ∧ vcOps Γ gs (put l1 g.d v) s' K'
      | none => False) := by
      intro l1 h1
      split at h1
      · exact ⟨h1.1, ih _ _ h1.2⟩
      · exact h1
    unfold vcOps at hv ⊢
    split at hv
    · exact run _ hv
    · split at hv
      · exact ⟨fun e => run _ (hv.1 e), fun e => ih _ _ (hv.2 e)⟩
      · exact ih _ _ hv
      · exact hv
theorem wp_of_mono {c : Code} {Q Q' : Post} {a : Act} {w : World} (h : c.wp C.P (fun e a' w' => ∃ l' s', Q e l' s' ∧ C.St l' s' a' w') a w) (hq : ∀ e l s, Q e l s → Q' e l s) : c.wp C.P (fun e a' w' => ∃ l' s', Q' e l' s' ∧ C.St l' s' a' w') a w :=
  wp_mono h fun e _ _ ⟨l', s', h1, h2⟩ => ⟨l', s', hq e l' s' h1, h2⟩

theorem compGOs_get {P : Program} {ops : Array Oper} {nt : Nat} : ∀ {os : List Oper} {gs : List GO}, compGOs P ops nt os = some gs → ∀ {i : Nat} {o : Oper}, os[i]? = some o → ∃ g, gs[i]? = some g ∧ compGO P ops nt o = some g := by
  intro os
  induction os with
  | nil => intro gs _ i o h; simp at h
  | cons o os ih =>
    intro gs h i o' ho
    obtain ⟨g, gs', rfl, h1, h2⟩ := compGOs_cons h
    cases i with
    | zero => simp at ho; subst ho; exact ⟨g, rfl, h1⟩
    | succ i => simp at ho; simpa using ih h2 ho

theorem vc_ok {Γ : Env} (hΓ : EnvOk C.P Γ) (hm : C.P.follows .mixedOrders = true) (lends : List FuncId) : ∀ (c : Code) (sc : SC) (Q : Post) (l : Tm) (s : Hp), compC C.P C.nt lends c = some sc → vc C Γ lends sc Q l s → AWp C c Q l s := by
  intro c
  induction c with
  | skip =>
    intro sc Q l s hc hv a w hst
    simp only [compC, Option.some.injEq] at hc
    subst hc
    exact wp_skip ⟨l, s, hv, hst⟩
  | region id ops draw =>
    intro sc Q l s hc hv a w hst
    simp only [compC] at hc
    cases draw with
    | false =>
      simp only [Bool.false_eq_true, if_false] at hc
      obtain ⟨gs, h1, rfl⟩ := opt_map hc
      obtain ⟨N, T, hr⟩ := hst
      refine wp_region ?_
      have := vcOps_ok (C := C) hΓ (ops := ops) (Q := fun e a' w' => ∃ l' s', Q e l' s' ∧ C.St l' s' a' w') (K := Q .normal) (fun l s a w hq hs => ⟨l, s, hq, hs⟩) ops.toList gs 0 (fun j => by simp) h1 l s N T a w hv hr
      rw [List.range_eq_range']
      simpa using this
    | true =>
      simp only [if_true] at hc
      split at hc
      · rename_i gl hgl
        have hany : AnyD Γ ops gl (fun t s => ∃ l, tget l = t ∧ Q .normal l s) ops.size (Array.replicate ops.size false) (tget l) s := by
          split at hc
          · rename_i ds h1
            split at hc
            · obtain ⟨t, h2, rfl⟩ := opt_map hc
              exact vcT_ok (Γ := Γ) (ops := ops) (gl := gl) (K := Q .normal) ops.size _ t l s h2 hv
            · simp only [Option.some.injEq] at hc
              subst hc
              exact vcD_ok (Γ := Γ) (ops := ops) (gl := gl) (K := Q .normal) ops.size _ ds l s h1 hv
          · split at hc
            · obtain ⟨t, h2, rfl⟩ := opt_map hc
              exact vcT_ok (Γ := Γ) (ops := ops) (gl := gl) (K := Q .normal) ops.size _ t l s h2 hv
            · simp at hc
        obtain ⟨gs, g1, g2⟩ := opt_map hgl
        obtain ⟨N, T, hr⟩ := hst
        refine wp_region_any hm ?_
        refine anyD_ok (C := C) hΓ (gl := gl) ?_ (K := fun t s => ∃ l, tget l = t ∧ Q .normal l s) ?_ ops.size _ _ _ N T a _ hany ?_
        · intro i o ho
          obtain ⟨g, e1, e2⟩ := compGOs_get g1 (i := i) (o := o) (by simpa using ho)
          exact ⟨g, loudB lends g.o, by rw [← g2]; simp [e1], e2⟩
        · rintro t s N T a w ⟨l, rfl, hq⟩ hr
          exact ⟨l, s, hq, N, T, hr⟩
        · have k : Kept N N (Un C.w0 C.U0 w T) (Un C.w0 C.U0 w.drew T) w w.drew := ⟨fun b hb => ⟨rfl, hb⟩, fun _ _ h => h, fun _ _ _ _ => SameAt.shape rfl⟩
          exact ⟨hr.tsz, hr.dfr, Slots.kept k hr.sl, RH.kept k hr.hp (fun _ _ => rfl), hr.nd, hr.own, KeepBut.trans hr.fr (keep_drew _ _), hr.nx, hr.nl, hr.kn, hr.lh⟩
      · simp at hc
  | seq x y ihx ihy =>
    intro sc Q l s hc hv a w hst
    simp only [compC] at hc
    split at hc
    · rename_i a' b' h1 h2
      simp only [Option.some.injEq] at hc
      split at hc
      · subst hc
        refine wp_seq (wp_mono (ihx _ _ l s h1 hv a w hst) ?_)
        rintro e a1 w1 ⟨l1, s1, hq, hs⟩
        cases e with
        | normal =>
          obtain ⟨l2, s2, q1, q2⟩ := hq.h
          exact ihy _ _ l2 s2 h2 q2 a1 w1 (q1 C rfl a1 w1 hs)
        | _ => exact ⟨l1, s1, hq, hs⟩
      · subst hc
        refine wp_seq (wp_mono (ihx _ _ l s h1 hv a w hst) ?_)
        rintro e a1 w1 ⟨l1, s1, hq, hs⟩
        cases e with
        | normal => exact ihy _ _ l1 s1 h2 hq a1 w1 hs
        | _ => exact ⟨l1, s1, hq, hs⟩
    · simp at hc
  | cond c x y ihx ihy =>
    intro sc Q l s hc hv a w hst
    simp only [compC] at hc
    split at hc
    · rename_i c' a' b' h0 h1 h2
      simp only [Option.some.injEq] at hc
      subst hc
      simp only [vc] at hv
      split at hv
      · rename_i t ht
        obtain ⟨N, T, hr⟩ := hst
        have g := compOpd_ok h0 hr.sl
        rw [ht] at g
        refine wp_cond_split (g.bool_inv).1 (fun e => ?_) (fun e => ?_)
        · exact ihx _ _ l s h1 (hv.1 e) a w ⟨N, T, hr⟩
        · exact ihy _ _ l s h2 (hv.2 e) a w ⟨N, T, hr⟩
      · rename_i ht
        obtain ⟨N, T, hr⟩ := hst
        have g := compOpd_ok h0 hr.sl
        rw [ht] at g
        obtain ⟨b0, gb⟩ := g.ub_inv
        refine wp_cond_split (t := b0) gb (fun e => ?_) (fun e => ?_)
        · exact ihx _ _ l s h1 hv.1 a w ⟨N, T, hr⟩
        · exact ihy _ _ l s h2 hv.2 a w ⟨N, T, hr⟩
      · exact hv.elim
    · simp at hc
  | block id x ih =>
    intro sc Q l s hc hv a w hst
    simp only [compC] at hc
    obtain ⟨c', h1, rfl⟩ := opt_map hc
    refine wp_block (wp_mono (ih _ _ l s h1 hv a w hst) ?_)
    rintro e a1 w1 ⟨l1, s1, hq, hs⟩
    cases e with
    | exit id' =>
      simp only [Exit.inBlock]
      simp only [blockE] at hq
      split
      · rename_i h; rw [if_pos h] at hq; exact ⟨l1, s1, hq, hs⟩
      · rename_i h; rw [if_neg h] at hq; exact ⟨l1, s1, hq, hs⟩
    | _ => exact ⟨l1, s1, hq, hs⟩
  | loop x ih =>
    intro sc Q l s hc hv a w hst
    simp only [compC] at hc
    obtain ⟨c', h1, rfl⟩ := opt_map hc
    exact hv x h1 a w hst
  | exit id =>
    intro sc Q l s hc hv a w hst
    simp only [compC, Option.some.injEq] at hc
    subst hc
    exact wp_exit ⟨l, s, hv, hst⟩
  | ret =>
    intro sc Q l s hc hv a w hst
    simp only [compC, Option.some.injEq] at hc
    subst hc
    exact wp_ret ⟨l, s, hv, hst⟩
  | _ => intro sc Q l s hc; simp [compC] at hc
end
end Go.Proofs.Ytkbgmkkboiihnaa
namespace Go.Proofs.Ytkbgmkkboiihnaa
open Go Go.RowKit

theorem wp_loop_ghost {P : Program} {σ : Type} {c : Code} (I : σ → Act → World → Prop) (m : σ → Nat) {Q : Exit → Act → World → Prop}
    (round : ∀ x a w, I x a w → c.wp P (Exit.then (fun a' w' => ∃ x', m x' < m x ∧ I x' a' w') Q) a w) : ∀ (x : σ) (a : Act) (w : World), I x a w → (Code.loop c).wp P Q a w := by
  intro x0 a0 w0 h0 b k cs
  have key : ∀ n x a w, m x = n → I x a w → ∃ e a' w', Q e a' w' ∧ Arrives P (lone (b.at a (.code c :: .inLoop c :: k)) cs w) b k cs e a' w' := by
    intro n
    induction n using Nat.strongRecOn with
    | _ n ih =>
      intro x a w hn hI
      obtain ⟨e, a1, w1, hq, harr⟩ := round x a w hI b (.inLoop c :: k) cs
      cases e with
      | normal =>
        obtain ⟨x', hlt, hI'⟩ := hq
        obtain ⟨e2, a2, w2, hq2, harr2⟩ := ih (m x') (hn ▸ hlt) x' a1 w1 rfl hI'
        exact ⟨e2, a2, w2, hq2, .of_steps (Steps.trans harr (.one step_inLoop)) harr2⟩
      | exit id => exact ⟨_, a1, w1, hq, .pass (x := .inLoop c) rfl (fun _ _ => .inl (by simp)) harr⟩
      | goto l => exact ⟨_, a1, w1, hq, .pass (x := .inLoop c) rfl (fun _ _ => .inl (by simp)) harr⟩
      | ret => exact ⟨_, a1, w1, hq, .pass (x := .inLoop c) rfl (fun _ _ => .inl (by simp)) harr⟩
      | panic ch => exact ⟨_, a1, w1, hq, .pass (x := .inLoop c) rfl (fun _ _ => .inl (by simp)) harr⟩
      | outgrown => exact ⟨_, a1, w1, hq, .pass (x := .inLoop c) rfl (fun _ _ => .inl (by simp)) harr⟩
  obtain ⟨e, a', w', hq, harr⟩ := key _ x0 a0 w0 rfl h0
  exact ⟨e, a', w', hq, .of_steps (.one step_loop) harr⟩

/-- Whatever is in the first state is in the second. -/
def Sub (k0 : Nat) (l : Tm) (s : Hp) (l' : Tm) (s' : Hp) : Prop := ∀ (C : Ctx), C.k0 = k0 → ∀ a w, C.St l s a w → C.St l' s' a w
theorem Sub.refl (k0 : Nat) (l : Tm) (s : Hp) : Sub k0 l s l s := fun _ _ _ _ h => h
theorem Sub.trans {k0 : Nat} {l1 l2 l3 : Tm} {s1 s2 s3 : Hp} (h : Sub k0 l1 s1 l2 s2) (k : Sub k0 l2 s2 l3 s3) : Sub k0 l1 s1 l3 s3 := fun C hC a w hs => k C hC a w (h C hC a w hs)

section
variable {C : Ctx}
theorem AWp.sub {c : Code} {Q : Post} {l l' : Tm} {s s' : Hp} (hs : Sub C.k0 l s l' s') (h : AWp C c Q l' s') : AWp C c Q l s := fun a w hst => h a w (hs C rfl a w hst)
theorem LoopOk.sub {lends : List FuncId} {sc : SC} {Q : Post} {l l' : Tm} {s s' : Hp} (hs : Sub C.k0 l s l' s') (h : LoopOk C lends sc Q l' s') : LoopOk C lends sc Q l s := fun c hc => (h c hc).sub hs
/-- A loop whose states at its head are 'T x', 'H x' for the 'x' with 'inv x'. -/
theorem loop_ok {Γ : Env} (hΓ : EnvOk C.P Γ) (hm : C.P.follows .mixedOrders = true) {lends : List FuncId} {sc : SC} {Q : Post} {l : Tm} {s : Hp} {σ : Type} (T : σ → Tm) (H : σ → Hp) (inv : σ → Prop) (m : σ → Nat) (x0 : σ) (hi : inv x0)
    (h0 : Sub C.k0 l s (T x0) (H x0)) (round : ∀ x, inv x → vc C Γ lends sc (thenE (fun l' s' => ∃ x', inv x' ∧ m x' < m x ∧ Sub C.k0 l' s' (T x') (H x')) Q) (T x) (H x)) : LoopOk C lends sc Q l s := by
  intro c hc a w hst
  refine wp_loop_ghost (fun x a w => inv x ∧ C.St (T x) (H x) a w) m ?_ x0 a w ⟨hi, h0 C rfl a w hst⟩
  rintro x a w ⟨hx, hs⟩
  have h := vc_ok hΓ hm lends c sc _ _ _ hc (round x hx) a w hs
  refine wp_mono h ?_
  rintro e a' w' ⟨l', s', hq, hs'⟩
  cases e with
  | normal =>
    obtain ⟨x', h1, h2, h3⟩ := hq
    exact ⟨x', h2, h1, h3 C rfl a' w' hs'⟩
  | _ => exact ⟨l', s', hq, hs'⟩
end

/-- The name of a value in the second state, by the names of the first. -/
def ren1 (r : Nat → Option Nat) : V → Option V
  | .sl n sz off len => (r n).map fun m => .sl m sz off len
  | .pt n off => (r n).map fun m => .pt m off
  | v => if nonm 6 v then some v else none
def renL (r : Nat → Option Nat) : List V → Option (List V)
  | [] => some []
  | v :: vs => match ren1 r v, renL r vs with
    | some v, some vs => some (v :: vs)
    | _, _ => none
def renV (r : Nat → Option Nat) : V → Option V
  | .agg ps => (renL r ps).map .agg
  | .tup ps => (renL r ps).map .tup
  | .fn f ps => (renL r ps).map (.fn f)
  | v => ren1 r v
def subT (r : Nat → Option Nat) (l : Tm) : Tm → Prop
  | [] => True
  | (i, v) :: rest => (v = .undef ∨ renV r v = some (tget l i)) ∧ subT r l rest
def subH (r : Nat → Option Nat) : List (Nat × List V) → List (Nat × List V) → Prop
  | _, [] => True
  | H, (n', cells') :: rest => match r n' with
    | some n => match hget H n with
      | some cells => renL r cells' = some cells ∧ subH r (hdel H n) rest
      | none => False
    | none => False

section
variable {N : Nm} {U : Nat → Prop} {w : World} {r : Nat → Option Nat}
def renN (r : Nat → Option Nat) (N : Nm) : Nm := fun n => (r n).bind N
theorem ren1_ok {v' v : V} {c : Value} {F : List Nat} (he : ren1 r v' = some v) (h : RV N U w v c F) : RV (renN r N) U w v' c F := by
  have other : (if nonm 6 v' then some v' else none) = some v → RV (renN r N) U w v' c F := by
    intro h1
    split at h1
    · rename_i hn
      simp only [Option.some.injEq] at h1
      subst h1
      exact nonm_ok (fun _ h => h) 6 _ _ _ hn h
    · simp at h1
  have nm : ∀ {n m : Nat} {l : Loc}, r n = some m → N m = some l → renN r N n = some l := fun h1 h2 => by simp [renN, h1, h2]
  cases v' <;> simp only [ren1] at he <;> try (exact other he)
  case sl n sz off len =>
    obtain ⟨m, h1, rfl⟩ := opt_map he
    cases h with
    | sl _ _ _ _ b base cap arr e fz hn hb hs hlc hm hz => exact .sl n sz off len b base cap arr e fz (nm h1 hn) hb hs hlc hm hz
    | slE _ _ hn => exact .slE n sz (nm h1 hn)
    | slZ _ _ _ b base o arr e fz hn hb ho hz => exact .slZ n sz off b base o arr e fz (nm h1 hn) hb ho hz
  case pt n off =>
    obtain ⟨m, h1, rfl⟩ := opt_map he
    cases h with
    | pt _ _ b base hn => exact .pt n off b base (nm h1 hn)
theorem renL_ok {vs' : List V} : ∀ {vs : List V} {cs : List Value} {F : List Nat}, renL r vs' = some vs → RVs N U w vs cs F → RVs (renN r N) U w vs' cs F := by
  induction vs' with
  | nil => intro vs cs F he h; simp [renL] at he; subst he; cases h; exact .nil
  | cons v' vs' ih =>
    intro vs cs F he h
    unfold renL at he
    split at he
    · rename_i v vs1 h1 h2
      simp only [Option.some.injEq] at he
      subst he
      cases h with
      | cons _ _ c cs F Fs _ ha hb hE => exact .cons _ _ _ _ F Fs _ (ren1_ok h1 ha) (ih h2 hb) hE
    · simp at he
theorem renV_ok {v' v : V} {c : Value} {F : List Nat} (he : renV r v' = some v) (h : RV N U w v c F) : RV (renN r N) U w v' c F := by
  cases v' <;> simp only [renV] at he <;> try (exact ren1_ok he h)
  case agg ps =>
    obtain ⟨vs, h1, rfl⟩ := opt_map he
    cases h with
    | agg _ cs _ hv => exact .agg _ cs F (renL_ok h1 hv)
  case tup ps =>
    obtain ⟨vs, h1, rfl⟩ := opt_map he
    cases h with
    | tup _ cs _ hv => exact .tup _ cs F (renL_ok h1 hv)
  case fn f ps =>
    obtain ⟨vs, h1, rfl⟩ := opt_map he
    cases h with
    | fn _ _ cs hv => exact .fn f _ cs (renL_ok h1 hv)
theorem Ent.ren {n n' : Nat} {cells cells' : List V} {X : List Nat} (hr : r n' = some n) (he : renL r cells' = some cells) (h : Ent N U w n cells X) : Ent (renN r N) U w n' cells' X := by
  rcases h with ⟨h1, rfl, rfl⟩ | ⟨b, base, arr, e, cs, F, h1, h2, h3, h4, rfl⟩
  · refine .inl ⟨by simp [renN, hr, h1], ?_, rfl⟩
    cases cells' with
    | nil => rfl
    | cons v vs => unfold renL at he; split at he <;> simp at he
  · exact .inr ⟨b, base, arr, e, cs, F, by simp [renN, hr, h1], h2, h3, renL_ok he h4, rfl⟩
theorem subH_ok : ∀ (H' H : List (Nat × List V)) (T : List Nat), subH r H H' → RH N U w H T → ∃ T' D, RH (renN r N) U w H' T' ∧ (T' ++ D).Perm T := by
  intro H'
  induction H' with
  | nil => intro H T _ _; exact ⟨[], T, .nil, by simp⟩
  | cons p H' ih =>
    intro H T hs hh
    obtain ⟨n', cells'⟩ := p
    unfold subH at hs
    split at hs
    · rename_i n hn
      split at hs
      · rename_i cells hg
        obtain ⟨X, T1, d1, d2, d3⟩ := hh.del hg
        obtain ⟨T', D, e1, e2⟩ := ih _ _ hs.2 d2
        refine ⟨X ++ T', D, e1.push (d1.ren hn hs.1), ?_⟩
        rw [List.append_assoc]
        exact (e2.append_left X).trans d3.symm
      · exact hs.elim
    · exact hs.elim

/-- Slots and rows forgotten, names given anew. -/
theorem Sub.ren {k0 : Nat} (r : Nat → Option Nat) {l l' : Tm} {s s' : Hp} (hT : subT r l l') (hH : subH r s.1 s'.1) (hn : ∀ n, s'.2 ≤ n → r n = none) (hk : ∀ n, n < k0 → r n = some n) (hk2 : k0 ≤ s'.2) : Sub k0 l s l' s' := by
  intro C hC a w hst
  obtain ⟨N, T, hr⟩ := hst
  obtain ⟨T', D, e1, e2⟩ := subH_ok _ _ _ hH hr.hp
  have hmem : ∀ x ∈ T', x ∈ T := fun x hx => e2.mem_iff.1 (by simp [hx])
  have hU : ∀ b, Un C.w0 C.U0 w T b → Un C.w0 C.U0 w T' b := fun b hb => ⟨hb.1, fun hm => hb.2.1 (hmem b hm), hb.2.2⟩
  have kk := kept_refl (renN r N) w hU
  subst hC
  refine ⟨renN r N, T', hr.tsz, hr.dfr, ?_, e1.kept kk (fun _ _ => rfl), ?_, fun b hb => hr.own b (hmem b hb), hr.fr, fun n h => by simp [renN, hn n h], fun n h => by simp only [renN, hk n h, Option.bind_some]; exact hr.nl n h, hk2, hr.lh⟩
  · intro i
    refine RV.kept kk ?_ (by simp)
    have key : ∀ (l' : Tm), subT r l l' → RV (renN r N) (Un C.w0 C.U0 w T) w (tget l' i) (a.tmps.getD i Go.undef) [] := by
      intro l'
      induction l' with
      | nil => intro _; exact .undef _
      | cons p l' ih =>
        intro h
        obtain ⟨j, v⟩ := p
        simp only [tget]
        split
        · rename_i hj
          subst hj
          rcases h.1 with rfl | h1
          · exact .undef _
          · exact renV_ok h1 (hr.sl j)
        · exact ih h.2
    exact key l' hT
  · exact (List.nodup_append.1 (e2.nodup_iff.2 hr.nd)).1
end
end Go.Proofs.Ytkbgmkkboiihnaa
namespace Go.Proofs.Ytkbgmkkboiihnaa
open Go Go.RowKit

def compRV (P : Program) : ResultVar → Option (Nat × Option Nat)
  | .tmp t => some (t, none)
  | .cell a t => match aggB P t, P.info? t with
    | some true, some i => some (a, some i.size)
    | _, _ => none
def compRVs (P : Program) : List ResultVar → Option (List (Nat × Option Nat))
  | [] => some []
  | r :: rs => match compRV P r, compRVs P rs with
    | some x, some xs => some (x :: xs)
    | _, _ => none
/-- A function's slim code: its slots, its code, its results. -/
def fnCode (P : Program) (lends : List FuncId) (f : FuncId) : Option (Nat × SC × List (Nat × Option Nat)) :=
  match P.funcs[f]? with
  | some fd => if fd.name == "runtime.NumGoroutine" then none else match fd.body with
    | some c => match compC P fd.ntmps lends c, compRVs P fd.results.toList with
      | some sc, some rs => some (fd.ntmps, sc, rs)
      | _, _ => none
    | none => none
  | none => none

def initT : Nat → List V → Tm
  | _, [] => []
  | k, v :: vs => (k, v) :: initT (k + 1) vs

/-- The results' values. -/
def resV (l : Tm) (s : Hp) : List (Nat × Option Nat) → Option (List V)
  | [] => some []
  | (t, none) :: rs => (resV l s rs).map (tget l t :: ·)
  | (t, some k) :: rs => match tget l t with
    | .pt n off => match hget s.1 n with
      | some cells => if off + k ≤ cells.length ∧ ((cells.drop off).take k).all V.cell = true then (resV l s rs).map (.agg ((cells.drop off).take k) :: ·) else none
      | none => none
    | _ => none
def resOf : List V → V
  | [v] => v
  | vs => .tup vs

/-- The value 'v' with its rows is 'r'. -/
def mtL (f : List (Nat × List V) → V → V → (List (Nat × List V) → Prop) → Prop) : List (Nat × List V) → List V → List V → (List (Nat × List V) → Prop) → Prop
  | H, [], [], K => K H
  | H, v :: vs, r :: rs, K => f H v r fun H' => mtL f H' vs rs K
  | _, _, _, _ => False
def mt1 (k0 : Nat) (H : List (Nat × List V)) (v r : V) (K : List (Nat × List V) → Prop) : Prop :=
  match v, r with
  | .sl n sz' off len, .own sz cells => match hget H n with
    | some cs => k0 ≤ n ∧ sz = sz' ∧ off + len * sz ≤ cs.length ∧ (cs.drop off).take (len * sz) = cells ∧ cells.all (nonm 6) = true ∧ K (hdel H n)
    | none => False
  | .nil, .own _ cells => cells = [] ∧ K H
  | .sl n sz off len, .sl n' sz' off' len' => n = n' ∧ n < k0 ∧ sz = sz' ∧ off = off' ∧ len = len' ∧ K H
  | .pt n off, .pt n' off' => n = n' ∧ n < k0 ∧ off = off' ∧ K H
  | v, r => v = r ∧ nonm 6 r = true ∧ K H
def mt2 (k0 : Nat) (H : List (Nat × List V)) (v r : V) (K : List (Nat × List V) → Prop) : Prop :=
  match v, r with
  | .agg vs, .agg rs => mtL (mt1 k0) H vs rs K
  | v, r => mt1 k0 H v r K
def mt (k0 : Nat) (H : List (Nat × List V)) (v r : V) (K : List (Nat × List V) → Prop) : Prop :=
  match v, r with
  | .tup vs, .tup rs => mtL (mt2 k0) H vs rs K
  | v, r => mt2 k0 H v r K

/-- Behind the code: the result is 'r', the rows that are left are as 'K' says. -/
def retE (k0 : Nat) (rvs : List (Nat × Option Nat)) (r : V) (K : List (Nat × List V) → Prop) : Post := fun e l s =>
  match e with
  | .ret | .normal => match resV l s rvs with
    | some vs => mt k0 s.1 (resOf vs) r K
    | none => False
  | _ => False

/-- What is known of arguments from their memory. -/
def bnd : Nat → V → Prop
  | 0, _ => True
  | k + 1, .list sz cells => cells.length ≤ 9223372036854775807 * sz ∧ ∀ x ∈ cells, bnd k x
  | k + 1, .agg ps => ∀ x ∈ ps, bnd k x
  | k + 1, .rp ps => ∀ x ∈ ps, bnd k x
  | k + 1, .fn _ ps => ∀ x ∈ ps, bnd k x
  | _ + 1, _ => True

section
variable {N : Nm} {U : Nat → Prop} {w : World}
theorem bnd_ok : ∀ (k : Nat) (v : V) (c : Value) (F : List Nat), RV N U w v c F → bnd k v := by
  intro k
  induction k with
  | zero => intro v c F _; trivial
  | succ k ih =>
    intro v c F h
    have sub : ∀ (vs : List V) (cs : List Value) (G : List Nat), RVs N U w vs cs G → ∀ x ∈ vs, bnd k x := by
      intro vs cs G hv x hx
      obtain ⟨j, hj⟩ := List.getElem?_of_mem hx
      obtain ⟨c', Fj, A, B, _, h2, _⟩ := hv.get hj
      exact ih x c' Fj h2
    cases h <;> try trivial
    case listE => exact ⟨by simp, by simp⟩
    case list sz cells b o len cap cs hU hl hlc hm hz hc hv =>
      refine ⟨?_, sub _ _ _ hv⟩
      rw [hl]
      exact Nat.mul_le_mul_right _ (by simp only [maxLen] at hm; omega)
    case agg hv => exact sub _ _ _ hv
    case rp cells b o cs hU hc hv => exact sub _ _ _ hv
    case fn hv => exact sub _ _ _ hv

/-- What 'mt' gives. -/
def MtOk (k0 : Nat) (N : Nm) (U : Nat → Prop) (w : World) (T : List Nat) (r : V) (c : Value) (K : List (Nat × List V) → Prop) : Prop :=
  ∃ F T' H', RV (fun n => if n < k0 then N n else none) U w r c F ∧ RH N U w H' T' ∧ (∃ D, (F ++ T' ++ D).Perm T) ∧ K H'
def MtsOk (k0 : Nat) (N : Nm) (U : Nat → Prop) (w : World) (T : List Nat) (rs : List V) (cs : List Value) (K : List (Nat × List V) → Prop) : Prop :=
  ∃ F T' H', RVs (fun n => if n < k0 then N n else none) U w rs cs F ∧ RH N U w H' T' ∧ (∃ D, (F ++ T' ++ D).Perm T) ∧ K H'
theorem mtL_ok {k0 : Nat} {f : List (Nat × List V) → V → V → (List (Nat × List V) → Prop) → Prop}
    (hf : ∀ H T v r c K, f H v r K → RV N U w v c [] → RH N U w H T → MtOk k0 N U w T r c K) :
    ∀ (vs rs : List V) (H : List (Nat × List V)) (T : List Nat) (cs : List Value) (K : List (Nat × List V) → Prop), mtL f H vs rs K → RVs N U w vs cs [] → RH N U w H T → MtsOk k0 N U w T rs cs K := by
  intro vs
  induction vs with
  | nil =>
    intro rs H T cs K h hv hh
    cases rs with
    | nil => cases hv; exact ⟨[], T, H, .nil, hh, ⟨[], by simp⟩, h⟩
    | cons r rs => exact h.elim
  | cons v vs ih =>
    intro rs H T cs K h hv hh
    cases rs with
    | nil => exact h.elim
    | cons r rs =>
      cases hv with
      | cons _ _ c cs F Fs _ h1 h2 hE =>
        have e : F = [] ∧ Fs = [] := by simpa using hE.symm
        obtain ⟨rfl, rfl⟩ := e
        obtain ⟨F1, T1, H1, a1, a2, ⟨D1, a3⟩, a4⟩ := hf H T v r c _ h h1 hh
        obtain ⟨F2, T2, H2, b1, b2, ⟨D2, b3⟩, b4⟩ := ih rs H1 T1 cs K a4 h2 a2
        refine ⟨F1 ++ F2, T2, H2, .cons _ _ _ _ F1 F2 _ a1 b1 rfl, b2, ⟨D2 ++ D1, ?_⟩, b4⟩
        have p1 : (F1 ++ F2 ++ T2 ++ (D2 ++ D1)) = F1 ++ (F2 ++ T2 ++ D2) ++ D1 := by simp
        rw [p1]
        exact ((b3.append_left F1).append_right D1).trans a3
theorem mt1_ok {k0 : Nat} (H : List (Nat × List V)) (T : List Nat) (v r : V) (c : Value) (K : List (Nat × List V) → Prop) (h : mt1 k0 H v r K) (hv : RV N U w v c []) (hh : RH N U w H T) : MtOk k0 N U w T r c K := by
  have other : v = r ∧ nonm 6 r = true ∧ K H → MtOk k0 N U w T r c K := by
    rintro ⟨rfl, h1, h2⟩
    exact ⟨[], T, H, nonm_ok (fun _ h => h) 6 _ _ _ h1 hv, hh, ⟨[], by simp⟩, h2⟩
  unfold mt1 at h
  split at h
  · rename_i n sz' off len sz cells
    split at h
    · rename_i cs hg
      obtain ⟨hk, rfl, hle, rfl, hnm, hK⟩ := h
      obtain ⟨X, T1, d1, d2, d3⟩ := hh.del hg
      cases hv with
      | slE _ _ hn =>
        simp only [Nat.zero_mul, List.take_zero] at hnm ⊢
        exact ⟨[], T1, _, .ownE _, d2, ⟨X, by simpa using (List.perm_append_comm).trans d3.symm⟩, hK⟩
      | slZ _ _ _ b base o arr e fz hn hb ho hz =>
        rcases d1 with ⟨g1, _⟩ | ⟨b', base', arr', e', cs', F, g1, g2, g3, g4, rfl⟩
        · rw [hn] at g1; simp at g1
        · rw [hn] at g1
          simp at g1
          obtain ⟨rfl, rfl⟩ := g1
          rw [hb] at g2
          simp at g2
          obtain ⟨rfl, rfl, rfl⟩ := g2
          simp only [Nat.zero_mul, List.take_zero] at hnm ⊢
          refine ⟨[b], T1, _, .own sz [] b o 0 0 arr e [] [] _ hb (by simp) (by omega) (Nat.le_refl _) (by simp [maxLen]) hz (by simp) .nil rfl, d2, ⟨F, ?_⟩, hK⟩
          have : ([b] ++ T1 ++ F).Perm (b :: F ++ T1) := by
            simp only [List.cons_append]
            exact List.Perm.cons _ List.perm_append_comm
          exact this.trans d3.symm
      | sl _ _ _ _ b base cap arr e fz hn hb hs hlc hm hz =>
        rcases d1 with ⟨g1, _⟩ | ⟨b', base', arr', e', cs', F, g1, g2, g3, g4, rfl⟩
        · rw [hn] at g1; simp at g1
        · rw [hn] at g1
          simp at g1
          obtain ⟨rfl, rfl⟩ := g1
          rw [hb] at g2
          simp at g2
          obtain ⟨rfl, rfl, rfl⟩ := g2
          obtain ⟨ms, G, m1, m2, m3, m4⟩ := g4.mid hle
          have hGm : ∃ D, (G ++ D).Perm F := by
            clear g4 m1 d3
            induction m2 with
            | slnil => exact ⟨[], by simp⟩
            | cons x _ ih => obtain ⟨D, hD⟩ := ih; exact ⟨x :: D, (List.perm_middle).trans (hD.cons x)⟩
            | cons_cons x _ ih => obtain ⟨D, hD⟩ := ih; exact ⟨D, by simpa using hD.cons x⟩
          obtain ⟨D, hD⟩ := hGm
          refine ⟨b :: G, T1, _, .own sz _ b (base + off) len cap arr e ms G _ hb (by rw [List.length_take, List.length_drop]; omega) (by omega) hlc hm hz (fun j c hj => by rw [Nat.add_assoc]; exact g3 _ c (m3 j c hj))
            (m1.mapN fun v c G' hmem hr => nonm_ok (fun _ h => h) 6 v c G' (List.all_eq_true.1 hnm v hmem) hr) rfl, d2, ⟨D, ?_⟩, hK⟩
          refine List.Perm.trans ?_ d3.symm
          simp only [List.cons_append]
          refine List.Perm.cons _ ?_
          have p1 : (G ++ T1 ++ D).Perm (G ++ D ++ T1) := by
            rw [List.append_assoc, List.append_assoc]
            exact List.perm_append_comm.append_left G
          exact p1.trans (hD.append_right T1)
    · exact h.elim
  · rename_i sz cells
    obtain ⟨rfl, hK⟩ := h
    cases hv
    exact ⟨[], T, H, .ownE _, hh, ⟨[], by simp⟩, hK⟩
  · rename_i n sz off len n' sz' off' len'
    obtain ⟨rfl, hk, rfl, rfl, rfl, hK⟩ := h
    have nm : ∀ {l : Loc}, N n = some l → (fun m => if m < k0 then N m else none : Nm) n = some l := fun h => by simp [hk, h]
    refine ⟨[], T, H, ?_, hh, ⟨[], by simp⟩, hK⟩
    cases hv with
    | sl _ _ _ _ b base cap arr e fz hn hb hs hlc hm hz => exact .sl _ _ _ _ b base cap arr e fz (nm hn) hb hs hlc hm hz
    | slE _ _ hn => exact .slE _ _ (nm hn)
    | slZ _ _ _ b base o arr e fz hn hb ho hz => exact .slZ _ _ _ b base o arr e fz (nm hn) hb ho hz
  · rename_i n off n' off'
    obtain ⟨rfl, hk, rfl, hK⟩ := h
    refine ⟨[], T, H, ?_, hh, ⟨[], by simp⟩, hK⟩
    cases hv with
    | pt _ _ b base hn => exact .pt _ _ b base (by simp [hk, hn])
  · exact other h
theorem mt2_ok {k0 : Nat} (H : List (Nat × List V)) (T : List Nat) (v r : V) (c : Value) (K : List (Nat × List V) → Prop) (h : mt2 k0 H v r K) (hv : RV N U w v c []) (hh : RH N U w H T) : MtOk k0 N U w T r c K := by
  unfold mt2 at h
  split at h
  · cases hv with
    | agg _ cs _ hv =>
      obtain ⟨F, T', H', a1, a2, a3, a4⟩ := mtL_ok (fun H T v r c K => mt1_ok H T v r c K) _ _ H T cs K h hv hh
      exact ⟨F, T', H', .agg _ cs F a1, a2, a3, a4⟩
  · exact mt1_ok H T _ _ c K h hv hh
theorem mt_ok {k0 : Nat} (H : List (Nat × List V)) (T : List Nat) (v r : V) (c : Value) (K : List (Nat × List V) → Prop) (h : mt k0 H v r K) (hv : RV N U w v c []) (hh : RH N U w H T) : MtOk k0 N U w T r c K := by
  unfold mt at h
  split at h
  · cases hv with
    | tup _ cs _ hv =>
      obtain ⟨F, T', H', a1, a2, a3, a4⟩ := mtL_ok (fun H T v r c K => mt2_ok H T v r c K) _ _ H T cs K h hv hh
      exact ⟨F, T', H', .tup _ cs F a1, a2, a3, a4⟩
  · exact mt2_ok H T _ _ c K h hv hh
end
section
variable {C : Ctx}
def rvSem (tmps : Array Value) : ResultVar → Sem Value
  | .tmp t => pure (tmps.getD t Go.undef)
  | .cell x t => do loadVar t (← asAddr (tmps.getD x Go.undef))
theorem resV_ok {P : Program} {l : Tm} {s : Hp} {N : Nm} {U : Nat → Prop} {T : List Nat} {a : Act} {w : World} (hs : Slots N U w (tget l) a) (hh : RH N U w s.1 T) : ∀ (rs : List ResultVar) (rvs : List (Nat × Option Nat)) (vs : List V), compRVs P rs = some rvs → resV l s rvs = some vs →
    ∃ cs : List Value, (rs.mapM (rvSem a.tmps)).run P w = .ok cs w ∧ RVs N U w vs cs [] := by
  intro rs
  induction rs with
  | nil => intro rvs vs hc hv; simp [compRVs] at hc; subst hc; simp [resV] at hv; subst hv; exact ⟨[], rfl, .nil⟩
  | cons r rs ih =>
    intro rvs vs hc hv
    unfold compRVs at hc
    split at hc
    · rename_i x xs h1 h2
      simp only [Option.some.injEq] at hc
      subst hc
      cases r with
      | tmp t =>
        simp only [compRV, Option.some.injEq] at h1
        subst h1
        simp only [resV] at hv
        obtain ⟨vs', h3, rfl⟩ := opt_map hv
        obtain ⟨cs, e1, e2⟩ := ih xs vs' h2 h3
        refine ⟨_ :: cs, ?_, .cons _ _ _ _ [] [] _ (hs t) e2 rfl⟩
        rw [List.mapM_cons]
        simp only [Sem.run_bind, rvSem, Sem.run_pure, Result.andThen_ok]
        rw [e1]
        rfl
      | cell x t =>
        simp only [compRV] at h1
        split at h1
        · rename_i i ha hi
          simp only [Option.some.injEq] at h1
          subst h1
          simp only [resV] at hv
          split at hv
          · rename_i n off hx
            split at hv
            · rename_i cells hg
              split at hv
              · rename_i hcond
                obtain ⟨vs', h3, rfl⟩ := opt_map hv
                obtain ⟨cs, e1, e2⟩ := ih xs vs' h2 h3
                have hp := hs x
                rw [hx] at hp
                obtain ⟨c, r1, r2⟩ := ldn_run_pt (P := P) ha hi hh hg hp hcond.1 hcond.2
                obtain ⟨b, base, _, _, hcx, _⟩ := pt_cells hh hg hp
                refine ⟨c :: cs, ?_, .cons _ _ _ _ [] [] _ r2 e2 rfl⟩
                rw [hcx] at r1
                rw [List.mapM_cons]
                simp only [Instr.loadAt, Instr.sureAddr, Sem.run_bind, Sem.run_pure, Result.andThen_ok] at r1
                have r3 : (rvSem a.tmps (.cell x t)).run P w = .ok c w := by
                  simp only [rvSem, Sem.run_bind, hcx, asAddr, Sem.run_pure, Result.andThen_ok, r1]
                simp only [Sem.run_bind, r3, Result.andThen_ok, e1, Sem.run_pure]
              · simp at hv
            · simp at hv
          · simp at hv
        · simp at h1
    · simp at hc
theorem resOf_ok {N : Nm} {U : Nat → Prop} {w : World} {vs : List V} {cs : List Value} (h : RVs N U w vs cs []) : RV N U w (resOf vs) (if h : cs.toArray.size = 1 then cs.toArray[0] else .tuple cs.toArray) [] := by
  cases h with
  | nil => simp only [resOf]; exact .tup [] [] [] .nil
  | cons v vs c cs F Fs _ h1 h2 hE =>
    have e : F = [] ∧ Fs = [] := by simpa using hE.symm
    obtain ⟨rfl, rfl⟩ := e
    cases h2 with
    | nil => simpa [resOf] using h1
    | cons v2 vs c2 cs F2 Fs2 _ h3 h4 hE2 =>
      have e : F2 = [] ∧ Fs2 = [] := by simpa using hE2.symm
      obtain ⟨rfl, rfl⟩ := e
      rw [dif_neg (by simp)]
      exact .tup _ (c :: c2 :: cs) [] (.cons _ _ _ _ [] [] _ h1 (.cons _ _ _ _ [] [] _ h3 h4 rfl) rfl)
theorem results_run {P : Program} {fd : Func} {tmps : Array Value} {w : World} {cs : List Value}
    (h : (fd.results.toList.mapM (rvSem tmps)).run P w = .ok cs w) :
    (results fd tmps).run P w = .ok (if h : cs.toArray.size = 1 then cs.toArray[0] else .tuple cs.toArray) w := by
  have e : results fd tmps = (fd.results.mapM (rvSem tmps) >>= fun vs => pure (if h : vs.size = 1 then vs[0] else .tuple vs)) := by
    unfold results
    congr
  rw [e, Array.mapM_eq_mapM_toList]
  simp only [Sem.run_bind, Sem.run_map, h, Result.andThen_ok, Sem.run_pure]

theorem initT_get : ∀ (args : List V) (k i : Nat), tget (initT k args) i = if k ≤ i then (args[i - k]?).getD .undef else .undef := by
  intro args
  induction args with
  | nil => intro k i; simp [initT, tget]
  | cons v vs ih =>
    intro k i
    simp only [initT, tget]
    split
    · rename_i h; subst h; simp
    · rename_i h
      rw [ih]
      by_cases h1 : k ≤ i
      · rw [if_pos h1, if_pos (by omega), show i - k = (i - (k + 1)) + 1 by omega, List.getElem?_cons_succ]
      · rw [if_neg h1, if_neg (by omega)]
theorem init_slots {N : Nm} {U : Nat → Prop} {w : World} {args : List V} {cargs : List Value} (h : RVs N U w args cargs []) {nt : Nat} (d : List Deferred) :
    Slots N U w (tget (initT 0 args)) { tmps := cargs.toArray ++ Array.replicate (nt - cargs.toArray.size) Go.undef, defers := d } := by
  intro i
  rw [initT_get, if_pos (Nat.zero_le _), Nat.sub_zero]
  cases hi : args[i]? with
  | none => exact .undef _
  | some v =>
    obtain ⟨c, h1, h2⟩ := h.get0 hi
    have hlt := (List.getElem?_eq_some_iff.1 h1).1
    have : ({ tmps := cargs.toArray ++ Array.replicate (nt - cargs.toArray.size) Go.undef, defers := d } : Act).tmps.getD i Go.undef = c := by
      simp only [Array.getD_eq_getD_getElem?]
      rw [Array.getElem?_append_left (by simpa using hlt)]
      simp [h1]
    rw [this]
    exact h2

theorem fnCode_inv {P : Program} {lends : List FuncId} {f : FuncId} {nt : Nat} {sc : SC} {rvs : List (Nat × Option Nat)} (h : fnCode P lends f = some (nt, sc, rvs)) :
    ∃ fd c, P.funcs[f]? = some fd ∧ fd.body = some c ∧ (fd.name == "runtime.NumGoroutine") = false ∧ fd.ntmps = nt ∧ compC P nt lends c = some sc ∧ compRVs P fd.results.toList = some rvs := by
  unfold fnCode at h
  split at h
  · rename_i fd hf
    split at h
    · simp at h
    · rename_i hn
      split at h
      · rename_i c hb
        split at h
        · rename_i sc' rs' h1 h2
          simp only [Option.some.injEq, Prod.mk.injEq] at h
          obtain ⟨rfl, rfl, rfl⟩ := h
          exact ⟨fd, c, hf, hb, by simpa using hn, rfl, h1, h2⟩
        · simp at h
      · simp at h
  · simp at h

/-- A function that only reads, out of its verification condition. -/
theorem fn_ok {P : Program} {f : FuncId} {nt : Nat} {sc : SC} {rvs : List (Nat × Option Nat)} {lends : List FuncId} (hc : fnCode P lends f = some (nt, sc, rvs)) (hm : P.follows .mixedOrders = true) {Γ : Env} (hΓ : EnvOk P Γ) {F : List V → Option V}
    (h : ∀ args r, F args = some r → (∀ a ∈ args, bnd 6 a) → args.length ≤ nt ∧ ∀ w0 U0 L0 N0, vc ⟨P, w0, U0, L0, N0, 0, nt⟩ Γ lends sc (retE 0 rvs r fun _ => True) (initT 0 args) ([], 0)) : FnOk P f F := by
  obtain ⟨fd, c, hf, hb, hname, hnt, h1, h2⟩ := fnCode_inv hc
  refine ⟨⟨fd, hf, by simp [hb], hname⟩, ?_⟩
  intro args r hF U w cargs hU hargs
  have hbnd : ∀ a ∈ args, bnd 6 a := by
    intro x hx
    obtain ⟨j, hj⟩ := List.getElem?_of_mem hx
    obtain ⟨c', g1, g2⟩ := hargs.get0 hj
    exact bnd_ok 6 x c' [] g2
  obtain ⟨hlen, hvc⟩ := h args r hF hbnd
  have hv := hvc w U [] (fun _ => none)
  have hw := vc_ok (C := ⟨P, w, U, [], fun _ => none, 0, nt⟩) hΓ hm lends c sc _ _ _ h1 hv
  refine calls_of_wp hf hb ?_
  rw [hnt]
  have hcl := hargs.len
  have hst : Ctx.St ⟨P, w, U, [], fun _ => none, 0, nt⟩ (initT 0 args) ([], 0) { tmps := cargs.toArray ++ Array.replicate (nt - cargs.toArray.size) Go.undef, defers := [] } w := by
    refine ⟨fun _ => none, [], ?_, rfl, ?_, .nil, List.nodup_nil, by simp, KeepBut.refl _ _, fun _ _ => rfl, fun _ _ => rfl, Nat.le_refl _, by simp, fun _ => rfl⟩
    · simp; omega
    · refine init_slots ?_ []
      exact hargs.kept ⟨fun b hb => ⟨rfl, hU b hb, by simp, .inl hb⟩, fun _ _ h => h, fun _ _ _ _ => SameAt.shape rfl⟩ (by simp)
  refine wp_mono (hw _ w hst) ?_
  rintro e a' w' ⟨l', s', hq, N, T, hr⟩
  have fin : (match resV l' s' rvs with
      | some vs => mt 0 s'.1 (resOf vs) r fun _ => True
      | none => False) → a'.defers = [] ∧ ∃ v, (results fd a'.tmps).run P w' = .ok v w' ∧ ∃ c F, Ending.returned v = .returned c ∧ Fresh w w' F ∧ RV (fun _ => none) (Uf U w w' F) w' r c F ∧ Below w.heap.size w w' := by
    intro hq
    split at hq
    · rename_i vs hvs
      obtain ⟨cs, e1, e2⟩ := resV_ok (P := P) hr.sl hr.hp _ _ _ h2 hvs
      obtain ⟨Fp, T', H', m1, _, ⟨D, m2⟩, _⟩ := mt_ok s'.1 T _ _ _ _ hq (resOf_ok e2) hr.hp
      have hsub : ∀ x ∈ Fp, x ∈ T := fun x hx => m2.mem_iff.1 (by simp [hx])
      have hTlt := RH.lt hr.hp
      refine ⟨hr.dfr, _, results_run e1, _, Fp, rfl, ⟨?_, fun x hx => ⟨?_, hTlt x (hsub x hx)⟩⟩, ?_, ?_⟩
      · have := m2.nodup_iff.2 hr.nd
        exact (List.nodup_append.1 (List.nodup_append.1 this).1).1
      · have := hr.own x (hsub x hx)
        simpa using this
      · refine m1.kept ⟨fun b hbU => ⟨rfl, ?_⟩, fun n l hn => by simp at hn, fun _ _ _ _ => SameAt.shape rfl⟩ (fun _ _ => rfl)
        obtain ⟨u1, u2, u3⟩ := hbU
        rcases u3 with u3 | u3
        · exact .inl u3
        · exact .inr ⟨u3, u1, fun hx => u2 (hsub b hx)⟩
      · exact ⟨hr.fr.os, hr.fr.tape, hr.fr.output, hr.fr.size, fun k hk => hr.fr.block k hk (by simp)⟩
    · exact hq.elim
  cases e with
  | normal => exact fin hq
  | ret => exact fin hq
  | _ => exact hq.elim
end
end Go.Proofs.Ytkbgmkkboiihnaa
