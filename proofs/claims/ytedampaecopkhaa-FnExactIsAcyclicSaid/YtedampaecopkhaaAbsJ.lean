/- Stores, new rows, append. -/
import Derived.Test.YtedampaecopkhaaAbsI
namespace Go.Proofs.Ytedampaecopkhaa
open Go Go.RowKit

section
variable {P : Program} {w0 : World} {U0 : Nat → Prop} {L0 : List Nat} {N0 : Nm} {k0 nt : Nat} {t : Nat → V} {s : Hp} {N : Nm} {T : List Nat} {a : Act} {w : World}

def ext (N : Nm) (n : Nat) (l : Loc) : Nm := fun m => if m = n then some l else N m
theorem ext_old {N : Nm} {n : Nat} {l : Loc} (h : N n = none) : ∀ m l', N m = some l' → ext N n l m = some l' := by
  intro m l' hm
  unfold ext
  split
  · rename_i e; rw [e, h] at hm; cases hm
  · exact hm
theorem ext_new (N : Nm) (n : Nat) (l : Loc) : ext N n l n = some l := by simp [ext]

theorem RS.push (h : RS w0 U0 L0 N0 k0 nt t s N T a w) {dst : Option Nat} (hd : ∀ d, dst = some d → d < nt) {H1 : List (Nat × List V)} {T1 : List Nat} (hH : RH N (Un w0 U0 w T) w H1 T1) (hT1 : ∀ x ∈ T1, x ∈ T)
    {l : Loc} {X : List Nat} {w' : World} (hsz : w.heap.size ≤ w'.heap.size) (hsame : ∀ x, x < w.heap.size → (x ∉ T ∨ x ∈ T1) → SameAt w w' x) (hshape : ∀ x, x < w.heap.size → ShapeAt w w' x)
    (hnd : (X ++ T1).Nodup) (hX : ∀ x ∈ X, x ∈ T ∨ w.heap.size ≤ x) (hfr : KeepBut L0 w0 w') {v : V} {c : Value} {cells : List V}
    (hEnt : Kept N (ext N s.2 l) (Un w0 U0 w T) (Un w0 U0 w' (X ++ T1)) w w' → Ent (ext N s.2 l) (Un w0 U0 w' (X ++ T1)) w' s.2 cells X)
    (hval : Kept N (ext N s.2 l) (Un w0 U0 w T) (Un w0 U0 w' (X ++ T1)) w w' → RV (ext N s.2 l) (Un w0 U0 w' (X ++ T1)) w' v c []) :
    ∃ N' T', RS w0 U0 L0 N0 k0 nt (upd t dst v) ((s.2, cells) :: H1, s.2 + 1) N' T' (a.put dst c) w' := by
  have hTlt := h.hp.lt
  have k : Kept N (ext N s.2 l) (Un w0 U0 w T) (Un w0 U0 w' (X ++ T1)) w w' := by
    refine ⟨fun x hU => ⟨hsame x hU.1 (.inl hU.2.1), Nat.lt_of_lt_of_le hU.1 hsz, fun hm => ?_, hU.2.2⟩, ext_old (h.nx _ (Nat.le_refl _)), fun n b base hn arr e fz hb => hshape b (heap_lt hb) arr e fz hb⟩
    rcases List.mem_append.1 hm with hm | hm
    · rcases hX x hm with hx | hx
      · exact hU.2.1 hx
      · have := hU.1; omega
    · exact hU.2.1 (hT1 x hm)
  refine ⟨_, X ++ T1, h.step hd k (hval k) ?_ hnd ?_ hfr ?_ (by simp) ?_⟩
  · exact RH.push (hH.kept k (fun x hx => hsame x (hTlt x (hT1 x hx)) (.inr hx))) (hEnt k)
  · intro x hx
    rcases List.mem_append.1 hx with hx | hx
    · rcases hX x hx with hx | hx
      · exact h.own x hx
      · exact .inr (Nat.le_trans h.fr.size hx)
    · exact h.own x (hT1 x hx)
  · intro n hn
    show (if n = s.2 then some l else N n) = none
    have hn' : s.2 + 1 ≤ n := hn
    rw [if_neg (by omega)]
    exact h.nx n (by omega)
  · intro n hn
    show (if n = s.2 then some l else N n) = N n
    rw [if_neg (by omega)]

/-- A store. -/
theorem RS.store (h : RS w0 U0 L0 N0 k0 nt t s N T a w) {dst : Option Nat} (hd : ∀ d, dst = some d → d < nt) {n off : Nat} {cells : List V} (hg : hget s.1 n = some cells) {cx : Value} (hx : RV N (Un w0 U0 w T) w (.pt n off) cx [])
    {v : V} {cv : Value} (hv : RV N (Un w0 U0 w T) w v cv []) (hcell : v.cells.all V.cell = true) (hlen : off + v.cells.length ≤ cells.length) (hpos : 0 < v.cells.length) {ty : TypeId} (hi : (P.info? ty).isSome = true) (hsz : sizeT P ty = v.cells.length) :
    ∃ w', (Instr.storeAt ty cx cv).run P w = .ok () w' ∧ ∃ N' T', RS w0 U0 L0 N0 k0 nt (upd t dst (.tup [])) (hset s.1 n (setRange cells off v.cells), s.2) N' T' (a.put dst Go.undef) w' := by
  have hvc := hv.cells hcell
  have hone : ∀ x ∈ cv.cells.toList, x.oneCell' = true := hvc.cells1 hcell
  have hl1 : cv.cells.toList.length = v.cells.length := hvc.len
  obtain ⟨b, base, cs, F, rfl, g4, g3, hn, ⟨arr, e, hb⟩, _⟩ := pt_cells h.hp hg hx
  have hl2 : cs.length = cells.length := g4.len
  have harr : ∀ j, j < cs.length → base + j < arr.size := fun j hj => by
    have := g3 j cs[j] (by simp [hj])
    rw [cell_of_arr hb] at this
    exact (Array.getElem?_eq_some_iff.1 this).1
  have hfit : base + off + cv.cells.toList.length ≤ arr.size := by
    have := harr (off + v.cells.length - 1) (by omega)
    omega
  have hrun := run_storeCells_at (P := P) b (base + off) e cv.cells.toList 0 arr w hb (by omega) hone
  have hcs : cv.cells.size = v.cells.length := by simpa using hl1
  refine ⟨_, ?_, h.row (arr' := (setRange arr.toList (base + off) cv.cells.toList).toArray) hd hg hn hb (by simp [setRange_length]) ?_ (.tup [] [] [] .nil)⟩
  · have he : (setRange arr.toList (base + off) cv.cells.toList).toArray = (arr.toList.take (base + off + 0) ++ cv.cells.toList ++ arr.toList.drop (base + off + 0 + cv.cells.toList.length)).toArray := by
      rw [setRange_eq _ _ _ (by simpa using hfit)]
      simp
    rw [he]
    simp only [Instr.storeAt, Instr.sureAddr, storeVar, Sem.run_bind, Sem.run_pure, Result.andThen_ok, info_size hi, hcs, hsz]
    simp only [ne_eq, not_true_eq_false, if_false]
    simpa using hrun
  · intro cs2 F2 q1 q2
    obtain ⟨F', k1, k2⟩ := q2.setRange hvc (o := off) hlen
    refine ⟨_, F', k1, k2, fun j c hj => ?_⟩
    have hl3 : cs2.length = cells.length := q2.len
    rw [setRange_get _ _ _ _ (by omega)] at hj
    rw [List.getElem?_toArray, setRange_get _ _ _ _ (by simpa using hfit)]
    split at hj
    · rw [if_pos (by omega), show base + j - (base + off) = j - off by omega]
      exact hj
    · rw [if_neg (by omega)]
      simpa using q1 j c hj
theorem made_list (z : Array Value) (k : Nat) : ((Array.range (k * z.size)).map (fun i => z[i % z.size]!)).toList = (List.replicate k z.toList).flatten := by
  rw [Array.toList_map, Array.toList_range]
  induction k with
  | zero => simp
  | succ k ih =>
    rw [List.replicate_succ, List.flatten_cons, Nat.succ_mul, Nat.add_comm, List.range_add, List.map_append, ← ih]
    congr 1
    · apply List.ext_getElem
      · simp
      · intro i h1 h2
        simp at h1 h2
        simp [Nat.mod_eq_of_lt h1, h1]
    · rw [List.map_map]
      apply List.map_congr_left
      intro i _
      simp
theorem RVs.repl {U : Nat → Prop} {z : List V} {zc : List Value} (h : RVs N U w z zc []) (k : Nat) : RVs N U w (List.replicate k z).flatten (List.replicate k zc).flatten [] := by
  induction k with
  | zero => exact .nil
  | succ k ih =>
    rw [List.replicate_succ, List.replicate_succ, List.flatten_cons, List.flatten_cons]
    simpa using h.append ih
theorem alloc_run {ty : TypeId} {zv : Value} (hz : (zeroValue ty).run P w = .ok zv w) : (Instr.alloc ty true (.tuple #[])).run P w = .ok (.pointer (some ⟨w.heap.size, 0, none⟩)) (w.alloc (.cells zv.cells ty)) := by
  simp [Instr.alloc, hz, newVar, newRow]
theorem box_run (ty : TypeId) (v : Value) : (Instr.box ty v).run P w = .ok (.pointer (some ⟨w.heap.size, 0, none⟩)) (w.alloc (.cells v.cells ty)) := by
  simp [Instr.box, newVar, newRow]
theorem mks_run {ty e : TypeId} (hu : P.underlying ty = some (.slice e)) {z : List V} (hz : zeroL P e = some z) (hsz : z.length = sizeT P e) {len : Nat} (hlen : len * sizeT P e ≤ 65536)
    {U : Nat → Prop} {ps : Array (Nat × Value)} {qs : List (Nat × Nat × V)} (hp : PR N U w (fun i => some (i * sizeT P e, sizeT P e)) ps.toList qs) {cells : List V} (he : fillRange (List.replicate len z).flatten qs = some cells) :
    ∃ arr : Array Value, (Instr.buildSlice ty len ps).run P w = .ok (.slice (some ⟨w.heap.size, 0, none⟩) len len) (w.alloc (.cells arr e)) ∧ RVs N U w cells arr.toList [] ∧ arr.size = len * sizeT P e := by
  obtain ⟨zv, h1, h2, h3, i, h4, h5⟩ := zeroL_run (P := P) (N := N) (U := U) hz w
  have hl := h2.len
  have hzs : zv.cells.size = sizeT P e := by rw [← hsz, ← hl]; simp
  have hr := h2.repl len
  rw [← made_list] at hr
  rw [hzs] at hr
  obtain ⟨cs', g1, g2⟩ := fill_ok hp hr he
  have hfl : ∀ (qs : List (Nat × Nat × V)) (a b : List V), fillRange a qs = some b → b.length = a.length := by
    intro qs
    induction qs with
    | nil => intro a b h; simp [fillRange] at h; rw [h]
    | cons q qs ih =>
      intro a b h
      obtain ⟨o, n, v⟩ := q
      unfold fillRange at h
      split at h
      · rw [ih _ _ h, setRange_length]
      · simp at h
  have hcl : cs'.size = len * sizeT P e := by
    have e1 := g2.len
    rw [hfl _ _ _ he] at e1
    simpa [hsz] using e1
  refine ⟨cs', ?_, g2, hcl⟩
  have hnot : ¬ (16777216 < len * sizeT P e) := by omega
  have hsome : (P.info? e).isSome = true := by rw [h4]; rfl
  by_cases h0 : len * sizeT P e = 0
  · have g1' := g1
    rw [h0] at g1'
    simp only [Array.range_zero', Array.map_empty] at g1'
    simp [Instr.buildSlice, run_underlying hu, info_size hsome, h0, newRow, g1', Array.range_zero']
  · simp [Instr.buildSlice, run_underlying hu, info_size hsome, h0, hnot, h1, hzs, newRow, g1]
/-- What is appended. -/
structure Src (P : Program) (size : Nat) (cx : Value) (m : Nat) (ncs : List Value) (w : World) : Prop where
  len : (Builtin.lenOf cx).run P w = .ok m w
  cells : ∀ w' : World, w'.heap = w.heap → (Builtin.firstCells size m cx).run P w' = .ok ncs.toArray w'
  cnt : ncs.length = m * size
theorem app_room {ty u rt e eu : TypeId} (hu : P.underlying ty = some (.slice e)) (hu2 : P.underlying u = some (.slice eu)) (hi : (P.info? e).isSome = true) {cx : Value} {m : Nat} {ncs : List Value} (hx : Src P (sizeT P e) cx m ncs w)
    {b o sLen sCap : Nat} {arr : Array Value} {e0 : TypeId} (hb : w.heap[b]? = some (.cells arr e0 (0, 0))) (hone : ∀ x ∈ ncs, x.oneCell' = true) (hroom : sLen + m ≤ sCap) (hfit : o + sLen * sizeT P e + ncs.length ≤ arr.size) :
    (Builtin.append_ #[ty, u] rt #[.slice (some ⟨b, o, none⟩) sLen sCap, cx]).run P w = .ok (.slice (some ⟨b, o, none⟩) (sLen + m) sCap) (w.setRow b (setRange arr.toList (o + sLen * sizeT P e) ncs).toArray) := by
  have hrun := run_storeCells_at (P := P) b (o + sLen * sizeT P e) e0 ncs 0 arr w hb (by omega) hone
  have he : (setRange arr.toList (o + sLen * sizeT P e) ncs).toArray = (arr.toList.take (o + sLen * sizeT P e + 0) ++ ncs ++ arr.toList.drop (o + sLen * sizeT P e + 0 + ncs.length)).toArray := by
    rw [setRange_eq _ _ _ (by simpa using hfit)]
    simp
  rw [he]
  simp [Builtin.append_, run_underlying hu, run_underlying hu2, info_size hi, hx.len, hx.cells w rfl, hroom, addr_add] at hrun ⊢
  rw [hrun]
  simp
theorem app_same {ty u rt e eu : TypeId} (hu : P.underlying ty = some (.slice e)) (hu2 : P.underlying u = some (.slice eu)) (hi : (P.info? e).isSome = true) {cx : Value} {ncs : List Value} (hx : Src P (sizeT P e) cx 0 ncs w)
    (base : Option Addr) {sLen sCap : Nat} (hs : sLen ≤ sCap) : (Builtin.append_ #[ty, u] rt #[.slice base sLen sCap, cx]).run P w = .ok (.slice base sLen sCap) w := by
  have h0 : ncs = [] := List.eq_nil_of_length_eq_zero (by simpa using hx.cnt)
  have hc := hx.cells w rfl
  rw [h0] at hc
  cases base <;> simp [Builtin.append_, run_underlying hu, run_underlying hu2, info_size hi, hx.len, hc, hs, storeCells]
theorem app_grow {ty u rt e eu : TypeId} (hu : P.underlying ty = some (.slice e)) (hu2 : P.underlying u = some (.slice eu)) {i : TypeInfo} (hi : P.info? e = some i) {zv : Value} (hz : i.zero = some zv) {cx : Value} {m : Nat} {ncs : List Value} (hx : Src P (sizeT P e) cx m ncs w)
    {base : Option Addr} {sLen sCap : Nat} {ocs : List Value} (ho : ∀ w' : World, w'.heap = w.heap → (Builtin.firstCells (sizeT P e) sLen (.slice base sLen sCap)).run P w' = .ok ocs.toArray w')
    (hg : sCap < sLen + m) (h63 : ((sLen + m : Nat) : Int) ≤ 9223372036854775807) (hfit : Builtin.nextslicecap (sLen + m) sCap * i.bytes ≤ 281474976710656) :
    (Builtin.append_ #[ty, u] rt #[.slice base sLen sCap, cx]).run P w = .ok (.slice (some ⟨w.heap.size, 0, none⟩) (sLen + m) (grownCap w (sLen + m) sCap e))
      (w.drew.alloc (.cells (ocs ++ ncs ++ (Builtin.zeroCells zv.cells (grownCap w (sLen + m) sCap e - (sLen + m))).toList).toArray e)) := by
  have hsome : (P.info? e).isSome = true := by rw [hi]; rfl
  have hn : ¬ (sLen + m ≤ sCap) := by omega
  have h63' : ¬ (9223372036854775807 < ((sLen : Int) + (m : Int))) := by omega
  have h48' : ¬ (281474976710656 < Builtin.nextslicecap (sLen + m) sCap * i.bytes) := by omega
  have hx2 := hx.cells w.drew rfl
  have ho2 := ho w.drew rfl
  simp [Builtin.append_, run_underlying hu, run_underlying hu2, info_size hsome, typeInfo, zeroValue, hi, hz, hx.len, hn, h63', h48', Question.forced, hx2, ho2, newRow, grownCap]
  congr 2
  apply Array.ext'
  simp
theorem same_cell {w w' : World} (h : w'.heap = w.heap) (p : Addr) : w'.cell? p = w.cell? p := by simp [World.cell?, h]
theorem first_some {size n : Nat} {b o len cap : Nat} {cs : List Value} (hl : cs.length = n * size) (h : ∀ j c, cs[j]? = some c → w.cell? ⟨b, o + j, none⟩ = some c) {w' : World} (hw : w'.heap = w.heap) :
    (Builtin.firstCells size n (.slice (some ⟨b, o, none⟩) len cap)).run P w' = .ok cs.toArray w' :=
  run_firstCells_some w' size n ⟨b, o, none⟩ len cap cs hl (fun j v hj => by rw [addr_add, same_cell hw]; exact h j v hj)
theorem first_zero {size : Nat} {base : Option Addr} {len cap : Nat} (w' : World) : (Builtin.firstCells size 0 (.slice base len cap)).run P w' = .ok #[] w' := by
  cases base with
  | none => exact run_firstCells_none w' size 0 len cap
  | some p => exact run_firstCells_some w' size 0 p len cap [] (by simp) (by simp)
/-- A part of a row: its cells. -/
theorem RVs.mid {U : Nat → Prop} {cells : List V} {cs : List Value} {F : List Nat} (h : RVs N U w cells cs F) {off k : Nat} (hle : off + k ≤ cells.length) :
    ∃ ms G, RVs N U w ((cells.drop off).take k) ms G ∧ List.Sublist G F ∧ (∀ j c, ms[j]? = some c → cs[off + j]? = some c) ∧ ms.length = k := by
  rw [show cells = cells.take off ++ ((cells.drop off).take k ++ (cells.drop off).drop k) by rw [List.take_append_drop, List.take_append_drop]] at h
  obtain ⟨c1, c2, F1, F2, rfl, rfl, g1, g2⟩ := h.split
  obtain ⟨c3, c4, F3, F4, rfl, rfl, g3, g4⟩ := g2.split
  have l1 := g1.len
  have l3 := g3.len
  rw [List.length_take] at l1
  rw [List.length_take, List.length_drop] at l3
  refine ⟨c3, F3, g3, (List.sublist_append_left F3 F4).trans (List.sublist_append_right F1 _), fun j c hj => ?_, by omega⟩
  rw [List.getElem?_append_right (by omega), List.getElem?_append_left (by have := (List.getElem?_eq_some_iff.1 hj).1; omega)]
  rw [show off + j - c1.length = j by omega]
  exact hj
theorem src_ok (hh : RH N (Un w0 U0 w T) w s.1 T) {sz : Nat} (hz : 0 < sz) {x : V} {news : List V} (he : srcOf s.1 sz x = some news) (hcell : news.all V.cell = true) {cx : Value} (hx : RV N (Un w0 U0 w T) w x cx []) :
    ∃ ncs, Src P sz cx (news.length / sz) ncs w ∧ RVs N (Un w0 U0 w T) w news ncs [] := by
  cases x <;> simp only [srcOf] at he <;> try (simp at he; done)
  case nil =>
    simp only [Option.some.injEq] at he
    subst he
    obtain ⟨rfl, _⟩ := hx.nil_inv
    exact ⟨[], ⟨by simp [Builtin.lenOf], fun w' _ => by simpa using first_zero (P := P) w', by simp⟩, .nil⟩
  case list sz' cells =>
    split at he
    · rename_i hsz
      subst hsz
      simp only [Option.some.injEq] at he
      subst he
      cases hx with
      | listE => exact ⟨[], ⟨by simp [Builtin.lenOf], fun w' _ => by simpa using first_zero (P := P) w', by simp⟩, .nil⟩
      | list _ _ b o len cap cs hU hl hlc hm _ hc hv =>
        have hn : cells.length / sz = len := by rw [hl]; exact Nat.mul_div_cancel _ hz
        rw [hn]
        exact ⟨cs, ⟨by simp [Builtin.lenOf], fun w' hw => first_some (hv.len.trans hl) hc hw, hv.len.trans hl⟩, hv⟩
    · simp at he
  case sl m sz' off len =>
    split at he
    · rename_i c hg
      split at he
      · rename_i hcond
        obtain ⟨hsz, hle⟩ := hcond
        subst hsz
        simp only [Option.some.injEq] at he
        subst he
        have hlen : ((c.drop off).take (len * sz)).length / sz = len := by
          rw [List.length_take, List.length_drop, Nat.min_eq_left (by omega)]
          exact Nat.mul_div_cancel _ hz
        rw [hlen]
        cases hx with
        | slE _ _ hn => 
          have h0 : RVs N (Un w0 U0 w T) w ((c.drop 0).take (0 * sz)) [] [] := by simp only [Nat.zero_mul, List.take_zero]; exact .nil
          exact ⟨[], ⟨by simp [Builtin.lenOf], fun w' _ => by simpa using first_zero (P := P) w', by simp⟩, h0⟩
        | slZ _ _ _ b base o arr e fz hn hb ho _ =>
          have h0 : RVs N (Un w0 U0 w T) w ((c.drop off).take (0 * sz)) [] [] := by simp only [Nat.zero_mul, List.take_zero]; exact .nil
          exact ⟨[], ⟨by simp [Builtin.lenOf], fun w' _ => by simpa using first_zero (P := P) w', by simp⟩, h0⟩
        | sl _ _ _ _ b base cap arr e fz hn hb hs hlc hm _ =>
          rcases hh.get hg with ⟨h1, _⟩ | ⟨b', base', arr', e', cs, F, A, B, h1, h2, h3, h4, h5⟩
          · rw [hn] at h1; simp at h1
          · rw [hn] at h1
            simp at h1
            obtain ⟨rfl, rfl⟩ := h1
            obtain ⟨ms, G, g1, g2, g3, g4⟩ := h4.mid hle
            obtain ⟨rfl, _⟩ := g1.cell_nil hcell
            refine ⟨ms, ⟨by simp [Builtin.lenOf], fun w' hw => first_some g4 (fun j c hj => ?_) hw, g4⟩, g1⟩
            rw [cell_of_arr h2, Nat.add_assoc]
            exact h3 _ c (g3 j c hj)
      · simp at he
    · simp at he
end
end Go.Proofs.Ytedampaecopkhaa
