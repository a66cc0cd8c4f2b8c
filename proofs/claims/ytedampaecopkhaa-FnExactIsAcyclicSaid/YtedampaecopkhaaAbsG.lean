/- One theorem for all quiet operations. -/
import Derived.Test.YtedampaecopkhaaAbsF
namespace Go.Proofs.Ytedampaecopkhaa
open Go Go.RowKit

def Slots (N : Nm) (U : Nat → Prop) (w : World) (t : Nat → V) (a : Act) : Prop := ∀ i, RV N U w (t i) (a.tmps.getD i Go.undef) []

section
variable {P : Program} {N : Nm} {U : Nat → Prop} {w : World}
theorem kept_refl (N : Nm) {U U' : Nat → Prop} (w : World) (h : ∀ b, U b → U' b) : Kept N N U U' w w := ⟨fun b hb => ⟨rfl, h b hb⟩, fun _ _ h => h, fun _ _ _ _ => SameAt.shape rfl⟩
theorem wp_value {o : Oper} {a : Act} {K : Act → World → Prop} {Q : Exit → Act → World → Prop} {c : Value} {w' : World} (h : (execOp a.eval o).run P w = .ok (.value c) w') (hK : K (a.put o.dst c) w') : o.wp P a w K Q := by
  unfold Oper.wp
  rw [h]
  exact hK
theorem wp_skip' {o : Oper} {a : Act} {K : Act → World → Prop} {Q : Exit → Act → World → Prop} {w' : World} (h : (execOp a.eval o).run P w = .ok .skip w') (hK : K (a.put o.dst Go.undef) w') : o.wp P a w K Q := by
  unfold Oper.wp
  rw [h]
  exact hK
theorem getD_mem {α : Type} {l : List α} {i : Nat} (h : i < l.length) (d : α) : l[i]? = some (l.getD i d) := by simp [List.getD, List.getElem?_eq_getElem h]

theorem fad_run {s : TypeId} {fields : Array Field} (hu : P.underlying s = some (.struct fields)) {f : Nat} {fd : Field} (hf : fields[f]? = some fd) (hi : (P.info? fd.type).isSome = true) (hz : 0 < sizeT P fd.type) (b o : Nat) :
    (Instr.fieldAt s (.pointer (some ⟨b, o, none⟩)) f).run P w = .ok (.pointer (some ⟨b, o + fd.offset, none⟩)) w := by
  have h0 : ¬ (sizeT P fd.type = 0) := by omega
  simp [Instr.fieldAt, run_underlying hu, hf, Instr.sureAddr, fieldPlace, info_size hi, h0, addr_add]
theorem idx_run {t e : TypeId} (hu : P.underlying t = some (.slice e)) (hi : (P.info? e).isSome = true) (b o len cap : Nat) (k : IntKind) {i : Int} (h0 : 0 ≤ i) (h1 : i < len) :
    (Instr.indexAt t (.slice (some ⟨b, o, none⟩) len cap) (.int k i)).run P w = .ok (.pointer (some ⟨b, o + i.toNat * sizeT P e, none⟩)) w := by
  simp [Instr.indexAt, run_underlying hu, asIntOf, h0, h1, info_size hi, addr_add]
theorem idxa_run {t e : TypeId} {n : Nat} (hu : P.underlying t = some (.array n e)) (hi : (P.info? e).isSome = true) (b o : Nat) (k : IntKind) {i : Int} (h0 : 0 ≤ i) (h1 : i < n) :
    (Instr.indexAt t (.pointer (some ⟨b, o, none⟩)) (.int k i)).run P w = .ok (.pointer (some ⟨b, o + i.toNat * sizeT P e, none⟩)) w := by
  simp [Instr.indexAt, run_underlying hu, asIntOf, h0, h1, info_size hi, addr_add, Instr.sureAddr]
theorem ixs_run {t : TypeId} (hu : P.underlying t = some .string) (s : ByteArray) (k : IntKind) {i : Int} (h0 : 0 ≤ i) (h1 : i < s.size) :
    (Instr.index t (.string s) (.int k i)).run P w = .ok (.int .u8 ((s.data.toList.getD i.toNat 0).toNat : Int)) w := by
  have h2 : i.toNat < s.size := by omega
  have h3 : s[i.toNat]? = some (s.data.toList.getD i.toNat 0) := by
    have h4 : i.toNat < s.data.toList.length := by simpa using h2
    rw [List.getD, List.getElem?_eq_getElem h4]
    simp only [Option.getD_some]
    rw [getElem?_pos s i.toNat h2]
    rfl
  simp [Instr.index, run_underlying hu, asIntOf, h0, h3]
theorem fld1_run {t : TypeId} {fields : Array Field} (hu : P.underlying t = some (.struct fields)) {f : Nat} {fd : Field} (hf : fields[f]? = some fd) (ha : aggB P fd.type = some false) {parts : List V} {c : Value}
    (hx : RV N U w (.agg parts) c []) (ho : fd.offset < parts.length) (d : V) : ∃ c', (Instr.field t c f).run P w = .ok c' w ∧ RV N U w (parts.getD fd.offset d) c' [] := by
  cases hx with
  | agg _ cs _ h =>
    obtain ⟨c', g1, g2⟩ := h.get0 (getD_mem ho d)
    refine ⟨c', ?_, g2⟩
    simp [Instr.field, run_underlying hu, hf, asAgg, part, run_isAgg ha, g1]
theorem fldn_run {t : TypeId} {fields : Array Field} (hu : P.underlying t = some (.struct fields)) {f : Nat} {fd : Field} (hf : fields[f]? = some fd) (ha : aggB P fd.type = some true) {i : TypeInfo} (hi : P.info? fd.type = some i)
    {parts : List V} {c : Value} (hx : RV N U w (.agg parts) c []) :
    ∃ c', (Instr.field t c f).run P w = .ok c' w ∧ RV N U w (.agg ((parts.drop fd.offset).take i.size)) c' [] := by
  cases hx with
  | agg _ cs _ h =>
    refine ⟨.agg ((cs.drop fd.offset).take i.size).toArray, ?_, .agg _ _ [] ((h.drop _).take _)⟩
    simp [Instr.field, run_underlying hu, hf, asAgg, part, run_isAgg ha, sizeOf, typeInfo, hi, List.take_drop]
theorem ext_run {vs : List V} {c : Value} (hx : RV N U w (.tup vs) c []) {i : Nat} (ho : i < vs.length) (d : V) : ∃ c', (Instr.extract c i).run P w = .ok c' w ∧ RV N U w (vs.getD i d) c' [] := by
  cases hx with
  | tup _ cs _ h =>
    obtain ⟨c', g1, g2⟩ := h.get0 (getD_mem ho d)
    exact ⟨c', by simp [Instr.extract, g1], g2⟩
theorem zeroL_run {t : TypeId} {z : List V} (h : zeroL P t = some z) (w : World) : ∃ zv : Value, (zeroValue t).run P w = .ok zv w ∧ RVs N U w z zv.cells.toList [] ∧ z.all V.cell = true ∧ (∃ i, P.info? t = some i ∧ i.zero = some zv) := by
  unfold zeroL at h
  split at h
  · rename_i i hi
    split at h
    · rename_i zv hz
      exact ⟨zv, by simp [zeroValue, typeInfo, hi, hz], constL_ok h, constL_cell h, i, hi, hz⟩
    · simp at h
  · simp at h
theorem places_run {fields : Array Field} (h : ∀ f ∈ fields, (P.info? f.type).isSome = true) (w : World) :
    (fields.mapM fun f => do pure (f.offset, ← sizeOf f.type) : Sem (Array (Nat × Nat))).run P w = .ok (fields.map fun f => (f.offset, sizeT P f.type)) w := by
  have key : ∀ (l : List Field), (∀ f ∈ l, (P.info? f.type).isSome = true) → (l.mapM fun f => do pure (f.offset, ← sizeOf f.type) : Sem (List (Nat × Nat))).run P w = .ok (l.map fun f => (f.offset, sizeT P f.type)) w := by
    intro l
    induction l with
    | nil => intro _; rfl
    | cons f l ih =>
      intro hl
      rw [List.mapM_cons]
      simp only [Sem.run_bind, info_size (hl f (by simp)), Result.andThen_ok, Sem.run_pure, ih (fun g hg => hl g (by simp [hg])), List.map_cons]
  have := key fields.toList (fun f hf => h f (by simpa using hf))
  rw [Array.mapM_eq_mapM_toList]
  simp only [Sem.run_map, this, Result.andThen_ok, Result.ok.injEq, and_true]
  apply Array.ext'
  simp
theorem build_run {t : TypeId} {z : List V} {f : Nat → Option (Nat × Nat)} (hz : zeroL P t = some z) (hf : placesT P t = some f) {ps : Array (Nat × Value)} {qs : List (Nat × Nat × V)} (hp : PR N U w f ps.toList qs)
    {cells : List V} (he : fillRange z qs = some cells) : ∃ c, (Instr.build t ps).run P w = .ok c w ∧ RV N U w (.agg cells) c [] := by
  obtain ⟨zv, h1, h2, h3, _⟩ := zeroL_run (P := P) (N := N) (U := U) hz w
  obtain ⟨cs', g1, g2⟩ := fill_ok hp h2 he
  refine ⟨.agg cs', ?_, by simpa using RV.agg cells cs'.toList [] g2⟩
  unfold placesT at hf
  split at hf
  · rename_i fields hu
    split at hf
    · rename_i hall
      simp at hf
      subst hf
      have hall' : ∀ x ∈ fields, (P.info? x.type).isSome = true := by
        intro x hx
        obtain ⟨i, hi, rfl⟩ := Array.mem_iff_getElem.1 hx
        simp at hall
        exact hall i hi
      have hpl := places_run (P := P) hall' w
      have hfun : (fun i : Nat => (fields.map fun f : Field => (f.offset, sizeT P f.type))[i]?) = (fun i => (fields[i]?).map fun f : Field => (f.offset, sizeT P f.type)) := by
        funext i; simp
      simp only [Instr.build, Sem.run_bind, h1, Result.andThen_ok, run_underlying hu, hpl]
      rw [hfun, g1]
      rfl
    · simp at hf
  · rename_i n e hu
    split at hf
    · rename_i hi
      simp at hf
      subst hf
      simp only [Instr.build, Sem.run_bind, h1, Result.andThen_ok, run_underlying hu, info_size hi]
      rw [g1]
      rfl
    · simp at hf
  · simp at hf
theorem opt_map {α β : Type} {f : α → β} {x : Option α} {y : β} (h : x.map f = some y) : ∃ a, x = some a ∧ f a = y := by
  cases x with
  | none => simp at h
  | some a => exact ⟨a, rfl, by simpa using h⟩

theorem args_ok {H : List (Nat × List V)} {T : List Nat} (hh : RH N U w H T) {U' : Nat → Prop} (hU : ∀ b, U b → U' b) {os : List Operand} {xs : List Opd} (h : compOpds os = some xs) {t : Nat → V} {a : Act} (hs : Slots N U w t a) (k : Nat)
    (hn : (∀ b ∈ T, U' b) ∨ (xs.all fun x => noname k (x.ev t)) = true) : RVs (fun _ => none) U' w (xs.map fun x => dr H k (x.ev t)) (os.map a.eval) [] := by
  have := compOpds_ok (N := N) (U := U) (w := w) h hs
  have e : (xs.map fun x => dr H k (x.ev t)) = (xs.map (Opd.ev t)).map (dr H k) := by simp
  rw [e]
  refine this.mapD fun v c G hm hr hG => dr_ok hh hU k v c G ?_ hr
  rcases hn with hn | hn
  · exact .inl ⟨hn, fun b hb => absurd (hG b hb) (by simp)⟩
  · right
    rw [List.all_eq_true] at hn
    obtain ⟨x, hx, rfl⟩ := List.mem_map.1 hm
    exact hn x hx

/-- The end of a call: what its result is to the caller. -/
theorem call_back {r : V} {c : Value} {F : List Nat} {U' : Nat → Prop} {w' : World} (hr : RV (fun _ => none) (Uf U' w w' F) w' r c F) (h : nolist 6 r = true ∨ ∀ b, U' b → U b) : RV N (Uf U w w' F) w' r c F := by
  rcases h with h | h
  · exact nolist_ok (by simp) 6 r c F h hr
  · refine hr.kept ⟨fun b hb => ⟨rfl, ?_⟩, by simp, by simp⟩ (fun _ _ => rfl)
    rcases hb with hb | hb
    · exact .inl (h b hb)
    · exact .inr hb

theorem pure_wp {o : Oper} {a : Act} {K : Act → World → Prop} {Q : Exit → Act → World → Prop} {f : FuncId} {cargs : List Value} {args : List V} {r : V} (hrun : (execOp a.eval o).run P w = .ok (.enter f cargs.toArray) w)
    {U' : Nat → Prop} (hU' : ∀ b, U' b → b < w.heap.size) (ha : RVs (fun _ => none) U' w args cargs []) (hp : Pure P f args r) (h : nolist 6 r = true ∨ ∀ b, U' b → U b)
    (hK : ∀ c w' F, Below w.heap.size w w' → Fresh w w' F → RV N (Uf U w w' F) w' r c F → K (a.put o.dst c) w') : o.wp P a w K Q := by
  unfold Oper.wp
  rw [hrun]
  show Calls P f cargs.toArray w _
  refine (hp U' w cargs hU' ha).mono ?_
  rintro e w' ⟨c, F, rfl, hF, hr, hb⟩
  exact hK c w' F hb hF (call_back hr h)

set_option maxHeartbeats 1000000 in
/-- One quiet operation. -/
theorem evQ_wp {Γ : Env} (hΓ : EnvOk P Γ) {o : Oper} {so : SO} (hc : compOp P o = some so) {a : Act} {t : Nat → V} (hs : Slots N U w t a) {H : List (Nat × List V)} {T : List Nat} (hh : RH N U w H T) (hU : ∀ b, U b → b < w.heap.size) (hTl : ∀ b ∈ T, b < w.heap.size)
    {v : V} (he : evQ Γ H (Opd.ev t) so = some (true, v)) {K : Act → World → Prop} {Q : Exit → Act → World → Prop}
    (hK : ∀ c w' F, Below w.heap.size w w' → Fresh w w' F → RV N (Uf U w w' F) w' v c F → K (a.put o.dst c) w') : o.wp P a w K Q := by
  have fin : ∀ c, (execOp a.eval o).run P w = .ok (.value c) w → RV N U w v c [] → o.wp P a w K Q := fun c h1 h2 =>
    wp_value h1 (hK c w [] (Below.refl _ _) ⟨List.nodup_nil, by simp⟩ (h2.kept (kept_refl N w fun b hb => .inl hb) (by simp)))
  have lift : ∀ (s : Sem Value) c, s.run P w = .ok c w → ((do pure (.value (← s))) : Sem Next).run P w = .ok (.value c) w := fun s c h => by simp [h]
  unfold compOp at hc
  split at hc
  case h_1 x ho =>
    obtain ⟨x', hx, rfl⟩ := opt_map hc
    simp only [evQ, Option.some.injEq, Prod.mk.injEq, true_and] at he
    subst he
    exact fin _ (by simp [execOp, ho]) (compOpd_ok hx hs)
  case h_2 x ho =>
    obtain ⟨x', hx, rfl⟩ := opt_map hc
    simp only [evQ, Option.some.injEq, Prod.mk.injEq, true_and] at he
    subst he
    exact fin _ (by simp [execOp, ho]) (compOpd_ok hx hs)
  case h_3 c x y ho =>
    split at hc
    · rename_i c' x' y' h1 h2 h3
      simp only [Option.some.injEq] at hc
      subst hc
      have g1 := compOpd_ok h1 hs
      simp only [evQ] at he
      split at he
      · rename_i hb
        rw [hb] at g1
        obtain ⟨e1, _⟩ := g1.bool_inv
        simp only [Option.some.injEq, Prod.mk.injEq, true_and] at he
        subst he
        exact fin _ (by simp [execOp, ho, e1, asBool]) (compOpd_ok h2 hs)
      · rename_i hb
        rw [hb] at g1
        obtain ⟨e1, _⟩ := g1.bool_inv
        simp only [Option.some.injEq, Prod.mk.injEq, true_and] at he
        subst he
        exact fin _ (by simp [execOp, ho, e1, asBool]) (compOpd_ok h3 hs)
      · simp at he
    · simp at hc
  case h_4 ty ho => obtain ⟨z, _, rfl⟩ := opt_map hc; simp [evQ] at he
  case h_5 ty x ho => obtain ⟨z, _, rfl⟩ := opt_map hc; simp [evQ] at he
  case h_6 ty parts ho =>
    split at hc
    · rename_i z f h1 h2
      obtain ⟨qs, h3, rfl⟩ := opt_map hc
      simp only [evQ] at he
      split at he
      · rename_i cells h4
        simp only [Option.some.injEq, Prod.mk.injEq, true_and] at he
        subst he
        have g := compParts_ok h3 hs
        obtain ⟨c, r1, r2⟩ := build_run (P := P) (N := N) (U := U) (w := w) (ps := parts.map fun (i, x) => (i, a.eval x)) h1 h2 (by simpa using g) h4
        refine fin c ?_ r2
        simp only [execOp, ho]
        exact lift _ _ r1
      · simp at he
    · simp at hc
  case h_7 ty n parts ho =>
    split at hc
    · split at hc
      · split at hc
        · obtain ⟨z, _, rfl⟩ := opt_map hc; simp [evQ] at he
        · simp at hc
      · simp at hc
    · simp at hc
  case h_8 ty x ho =>
    split at hc
    · rename_i x' i h1 h2 h3
      simp only [Option.some.injEq] at hc
      subst hc
      have g1 := compOpd_ok h1 hs
      simp only [evQ] at he
      split at he
      · rename_i n off hx
        rw [hx] at g1
        split at he
        · rename_i cells hg
          simp only [Option.some.injEq, Prod.mk.injEq, Bool.and_eq_true, decide_eq_true_eq] at he
          obtain ⟨⟨k1, k2⟩, rfl⟩ := he
          obtain ⟨c, r1, r2⟩ := ldn_run_pt (P := P) h2 h3 hh hg g1 k1 k2
          exact fin c (by simp only [execOp, ho]; exact lift _ _ r1) r2
        · simp at he
      · rename_i cells hx
        rw [hx] at g1
        simp only [Option.some.injEq, Prod.mk.injEq, decide_eq_true_eq] at he
        obtain ⟨k1, rfl⟩ := he
        obtain ⟨c, r1, r2⟩ := ldn_run_rp (P := P) h2 h3 g1 k1
        exact fin c (by simp only [execOp, ho]; exact lift _ _ r1) r2
      · simp at he
    · rename_i x' i h1 h2 h3
      split at hc
      · rename_i z hz
        obtain ⟨z', hz', rfl⟩ := opt_map hc
        have g1 := compOpd_ok h1 hs
        simp only [evQ] at he
        split at he
        · rename_i n off hx
          rw [hx] at g1
          split at he
          · rename_i cells hg
            simp only [Option.some.injEq, Prod.mk.injEq, Bool.and_eq_true, decide_eq_true_eq] at he
            obtain ⟨⟨k1, k2⟩, rfl⟩ := he
            obtain ⟨c, r1, r2⟩ := ld1_run (P := P) h2 hh hg g1 z' k1 k2
            exact fin c (by simp only [execOp, ho]; exact lift _ _ r1) r2
          · simp at he
        · rename_i cells hx
          rw [hx] at g1
          simp only [Option.some.injEq, Prod.mk.injEq, decide_eq_true_eq] at he
          obtain ⟨k1, rfl⟩ := he
          obtain ⟨c, r1, r2⟩ := ld1_run_rp (P := P) h2 g1 z' k1
          exact fin c (by simp only [execOp, ho]; exact lift _ _ r1) r2
        · simp at he
      · simp at hc
    · simp at hc
  case h_9 ty x v' ho =>
    split at hc
    · split at hc
      · simp only [Option.some.injEq] at hc
        subst hc
        simp [evQ] at he
      · simp at hc
    · simp at hc
  case h_10 op ty x y yt ho =>
    split at hc
    · rename_i x' y' k h1 h2 h3
      simp only [Option.some.injEq] at hc
      subst hc
      obtain ⟨c, r1, r2⟩ := bin_run (P := P) op ty x y (compOpd_ok h1 hs) (compOpd_ok h2 hs) he
      exact fin c (by simp only [execOp, ho]; exact lift _ _ r1) r2
    · rename_i x' y' h1 h2 h3
      simp only [Option.some.injEq] at hc
      subst hc
      obtain ⟨c, r1, r2⟩ := bin_run (P := P) op ty x y (compOpd_ok h1 hs) (compOpd_ok h2 hs) he
      exact fin c (by simp only [execOp, ho]; exact lift _ _ r1) r2
    · rename_i x' y' h1 h2 h3
      simp only [Option.some.injEq] at hc
      subst hc
      obtain ⟨c, r1, r2⟩ := binb_run (P := P) op ty h3 x y (compOpd_ok h1 hs) (compOpd_ok h2 hs) he
      exact fin c (by simp only [execOp, ho]; exact lift _ _ r1) r2
    · simp at hc
  case h_11 op ty x ho =>
    obtain ⟨x', h1, rfl⟩ := opt_map hc
    obtain ⟨c, r1, r2⟩ := un_run (P := P) op (compOpd_ok h1 hs) he
    exact fin c (by simp only [execOp, ho]; exact lift _ _ r1) r2
  case h_12 src dst x ho =>
    split at hc
    · rename_i x' ks k h1 h2 h3
      simp only [Option.some.injEq] at hc
      subst hc
      have g1 := compOpd_ok h1 hs
      simp only [evQ] at he
      split at he
      · rename_i j n hx
        rw [hx] at g1
        simp only [Option.some.injEq, Prod.mk.injEq, true_and] at he
        subst he
        exact fin _ (by simp only [execOp, ho]; exact lift _ _ (conv_run h2 h3 g1)) (.int _ _)
      · simp at he
    · simp at hc
  case h_13 f first caps ho =>
    split at hc
    · rename_i hf
      obtain ⟨x', h1, rfl⟩ := opt_map hc
      simp only [evQ, Option.some.injEq, Prod.mk.injEq, true_and] at he
      subst he
      have g := compOpds_ok (N := N) (U := U) (w := w) h1 hs
      have e1 : first = #[] := Array.eq_empty_of_size_eq_zero hf
      refine fin (.func (.func f) #[] (caps.toList.map a.eval).toArray) ?_ (.fn _ _ _ g)
      simp only [execOp, ho]
      refine lift _ _ ?_
      rw [e1]
      have e2 : (caps.toList.map a.eval).toArray = caps.map a.eval := by apply Array.ext'; simp
      rw [e2]
      simp [Instr.makeFunc]
    · simp at hc
  case h_14 ty l c ho =>
    split at hc
    · split at hc
      · split at hc
        · simp only [Option.some.injEq] at hc
          subst hc
          simp [evQ] at he
        · simp at hc
      · simp at hc
    · simp at hc
  case h_15 ty x lo hi mx ho =>
    split at hc
    · rename_i x' lo' hi' mx' h1 h2 h3 h4
      have g1 := compOpd_ok h1 hs
      split at hc
      · rename_i e hu
        split at hc
        · rename_i hcond
          simp only [Option.some.injEq] at hc
          subst hc
          simp only [evQ] at he
          split at he
          · rename_i sz' cells hx
            rw [hx] at g1
            split at he
            · rename_i b l h hb
              simp only [Option.some.injEq, Prod.mk.injEq, Bool.and_eq_true, decide_eq_true_eq] at he
              obtain ⟨⟨rfl, rfl⟩, rfl⟩ := he
              obtain ⟨c, r1, r2⟩ := sliL_run (P := P) hu hcond.1 hcond.2 h2 h3 h4 hs g1 hb
              exact fin c (by simp only [execOp, ho]; exact lift _ _ r1) r2
            · simp at he
          · rename_i n sz' off len hx
            rw [hx] at g1
            split at he
            · rename_i b l h hb
              simp only [Option.some.injEq, Prod.mk.injEq, Bool.and_eq_true, decide_eq_true_eq] at he
              obtain ⟨⟨rfl, rfl⟩, rfl⟩ := he
              obtain ⟨c, r1, r2⟩ := sliS_run (P := P) hu hcond.1 h2 h3 h4 hs g1 hb
              exact fin c (by simp only [execOp, ho]; exact lift _ _ r1) r2
            · simp at he
          · rename_i hx
            rw [hx] at g1
            split at he
            · rename_i b l h hb
              simp only [Option.some.injEq, Prod.mk.injEq, Bool.and_eq_true, Option.isNone_iff_eq_none] at he
              obtain ⟨⟨rfl, rfl⟩, rfl⟩ := he
              have := compOpt_none h4
              subst this
              obtain ⟨e1, _⟩ := g1.nil_inv
              exact fin _ (by simp only [execOp, ho, e1]; exact lift _ _ (sliN_run (P := P) hu hcond.1 h2 h3 hs hb)) .nil
            · simp at he
          · simp at he
        · simp at hc
      · rename_i hu
        split at hc
        · rename_i hmx
          simp only [Option.some.injEq] at hc
          subst hc
          simp only [evQ] at he
          split at he
          · rename_i s hx
            rw [hx] at g1
            split at he
            · rename_i b l h hb
              simp only [Option.some.injEq, Prod.mk.injEq] at he
              obtain ⟨rfl, rfl⟩ := he
              rw [Option.isNone_iff_eq_none] at hmx
              subst hmx
              have := compOpt_none h4
              subst this
              obtain ⟨e1, _⟩ := g1.str_inv
              exact fin _ (by simp only [execOp, ho, e1]; exact lift _ _ (sliT_run (P := P) hu h2 h3 hs hb)) (.str _)
            · simp at he
          · simp at he
        · simp at hc
      · simp at hc
    · simp at hc
  case h_16 s x f ho =>
    split at hc
    · rename_i x' fields h1 hu
      split at hc
      · rename_i fd hf
        split at hc
        · rename_i hcond
          simp only [Option.some.injEq] at hc
          subst hc
          have g1 := compOpd_ok h1 hs
          simp only [evQ] at he
          split at he
          · rename_i n off hx
            rw [hx] at g1
            simp only [Option.some.injEq, Prod.mk.injEq, true_and] at he
            subst he
            generalize hcx : a.eval x = cx at g1
            cases g1 with
            | pt _ _ b base hn =>
              refine fin _ (by simp only [execOp, ho, hcx]; exact lift _ _ (fad_run hu hf hcond.1 hcond.2 b (base + off))) ?_
              rw [Nat.add_assoc]
              exact .pt _ _ b base hn
          · rename_i cells hx
            rw [hx] at g1
            simp only [Option.some.injEq, Prod.mk.injEq, true_and] at he
            subst he
            generalize hcx : a.eval x = cx at g1
            cases g1 with
            | rp _ b o' cs hUb hcc hv =>
              refine fin _ (by simp only [execOp, ho, hcx]; exact lift _ _ (fad_run hu hf hcond.1 hcond.2 b o')) ?_
              exact .rp _ b _ (cs.drop fd.offset) hUb (fun j c hj => by
                rw [List.getElem?_drop] at hj
                rw [Nat.add_assoc]
                exact hcc _ c hj) (hv.drop _)
          · simp at he
        · simp at hc
      · simp at hc
    · simp at hc
  case h_17 ty x f ho =>
    split at hc
    · rename_i x' fields h1 hu
      split at hc
      · rename_i fd hf
        have g1 := compOpd_ok h1 hs
        split at hc
        · rename_i i ha hi
          simp only [Option.some.injEq] at hc
          subst hc
          simp only [evQ] at he
          split at he
          · rename_i parts hx
            rw [hx] at g1
            simp only [Option.some.injEq, Prod.mk.injEq, decide_eq_true_eq] at he
            obtain ⟨k1, rfl⟩ := he
            obtain ⟨c, r1, r2⟩ := fldn_run (P := P) hu hf ha hi g1
            exact fin c (by simp only [execOp, ho]; exact lift _ _ r1) r2
          · simp at he
        · rename_i i ha hi
          simp only [Option.some.injEq] at hc
          subst hc
          simp only [evQ] at he
          split at he
          · rename_i parts hx
            rw [hx] at g1
            simp only [Option.some.injEq, Prod.mk.injEq, decide_eq_true_eq] at he
            obtain ⟨k1, rfl⟩ := he
            obtain ⟨c, r1, r2⟩ := fld1_run (P := P) hu hf ha g1 k1 .undef
            exact fin c (by simp only [execOp, ho]; exact lift _ _ r1) r2
          · simp at he
        · simp at hc
      · simp at hc
    · simp at hc
  case h_18 ty x i ho =>
    split at hc
    · rename_i x' i' e h1 h2 hu
      split at hc
      · rename_i hcond
        simp only [Option.some.injEq] at hc
        subst hc
        have g1 := compOpd_ok h1 hs
        have g2 := compOpd_ok h2 hs
        simp only [evQ] at he
        split at he
        · rename_i n sz' off len j hx hi
          rw [hx] at g1
          obtain ⟨k, _, hci⟩ := asI_inv g2 hi
          simp only [Option.some.injEq, Prod.mk.injEq, Bool.and_eq_true, decide_eq_true_eq] at he
          obtain ⟨⟨⟨rfl, k1⟩, k2⟩, rfl⟩ := he
          generalize hcx : a.eval x = cx at g1
          cases g1 with
          | sl _ _ _ _ b base cap arr e' fz hn hb hs' hlc hm _ =>
            refine fin _ (by simp only [execOp, ho, hcx, hci]; exact lift _ _ (idx_run hu hcond.1 b (base + off) len cap k k1 k2)) ?_
            rw [Nat.add_assoc]
            exact .pt _ _ b base hn
          | slE => omega
          | slZ => omega
        · rename_i sz' cells j hx hi
          rw [hx] at g1
          obtain ⟨k, _, hci⟩ := asI_inv g2 hi
          simp only [Option.some.injEq, Prod.mk.injEq, Bool.and_eq_true, decide_eq_true_eq] at he
          obtain ⟨⟨⟨rfl, k1⟩, k2⟩, rfl⟩ := he
          generalize hcx : a.eval x = cx at g1
          cases g1 with
          | listE => simp only [List.length_nil, Nat.zero_div] at k2; omega
          | list _ _ b o' len cap cs hUb hl hlc hm _ hcc hv =>
            rw [hl, Nat.mul_div_cancel _ hcond.2] at k2
            refine fin _ (by simp only [execOp, ho, hcx, hci]; exact lift _ _ (idx_run hu hcond.1 b o' len cap k k1 k2)) ?_
            exact .rp _ b _ (cs.drop _) hUb (fun j c hj => by
              rw [List.getElem?_drop] at hj
              rw [Nat.add_assoc]
              exact hcc _ c hj) (hv.drop _)
        · simp at he
      · simp at hc
    · rename_i x' i' n e h1 h2 hu
      split at hc
      · rename_i hcond
        simp only [Option.some.injEq] at hc
        subst hc
        have g1 := compOpd_ok h1 hs
        have g2 := compOpd_ok h2 hs
        simp only [evQ] at he
        split at he
        · rename_i m off j hx hi
          rw [hx] at g1
          obtain ⟨k, _, hci⟩ := asI_inv g2 hi
          simp only [Option.some.injEq, Prod.mk.injEq, Bool.and_eq_true, decide_eq_true_eq] at he
          obtain ⟨⟨k1, k2⟩, rfl⟩ := he
          generalize hcx : a.eval x = cx at g1
          cases g1 with
          | pt _ _ b base hn =>
            refine fin _ (by simp only [execOp, ho, hcx, hci]; exact lift _ _ (idxa_run hu hcond b (base + off) k k1 k2)) ?_
            rw [Nat.add_assoc]
            exact .pt _ _ b base hn
        · simp at he
      · simp at hc
    · simp at hc
  case h_19 ty x i ho =>
    split at hc
    · rename_i x' i' h1 h2 hu
      simp only [Option.some.injEq] at hc
      subst hc
      have g1 := compOpd_ok h1 hs
      have g2 := compOpd_ok h2 hs
      simp only [evQ] at he
      split at he
      · rename_i s j hx hi
        rw [hx] at g1
        obtain ⟨k, _, hci⟩ := asI_inv g2 hi
        obtain ⟨e1, _⟩ := g1.str_inv
        simp only [Option.some.injEq, Prod.mk.injEq, Bool.and_eq_true, decide_eq_true_eq] at he
        obtain ⟨⟨k1, k2⟩, rfl⟩ := he
        exact fin _ (by simp only [execOp, ho, e1, hci]; exact lift _ _ (ixs_run hu s k k1 k2)) (.int _ _)
      · simp at he
    · simp at hc
  case h_20 x i ho =>
    obtain ⟨x', h1, rfl⟩ := opt_map hc
    have g1 := compOpd_ok h1 hs
    simp only [evQ] at he
    split at he
    · rename_i vs hx
      rw [hx] at g1
      simp only [Option.some.injEq, Prod.mk.injEq, decide_eq_true_eq] at he
      obtain ⟨k1, rfl⟩ := he
      obtain ⟨c, r1, r2⟩ := ext_run (P := P) g1 k1 .undef
      exact fin c (by simp only [execOp, ho]; exact lift _ _ r1) r2
    · simp at he
  case h_21 c ho =>
    unfold compCall at hc
    split at hc
    · rename_i f hcal
      obtain ⟨xs, h1, rfl⟩ := opt_map hc
      simp only [evQ] at he
      split at he
      · rename_i F hF
        split at he
        · rename_i r hr
          simp only [Option.some.injEq, Prod.mk.injEq, Bool.or_eq_true] at he
          obtain ⟨k1, rfl⟩ := he
          have fo := hΓ.look hF
          have hrun : (execOp a.eval o).run P w = .ok (.enter f (c.args.toList.map a.eval).toArray) w := by
            have e1 : (c.args.toList.map a.eval).toArray = c.args.map a.eval := by apply Array.ext'; simp
            rw [e1]
            simp only [execOp, ho, resolve, hcal, Act.eval, Deferred.ofValue, Sem.run_bind, Sem.run_pure, Result.andThen_ok, invoke]
            have := callable_run fo.fn (c.args.map a.eval) w
            simpa using this
          rcases k1 with k1 | k1
          · exact pure_wp (U' := fun b => b < w.heap.size) hrun (fun _ h => h) (args_ok hh hU h1 hs 6 (.inl hTl)) (fo.ok _ _ hr) (.inl k1) hK
          · exact pure_wp (U' := U) hrun hU (args_ok hh (fun _ h => h) h1 hs 6 (.inr k1)) (fo.ok _ _ hr) (.inr fun _ h => h) hK
        · simp at he
      · simp at he
    · rename_i x hnf hcal
      split at hc
      · rename_i x' xs h0 h1
        simp only [Option.some.injEq] at hc
        subst hc
        have g1 := compOpd_ok h0 hs
        simp only [evQ] at he
        split at he
        · rename_i f caps hx
          rw [hx] at g1
          split at he
          · rename_i F hF
            split at he
            · rename_i r hr
              simp only [Option.some.injEq, Prod.mk.injEq] at he
              obtain ⟨k1, rfl⟩ := he
              have fo := hΓ.look hF
              generalize hcx : a.eval x = cx at g1
              cases g1 with
              | fn _ _ cs hcaps =>
                have ha := args_ok (U' := fun b => b < w.heap.size) hh hU h1 hs 6 (.inl hTl)
                have hcp : RVs (fun _ => none) (fun b => b < w.heap.size) w (caps.map (dr H 6)) cs [] := hcaps.mapD fun v c G _ hr hG => dr_ok hh hU 6 v c G (.inl ⟨hTl, fun b hb => absurd (hG b hb) (by simp)⟩) hr
                have happ := ha.append hcp
                have hrun : (execOp a.eval o).run P w = .ok (.enter f (c.args.toList.map a.eval ++ cs).toArray) w := by
                  have e1 : (c.args.toList.map a.eval ++ cs).toArray = c.args.map a.eval ++ cs.toArray := by apply Array.ext'; simp
                  rw [e1]
                  simp only [execOp, ho, resolve, hcal, hcx, Deferred.ofValue, Sem.run_bind, Sem.run_pure, Result.andThen_ok, invoke]
                  have := callable_run fo.fn (c.args.map a.eval ++ cs.toArray) w
                  simpa using this
                exact pure_wp (U' := fun b => b < w.heap.size) hrun (fun _ h => h) happ (fo.ok _ _ hr) (.inl k1) hK
            · simp at he
          · simp at he
        · simp at he
      · simp at hc
    · rename_i hcal
      split at hc
      · rename_i x t' hargs htys
        have e1 : c.args = #[x] := by apply Array.ext'; simpa using hargs
        have e2 : c.argTypes = #[t'] := by apply Array.ext'; simpa using htys
        have lenrun : ∀ (cx : Value) (n : Int), a.eval x = cx → (Builtin.len_ #[t'] o.type #[cx]).run P w = .ok (goInt n) w → (execOp a.eval o).run P w = .ok (.value (.int .i64 n)) w := by
          intro cx n hcx hr
          simp only [execOp, ho, resolve, hcal, e1, e2, Sem.run_bind, Sem.run_pure, Result.andThen_ok, invoke, builtin]
          have e3 : (#[x].map a.eval) = #[cx] := by simp [hcx]
          rw [e3, hr]
          rfl
        split at hc
        · rename_i x' e h1 hu
          simp only [Option.some.injEq] at hc
          subst hc
          have g1 := compOpd_ok h1 hs
          have run_sl : ∀ (b : Option Addr) (n cap : Nat), (Builtin.len_ #[t'] o.type #[.slice b n cap]).run P w = .ok (goInt n) w := by
            intro b n cap
            simp [Builtin.len_, run_underlying hu]
          simp only [evQ] at he
          generalize hcx : a.eval x = cx at g1
          split at he
          · rename_i sz cells hx
            rw [hx] at g1
            simp only [Option.some.injEq, Prod.mk.injEq, true_and] at he
            subst he
            cases g1 with
            | listE => simp only [List.length_nil, Nat.zero_div] at fin; exact fin _ (lenrun _ _ hcx (run_sl _ _ _)) (.int _ _)
            | list _ _ b o' len cap cs hUb hl hlc hm hz hcc hv =>
              rw [hl, Nat.mul_div_cancel _ hz] at fin
              exact fin _ (lenrun _ _ hcx (run_sl _ _ _)) (.int _ _)
          · rename_i n sz off len hx
            rw [hx] at g1
            simp only [Option.some.injEq, Prod.mk.injEq, true_and] at he
            subst he
            cases g1 with
            | sl => exact fin _ (lenrun _ _ hcx (run_sl _ _ _)) (.int _ _)
            | slE => exact fin _ (lenrun _ _ hcx (run_sl _ _ _)) (.int _ _)
            | slZ => exact fin _ (lenrun _ _ hcx (run_sl _ _ _)) (.int _ _)
          · rename_i hx
            rw [hx] at g1
            simp only [Option.some.injEq, Prod.mk.injEq, true_and] at he
            subst he
            cases g1
            exact fin _ (lenrun _ _ hcx (run_sl _ _ _)) (.int _ _)
          · simp at he
        · rename_i x' h1 hu
          simp only [Option.some.injEq] at hc
          subst hc
          have g1 := compOpd_ok h1 hs
          simp only [evQ] at he
          generalize hcx : a.eval x = cx at g1
          split at he
          · rename_i s hx
            rw [hx] at g1
            simp only [Option.some.injEq, Prod.mk.injEq, true_and] at he
            subst he
            cases g1
            exact fin _ (lenrun _ _ hcx (by simp [Builtin.len_, run_underlying hu])) (.int _ _)
          · simp at he
        · simp at hc
      · simp at hc
    · split at hc
      · split at hc
        · split at hc
          · simp only [Option.some.injEq] at hc
            subst hc
            simp [evQ] at he
          · simp at hc
        · simp at hc
      · simp at hc
    · simp at hc
  case h_22 x ho =>
    obtain ⟨x', h1, rfl⟩ := opt_map hc
    have g1 := compOpd_ok h1 hs
    simp only [evQ] at he
    generalize hcx : a.eval x = cx at g1
    split at he
    · rename_i n off hx
      rw [hx] at g1
      simp only [Option.some.injEq, Prod.mk.injEq, true_and] at he
      subst he
      cases g1 with
      | pt _ _ b base hn => exact fin _ (by simp [execOp, ho, hcx]) (.pt _ _ b base hn)
    · rename_i cells hx
      rw [hx] at g1
      simp only [Option.some.injEq, Prod.mk.injEq, true_and] at he
      subst he
      cases g1 with
      | rp _ b o' cs hUb hcc hv => exact fin _ (by simp [execOp, ho, hcx]) (.rp _ b o' cs hUb hcc hv)
    · simp at he
  case h_23 => simp at hc
end
end Go.Proofs.Ytedampaecopkhaa
