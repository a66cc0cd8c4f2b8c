import Derived.Test.YtmemomfffehnkaaKC
import Derived.Test.YtmemomfffehnkaaRows
import Derived.ProofKit
/- From the judge's reading of arguments to pure data, and back. -/
namespace Go.Proofs.Ytmemomfffehnkaa
open Go.ChangeShapes Go.WideShapes Go.ChangeAt Go.RowKit

theorem own0 : ownKnob Try.prog.godebug = none := by kernel_rfl
theorem laidOut0 : laidOutB Try.prog = true := by kernel_rfl

section
variable {H : Type} {enc : TypeId × Value → H} {P : Program} {w : World} {base : Nat} {held : Bool} {N : Nm} {U : Nat → Prop}
theorem wf_inR {n : Int} (h : (Lit.int .i64 n).wf = true) : inR n := by
  have h1 : IntKind.i64.min = -9223372036854775808 := rfl
  have h2 : IntKind.i64.max = 9223372036854775807 := rfl
  simp only [Lit.wf, Bool.and_eq_true, decide_eq_true_eq] at h
  unfold inR
  omega
theorem rvs_ints : ∀ (l : List Int), RVs N U w (ints l) (l.map (Value.int .i64)) [] := by
  intro l
  induction l with
  | nil => exact .nil
  | cons a l ih => exact .cons _ _ _ _ [] [] _ (.int _ _) ih rfl
theorem cell_lt {w : World} {b o : Nat} {v : Value} (h : w.cell? ⟨b, o, none⟩ = some v) : b < w.heap.size := by
  unfold World.cell? at h
  split at h
  · rename_i e
    exact (Array.getElem?_eq_some_iff.1 e).1
  · simp at h
theorem rd_int1 {t : TypeId} {fuel : Nat} {cs : List Value} {x : DataW H × List MemPlace} {spare : Nat → Bool} (ht : P.underlying t = some (.int .i64)) (h : DataW.trod enc P w base spare held fuel t cs = some x) :
    ∃ n, cs = [.int .i64 n] ∧ inR n ∧ RV N U w (.int .i64 n) (.int .i64 n) [] := by
  obtain ⟨n, h1, _, hw⟩ := DataW.trod_int ht h
  exact ⟨n, h1, wf_inR hw, .int _ _⟩
theorem rd_ints1 (hU : ∀ b, b < w.heap.size → U b) {t e : TypeId} {fuel : Nat} {cs : List Value} {x : DataW H × List MemPlace} (ht : P.underlying t = some (.slice e)) (he : P.underlying e = some (.int .i64)) (hc : P.cellsOf e = 1)
    (h : DataW.trod enc P w base (fun _ => true) held fuel t cs = some x) : ∃ v l, cs = [v] ∧ v.cells = #[v] ∧ (∀ n ∈ l, inR n) ∧ RV N U w (.list 1 (ints l)) v [] := by
  rcases open_ints ht he hc h with ⟨rfl, _⟩ | ⟨a, len, cap, zs, rfl, _, hl, hm, hz, _, hcell, hw⟩
  · exact ⟨_, [], rfl, rfl, by simp, .listE 1 none 0⟩
  · simp only [if_true] at hz
    rcases Nat.eq_zero_or_pos len with rfl | h0
    · exact ⟨_, [], rfl, rfl, by simp, .listE 1 (some a) cap⟩
    · obtain ⟨b, o, sp⟩ := a
      have h1 := hcell 0 (by omega)
      have hs : sp = none := by simpa [Addr.add] using World.cell?_spot h1
      subst hs
      rw [add_plain] at h1
      refine ⟨_, zs.take len, rfl, rfl, fun n hn => wf_inR (hw n (List.mem_of_mem_take hn)), ?_⟩
      refine .list 1 _ b o len cap ((zs.take len).map (Value.int .i64)) (hU b (cell_lt h1)) (by simp; omega) hl (by omega) (by omega) ?_ (rvs_ints _)
      intro j c hj
      simp only [List.getElem?_map, Option.map_eq_some_iff] at hj
      obtain ⟨y, hy, rfl⟩ := hj
      have hjl : j < len := by
        have := (List.getElem?_eq_some_iff.1 hy).1
        simp at this
        omega
      have := hcell j (by omega)
      rw [add_plain] at this
      rw [this]
      rw [List.getElem?_take_of_lt hjl] at hy
      simp [List.getD, hy]
theorem rd_int {t : TypeId} {v : Value} {d : DataW H} {p : List MemPlace} {r : Reach} {b0 : Nat} {spare : Nat → Bool} (ht : P.underlying t = some (.int .i64)) (hval : Value.okWide P w r b0 t v) (h : DataW.Trod enc P w base spare held t v d p) :
    ∃ n, inR n ∧ RV N U w (.int .i64 n) v [] := by
  obtain ⟨n, rfl, _, _, hw⟩ := open_int ht hval h
  exact ⟨n, wf_inR hw, .int _ _⟩
theorem rd_ints (hU : ∀ b, b < w.heap.size → U b) {t e : TypeId} {v : Value} {d : DataW H} {p : List MemPlace} {r : Reach} {b0 : Nat} (ht : P.underlying t = some (.slice e)) (he : P.underlying e = some (.int .i64)) (hc : P.cellsOf e = 1)
    (hval : Value.okWide P w r b0 t v) (h : DataW.Trod enc P w base (fun _ => true) held t v d p) : ∃ l, (∀ n ∈ l, inR n) ∧ RV N U w (.list 1 (ints l)) v [] := by
  obtain ⟨a0, len, cap, rfl⟩ := okWide_slice ht hval
  obtain ⟨fuel, hf⟩ := h
  obtain ⟨v', l, h1, h2, h3, h4⟩ := rd_ints1 (N := N) hU ht he hc hf
  have e : v' = .slice a0 len cap := by
    have : (Value.slice a0 len cap).cells.toList = [Value.slice a0 len cap] := rfl
    rw [this] at h1
    injection h1 with h1 _
    exact h1.symm
  subst e
  exact ⟨l, h3, h4⟩
/-- A struct of a number and a row of numbers. -/
theorem rd_cplx (hU : ∀ b, b < w.heap.size → U b) {t ti tl e : TypeId} {f0 f1 : Field} {v : Value} {d : DataW H} {p : List MemPlace} {r : Reach} {b0 : Nat} (hs : P.underlying t = some (.struct #[f0, f1])) (e0 : f0.type = ti) (e1 : f1.type = tl) (o0 : f0.offset = 0) (o1 : f1.offset = 1)
    (c0 : P.cellsOf ti = 1) (c1 : P.cellsOf tl = 1) (ct : P.cellsOf t = 2) (hi : P.underlying ti = some (.int .i64)) (ht : P.underlying tl = some (.slice e)) (he : P.underlying e = some (.int .i64)) (hc : P.cellsOf e = 1)
    (hval : Value.okWide P w r b0 t v) (h : DataW.Trod enc P w base (fun _ => true) held t v d p) : ∃ n l, inR n ∧ (∀ n ∈ l, inR n) ∧ RV N U w (.agg [.int .i64 n, .list 1 (ints l)]) v [] := by
  obtain ⟨cs, rfl, hsz⟩ := okWide_struct hs hval
  obtain ⟨fuel, hf⟩ := h
  obtain ⟨y0, y1, m, _, hl, t0, t1⟩ := trod_struct2 hs hf
  have hcs : (Value.agg cs).cells.toList = cs.toList := rfl
  rw [hcs] at hl t0 t1
  subst e0 e1
  rw [o0, c0] at t0
  rw [o1, c1] at t1
  obtain ⟨n, g1, g2, g3⟩ := rd_int1 (N := N) (U := U) hi t0
  obtain ⟨v', l, k1, k2, k3, k4⟩ := rd_ints1 (N := N) hU ht he hc t1
  have hlist : cs.toList = [.int .i64 n, v'] := by
    rw [ct] at hl
    match hq : cs.toList, hl with
    | [a, b], _ =>
      rw [hq] at g1 k1
      simp at g1 k1
      rw [g1, k1]
  refine ⟨n, l, g2, k3, ?_⟩
  have : Value.agg cs = Value.agg [.int .i64 n, v'].toArray := by rw [← hlist]
  rw [this]
  exact .agg _ _ _ (.cons _ _ _ _ [] [] _ g3 (.cons _ _ _ _ [] [] _ k4 .nil rfl) rfl)

theorem post_of_below {f : Func} {s : ChangeSpec} {apart fresh handsOn again : Bool} {W W' : World} {args : Array Value} {v : Value} {ds gs : List (DataW H)} {before pa pv : List MemPlace}
    (hW : DataW.Whole enc P f.params.toList s.vars apart W args.toList ds gs before)
    (hres : ∀ (b : Nat) (sp : Nat → Bool) (hd : Bool), DataW.TrodAll enc P W' b sp hd f.resultTypes.toList (v.resultList f.resultTypes.size) (s.fn H (ds ++ gs)).results [])
    (hargs : ∀ sp : Nat → Bool, (∀ p ∈ before, sp p.block = true) → DataW.TrodAll enc P W' 0 sp true f.params.toList args.toList (s.fn H (ds ++ gs)).args pa)
    (hvars : ∀ sp : Nat → Bool, (∀ p ∈ before, sp p.block = true) → DataW.TrodVars enc P W' sp s.vars (s.fn H (ds ++ gs)).vars pv)
    (hps : before = pa ++ pv) (hb : Below W.heap.size W W')
    (hok : ∀ (j : Nat) (t : TypeId) (r : Value), f.resultTypes[j]? = some t → (v.resultList f.resultTypes.size)[j]? = some r → Value.okWide P W' .any 0 t r) :
    s.post enc P f apart fresh handsOn again W args v W' := by
  have hlt : ∀ p ∈ before, p.block < W.heap.size := fun p hp => hW.lt p hp
  have hold : ∀ p ∈ before, (fun b => decide (b < W.heap.size)) p.block = true := fun p hp => by simpa using hlt p hp
  refine ⟨ds, gs, before, [], pa, pv, hW, hres _ _ _, hargs _ hold, hvars _ hold, World.keptBut_mono (fun p hp => ⟨hp, ?_⟩) (hb.frame (· ∈ before)), fun _ => ?_⟩
  · rw [hps, List.mem_append] at hp
    exact Or.inr hp
  · obtain ⟨_, _, _, _, _, hz, hn⟩ := hW
    refine ⟨hok, _, _, ([] ++ pa) ++ pv, ⟨[] ++ pa, pv, trodAll_append (hargs _ (fun _ _ => rfl)) (hres _ _ _), hvars _ (fun _ _ => rfl), rfl, ?_, ?_⟩, ?_⟩
    · intro b off hp
      have hin : MemPlace.cell b off ∈ before := by rw [hps]; simpa using hp
      rw [hb.frozen (hlt _ hin)]
      exact hz b off hin
    · intro ha
      have := hn ha
      rw [hps] at this
      simpa using this
    · intro p hp _
      rw [hps]
      simpa using hp
/-- Arguments read behind the call as they read before. -/
theorem args_stay (hl : laidOutB P = true) {W W' : World} (hb : Below W.heap.size W W') {sp : Nat → Bool} : ∀ {ts : List TypeId} {vs : List Value} {ds : List (DataW H)} {ps : List MemPlace},
    ts.all (fun t => P.readableRec t && decide (t < P.types.size)) = true → DataW.TrodAll enc P W 0 (fun _ => true) true ts vs ds ps → (∀ x ∈ ps, x.block < W.heap.size) → (∀ x ∈ ps, sp x.block = true) → DataW.TrodAll enc P W' 0 sp true ts vs ds ps := by
  intro ts
  induction ts with
  | nil => intro vs ds ps _ h _ _; cases vs <;> cases ds <;> exact h
  | cons t ts ih =>
    intro vs ds ps hr h hlt hsp
    cases vs with
    | nil => cases ds <;> exact h.elim
    | cons v vs =>
      cases ds with
      | nil => exact h.elim
      | cons d ds =>
        obtain ⟨p, q, h1, h2, rfl⟩ := h
        simp only [List.all_cons, Bool.and_eq_true, decide_eq_true_eq] at hr
        refine ⟨p, q, ?_, ih hr.2 h2 (fun x hx => hlt x (by simp [hx])) (fun x hx => hsp x (by simp [hx])), rfl⟩
        exact WideElems.Trod_stays hl hr.1.1 hr.1.2 h1 (fun x hx => hb.same (hlt x (by simp [hx]))) (fun x hx => hsp x (by simp [hx]))
/-- A law: it answers true, and its arguments stay. -/
theorem law_post {fn : Func} {tb : TypeId} {s : ChangeSpec} {fresh handsOn again : Bool} {f : FuncId} {args : List V} (hf : Pure P f args (.bool true)) (hl : laidOutB P = true) (hp : fn.params.toList.all (fun t => P.readableRec t && decide (t < P.types.size)) = true)
    (hrt : fn.resultTypes = #[tb]) (htb : P.underlying tb = some .bool) (hv0 : s.vars = []) {W : World} {cargs : Array Value} {ds gs : List (DataW H)} {before : List MemPlace} (hW : DataW.Whole enc P fn.params.toList s.vars false W cargs.toList ds gs before)
    (hres : (s.fn H (ds ++ gs)).results = [.lit (.bool true)]) (hargs : (s.fn H (ds ++ gs)).args = ds) (hvars : (s.fn H (ds ++ gs)).vars = [])
    (hr : RVs (fun _ => none) (fun b => b < W.heap.size) W args cargs.toList []) :
    Calls P f cargs W fun e W' => ∃ v, e = .returned v ∧ s.post enc P fn false fresh handsOn again W cargs v W' := by
  have := hf (fun b => b < W.heap.size) W cargs.toList (fun _ h => h) hr
  rw [Array.toArray_toList] at this
  refine this.mono ?_
  rintro e W' ⟨c, F, rfl, _, hc, hb⟩
  cases hc
  refine ⟨_, rfl, ?_⟩
  obtain ⟨p, q, hA, hV, rfl, hfz, hnd⟩ := id hW
  rw [hv0] at hV
  obtain ⟨hgs, hq⟩ := trodVars_none hV
  have hlt : ∀ x ∈ p ++ q, x.block < W.heap.size := fun x hx => hW.lt x hx
  refine post_of_below (pa := p) (pv := q) hW (fun b sp hd => ?_) (fun sp hsp => ?_) (fun sp hsp => ?_) rfl hb ?_
  · rw [hrt, hres]
    exact trodAll_mk1 ⟨1, by simp [DataW.trod, Value.cells, htb]⟩
  · rw [hargs]
    exact args_stay hl hb hp hA (fun x hx => hlt x (by simp [hx])) (fun x hx => hsp x (by simp [hx]))
  · rw [hv0, hvars, hq]
    rfl
  · exact ok_one hrt rfl (okWide_bool_mk htb true)
end
end Go.Proofs.Ytmemomfffehnkaa
