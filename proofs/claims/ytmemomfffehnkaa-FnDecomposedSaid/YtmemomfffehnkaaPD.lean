import Derived.Test.YtmemomfffehnkaaPC
import Derived.Test.YtmemomfffehnkaaRows
import Derived.ProofKit
import Derived.Test.YtmemomfffehnkaaChecked
import Derived.JoinedOf
/- From the judge's reading of arguments to pure data, and back. -/
namespace Go.Proofs.Ytmemomfffehnkaa
open Go.ChangeShapes Go.WideShapes Go.ChangeAt Go.RowKit
theorem own0 : ownKnob Try.prog.godebug = none := by kernel_rfl
theorem laidOut0 : laidOutB Try.prog = true := by kernel_rfl
section
variable {H : Type} {enc : TypeId × Value → H} {P : Program} {w : World} {base : Nat} {held : Bool} {N : Nm} {U : Nat → Prop}
theorem cell_lt {w : World} {b o : Nat} {v : Value} (h : w.cell? ⟨b, o, none⟩ = some v) : b < w.heap.size := by
  unfold World.cell? at h
  split at h
  · rename_i e
    exact (Array.getElem?_eq_some_iff.1 e).1
  · simp at h
theorem post_of_below {f : Func} {s : ChangeSpec} {apart fresh handsOn again : Bool} {W W' : World} {args : Array Value} {v : Value} {ds gs : List (DataW H)} {before pa pv : List MemPlace}
    (hW : DataW.Whole enc P f.params.toList s.vars apart W args.toList ds gs before)
    (hres : ∀ (b : Nat) (sp : Nat → Bool) (hd : Bool), DataW.TrodAll enc P W' b sp hd f.resultTypes.toList (v.resultList f.resultTypes.size) (s.fn H (ds ++ gs)).results [])
    (hargs : ∀ sp : Nat → Bool, (∀ p ∈ before, sp p.block = true) → DataW.TrodAll enc P W' 0 sp true f.params.toList args.toList (s.fn H (ds ++ gs)).args pa)
    (hvars : ∀ sp : Nat → Bool, (∀ p ∈ before, sp p.block = true) → DataW.TrodVars enc P W' sp s.vars (s.fn H (ds ++ gs)).vars pv)
    (hps : before = pa ++ pv) (hb : Below W.heap.size W W')
    (hok : ∀ (j : Nat) (t : TypeId) (r : Value), f.resultTypes[j]? = some t → (v.resultList f.resultTypes.size)[j]? = some r → Value.okWide P W' .any 0 t r) :
    s.post enc P f apart fresh handsOn again W args v W' := by
  have hlt : ∀ p ∈ before, p.block < W.heap.size := fun p hp => hW.lt p hp
  have hold : ∀ p ∈ before, (fun b => decide (b < W.heap.size)) p.block = true := fun p hp => by simpa using hlt p hp
  refine ⟨ds, gs, before, [], pa, pv, hW, hres _ _ _, hargs _ hold, hvars _ hold, World.keptBut_mono (fun p hp => ⟨hp, ?_⟩) (hb.frame (· ∈ before)), fun _ => ?_⟩
  · rw [hps, List.mem_append] at hp
    exact Or.inr hp
  · obtain ⟨_, _, _, _, _, hz, hn⟩ := hW
    refine ⟨hok, _, _, ([] ++ pa) ++ pv, ⟨[] ++ pa, pv, trodAll_append (hargs _ (fun _ _ => rfl)) (hres _ _ _), hvars _ (fun _ _ => rfl), rfl, ?_, ?_⟩, ?_⟩
    · intro b off hp
      have hin : MemPlace.cell b off ∈ before := by rw [hps]; simpa using hp
      rw [hb.frozen (hlt _ hin)]
      exact hz b off hin
    · intro ha
      have := hn ha
      rw [hps] at this
      simpa using this
    · intro p hp _
      rw [hps]
      simpa using hp
/-- Arguments read behind the call as they read before. -/
theorem args_stay (hl : laidOutB P = true) {W W' : World} (hb : Below W.heap.size W W') {sp : Nat → Bool} : ∀ {ts : List TypeId} {vs : List Value} {ds : List (DataW H)} {ps : List MemPlace},
    ts.all (fun t => P.readableRec t && decide (t < P.types.size)) = true → DataW.TrodAll enc P W 0 (fun _ => true) true ts vs ds ps → (∀ x ∈ ps, x.block < W.heap.size) → (∀ x ∈ ps, sp x.block = true) → DataW.TrodAll enc P W' 0 sp true ts vs ds ps := by
  intro ts
  induction ts with
  | nil => intro vs ds ps _ h _ _; cases vs <;> cases ds <;> exact h
  | cons t ts ih =>
    intro vs ds ps hr h hlt hsp
    cases vs with
    | nil => cases ds <;> exact h.elim
    | cons v vs =>
      cases ds with
      | nil => exact h.elim
      | cons d ds =>
        obtain ⟨p, q, h1, h2, rfl⟩ := h
        simp only [List.all_cons, Bool.and_eq_true, decide_eq_true_eq] at hr
        refine ⟨p, q, ?_, ih hr.2 h2 (fun x hx => hlt x (by simp [hx])) (fun x hx => hsp x (by simp [hx])), rfl⟩
        exact WideElems.Trod_stays hl hr.1.1 hr.1.2 h1 (fun x hx => hb.same (hlt x (by simp [hx]))) (fun x hx => hsp x (by simp [hx]))
/-- A law: it answers true, and its arguments stay. -/
theorem law_post {fn : Func} {tb : TypeId} {s : ChangeSpec} {fresh handsOn again : Bool} {f : FuncId} {args : List V} (hf : Pure P f args (.bool true)) (hl : laidOutB P = true) (hp : fn.params.toList.all (fun t => P.readableRec t && decide (t < P.types.size)) = true)
    (hrt : fn.resultTypes = #[tb]) (htb : P.underlying tb = some .bool) (hv0 : s.vars = []) {W : World} {cargs : Array Value} {ds gs : List (DataW H)} {before : List MemPlace} (hW : DataW.Whole enc P fn.params.toList s.vars false W cargs.toList ds gs before)
    (hres : (s.fn H (ds ++ gs)).results = [.lit (.bool true)]) (hargs : (s.fn H (ds ++ gs)).args = ds) (hvars : (s.fn H (ds ++ gs)).vars = [])
    (hr : RVs (fun _ => none) (fun b => b < W.heap.size) W args cargs.toList []) :
    Calls P f cargs W fun e W' => ∃ v, e = .returned v ∧ s.post enc P fn false fresh handsOn again W cargs v W' := by
  have := hf (fun b => b < W.heap.size) W cargs.toList (fun _ h => h) hr
  rw [Array.toArray_toList] at this
  refine this.mono ?_
  rintro e W' ⟨c, F, rfl, _, hc, hb⟩
  cases hc
  refine ⟨_, rfl, ?_⟩
  obtain ⟨p, q, hA, hV, rfl, hfz, hnd⟩ := id hW
  rw [hv0] at hV
  obtain ⟨hgs, hq⟩ := trodVars_none hV
  have hlt : ∀ x ∈ p ++ q, x.block < W.heap.size := fun x hx => hW.lt x hx
  refine post_of_below (pa := p) (pv := q) hW (fun b sp hd => ?_) (fun sp hsp => ?_) (fun sp hsp => ?_) rfl hb ?_
  · rw [hrt, hres]
    exact trodAll_mk1 ⟨1, by simp [DataW.trod, Value.cells, htb]⟩
  · rw [hargs]
    exact args_stay hl hb hp hA (fun x hx => hlt x (by simp [hx])) (fun x hx => hsp x (by simp [hx]))
  · rw [hv0, hvars, hq]
    rfl
  · exact ok_one hrt rfl (okWide_bool_mk htb true)
end
end Go.Proofs.Ytmemomfffehnkaa
/- What the statements ask of the program as a whole, counted once. -/
namespace Go.Proofs.Ytmemomfffehnkaa
open Go Go.Proofs
theorem headP : (Try.checked.prog.mayEnter && (false == Try.checked.prog.liftsFinal) && (Try.checked.prog.make == some Rows.fnDivisionsRow.make)) = true := by kernel_rfl
end Go.Proofs.Ytmemomfffehnkaa
namespace Go.Proofs.Ytmemomfffehnkaa
open Go Go.RowKit
set_option maxRecDepth 1000000
set_option linter.unusedSimpArgs false
set_option linter.unusedVariables false
set_option maxHeartbeats 1000000
theorem getD_mem_iff {l : List Int} {n : Int} : n ∈ l ↔ ∃ j, j < l.length ∧ at0 l j = n := by
  constructor
  · intro h
    obtain ⟨j, hj, e⟩ := List.getElem_of_mem h
    exact ⟨j, hj, by rw [at0_eq hj, e]⟩
  · rintro ⟨j, hj, e⟩
    rw [at0_eq hj] at e
    exact e ▸ List.getElem_mem hj
theorem getD_mem' {l : List Int} {j : Nat} (hj : j < l.length) : at0 l j ∈ l := getD_mem_iff.2 ⟨j, hj, rfl⟩
/-- The bits of a number, by fuel. -/
def pcF : Nat → Nat → Nat
  | 0, _ => 0
  | f + 1, n => n % 2 + pcF f (n / 2)
def pc (n : Nat) : Nat := pcF 64 n
theorem pcF_zero (f : Nat) : pcF f 0 = 0 := by
  induction f with
  | zero => rfl
  | succ f ih => simp [pcF, ih]
theorem pcF_le (f n : Nat) : pcF f n ≤ f := by
  induction f generalizing n with
  | zero => simp [pcF]
  | succ f ih => have := ih (n / 2); simp only [pcF]; omega
theorem pc_le (n : Nat) : pc n ≤ 64 := pcF_le 64 n
/-- The size of a set; below zero it is the size of nothing. -/
def sz (s : Int) : Int := (pc s.toNat : Nat)
theorem sz_nn (s : Int) : 0 ≤ sz s := by unfold sz; omega
def isSet (n s : Int) : Bool := decide (0 ≤ n ∧ n ≤ 6 ∧ 0 ≤ s ∧ s < 2 ^ n.toNat)
theorem isSet_pos {n s : Int} (h : isSet n s = true) : 0 ≤ s ∧ s < 64 := by
  simp only [isSet, decide_eq_true_eq] at h
  obtain ⟨h1, h2, h3, h4⟩ := h
  have : n = 0 ∨ n = 1 ∨ n = 2 ∨ n = 3 ∨ n = 4 ∨ n = 5 ∨ n = 6 := by omega
  rcases this with rfl | rfl | rfl | rfl | rfl | rfl | rfl <;> simp at h4 <;> omega
def before (a b : Int) : Bool := decide (sz a < sz b ∨ (sz a = sz b ∧ a < b))
def sc_s_l1In : SC := (.seq (.reg [⟨(some 6), none, (.mov (.c (.bool false)))⟩]) (.seq (.reg [⟨(some 7), none, (.mov (.t 0))⟩, ⟨(some 8), none, (.mov (.t 1))⟩, ⟨(some 9), none, (.bin false .geq (.t 7) (.t 8))⟩, ⟨(some 10), none, (.mov (.t 9))⟩, ⟨(some 11), (some (10, true)), (.mov (.t 0))⟩, ⟨(some 12), (some (10, true)), (.mov (.t 2))⟩, ⟨(some 13), (some (10, true)), (.bin false .leq (.t 11) (.t 12))⟩, ⟨(some 14), none, (.pick (.t 10) (.t 13) (.c (.bool false)))⟩, ⟨(some 6), none, (.mov (.t 14))⟩]) .ret))
theorem code_s_l1In : fnCode Try.prog [] 132 = some (15, sc_s_l1In, [(6, none)]) := by kernel_rfl
def F_s_l1In : List V → Option V := F3 dI dI dI fun x a b => some (.bool (decide (a ≤ x ∧ x ≤ b)))
theorem fn_s_l1In : FnOk Try.prog 132 F_s_l1In := by
  refine fn_ok code_s_l1In mixed envNil_ok ?_
  intro args r h hb
  obtain ⟨_, _, _, x, a, b, rfl, h1, h2, h3, h4⟩ := F3_inv h
  cases dI_inv h1
  cases dI_inv h2
  cases dI_inv h3
  cases h4
  refine ⟨by simp, fun w0 U0 L0 N0 => ?_⟩
  simp -implicitDefEqProofs [sc_s_l1In]
  omega
def sc_s_l2Has_L0 : SC := (.seq (.seq (.reg [⟨(some 6), none, (.mov (.t 5))⟩, ⟨(some 7), none, (.mov (.t 0))⟩, ⟨(some 8), none, (.len (.t 7))⟩, ⟨(some 9), none, (.bin false .lss (.t 6) (.t 8))⟩]) (.cond (.t 9) .skip (.exit 0))) (.seq (.block 1 (.seq (.reg [⟨(some 12), none, (.mov (.t 0))⟩, ⟨(some 13), none, (.mov (.t 5))⟩, ⟨(some 14), none, (.idx 1 (.t 12) (.t 13))⟩, ⟨(some 15), none, (.ld none (.int .i64 0) (.t 14))⟩, ⟨(some 16), none, (.mov (.t 1))⟩, ⟨(some 17), none, (.bin false .eql (.t 15) (.t 16))⟩]) (.cond (.t 17) (.seq (.reg [⟨(some 4), none, (.mov (.c (.bool true)))⟩]) .ret) .skip))) (.reg [⟨(some 10), none, (.mov (.t 5))⟩, ⟨(some 11), none, (.bin false .add (.t 10) (.c (.int .i64 1)))⟩, ⟨(some 5), none, (.mov (.t 11))⟩])))
def sc_s_l2Has : SC := (.seq (.reg [⟨(some 4), none, (.mov (.c (.bool false)))⟩]) (.seq (.seq (.reg [⟨(some 5), none, (.mov (.c (.int .i64 0)))⟩]) (.block 0 (.loop sc_s_l2Has_L0))) (.seq (.reg [⟨(some 4), none, (.mov (.c (.bool false)))⟩]) .ret)))
theorem code_s_l2Has : fnCode Try.prog [] 134 = some (18, sc_s_l2Has, [(4, none)]) := by kernel_rfl
def F_s_l2Has : List V → Option V := F2 dL dI fun l n => some (.bool (l.contains n))
theorem fn_s_l2Has : FnOk Try.prog 134 F_s_l2Has := by
  refine fn_ok code_s_l2Has mixed envNil_ok ?_
  intro args r h hb
  obtain ⟨_, _, l, n, rfl, h1, h2, h4⟩ := F2_inv h
  cases dL_inv h1
  cases dI_inv h2
  cases h4
  have hl := bnd_ints (hb _ (List.mem_cons_self ..))
  refine ⟨by simp, fun w0 U0 L0 N0 => ?_⟩
  simp -implicitDefEqProofs [sc_s_l2Has]
  refine loopI envNil_ok mixed (fun k : Nat => [(5, .int .i64 (k : Int)), (0, .list 1 (ints l)), (1, .int .i64 n)]) (fun _ => ([], 0)) (fun k => k ≤ l.length ∧ ∀ j, j < k → at0 l j ≠ n) (fun k => l.length - k) 0 (by simp) (SubI.slots rfl (by simp)) ?_
  rintro k ⟨hk, hn⟩
  simp -implicitDefEqProofs [sc_s_l2Has_L0]
  refine ⟨fun h => ⟨h, by omega, fun e => e ▸ getD_mem' h, fun e => Again.of (k + 1) ⟨by omega, fun j hj => ?_⟩ (by omega) (SubI.slots rfl (by simp (disch := omega) [wrapI]))⟩, fun h hm => ?_⟩
  · rcases Nat.lt_succ_iff_lt_or_eq.1 hj with h1 | rfl
    · exact hn j h1
    · exact e
  · obtain ⟨j, hj, e⟩ := getD_mem_iff.1 hm
    exact hn j (by omega) e
def sc_s_IsSet : SC := (.seq (.reg [⟨(some 4), none, (.mov (.c (.bool false)))⟩]) (.seq (.reg [⟨(some 5), none, (.mov (.t 0))⟩, ⟨(some 6), none, (.call 132 [(.t 5), (.c (.int .i64 0)), (.c (.int .i64 6))])⟩, ⟨(some 7), none, (.mov (.t 6))⟩, ⟨(some 8), (some (7, true)), (.mov (.t 1))⟩, ⟨(some 9), (some (7, true)), (.mov (.t 0))⟩, ⟨(some 10), (some (7, true)), (.conv .u64 (.t 9))⟩, ⟨(some 11), (some (7, true)), (.bin false .shl (.c (.int .i64 1)) (.t 10))⟩, ⟨(some 12), (some (7, true)), (.bin false .sub (.t 11) (.c (.int .i64 1)))⟩, ⟨(some 13), (some (7, true)), (.call 132 [(.t 8), (.c (.int .i64 0)), (.t 12)])⟩, ⟨(some 14), none, (.pick (.t 7) (.t 13) (.c (.bool false)))⟩, ⟨(some 4), none, (.mov (.t 14))⟩]) .ret))
theorem code_s_IsSet : fnCode Try.prog [] 139 = some (15, sc_s_IsSet, [(4, none)]) := by kernel_rfl
def F_s_IsSet : List V → Option V := F2 dI dI fun n s => some (.bool (isSet n s))
theorem fn_s_IsSet : FnOk Try.prog 139 F_s_IsSet := by
  have env := (envNil_ok (P := Try.prog)).add fn_s_l1In
  refine fn_ok code_s_IsSet mixed env ?_
  intro args r h hb
  obtain ⟨_, _, n, s, rfl, h1, h2, h4⟩ := F2_inv h
  cases dI_inv h1
  cases dI_inv h2
  cases h4
  refine ⟨by simp, fun w0 U0 L0 N0 => ?_⟩
  simp -implicitDefEqProofs [sc_s_IsSet, F_s_l1In, isSet]
  refine ⟨fun h1 h2 => ?_, by omega⟩
  have : n = 0 ∨ n = 1 ∨ n = 2 ∨ n = 3 ∨ n = 4 ∨ n = 5 ∨ n = 6 := by omega
  rcases this with rfl | rfl | rfl | rfl | rfl | rfl | rfl <;> simp [IntKind.wrap, IntKind.bits, IntKind.signed] <;> rw [Bool.eq_iff_iff] <;> simp <;> omega
def sc_i_IsSet : SC := (.seq (.reg [⟨(some 4), none, (.mov (.c (.bool false)))⟩]) (.seq (.reg [⟨(some 5), none, (.mov (.t 0))⟩, ⟨(some 6), none, (.bin false .geq (.t 5) (.c (.int .i64 0)))⟩, ⟨(some 7), none, (.mov (.t 6))⟩, ⟨(some 8), (some (7, true)), (.mov (.t 0))⟩, ⟨(some 9), (some (7, true)), (.bin false .leq (.t 8) (.c (.int .i64 6)))⟩, ⟨(some 10), none, (.pick (.t 7) (.t 9) (.c (.bool false)))⟩, ⟨(some 11), none, (.mov (.t 10))⟩, ⟨(some 12), (some (11, true)), (.mov (.t 1))⟩, ⟨(some 13), (some (11, true)), (.bin false .geq (.t 12) (.c (.int .i64 0)))⟩, ⟨(some 14), none, (.pick (.t 11) (.t 13) (.c (.bool false)))⟩, ⟨(some 15), none, (.mov (.t 14))⟩, ⟨(some 16), (some (15, true)), (.mov (.t 1))⟩, ⟨(some 17), (some (15, true)), (.mov (.t 0))⟩, ⟨(some 18), (some (15, true)), (.conv .u64 (.t 17))⟩, ⟨(some 19), (some (15, true)), (.bin false .shl (.c (.int .i64 1)) (.t 18))⟩, ⟨(some 20), (some (15, true)), (.bin false .lss (.t 16) (.t 19))⟩, ⟨(some 21), none, (.pick (.t 15) (.t 20) (.c (.bool false)))⟩, ⟨(some 4), none, (.mov (.t 21))⟩]) .ret))
theorem code_i_IsSet : fnCode Try.prog [] 180 = some (22, sc_i_IsSet, [(4, none)]) := by kernel_rfl
def F_i_IsSet : List V → Option V := F2 dI dI fun n s => some (.bool (isSet n s))
theorem fn_i_IsSet : FnOk Try.prog 180 F_i_IsSet := by
  refine fn_ok code_i_IsSet mixed envNil_ok ?_
  intro args r h hb
  obtain ⟨_, _, n, s, rfl, h1, h2, h4⟩ := F2_inv h
  cases dI_inv h1
  cases dI_inv h2
  cases h4
  refine ⟨by simp, fun w0 U0 L0 N0 => ?_⟩
  generalize hw : (IntKind.u64.wrap n) = w
  generalize hv : isSet n s = v
  simp -implicitDefEqProofs [sc_i_IsSet, hw]
  have key : 0 ≤ n → n ≤ 6 → 0 ≤ w ∧ IntKind.i64.wrap (2 ^ min w.toNat IntKind.i64.bits) = 2 ^ n.toNat := by
    intro h1 h2
    have : n = 0 ∨ n = 1 ∨ n = 2 ∨ n = 3 ∨ n = 4 ∨ n = 5 ∨ n = 6 := by omega
    rcases this with rfl | rfl | rfl | rfl | rfl | rfl | rfl <;> (subst hw; decide)
  subst hv
  by_cases h1 : 0 ≤ n ∧ n ≤ 6
  · obtain ⟨k1, k2⟩ := key h1.1 h1.2
    rw [k2]
    simp [isSet, h1.1, h1.2, k1]
    omega
  · have e : isSet n s = false := by simp [isSet]; omega
    simp [e]
    omega
def sc_s_l2Size_L0 : SC := (.seq (.seq (.reg [⟨(some 4), none, (.mov (.t 0))⟩, ⟨(some 5), none, (.bin false .gtr (.t 4) (.c (.int .i64 0)))⟩]) (.cond (.t 5) .skip (.exit 0))) (.block 1 (.seq (.reg [⟨(some 6), none, (.mov (.t 3))⟩, ⟨(some 7), none, (.mov (.t 0))⟩, ⟨(some 8), none, (.bin false .and (.t 7) (.c (.int .i64 1)))⟩, ⟨(some 9), none, (.bin false .add (.t 6) (.t 8))⟩, ⟨(some 3), none, (.mov (.t 9))⟩]) (.reg [⟨(some 10), none, (.mov (.t 0))⟩, ⟨(some 11), none, (.bin false .shr (.t 10) (.c (.int .u64 1)))⟩, ⟨(some 0), none, (.mov (.t 11))⟩]))))
def sc_s_l2Size : SC := (.seq (.reg [⟨(some 2), none, (.mov (.c (.int .i64 0)))⟩]) (.seq (.reg [⟨(some 3), none, (.mov (.c (.int .i64 0)))⟩]) (.seq (.block 0 (.loop sc_s_l2Size_L0)) (.seq (.reg [⟨(some 12), none, (.mov (.t 3))⟩, ⟨(some 2), none, (.mov (.t 12))⟩]) .ret))))
theorem code_s_l2Size : fnCode Try.prog [] 156 = some (13, sc_s_l2Size, [(2, none)]) := by kernel_rfl
/-- The instance is by choice: a checker must not begin to count. -/
noncomputable def F_s_l2Size : List V → Option V := F1 dI fun s => @ite _ (s < 9223372036854775808) (Classical.propDecidable _) (some (.int .i64 (sz s))) none
theorem fn_s_l2Size : FnOk Try.prog 156 F_s_l2Size := by
  refine fn_ok code_s_l2Size mixed envNil_ok ?_
  intro args r h hb
  obtain ⟨_, s, rfl, h1, h4⟩ := F1_inv h
  cases dI_inv h1
  simp only [Option.ite_none_right_eq_some, Option.some.injEq] at h4
  obtain ⟨hs, rfl⟩ := h4
  refine ⟨by simp, fun w0 U0 L0 N0 => ?_⟩
  simp -implicitDefEqProofs [sc_s_l2Size]
  by_cases h0 : 0 < s
  · obtain ⟨m, rfl⟩ : ∃ m : Nat, s = m := ⟨s.toNat, by omega⟩
    refine loopI envNil_ok mixed (fun x : Nat × Nat × Nat => [(0, .int .i64 (x.2.1 : Int)), (3, .int .i64 (x.2.2 : Int))]) (fun _ => ([], 0)) (fun x => x.2.1 < 9223372036854775808 ∧ x.2.2 + pcF x.1 x.2.1 = pc m ∧ x.2.1 < 2 ^ x.1) (fun x => x.1) (64, m, 0)
      (by simp [pc]; omega) (SubI.slots rfl (by simp)) ?_
    rintro ⟨f, k, n⟩ ⟨hk, hp, hf⟩
    simp -implicitDefEqProofs [sc_s_l2Size_L0]
    refine ⟨fun h => ?_, fun h => ?_⟩
    · have hl := pc_le m
      cases f with
      | zero => simp at hf; omega
      | succ f =>
        have e1 : bitop .and .i64 (k : Int) 1 = ((k % 2 : Nat) : Int) := by
          rw [show (1 : Int) = ((1 : Nat) : Int) from rfl, bits_and k 1 hk (by omega), Nat.and_one_is_mod]
        have e2 : (k : Int).fdiv 2 = ((k / 2 : Nat) : Int) := by rw [Int.fdiv_eq_ediv_of_nonneg _ (by omega)]; rfl
        simp only [pcF] at hp
        simp only at hp hf hk
        refine Again.of (f, k / 2, n + k % 2) ⟨by simp only; omega, by simp only; omega, by simp only; rw [Nat.pow_succ] at hf; omega⟩ (by simp) (SubI.slots rfl ?_)
        simp [e1]
        simp (disch := omega) [IntKind.bits, e2, wrapI]
    · have : k = 0 := by omega
      subst this
      simp only [pcF_zero] at hp
      simp [sz]
      omega
  · refine loopI envNil_ok mixed (fun _ : Unit => [(0, .int .i64 s), (3, .int .i64 0)]) (fun _ => ([], 0)) (fun _ => True) (fun _ => 0) () trivial (SubI.slots rfl (by simp)) ?_
    rintro ⟨⟩ _
    have e : s.toNat = 0 := by omega
    simp -implicitDefEqProofs [sc_s_l2Size_L0, h0, sz, e, pc, pcF_zero]
def sc_s_l2Before : SC := (.seq (.reg [⟨(some 4), none, (.mov (.c (.bool false)))⟩]) (.seq (.reg [⟨(some 7), none, (.mov (.t 0))⟩, ⟨(some 8), none, (.call 156 [(.t 7)])⟩, ⟨(some 5), none, (.mov (.t 8))⟩]) (.seq (.reg [⟨(some 9), none, (.mov (.t 1))⟩, ⟨(some 10), none, (.call 156 [(.t 9)])⟩, ⟨(some 6), none, (.mov (.t 10))⟩]) (.seq (.reg [⟨(some 11), none, (.mov (.t 5))⟩, ⟨(some 12), none, (.mov (.t 6))⟩, ⟨(some 13), none, (.bin false .lss (.t 11) (.t 12))⟩, ⟨(some 14), none, (.mov (.t 13))⟩, ⟨(some 15), (some (14, false)), (.mov (.t 5))⟩, ⟨(some 16), (some (14, false)), (.mov (.t 6))⟩, ⟨(some 17), (some (14, false)), (.bin false .eql (.t 15) (.t 16))⟩, ⟨(some 18), (some (14, false)), (.mov (.t 17))⟩, ⟨(some 19), (some (18, true)), (.mov (.t 0))⟩, ⟨(some 20), (some (18, true)), (.mov (.t 1))⟩, ⟨(some 21), (some (18, true)), (.bin false .lss (.t 19) (.t 20))⟩, ⟨(some 22), (some (14, false)), (.pick (.t 18) (.t 21) (.c (.bool false)))⟩, ⟨(some 23), none, (.pick (.t 14) (.c (.bool true)) (.t 22))⟩, ⟨(some 4), none, (.mov (.t 23))⟩]) .ret))))
theorem code_s_l2Before : fnCode Try.prog [] 140 = some (24, sc_s_l2Before, [(4, none)]) := by kernel_rfl
noncomputable def F_s_l2Before : List V → Option V := F2 dI dI fun a b => @ite _ (a < 9223372036854775808 ∧ b < 9223372036854775808) (Classical.propDecidable _) (some (.bool (before a b))) none
theorem fn_s_l2Before : FnOk Try.prog 140 F_s_l2Before := by
  have env := (envNil_ok (P := Try.prog)).add fn_s_l2Size
  refine fn_ok code_s_l2Before mixed env ?_
  intro args r h hb
  obtain ⟨_, _, a, b, rfl, h1, h2, h4⟩ := F2_inv h
  cases dI_inv h1
  cases dI_inv h2
  simp only [Option.ite_none_right_eq_some, Option.some.injEq] at h4
  obtain ⟨⟨ha, hb⟩, rfl⟩ := h4
  refine ⟨by simp, fun w0 U0 L0 N0 => ?_⟩
  simp -implicitDefEqProofs [sc_s_l2Before, F_s_l2Size, before, ha, hb]
  refine ⟨fun h => ⟨fun h2 => ?_, fun h2 => ⟨h, fun h3 => absurd h3 h2⟩⟩, fun h => Or.inl h⟩
  simp [h2]
end Go.Proofs.Ytmemomfffehnkaa
namespace Go.Proofs.Ytmemomfffehnkaa
open Go Go.RowKit
set_option maxRecDepth 1000000
set_option linter.unusedSimpArgs false
set_option linter.unusedVariables false
set_option maxHeartbeats 1000000
def sc_s_IsComplex_L2 : SC := (.seq (.seq (.reg [⟨(some 40), none, (.mov (.t 4))⟩, ⟨(some 41), none, (.mov (.t 3))⟩, ⟨(some 42), none, (.bin false .lss (.t 40) (.t 41))⟩]) (.cond (.t 42) .skip (.exit 2))) (.seq (.block 3 (.seq (.dreg [⟨⟨(some 45), none, (.fad 1 (.t 1))⟩, false, false⟩, ⟨⟨(some 46), none, (.ld none .nil (.t 45))⟩, false, false⟩, ⟨⟨(some 47), none, (.mov (.t 4))⟩, false, false⟩, ⟨⟨(some 48), none, (.idx 1 (.t 46) (.t 47))⟩, false, false⟩, ⟨⟨(some 49), none, (.ld none (.int .i64 0) (.t 48))⟩, false, false⟩, ⟨⟨(some 50), none, (.fad 1 (.t 1))⟩, false, false⟩, ⟨⟨(some 51), none, (.ld none .nil (.t 50))⟩, false, false⟩, ⟨⟨(some 52), none, (.mov (.t 3))⟩, false, false⟩, ⟨⟨(some 53), none, (.idx 1 (.t 51) (.t 52))⟩, false, false⟩, ⟨⟨(some 54), none, (.ld none (.int .i64 0) (.t 53))⟩, false, false⟩, ⟨⟨(some 55), none, (.bin false .and (.t 49) (.t 54))⟩, false, false⟩, ⟨⟨(some 56), none, (.fad 1 (.t 1))⟩, false, false⟩, ⟨⟨(some 57), none, (.ld none .nil (.t 56))⟩, false, false⟩, ⟨⟨(some 58), none, (.mov (.t 4))⟩, false, false⟩, ⟨⟨(some 59), none, (.idx 1 (.t 57) (.t 58))⟩, false, false⟩, ⟨⟨(some 60), none, (.ld none (.int .i64 0) (.t 59))⟩, false, false⟩, ⟨⟨(some 61), none, (.bin false .eql (.t 55) (.t 60))⟩, false, false⟩]) (.cond (.t 61) (.seq (.reg [⟨(some 2), none, (.mov (.c (.bool false)))⟩]) .ret) .skip))) (.reg [⟨(some 43), none, (.mov (.t 4))⟩, ⟨(some 44), none, (.bin false .add (.t 43) (.c (.int .i64 1)))⟩, ⟨(some 4), none, (.mov (.t 44))⟩])))
def sc_s_IsComplex_L0 : SC := (.seq (.seq (.reg [⟨(some 5), none, (.mov (.t 3))⟩, ⟨(some 6), none, (.fad 1 (.t 1))⟩, ⟨(some 7), none, (.ld none .nil (.t 6))⟩, ⟨(some 8), none, (.len (.t 7))⟩, ⟨(some 9), none, (.bin false .lss (.t 5) (.t 8))⟩]) (.cond (.t 9) .skip (.exit 0))) (.seq (.block 1 (.seq (.seq (.dreg [⟨⟨(some 12), none, (.fad 0 (.t 1))⟩, false, false⟩, ⟨⟨(some 13), none, (.ld none (.int .i64 0) (.t 12))⟩, false, false⟩, ⟨⟨(some 14), none, (.fad 1 (.t 1))⟩, false, false⟩, ⟨⟨(some 15), none, (.ld none .nil (.t 14))⟩, false, false⟩, ⟨⟨(some 16), none, (.mov (.t 3))⟩, false, false⟩, ⟨⟨(some 17), none, (.idx 1 (.t 15) (.t 16))⟩, false, false⟩, ⟨⟨(some 18), none, (.ld none (.int .i64 0) (.t 17))⟩, false, false⟩, ⟨⟨(some 19), none, (.call 139 [(.t 13), (.t 18)])⟩, false, false⟩, ⟨⟨(some 20), none, (.un .not (.t 19))⟩, false, false⟩, ⟨⟨(some 21), none, (.mov (.t 20))⟩, false, false⟩, ⟨⟨(some 22), (some (21, false)), (.mov (.t 3))⟩, false, false⟩, ⟨⟨(some 23), (some (21, false)), (.bin false .gtr (.t 22) (.c (.int .i64 0)))⟩, false, false⟩, ⟨⟨(some 24), (some (21, false)), (.mov (.t 23))⟩, false, false⟩, ⟨⟨(some 25), (some (24, true)), (.fad 1 (.t 1))⟩, false, false⟩, ⟨⟨(some 26), (some (24, true)), (.ld none .nil (.t 25))⟩, false, false⟩, ⟨⟨(some 27), (some (24, true)), (.mov (.t 3))⟩, false, false⟩, ⟨⟨(some 28), (some (24, true)), (.bin false .sub (.t 27) (.c (.int .i64 1)))⟩, false, false⟩, ⟨⟨(some 29), (some (24, true)), (.idx 1 (.t 26) (.t 28))⟩, false, false⟩, ⟨⟨(some 30), (some (24, true)), (.ld none (.int .i64 0) (.t 29))⟩, false, false⟩, ⟨⟨(some 31), (some (24, true)), (.fad 1 (.t 1))⟩, false, false⟩, ⟨⟨(some 32), (some (24, true)), (.ld none .nil (.t 31))⟩, false, false⟩, ⟨⟨(some 33), (some (24, true)), (.mov (.t 3))⟩, false, false⟩, ⟨⟨(some 34), (some (24, true)), (.idx 1 (.t 32) (.t 33))⟩, false, false⟩, ⟨⟨(some 35), (some (24, true)), (.ld none (.int .i64 0) (.t 34))⟩, false, false⟩, ⟨⟨(some 36), (some (24, true)), (.call 140 [(.t 30), (.t 35)])⟩, false, false⟩, ⟨⟨(some 37), (some (24, true)), (.un .not (.t 36))⟩, false, false⟩, ⟨⟨(some 38), (some (21, false)), (.pick (.t 24) (.t 37) (.c (.bool false)))⟩, false, false⟩, ⟨⟨(some 39), none, (.pick (.t 21) (.c (.bool true)) (.t 38))⟩, false, false⟩]) (.cond (.t 39) (.seq (.reg [⟨(some 2), none, (.mov (.c (.bool false)))⟩]) .ret) .skip)) (.seq (.reg [⟨(some 4), none, (.mov (.c (.int .i64 0)))⟩]) (.block 2 (.loop sc_s_IsComplex_L2))))) (.reg [⟨(some 10), none, (.mov (.t 3))⟩, ⟨(some 11), none, (.bin false .add (.t 10) (.c (.int .i64 1)))⟩, ⟨(some 3), none, (.mov (.t 11))⟩])))
def sc_s_IsComplex : SC := (.seq (.reg [⟨(some 1), none, (.box (.t 0))⟩, ⟨(some 2), none, (.mov (.c (.bool false)))⟩]) (.seq (.seq (.reg [⟨(some 3), none, (.mov (.c (.int .i64 0)))⟩]) (.block 0 (.loop sc_s_IsComplex_L0))) (.seq (.reg [⟨(some 62), none, (.fad 0 (.t 1))⟩, ⟨(some 63), none, (.ld none (.int .i64 0) (.t 62))⟩, ⟨(some 64), none, (.call 132 [(.t 63), (.c (.int .i64 1)), (.c (.int .i64 6))])⟩, ⟨(some 2), none, (.mov (.t 64))⟩]) .ret)))
theorem code_s_IsComplex : fnCode Try.prog [] 24 = some (65, sc_s_IsComplex, [(2, none)]) := by kernel_rfl
/-- What is asked of the facet at place k. -/
def facetOk (n : Int) (l : List Int) (k : Nat) : Prop :=
  isSet n (at0 l k) = true ∧ (0 < k → before (at0 l (k - 1)) (at0 l k) = true) ∧ ∀ i, i < k → bitop .and .i64 (at0 l i) (at0 l k) ≠ at0 l i
def cplx (n : Int) (l : List Int) : Prop := 1 ≤ n ∧ n ≤ 6 ∧ ∀ k, k < l.length → facetOk n l k
open Classical in
noncomputable def cplxB (n : Int) (l : List Int) : Bool := decide (cplx n l)
theorem cplxB_iff {n : Int} {l : List Int} : cplxB n l = true ↔ cplx n l := by simp [cplxB]
theorem cplxB_not {n : Int} {l : List Int} {k : Nat} (hk : k < l.length) (h : ¬ facetOk n l k) : cplxB n l = false := by
  simp only [cplxB, decide_eq_false_iff_not]
  exact fun hc => h (hc.2.2 k hk)
noncomputable def F_s_IsComplex : List V → Option V := F1 dC fun c => some (.bool (cplxB c.1 c.2))
theorem fn_s_IsComplex : FnOk Try.prog 24 F_s_IsComplex := by
  have env := (((envNil_ok (P := Try.prog)).add fn_s_l1In).add fn_s_l2Before).add fn_s_IsSet
  refine fn_ok code_s_IsComplex mixed env ?_
  intro args r h hb
  obtain ⟨_, ⟨n, l⟩, rfl, h1, h4⟩ := F1_inv h
  cases dC_inv h1
  cases h4
  have hl := bnd_eC (hb _ (List.mem_cons_self ..))
  simp only at hl
  generalize hv : cplxB n l = v
  refine ⟨by simp, fun w0 U0 L0 N0 => ?_⟩
  have inner : ∀ (k : Nat) (Q : Post), k < l.length →
      ((∀ i, i < k → bitop .and .i64 (at0 l i) (at0 l k) ≠ at0 l i) → Q (.exit 2) [(1, .pt 0 0), (3, .int .i64 (k : Int))] ([(0, [.int .i64 n, .list 1 (ints l)])], 1)) →
      ((¬ ∀ i, i < k → bitop .and .i64 (at0 l i) (at0 l k) ≠ at0 l i) → Q .ret [(2, .bool false)] ([(0, [.int .i64 n, .list 1 (ints l)])], 1)) →
      LoopI ⟨Try.prog, w0, U0, L0, N0, 0, 65⟩ [] sc_s_IsComplex_L2 Q [(4, .int .i64 0), (1, .pt 0 0), (3, .int .i64 (k : Int))] ([(0, [.int .i64 n, .list 1 (ints l)])], 1) := by
    intro k Q hk q1 q2
    refine loopQ env mixed (fun i : Nat => [(4, .int .i64 (i : Int)), (1, .pt 0 0), (3, .int .i64 (k : Int))]) (fun _ => ([(0, [.int .i64 n, .list 1 (ints l)])], 1)) (fun i => i ≤ k ∧ ∀ j, j < i → bitop .and .i64 (at0 l j) (at0 l k) ≠ at0 l j) (fun i => k - i) 0 (by simp) (SubI.slots rfl (by simp)) ?_
    rintro i ⟨hi, hn⟩
    simp -implicitDefEqProofs [sc_s_IsComplex_L2]
    have hsub : ∀ (L : Tm) (h : Nat), i < k → bitop .and .i64 (at0 l i) (at0 l k) = at0 l i → subE L [(2, .bool false)] → SubQ 0 Q .ret L ([(0, [.int .i64 n, .list 1 (ints l)])], 1) := 
      fun L _ h e hs => SubQ.of (SubI.slots rfl hs) (q2 fun hf => hf i h e)
    repeat' (first | omega | apply And.intro | intro _)
    · exact hsub _ 0 ‹_› ‹_› (by simp)
    · refine Again.of (i + 1) ⟨by omega, fun j hj => ?_⟩ (by omega) (SubI.slots rfl (by simp (disch := omega) [wrapI]))
      rcases Nat.lt_succ_iff_lt_or_eq.1 hj with h1 | rfl
      · exact hn j h1
      · assumption
    · have : i = k := by omega
      subst this
      exact SubQ.of (SubI.slots rfl (by simp)) (q1 hn)
  simp -implicitDefEqProofs [sc_s_IsComplex]
  refine loopI env mixed (fun k : Nat => [(1, .pt 0 0), (3, .int .i64 (k : Int))]) (fun _ => ([(0, [.int .i64 n, .list 1 (ints l)])], 1)) (fun k => k ≤ l.length ∧ ∀ j, j < k → facetOk n l j) (fun k => l.length - k) 0 (by simp) (SubI.slots rfl (by simp)) ?_
  rintro k ⟨hk, hn⟩
  have step : ∀ (Q : Post) (L : Tm), k < l.length → isSet n (at0 l k) = true → (0 < k → before (at0 l (k - 1)) (at0 l k) = true) → subE L [(4, .int .i64 0), (1, .pt 0 0), (3, .int .i64 (k : Int))] →
      (facetOk n l k → Q (.exit 2) [(1, .pt 0 0), (3, .int .i64 (k : Int))] ([(0, [.int .i64 n, .list 1 (ints l)])], 1)) → (v = false → Q .ret [(2, .bool false)] ([(0, [.int .i64 n, .list 1 (ints l)])], 1)) →
      LoopI ⟨Try.prog, w0, U0, L0, N0, 0, 65⟩ [] sc_s_IsComplex_L2 Q L ([(0, [.int .i64 n, .list 1 (ints l)])], 1) :=
    fun Q L h1 h2 h3 hs q1 q2 => (inner k Q h1 (fun h => q1 ⟨h2, h3, h⟩) (fun h => q2 (hv ▸ cplxB_not h1 fun hf => h hf.2.2))).sub (SubI.slots rfl hs)
  have again : facetOk n l k → k < l.length → ((k + 1 : Nat) ≤ l.length ∧ ∀ (j : Nat), j < k + 1 → facetOk n l j) := by
    intro hf h
    refine ⟨by omega, fun j hj => ?_⟩
    rcases Nat.lt_succ_iff_lt_or_eq.1 hj with h1 | rfl
    · exact hn j h1
    · exact hf
  by_cases hs : k < l.length ∧ isSet n (at0 l k) = true
  · obtain ⟨hs1, hs2⟩ := hs
    have r1 : at0 l k < 9223372036854775808 := by have := isSet_pos hs2; omega
    have r2 : at0 l (IntKind.i64.wrap ((k : Int) - 1)).toNat < 9223372036854775808 := by
      rw [wrapI _ (by omega) (by omega)]
      rcases Nat.eq_zero_or_pos k with rfl | h0
      · exact r1
      · rw [show ((k : Int) - 1).toNat = k - 1 by omega]
        have := isSet_pos (hn (k - 1) (by omega)).1
        omega
    simp -implicitDefEqProofs [sc_s_IsComplex_L0, F_s_IsSet, F_s_l2Before, F_s_l1In, r1, r2, hs1, hs2]
    by_cases h0 : 0 < k
    · rw [wrapI _ (by omega) (by omega), show ((k : Int) - 1).toNat = k - 1 by omega]
      repeat' (first | omega | apply And.intro | intro _)
      · exact hv ▸ cplxB_not hs1 fun hf => by simp_all [hf.2.1 h0]
      · refine step _ _ hs1 hs2 (fun _ => by assumption) (by simp) (fun hf => ?_) (fun e => ?_)
        · simp -implicitDefEqProofs
          exact Again.of (k + 1) (again hf hs1) (by omega) (SubI.slots rfl (by simp (disch := omega) [wrapI]))
        · simp [e]
    · repeat' (first | omega | apply And.intro | intro _)
      refine step _ _ hs1 hs2 (fun h => absurd h h0) (by simp) (fun hf => ?_) (fun e => ?_)
      · simp -implicitDefEqProofs
        exact Again.of (k + 1) (again hf hs1) (by omega) (SubI.slots rfl (by simp (disch := omega) [wrapI]))
      · simp [e]
  · by_cases hs1 : k < l.length
    · have hs2 : isSet n (at0 l k) = false := by
        rw [← Bool.not_eq_true]
        exact fun h => hs ⟨hs1, h⟩
      simp -implicitDefEqProofs [sc_s_IsComplex_L0, F_s_IsSet, F_s_l2Before, F_s_l1In, hs1, hs2]
      refine ⟨by omega, ?_⟩
      exact hv ▸ cplxB_not hs1 fun hf => by simp_all [hf.1]
    · simp -implicitDefEqProofs [sc_s_IsComplex_L0, F_s_IsSet, F_s_l2Before, F_s_l1In, hs1]
      have : k = l.length := by omega
      subst this
      rw [← hv, Bool.eq_iff_iff, cplxB_iff]
      constructor
      · intro h
        simp only [Bool.and_eq_true, decide_eq_true_eq] at h
        exact ⟨h.1, h.2, hn⟩
      · intro h
        simp [h.1, h.2.1]
def sc_math_bits_OnesCount64 : SC := (.seq (.reg [⟨(some 2), none, (.mov (.c (.int .i64 0)))⟩]) (.seq (.reg [⟨(some 3), none, (.mov (.t 0))⟩, ⟨(some 4), none, (.bin false .shr (.t 3) (.c (.int .u64 1)))⟩, ⟨(some 5), none, (.bin false .and (.t 4) (.c (.int .u64 6148914691236517205)))⟩, ⟨(some 6), none, (.mov (.t 0))⟩, ⟨(some 7), none, (.bin false .and (.t 6) (.c (.int .u64 6148914691236517205)))⟩, ⟨(some 8), none, (.bin false .add (.t 5) (.t 7))⟩, ⟨(some 0), none, (.mov (.t 8))⟩]) (.seq (.reg [⟨(some 9), none, (.mov (.t 0))⟩, ⟨(some 10), none, (.bin false .shr (.t 9) (.c (.int .u64 2)))⟩, ⟨(some 11), none, (.bin false .and (.t 10) (.c (.int .u64 3689348814741910323)))⟩, ⟨(some 12), none, (.mov (.t 0))⟩, ⟨(some 13), none, (.bin false .and (.t 12) (.c (.int .u64 3689348814741910323)))⟩, ⟨(some 14), none, (.bin false .add (.t 11) (.t 13))⟩, ⟨(some 0), none, (.mov (.t 14))⟩]) (.seq (.reg [⟨(some 15), none, (.mov (.t 0))⟩, ⟨(some 16), none, (.bin false .shr (.t 15) (.c (.int .u64 4)))⟩, ⟨(some 17), none, (.mov (.t 0))⟩, ⟨(some 18), none, (.bin false .add (.t 16) (.t 17))⟩, ⟨(some 19), none, (.bin false .and (.t 18) (.c (.int .u64 1085102592571150095)))⟩, ⟨(some 0), none, (.mov (.t 19))⟩]) (.seq (.reg [⟨(some 20), none, (.mov (.t 0))⟩, ⟨(some 21), none, (.mov (.t 0))⟩, ⟨(some 22), none, (.bin false .shr (.t 21) (.c (.int .u64 8)))⟩, ⟨(some 23), none, (.bin false .add (.t 20) (.t 22))⟩, ⟨(some 0), none, (.mov (.t 23))⟩]) (.seq (.reg [⟨(some 24), none, (.mov (.t 0))⟩, ⟨(some 25), none, (.mov (.t 0))⟩, ⟨(some 26), none, (.bin false .shr (.t 25) (.c (.int .u64 16)))⟩, ⟨(some 27), none, (.bin false .add (.t 24) (.t 26))⟩, ⟨(some 0), none, (.mov (.t 27))⟩]) (.seq (.reg [⟨(some 28), none, (.mov (.t 0))⟩, ⟨(some 29), none, (.mov (.t 0))⟩, ⟨(some 30), none, (.bin false .shr (.t 29) (.c (.int .u64 32)))⟩, ⟨(some 31), none, (.bin false .add (.t 28) (.t 30))⟩, ⟨(some 0), none, (.mov (.t 31))⟩]) (.seq (.reg [⟨(some 32), none, (.mov (.t 0))⟩, ⟨(some 33), none, (.conv .i64 (.t 32))⟩, ⟨(some 34), none, (.bin false .and (.t 33) (.c (.int .i64 127)))⟩, ⟨(some 2), none, (.mov (.t 34))⟩]) .ret))))))))
theorem code_math_bits_OnesCount64 : fnCode Try.prog [] 241 = some (35, sc_math_bits_OnesCount64, [(2, none)]) := by kernel_rfl
def F_OnesCount64 : List V → Option V
  | [.int .u64 n] => if 0 ≤ n ∧ n < 64 then some (.int .i64 (sz n)) else none
  | _ => none
theorem fn_OnesCount64 : FnOk Try.prog 241 F_OnesCount64 := by
  refine fn_ok code_math_bits_OnesCount64 mixed envNil_ok ?_
  intro args r h hb
  unfold F_OnesCount64 at h
  split at h
  · rename_i n
    simp only [Option.ite_none_right_eq_some, Option.some.injEq] at h
    obtain ⟨⟨h1, h2⟩, rfl⟩ := h
    refine ⟨by simp, fun w0 U0 L0 N0 => ?_⟩
    simp -implicitDefEqProofs [sc_math_bits_OnesCount64]
    clear hb
    obtain ⟨m, rfl⟩ : ∃ m : Nat, n = m := ⟨n.toNat, by omega⟩
    have hm : m < 64 := by omega
    clear h1 h2
    revert m
    decide +kernel
  · simp at h
def sc_math_bits_OnesCount : SC := (.seq (.reg [⟨(some 2), none, (.mov (.c (.int .i64 0)))⟩]) (.seq (.cond (.c (.bool false)) (.seq (.reg [⟨(some 3), none, (.mov (.t 0))⟩, ⟨(some 4), none, (.conv .u32 (.t 3))⟩, ⟨(some 5), none, (.call 240 [(.t 4)])⟩, ⟨(some 2), none, (.mov (.t 5))⟩]) .ret) .skip) (.seq (.reg [⟨(some 6), none, (.mov (.t 0))⟩, ⟨(some 7), none, (.call 241 [(.t 6)])⟩, ⟨(some 2), none, (.mov (.t 7))⟩]) .ret)))
theorem code_math_bits_OnesCount : fnCode Try.prog [] 225 = some (8, sc_math_bits_OnesCount, [(2, none)]) := by kernel_rfl
theorem fn_OnesCount : FnOk Try.prog 225 F_OnesCount64 := by
  have env := (envNil_ok (P := Try.prog)).add fn_OnesCount64
  refine fn_ok code_math_bits_OnesCount mixed env ?_
  intro args r h hb
  unfold F_OnesCount64 at h
  split at h
  · rename_i n
    simp only [Option.ite_none_right_eq_some, Option.some.injEq] at h
    obtain ⟨⟨h1, h2⟩, rfl⟩ := h
    refine ⟨by simp, fun w0 U0 L0 N0 => ?_⟩
    simp -implicitDefEqProofs [sc_math_bits_OnesCount, F_OnesCount64, h1, h2]
  · simp at h
def sc_i_SizeOf : SC := (.seq (.reg [⟨(some 2), none, (.mov (.c (.int .i64 0)))⟩]) (.seq (.seq (.reg [⟨(some 3), none, (.mov (.t 0))⟩, ⟨(some 4), none, (.call 180 [(.c (.int .i64 6)), (.t 3)])⟩, ⟨(some 5), none, (.un .not (.t 4))⟩]) (.cond (.t 5) (.seq (.reg [⟨(some 2), none, (.mov (.c (.int .i64 (-1))))⟩]) .ret) .skip)) (.seq (.reg [⟨(some 6), none, (.mov (.t 0))⟩, ⟨(some 7), none, (.conv .u64 (.t 6))⟩, ⟨(some 8), none, (.call 225 [(.t 7)])⟩, ⟨(some 2), none, (.mov (.t 8))⟩]) .ret)))
theorem code_i_SizeOf : fnCode Try.prog [] 181 = some (9, sc_i_SizeOf, [(2, none)]) := by kernel_rfl
def sizeOf1 (s : Int) : Int := if 0 ≤ s ∧ s < 64 then sz s else -1
theorem sizeOf1_set {s : Int} (h1 : 0 ≤ s) (h2 : s < 64) : sizeOf1 s = sz s := by simp [sizeOf1, h1, h2]
def F_i_SizeOf : List V → Option V := F1 dI fun s => some (.int .i64 (sizeOf1 s))
theorem fn_i_SizeOf : FnOk Try.prog 181 F_i_SizeOf := by
  have env := ((envNil_ok (P := Try.prog)).add fn_OnesCount).add fn_i_IsSet
  refine fn_ok code_i_SizeOf mixed env ?_
  intro args r h hb
  obtain ⟨_, s, rfl, h1, h4⟩ := F1_inv h
  cases dI_inv h1
  cases h4
  refine ⟨by simp, fun w0 U0 L0 N0 => ?_⟩
  by_cases hs : 0 ≤ s ∧ s < 64
  · have e : isSet 6 s = true := by simp [isSet, hs.1, hs.2]
    have e2 : IntKind.u64.wrap s = s := wrapU s hs.1 (by omega)
    simp -implicitDefEqProofs [sc_i_SizeOf, F_i_IsSet, F_OnesCount64, e, e2, hs.1, hs.2, sizeOf1]
  · have e : isSet 6 s = false := by
      rw [← Bool.not_eq_true]
      exact fun h => hs (isSet_pos h)
    simp -implicitDefEqProofs [sc_i_SizeOf, F_i_IsSet, F_OnesCount64, e, sizeOf1, hs]
def sc_i_BeforeSet : SC := (.seq (.reg [⟨(some 4), none, (.mov (.c (.bool false)))⟩]) (.seq (.seq (.reg [⟨(some 5), none, (.mov (.t 0))⟩, ⟨(some 6), none, (.call 180 [(.c (.int .i64 6)), (.t 5)])⟩, ⟨(some 7), none, (.un .not (.t 6))⟩, ⟨(some 8), none, (.mov (.t 7))⟩, ⟨(some 9), (some (8, false)), (.mov (.t 1))⟩, ⟨(some 10), (some (8, false)), (.call 180 [(.c (.int .i64 6)), (.t 9)])⟩, ⟨(some 11), (some (8, false)), (.un .not (.t 10))⟩, ⟨(some 12), none, (.pick (.t 8) (.c (.bool true)) (.t 11))⟩]) (.cond (.t 12) (.seq (.reg [⟨(some 4), none, (.mov (.c (.bool false)))⟩]) .ret) .skip)) (.seq (.seq (.reg [⟨(some 13), none, (.mov (.t 0))⟩, ⟨(some 14), none, (.call 181 [(.t 13)])⟩, ⟨(some 15), none, (.mov (.t 1))⟩, ⟨(some 16), none, (.call 181 [(.t 15)])⟩, ⟨(some 17), none, (.bin false .neq (.t 14) (.t 16))⟩]) (.cond (.t 17) (.seq (.reg [⟨(some 18), none, (.mov (.t 0))⟩, ⟨(some 19), none, (.call 181 [(.t 18)])⟩, ⟨(some 20), none, (.mov (.t 1))⟩, ⟨(some 21), none, (.call 181 [(.t 20)])⟩, ⟨(some 22), none, (.bin false .lss (.t 19) (.t 21))⟩, ⟨(some 4), none, (.mov (.t 22))⟩]) .ret) .skip)) (.seq (.reg [⟨(some 23), none, (.mov (.t 0))⟩, ⟨(some 24), none, (.mov (.t 1))⟩, ⟨(some 25), none, (.bin false .lss (.t 23) (.t 24))⟩, ⟨(some 4), none, (.mov (.t 25))⟩]) .ret))))
theorem code_i_BeforeSet : fnCode Try.prog [] 231 = some (26, sc_i_BeforeSet, [(4, none)]) := by kernel_rfl
def F_i_BeforeSet : List V → Option V := F2 dI dI fun a b => some (.bool (isSet 6 a && isSet 6 b && before a b))
theorem fn_i_BeforeSet : FnOk Try.prog 231 F_i_BeforeSet := by
  have env := ((envNil_ok (P := Try.prog)).add fn_i_SizeOf).add fn_i_IsSet
  refine fn_ok code_i_BeforeSet mixed env ?_
  intro args r h hb
  obtain ⟨_, _, a, b, rfl, h1, h2, h4⟩ := F2_inv h
  cases dI_inv h1
  cases dI_inv h2
  cases h4
  refine ⟨by simp, fun w0 U0 L0 N0 => ?_⟩
  by_cases ha : isSet 6 a = true
  · by_cases hc : isSet 6 b = true
    · have e1 := sizeOf1_set (isSet_pos ha).1 (isSet_pos ha).2
      have e2 := sizeOf1_set (isSet_pos hc).1 (isSet_pos hc).2
      simp -implicitDefEqProofs [sc_i_BeforeSet, F_i_IsSet, F_i_SizeOf, ha, hc, e1, e2, before]
      refine ⟨fun h => ?_, fun h => ?_⟩
      · simp [h]
      · simp [h]
    · simp only [Bool.not_eq_true] at hc
      simp -implicitDefEqProofs [sc_i_BeforeSet, F_i_IsSet, F_i_SizeOf, ha, hc]
  · simp only [Bool.not_eq_true] at ha
    simp -implicitDefEqProofs [sc_i_BeforeSet, F_i_IsSet, F_i_SizeOf, ha]
end Go.Proofs.Ytmemomfffehnkaa
namespace Go.Proofs.Ytmemomfffehnkaa
open Go Go.RowKit
set_option maxRecDepth 1000000
set_option linter.unusedSimpArgs false
set_option linter.unusedVariables false
set_option maxHeartbeats 1000000
def sc_slices_Index_int_int_L0 : SC := (.seq (.reg [⟨(some 9), none, (.bin false .lss (.t 8) (.t 7))⟩]) (.seq (.cond (.t 9) .skip (.exit 0)) (.seq (.block 1 (.seq (.reg [⟨(some 10), none, (.mov (.t 8))⟩, ⟨(some 5), none, (.mov (.t 10))⟩]) (.seq (.reg [⟨(some 11), none, (.mov (.t 1))⟩, ⟨(some 12), none, (.mov (.t 0))⟩, ⟨(some 13), none, (.mov (.t 5))⟩, ⟨(some 14), none, (.idx 1 (.t 12) (.t 13))⟩, ⟨(some 15), none, (.ld none (.int .i64 0) (.t 14))⟩, ⟨(some 16), none, (.bin false .eql (.t 11) (.t 15))⟩]) (.cond (.t 16) (.seq (.reg [⟨(some 17), none, (.mov (.t 5))⟩, ⟨(some 4), none, (.mov (.t 17))⟩]) .ret) .skip)))) (.reg [⟨(some 18), none, (.bin false .add (.t 8) (.c (.int .i64 1)))⟩, ⟨(some 8), none, (.mov (.t 18))⟩]))))
def sc_slices_Index_int_int : SC := (.seq (.reg [⟨(some 4), none, (.mov (.c (.int .i64 0)))⟩]) (.seq (.seq (.reg [⟨(some 6), none, (.mov (.t 0))⟩, ⟨(some 7), none, (.len (.t 6))⟩, ⟨(some 8), none, (.mov (.c (.int .i64 0)))⟩]) (.block 0 (.loop sc_slices_Index_int_int_L0))) (.seq (.reg [⟨(some 4), none, (.mov (.c (.int .i64 (-1))))⟩]) .ret)))
theorem code_slices_Index_int_int : fnCode Try.prog [] 235 = some (19, sc_slices_Index_int_int, [(4, none)]) := by kernel_rfl
def idxN : List Int → Int → Nat
  | [], _ => 0
  | a :: l, x => if a = x then 0 else idxN l x + 1
/-- The first place of a number, -1 if it is not there. -/
def idxOf (l : List Int) (x : Int) : Int := if x ∈ l then (idxN l x : Nat) else -1
theorem idxN_at : ∀ {l : List Int} {x : Int} {k : Nat}, k < l.length → (∀ j, j < k → at0 l j ≠ x) → at0 l k = x → idxN l x = k := by
  intro l
  induction l with
  | nil => intro x k h; simp at h
  | cons a l ih =>
    intro x k hk h e
    cases k with
    | zero => simp [at0] at e; simp [idxN, e]
    | succ k =>
      have h0 : a ≠ x := by have := h 0 (by omega); simpa [at0] using this
      have := ih (x := x) (k := k) (by simpa using hk) (fun j hj => by have := h (j + 1) (by omega); simpa [at0] using this) (by simpa [at0] using e)
      simp [idxN, h0, this]
theorem idxOf_at {l : List Int} {x : Int} {k : Nat} (hk : k < l.length) (h : ∀ j, j < k → at0 l j ≠ x) (e : at0 l k = x) : idxOf l x = k := by
  have hm : x ∈ l := getD_mem_iff.2 ⟨k, hk, e⟩
  simp [idxOf, hm, idxN_at hk h e]
theorem idxOf_not {l : List Int} {x : Int} (h : ∀ j, j < l.length → at0 l j ≠ x) : idxOf l x = -1 := by
  have hm : x ∉ l := fun hm => by
    obtain ⟨j, h1, h2⟩ := getD_mem_iff.1 hm
    exact h j h1 h2
  simp [idxOf, hm]
theorem idxOf_nn {l : List Int} {x : Int} : 0 ≤ idxOf l x ↔ x ∈ l := by
  unfold idxOf
  split <;> simp_all
def F_Index : List V → Option V := F2 dL dI fun l x => some (.int .i64 (idxOf l x))
theorem fn_Index : FnOk Try.prog 235 F_Index := by
  refine fn_ok code_slices_Index_int_int mixed envNil_ok ?_
  intro args r h hb
  obtain ⟨_, _, l, n, rfl, h1, h2, h4⟩ := F2_inv h
  cases dL_inv h1
  cases dI_inv h2
  cases h4
  have hl := bnd_ints (hb _ (List.mem_cons_self ..))
  refine ⟨by simp, fun w0 U0 L0 N0 => ?_⟩
  simp -implicitDefEqProofs [sc_slices_Index_int_int]
  refine loopI envNil_ok mixed (fun k : Nat => [(8, .int .i64 (k : Int)), (7, .int .i64 l.length), (0, .list 1 (ints l)), (1, .int .i64 n)]) (fun _ => ([], 0)) (fun k => k ≤ l.length ∧ ∀ j, j < k → at0 l j ≠ n) (fun k => l.length - k) 0 (by simp) (SubI.slots rfl (by simp)) ?_
  rintro k ⟨hk, hn⟩
  simp -implicitDefEqProofs [sc_slices_Index_int_int_L0]
  refine ⟨fun h => ⟨h, by omega, fun e => (idxOf_at h hn e.symm).symm, fun e => Again.of (k + 1) ⟨by omega, fun j hj => ?_⟩ (by omega) (SubI.slots rfl (by simp (disch := omega) [wrapI]))⟩, fun h => ?_⟩
  · rcases Nat.lt_succ_iff_lt_or_eq.1 hj with h1 | rfl
    · exact hn j h1
    · exact fun h => e h.symm
  · exact (idxOf_not fun j hj => hn j (by omega)).symm
def sc_slices_Contains_int_int : SC := (.seq (.reg [⟨(some 4), none, (.mov (.c (.bool false)))⟩]) (.seq (.reg [⟨(some 5), none, (.mov (.t 0))⟩, ⟨(some 6), none, (.mov (.t 1))⟩, ⟨(some 7), none, (.call 235 [(.t 5), (.t 6)])⟩, ⟨(some 8), none, (.bin false .geq (.t 7) (.c (.int .i64 0)))⟩, ⟨(some 4), none, (.mov (.t 8))⟩]) .ret))
theorem code_slices_Contains_int_int : fnCode Try.prog [] 218 = some (9, sc_slices_Contains_int_int, [(4, none)]) := by kernel_rfl
def F_Contains : List V → Option V := F2 dL dI fun l x => some (.bool (l.contains x))
theorem fn_Contains : FnOk Try.prog 218 F_Contains := by
  have env := (envNil_ok (P := Try.prog)).add fn_Index
  refine fn_ok code_slices_Contains_int_int mixed env ?_
  intro args r h hb
  obtain ⟨_, _, l, n, rfl, h1, h2, h4⟩ := F2_inv h
  cases dL_inv h1
  cases dI_inv h2
  cases h4
  refine ⟨by simp, fun w0 U0 L0 N0 => ?_⟩
  simp -implicitDefEqProofs [sc_slices_Contains_int_int, F_Index, idxOf_nn]
end Go.Proofs.Ytmemomfffehnkaa
namespace Go.Proofs.Ytmemomfffehnkaa
open Go Go.RowKit
set_option maxRecDepth 1000000
set_option linter.unusedSimpArgs false
set_option linter.unusedVariables false
set_option maxHeartbeats 1000000
def sc_i_isAntichain_L4 : SC := (.seq (.reg [⟨(some 54), none, (.bin false .lss (.t 53) (.t 52))⟩]) (.seq (.cond (.t 54) .skip (.exit 4)) (.seq (.block 5 (.seq (.reg [⟨(some 55), none, (.idx 1 (.t 51) (.t 53))⟩, ⟨(some 56), none, (.ld none (.int .i64 0) (.t 55))⟩, ⟨(some 10), none, (.mov (.t 56))⟩]) (.seq (.reg [⟨(some 57), none, (.mov (.t 8))⟩, ⟨(some 58), none, (.mov (.t 10))⟩, ⟨(some 59), none, (.bin false .andNot (.t 57) (.t 58))⟩, ⟨(some 60), none, (.bin false .eql (.t 59) (.c (.int .i64 0)))⟩]) (.cond (.t 60) (.seq (.reg [⟨(some 4), none, (.mov (.c (.bool false)))⟩]) .ret) .skip)))) (.reg [⟨(some 61), none, (.bin false .add (.t 53) (.c (.int .i64 1)))⟩, ⟨(some 53), none, (.mov (.t 61))⟩]))))
def sc_i_isAntichain_L2 : SC := (.seq (.reg [⟨(some 44), none, (.bin false .lss (.t 43) (.t 42))⟩]) (.seq (.cond (.t 44) .skip (.exit 2)) (.seq (.block 3 (.seq (.reg [⟨(some 45), none, (.mov (.t 43))⟩, ⟨(some 46), none, (.idx 1 (.t 41) (.t 43))⟩, ⟨(some 47), none, (.ld none (.int .i64 0) (.t 46))⟩, ⟨(some 7), none, (.mov (.t 45))⟩, ⟨(some 8), none, (.mov (.t 47))⟩]) (.seq (.reg [⟨(some 48), none, (.mov (.t 1))⟩, ⟨(some 49), none, (.mov (.t 7))⟩, ⟨(some 50), none, (.bin false .add (.t 49) (.c (.int .i64 1)))⟩, ⟨(some 51), none, (.sli 1 (.t 48) (some (.t 50)) none none)⟩, ⟨(some 52), none, (.len (.t 51))⟩, ⟨(some 53), none, (.mov (.c (.int .i64 0)))⟩]) (.block 4 (.loop sc_i_isAntichain_L4))))) (.reg [⟨(some 62), none, (.bin false .add (.t 43) (.c (.int .i64 1)))⟩, ⟨(some 43), none, (.mov (.t 62))⟩]))))
def sc_i_isAntichain_L0 : SC := (.seq (.reg [⟨(some 20), none, (.bin false .lss (.t 19) (.t 18))⟩]) (.seq (.cond (.t 20) .skip (.exit 0)) (.seq (.block 1 (.seq (.reg [⟨(some 21), none, (.mov (.t 19))⟩, ⟨(some 22), none, (.idx 1 (.t 17) (.t 19))⟩, ⟨(some 23), none, (.ld none (.int .i64 0) (.t 22))⟩, ⟨(some 5), none, (.mov (.t 21))⟩, ⟨(some 6), none, (.mov (.t 23))⟩]) (.seq (.seq (.reg [⟨(some 24), none, (.mov (.t 0))⟩, ⟨(some 25), none, (.mov (.t 6))⟩, ⟨(some 26), none, (.call 180 [(.t 24), (.t 25)])⟩, ⟨(some 27), none, (.un .not (.t 26))⟩]) (.cond (.t 27) (.seq (.reg [⟨(some 4), none, (.mov (.c (.bool false)))⟩]) .ret) .skip)) (.seq (.reg [⟨(some 28), none, (.mov (.t 5))⟩, ⟨(some 29), none, (.bin false .gtr (.t 28) (.c (.int .i64 0)))⟩, ⟨(some 30), none, (.mov (.t 29))⟩, ⟨(some 31), (some (30, true)), (.mov (.t 1))⟩, ⟨(some 32), (some (30, true)), (.mov (.t 5))⟩, ⟨(some 33), (some (30, true)), (.bin false .sub (.t 32) (.c (.int .i64 1)))⟩, ⟨(some 34), (some (30, true)), (.idx 1 (.t 31) (.t 33))⟩, ⟨(some 35), (some (30, true)), (.ld none (.int .i64 0) (.t 34))⟩, ⟨(some 36), (some (30, true)), (.mov (.t 6))⟩, ⟨(some 37), (some (30, true)), (.call 231 [(.t 35), (.t 36)])⟩, ⟨(some 38), (some (30, true)), (.un .not (.t 37))⟩, ⟨(some 39), none, (.pick (.t 30) (.t 38) (.c (.bool false)))⟩]) (.cond (.t 39) (.seq (.reg [⟨(some 4), none, (.mov (.c (.bool false)))⟩]) .ret) .skip))))) (.reg [⟨(some 40), none, (.bin false .add (.t 19) (.c (.int .i64 1)))⟩, ⟨(some 19), none, (.mov (.t 40))⟩]))))
def sc_i_isAntichain : SC := (.seq (.reg [⟨(some 4), none, (.mov (.c (.bool false)))⟩]) (.seq (.seq (.reg [⟨(some 11), none, (.mov (.t 0))⟩, ⟨(some 12), none, (.bin false .lss (.t 11) (.c (.int .i64 1)))⟩, ⟨(some 13), none, (.mov (.t 12))⟩, ⟨(some 14), (some (13, false)), (.mov (.t 0))⟩, ⟨(some 15), (some (13, false)), (.bin false .gtr (.t 14) (.c (.int .i64 6)))⟩, ⟨(some 16), none, (.pick (.t 13) (.c (.bool true)) (.t 15))⟩]) (.cond (.t 16) (.seq (.reg [⟨(some 4), none, (.mov (.c (.bool false)))⟩]) .ret) .skip)) (.seq (.seq (.reg [⟨(some 17), none, (.mov (.t 1))⟩, ⟨(some 18), none, (.len (.t 17))⟩, ⟨(some 19), none, (.mov (.c (.int .i64 0)))⟩]) (.block 0 (.loop sc_i_isAntichain_L0))) (.seq (.seq (.reg [⟨(some 41), none, (.mov (.t 1))⟩, ⟨(some 42), none, (.len (.t 41))⟩, ⟨(some 43), none, (.mov (.c (.int .i64 0)))⟩]) (.block 2 (.loop sc_i_isAntichain_L2))) (.seq (.reg [⟨(some 4), none, (.mov (.c (.bool true)))⟩]) .ret)))))
theorem code_i_isAntichain : fnCode Try.prog [] 213 = some (63, sc_i_isAntichain, [(4, none)]) := by kernel_rfl
theorem andNot_zero {a b : Int} (ha : 0 ≤ a ∧ a < 64) (hb : 0 ≤ b ∧ b < 64) : bitop .andNot .i64 a b = 0 ↔ bitop .and .i64 a b = a := by
  have key : ∀ x, x < 64 → ∀ y, y < 64 → (bitop .andNot .i64 ((x : Nat) : Int) ((y : Nat) : Int) = 0 ↔ bitop .and .i64 ((x : Nat) : Int) ((y : Nat) : Int) = (x : Int)) := by decide +kernel
  have := key a.toNat (by omega) b.toNat (by omega)
  rwa [Int.toNat_of_nonneg ha.1, Int.toNat_of_nonneg hb.1] at this
theorem isSet_six {n s : Int} (h : isSet n s = true) : isSet 6 s = true := by
  have h2 := isSet_pos h
  simp [isSet, h2.1, h2.2]
/-- The first part of what is asked of a facet. -/
def basicOk (n : Int) (l : List Int) (k : Nat) : Prop := isSet n (at0 l k) = true ∧ (0 < k → before (at0 l (k - 1)) (at0 l k) = true)
theorem cplx_of {n : Int} {l : List Int} (h1 : 1 ≤ n) (h2 : n ≤ 6) (hb : ∀ k, k < l.length → basicOk n l k) (ha : ∀ i, i < l.length → ∀ j, i < j → j < l.length → bitop .andNot .i64 (at0 l i) (at0 l j) ≠ 0) : cplxB n l = true := by
  rw [cplxB_iff]
  refine ⟨h1, h2, fun k hk => ⟨(hb k hk).1, (hb k hk).2, fun i hi => ?_⟩⟩
  rw [Ne, ← andNot_zero (isSet_pos (hb i (by omega)).1) (isSet_pos (hb k hk).1)]
  exact ha i (by omega) k hi hk
theorem cplx_not1 {n : Int} {l : List Int} {k : Nat} (hk : k < l.length) (h : ¬ basicOk n l k) : cplxB n l = false := cplxB_not hk fun hf => h ⟨hf.1, hf.2.1⟩
theorem cplx_not2 {n : Int} {l : List Int} (hb : ∀ k, k < l.length → basicOk n l k) {i j : Nat} (hi : i < j) (hj : j < l.length) (h : bitop .andNot .i64 (at0 l i) (at0 l j) = 0) : cplxB n l = false := by
  refine cplxB_not hj fun hf => hf.2.2 i hi ?_
  exact (andNot_zero (isSet_pos (hb i (by omega)).1) (isSet_pos (hb j hj).1)).1 h
noncomputable def F_i_isAntichain : List V → Option V := F2 dI dL fun n l => some (.bool (cplxB n l))
theorem fn_i_isAntichain : FnOk Try.prog 213 F_i_isAntichain := by
  have env := ((envNil_ok (P := Try.prog)).add fn_i_BeforeSet).add fn_i_IsSet
  refine fn_ok code_i_isAntichain mixed env ?_
  intro args r h hb
  obtain ⟨_, _, n, l, rfl, h1, h2, h4⟩ := F2_inv h
  cases dI_inv h1
  cases dL_inv h2
  cases h4
  have hl := bnd_ints (hb _ (List.mem_cons_of_mem _ (List.mem_cons_self ..)))
  refine ⟨by simp, fun w0 U0 L0 N0 => ?_⟩
  generalize hv : cplxB n l = v
  by_cases hn : 1 ≤ n ∧ n ≤ 6
  · have inner : ∀ (i : Nat) (Q : Post) (L : Tm), (∀ k, k < l.length → basicOk n l k) → i < l.length → subE L [(53, .int .i64 0), (52, .int .i64 ((l.length - (i + 1) : Nat) : Int)), (51, .list 1 (ints (l.drop (i + 1)))), (8, .int .i64 (at0 l i)), (1, .list 1 (ints l)), (41, .list 1 (ints l)), (42, .int .i64 l.length), (43, .int .i64 (i : Int))] →
        ((∀ j, i < j → j < l.length → bitop .andNot .i64 (at0 l i) (at0 l j) ≠ 0) → Q (.exit 4) [(1, .list 1 (ints l)), (41, .list 1 (ints l)), (42, .int .i64 l.length), (43, .int .i64 (i : Int))] ([], 0)) →
        (v = false → Q .ret [(4, .bool false)] ([], 0)) →
        LoopI ⟨Try.prog, w0, U0, L0, N0, 0, 63⟩ [] sc_i_isAntichain_L4 Q L ([], 0) := by
      intro i Q L hall hi hs q1 q2
      refine loopQ env mixed (fun j : Nat => [(53, .int .i64 (j : Int)), (52, .int .i64 ((l.length - (i + 1) : Nat) : Int)), (51, .list 1 (ints (l.drop (i + 1)))), (8, .int .i64 (at0 l i)), (1, .list 1 (ints l)), (41, .list 1 (ints l)), (42, .int .i64 l.length), (43, .int .i64 (i : Int))]) (fun _ => ([], 0))
        (fun j => j ≤ l.length - (i + 1) ∧ ∀ t, t < j → bitop .andNot .i64 (at0 l i) (at0 l (i + 1 + t)) ≠ 0) (fun j => l.length - (i + 1) - j) 0 (by simp) (SubI.slots rfl hs) ?_
      rintro j ⟨hj, hnot⟩
      simp -implicitDefEqProofs [sc_i_isAntichain_L4]
      repeat' (first | omega | apply And.intro | intro _)
      · refine SubQ.of (SubI.slots rfl (by simp)) (q2 ?_)
        exact hv ▸ cplx_not2 hall (i := i) (j := i + 1 + j) (by omega) (by omega) (by assumption)
      · refine Again.of (j + 1) ⟨by omega, fun t ht => ?_⟩ (by omega) (SubI.slots rfl (by simp (disch := omega) [wrapI]))
        rcases Nat.lt_succ_iff_lt_or_eq.1 ht with h1 | rfl
        · exact hnot t h1
        · assumption
      · refine SubQ.of (SubI.slots rfl (by simp)) (q1 fun t h1 h2 => ?_)
        have := hnot (t - (i + 1)) (by omega)
        rwa [show i + 1 + (t - (i + 1)) = t by omega] at this
    have second : ∀ (Q : Post) (L : Tm), (∀ k, k < l.length → basicOk n l k) → subE L [(1, .list 1 (ints l)), (41, .list 1 (ints l)), (42, .int .i64 l.length), (43, .int .i64 0)] → (v = true → Q (.exit 2) [] ([], 0)) → (v = false → Q .ret [(4, .bool false)] ([], 0)) →
        LoopI ⟨Try.prog, w0, U0, L0, N0, 0, 63⟩ [] sc_i_isAntichain_L2 Q L ([], 0) := by
      intro Q L hall hs q1 q2
      refine loopQ env mixed (fun i : Nat => [(1, .list 1 (ints l)), (41, .list 1 (ints l)), (42, .int .i64 l.length), (43, .int .i64 (i : Int))]) (fun _ => ([], 0))
        (fun i => i ≤ l.length ∧ ∀ t, t < i → ∀ j, t < j → j < l.length → bitop .andNot .i64 (at0 l t) (at0 l j) ≠ 0) (fun i => l.length - i) 0 (by simp) (SubI.slots rfl hs) ?_
      rintro i ⟨hi, hnot⟩
      by_cases hlt : i < l.length
      · have hw : IntKind.i64.wrap ((i : Int) + 1) = ((i + 1 : Nat) : Int) := by rw [wrapI _ (by omega) (by omega)]; omega
        simp -implicitDefEqProofs [sc_i_isAntichain_L2, hlt, hw]
        have e1 : ((l.length : Int) - ((i : Int) + 1)).toNat = l.length - (i + 1) := by omega
        repeat' (first | omega | apply And.intro | intro _)
        refine inner i _ _ hall hlt (by simp [e1, List.take_of_length_le]) (fun hq => ?_) (fun hq => ?_)
        · simp -implicitDefEqProofs
          refine Again.of (i + 1) ⟨by omega, fun t ht => ?_⟩ (by omega) (SubI.slots rfl (by simp (disch := omega) [wrapI]))
          rcases Nat.lt_succ_iff_lt_or_eq.1 ht with h1 | rfl
          · exact hnot t h1
          · exact hq
        · simp -implicitDefEqProofs
          exact SubQ.of (SubI.slots rfl (by simp)) (q2 hq)
      · simp -implicitDefEqProofs [sc_i_isAntichain_L2, hlt]
        exact SubQ.of (SubI.slots rfl (by simp)) (q1 (hv ▸ cplx_of hn.1 hn.2 hall fun t h1 => hnot t (by omega)))
    simp -implicitDefEqProofs [sc_i_isAntichain, hn.1, hn.2, show ¬ n < 1 by omega, show ¬ 6 < n by omega]
    refine loopI env mixed (fun k : Nat => [(0, .int .i64 n), (1, .list 1 (ints l)), (17, .list 1 (ints l)), (18, .int .i64 l.length), (19, .int .i64 (k : Int))]) (fun _ => ([], 0))
        (fun k => k ≤ l.length ∧ ∀ t, t < k → basicOk n l t) (fun k => l.length - k) 0 (by simp) (SubI.slots rfl (by simp)) ?_
    rintro k ⟨hk, hall⟩
    by_cases hlt : k < l.length
    · by_cases hs : isSet n (at0 l k) = true
      · have hs6 := isSet_six hs
        by_cases h0 : 0 < k
        · have hp := isSet_six (hall (k - 1) (by omega)).1
          have hw : (IntKind.i64.wrap ((k : Int) - 1)) = ((k - 1 : Nat) : Int) := by rw [wrapI _ (by omega) (by omega)]; omega
          by_cases hbf : before (at0 l (k - 1)) (at0 l k) = true
          · simp -implicitDefEqProofs [sc_i_isAntichain_L0, F_i_IsSet, F_i_BeforeSet, hlt, hs, hs6, h0, hw, hp, hbf]
            repeat' (first | omega | apply And.intro | intro _)
            refine Again.of (k + 1) ⟨by omega, fun t ht => ?_⟩ (by omega) (SubI.slots rfl (by simp (disch := omega) [wrapI]))
            rcases Nat.lt_succ_iff_lt_or_eq.1 ht with h1 | rfl
            · exact hall t h1
            · exact ⟨hs, fun _ => hbf⟩
          · have hf : v = false := hv ▸ cplx_not1 hlt fun hf => hbf (hf.2 h0)
            simp only [Bool.not_eq_true] at hbf
            simp -implicitDefEqProofs [sc_i_isAntichain_L0, F_i_IsSet, F_i_BeforeSet, hlt, hs, hs6, h0, hw, hp, hbf, hf]
            omega
        · simp -implicitDefEqProofs [sc_i_isAntichain_L0, F_i_IsSet, F_i_BeforeSet, hlt, hs, hs6, h0]
          repeat' (first | omega | apply And.intro | intro _)
          refine Again.of (k + 1) ⟨by omega, fun t ht => ?_⟩ (by omega) (SubI.slots rfl (by simp (disch := omega) [wrapI]))
          rcases Nat.lt_succ_iff_lt_or_eq.1 ht with h1 | rfl
          · exact hall t h1
          · exact ⟨hs, fun h => absurd h h0⟩
      · have hf : v = false := hv ▸ cplx_not1 hlt fun hf => hs hf.1
        simp only [Bool.not_eq_true] at hs
        simp -implicitDefEqProofs [sc_i_isAntichain_L0, F_i_IsSet, F_i_BeforeSet, hlt, hs, hf]
        omega
    · simp -implicitDefEqProofs [sc_i_isAntichain_L0, hlt]
      refine second _ _ (fun t ht => hall t (by omega)) (by simp) (fun e => ?_) (fun e => ?_)
      · simp -implicitDefEqProofs [e]
      · simp -implicitDefEqProofs [e]
  · have hf : v = false := by
      rw [← hv, ← Bool.not_eq_true, cplxB_iff]
      exact fun h => hn ⟨h.1, h.2.1⟩
    by_cases h1 : n < 1
    · simp -implicitDefEqProofs [sc_i_isAntichain, hf, h1]
    · simp -implicitDefEqProofs [sc_i_isAntichain, hf, h1, show 6 < n by omega]
def sc_i_IsComplex : SC := (.seq (.reg [⟨(some 1), none, (.box (.t 0))⟩, ⟨(some 2), none, (.mov (.c (.bool false)))⟩]) (.seq (.reg [⟨(some 3), none, (.fad 0 (.t 1))⟩, ⟨(some 4), none, (.ld none (.int .i64 0) (.t 3))⟩, ⟨(some 5), none, (.fad 1 (.t 1))⟩, ⟨(some 6), none, (.ld none .nil (.t 5))⟩, ⟨(some 7), none, (.call 213 [(.t 4), (.t 6)])⟩, ⟨(some 2), none, (.mov (.t 7))⟩]) .ret))
theorem code_i_IsComplex : fnCode Try.prog [] 130 = some (8, sc_i_IsComplex, [(2, none)]) := by kernel_rfl
theorem fn_i_IsComplex : FnOk Try.prog 130 F_s_IsComplex := by
  have env := (envNil_ok (P := Try.prog)).add fn_i_isAntichain
  refine fn_ok code_i_IsComplex mixed env ?_
  intro args r h hb
  obtain ⟨_, ⟨n, l⟩, rfl, h1, h4⟩ := F1_inv h
  cases dC_inv h1
  cases h4
  refine ⟨by simp, fun w0 U0 L0 N0 => ?_⟩
  simp -implicitDefEqProofs [sc_i_IsComplex, F_i_isAntichain]
end Go.Proofs.Ytmemomfffehnkaa
namespace Go.Proofs.Ytmemomfffehnkaa
open Go Go.RowKit
set_option maxRecDepth 1000000
set_option linter.unusedSimpArgs false
set_option linter.unusedVariables false
set_option maxHeartbeats 1000000
theorem sub_len {l : List Int} : ∀ {m : List Int}, l.Nodup → (∀ x ∈ l, x ∈ m) → l.length ≤ m.length := by
  induction l with
  | nil => intro m _ _; simp
  | cons a l ih =>
    intro m hn hs
    rw [List.nodup_cons] at hn
    have ha : a ∈ m := hs a (by simp)
    have := ih (m := m.erase a) hn.2 fun x hx => (List.mem_erase_of_ne fun e => hn.1 (by rw [← e]; exact hx)).2 (hs x (by simp [hx]))
    rw [List.length_erase_of_mem ha] at this
    have : 0 < m.length := List.length_pos_of_mem ha
    simp only [List.length_cons]
    omega
theorem nodup_at {l : List Int} (h : ∀ j, j < l.length → at0 l j ∉ l.take j) : l.Nodup := by
  rw [List.Nodup, List.pairwise_iff_getElem]
  intro i j hi hj hij e
  refine h j hj ?_
  rw [at0_eq hj, ← e]
  exact List.mem_take_iff_getElem.2 ⟨i, by omega, rfl⟩
theorem band_self {a : Int} (ha : 0 ≤ a ∧ a < 64) : bitop .and .i64 a a = a := by
  have key : ∀ x, x < 64 → bitop .and .i64 ((x : Nat) : Int) ((x : Nat) : Int) = (x : Int) := by decide +kernel
  have := key a.toNat (by omega)
  rwa [Int.toNat_of_nonneg ha.1] at this
theorem cplx_nodup {n : Int} {l : List Int} (h : cplx n l) : l.Nodup := by
  refine nodup_at fun j hj hm => ?_
  obtain ⟨i, hi, e⟩ := List.mem_take_iff_getElem.1 hm
  have hf := h.2.2 j hj
  refine hf.2.2 i (by omega) ?_
  have e2 : at0 l i = at0 l j := by rw [at0_eq (by omega), e]
  rw [e2]
  exact band_self (isSet_pos hf.1)
end Go.Proofs.Ytmemomfffehnkaa
