import Derived.Test.YtmemomfffehnkaaRC
import Derived.Test.YtmemomfffehnkaaRows
import Derived.ProofKit
import Derived.Test.YtmemomfffehnkaaChecked
import Derived.JoinedOf
/- From the judge's reading of arguments to pure data, and back. -/
namespace Go.Proofs.Ytmemomfffehnkaa
open Go.ChangeShapes Go.WideShapes Go.ChangeAt Go.RowKit
theorem own0 : ownKnob Try.prog.godebug = none := by kernel_rfl
theorem laidOut0 : laidOutB Try.prog = true := by kernel_rfl
section
variable {H : Type} {enc : TypeId × Value → H} {P : Program} {w : World} {base : Nat} {held : Bool} {N : Nm} {U : Nat → Prop}
theorem cell_lt {w : World} {b o : Nat} {v : Value} (h : w.cell? ⟨b, o, none⟩ = some v) : b < w.heap.size := by
  unfold World.cell? at h
  split at h
  · rename_i e
    exact (Array.getElem?_eq_some_iff.1 e).1
  · simp at h
theorem post_of_below {f : Func} {s : ChangeSpec} {apart fresh handsOn again : Bool} {W W' : World} {args : Array Value} {v : Value} {ds gs : List (DataW H)} {before pa pv : List MemPlace}
    (hW : DataW.Whole enc P f.params.toList s.vars apart W args.toList ds gs before)
    (hres : ∀ (b : Nat) (sp : Nat → Bool) (hd : Bool), DataW.TrodAll enc P W' b sp hd f.resultTypes.toList (v.resultList f.resultTypes.size) (s.fn H (ds ++ gs)).results [])
    (hargs : ∀ sp : Nat → Bool, (∀ p ∈ before, sp p.block = true) → DataW.TrodAll enc P W' 0 sp true f.params.toList args.toList (s.fn H (ds ++ gs)).args pa)
    (hvars : ∀ sp : Nat → Bool, (∀ p ∈ before, sp p.block = true) → DataW.TrodVars enc P W' sp s.vars (s.fn H (ds ++ gs)).vars pv)
    (hps : before = pa ++ pv) (hb : Below W.heap.size W W')
    (hok : ∀ (j : Nat) (t : TypeId) (r : Value), f.resultTypes[j]? = some t → (v.resultList f.resultTypes.size)[j]? = some r → Value.okWide P W' .any 0 t r) :
    s.post enc P f apart fresh handsOn again W args v W' := by
  have hlt : ∀ p ∈ before, p.block < W.heap.size := fun p hp => hW.lt p hp
  have hold : ∀ p ∈ before, (fun b => decide (b < W.heap.size)) p.block = true := fun p hp => by simpa using hlt p hp
  refine ⟨ds, gs, before, [], pa, pv, hW, hres _ _ _, hargs _ hold, hvars _ hold, World.keptBut_mono (fun p hp => ⟨hp, ?_⟩) (hb.frame (· ∈ before)), fun _ => ?_⟩
  · rw [hps, List.mem_append] at hp
    exact Or.inr hp
  · obtain ⟨_, _, _, _, _, hz, hn⟩ := hW
    refine ⟨hok, _, _, ([] ++ pa) ++ pv, ⟨[] ++ pa, pv, trodAll_append (hargs _ (fun _ _ => rfl)) (hres _ _ _), hvars _ (fun _ _ => rfl), rfl, ?_, ?_⟩, ?_⟩
    · intro b off hp
      have hin : MemPlace.cell b off ∈ before := by rw [hps]; simpa using hp
      rw [hb.frozen (hlt _ hin)]
      exact hz b off hin
    · intro ha
      have := hn ha
      rw [hps] at this
      simpa using this
    · intro p hp _
      rw [hps]
      simpa using hp
/-- Arguments read behind the call as they read before. -/
theorem args_stay (hl : laidOutB P = true) {W W' : World} (hb : Below W.heap.size W W') {sp : Nat → Bool} : ∀ {ts : List TypeId} {vs : List Value} {ds : List (DataW H)} {ps : List MemPlace},
    ts.all (fun t => P.readableRec t && decide (t < P.types.size)) = true → DataW.TrodAll enc P W 0 (fun _ => true) true ts vs ds ps → (∀ x ∈ ps, x.block < W.heap.size) → (∀ x ∈ ps, sp x.block = true) → DataW.TrodAll enc P W' 0 sp true ts vs ds ps := by
  intro ts
  induction ts with
  | nil => intro vs ds ps _ h _ _; cases vs <;> cases ds <;> exact h
  | cons t ts ih =>
    intro vs ds ps hr h hlt hsp
    cases vs with
    | nil => cases ds <;> exact h.elim
    | cons v vs =>
      cases ds with
      | nil => exact h.elim
      | cons d ds =>
        obtain ⟨p, q, h1, h2, rfl⟩ := h
        simp only [List.all_cons, Bool.and_eq_true, decide_eq_true_eq] at hr
        refine ⟨p, q, ?_, ih hr.2 h2 (fun x hx => hlt x (by simp [hx])) (fun x hx => hsp x (by simp [hx])), rfl⟩
        exact WideElems.Trod_stays hl hr.1.1 hr.1.2 h1 (fun x hx => hb.same (hlt x (by simp [hx]))) (fun x hx => hsp x (by simp [hx]))
/-- A law: it answers true, and its arguments stay. -/
theorem law_post {fn : Func} {tb : TypeId} {s : ChangeSpec} {fresh handsOn again : Bool} {f : FuncId} {args : List V} (hf : Pure P f args (.bool true)) (hl : laidOutB P = true) (hp : fn.params.toList.all (fun t => P.readableRec t && decide (t < P.types.size)) = true)
    (hrt : fn.resultTypes = #[tb]) (htb : P.underlying tb = some .bool) (hv0 : s.vars = []) {W : World} {cargs : Array Value} {ds gs : List (DataW H)} {before : List MemPlace} (hW : DataW.Whole enc P fn.params.toList s.vars false W cargs.toList ds gs before)
    (hres : (s.fn H (ds ++ gs)).results = [.lit (.bool true)]) (hargs : (s.fn H (ds ++ gs)).args = ds) (hvars : (s.fn H (ds ++ gs)).vars = [])
    (hr : RVs (fun _ => none) (fun b => b < W.heap.size) W args cargs.toList []) :
    Calls P f cargs W fun e W' => ∃ v, e = .returned v ∧ s.post enc P fn false fresh handsOn again W cargs v W' := by
  have := hf (fun b => b < W.heap.size) W cargs.toList (fun _ h => h) hr
  rw [Array.toArray_toList] at this
  refine this.mono ?_
  rintro e W' ⟨c, F, rfl, _, hc, hb⟩
  cases hc
  refine ⟨_, rfl, ?_⟩
  obtain ⟨p, q, hA, hV, rfl, hfz, hnd⟩ := id hW
  rw [hv0] at hV
  obtain ⟨hgs, hq⟩ := trodVars_none hV
  have hlt : ∀ x ∈ p ++ q, x.block < W.heap.size := fun x hx => hW.lt x hx
  refine post_of_below (pa := p) (pv := q) hW (fun b sp hd => ?_) (fun sp hsp => ?_) (fun sp hsp => ?_) rfl hb ?_
  · rw [hrt, hres]
    exact trodAll_mk1 ⟨1, by simp [DataW.trod, Value.cells, htb]⟩
  · rw [hargs]
    exact args_stay hl hb hp hA (fun x hx => hlt x (by simp [hx])) (fun x hx => hsp x (by simp [hx]))
  · rw [hv0, hvars, hq]
    rfl
  · exact ok_one hrt rfl (okWide_bool_mk htb true)
end
end Go.Proofs.Ytmemomfffehnkaa
/- What the statements ask of the program as a whole, counted once. -/
namespace Go.Proofs.Ytmemomfffehnkaa
open Go Go.Proofs
theorem headP : (Try.checked.prog.mayEnter && (false == Try.checked.prog.liftsFinal) && (Try.checked.prog.make == some Rows.fnDivisionsRow.make)) = true := by kernel_rfl
end Go.Proofs.Ytmemomfffehnkaa
namespace Go.Proofs.Ytmemomfffehnkaa
open Go Go.RowKit
set_option maxRecDepth 1000000
set_option linter.unusedSimpArgs false
set_option linter.unusedVariables false
set_option maxHeartbeats 1000000
theorem getD_mem_iff {l : List Int} {n : Int} : n ∈ l ↔ ∃ j, j < l.length ∧ at0 l j = n := by
  constructor
  · intro h
    obtain ⟨j, hj, e⟩ := List.getElem_of_mem h
    exact ⟨j, hj, by rw [at0_eq hj, e]⟩
  · rintro ⟨j, hj, e⟩
    rw [at0_eq hj] at e
    exact e ▸ List.getElem_mem hj
theorem getD_mem' {l : List Int} {j : Nat} (hj : j < l.length) : at0 l j ∈ l := getD_mem_iff.2 ⟨j, hj, rfl⟩
/-- The bits of a number, by fuel. -/
def pcF : Nat → Nat → Nat
  | 0, _ => 0
  | f + 1, n => n % 2 + pcF f (n / 2)
def pc (n : Nat) : Nat := pcF 64 n
theorem pcF_zero (f : Nat) : pcF f 0 = 0 := by
  induction f with
  | zero => rfl
  | succ f ih => simp [pcF, ih]
theorem pcF_le (f n : Nat) : pcF f n ≤ f := by
  induction f generalizing n with
  | zero => simp [pcF]
  | succ f ih => have := ih (n / 2); simp only [pcF]; omega
theorem pc_le (n : Nat) : pc n ≤ 64 := pcF_le 64 n
/-- The size of a set; below zero it is the size of nothing. -/
def sz (s : Int) : Int := (pc s.toNat : Nat)
theorem sz_nn (s : Int) : 0 ≤ sz s := by unfold sz; omega
def isSet (n s : Int) : Bool := decide (0 ≤ n ∧ n ≤ 6 ∧ 0 ≤ s ∧ s < 2 ^ n.toNat)
theorem isSet_pos {n s : Int} (h : isSet n s = true) : 0 ≤ s ∧ s < 64 := by
  simp only [isSet, decide_eq_true_eq] at h
  obtain ⟨h1, h2, h3, h4⟩ := h
  have : n = 0 ∨ n = 1 ∨ n = 2 ∨ n = 3 ∨ n = 4 ∨ n = 5 ∨ n = 6 := by omega
  rcases this with rfl | rfl | rfl | rfl | rfl | rfl | rfl <;> simp at h4 <;> omega
def before (a b : Int) : Bool := decide (sz a < sz b ∨ (sz a = sz b ∧ a < b))
def sc_s_l1In : SC := (.seq (.reg [⟨(some 6), none, (.mov (.c (.bool false)))⟩]) (.seq (.reg [⟨(some 7), none, (.mov (.t 0))⟩, ⟨(some 8), none, (.mov (.t 1))⟩, ⟨(some 9), none, (.bin false .geq (.t 7) (.t 8))⟩, ⟨(some 10), none, (.mov (.t 9))⟩, ⟨(some 11), (some (10, true)), (.mov (.t 0))⟩, ⟨(some 12), (some (10, true)), (.mov (.t 2))⟩, ⟨(some 13), (some (10, true)), (.bin false .leq (.t 11) (.t 12))⟩, ⟨(some 14), none, (.pick (.t 10) (.t 13) (.c (.bool false)))⟩, ⟨(some 6), none, (.mov (.t 14))⟩]) .ret))
theorem code_s_l1In : fnCode Try.prog [] 132 = some (15, sc_s_l1In, [(6, none)]) := by kernel_rfl
def F_s_l1In : List V → Option V := F3 dI dI dI fun x a b => some (.bool (decide (a ≤ x ∧ x ≤ b)))
theorem fn_s_l1In : FnOk Try.prog 132 F_s_l1In := by
  refine fn_ok code_s_l1In mixed envNil_ok ?_
  intro args r h hb
  obtain ⟨_, _, _, x, a, b, rfl, h1, h2, h3, h4⟩ := F3_inv h
  cases dI_inv h1
  cases dI_inv h2
  cases dI_inv h3
  cases h4
  refine ⟨by simp, fun w0 U0 L0 N0 => ?_⟩
  simp -implicitDefEqProofs [sc_s_l1In]
  omega
def sc_s_l2Has_L0 : SC := (.seq (.seq (.reg [⟨(some 6), none, (.mov (.t 5))⟩, ⟨(some 7), none, (.mov (.t 0))⟩, ⟨(some 8), none, (.len (.t 7))⟩, ⟨(some 9), none, (.bin false .lss (.t 6) (.t 8))⟩]) (.cond (.t 9) .skip (.exit 0))) (.seq (.block 1 (.seq (.reg [⟨(some 12), none, (.mov (.t 0))⟩, ⟨(some 13), none, (.mov (.t 5))⟩, ⟨(some 14), none, (.idx 1 (.t 12) (.t 13))⟩, ⟨(some 15), none, (.ld none (.int .i64 0) (.t 14))⟩, ⟨(some 16), none, (.mov (.t 1))⟩, ⟨(some 17), none, (.bin false .eql (.t 15) (.t 16))⟩]) (.cond (.t 17) (.seq (.reg [⟨(some 4), none, (.mov (.c (.bool true)))⟩]) .ret) .skip))) (.reg [⟨(some 10), none, (.mov (.t 5))⟩, ⟨(some 11), none, (.bin false .add (.t 10) (.c (.int .i64 1)))⟩, ⟨(some 5), none, (.mov (.t 11))⟩])))
def sc_s_l2Has : SC := (.seq (.reg [⟨(some 4), none, (.mov (.c (.bool false)))⟩]) (.seq (.seq (.reg [⟨(some 5), none, (.mov (.c (.int .i64 0)))⟩]) (.block 0 (.loop sc_s_l2Has_L0))) (.seq (.reg [⟨(some 4), none, (.mov (.c (.bool false)))⟩]) .ret)))
theorem code_s_l2Has : fnCode Try.prog [] 134 = some (18, sc_s_l2Has, [(4, none)]) := by kernel_rfl
def F_s_l2Has : List V → Option V := F2 dL dI fun l n => some (.bool (l.contains n))
theorem fn_s_l2Has : FnOk Try.prog 134 F_s_l2Has := by
  refine fn_ok code_s_l2Has mixed envNil_ok ?_
  intro args r h hb
  obtain ⟨_, _, l, n, rfl, h1, h2, h4⟩ := F2_inv h
  cases dL_inv h1
  cases dI_inv h2
  cases h4
  have hl := bnd_ints (hb _ (List.mem_cons_self ..))
  refine ⟨by simp, fun w0 U0 L0 N0 => ?_⟩
  simp -implicitDefEqProofs [sc_s_l2Has]
  refine loopI envNil_ok mixed (fun k : Nat => [(5, .int .i64 (k : Int)), (0, .list 1 (ints l)), (1, .int .i64 n)]) (fun _ => ([], 0)) (fun k => k ≤ l.length ∧ ∀ j, j < k → at0 l j ≠ n) (fun k => l.length - k) 0 (by simp) (SubI.slots rfl (by simp)) ?_
  rintro k ⟨hk, hn⟩
  simp -implicitDefEqProofs [sc_s_l2Has_L0]
  refine ⟨fun h => ⟨h, by omega, fun e => e ▸ getD_mem' h, fun e => Again.of (k + 1) ⟨by omega, fun j hj => ?_⟩ (by omega) (SubI.slots rfl (by simp (disch := omega) [wrapI]))⟩, fun h hm => ?_⟩
  · rcases Nat.lt_succ_iff_lt_or_eq.1 hj with h1 | rfl
    · exact hn j h1
    · exact e
  · obtain ⟨j, hj, e⟩ := getD_mem_iff.1 hm
    exact hn j (by omega) e
def sc_s_IsSet : SC := (.seq (.reg [⟨(some 4), none, (.mov (.c (.bool false)))⟩]) (.seq (.reg [⟨(some 5), none, (.mov (.t 0))⟩, ⟨(some 6), none, (.call 132 [(.t 5), (.c (.int .i64 0)), (.c (.int .i64 6))])⟩, ⟨(some 7), none, (.mov (.t 6))⟩, ⟨(some 8), (some (7, true)), (.mov (.t 1))⟩, ⟨(some 9), (some (7, true)), (.mov (.t 0))⟩, ⟨(some 10), (some (7, true)), (.conv .u64 (.t 9))⟩, ⟨(some 11), (some (7, true)), (.bin false .shl (.c (.int .i64 1)) (.t 10))⟩, ⟨(some 12), (some (7, true)), (.bin false .sub (.t 11) (.c (.int .i64 1)))⟩, ⟨(some 13), (some (7, true)), (.call 132 [(.t 8), (.c (.int .i64 0)), (.t 12)])⟩, ⟨(some 14), none, (.pick (.t 7) (.t 13) (.c (.bool false)))⟩, ⟨(some 4), none, (.mov (.t 14))⟩]) .ret))
theorem code_s_IsSet : fnCode Try.prog [] 139 = some (15, sc_s_IsSet, [(4, none)]) := by kernel_rfl
def F_s_IsSet : List V → Option V := F2 dI dI fun n s => some (.bool (isSet n s))
theorem fn_s_IsSet : FnOk Try.prog 139 F_s_IsSet := by
  have env := (envNil_ok (P := Try.prog)).add fn_s_l1In
  refine fn_ok code_s_IsSet mixed env ?_
  intro args r h hb
  obtain ⟨_, _, n, s, rfl, h1, h2, h4⟩ := F2_inv h
  cases dI_inv h1
  cases dI_inv h2
  cases h4
  refine ⟨by simp, fun w0 U0 L0 N0 => ?_⟩
  simp -implicitDefEqProofs [sc_s_IsSet, F_s_l1In, isSet]
  refine ⟨fun h1 h2 => ?_, by omega⟩
  have : n = 0 ∨ n = 1 ∨ n = 2 ∨ n = 3 ∨ n = 4 ∨ n = 5 ∨ n = 6 := by omega
  rcases this with rfl | rfl | rfl | rfl | rfl | rfl | rfl <;> simp [IntKind.wrap, IntKind.bits, IntKind.signed] <;> rw [Bool.eq_iff_iff] <;> simp <;> omega
def sc_s_l2Size_L0 : SC := (.seq (.seq (.reg [⟨(some 4), none, (.mov (.t 0))⟩, ⟨(some 5), none, (.bin false .gtr (.t 4) (.c (.int .i64 0)))⟩]) (.cond (.t 5) .skip (.exit 0))) (.block 1 (.seq (.reg [⟨(some 6), none, (.mov (.t 3))⟩, ⟨(some 7), none, (.mov (.t 0))⟩, ⟨(some 8), none, (.bin false .and (.t 7) (.c (.int .i64 1)))⟩, ⟨(some 9), none, (.bin false .add (.t 6) (.t 8))⟩, ⟨(some 3), none, (.mov (.t 9))⟩]) (.reg [⟨(some 10), none, (.mov (.t 0))⟩, ⟨(some 11), none, (.bin false .shr (.t 10) (.c (.int .u64 1)))⟩, ⟨(some 0), none, (.mov (.t 11))⟩]))))
def sc_s_l2Size : SC := (.seq (.reg [⟨(some 2), none, (.mov (.c (.int .i64 0)))⟩]) (.seq (.reg [⟨(some 3), none, (.mov (.c (.int .i64 0)))⟩]) (.seq (.block 0 (.loop sc_s_l2Size_L0)) (.seq (.reg [⟨(some 12), none, (.mov (.t 3))⟩, ⟨(some 2), none, (.mov (.t 12))⟩]) .ret))))
theorem code_s_l2Size : fnCode Try.prog [] 156 = some (13, sc_s_l2Size, [(2, none)]) := by kernel_rfl
/-- The instance is by choice: a checker must not begin to count. -/
noncomputable def F_s_l2Size : List V → Option V := F1 dI fun s => @ite _ (s < 9223372036854775808) (Classical.propDecidable _) (some (.int .i64 (sz s))) none
theorem fn_s_l2Size : FnOk Try.prog 156 F_s_l2Size := by
  refine fn_ok code_s_l2Size mixed envNil_ok ?_
  intro args r h hb
  obtain ⟨_, s, rfl, h1, h4⟩ := F1_inv h
  cases dI_inv h1
  simp only [Option.ite_none_right_eq_some, Option.some.injEq] at h4
  obtain ⟨hs, rfl⟩ := h4
  refine ⟨by simp, fun w0 U0 L0 N0 => ?_⟩
  simp -implicitDefEqProofs [sc_s_l2Size]
  by_cases h0 : 0 < s
  · obtain ⟨m, rfl⟩ : ∃ m : Nat, s = m := ⟨s.toNat, by omega⟩
    refine loopI envNil_ok mixed (fun x : Nat × Nat × Nat => [(0, .int .i64 (x.2.1 : Int)), (3, .int .i64 (x.2.2 : Int))]) (fun _ => ([], 0)) (fun x => x.2.1 < 9223372036854775808 ∧ x.2.2 + pcF x.1 x.2.1 = pc m ∧ x.2.1 < 2 ^ x.1) (fun x => x.1) (64, m, 0)
      (by simp [pc]; omega) (SubI.slots rfl (by simp)) ?_
    rintro ⟨f, k, n⟩ ⟨hk, hp, hf⟩
    simp -implicitDefEqProofs [sc_s_l2Size_L0]
    refine ⟨fun h => ?_, fun h => ?_⟩
    · have hl := pc_le m
      cases f with
      | zero => simp at hf; omega
      | succ f =>
        have e1 : bitop .and .i64 (k : Int) 1 = ((k % 2 : Nat) : Int) := by
          rw [show (1 : Int) = ((1 : Nat) : Int) from rfl, bits_and k 1 hk (by omega), Nat.and_one_is_mod]
        have e2 : (k : Int).fdiv 2 = ((k / 2 : Nat) : Int) := by rw [Int.fdiv_eq_ediv_of_nonneg _ (by omega)]; rfl
        simp only [pcF] at hp
        simp only at hp hf hk
        refine Again.of (f, k / 2, n + k % 2) ⟨by simp only; omega, by simp only; omega, by simp only; rw [Nat.pow_succ] at hf; omega⟩ (by simp) (SubI.slots rfl ?_)
        simp [e1]
        simp (disch := omega) [IntKind.bits, e2, wrapI]
    · have : k = 0 := by omega
      subst this
      simp only [pcF_zero] at hp
      simp [sz]
      omega
  · refine loopI envNil_ok mixed (fun _ : Unit => [(0, .int .i64 s), (3, .int .i64 0)]) (fun _ => ([], 0)) (fun _ => True) (fun _ => 0) () trivial (SubI.slots rfl (by simp)) ?_
    rintro ⟨⟩ _
    have e : s.toNat = 0 := by omega
    simp -implicitDefEqProofs [sc_s_l2Size_L0, h0, sz, e, pc, pcF_zero]
def sc_s_l2Before : SC := (.seq (.reg [⟨(some 4), none, (.mov (.c (.bool false)))⟩]) (.seq (.reg [⟨(some 7), none, (.mov (.t 0))⟩, ⟨(some 8), none, (.call 156 [(.t 7)])⟩, ⟨(some 5), none, (.mov (.t 8))⟩]) (.seq (.reg [⟨(some 9), none, (.mov (.t 1))⟩, ⟨(some 10), none, (.call 156 [(.t 9)])⟩, ⟨(some 6), none, (.mov (.t 10))⟩]) (.seq (.reg [⟨(some 11), none, (.mov (.t 5))⟩, ⟨(some 12), none, (.mov (.t 6))⟩, ⟨(some 13), none, (.bin false .lss (.t 11) (.t 12))⟩, ⟨(some 14), none, (.mov (.t 13))⟩, ⟨(some 15), (some (14, false)), (.mov (.t 5))⟩, ⟨(some 16), (some (14, false)), (.mov (.t 6))⟩, ⟨(some 17), (some (14, false)), (.bin false .eql (.t 15) (.t 16))⟩, ⟨(some 18), (some (14, false)), (.mov (.t 17))⟩, ⟨(some 19), (some (18, true)), (.mov (.t 0))⟩, ⟨(some 20), (some (18, true)), (.mov (.t 1))⟩, ⟨(some 21), (some (18, true)), (.bin false .lss (.t 19) (.t 20))⟩, ⟨(some 22), (some (14, false)), (.pick (.t 18) (.t 21) (.c (.bool false)))⟩, ⟨(some 23), none, (.pick (.t 14) (.c (.bool true)) (.t 22))⟩, ⟨(some 4), none, (.mov (.t 23))⟩]) .ret))))
theorem code_s_l2Before : fnCode Try.prog [] 140 = some (24, sc_s_l2Before, [(4, none)]) := by kernel_rfl
noncomputable def F_s_l2Before : List V → Option V := F2 dI dI fun a b => @ite _ (a < 9223372036854775808 ∧ b < 9223372036854775808) (Classical.propDecidable _) (some (.bool (before a b))) none
theorem fn_s_l2Before : FnOk Try.prog 140 F_s_l2Before := by
  have env := (envNil_ok (P := Try.prog)).add fn_s_l2Size
  refine fn_ok code_s_l2Before mixed env ?_
  intro args r h hb
  obtain ⟨_, _, a, b, rfl, h1, h2, h4⟩ := F2_inv h
  cases dI_inv h1
  cases dI_inv h2
  simp only [Option.ite_none_right_eq_some, Option.some.injEq] at h4
  obtain ⟨⟨ha, hb⟩, rfl⟩ := h4
  refine ⟨by simp, fun w0 U0 L0 N0 => ?_⟩
  simp -implicitDefEqProofs [sc_s_l2Before, F_s_l2Size, before, ha, hb]
  refine ⟨fun h => ⟨fun h2 => ?_, fun h2 => ⟨h, fun h3 => absurd h3 h2⟩⟩, fun h => Or.inl h⟩
  simp [h2]
end Go.Proofs.Ytmemomfffehnkaa
namespace Go.Proofs.Ytmemomfffehnkaa
open Go Go.RowKit
set_option maxRecDepth 1000000
set_option linter.unusedSimpArgs false
set_option linter.unusedVariables false
set_option maxHeartbeats 1000000
def sc_s_IsComplex_L2 : SC := (.seq (.seq (.reg [⟨(some 40), none, (.mov (.t 4))⟩, ⟨(some 41), none, (.mov (.t 3))⟩, ⟨(some 42), none, (.bin false .lss (.t 40) (.t 41))⟩]) (.cond (.t 42) .skip (.exit 2))) (.seq (.block 3 (.seq (.dreg [⟨⟨(some 45), none, (.fad 1 (.t 1))⟩, false, false⟩, ⟨⟨(some 46), none, (.ld none .nil (.t 45))⟩, false, false⟩, ⟨⟨(some 47), none, (.mov (.t 4))⟩, false, false⟩, ⟨⟨(some 48), none, (.idx 1 (.t 46) (.t 47))⟩, false, false⟩, ⟨⟨(some 49), none, (.ld none (.int .i64 0) (.t 48))⟩, false, false⟩, ⟨⟨(some 50), none, (.fad 1 (.t 1))⟩, false, false⟩, ⟨⟨(some 51), none, (.ld none .nil (.t 50))⟩, false, false⟩, ⟨⟨(some 52), none, (.mov (.t 3))⟩, false, false⟩, ⟨⟨(some 53), none, (.idx 1 (.t 51) (.t 52))⟩, false, false⟩, ⟨⟨(some 54), none, (.ld none (.int .i64 0) (.t 53))⟩, false, false⟩, ⟨⟨(some 55), none, (.bin false .and (.t 49) (.t 54))⟩, false, false⟩, ⟨⟨(some 56), none, (.fad 1 (.t 1))⟩, false, false⟩, ⟨⟨(some 57), none, (.ld none .nil (.t 56))⟩, false, false⟩, ⟨⟨(some 58), none, (.mov (.t 4))⟩, false, false⟩, ⟨⟨(some 59), none, (.idx 1 (.t 57) (.t 58))⟩, false, false⟩, ⟨⟨(some 60), none, (.ld none (.int .i64 0) (.t 59))⟩, false, false⟩, ⟨⟨(some 61), none, (.bin false .eql (.t 55) (.t 60))⟩, false, false⟩]) (.cond (.t 61) (.seq (.reg [⟨(some 2), none, (.mov (.c (.bool false)))⟩]) .ret) .skip))) (.reg [⟨(some 43), none, (.mov (.t 4))⟩, ⟨(some 44), none, (.bin false .add (.t 43) (.c (.int .i64 1)))⟩, ⟨(some 4), none, (.mov (.t 44))⟩])))
def sc_s_IsComplex_L0 : SC := (.seq (.seq (.reg [⟨(some 5), none, (.mov (.t 3))⟩, ⟨(some 6), none, (.fad 1 (.t 1))⟩, ⟨(some 7), none, (.ld none .nil (.t 6))⟩, ⟨(some 8), none, (.len (.t 7))⟩, ⟨(some 9), none, (.bin false .lss (.t 5) (.t 8))⟩]) (.cond (.t 9) .skip (.exit 0))) (.seq (.block 1 (.seq (.seq (.dreg [⟨⟨(some 12), none, (.fad 0 (.t 1))⟩, false, false⟩, ⟨⟨(some 13), none, (.ld none (.int .i64 0) (.t 12))⟩, false, false⟩, ⟨⟨(some 14), none, (.fad 1 (.t 1))⟩, false, false⟩, ⟨⟨(some 15), none, (.ld none .nil (.t 14))⟩, false, false⟩, ⟨⟨(some 16), none, (.mov (.t 3))⟩, false, false⟩, ⟨⟨(some 17), none, (.idx 1 (.t 15) (.t 16))⟩, false, false⟩, ⟨⟨(some 18), none, (.ld none (.int .i64 0) (.t 17))⟩, false, false⟩, ⟨⟨(some 19), none, (.call 139 [(.t 13), (.t 18)])⟩, false, false⟩, ⟨⟨(some 20), none, (.un .not (.t 19))⟩, false, false⟩, ⟨⟨(some 21), none, (.mov (.t 20))⟩, false, false⟩, ⟨⟨(some 22), (some (21, false)), (.mov (.t 3))⟩, false, false⟩, ⟨⟨(some 23), (some (21, false)), (.bin false .gtr (.t 22) (.c (.int .i64 0)))⟩, false, false⟩, ⟨⟨(some 24), (some (21, false)), (.mov (.t 23))⟩, false, false⟩, ⟨⟨(some 25), (some (24, true)), (.fad 1 (.t 1))⟩, false, false⟩, ⟨⟨(some 26), (some (24, true)), (.ld none .nil (.t 25))⟩, false, false⟩, ⟨⟨(some 27), (some (24, true)), (.mov (.t 3))⟩, false, false⟩, ⟨⟨(some 28), (some (24, true)), (.bin false .sub (.t 27) (.c (.int .i64 1)))⟩, false, false⟩, ⟨⟨(some 29), (some (24, true)), (.idx 1 (.t 26) (.t 28))⟩, false, false⟩, ⟨⟨(some 30), (some (24, true)), (.ld none (.int .i64 0) (.t 29))⟩, false, false⟩, ⟨⟨(some 31), (some (24, true)), (.fad 1 (.t 1))⟩, false, false⟩, ⟨⟨(some 32), (some (24, true)), (.ld none .nil (.t 31))⟩, false, false⟩, ⟨⟨(some 33), (some (24, true)), (.mov (.t 3))⟩, false, false⟩, ⟨⟨(some 34), (some (24, true)), (.idx 1 (.t 32) (.t 33))⟩, false, false⟩, ⟨⟨(some 35), (some (24, true)), (.ld none (.int .i64 0) (.t 34))⟩, false, false⟩, ⟨⟨(some 36), (some (24, true)), (.call 140 [(.t 30), (.t 35)])⟩, false, false⟩, ⟨⟨(some 37), (some (24, true)), (.un .not (.t 36))⟩, false, false⟩, ⟨⟨(some 38), (some (21, false)), (.pick (.t 24) (.t 37) (.c (.bool false)))⟩, false, false⟩, ⟨⟨(some 39), none, (.pick (.t 21) (.c (.bool true)) (.t 38))⟩, false, false⟩]) (.cond (.t 39) (.seq (.reg [⟨(some 2), none, (.mov (.c (.bool false)))⟩]) .ret) .skip)) (.seq (.reg [⟨(some 4), none, (.mov (.c (.int .i64 0)))⟩]) (.block 2 (.loop sc_s_IsComplex_L2))))) (.reg [⟨(some 10), none, (.mov (.t 3))⟩, ⟨(some 11), none, (.bin false .add (.t 10) (.c (.int .i64 1)))⟩, ⟨(some 3), none, (.mov (.t 11))⟩])))
def sc_s_IsComplex : SC := (.seq (.reg [⟨(some 1), none, (.box (.t 0))⟩, ⟨(some 2), none, (.mov (.c (.bool false)))⟩]) (.seq (.seq (.reg [⟨(some 3), none, (.mov (.c (.int .i64 0)))⟩]) (.block 0 (.loop sc_s_IsComplex_L0))) (.seq (.reg [⟨(some 62), none, (.fad 0 (.t 1))⟩, ⟨(some 63), none, (.ld none (.int .i64 0) (.t 62))⟩, ⟨(some 64), none, (.call 132 [(.t 63), (.c (.int .i64 1)), (.c (.int .i64 6))])⟩, ⟨(some 2), none, (.mov (.t 64))⟩]) .ret)))
theorem code_s_IsComplex : fnCode Try.prog [] 24 = some (65, sc_s_IsComplex, [(2, none)]) := by kernel_rfl
/-- What is asked of the facet at place k. -/
def facetOk (n : Int) (l : List Int) (k : Nat) : Prop :=
  isSet n (at0 l k) = true ∧ (0 < k → before (at0 l (k - 1)) (at0 l k) = true) ∧ ∀ i, i < k → bitop .and .i64 (at0 l i) (at0 l k) ≠ at0 l i
def cplx (n : Int) (l : List Int) : Prop := 1 ≤ n ∧ n ≤ 6 ∧ ∀ k, k < l.length → facetOk n l k
open Classical in
noncomputable def cplxB (n : Int) (l : List Int) : Bool := decide (cplx n l)
theorem cplxB_iff {n : Int} {l : List Int} : cplxB n l = true ↔ cplx n l := by simp [cplxB]
theorem cplxB_not {n : Int} {l : List Int} {k : Nat} (hk : k < l.length) (h : ¬ facetOk n l k) : cplxB n l = false := by
  simp only [cplxB, decide_eq_false_iff_not]
  exact fun hc => h (hc.2.2 k hk)
noncomputable def F_s_IsComplex : List V → Option V := F1 dC fun c => some (.bool (cplxB c.1 c.2))
theorem fn_s_IsComplex : FnOk Try.prog 24 F_s_IsComplex := by
  have env := (((envNil_ok (P := Try.prog)).add fn_s_l1In).add fn_s_l2Before).add fn_s_IsSet
  refine fn_ok code_s_IsComplex mixed env ?_
  intro args r h hb
  obtain ⟨_, ⟨n, l⟩, rfl, h1, h4⟩ := F1_inv h
  cases dC_inv h1
  cases h4
  have hl := bnd_eC (hb _ (List.mem_cons_self ..))
  simp only at hl
  generalize hv : cplxB n l = v
  refine ⟨by simp, fun w0 U0 L0 N0 => ?_⟩
  have inner : ∀ (k : Nat) (Q : Post), k < l.length →
      ((∀ i, i < k → bitop .and .i64 (at0 l i) (at0 l k) ≠ at0 l i) → Q (.exit 2) [(1, .pt 0 0), (3, .int .i64 (k : Int))] ([(0, [.int .i64 n, .list 1 (ints l)])], 1)) →
      ((¬ ∀ i, i < k → bitop .and .i64 (at0 l i) (at0 l k) ≠ at0 l i) → Q .ret [(2, .bool false)] ([(0, [.int .i64 n, .list 1 (ints l)])], 1)) →
      LoopI ⟨Try.prog, w0, U0, L0, N0, 0, 65⟩ [] sc_s_IsComplex_L2 Q [(4, .int .i64 0), (1, .pt 0 0), (3, .int .i64 (k : Int))] ([(0, [.int .i64 n, .list 1 (ints l)])], 1) := by
    intro k Q hk q1 q2
    refine loopQ env mixed (fun i : Nat => [(4, .int .i64 (i : Int)), (1, .pt 0 0), (3, .int .i64 (k : Int))]) (fun _ => ([(0, [.int .i64 n, .list 1 (ints l)])], 1)) (fun i => i ≤ k ∧ ∀ j, j < i → bitop .and .i64 (at0 l j) (at0 l k) ≠ at0 l j) (fun i => k - i) 0 (by simp) (SubI.slots rfl (by simp)) ?_
    rintro i ⟨hi, hn⟩
    simp -implicitDefEqProofs [sc_s_IsComplex_L2]
    have hsub : ∀ (L : Tm) (h : Nat), i < k → bitop .and .i64 (at0 l i) (at0 l k) = at0 l i → subE L [(2, .bool false)] → SubQ 0 Q .ret L ([(0, [.int .i64 n, .list 1 (ints l)])], 1) := 
      fun L _ h e hs => SubQ.of (SubI.slots rfl hs) (q2 fun hf => hf i h e)
    repeat' (first | omega | apply And.intro | intro _)
    · exact hsub _ 0 ‹_› ‹_› (by simp)
    · refine Again.of (i + 1) ⟨by omega, fun j hj => ?_⟩ (by omega) (SubI.slots rfl (by simp (disch := omega) [wrapI]))
      rcases Nat.lt_succ_iff_lt_or_eq.1 hj with h1 | rfl
      · exact hn j h1
      · assumption
    · have : i = k := by omega
      subst this
      exact SubQ.of (SubI.slots rfl (by simp)) (q1 hn)
  simp -implicitDefEqProofs [sc_s_IsComplex]
  refine loopI env mixed (fun k : Nat => [(1, .pt 0 0), (3, .int .i64 (k : Int))]) (fun _ => ([(0, [.int .i64 n, .list 1 (ints l)])], 1)) (fun k => k ≤ l.length ∧ ∀ j, j < k → facetOk n l j) (fun k => l.length - k) 0 (by simp) (SubI.slots rfl (by simp)) ?_
  rintro k ⟨hk, hn⟩
  have step : ∀ (Q : Post) (L : Tm), k < l.length → isSet n (at0 l k) = true → (0 < k → before (at0 l (k - 1)) (at0 l k) = true) → subE L [(4, .int .i64 0), (1, .pt 0 0), (3, .int .i64 (k : Int))] →
      (facetOk n l k → Q (.exit 2) [(1, .pt 0 0), (3, .int .i64 (k : Int))] ([(0, [.int .i64 n, .list 1 (ints l)])], 1)) → (v = false → Q .ret [(2, .bool false)] ([(0, [.int .i64 n, .list 1 (ints l)])], 1)) →
      LoopI ⟨Try.prog, w0, U0, L0, N0, 0, 65⟩ [] sc_s_IsComplex_L2 Q L ([(0, [.int .i64 n, .list 1 (ints l)])], 1) :=
    fun Q L h1 h2 h3 hs q1 q2 => (inner k Q h1 (fun h => q1 ⟨h2, h3, h⟩) (fun h => q2 (hv ▸ cplxB_not h1 fun hf => h hf.2.2))).sub (SubI.slots rfl hs)
  have again : facetOk n l k → k < l.length → ((k + 1 : Nat) ≤ l.length ∧ ∀ (j : Nat), j < k + 1 → facetOk n l j) := by
    intro hf h
    refine ⟨by omega, fun j hj => ?_⟩
    rcases Nat.lt_succ_iff_lt_or_eq.1 hj with h1 | rfl
    · exact hn j h1
    · exact hf
  by_cases hs : k < l.length ∧ isSet n (at0 l k) = true
  · obtain ⟨hs1, hs2⟩ := hs
    have r1 : at0 l k < 9223372036854775808 := by have := isSet_pos hs2; omega
    have r2 : at0 l (IntKind.i64.wrap ((k : Int) - 1)).toNat < 9223372036854775808 := by
      rw [wrapI _ (by omega) (by omega)]
      rcases Nat.eq_zero_or_pos k with rfl | h0
      · exact r1
      · rw [show ((k : Int) - 1).toNat = k - 1 by omega]
        have := isSet_pos (hn (k - 1) (by omega)).1
        omega
    simp -implicitDefEqProofs [sc_s_IsComplex_L0, F_s_IsSet, F_s_l2Before, F_s_l1In, r1, r2, hs1, hs2]
    by_cases h0 : 0 < k
    · rw [wrapI _ (by omega) (by omega), show ((k : Int) - 1).toNat = k - 1 by omega]
      repeat' (first | omega | apply And.intro | intro _)
      · exact hv ▸ cplxB_not hs1 fun hf => by simp_all [hf.2.1 h0]
      · refine step _ _ hs1 hs2 (fun _ => by assumption) (by simp) (fun hf => ?_) (fun e => ?_)
        · simp -implicitDefEqProofs
          exact Again.of (k + 1) (again hf hs1) (by omega) (SubI.slots rfl (by simp (disch := omega) [wrapI]))
        · simp [e]
    · repeat' (first | omega | apply And.intro | intro _)
      refine step _ _ hs1 hs2 (fun h => absurd h h0) (by simp) (fun hf => ?_) (fun e => ?_)
      · simp -implicitDefEqProofs
        exact Again.of (k + 1) (again hf hs1) (by omega) (SubI.slots rfl (by simp (disch := omega) [wrapI]))
      · simp [e]
  · by_cases hs1 : k < l.length
    · have hs2 : isSet n (at0 l k) = false := by
        rw [← Bool.not_eq_true]
        exact fun h => hs ⟨hs1, h⟩
      simp -implicitDefEqProofs [sc_s_IsComplex_L0, F_s_IsSet, F_s_l2Before, F_s_l1In, hs1, hs2]
      refine ⟨by omega, ?_⟩
      exact hv ▸ cplxB_not hs1 fun hf => by simp_all [hf.1]
    · simp -implicitDefEqProofs [sc_s_IsComplex_L0, F_s_IsSet, F_s_l2Before, F_s_l1In, hs1]
      have : k = l.length := by omega
      subst this
      rw [← hv, Bool.eq_iff_iff, cplxB_iff]
      constructor
      · intro h
        simp only [Bool.and_eq_true, decide_eq_true_eq] at h
        exact ⟨h.1, h.2, hn⟩
      · intro h
        simp [h.1, h.2.1]
def sizeOf1 (s : Int) : Int := if 0 ≤ s ∧ s < 64 then sz s else -1
theorem sizeOf1_set {s : Int} (h1 : 0 ≤ s) (h2 : s < 64) : sizeOf1 s = sz s := by simp [sizeOf1, h1, h2]
end Go.Proofs.Ytmemomfffehnkaa
namespace Go.Proofs.Ytmemomfffehnkaa
open Go Go.RowKit
set_option maxRecDepth 1000000
set_option linter.unusedSimpArgs false
set_option linter.unusedVariables false
set_option maxHeartbeats 1000000
def idxN : List Int → Int → Nat
  | [], _ => 0
  | a :: l, x => if a = x then 0 else idxN l x + 1
/-- The first place of a number, -1 if it is not there. -/
def idxOf (l : List Int) (x : Int) : Int := if x ∈ l then (idxN l x : Nat) else -1
end Go.Proofs.Ytmemomfffehnkaa
namespace Go.Proofs.Ytmemomfffehnkaa
open Go Go.RowKit
set_option maxRecDepth 1000000
set_option linter.unusedSimpArgs false
set_option linter.unusedVariables false
set_option maxHeartbeats 1000000
end Go.Proofs.Ytmemomfffehnkaa
namespace Go.Proofs.Ytmemomfffehnkaa
open Go Go.RowKit
set_option maxRecDepth 1000000
set_option linter.unusedSimpArgs false
set_option linter.unusedVariables false
set_option maxHeartbeats 1000000
theorem sub_len {l : List Int} : ∀ {m : List Int}, l.Nodup → (∀ x ∈ l, x ∈ m) → l.length ≤ m.length := by
  induction l with
  | nil => intro m _ _; simp
  | cons a l ih =>
    intro m hn hs
    rw [List.nodup_cons] at hn
    have ha : a ∈ m := hs a (by simp)
    have := ih (m := m.erase a) hn.2 fun x hx => (List.mem_erase_of_ne fun e => hn.1 (by rw [← e]; exact hx)).2 (hs x (by simp [hx]))
    rw [List.length_erase_of_mem ha] at this
    have : 0 < m.length := List.length_pos_of_mem ha
    simp only [List.length_cons]
    omega
theorem nodup_of {l : List Int} : ∀ {m : List Int}, l.Nodup → (∀ x ∈ l, x ∈ m) → m.length = l.length → m.Nodup ∧ ∀ x ∈ m, x ∈ l := by
  induction l with
  | nil => intro m _ _ h; have := List.eq_nil_of_length_eq_zero h; subst this; simp
  | cons a l ih =>
    intro m hn hs hl
    rw [List.nodup_cons] at hn
    have ha : a ∈ m := hs a (by simp)
    have hp := List.perm_cons_erase ha
    obtain ⟨h1, h2⟩ := ih (m := m.erase a) hn.2 (fun x hx => (List.mem_erase_of_ne fun e => hn.1 (by rw [← e]; exact hx)).2 (hs x (by simp [hx]))) (by rw [List.length_erase_of_mem ha, hl]; simp)
    refine ⟨hp.nodup_iff.2 (List.nodup_cons.2 ⟨fun h => hn.1 (h2 a h), h1⟩), fun x hx => ?_⟩
    rcases List.mem_cons.1 (hp.mem_iff.1 hx) with rfl | h
    · simp
    · simp [h2 x h]
theorem nodup_at {l : List Int} (h : ∀ j, j < l.length → at0 l j ∉ l.take j) : l.Nodup := by
  rw [List.Nodup, List.pairwise_iff_getElem]
  intro i j hi hj hij e
  refine h j hj ?_
  rw [at0_eq hj, ← e]
  exact List.mem_take_iff_getElem.2 ⟨i, by omega, rfl⟩
theorem band_self {a : Int} (ha : 0 ≤ a ∧ a < 64) : bitop .and .i64 a a = a := by
  have key : ∀ x, x < 64 → bitop .and .i64 ((x : Nat) : Int) ((x : Nat) : Int) = (x : Int) := by decide +kernel
  have := key a.toNat (by omega)
  rwa [Int.toNat_of_nonneg ha.1] at this
theorem cplx_nodup {n : Int} {l : List Int} (h : cplx n l) : l.Nodup := by
  refine nodup_at fun j hj hm => ?_
  obtain ⟨i, hi, e⟩ := List.mem_take_iff_getElem.1 hm
  have hf := h.2.2 j hj
  refine hf.2.2 i (by omega) ?_
  have e2 : at0 l i = at0 l j := by rw [at0_eq (by omega), e]
  rw [e2]
  exact band_self (isSet_pos hf.1)
noncomputable def orderB (n : Int) (l list : List Int) : Bool := cplxB n l && decide (list.length = l.length ∧ list.Nodup ∧ ∀ x ∈ list, x ∈ l)
end Go.Proofs.Ytmemomfffehnkaa
namespace Go.Proofs.Ytmemomfffehnkaa
open Go Go.RowKit
set_option maxRecDepth 1000000
set_option linter.unusedSimpArgs false
set_option linter.unusedVariables false
set_option maxHeartbeats 1000000
def ffL (d : Nat) : List Nat := (List.range 64).filter fun x => pcF 6 x == d
def oneM (N : Nat) : Nat := 2 ^ (2 ^ N) - 1
def varM : Nat → Nat → Nat
  | 0, _ => 0
  | n + 1, i => if i = n then (2 ^ (2 ^ n) - 1) * 2 ^ (2 ^ n) else varM n i * (2 ^ (2 ^ n) + 1)
def frc {α : Type} (n : Nat) (f : Nat → α) : α := match n with
  | 0 => f 0
  | k + 1 => f (k + 1)
def orV (N t v : Nat) : List Nat → Nat → Nat
  | [], _ => 0
  | g :: l, i => if t - (t &&& g) == 2 ^ v then varM N i ||| orV N t v l (i + 1) else orV N t v l (i + 1)
def rOut (R : Nat → Nat) (g : Nat) : Nat → Nat
  | 0 => 0
  | v + 1 => if g.testBit v then rOut R g v else R v ||| rOut R g v
def fitM (N : Nat) (R : Nat → Nat) : List Nat → Nat → Nat
  | [], _ => oneM N
  | g :: l, i => ((oneM N ^^^ varM N i) ||| rOut R g 6) &&& fitM N R l (i + 1)
def cntM (N : Nat) (R : Nat → Nat) : Nat → Nat → Nat
  | 0, 0 => oneM N
  | 0, _ + 1 => 0
  | v + 1, 0 => (oneM N ^^^ R v) &&& cntM N R v 0
  | v + 1, r + 1 => ((oneM N ^^^ R v) &&& cntM N R v (r + 1)) ||| (R v &&& cntM N R v r)
def sel (a b c d e f : Nat) : Nat → Nat
  | 0 => a | 1 => b | 2 => c | 3 => d | 4 => e | _ => f
def mStep (F : List Nat) (N t j : Nat) : List (Nat × Nat × Nat) :=
  frc (orV N t 0 F 0) fun a => frc (orV N t 1 F 0) fun b => frc (orV N t 2 F 0) fun c => frc (orV N t 3 F 0) fun d => frc (orV N t 4 F 0) fun e => frc (orV N t 5 F 0) fun f =>
  frc ((oneM N ^^^ varM N j) &&& fitM N (sel a b c d e f) F 0) fun m =>
  [0,1,2,3,4,5,6].map fun r => (j, r, m &&& cntM N (sel a b c d e f) 6 r)
def stps (F : List Nat) (N : Nat) : List Nat → Nat → List (Nat × Nat × Nat)
  | [], _ => []
  | t :: l, j => mStep F N t j ++ stps F N l (j + 1)
abbrev Lay := List (List Nat × Nat)
def ins (h : List Nat) (b : Nat) : Lay → Lay
  | [] => [(h, b)]
  | (h', b') :: l => if h = h' then (h', b ||| b') :: l else (h', b') :: ins h b l
def ins0 (h : List Nat) (b : Nat) (l : Lay) : Lay := frc b fun b => if b = 0 then l else ins h b l
def inc (h : List Nat) (r : Nat) : List Nat := h.set r (h.getD r 0 + 1)
def nxtE (h : List Nat) (b : Nat) : List (Nat × Nat × Nat) → Lay → Lay
  | [], acc => acc
  | (j, r, m) :: st, acc => nxtE h b st (ins0 (inc h r) ((b &&& m) <<< (2 ^ j)) acc)
def nxt (st : List (Nat × Nat × Nat)) : Lay → Lay
  | [] => []
  | (h, b) :: l => nxtE h b st (nxt st l)
def lay (st : List (Nat × Nat × Nat)) : Nat → Lay
  | 0 => [([0,0,0,0,0,0,0], 1)]
  | k + 1 => nxt st (lay st k)
def stD (d : Nat) : List (Nat × Nat × Nat) := stps (ffL d) (ffL d).length (ffL d) 0
theorem frc_eq {α : Type} (n : Nat) (f : Nat → α) : frc n f = f n := by cases n <;> rfl
theorem oneM_bit (N S : Nat) : (oneM N).testBit S = decide (S < 2 ^ N) := by
  unfold oneM; rw [Nat.testBit_two_pow_sub_one]
theorem varM_lt : ∀ n i : Nat, varM n i < 2 ^ (2 ^ n)
  | 0, _ => by simp [varM]
  | n + 1, i => by
    have e : 2 ^ (2 ^ (n + 1)) = 2 ^ (2 ^ n) * 2 ^ (2 ^ n) := by rw [← Nat.pow_add]; congr 1; rw [Nat.pow_succ]; omega
    have hp := Nat.two_pow_pos (2 ^ n)
    unfold varM
    split
    · rw [e]; exact Nat.mul_lt_mul_of_pos_right (by omega) hp
    · have := varM_lt n i
      rw [e]
      generalize 2 ^ (2 ^ n) = q at *
      have h1 : varM n i ≤ q - 1 := by omega
      have h2 : varM n i * (q + 1) ≤ (q - 1) * (q + 1) := Nat.mul_le_mul_right _ h1
      obtain ⟨p, rfl⟩ : ∃ p, q = p + 1 := ⟨q - 1, by omega⟩
      simp only [Nat.add_sub_cancel] at h2
      have h3 : (p + 1) * (p + 1) = p * (p + 1 + 1) + 1 := by
        simp only [Nat.mul_add, Nat.add_mul]; omega
      omega
theorem varM_bit : ∀ n i S : Nat, i < n → S < 2 ^ n → (varM n i).testBit S = S.testBit i
  | 0, _, _, h, _ => by omega
  | n + 1, i, S, hi, hS => by
    have e : 2 ^ (n + 1) = 2 ^ n + 2 ^ n := by rw [Nat.pow_succ]; omega
    unfold varM
    split
    · rename_i h
      subst h
      have e2 : (2 ^ (2 ^ i) - 1) * 2 ^ (2 ^ i) = 2 ^ (2 ^ i) * (2 ^ (2 ^ i) - 1) + 0 := by rw [Nat.mul_comm]; rfl
      rw [e2, Nat.testBit_two_pow_mul_add _ (Nat.two_pow_pos _)]
      split
      · rename_i h
        rw [Nat.testBit_lt_two_pow h]; simp
      · rename_i h
        rw [Nat.testBit_two_pow_sub_one]
        obtain ⟨S', rfl⟩ : ∃ S', S = 2 ^ i + S' := ⟨S - 2 ^ i, by omega⟩
        rw [Nat.testBit_two_pow_add_eq, Nat.testBit_lt_two_pow (by omega)]
        simp; omega
    · rename_i h
      have e2 : varM n i * (2 ^ (2 ^ n) + 1) = 2 ^ (2 ^ n) * varM n i + varM n i := by rw [Nat.mul_add, Nat.mul_one, Nat.mul_comm]
      rw [e2, Nat.testBit_two_pow_mul_add _ (varM_lt n i)]
      split
      · rename_i h2
        exact varM_bit n i S (by omega) h2
      · rename_i h2
        obtain ⟨S', rfl⟩ : ∃ S', S = 2 ^ n + S' := ⟨S - 2 ^ n, by omega⟩
        rw [Nat.add_sub_cancel_left, varM_bit n i S' (by omega) (by omega), Nat.testBit_two_pow_add_gt (by omega)]
theorem orV_bit {N t v S : Nat} (hS : S < 2 ^ N) : ∀ (l : List Nat) (i : Nat), i + l.length ≤ N → ((orV N t v l i).testBit S = true ↔ ∃ q, ∃ h : q < l.length, S.testBit (i + q) = true ∧ t - (t &&& l[q]) = 2 ^ v)
  | [], i, _ => by simp [orV]
  | g :: l, i, h => by
    simp only [List.length_cons] at h
    have ih := orV_bit (t := t) (v := v) hS l (i + 1) (by omega)
    have key : (∃ q, ∃ h : q < (g :: l).length, S.testBit (i + q) = true ∧ t - (t &&& (g :: l)[q]) = 2 ^ v) ↔ (S.testBit i = true ∧ t - (t &&& g) = 2 ^ v) ∨ ∃ q, ∃ h : q < l.length, S.testBit (i + 1 + q) = true ∧ t - (t &&& l[q]) = 2 ^ v := by
      constructor
      · rintro ⟨q, hq, h1, h2⟩
        cases q with
        | zero => exact .inl ⟨h1, h2⟩
        | succ q => exact .inr ⟨q, by simpa using hq, by rw [show i + 1 + q = i + (q + 1) by omega]; exact h1, by simpa using h2⟩
      · rintro (⟨h1, h2⟩ | ⟨q, hq, h1, h2⟩)
        · exact ⟨0, by simp, h1, h2⟩
        · exact ⟨q + 1, by simpa using hq, by rw [show i + (q + 1) = i + 1 + q by omega]; exact h1, by simpa using h2⟩
    rw [key]
    unfold orV
    split
    · rename_i hb
      rw [beq_iff_eq] at hb
      rw [Nat.testBit_or, Bool.or_eq_true, ih, varM_bit N i S (by omega) hS]
      simp [hb]
    · rename_i hb
      rw [beq_iff_eq] at hb
      rw [ih]
      simp [hb]
theorem rOut_bit {R : Nat → Nat} {g S : Nat} : ∀ n : Nat, ((rOut R g n).testBit S = true ↔ ∃ v, v < n ∧ g.testBit v = false ∧ (R v).testBit S = true)
  | 0 => by simp [rOut]
  | n + 1 => by
    have ih := rOut_bit (R := R) (g := g) (S := S) n
    have key : (∃ v, v < n + 1 ∧ g.testBit v = false ∧ (R v).testBit S = true) ↔ (g.testBit n = false ∧ (R n).testBit S = true) ∨ ∃ v, v < n ∧ g.testBit v = false ∧ (R v).testBit S = true := by
      constructor
      · rintro ⟨v, hv, h1, h2⟩
        by_cases e : v = n
        · subst e; exact .inl ⟨h1, h2⟩
        · exact .inr ⟨v, by omega, h1, h2⟩
      · rintro (⟨h1, h2⟩ | ⟨v, hv, h1, h2⟩)
        · exact ⟨n, by omega, h1, h2⟩
        · exact ⟨v, by omega, h1, h2⟩
    rw [key]
    unfold rOut
    cases hb : g.testBit n with
    | true => simp [ih]
    | false => simp only [Bool.false_eq_true, if_false, Nat.testBit_or, Bool.or_eq_true, ih, true_and]
theorem fitM_bit {N S : Nat} {R : Nat → Nat} (hS : S < 2 ^ N) : ∀ (l : List Nat) (i : Nat), i + l.length ≤ N → ((fitM N R l i).testBit S = true ↔ ∀ q, ∀ h : q < l.length, S.testBit (i + q) = true → ∃ v, v < 6 ∧ l[q].testBit v = false ∧ (R v).testBit S = true)
  | [], i, _ => by simp [fitM, oneM_bit, hS]
  | g :: l, i, h => by
    simp only [List.length_cons] at h
    have ih := fitM_bit (R := R) hS l (i + 1) (by omega)
    unfold fitM
    rw [Nat.testBit_and, Bool.and_eq_true, ih, Nat.testBit_or, Bool.or_eq_true, rOut_bit, Nat.testBit_xor, oneM_bit, varM_bit N i S (by omega) hS]
    simp only [hS, decide_true, Bool.true_xor, Bool.not_eq_true']
    constructor
    · rintro ⟨h1, h2⟩ q hq hb
      cases q with
      | zero =>
        rcases h1 with h1 | h1
        · rw [Nat.add_zero] at hb; rw [hb] at h1; cases h1
        · exact h1
      | succ q => exact h2 q (by simpa using hq) (by rw [show i + 1 + q = i + (q + 1) by omega]; exact hb)
    · intro hh
      refine ⟨?_, fun q hq hb => hh (q + 1) (by simpa using hq) (by rw [show i + (q + 1) = i + 1 + q by omega]; exact hb)⟩
      cases hb : S.testBit i with
      | false => exact .inl rfl
      | true => exact .inr (hh 0 (by simp) hb)
/-- How many of the masks hold S. -/
def cnS (R : Nat → Nat) (S : Nat) : Nat → Nat
  | 0 => 0
  | v + 1 => cnS R S v + (if (R v).testBit S = true then 1 else 0)
theorem cntM_bit {N S : Nat} {R : Nat → Nat} (hS : S < 2 ^ N) : ∀ n r : Nat, ((cntM N R n r).testBit S = true ↔ cnS R S n = r)
  | 0, 0 => by simp [cntM, oneM_bit, hS, cnS]
  | 0, r + 1 => by simp [cntM, cnS]
  | v + 1, 0 => by
    have ih := cntM_bit (R := R) hS v 0
    unfold cntM cnS
    rw [Nat.testBit_and, Bool.and_eq_true, ih, Nat.testBit_xor, oneM_bit]
    cases hb : (R v).testBit S <;> simp [hS]
  | v + 1, r + 1 => by
    have ih := cntM_bit (R := R) hS v (r + 1)
    have ih2 := cntM_bit (R := R) hS v r
    unfold cntM cnS
    rw [Nat.testBit_or, Nat.testBit_and, Nat.testBit_and, Bool.or_eq_true, Bool.and_eq_true, Bool.and_eq_true, ih, ih2, Nat.testBit_xor, oneM_bit]
    cases hb : (R v).testBit S <;> simp [hS]
theorem sel_eq (g : Nat → Nat) : ∀ v, v < 6 → sel (g 0) (g 1) (g 2) (g 3) (g 4) (g 5) v = g v
  | 0, _ => rfl | 1, _ => rfl | 2, _ => rfl | 3, _ => rfl | 4, _ => rfl | 5, _ => rfl
  | v + 6, h => by omega
theorem mem_stps {F : List Nat} {N j r : Nat} (hr : r < 7) : ∀ (l : List Nat) (i : Nat), j < l.length → ∃ m, (i + j, r, m) ∈ stps F N l i ∧ m = ((oneM N ^^^ varM N (i + j)) &&& fitM N (sel (orV N (l.getD j 0) 0 F 0) (orV N (l.getD j 0) 1 F 0) (orV N (l.getD j 0) 2 F 0) (orV N (l.getD j 0) 3 F 0) (orV N (l.getD j 0) 4 F 0) (orV N (l.getD j 0) 5 F 0)) F 0) &&&
      cntM N (sel (orV N (l.getD j 0) 0 F 0) (orV N (l.getD j 0) 1 F 0) (orV N (l.getD j 0) 2 F 0) (orV N (l.getD j 0) 3 F 0) (orV N (l.getD j 0) 4 F 0) (orV N (l.getD j 0) 5 F 0)) 6 r := by
  induction j with
  | zero =>
    intro l i h
    cases l with
    | nil => simp at h
    | cons t l =>
      refine ⟨_, ?_, rfl⟩
      unfold stps
      refine List.mem_append.2 (.inl ?_)
      unfold mStep
      simp only [frc_eq]
      have hm : r ∈ [0,1,2,3,4,5,6] := by
        have : r = 0 ∨ r = 1 ∨ r = 2 ∨ r = 3 ∨ r = 4 ∨ r = 5 ∨ r = 6 := by omega
        rcases this with rfl | rfl | rfl | rfl | rfl | rfl | rfl <;> simp
      exact List.mem_map.2 ⟨r, hm, rfl⟩
  | succ j ih =>
    intro l i h
    cases l with
    | nil => simp at h
    | cons t l =>
      obtain ⟨m, h1, h2⟩ := ih l (i + 1) (by simpa using h)
      refine ⟨m, ?_, ?_⟩
      · unfold stps
        refine List.mem_append.2 (.inr ?_)
        rw [show i + (j + 1) = i + 1 + j by omega]
        exact h1
      · rw [h2, show i + (j + 1) = i + 1 + j by omega]
        simp only [List.getD_cons_succ]
def hasL (l : Lay) (h : List Nat) (S : Nat) : Prop := ∃ b, (h, b) ∈ l ∧ b.testBit S = true
theorem ins_has {h : List Nat} {b : Nat} {h' : List Nat} {S : Nat} : ∀ {l : Lay}, (h' = h ∧ b.testBit S = true) ∨ hasL l h' S → hasL (ins h b l) h' S
  | [], .inl ⟨e, hb⟩ => ⟨b, by simp [ins, e], hb⟩
  | [], .inr ⟨_, hm, _⟩ => by simp at hm
  | (h2, b2) :: l, H => by
    unfold ins
    split
    · rename_i e
      subst e
      rcases H with ⟨e, hb⟩ | ⟨b3, hm, hb⟩
      · exact ⟨b ||| b2, by simp [e], by rw [Nat.testBit_or, hb]; rfl⟩
      · rcases List.mem_cons.1 hm with e | hm
        · injection e with e1 e2
          subst e1 e2
          exact ⟨b ||| b3, by simp, by rw [Nat.testBit_or, hb]; simp⟩
        · exact ⟨b3, by simp [hm], hb⟩
    · rcases H with ⟨e, hb⟩ | ⟨b3, hm, hb⟩
      · obtain ⟨b4, m4, t4⟩ := ins_has (l := l) (.inl ⟨e, hb⟩)
        exact ⟨b4, by simp [m4], t4⟩
      · rcases List.mem_cons.1 hm with e | hm
        · injection e with e1 e2
          subst e1 e2
          exact ⟨b3, by simp, hb⟩
        · obtain ⟨b4, m4, t4⟩ := ins_has (h := h) (b := b) (l := l) (.inr ⟨b3, hm, hb⟩)
          exact ⟨b4, by simp [m4], t4⟩
theorem ins0_has {h : List Nat} {b : Nat} {h' : List Nat} {S : Nat} {l : Lay} (H : (h' = h ∧ b.testBit S = true) ∨ hasL l h' S) : hasL (ins0 h b l) h' S := by
  unfold ins0
  rw [frc_eq]
  split
  · rename_i e
    subst e
    rcases H with ⟨_, hb⟩ | H
    · simp at hb
    · exact H
  · exact ins_has H
theorem nxtE_keep {h : List Nat} {b : Nat} {h' : List Nat} {S : Nat} : ∀ (st : List (Nat × Nat × Nat)) (acc : Lay), hasL acc h' S → hasL (nxtE h b st acc) h' S
  | [], acc, H => H
  | (j, r, m) :: st, acc, H => nxtE_keep st _ (ins0_has (.inr H))
theorem nxtE_new {h : List Nat} {b : Nat} {S j r m : Nat} : ∀ (st : List (Nat × Nat × Nat)) (acc : Lay), (j, r, m) ∈ st → b.testBit S = true → m.testBit S = true → hasL (nxtE h b st acc) (inc h r) (2 ^ j + S)
  | [], _, hm, _, _ => by simp at hm
  | x :: st, acc, hm, hb, hmS => by
    obtain ⟨j2, r2, m2⟩ := x
    rcases List.mem_cons.1 hm with e | hm
    · simp only [Prod.mk.injEq] at e
      obtain ⟨rfl, rfl, rfl⟩ := e
      exact nxtE_keep st _ (ins0_has (.inl ⟨rfl, by rw [Nat.testBit_shiftLeft, Nat.testBit_and, Nat.add_sub_cancel_left, hb, hmS]; simp⟩))
    · exact nxtE_new st _ hm hb hmS
theorem nxt_new {S j r m : Nat} {st : List (Nat × Nat × Nat)} (hm : (j, r, m) ∈ st) (hmS : m.testBit S = true) {h : List Nat} : ∀ {l : Lay}, hasL l h S → hasL (nxt st l) (inc h r) (2 ^ j + S)
  | [], ⟨_, hx, _⟩ => by simp at hx
  | (h2, b2) :: l, ⟨b, hx, hb⟩ => by
    unfold nxt
    rcases List.mem_cons.1 hx with e | hx
    · injection e with e1 e2
      subst e1 e2
      exact nxtE_new st _ hm hb hmS
    · exact nxtE_keep st _ (nxt_new hm hmS ⟨b, hx, hb⟩)
theorem add_or {S j : Nat} (h : S.testBit j = false) : 2 ^ j + S = S ||| 2 ^ j := by
  have hp := Nat.two_pow_pos (j + 1)
  have e1 : S = 2 ^ (j + 1) * (S / 2 ^ (j + 1)) + S % 2 ^ (j + 1) := (Nat.div_add_mod S _).symm
  have hb : S % 2 ^ (j + 1) < 2 ^ j := by
    apply Nat.lt_pow_two_of_testBit
    intro i hi
    rw [Nat.testBit_mod_two_pow]
    by_cases e : i = j
    · subst e; rw [h]; simp
    · have : ¬ i < j + 1 := by omega
      simp [this]
  have e2 : 2 ^ (j + 1) = 2 ^ j + 2 ^ j := by rw [Nat.pow_succ]; omega
  have e3 : 2 ^ j + S = 2 ^ (j + 1) * (S / 2 ^ (j + 1)) + (2 ^ j + S % 2 ^ (j + 1)) := by omega
  apply Nat.eq_of_testBit_eq
  intro i
  rw [e3, Nat.testBit_two_pow_mul_add _ (by omega), Nat.testBit_or, Nat.testBit_two_pow]
  by_cases hi : i < j + 1
  · rw [if_pos hi]
    have e4 : S.testBit i = (S % 2 ^ (j + 1)).testBit i := by rw [Nat.testBit_mod_two_pow]; simp [hi]
    rw [e4]
    by_cases e : i = j
    · subst e
      rw [Nat.testBit_two_pow_add_eq, Nat.testBit_lt_two_pow hb]; simp
    · rw [Nat.testBit_two_pow_add_gt (by omega)]
      have : ¬ j = i := fun h => e h.symm
      simp [this]
  · rw [if_neg hi]
    have e4 : S.testBit i = (S / 2 ^ (j + 1)).testBit (i - (j + 1)) := by
      rw [Nat.testBit_div_two_pow]; congr 1; omega
    have : ¬ j = i := by omega
    rw [e4]; simp [this]
def RvP (P : List Nat) (t v : Nat) : Prop := ∃ g ∈ P, t - (t &&& g) = 2 ^ v
open Classical in
noncomputable def rcN (P : List Nat) (t : Nat) : Nat → Nat
  | 0 => 0
  | v + 1 => rcN P t v + (if RvP P t v then 1 else 0)
theorem rcN_le (P : List Nat) (t : Nat) : ∀ n, rcN P t n ≤ n
  | 0 => Nat.le_refl _
  | n + 1 => by have := rcN_le P t n; unfold rcN; split <;> omega
def sdK (F L : List Nat) : Nat → Nat
  | 0 => 0
  | k + 1 => 2 ^ (F.idxOf (L.getD k 0)) + sdK F L k
noncomputable def hstK (L : List Nat) : Nat → List Nat
  | 0 => [0,0,0,0,0,0,0]
  | k + 1 => inc (hstK L k) (rcN (L.take k) (L.getD k 0) 6)
structure ShN (F L : List Nat) : Prop where
  mem : ∀ g ∈ L, g ∈ F
  nd : L.Nodup
  fit : ∀ k, k < L.length → ∀ g ∈ L.take k, ∃ v, v < 6 ∧ g.testBit v = false ∧ RvP (L.take k) (L.getD k 0) v
theorem take_snoc {L : List Nat} {k : Nat} (h : k < L.length) : L.take (k + 1) = L.take k ++ [L.getD k 0] := by
  rw [List.take_succ_eq_append_getElem h, List.getD_eq_getElem?_getD, List.getElem?_eq_getElem h]; rfl
theorem getD_notin {L : List Nat} (hn : L.Nodup) {k : Nat} (h : k < L.length) : L.getD k 0 ∉ L.take k := by
  have h2 : (L.take (k + 1)).Nodup := hn.sublist (List.take_sublist _ _)
  rw [take_snoc h, List.nodup_append] at h2
  intro hm
  exact h2.2.2 _ hm _ (by simp) rfl
theorem sd_bit {F L : List Nat} (hF : F.Nodup) (h : ShN F L) : ∀ k, k ≤ L.length → sdK F L k < 2 ^ F.length ∧ ∀ q, ∀ hq : q < F.length, ((sdK F L k).testBit q = true ↔ F[q] ∈ L.take k)
  | 0, _ => ⟨Nat.two_pow_pos _, by simp [sdK]⟩
  | k + 1, hk => by
    obtain ⟨h1, h2⟩ := sd_bit hF h k (by omega)
    have hkl : k < L.length := by omega
    have hm : L.getD k 0 ∈ F := h.mem _ (by rw [List.getD_eq_getElem?_getD, List.getElem?_eq_getElem hkl]; exact List.getElem_mem hkl)
    have hj : F.idxOf (L.getD k 0) < F.length := List.idxOf_lt_length_of_mem hm
    have hg : F[F.idxOf (L.getD k 0)] = L.getD k 0 := List.getElem_idxOf hj
    have hnb : (sdK F L k).testBit (F.idxOf (L.getD k 0)) = false := by
      cases hb : (sdK F L k).testBit (F.idxOf (L.getD k 0)) with
      | false => rfl
      | true => exact absurd (hg ▸ (h2 _ hj).1 hb) (getD_notin h.nd hkl)
    have e : sdK F L (k + 1) = sdK F L k ||| 2 ^ (F.idxOf (L.getD k 0)) := add_or hnb
    rw [e, take_snoc hkl]
    refine ⟨Nat.or_lt_two_pow h1 (Nat.pow_lt_pow_right (by omega) hj), fun q hq => ?_⟩
    rw [Nat.testBit_or, Bool.or_eq_true, h2 q hq, Nat.testBit_two_pow, decide_eq_true_eq, List.mem_append, List.mem_singleton]
    constructor
    · rintro (a | a)
      · exact .inl a
      · subst a; exact .inr hg
    · rintro (a | a)
      · exact .inl a
      · right
        rw [← a]
        exact hF.idxOf_getElem q hq
theorem rv_bit {F L : List Nat} (hF : F.Nodup) (h : ShN F L) {k : Nat} (hk : k ≤ L.length) (t v : Nat) : (orV F.length t v F 0).testBit (sdK F L k) = true ↔ RvP (L.take k) t v := by
  obtain ⟨h1, h2⟩ := sd_bit hF h k hk
  rw [orV_bit h1 F 0 (by omega)]
  unfold RvP
  constructor
  · rintro ⟨q, hq, a, b⟩
    rw [Nat.zero_add] at a
    exact ⟨_, (h2 q hq).1 a, b⟩
  · rintro ⟨g, a, b⟩
    have hm : g ∈ F := h.mem _ (List.mem_of_mem_take a)
    have hj : F.idxOf g < F.length := List.idxOf_lt_length_of_mem hm
    have hg : F[F.idxOf g] = g := List.getElem_idxOf hj
    exact ⟨F.idxOf g, hj, by rw [Nat.zero_add]; exact (h2 _ hj).2 (by rw [hg]; exact a), by rw [hg]; exact b⟩
theorem reach {F L : List Nat} (hF : F.Nodup) (h : ShN F L) : ∀ k, k ≤ L.length → hasL (lay (stps F F.length F 0) k) (hstK L k) (sdK F L k)
  | 0, _ => ⟨1, by simp [lay, hstK], by simp [sdK]⟩
  | k + 1, hk => by
    have ih := reach hF h k (by omega)
    obtain ⟨h1, h2⟩ := sd_bit hF h k (by omega)
    have hkl : k < L.length := by omega
    have hm : L.getD k 0 ∈ F := h.mem _ (by rw [List.getD_eq_getElem?_getD, List.getElem?_eq_getElem hkl]; exact List.getElem_mem hkl)
    have hj : F.idxOf (L.getD k 0) < F.length := List.idxOf_lt_length_of_mem hm
    have hg : F[F.idxOf (L.getD k 0)] = L.getD k 0 := List.getElem_idxOf hj
    have hgD : F.getD (F.idxOf (L.getD k 0)) 0 = L.getD k 0 := by rw [List.getD_eq_getElem?_getD, List.getElem?_eq_getElem hj, hg]; rfl
    have hr := rcN_le (L.take k) (L.getD k 0) 6
    obtain ⟨m, m1, m2⟩ := mem_stps (F := F) (N := F.length) (j := F.idxOf (L.getD k 0)) (r := rcN (L.take k) (L.getD k 0) 6) (by omega) F 0 hj
    rw [Nat.zero_add, hgD] at m2
    rw [Nat.zero_add] at m1
    have hR : ∀ v, v < 6 → ((sel (orV F.length (L.getD k 0) 0 F 0) (orV F.length (L.getD k 0) 1 F 0) (orV F.length (L.getD k 0) 2 F 0) (orV F.length (L.getD k 0) 3 F 0) (orV F.length (L.getD k 0) 4 F 0) (orV F.length (L.getD k 0) 5 F 0) v).testBit (sdK F L k) = true ↔ RvP (L.take k) (L.getD k 0) v) := fun v hv => by
      rw [sel_eq (fun v => orV F.length (L.getD k 0) v F 0) v hv]
      exact rv_bit hF h (by omega) _ v
    generalize sel (orV F.length (L.getD k 0) 0 F 0) (orV F.length (L.getD k 0) 1 F 0) (orV F.length (L.getD k 0) 2 F 0) (orV F.length (L.getD k 0) 3 F 0) (orV F.length (L.getD k 0) 4 F 0) (orV F.length (L.getD k 0) 5 F 0) = R at *
    refine nxt_new m1 ?_ ih
    have hc : ∀ n, n ≤ 6 → cnS R (sdK F L k) n = rcN (L.take k) (L.getD k 0) n := by
      intro n
      induction n with
      | zero => intro _; rfl
      | succ n ihn =>
        intro hn
        unfold cnS rcN
        rw [ihn (by omega)]
        by_cases hv : RvP (L.take k) (L.getD k 0) n
        · rw [if_pos hv, if_pos ((hR n (by omega)).2 hv)]
        · rw [if_neg hv, if_neg fun h => hv ((hR n (by omega)).1 h)]
    rw [m2, Nat.testBit_and, Nat.testBit_and, Bool.and_eq_true, Bool.and_eq_true, cntM_bit h1, fitM_bit h1 F 0 (by omega), Nat.testBit_xor, oneM_bit, varM_bit _ _ _ hj h1]
    refine ⟨⟨?_, fun q hq hb => ?_⟩, hc 6 (Nat.le_refl _)⟩
    · have hnb : (sdK F L k).testBit (F.idxOf (L.getD k 0)) = false := by
        cases hb : (sdK F L k).testBit (F.idxOf (L.getD k 0)) with
        | false => rfl
        | true => exact absurd (hg ▸ (h2 _ hj).1 hb) (getD_notin h.nd hkl)
      simp only [h1, decide_true, hnb, Bool.true_xor, Bool.not_false]
    · rw [Nat.zero_add] at hb
      obtain ⟨v, a, b, c⟩ := h.fit k hkl _ ((h2 q hq).1 hb)
      exact ⟨v, a, b, (hR v a).2 c⟩
def chkL (ok : List Nat → Bool) (st : List (Nat × Nat × Nat)) : Nat → Lay → Bool
  | 0, _ => true
  | k + 1, l => (nxt st l).all (fun x => ok x.1) && chkL ok st k (nxt st l)
theorem chkL_ok {ok : List Nat → Bool} {st : List (Nat × Nat × Nat)} : ∀ (n k : Nat), chkL ok st n (lay st k) = true → ∀ q, k < q → q ≤ k + n → ∀ h S, hasL (lay st q) h S → ok h = true
  | 0, k, _, q, h1, h2 => by omega
  | n + 1, k, hc, q, h1, h2 => by
    unfold chkL at hc
    rw [Bool.and_eq_true, List.all_eq_true] at hc
    obtain ⟨c1, c2⟩ := hc
    by_cases e : q = k + 1
    · subst e
      rintro h S ⟨b, hb, _⟩
      exact c1 _ hb
    · exact chkL_ok n (k + 1) c2 q (by omega) (by omega)
end Go.Proofs.Ytmemomfffehnkaa
namespace Go.Proofs.Ytmemomfffehnkaa
open Go Go.RowKit
set_option maxRecDepth 1000000
set_option linter.unusedSimpArgs false
set_option linter.unusedVariables false
set_option maxHeartbeats 1000000
/-- Choose as the program counts it, in numbers of 64 bits. -/
def cwM (n : Int) : Nat → Int
  | 0 => 1
  | k + 1 => IntKind.i64.wrap ((IntKind.i64.wrap (cwM n k * (n - (k : Int)))).tdiv ((k : Int) + 1))
noncomputable def cwV (n k : Int) : Int := @ite _ (0 ≤ k ∧ k ≤ n) (Classical.propDecidable _) (cwM n k.toNat) 0
def sc_s_l11Choose_L0 : SC := (.seq (.seq (.reg [⟨(some 14), none, (.mov (.t 6))⟩, ⟨(some 15), none, (.mov (.t 1))⟩, ⟨(some 16), none, (.bin false .lss (.t 14) (.t 15))⟩]) (.cond (.t 16) .skip (.exit 0))) (.seq (.block 1 (.reg [⟨(some 19), none, (.mov (.t 5))⟩, ⟨(some 20), none, (.mov (.t 0))⟩, ⟨(some 21), none, (.mov (.t 6))⟩, ⟨(some 22), none, (.bin false .sub (.t 20) (.t 21))⟩, ⟨(some 23), none, (.bin false .mul (.t 19) (.t 22))⟩, ⟨(some 24), none, (.mov (.t 6))⟩, ⟨(some 25), none, (.bin false .add (.t 24) (.c (.int .i64 1)))⟩, ⟨(some 26), none, (.bin false .quo (.t 23) (.t 25))⟩, ⟨(some 5), none, (.mov (.t 26))⟩])) (.reg [⟨(some 17), none, (.mov (.t 6))⟩, ⟨(some 18), none, (.bin false .add (.t 17) (.c (.int .i64 1)))⟩, ⟨(some 6), none, (.mov (.t 18))⟩])))
def sc_s_l11Choose : SC := (.seq (.reg [⟨(some 4), none, (.mov (.c (.int .i64 0)))⟩]) (.seq (.seq (.reg [⟨(some 7), none, (.mov (.t 1))⟩, ⟨(some 8), none, (.bin false .lss (.t 7) (.c (.int .i64 0)))⟩, ⟨(some 9), none, (.mov (.t 8))⟩, ⟨(some 10), (some (9, false)), (.mov (.t 1))⟩, ⟨(some 11), (some (9, false)), (.mov (.t 0))⟩, ⟨(some 12), (some (9, false)), (.bin false .gtr (.t 10) (.t 11))⟩, ⟨(some 13), none, (.pick (.t 9) (.c (.bool true)) (.t 12))⟩]) (.cond (.t 13) (.seq (.reg [⟨(some 4), none, (.mov (.c (.int .i64 0)))⟩]) .ret) .skip)) (.seq (.reg [⟨(some 5), none, (.mov (.c (.int .i64 1)))⟩]) (.seq (.seq (.reg [⟨(some 6), none, (.mov (.c (.int .i64 0)))⟩]) (.block 0 (.loop sc_s_l11Choose_L0))) (.seq (.reg [⟨(some 27), none, (.mov (.t 5))⟩, ⟨(some 4), none, (.mov (.t 27))⟩]) .ret)))))
theorem code_s_l11Choose : fnCode Try.prog [] 170 = some (28, sc_s_l11Choose, [(4, none)]) := by kernel_rfl
noncomputable def F_s_l11Choose : List V → Option V := F2 dI dI fun n k => @ite _ (n ≤ 4000) (Classical.propDecidable _) (some (.int .i64 (cwV n k))) none
theorem fn_s_l11Choose : FnOk Try.prog 170 F_s_l11Choose := by
  have env := envNil_ok (P := Try.prog)
  refine fn_ok code_s_l11Choose mixed env ?_
  intro args r h hb
  obtain ⟨_, _, n, k, rfl, h1, h2, h4⟩ := F2_inv h
  cases dI_inv h1
  cases dI_inv h2
  simp only [Option.ite_none_right_eq_some, Option.some.injEq] at h4
  obtain ⟨hn2, rfl⟩ := h4
  clear h h1 h2 hb
  refine ⟨by simp, fun w0 U0 L0 N0 => ?_⟩
  by_cases hc : 0 ≤ k ∧ k ≤ n
  rotate_left
  · have e : cwV n k = 0 := if_neg hc
    rw [e]
    by_cases h1 : k < 0
    · simp -implicitDefEqProofs [sc_s_l11Choose, h1]
    · have h2 : n < k := by omega
      simp -implicitDefEqProofs [sc_s_l11Choose, h1, h2]
  obtain ⟨k0, kn⟩ := hc
  have e : cwV n k = cwM n k.toNat := if_pos ⟨k0, kn⟩
  rw [e]
  have h1 : ¬ k < 0 := by omega
  have h2 : ¬ n < k := by omega
  have hs : ∀ i, cwM n (i + 1) = IntKind.i64.wrap ((IntKind.i64.wrap (cwM n i * (n - (i : Int)))).tdiv ((i : Int) + 1)) := fun i => rfl
  have h0 : cwM n 0 = 1 := rfl
  generalize cwM n = f at *
  simp -implicitDefEqProofs [sc_s_l11Choose, h1, h2]
  refine loopI env mixed (fun i : Nat => [(0, .int .i64 n), (1, .int .i64 k), (5, .int .i64 (f i)), (6, .int .i64 (i : Int))]) (fun _ => ([], 0)) (fun i => (i : Int) ≤ k) (fun i => k.toNat - i) 0 (by simpa using k0) (SubI.slots rfl (by simp [h0])) ?_
  intro i hi
  by_cases hlt : (i : Int) < k
  · have w1 : IntKind.i64.wrap (n - (i : Int)) = n - (i : Int) := wrapI _ (by omega) (by omega)
    have w3 : IntKind.i64.wrap ((i : Int) + 1) = (i : Int) + 1 := wrapI _ (by omega) (by omega)
    have w4 := hs i
    have hne : ¬ ((i : Int) + 1 = 0) := by omega
    simp -implicitDefEqProofs [sc_s_l11Choose_L0, hlt, w1, w3, hne]
    repeat' (first | omega | apply And.intro)
    exact Again.of (i + 1) (by omega) (by omega) (SubI.slots rfl (by simp (disch := omega) [wrapI, w4]))
  · have hk : k.toNat = i := by omega
    rw [hk]
    generalize f i = a at *
    simp -implicitDefEqProofs [sc_s_l11Choose_L0, hlt]
def sc_i_chooseAny_L0 : SC := (.seq (.seq (.reg [⟨(some 14), none, (.mov (.t 6))⟩, ⟨(some 15), none, (.mov (.t 1))⟩, ⟨(some 16), none, (.bin false .lss (.t 14) (.t 15))⟩]) (.cond (.t 16) .skip (.exit 0))) (.seq (.block 1 (.reg [⟨(some 19), none, (.mov (.t 5))⟩, ⟨(some 20), none, (.mov (.t 0))⟩, ⟨(some 21), none, (.mov (.t 6))⟩, ⟨(some 22), none, (.bin false .sub (.t 20) (.t 21))⟩, ⟨(some 23), none, (.bin false .mul (.t 19) (.t 22))⟩, ⟨(some 24), none, (.mov (.t 6))⟩, ⟨(some 25), none, (.bin false .add (.t 24) (.c (.int .i64 1)))⟩, ⟨(some 26), none, (.bin false .quo (.t 23) (.t 25))⟩, ⟨(some 5), none, (.mov (.t 26))⟩])) (.reg [⟨(some 17), none, (.mov (.t 6))⟩, ⟨(some 18), none, (.bin false .add (.t 17) (.c (.int .i64 1)))⟩, ⟨(some 6), none, (.mov (.t 18))⟩])))
def sc_i_chooseAny : SC := (.seq (.reg [⟨(some 4), none, (.mov (.c (.int .i64 0)))⟩]) (.seq (.seq (.reg [⟨(some 7), none, (.mov (.t 1))⟩, ⟨(some 8), none, (.bin false .lss (.t 7) (.c (.int .i64 0)))⟩, ⟨(some 9), none, (.mov (.t 8))⟩, ⟨(some 10), (some (9, false)), (.mov (.t 1))⟩, ⟨(some 11), (some (9, false)), (.mov (.t 0))⟩, ⟨(some 12), (some (9, false)), (.bin false .gtr (.t 10) (.t 11))⟩, ⟨(some 13), none, (.pick (.t 9) (.c (.bool true)) (.t 12))⟩]) (.cond (.t 13) (.seq (.reg [⟨(some 4), none, (.mov (.c (.int .i64 0)))⟩]) .ret) .skip)) (.seq (.reg [⟨(some 5), none, (.mov (.c (.int .i64 1)))⟩]) (.seq (.seq (.reg [⟨(some 6), none, (.mov (.c (.int .i64 0)))⟩]) (.block 0 (.loop sc_i_chooseAny_L0))) (.seq (.reg [⟨(some 27), none, (.mov (.t 5))⟩, ⟨(some 4), none, (.mov (.t 27))⟩]) .ret)))))
theorem code_i_chooseAny : fnCode Try.prog [] 167 = some (28, sc_i_chooseAny, [(4, none)]) := by kernel_rfl
noncomputable def F_i_chooseAny : List V → Option V := F2 dI dI fun n k => @ite _ (n ≤ 4000) (Classical.propDecidable _) (some (.int .i64 (cwV n k))) none
theorem fn_i_chooseAny : FnOk Try.prog 167 F_i_chooseAny := by
  have env := envNil_ok (P := Try.prog)
  refine fn_ok code_i_chooseAny mixed env ?_
  intro args r h hb
  obtain ⟨_, _, n, k, rfl, h1, h2, h4⟩ := F2_inv h
  cases dI_inv h1
  cases dI_inv h2
  simp only [Option.ite_none_right_eq_some, Option.some.injEq] at h4
  obtain ⟨hn2, rfl⟩ := h4
  clear h h1 h2 hb
  refine ⟨by simp, fun w0 U0 L0 N0 => ?_⟩
  by_cases hc : 0 ≤ k ∧ k ≤ n
  rotate_left
  · have e : cwV n k = 0 := if_neg hc
    rw [e]
    by_cases h1 : k < 0
    · simp -implicitDefEqProofs [sc_i_chooseAny, h1]
    · have h2 : n < k := by omega
      simp -implicitDefEqProofs [sc_i_chooseAny, h1, h2]
  obtain ⟨k0, kn⟩ := hc
  have e : cwV n k = cwM n k.toNat := if_pos ⟨k0, kn⟩
  rw [e]
  have h1 : ¬ k < 0 := by omega
  have h2 : ¬ n < k := by omega
  have hs : ∀ i, cwM n (i + 1) = IntKind.i64.wrap ((IntKind.i64.wrap (cwM n i * (n - (i : Int)))).tdiv ((i : Int) + 1)) := fun i => rfl
  have h0 : cwM n 0 = 1 := rfl
  generalize cwM n = f at *
  simp -implicitDefEqProofs [sc_i_chooseAny, h1, h2]
  refine loopI env mixed (fun i : Nat => [(0, .int .i64 n), (1, .int .i64 k), (5, .int .i64 (f i)), (6, .int .i64 (i : Int))]) (fun _ => ([], 0)) (fun i => (i : Int) ≤ k) (fun i => k.toNat - i) 0 (by simpa using k0) (SubI.slots rfl (by simp [h0])) ?_
  intro i hi
  by_cases hlt : (i : Int) < k
  · have w1 : IntKind.i64.wrap (n - (i : Int)) = n - (i : Int) := wrapI _ (by omega) (by omega)
    have w3 : IntKind.i64.wrap ((i : Int) + 1) = (i : Int) + 1 := wrapI _ (by omega) (by omega)
    have w4 := hs i
    have hne : ¬ ((i : Int) + 1 = 0) := by omega
    simp -implicitDefEqProofs [sc_i_chooseAny_L0, hlt, w1, w3, hne]
    repeat' (first | omega | apply And.intro)
    exact Again.of (i + 1) (by omega) (by omega) (SubI.slots rfl (by simp (disch := omega) [wrapI, w4]))
  · have hk : k.toNat = i := by omega
    rw [hk]
    generalize f i = a at *
    simp -implicitDefEqProofs [sc_i_chooseAny_L0, hlt]
end Go.Proofs.Ytmemomfffehnkaa
