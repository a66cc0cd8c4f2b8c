import Derived.Test.YtmemomfffehnkaaKJ
namespace Go.Proofs.Ytmemomfffehnkaa
open Go Go.RowKit
set_option maxRecDepth 1000000
set_option linter.unusedSimpArgs false
set_option linter.unusedVariables false
set_option maxHeartbeats 1000000
/-- The sets of a family by size, those below k. -/
noncomputable def bySz (p : Int → Prop) (m k : Nat) : List (List Int) := (List.range m).map fun (z : Nat) => upS (fun s => p s ∧ sz s = (z : Int)) k
@[simp] theorem bySz_len (p : Int → Prop) (m k : Nat) : (bySz p m k).length = m := by simp [bySz]
theorem bySz_at {p : Int → Prop} {m k z : Nat} (h : z < m) : atR (bySz p m k) z = upS (fun s => p s ∧ sz s = (z : Int)) k := by
  rw [atR_eq (by simpa using h)]
  simp [bySz]
theorem bySz_none (p : Int → Prop) (m : Nat) : bySz p m 0 = List.replicate m [] := by
  apply List.ext_getElem (by simp)
  intro j h1 h2
  simp [bySz, upS]
theorem bySz_skip {p : Int → Prop} {m k : Nat} (h : ¬ p (k : Int)) : bySz p m (k + 1) = bySz p m k := by
  unfold bySz
  refine List.map_congr_left fun z _ => ?_
  rw [upS_neg fun h2 => h h2.1]
theorem bySz_step {p : Int → Prop} {m k z : Nat} (hp : p (k : Int)) (hz : sz (k : Int) = (z : Int)) : (bySz p m k).set z (upS (fun s => p s ∧ sz s = (z : Int)) k ++ [(k : Int)]) = bySz p m (k + 1) := by
  apply List.ext_getElem (by simp)
  intro j h1 h2
  rw [List.getElem_set]
  simp only [bySz, List.getElem_map, List.getElem_range]
  by_cases e : z = j
  · subst e
    rw [if_pos rfl, upS_pos ⟨hp, hz⟩]
  · rw [if_neg e, upS_neg fun h2 => e (by have := h2.2; omega)]
/-- The sets of one size, in order. -/
theorem upS_sets (p : Int → Prop) (z : Int) : upS (fun s => p s ∧ sz s = z) 64 = setsOf fun s => p s ∧ sz s = z := by
  refine sorted_ext ?_ (setsOf_sorted _) fun x => by rw [mem_upS64, mem_setsOf]
  refine upS_sorted.imp_of_mem ?_
  intro a b ha hb hab
  have h1 := (mem_upS64.1 ha).2.2
  have h2 := (mem_upS64.1 hb).2.2
  simp only [before, decide_eq_true_eq]
  omega
theorem bySz_sets {p : Int → Prop} {m z : Nat} (h : z < m) : atR (bySz p m 64) z = setsOf fun s => p s ∧ sz s = (z : Int) := by rw [bySz_at h, upS_sets]
noncomputable def bySR (p : Int → Prop) : List (List Int) := bySz p (topZ p + 1).toNat 64
theorem bySR_congr {p q : Int → Prop} (h : ∀ s, isS s → (p s ↔ q s)) : bySR p = bySR q := by
  unfold bySR bySz
  rw [topZ_congr h]
  refine List.map_congr_left fun z _ => ?_
  exact upS_congr (Nat.le_refl _) fun s hs => by rw [h s hs]
noncomputable def bySG (f : Int) : Option V := @ite _ (0 ≤ f ∧ f < 18446744073709551616) (Classical.propDecidable _) (some (.own 1 (rowsV (bySR (bitP f))))) none
theorem bySG_fam (p : Int → Prop) : bySG (fam p) = some (.own 1 (rowsV (bySR p))) := by
  unfold bySG
  rw [if_pos ⟨fam_nn p, fam_lt p⟩, bySR_congr fun s hs => bitP_fam hs]
noncomputable def F_i_bySize : List V → Option V := F1 dU bySG
def sc_i_bySize_L0 : SC := (.seq (.seq (.reg [⟨(some 10), none, (.mov (.t 4))⟩, ⟨(some 11), none, (.bin false .lss (.t 10) (.c (.int .i64 64)))⟩]) (.cond (.t 11) .skip (.exit 0))) (.seq (.block 1 (.seq (.reg [⟨(some 14), none, (.mov (.t 0))⟩, ⟨(some 15), none, (.mov (.t 4))⟩, ⟨(some 16), none, (.call 182 [(.t 14), (.t 15)])⟩]) (.cond (.t 16) (.seq (.reg [⟨(some 17), none, (.mov (.t 4))⟩, ⟨(some 18), none, (.call 181 [(.t 17)])⟩, ⟨(some 5), none, (.mov (.t 18))⟩]) (.reg [⟨(some 19), none, (.mov (.t 3))⟩, ⟨(some 20), none, (.mov (.t 5))⟩, ⟨(some 21), none, (.mov (.t 3))⟩, ⟨(some 22), none, (.mov (.t 5))⟩, ⟨(some 23), none, (.idx 1 (.t 21) (.t 22))⟩, ⟨(some 24), none, (.ld none .nil (.t 23))⟩, ⟨(some 25), none, (.mov (.t 4))⟩, ⟨(some 26), none, (.mks 1 1 [(.int .i64 0)] [(0, (1, (.t 25)))])⟩, ⟨(some 27), none, (.app 1 8 (.t 24) (.t 26))⟩, ⟨(some 28), none, (.idx 1 (.t 19) (.t 20))⟩, ⟨none, none, (.st 1 (.t 28) (.t 27))⟩])) .skip))) (.reg [⟨(some 12), none, (.mov (.t 4))⟩, ⟨(some 13), none, (.bin false .add (.t 12) (.c (.int .i64 1)))⟩, ⟨(some 4), none, (.mov (.t 13))⟩])))
def sc_i_bySize : SC := (.seq (.reg [⟨(some 2), none, (.mov (.c .nil))⟩]) (.seq (.reg [⟨(some 6), none, (.mov (.t 0))⟩, ⟨(some 7), none, (.call 150 [(.t 6)])⟩, ⟨(some 8), none, (.bin false .add (.t 7) (.c (.int .i64 1)))⟩, ⟨(some 9), none, (.mk 1 24 [.nil] (.t 8) (.t 8))⟩, ⟨(some 3), none, (.mov (.t 9))⟩]) (.seq (.seq (.reg [⟨(some 4), none, (.mov (.c (.int .i64 0)))⟩]) (.block 0 (.loop sc_i_bySize_L0))) (.seq (.reg [⟨(some 29), none, (.mov (.t 3))⟩, ⟨(some 2), none, (.mov (.t 29))⟩]) .ret))))
theorem code_i_bySize : fnCode Try.prog [] 207 = some (30, sc_i_bySize, [(2, none)]) := by kernel_rfl
theorem fn_i_bySize : FnOk Try.prog 207 F_i_bySize := by
  have env := (((envNil_ok (P := Try.prog)).add fn_i_topSize).add fn_i_hasSet).add fn_i_SizeOf
  refine fn_ok code_i_bySize mixed env ?_
  intro args r h hb
  obtain ⟨_, f, rfl, h1, h4⟩ := F1_inv h
  cases dU_inv h1
  clear h
  simp only [bySG, Option.ite_none_right_eq_some, Option.some.injEq] at h4
  obtain ⟨⟨hf1, hf2⟩, rfl⟩ := h4
  have hf := fam_bitP hf1 hf2
  generalize bitP f = p at *
  subst hf
  refine ⟨by simp, fun w0 U0 L0 N0 => ?_⟩
  clear hb
  have hg := topG_fam p
  have htb := topZ_bnd p
  have htg : ∀ s, isS s → p s → sz s ≤ topZ p := fun s hs hp => topZ_ge hs hp
  unfold bySR
  obtain ⟨m, hm⟩ : ∃ m : Nat, topZ p + 1 = m := ⟨(topZ p + 1).toNat, by omega⟩
  have hm2 : (topZ p + 1).toNat = m := by omega
  rw [hm2]
  have hw : IntKind.i64.wrap (topZ p + 1) = m := by rw [wrapI _ (by omega) (by omega), hm]
  simp -implicitDefEqProofs [sc_i_bySize, F_i_topSize, hg, hw]
  repeat' (first | omega | apply And.intro)
  refine loopI env mixed (fun k : Nat => [(0, .int .u64 (fam p)), (3, .sl 0 1 0 m), (4, .int .i64 (k : Int))]) (fun k => ([(0, rowsV (bySz p m k))], 1)) (fun k => k ≤ 64) (fun k => 64 - k) 0 (by simp) (SubI.nilAll 0 1 (by simp; rfl) (by simp) (SubI.slots (by simp [bySz_none, rowsV]) (by simp))) ?_
  intro k hk
  by_cases hlt : k < 64
  · have hlt' : (k : Int) < 64 := by omega
    have hkS := inS k hlt
    have hgs := hasG_fam (p := p) hkS
    by_cases hp : p (k : Int)
    · rw [dec_true hp] at hgs
      have r1 := sizeOf1_set hkS.1 hkS.2
      obtain ⟨z, hz⟩ : ∃ z : Nat, sz (k : Int) = z := ⟨(sz (k : Int)).toNat, by have := sz_nn (k : Int); omega⟩
      have hle := htg _ hkS hp
      have hzm : z < m := by omega
      rw [hz] at r1
      have hst := bySz_step (m := m) hp hz
      have hat := bySz_at (p := p) (k := k) hzm
      have hul := upS_len (fun s => p s ∧ sz s = (z : Int)) k
      generalize upS (fun s => p s ∧ sz s = (z : Int)) k = R at *
      have hg2 := rowsV_getD (m := bySz p m k) (i := z) .nil (by simpa using hzm)
      rw [hat] at hg2
      simp -implicitDefEqProofs [sc_i_bySize_L0, F_i_hasSet, F_i_SizeOf, hlt', hgs, r1, hzm, hat]
      have e3 : ints R ++ [V.int .i64 (k : Int)] = ints (R ++ [(k : Int)]) := by rw [← ints_app]; rfl
      rw [e3]
      refine ⟨by omega, by omega, Again.of (k + 1) (by omega) (by omega) ?_⟩
      refine SubI.fold 0 3 z 1 (R.length + 1) (cn := ints (R ++ [(k : Int)])) (co := (rowsV (bySz p m k)).set z (.sl 3 1 0 (R.length + 1))) (by simp) (by simp) (by simp [hzm]) (by simp) ?_
      refine SubI.ren (fun m => if m = 0 then some 0 else none) ?_ ?_ ?_ (by simp) (by simp)
      · simp (disch := omega) [subT, renV, ren1, wrapI]
      · simp [subH, hst]
      · intro m hm
        simp only at hm
        rw [if_neg (by omega)]
    · rw [dec_false hp] at hgs
      have e := bySz_skip (m := m) hp
      simp -implicitDefEqProofs [sc_i_bySize_L0, F_i_hasSet, hlt', hgs]
      repeat' (first | omega | apply And.intro)
      exact Again.of (k + 1) (by omega) (by omega) (SubI.slots (by simp [e]) (by simp (disch := omega) [wrapI]))
  · have : k = 64 := by omega
    subst this
    have ht : (bySz p m 64).take m = bySz p m 64 := List.take_of_length_le (by simp)
    simp -implicitDefEqProofs [sc_i_bySize_L0, ht]
end Go.Proofs.Ytmemomfffehnkaa
