import Derived.Test.YtmemomfffehnkaaIaE
namespace Go.Proofs.Ytmemomfffehnkaa
open Go Go.RowKit
set_option maxRecDepth 1000000
set_option linter.unusedSimpArgs false
set_option linter.unusedVariables false
set_option maxHeartbeats 1000000
def sc_i_FindDivision_L0 : SC := (.seq (.seq (.reg [⟨(some 27), none, (.mov (.t 5))⟩, ⟨(some 28), none, (.bin false .geq (.t 27) (.c (.int .i64 0)))⟩]) (.cond (.t 28) .skip (.exit 0))) (.seq (.block 1 (.dreg [⟨⟨(some 31), none, (.fad 1 (.t 4))⟩, false, false⟩, ⟨⟨(some 32), none, (.ld none .nil (.t 31))⟩, false, false⟩, ⟨⟨(some 33), none, (.mov (.t 5))⟩, false, false⟩, ⟨⟨(some 34), none, (.fad 1 (.t 4))⟩, false, false⟩, ⟨⟨(some 35), none, (.ld none .nil (.t 34))⟩, false, false⟩, ⟨⟨(some 36), none, (.mov (.t 5))⟩, false, false⟩, ⟨⟨(some 37), none, (.bin false .add (.t 36) (.c (.int .i64 1)))⟩, false, false⟩, ⟨⟨(some 38), none, (.idx 1 (.t 35) (.t 37))⟩, false, false⟩, ⟨⟨(some 39), none, (.ld none (.int .u64 0) (.t 38))⟩, false, false⟩, ⟨⟨(some 40), none, (.fad 1 (.t 1))⟩, false, false⟩, ⟨⟨(some 41), none, (.ld none .nil (.t 40))⟩, false, false⟩, ⟨⟨(some 42), none, (.mov (.t 5))⟩, false, false⟩, ⟨⟨(some 43), none, (.idx 1 (.t 41) (.t 42))⟩, false, false⟩, ⟨⟨(some 44), none, (.ld none (.int .i64 0) (.t 43))⟩, false, false⟩, ⟨⟨(some 45), none, (.call 183 [(.t 44)])⟩, false, false⟩, ⟨⟨(some 46), none, (.bin false .or (.t 39) (.t 45))⟩, false, false⟩, ⟨⟨(some 47), none, (.idx 1 (.t 32) (.t 33))⟩, false, false⟩, ⟨⟨none, none, (.st 1 (.t 47) (.t 46))⟩, true, false⟩])) (.reg [⟨(some 29), none, (.mov (.t 5))⟩, ⟨(some 30), none, (.bin false .sub (.t 29) (.c (.int .i64 1)))⟩, ⟨(some 5), none, (.mov (.t 30))⟩])))
def sc_i_FindDivision : SC := (.seq (.reg [⟨(some 1), none, (.box (.t 0))⟩, ⟨(some 2), none, (.mov (.c .nil))⟩, ⟨(some 3), none, (.mov (.c (.bool false)))⟩]) (.seq (.seq (.reg [⟨(some 6), none, (.ld (some 2) .undef (.t 1))⟩, ⟨(some 7), none, (.call 130 [(.t 6)])⟩, ⟨(some 8), none, (.un .not (.t 7))⟩, ⟨(some 9), none, (.mov (.t 8))⟩, ⟨(some 10), (some (9, false)), (.fad 1 (.t 1))⟩, ⟨(some 11), (some (9, false)), (.ld none .nil (.t 10))⟩, ⟨(some 12), (some (9, false)), (.len (.t 11))⟩, ⟨(some 13), (some (9, false)), (.bin false .gtr (.t 12) (.c (.int .i64 6)))⟩, ⟨(some 14), none, (.pick (.t 9) (.c (.bool true)) (.t 13))⟩]) (.cond (.t 14) (.seq (.reg [⟨(some 2), none, (.mov (.c .nil))⟩, ⟨(some 3), none, (.mov (.c (.bool false)))⟩]) .ret) .skip)) (.seq (.treg (.fst ⟨(some 15), none, (.fad 1 (.t 1))⟩ true (.fst ⟨(some 17), none, (.fad 1 (.t 1))⟩ true (.alt ⟨(some 16), none, (.ld none .nil (.t 15))⟩ false (.alt ⟨(some 18), none, (.ld none .nil (.t 17))⟩ false (.fst ⟨(some 19), none, (.len (.t 18))⟩ true (.fst ⟨(some 20), none, (.bin false .add (.t 19) (.c (.int .i64 1)))⟩ true (.alt ⟨(some 21), none, (.mk 1 8 [(.int .u64 0)] (.t 20) (.t 20))⟩ true (.fst ⟨(some 22), none, (.agg [.nil, .nil, .nil] [(0, (1, (.t 16))), (1, (1, (.t 21)))])⟩ true (.alt ⟨(some 4), none, (.new [.nil, .nil, .nil])⟩ true (.alt ⟨none, none, (.st 3 (.t 4) (.t 22))⟩ true .done .stop) .stop)) (.alt ⟨(some 4), none, (.new [.nil, .nil, .nil])⟩ true (.alt ⟨(some 21), none, (.mk 1 8 [(.int .u64 0)] (.t 20) (.t 20))⟩ true (.fst ⟨(some 22), none, (.agg [.nil, .nil, .nil] [(0, (1, (.t 16))), (1, (1, (.t 21)))])⟩ false (.alt ⟨none, none, (.st 3 (.t 4) (.t 22))⟩ true .done .stop)) .stop) .stop)))) (.alt ⟨(some 4), none, (.new [.nil, .nil, .nil])⟩ true (.fst ⟨(some 18), none, (.ld none .nil (.t 17))⟩ false (.fst ⟨(some 19), none, (.len (.t 18))⟩ false (.fst ⟨(some 20), none, (.bin false .add (.t 19) (.c (.int .i64 1)))⟩ false (.alt ⟨(some 21), none, (.mk 1 8 [(.int .u64 0)] (.t 20) (.t 20))⟩ true (.fst ⟨(some 22), none, (.agg [.nil, .nil, .nil] [(0, (1, (.t 16))), (1, (1, (.t 21)))])⟩ false (.alt ⟨none, none, (.st 3 (.t 4) (.t 22))⟩ true .done .stop)) .stop)))) .stop)) (.alt ⟨(some 18), none, (.ld none .nil (.t 17))⟩ false (.fst ⟨(some 19), none, (.len (.t 18))⟩ true (.fst ⟨(some 20), none, (.bin false .add (.t 19) (.c (.int .i64 1)))⟩ true (.alt ⟨(some 16), none, (.ld none .nil (.t 15))⟩ false (.alt ⟨(some 21), none, (.mk 1 8 [(.int .u64 0)] (.t 20) (.t 20))⟩ true (.fst ⟨(some 22), none, (.agg [.nil, .nil, .nil] [(0, (1, (.t 16))), (1, (1, (.t 21)))])⟩ true (.alt ⟨(some 4), none, (.new [.nil, .nil, .nil])⟩ true (.alt ⟨none, none, (.st 3 (.t 4) (.t 22))⟩ true .done .stop) .stop)) (.alt ⟨(some 4), none, (.new [.nil, .nil, .nil])⟩ true (.alt ⟨(some 21), none, (.mk 1 8 [(.int .u64 0)] (.t 20) (.t 20))⟩ true (.fst ⟨(some 22), none, (.agg [.nil, .nil, .nil] [(0, (1, (.t 16))), (1, (1, (.t 21)))])⟩ false (.alt ⟨none, none, (.st 3 (.t 4) (.t 22))⟩ true .done .stop)) .stop) .stop)) (.alt ⟨(some 21), none, (.mk 1 8 [(.int .u64 0)] (.t 20) (.t 20))⟩ true (.alt ⟨(some 16), none, (.ld none .nil (.t 15))⟩ false (.fst ⟨(some 22), none, (.agg [.nil, .nil, .nil] [(0, (1, (.t 16))), (1, (1, (.t 21)))])⟩ true (.alt ⟨(some 4), none, (.new [.nil, .nil, .nil])⟩ true (.alt ⟨none, none, (.st 3 (.t 4) (.t 22))⟩ true .done .stop) .stop)) (.alt ⟨(some 4), none, (.new [.nil, .nil, .nil])⟩ true (.fst ⟨(some 16), none, (.ld none .nil (.t 15))⟩ false (.fst ⟨(some 22), none, (.agg [.nil, .nil, .nil] [(0, (1, (.t 16))), (1, (1, (.t 21)))])⟩ false (.alt ⟨none, none, (.st 3 (.t 4) (.t 22))⟩ true .done .stop))) .stop)) (.alt ⟨(some 4), none, (.new [.nil, .nil, .nil])⟩ true (.alt ⟨(some 16), none, (.ld none .nil (.t 15))⟩ false (.alt ⟨(some 21), none, (.mk 1 8 [(.int .u64 0)] (.t 20) (.t 20))⟩ true (.fst ⟨(some 22), none, (.agg [.nil, .nil, .nil] [(0, (1, (.t 16))), (1, (1, (.t 21)))])⟩ false (.alt ⟨none, none, (.st 3 (.t 4) (.t 22))⟩ true .done .stop)) .stop) (.alt ⟨(some 21), none, (.mk 1 8 [(.int .u64 0)] (.t 20) (.t 20))⟩ true (.fst ⟨(some 16), none, (.ld none .nil (.t 15))⟩ false (.fst ⟨(some 22), none, (.agg [.nil, .nil, .nil] [(0, (1, (.t 16))), (1, (1, (.t 21)))])⟩ false (.alt ⟨none, none, (.st 3 (.t 4) (.t 22))⟩ true .done .stop))) .stop)) .stop))))) (.alt ⟨(some 4), none, (.new [.nil, .nil, .nil])⟩ true (.fst ⟨(some 18), none, (.ld none .nil (.t 17))⟩ false (.fst ⟨(some 19), none, (.len (.t 18))⟩ false (.fst ⟨(some 20), none, (.bin false .add (.t 19) (.c (.int .i64 1)))⟩ false (.alt ⟨(some 16), none, (.ld none .nil (.t 15))⟩ false (.alt ⟨(some 21), none, (.mk 1 8 [(.int .u64 0)] (.t 20) (.t 20))⟩ true (.fst ⟨(some 22), none, (.agg [.nil, .nil, .nil] [(0, (1, (.t 16))), (1, (1, (.t 21)))])⟩ false (.alt ⟨none, none, (.st 3 (.t 4) (.t 22))⟩ true .done .stop)) .stop) (.alt ⟨(some 21), none, (.mk 1 8 [(.int .u64 0)] (.t 20) (.t 20))⟩ true (.fst ⟨(some 16), none, (.ld none .nil (.t 15))⟩ false (.fst ⟨(some 22), none, (.agg [.nil, .nil, .nil] [(0, (1, (.t 16))), (1, (1, (.t 21)))])⟩ false (.alt ⟨none, none, (.st 3 (.t 4) (.t 22))⟩ true .done .stop))) .stop))))) .stop)))))) (.cut (.seq (.reg [⟨(some 23), none, (.fad 1 (.t 1))⟩, ⟨(some 24), none, (.ld none .nil (.t 23))⟩, ⟨(some 25), none, (.len (.t 24))⟩, ⟨(some 26), none, (.bin false .sub (.t 25) (.c (.int .i64 1)))⟩, ⟨(some 5), none, (.mov (.t 26))⟩]) (.block 0 (.loop sc_i_FindDivision_L0))) (.seq (.seq (.reg [⟨(some 48), none, (.call 202 [(.t 4), (.c (.int .i64 0)), (.c (.int .u64 0))])⟩, ⟨(some 49), none, (.un .not (.t 48))⟩]) (.cond (.t 49) (.seq (.reg [⟨(some 2), none, (.mov (.c .nil))⟩, ⟨(some 3), none, (.mov (.c (.bool false)))⟩]) .ret) .skip)) (.seq (.reg [⟨(some 50), none, (.fad 2 (.t 4))⟩, ⟨(some 51), none, (.ld none .nil (.t 50))⟩, ⟨(some 2), none, (.mov (.t 51))⟩, ⟨(some 3), none, (.mov (.c (.bool true)))⟩]) .ret))))))
theorem code_i_FindDivision : fnCode Try.prog [202, 888888] 111 = some (52, sc_i_FindDivision, [(2, none), (3, none)]) := by kernel_rfl
theorem nums_uRow (m : Nat) (R : Nat → Int → Prop) : numsC (uRow m R) := fun v hv => by
  obtain ⟨z, _, rfl⟩ := List.mem_map.1 hv
  exact ⟨_, _, rfl⟩
theorem later_step {l : List Int} {q : Nat} (hq : q < l.length) (u : Int) : laterP l q u ↔ laterP l (q + 1) u ∨ subS u (at0 l q) := by
  constructor
  · rintro ⟨j, h1, h2, h3⟩
    by_cases e : j = q
    · subst e; exact .inr h3
    · exact .inl ⟨j, by omega, h2, h3⟩
  · rintro (⟨j, h1, h2, h3⟩ | h)
    · exact ⟨j, by omega, h2, h3⟩
    · exact ⟨q, Nat.le_refl _, hq, h⟩
theorem fn_i_FindDivision : FnOk Try.prog 111 F_s_FindDivision := by
  have env := ((envNil_ok (P := Try.prog)).add fn_i_IsComplex).add fn_i_subsetFamily |>.addl (ln_i_divC 7)
  refine fn_ok code_i_FindDivision mixed env ?_
  intro args r h hb
  obtain ⟨_, ⟨n, l⟩, rfl, h1, h4⟩ := F1_inv h
  cases dC_inv h1
  cases h4
  clear h
  refine ⟨by simp, fun w0 U0 L0 N0 => ?_⟩
  clear hb
  simp only
  cases e0 : cplxB n l with
  | false =>
    have hP : ¬ fdvP n l := fun h => by simp [cplxB_iff.2 h.1] at e0
    rw [fdvL_no hP, dec_false hP]
    simp -implicitDefEqProofs [sc_i_FindDivision, F_s_IsComplex, e0]
  | true =>
  have hc := cplxB_iff.1 e0
  have hS := cplx_isS hc
  by_cases h6 : 6 < (l.length : Int)
  · have hP : ¬ fdvP n l := fun h => by have := h.2.1; omega
    rw [fdvL_no hP, dec_false hP]
    simp -implicitDefEqProofs [sc_i_FindDivision, F_s_IsComplex, e0, h6]
  have hl6 : l.length ≤ 6 := by omega
  have hh : hdD l [] := ⟨Nat.zero_le _, fun k hk => absurd hk (Nat.not_lt_zero _)⟩
  have hd0 : disP l [] := fun u _ m hm => absurd hm (Nat.not_lt_zero _)
  have hG := G_i_divC_at (n := 7) (head := []) hS hl6 hh hd0 (by simp; omega)
  have hcv0 : fam (covP l []) = 0 := fam_zero.2 fun u _ h => by obtain ⟨j, hj, _⟩ := h; exact absurd hj (Nat.not_lt_zero _)
  rw [hcv0] at hG
  have hG' : G_i_divC 7 [.pt 0 0, .int .i64 0, .int .u64 0] [.list 1 (ints l), .list 1 (uRow (l.length + 1) (laterP l)), .own 1 []] = some (.bool (dec (exD (dvD l) [])), [.list 1 (ints l), .list 1 (uRow (l.length + 1) (laterP l)), .own 1 (ints (fdR l []))]) := hG
  clear hG
  have hPi : fdvP n l ↔ exD (dvD l) [] := ⟨fun h => h.2.2, fun h => ⟨hc, hl6, h⟩⟩
  have unA : (uRow (l.length + 1) (laterP l)).all (nonm 5) = true := uRow_nm 4 _ _
  have hend : ∀ (x : Bool) (Y : List Int), dec (exD (dvD l) []) = x → (x = true → fdvL n l = fdR l []) ∧ (x = false → fdvL n l = []) ∧ dec (fdvP n l) = x := fun x Y h => by
    cases x with
    | true =>
      have h1 := dec_iff.1 h
      exact ⟨fun _ => by rw [fdvL_yes (hPi.2 h1), fdR_yes h1], fun h => by simp at h, dec_true (hPi.2 h1)⟩
    | false =>
      have h1 : ¬ exD (dvD l) [] := fun h2 => by rw [dec_true h2] at h; simp at h
      have h2 : ¬ fdvP n l := fun h3 => h1 (hPi.1 h3)
      exact ⟨fun h => by simp at h, fun _ => fdvL_no h2, dec_false h2⟩
  obtain ⟨he1, he2, he3⟩ := hend _ [] rfl
  rw [he3]
  have inner : ∀ (Q : Post) (T0 : Tm) (H0 : Hp), SubI 0 T0 H0 [(1, .pt 0 0), (4, .pt 1 0), (5, .int .i64 ((l.length : Int) - 1))] ([(2, uRow (l.length + 1) fun k u => l.length ≤ k ∧ laterP l k u), (1, [.list 1 (ints l), .sl 2 1 0 (l.length + 1), .nil]), (0, [.int .i64 n, .list 1 (ints l)])], 3) →
      Q (.exit 0) [(1, .pt 0 0), (4, .pt 1 0)] ([(2, uRow (l.length + 1) (laterP l)), (1, [.list 1 (ints l), .sl 2 1 0 (l.length + 1), .nil]), (0, [.int .i64 n, .list 1 (ints l)])], 3) →
      LoopI ⟨Try.prog, w0, U0, L0, N0, 0, 52⟩ [202, 888888] sc_i_FindDivision_L0 Q T0 H0 := by
    intro Q T0 H0 hsub q1
    refine loopQ env mixed (fun j : Nat => [(1, .pt 0 0), (4, .pt 1 0), (5, .int .i64 ((j : Int) - 1))]) (fun j => ([(2, uRow (l.length + 1) fun k u => j ≤ k ∧ laterP l k u), (1, [.list 1 (ints l), .sl 2 1 0 (l.length + 1), .nil]), (0, [.int .i64 n, .list 1 (ints l)])], 3)) (fun j => j ≤ l.length) (fun j => j) l.length (Nat.le_refl _) hsub ?_
    intro j hj
    cases j with
    | zero =>
      have e : (uRow (l.length + 1) fun k u => 0 ≤ k ∧ laterP l k u) = uRow (l.length + 1) (laterP l) := uRow_congr fun j _ t _ => ⟨fun h => h.2, fun h => ⟨Nat.zero_le _, h⟩⟩
      rw [e]
      simp -implicitDefEqProofs [-List.all_eq_true, sc_i_FindDivision_L0]
      exact SubQ.of (SubI.slots rfl (by simp)) q1
    | succ q =>
      have hq : q < l.length := by omega
      have hqS := allS_at hS hq
      have hj1 : (((q + 1 : Nat) : Int) - 1) = (q : Int) := by omega
      have u1 : ∀ h, (uRow (l.length + 1) fun k u => q + 1 ≤ k ∧ laterP l k u)[q + 1]'h = .int .u64 (fam (laterP l (q + 1))) := fun h => by simp [uRow]
      have e : (uRow (l.length + 1) fun k u => q + 1 ≤ k ∧ laterP l k u).set q (.int .u64 (fam fun u => laterP l (q + 1) u ∨ subS u (at0 l q))) = uRow (l.length + 1) fun k u => q ≤ k ∧ laterP l k u := by
        rw [uRow_set]
        refine uRow_congr fun k _ t _ => ?_
        by_cases ek : k = q
        · subst ek
          rw [if_pos rfl, later_step hq]
          exact ⟨fun h => ⟨Nat.le_refl _, h⟩, fun h => h.2⟩
        · rw [if_neg ek]
          exact ⟨fun h => ⟨by omega, h.2⟩, fun h => ⟨by omega, h.2⟩⟩
      have hUl : (uRow (l.length + 1) fun k u => q + 1 ≤ k ∧ laterP l k u).length = l.length + 1 := by simp
      rw [hj1]
      generalize (uRow (l.length + 1) fun k u => q + 1 ≤ k ∧ laterP l k u) = UR at *
      have hw1 : IntKind.i64.wrap ((q : Int) + 1) = ((q + 1 : Nat) : Int) := by rw [wrapI _ (by omega) (by omega)]; omega
      have hw2 : IntKind.i64.wrap ((q : Int) - 1) = (q : Int) - 1 := wrapI _ (by omega) (by omega)
      simp -implicitDefEqProofs [-List.all_eq_true, sc_i_FindDivision_L0, F_i_subsetFamily, hq, hqS, hw1, hw2, hUl, u1]
      repeat' (first | omega | apply And.intro)
      refine Again.of q (by omega) (by omega) (SubI.slots (by simp [e]) (by simp))
  have hz : (uRow (l.length + 1) fun k u => l.length ≤ k ∧ laterP l k u) = List.replicate (l.length + 1) (.int .u64 0) := by
    rw [uRow_none]
    exact uRow_congr fun j _ t _ => ⟨fun ⟨h1, j2, h3, h4, _⟩ => by omega, fun h => h.elim⟩
  have hw1 : IntKind.i64.wrap ((l.length : Int) + 1) = (l.length : Int) + 1 := wrapI _ (by omega) (by omega)
  have hw2 : IntKind.i64.wrap ((l.length : Int) - 1) = (l.length : Int) - 1 := wrapI _ (by omega) (by omega)
  simp -implicitDefEqProofs [-List.all_eq_true, sc_i_FindDivision, F_s_IsComplex, freeOk, e0, h6, hw1, hw2]
  repeat' (first | omega | apply And.intro)
  all_goals refine inner _ _ _ (by
    rw [← hz]
    first
    | (refine SubI.ren (fun m => if m = 0 then some 0 else if m = 1 then some 1 else if m = 2 then some 2 else none) ?_ ?_ ?_ (by simp) (by simp)
       · simp [subT, renV, ren1]
       · simp [-List.all_eq_true, subH, renL, ren1]
       · intro m hm
         simp only at hm
         rw [if_neg (by omega), if_neg (by omega), if_neg (by omega)])
    | (refine SubI.ren (fun m => if m = 0 then some 0 else if m = 1 then some 2 else if m = 2 then some 1 else none) ?_ ?_ ?_ (by simp) (by simp)
       · simp [subT, renV, ren1]
       · simp [-List.all_eq_true, subH, renL, ren1]
       · intro m hm
         simp only at hm
         rw [if_neg (by omega), if_neg (by omega), if_neg (by omega)])) ?_
  all_goals
    simp only [blockE, thenE, if_pos]
    refine CutI.of (l' := [(4, .pt 1 0)]) (s' := ([(1, [.list 1 (ints l), .list 1 (uRow (l.length + 1) (laterP l)), .own 1 []]), (0, [.int .i64 n, .list 1 (ints l)])], 4)) ?_ ?_
    · refine SubI.frzC 1 2 1 1 (l.length + 1) (cn := uRow (l.length + 1) (laterP l)) (co := [.list 1 (ints l), .sl 2 1 0 (l.length + 1), .nil]) rfl rfl rfl (by simp) (nums_uRow _ _) ?_
      refine SubI.nilCell 1 2 1 (co := [.list 1 (ints l), .list 1 (uRow (l.length + 1) (laterP l)), .nil]) rfl rfl ?_
      refine SubI.fold 1 3 2 1 0 (cn := []) (co := [.list 1 (ints l), .list 1 (uRow (l.length + 1) (laterP l)), .sl 3 1 0 0]) rfl rfl rfl rfl ?_
      exact SubI.slots (by simp [hset, hdel]) (by simp)
    generalize uRow (l.length + 1) (laterP l) = UR at *
    cases hx : dec (exD (dvD l) []) with
    | true =>
      rw [he1 hx]
      rw [hx] at hG'
      generalize fdR l [] = Y at *
      simp -implicitDefEqProofs [-List.all_eq_true, unA, hG', ren0]
      try omega
    | false =>
      rw [he2 hx]
      rw [hx] at hG'
      generalize fdR l [] = Y at *
      simp -implicitDefEqProofs [-List.all_eq_true, unA, hG', ren0]
      try omega
end Go.Proofs.Ytmemomfffehnkaa
