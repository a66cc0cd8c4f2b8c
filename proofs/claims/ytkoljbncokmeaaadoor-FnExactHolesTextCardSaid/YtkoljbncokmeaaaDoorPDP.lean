import Derived.Test.YtkoljbncokmeaaaDoorPDO
import Derived.Test.YtkoljbncokmeaaaDoorPDE
import Derived.Test.YtkoljbncokmeaaaDoorPDC
namespace Go.Proofs.YtkoljbncokmeaaaDoor
open Go Go.RowKit
set_option maxRecDepth 1000000
set_option linter.unusedSimpArgs false
set_option linter.unusedVariables false
set_option maxHeartbeats 1000000
def sc_i_HolesText_L2 : SC := (.seq (.reg [⟨(some 33), none, (.bin false .lss (.t 32) (.t 31))⟩]) (.seq (.cond (.t 33) .skip (.exit 2)) (.seq (.block 3 (.seq (.reg [⟨(some 34), none, (.idx 1 (.t 30) (.t 32))⟩, ⟨(some 35), none, (.ld none (.int .i64 0) (.t 34))⟩, ⟨(some 8), none, (.mov (.t 35))⟩]) (.reg [⟨(some 36), none, (.mov (.t 6))⟩, ⟨(some 37), none, (.mov (.t 8))⟩, ⟨(some 38), none, (.call 18 [(.t 37)])⟩, ⟨(some 39), none, (.bin false .add (.c (.str ⟨⟨[47]⟩⟩)) (.t 38))⟩, ⟨(some 40), none, (.bin false .add (.t 36) (.t 39))⟩, ⟨(some 6), none, (.mov (.t 40))⟩]))) (.reg [⟨(some 41), none, (.bin false .add (.t 32) (.c (.int .i64 1)))⟩, ⟨(some 32), none, (.mov (.t 41))⟩]))))
def sc_i_HolesText_L0 : SC := (.seq (.seq (.reg [⟨(some 17), none, (.mov (.t 5))⟩, ⟨(some 18), none, (.mov (.t 3))⟩, ⟨(some 19), none, (.len (.t 18))⟩, ⟨(some 20), none, (.bin false .lss (.t 17) (.t 19))⟩]) (.cond (.t 20) .skip (.exit 0))) (.seq (.block 1 (.seq (.reg [⟨(some 23), none, (.mov (.t 3))⟩, ⟨(some 24), none, (.mov (.t 5))⟩, ⟨(some 25), none, (.idx 1 (.t 23) (.t 24))⟩, ⟨(some 26), none, (.ld none (.int .i64 0) (.t 25))⟩, ⟨(some 27), none, (.call 18 [(.t 26)])⟩, ⟨(some 6), none, (.mov (.t 27))⟩]) (.seq (.seq (.reg [⟨(some 28), none, (.ld (some 2) .undef (.t 1))⟩, ⟨(some 29), none, (.mov (.t 5))⟩, ⟨(some 30), none, (.call 19 [(.t 28), (.t 29)])⟩, ⟨(some 31), none, (.len (.t 30))⟩, ⟨(some 32), none, (.mov (.c (.int .i64 0)))⟩]) (.block 2 (.loop sc_i_HolesText_L2))) (.reg [⟨(some 42), none, (.mov (.t 4))⟩, ⟨(some 43), none, (.mov (.t 6))⟩, ⟨(some 44), none, (.mks 1 1 [(.str ⟨⟨[]⟩⟩)] [(0, (1, (.t 43)))])⟩, ⟨(some 45), none, (.app 1 16 (.t 42) (.t 44))⟩, ⟨(some 4), none, (.mov (.t 45))⟩])))) (.reg [⟨(some 21), none, (.mov (.t 5))⟩, ⟨(some 22), none, (.bin false .add (.t 21) (.c (.int .i64 1)))⟩, ⟨(some 5), none, (.mov (.t 22))⟩])))
def sc_i_HolesText : SC := (.seq (.reg [⟨(some 1), none, (.box (.t 0))⟩, ⟨(some 2), none, (.mov (.c (.str ⟨⟨[]⟩⟩)))⟩]) (.seq (.seq (.reg [⟨(some 9), none, (.ld (some 2) .undef (.t 1))⟩, ⟨(some 10), none, (.call 16 [(.t 9)])⟩, ⟨(some 11), none, (.un .not (.t 10))⟩]) (.cond (.t 11) (.seq (.reg [⟨(some 2), none, (.mov (.c (.str ⟨⟨[]⟩⟩)))⟩]) .ret) .skip)) (.seq (.reg [⟨(some 12), none, (.ld (some 2) .undef (.t 1))⟩, ⟨(some 13), none, (.call 17 [(.t 12)])⟩, ⟨(some 3), none, (.mov (.t 13))⟩]) (.seq (.seq (.reg [⟨(some 14), none, (.mov (.t 3))⟩, ⟨(some 15), none, (.len (.t 14))⟩, ⟨(some 16), none, (.bin false .leq (.t 15) (.c (.int .i64 1)))⟩]) (.cond (.t 16) (.seq (.reg [⟨(some 2), none, (.mov (.c (.str ⟨⟨[45]⟩⟩)))⟩]) .ret) .skip)) (.seq (.reg [⟨(some 4), none, (.mov (.c .nil))⟩]) (.seq (.seq (.reg [⟨(some 5), none, (.mov (.c (.int .i64 1)))⟩]) (.block 0 (.loop sc_i_HolesText_L0))) (.seq (.reg [⟨(some 46), none, (.mov (.t 4))⟩, ⟨(some 47), none, (.call 20 [(.t 46), (.c (.str ⟨⟨[32]⟩⟩))])⟩, ⟨(some 2), none, (.mov (.t 47))⟩]) .ret)))))))
theorem code_i_HolesText : fnCode Tryd.prog [] 7 = some (48, sc_i_HolesText, [(2, none)]) := by kernel_rfl
theorem fn_i_HolesText : FnOk Tryd.prog 7 F_s_HolesText := by
  have env := (((((envNil_ok (P := Tryd.prog)).add fn_i_IsComplex).add fn_i_FreeHoles).add fn_i_TwistsOf).add fn_i_FormatInt).add fn_strings_Join
  refine fn_ok code_i_HolesText mixed env ?_
  intro args r h hb
  obtain ⟨_, ⟨n, l⟩, rfl, h1, h4⟩ := F1_inv h
  cases dC_inv h1
  cases h4
  clear h
  refine ⟨by simp, fun w0 U0 L0 N0 => ?_⟩
  clear hb
  simp only
  cases e0 : cplxB n l with
  | false =>
    have e : htS n l = ⟨⟨[]⟩⟩ := if_neg fun h => by simp [cplxB_iff.2 h] at e0
    rw [e]
    simp -implicitDefEqProofs [sc_i_HolesText, F_s_IsComplex, e0]
  | true =>
  have hc := cplxB_iff.1 e0
  obtain ⟨hlen, hfr, htw, hpt, hjn⟩ := ht_inv hc
  have hF1 : F_s_FreeHoles [.agg [.int .i64 n, .list 1 (ints l)]] = some (.own 1 (ints (frL n l))) := by simp [F_s_FreeHoles]
  have hT : htS n l = if (frL n l).length ≤ 1 then ⟨⟨[45]⟩⟩ else jnS (psS n l ((frL n l).length - 1)) ⟨⟨[32]⟩⟩ := if_pos hc
  have hps : ∀ i, psS n l (i + 1) = psS n l i ++ [txS (decS (at0 (frL n l) (i + 1))) (twL n l ((i : Int) + 1)) (twL n l ((i : Int) + 1)).length] := fun i => by
    rw [psS_succ]
    unfold ptS
    rw [show ((i + 1 : Nat) : Int) = (i : Int) + 1 by omega]
  generalize frL n l = O at *
  by_cases hle : O.length ≤ 1
  · have hleI : (O.length : Int) ≤ 1 := by omega
    rw [if_pos hle] at hT
    simp -implicitDefEqProofs [sc_i_HolesText, F_s_IsComplex, e0, hF1, hT, hle, hleI]
  have hleI : ¬ (O.length : Int) ≤ 1 := by omega
  rw [if_neg hle] at hT
  simp -implicitDefEqProofs [sc_i_HolesText, F_s_IsComplex, e0, hF1, hle, hleI]
  refine loopI env mixed (fun i : Nat => [(1, .pt 0 0), (2, .str ⟨⟨[]⟩⟩), (3, .sl 1 1 0 O.length), (4, .sl 2 1 0 i), (5, .int .i64 ((i : Int) + 1))]) (fun i => ([(2, strs (psS n l i)), (1, ints O), (0, [.int .i64 n, .list 1 (ints l)])], 3)) (fun i => i + 1 ≤ O.length) (fun i => O.length - i) 0 (by omega) (SubI.nilN 4 1 (by simp) (SubI.slots (by simp [psS, strs]) (by simp))) ?_
  intro i hi
  have hpl := psS_len n l i
  by_cases hlt : i + 1 < O.length
  · have hltI : (i : Int) + 1 < (O.length : Int) := by omega
    obtain ⟨f0, f1⟩ := hfr (i + 1) hlt
    obtain ⟨t64, ht⟩ := htw (i + 1)
    have hp := hps i
    have hp2 := hpt (i + 1) hlt
    rw [show ((i + 1 : Nat) : Int) = (i : Int) + 1 by omega] at t64 ht
    have hF2 : F_i_FormatInt [.int .i64 (at0 O (i + 1))] = some (.str (decS (at0 O (i + 1)))) := if_pos ⟨f0, f1⟩
    have hF3 : F_s_TwistsOf [.agg [.int .i64 n, .list 1 (ints l)], .int .i64 ((i : Int) + 1)] = some (.own 1 (ints (twL n l ((i : Int) + 1)))) := by simp [F_s_TwistsOf]
    have ht0 := decS_size f0 f1
    have htx := txS_size (t := decS (at0 O (i + 1))) ht
    have hw1 : IntKind.i64.wrap ((i : Int) + 1) = (i : Int) + 1 := wrapI _ (by omega) (by omega)
    have hw2 : IntKind.i64.wrap ((i : Int) + 1 + 1) = (i : Int) + 1 + 1 := wrapI _ (by omega) (by omega)
    generalize decS (at0 O (i + 1)) = t0 at *
    generalize twL n l ((i : Int) + 1) = S at *
    generalize psS n l i = g at *
    have htk : g.take i = g := List.take_of_length_le (by omega)
    simp -implicitDefEqProofs [sc_i_HolesText_L0, hltI, hlt, hF2, hF3]
    refine ⟨by omega, ?_⟩
    refine loopQ env mixed (fun j : Nat => [(1, .pt 0 0), (2, .str ⟨⟨[]⟩⟩), (3, .sl 1 1 0 O.length), (4, .sl 2 1 0 i), (5, .int .i64 ((i : Int) + 1)), (6, .str (txS t0 S j)), (30, .sl 3 1 0 S.length), (31, .int .i64 (S.length : Int)), (32, .int .i64 (j : Int))]) (fun j => ([(3, ints S), (2, strs g), (1, ints O), (0, [.int .i64 n, .list 1 (ints l)])], 4)) (fun j => j ≤ S.length) (fun j => S.length - j) 0 (by simp) (SubI.slots (by simp) (by simp [txS])) ?_
    intro j hj
    by_cases hjl : j < S.length
    · have hjI : (j : Int) < (S.length : Int) := by omega
      have hF4 : F_i_FormatInt [.int .i64 (at0 S j)] = some (.str (decS (at0 S j))) := if_pos (ht j hjl)
      have hd2 := decS_size (ht j hjl).1 (ht j hjl).2
      have hx1 := htx j (by omega)
      have hw3 : IntKind.i64.wrap ((j : Int) + 1) = (j : Int) + 1 := wrapI _ (by omega) (by omega)
      have hst : txS t0 S (j + 1) = txS t0 S j ++ (⟨⟨[47]⟩⟩ ++ decS (at0 S j)) := rfl
      have hs1 : (⟨⟨[47]⟩⟩ : ByteArray).size = 1 := rfl
      generalize hxx : txS t0 S (j + 1) = x2 at *
      generalize txS t0 S j = x at *
      generalize hdd : decS (at0 S j) = dd at *
      have hz1 : (⟨⟨[47]⟩⟩ : ByteArray).size + dd.size ≤ 9223372036854775807 := by omega
      have hz2 : x.size + ((⟨⟨[47]⟩⟩ : ByteArray) ++ dd).size ≤ 9223372036854775807 := by rw [ba_size]; omega
      simp -implicitDefEqProofs [sc_i_HolesText_L2, hjl, hjI, hF4, hz1, hz2, hw3]
      repeat' (first | omega | apply And.intro)
      exact Again.of (j + 1) (by omega) (by omega) (SubI.slots (by simp) (by simp [hxx, hst]))
    · have : j = S.length := by omega
      subst this
      have hx1 := htx S.length (Nat.le_refl _)
      simp -implicitDefEqProofs [sc_i_HolesText_L2, hjl]
      refine SubQ.of (l1 := [(1, .pt 0 0), (2, .str ⟨⟨[]⟩⟩), (3, .sl 1 1 0 O.length), (4, .sl 2 1 0 i), (5, .int .i64 ((i : Int) + 1)), (6, .str (txS t0 S S.length))]) (SubI.slots rfl (by simp)) ?_
      generalize txS t0 S S.length = x at *
      simp -implicitDefEqProofs [htk, hw2, hpl]
      repeat' (first | omega | apply And.intro)
      refine Again.of (i + 1) (by omega) (by omega) (SubI.ren (fun m => if m = 0 then some 0 else if m = 1 then some 1 else if m = 2 then some 5 else none) ?_ ?_ ?_ (by simp) (by simp))
      · simp [subT, renV, ren1]
      · simp [subH, hp, renL, ren1]
        exact strs_snoc g x
      · intro m hm
        simp only at hm
        rw [if_neg (by omega), if_neg (by omega), if_neg (by omega)]
  · have hltI : ¬ (i : Int) + 1 < (O.length : Int) := by omega
    have hi2 : i = O.length - 1 := by omega
    rw [← hi2] at hT
    have hF5 : F_strings_Join [.list 1 (strs (psS n l i)), .str ⟨⟨[32]⟩⟩] = some (.str (jnS (psS n l i) ⟨⟨[32]⟩⟩)) := by
      have := hjn i (by omega)
      simp only [F_strings_Join, F2_mk, dS_list, dSt, Option.bind_some]
      rw [if_pos ⟨by omega, this⟩]
    have htk : (psS n l i).take i = psS n l i := List.take_of_length_le (by omega)
    simp -implicitDefEqProofs [sc_i_HolesText_L0, hlt, hltI, hT, htk, hF5, hpl]
end Go.Proofs.YtkoljbncokmeaaaDoor
namespace Go.Proofs.YtkoljbncokmeaaaDoor
open Go Go.RowKit
set_option maxRecDepth 1000000
set_option linter.unusedSimpArgs false
set_option linter.unusedVariables false
set_option maxHeartbeats 1000000
def sc_l_szIntS : SC := (.seq (.reg [⟨(some 4), none, (.mov (.c (.int .i64 0)))⟩]) (.seq (.reg [⟨(some 5), none, (.mov (.t 1))⟩, ⟨(some 6), none, (.mov (.t 0))⟩, ⟨(some 7), none, (.len (.t 6))⟩, ⟨(some 8), none, (.bin false .sub (.t 5) (.t 7))⟩, ⟨(some 1), none, (.mov (.t 8))⟩]) (.seq (.seq (.reg [⟨(some 9), none, (.mov (.t 1))⟩, ⟨(some 10), none, (.bin false .lss (.t 9) (.c (.int .i64 0)))⟩]) (.cond (.t 10) (.seq (.reg [⟨(some 4), none, (.mov (.c (.int .i64 (-1))))⟩]) .ret) .skip)) (.seq (.reg [⟨(some 11), none, (.mov (.t 1))⟩, ⟨(some 4), none, (.mov (.t 11))⟩]) .ret))))
theorem code_l_szIntS : fnCode Tryd.prog [] 9 = some (12, sc_l_szIntS, [(4, none)]) := by kernel_rfl
/-- What is left of a bound. -/
def leftOf (len : Nat) (left : Int) : Int := if left < len then -1 else left - len
def F_l_szIntS : List V → Option V := F2 dL dI fun l n => if 0 ≤ n ∧ n ≤ 1048576 then some (.int .i64 (leftOf l.length n)) else none
theorem fn_l_szIntS : FnOk Tryd.prog 9 F_l_szIntS := by
  refine fn_ok code_l_szIntS mixed envNil_ok ?_
  intro args r h hb
  obtain ⟨_, _, l, n, rfl, h1, h2, h4⟩ := F2_inv h
  cases dL_inv h1
  cases dI_inv h2
  simp only [Option.ite_none_right_eq_some, Option.some.injEq] at h4
  obtain ⟨⟨hn1, hn2⟩, rfl⟩ := h4
  have hl := bnd_ints (hb _ (List.mem_cons_self ..))
  refine ⟨by simp, fun w0 U0 L0 N0 => ?_⟩
  have hw : IntKind.i64.wrap (n - (l.length : Int)) = n - l.length := wrapI _ (by omega) (by omega)
  simp -implicitDefEqProofs [sc_l_szIntS, hw, leftOf]
  refine ⟨fun h => ?_, fun h => ?_⟩ <;> omega
def sc_l_szComplex : SC := (.seq (.reg [⟨(some 2), none, (.box (.t 0))⟩, ⟨(some 4), none, (.mov (.c (.int .i64 0)))⟩]) (.seq (.reg [⟨(some 5), none, (.fad 1 (.t 2))⟩, ⟨(some 6), none, (.ld none .nil (.t 5))⟩, ⟨(some 7), none, (.mov (.t 1))⟩, ⟨(some 8), none, (.call 9 [(.t 6), (.t 7)])⟩, ⟨(some 1), none, (.mov (.t 8))⟩]) (.seq (.seq (.reg [⟨(some 9), none, (.mov (.t 1))⟩, ⟨(some 10), none, (.bin false .lss (.t 9) (.c (.int .i64 0)))⟩]) (.cond (.t 10) (.seq (.reg [⟨(some 4), none, (.mov (.c (.int .i64 (-1))))⟩]) .ret) .skip)) (.seq (.reg [⟨(some 11), none, (.mov (.t 1))⟩, ⟨(some 4), none, (.mov (.t 11))⟩]) .ret))))
theorem code_l_szComplex : fnCode Tryd.prog [] 4 = some (12, sc_l_szComplex, [(4, none)]) := by kernel_rfl
def F_l_szComplex : List V → Option V := F2 dC dI fun c n => if 0 ≤ n ∧ n ≤ 1048576 then some (.int .i64 (leftOf c.2.length n)) else none
theorem fn_l_szComplex : FnOk Tryd.prog 4 F_l_szComplex := by
  have env := (envNil_ok (P := Tryd.prog)).add fn_l_szIntS
  refine fn_ok code_l_szComplex mixed env ?_
  intro args r h hb
  obtain ⟨_, _, ⟨p, l⟩, n, rfl, h1, h2, h4⟩ := F2_inv h
  cases dC_inv h1
  cases dI_inv h2
  simp only [Option.ite_none_right_eq_some, Option.some.injEq] at h4
  obtain ⟨⟨hn1, hn2⟩, rfl⟩ := h4
  refine ⟨by simp, fun w0 U0 L0 N0 => ?_⟩
  simp -implicitDefEqProofs [sc_l_szComplex, F_l_szIntS, hn1, hn2]
  simp only [leftOf]
  split <;> omega
def sc_l_toIntS_L0 : SC := (.seq (.seq (.reg [⟨(some 8), none, (.mov (.t 4))⟩, ⟨(some 9), none, (.mov (.t 0))⟩, ⟨(some 10), none, (.len (.t 9))⟩, ⟨(some 11), none, (.bin false .lss (.t 8) (.t 10))⟩]) (.cond (.t 11) .skip (.exit 0))) (.seq (.block 1 (.reg [⟨(some 14), none, (.mov (.t 3))⟩, ⟨(some 15), none, (.mov (.t 4))⟩, ⟨(some 16), none, (.mov (.t 0))⟩, ⟨(some 17), none, (.mov (.t 4))⟩, ⟨(some 18), none, (.idx 1 (.t 16) (.t 17))⟩, ⟨(some 19), none, (.ld none (.int .i64 0) (.t 18))⟩, ⟨(some 20), none, (.idx 1 (.t 14) (.t 15))⟩, ⟨none, none, (.st 1 (.t 20) (.t 19))⟩])) (.reg [⟨(some 12), none, (.mov (.t 4))⟩, ⟨(some 13), none, (.bin false .add (.t 12) (.c (.int .i64 1)))⟩, ⟨(some 4), none, (.mov (.t 13))⟩])))
def sc_l_toIntS : SC := (.seq (.reg [⟨(some 2), none, (.mov (.c .nil))⟩]) (.seq (.reg [⟨(some 5), none, (.mov (.t 0))⟩, ⟨(some 6), none, (.len (.t 5))⟩, ⟨(some 7), none, (.mk 1 8 [(.int .i64 0)] (.t 6) (.t 6))⟩, ⟨(some 3), none, (.mov (.t 7))⟩]) (.seq (.seq (.reg [⟨(some 4), none, (.mov (.c (.int .i64 0)))⟩]) (.block 0 (.loop sc_l_toIntS_L0))) (.seq (.reg [⟨(some 21), none, (.mov (.t 3))⟩, ⟨(some 2), none, (.mov (.t 21))⟩]) .ret))))
theorem code_l_toIntS : fnCode Tryd.prog [] 15 = some (22, sc_l_toIntS, [(2, none)]) := by kernel_rfl
def F_l_toIntS : List V → Option V := F1 dL fun l => if l.length ≤ 1048576 then some (.own 1 (ints l)) else none
theorem fn_l_toIntS : FnOk Tryd.prog 15 F_l_toIntS := by
  refine fn_ok code_l_toIntS mixed envNil_ok ?_
  intro args r h hb
  obtain ⟨_, l, rfl, h1, h4⟩ := F1_inv h
  cases dL_inv h1
  simp only [Option.ite_none_right_eq_some, Option.some.injEq] at h4
  obtain ⟨hl, rfl⟩ := h4
  refine ⟨by simp, fun w0 U0 L0 N0 => ?_⟩
  simp -implicitDefEqProofs [sc_l_toIntS]
  refine ⟨by omega, ?_⟩
  refine loopI envNil_ok mixed (fun x : Nat × List Int => [(0, .list 1 (ints l)), (3, .sl 0 1 0 l.length), (4, .int .i64 (x.1 : Int))]) (fun x => ([(0, ints x.2)], 1)) (fun x => x.1 ≤ l.length ∧ x.2.length = l.length ∧ ∀ j, j < x.1 → at0 x.2 j = at0 l j) (fun x => l.length - x.1) (0, List.replicate l.length 0) (by simp) (SubI.slots rfl (by simp)) ?_
  rintro ⟨k, m⟩ ⟨hk, hm, hn⟩
  simp only at hk hm hn
  by_cases hlt : k < l.length
  · simp -implicitDefEqProofs [sc_l_toIntS_L0, hlt, hm]
    repeat' (first | omega | apply And.intro | intro _)
    refine Again.of (k + 1, m.set k (at0 l k)) ⟨by simp only; omega, by simpa using hm, fun j hj => ?_⟩ (by simp only; omega) (SubI.slots (by simp) (by simp (disch := omega) [wrapI]))
    simp only at hj ⊢
    rw [at0_set]
    split
    · rename_i h; rw [h.1]
    · exact hn j (by omega)
  · simp -implicitDefEqProofs [sc_l_toIntS_L0, hlt, hm]
    rw [← hm]
    have : m = l := at0_ext hm fun j hj => hn j (by omega)
    subst this
    simp
def sc_l_toComplex : SC := (.seq (.reg [⟨(some 1), none, (.box (.t 0))⟩, ⟨(some 2), none, (.new [(.int .i64 0), .nil])⟩]) (.seq (.reg [⟨(some 3), none, (.new [(.int .i64 0), .nil])⟩]) (.seq (.reg [⟨(some 4), none, (.fad 0 (.t 1))⟩, ⟨(some 5), none, (.ld none (.int .i64 0) (.t 4))⟩, ⟨(some 6), none, (.fad 0 (.t 3))⟩, ⟨none, none, (.st 1 (.t 6) (.t 5))⟩]) (.seq (.reg [⟨(some 7), none, (.fad 1 (.t 1))⟩, ⟨(some 8), none, (.ld none .nil (.t 7))⟩, ⟨(some 9), none, (.call 15 [(.t 8)])⟩, ⟨(some 10), none, (.fad 1 (.t 3))⟩, ⟨none, none, (.st 1 (.t 10) (.t 9))⟩]) (.seq (.reg [⟨(some 11), none, (.ld (some 2) .undef (.t 3))⟩, ⟨none, none, (.st 2 (.t 2) (.t 11))⟩]) .ret)))))
theorem code_l_toComplex : fnCode Tryd.prog [] 6 = some (12, sc_l_toComplex, [(2, (some 2))]) := by kernel_rfl
def F_l_toComplex : List V → Option V := F1 dC fun c => if c.2.length ≤ 1048576 then some (.agg [.int .i64 c.1, .own 1 (ints c.2)]) else none
theorem fn_l_toComplex : FnOk Tryd.prog 6 F_l_toComplex := by
  have env := (envNil_ok (P := Tryd.prog)).add fn_l_toIntS
  refine fn_ok code_l_toComplex mixed env ?_
  intro args r h hb
  obtain ⟨_, ⟨n, l⟩, rfl, h1, h4⟩ := F1_inv h
  cases dC_inv h1
  simp only [Option.ite_none_right_eq_some, Option.some.injEq] at h4
  obtain ⟨hl, rfl⟩ := h4
  refine ⟨by simp, fun w0 U0 L0 N0 => ?_⟩
  simp -implicitDefEqProofs [sc_l_toComplex, F_l_toIntS, hl]
def sc_l_eqIntS_L0 : SC := (.seq (.seq (.reg [⟨(some 11), none, (.mov (.t 5))⟩, ⟨(some 12), none, (.mov (.t 0))⟩, ⟨(some 13), none, (.len (.t 12))⟩, ⟨(some 14), none, (.bin false .lss (.t 11) (.t 13))⟩]) (.cond (.t 14) .skip (.exit 0))) (.seq (.block 1 (.seq (.dreg [⟨⟨(some 17), none, (.mov (.t 0))⟩, false, false⟩, ⟨⟨(some 18), none, (.mov (.t 5))⟩, false, false⟩, ⟨⟨(some 19), none, (.idx 1 (.t 17) (.t 18))⟩, false, false⟩, ⟨⟨(some 20), none, (.ld none (.int .i64 0) (.t 19))⟩, false, false⟩, ⟨⟨(some 21), none, (.mov (.t 1))⟩, false, false⟩, ⟨⟨(some 22), none, (.mov (.t 5))⟩, false, false⟩, ⟨⟨(some 23), none, (.idx 1 (.t 21) (.t 22))⟩, false, false⟩, ⟨⟨(some 24), none, (.ld none (.int .i64 0) (.t 23))⟩, false, false⟩, ⟨⟨(some 25), none, (.bin false .neq (.t 20) (.t 24))⟩, false, false⟩]) (.cond (.t 25) (.seq (.reg [⟨(some 4), none, (.mov (.c (.bool false)))⟩]) .ret) .skip))) (.reg [⟨(some 15), none, (.mov (.t 5))⟩, ⟨(some 16), none, (.bin false .add (.t 15) (.c (.int .i64 1)))⟩, ⟨(some 5), none, (.mov (.t 16))⟩])))
def sc_l_eqIntS : SC := (.seq (.reg [⟨(some 4), none, (.mov (.c (.bool false)))⟩]) (.seq (.seq (.reg [⟨(some 6), none, (.mov (.t 0))⟩, ⟨(some 7), none, (.len (.t 6))⟩, ⟨(some 8), none, (.mov (.t 1))⟩, ⟨(some 9), none, (.len (.t 8))⟩, ⟨(some 10), none, (.bin false .neq (.t 7) (.t 9))⟩]) (.cond (.t 10) (.seq (.reg [⟨(some 4), none, (.mov (.c (.bool false)))⟩]) .ret) .skip)) (.seq (.seq (.reg [⟨(some 5), none, (.mov (.c (.int .i64 0)))⟩]) (.block 0 (.loop sc_l_eqIntS_L0))) (.seq (.reg [⟨(some 4), none, (.mov (.c (.bool true)))⟩]) .ret))))
theorem code_l_eqIntS : fnCode Tryd.prog [] 21 = some (26, sc_l_eqIntS, [(4, none)]) := by kernel_rfl
def F_l_eqIntS : List V → Option V := F2 dL dL fun a b => some (.bool (decide (a = b)))
theorem fn_l_eqIntS : FnOk Tryd.prog 21 F_l_eqIntS := by
  refine fn_ok code_l_eqIntS mixed envNil_ok ?_
  intro args r h hb
  obtain ⟨_, _, a, b, rfl, h1, h2, h4⟩ := F2_inv h
  cases dL_inv h1
  cases dL_inv h2
  cases h4
  have hl := bnd_ints (hb _ (List.mem_cons_self ..))
  refine ⟨by simp, fun w0 U0 L0 N0 => ?_⟩
  generalize hv : decide (a = b) = v
  by_cases hlen : a.length = b.length
  · simp -implicitDefEqProofs [sc_l_eqIntS, hlen]
    refine loopI envNil_ok mixed (fun k : Nat => [(0, .list 1 (ints a)), (1, .list 1 (ints b)), (5, .int .i64 (k : Int))]) (fun _ => ([], 0)) (fun k => k ≤ a.length ∧ ∀ j, j < k → at0 a j = at0 b j) (fun k => a.length - k) 0 (by simp) (SubI.slots rfl (by simp)) ?_
    rintro k ⟨hk, hn⟩
    by_cases hlt : k < a.length
    · by_cases he : at0 a k = at0 b k
      · simp -implicitDefEqProofs [sc_l_eqIntS_L0, hlt, he]
        repeat' (first | omega | apply And.intro | intro _)
        refine Again.of (k + 1) ⟨by omega, fun j hj => ?_⟩ (by omega) (SubI.slots rfl (by simp (disch := omega) [wrapI]))
        rcases Nat.lt_succ_iff_lt_or_eq.1 hj with h1 | rfl
        · exact hn j h1
        · exact he
      · have hf : v = false := by
          rw [← hv, decide_eq_false_iff_not]
          exact fun e => he (by rw [e])
        simp -implicitDefEqProofs [sc_l_eqIntS_L0, hlt, he, hf]
        omega
    · have hf : v = true := by
        rw [← hv, decide_eq_true_iff]
        exact at0_ext hlen fun j hj => hn j (by omega)
      simp -implicitDefEqProofs [sc_l_eqIntS_L0, hlt, hf]
  · have hf : v = false := by
      rw [← hv, decide_eq_false_iff_not]
      exact fun e => hlen (by rw [e])
    simp -implicitDefEqProofs [sc_l_eqIntS, hf]
    omega
def sc_l_eqComplex : SC := (.seq (.reg [⟨(some 2), none, (.box (.t 0))⟩, ⟨(some 3), none, (.box (.t 1))⟩, ⟨(some 4), none, (.mov (.c (.bool false)))⟩]) (.seq (.seq (.reg [⟨(some 5), none, (.fad 0 (.t 2))⟩, ⟨(some 6), none, (.ld none (.int .i64 0) (.t 5))⟩, ⟨(some 7), none, (.fad 0 (.t 3))⟩, ⟨(some 8), none, (.ld none (.int .i64 0) (.t 7))⟩, ⟨(some 9), none, (.bin false .neq (.t 6) (.t 8))⟩]) (.cond (.t 9) (.seq (.reg [⟨(some 4), none, (.mov (.c (.bool false)))⟩]) .ret) .skip)) (.seq (.seq (.reg [⟨(some 10), none, (.fad 1 (.t 2))⟩, ⟨(some 11), none, (.ld none .nil (.t 10))⟩, ⟨(some 12), none, (.fad 1 (.t 3))⟩, ⟨(some 13), none, (.ld none .nil (.t 12))⟩, ⟨(some 14), none, (.call 21 [(.t 11), (.t 13)])⟩, ⟨(some 15), none, (.un .not (.t 14))⟩]) (.cond (.t 15) (.seq (.reg [⟨(some 4), none, (.mov (.c (.bool false)))⟩]) .ret) .skip)) (.seq (.reg [⟨(some 4), none, (.mov (.c (.bool true)))⟩]) .ret))))
theorem code_l_eqComplex : fnCode Tryd.prog [] 8 = some (16, sc_l_eqComplex, [(4, none)]) := by kernel_rfl
def F_l_eqComplex : List V → Option V := F2 dC dC fun a b => some (.bool (decide (a = b)))
theorem fn_l_eqComplex : FnOk Tryd.prog 8 F_l_eqComplex := by
  have env := (envNil_ok (P := Tryd.prog)).add fn_l_eqIntS
  refine fn_ok code_l_eqComplex mixed env ?_
  intro args r h hb
  obtain ⟨_, _, ⟨p, a⟩, ⟨q, b⟩, rfl, h1, h2, h4⟩ := F2_inv h
  cases dC_inv h1
  cases dC_inv h2
  cases h4
  refine ⟨by simp, fun w0 U0 L0 N0 => ?_⟩
  by_cases hp : p = q
  · by_cases hab : a = b
    · simp -implicitDefEqProofs [sc_l_eqComplex, F_l_eqIntS, hp, hab]
    · simp -implicitDefEqProofs [sc_l_eqComplex, F_l_eqIntS, hp, hab]
  · simp -implicitDefEqProofs [sc_l_eqComplex, F_l_eqIntS, hp]
end Go.Proofs.YtkoljbncokmeaaaDoor
namespace Go.Proofs.YtkoljbncokmeaaaDoor
open Go Go.RowKit
set_option maxRecDepth 1000000
set_option linter.unusedSimpArgs false
set_option linter.unusedVariables false
set_option maxHeartbeats 1000000
end Go.Proofs.YtkoljbncokmeaaaDoor
namespace Go.Proofs.YtkoljbncokmeaaaDoor
open Go Go.RowKit
set_option maxRecDepth 1000000
set_option linter.unusedSimpArgs false
set_option linter.unusedVariables false
set_option maxHeartbeats 1000000
def sc_l_FnExactHolesText : SC := (.seq (.reg [⟨(some 1), none, (.box (.t 0))⟩, ⟨(some 2), none, (.mov (.c (.bool false)))⟩]) (.seq (.reg [⟨(some 3), none, (.mov (.c (.int .i64 1048576)))⟩]) (.seq (.reg [⟨(some 7), none, (.ld (some 2) .undef (.t 1))⟩, ⟨(some 8), none, (.mov (.t 3))⟩, ⟨(some 9), none, (.call 4 [(.t 7), (.t 8)])⟩, ⟨(some 3), none, (.mov (.t 9))⟩]) (.seq (.seq (.reg [⟨(some 10), none, (.mov (.t 3))⟩, ⟨(some 11), none, (.bin false .lss (.t 10) (.c (.int .i64 0)))⟩]) (.cond (.t 11) (.seq (.reg [⟨(some 2), none, (.mov (.c (.bool true)))⟩]) .ret) .skip)) (.seq (.reg [⟨(some 12), none, (.ld (some 2) .undef (.t 1))⟩, ⟨(some 13), none, (.call 6 [(.t 12)])⟩, ⟨(some 14), none, (.call 5 [(.t 13)])⟩, ⟨(some 4), none, (.mov (.t 14))⟩]) (.seq (.reg [⟨(some 15), none, (.ld (some 2) .undef (.t 1))⟩, ⟨(some 16), none, (.call 6 [(.t 15)])⟩, ⟨(some 5), none, (.new [(.int .i64 0), .nil])⟩, ⟨none, none, (.st 2 (.t 5) (.t 16))⟩]) (.seq (.reg [⟨(some 17), none, (.ld (some 2) .undef (.t 5))⟩, ⟨(some 18), none, (.call 7 [(.t 17)])⟩, ⟨(some 6), none, (.mov (.t 18))⟩]) (.seq (.seq (.reg [⟨(some 19), none, (.mov (.t 6))⟩, ⟨(some 20), none, (.mov (.t 4))⟩, ⟨(some 21), none, (.bin false .neq (.t 19) (.t 20))⟩]) (.cond (.t 21) (.seq (.reg [⟨(some 2), none, (.mov (.c (.bool false)))⟩]) .ret) .skip)) (.seq (.seq (.dreg [⟨⟨(some 22), none, (.ld (some 2) .undef (.t 5))⟩, false, false⟩, ⟨⟨(some 23), none, (.ld (some 2) .undef (.t 1))⟩, false, false⟩, ⟨⟨(some 24), none, (.call 6 [(.t 23)])⟩, false, false⟩, ⟨⟨(some 25), none, (.call 8 [(.t 22), (.t 24)])⟩, false, false⟩, ⟨⟨(some 26), none, (.un .not (.t 25))⟩, false, false⟩]) (.cond (.t 26) (.seq (.reg [⟨(some 2), none, (.mov (.c (.bool false)))⟩]) .ret) .skip)) (.seq (.reg [⟨(some 2), none, (.mov (.c (.bool true)))⟩]) .ret))))))))))
theorem code_l_FnExactHolesText : fnCode Tryd.prog [] 3 = some (27, sc_l_FnExactHolesText, [(2, none)]) := by kernel_rfl
open Classical in
noncomputable def F_l_FnExactHolesText : List V → Option V := F1 dC fun c0 => if allR c0.2 then some (.bool true) else none
theorem fn_l_FnExactHolesText : FnOk Tryd.prog 3 F_l_FnExactHolesText := by
  have env := (((((envNil_ok (P := Tryd.prog)).add fn_s_HolesText).add fn_i_HolesText).add fn_l_szComplex).add fn_l_toComplex).add fn_l_eqComplex
  refine fn_ok code_l_FnExactHolesText mixed env ?_
  intro args r h hb
  obtain ⟨_, ⟨n, l⟩, rfl, h1, h9⟩ := F1_inv h
  cases dC_inv h1
  simp only [Option.ite_none_right_eq_some, Option.some.injEq] at h9
  obtain ⟨hc0, rfl⟩ := h9
  refine ⟨by simp, fun w0 U0 L0 N0 => ?_⟩
  by_cases hl2 : 1048576 < l.length
  · have e : leftOf l.length 1048576 = -1 := by simp only [leftOf]; split <;> omega
    simp -implicitDefEqProofs [sc_l_FnExactHolesText, F_l_szComplex, e]
    try omega
  · have e : leftOf l.length 1048576 = 1048576 - l.length := by simp only [leftOf]; split <;> omega
    have hl3 : l.length ≤ 1048576 := by omega
    simp -implicitDefEqProofs [sc_l_FnExactHolesText, F_s_HolesText, F_l_szComplex, F_l_toComplex, F_l_eqComplex, e, hl3, hc0]
    try omega
end Go.Proofs.YtkoljbncokmeaaaDoor
