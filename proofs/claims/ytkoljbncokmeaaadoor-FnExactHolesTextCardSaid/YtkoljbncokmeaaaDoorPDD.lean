import Derived.Shelf.Strings.OnBuilder
import Derived.Shelf.Strconv.Itoa3
import Derived.Test.YtkoljbncokmeaaaDoorProg
import Derived.Test.YtkoljbncokmeaaaDoorPDC
namespace Go.Proofs
open Go.Shelf
def Tryd.lays156_ren : Go.Shelf.Ren := ⟨fun | 156 => 20 | 165 => 35 | 166 => 36 | 169 => 37 | 240 => 56 | 241 => 57 | 276 => 74 | 277 => 75 | n => n, fun | 31 => 34 | 9 => 9 | 3 => 3 | 4 => 4 | 0 => 0 | 20 => 20 | 72 => 53 | 76 => 57 | 70 => 51 | 37 => 45 | 75 => 56 | 127 => 70 | 164 => 82 | 5 => 5 | 80 => 59 | n => n, fun | n => n⟩
theorem Tryd.lays156 : Go.Proofs.Lays.n156 Tryd.prog Tryd.lays156_ren := {
  mixed := by kernel_rfl
  f156 := Tryd.func20.trans (congrArg some (by kernel_rfl))
  f165 := Tryd.func35.trans (congrArg some (by kernel_rfl))
  f166 := Tryd.func36.trans (congrArg some (by kernel_rfl))
  f169 := Tryd.func37.trans (congrArg some (by kernel_rfl))
  f240 := Tryd.func56.trans (congrArg some (by kernel_rfl))
  f241 := Tryd.func57.trans (congrArg some (by kernel_rfl))
  f276 := Tryd.func74.trans (congrArg some (by kernel_rfl))
  f277 := Tryd.func75.trans (congrArg some (by kernel_rfl))
  t0 := Tryd.underlying0
  a0 := Tryd.isAgg0
  z0 := Tryd.sizeOf0
  v0 := Tryd.zeroValue0
  t3 := Tryd.underlying3
  a3 := Tryd.isAgg3
  z3 := Tryd.sizeOf3
  v3 := Tryd.zeroValue3
  t4 := Tryd.underlying4
  a4 := Tryd.isAgg4
  z4 := Tryd.sizeOf4
  v4 := Tryd.zeroValue4
  t9 := Tryd.underlying9
  a9 := Tryd.isAgg9
  z9 := Tryd.sizeOf9
  v9 := Tryd.zeroValue9
  t20 := Tryd.underlying20
  a20 := Tryd.isAgg20
  z20 := Tryd.sizeOf20
  v20 := Tryd.zeroValue20
  t31 := Tryd.underlying34
  a31 := Tryd.isAgg34
  z31 := Tryd.sizeOf34
  v31 := Tryd.zeroValue34
  t37 := Tryd.underlying45
  a37 := Tryd.isAgg45
  z37 := Tryd.sizeOf45
  v37 := Tryd.zeroValue45
  t70 := Tryd.underlying51
  a70 := Tryd.isAgg51
  z70 := Tryd.sizeOf51
  v70 := Tryd.zeroValue51
  t72 := Tryd.underlying53
  a72 := Tryd.isAgg53
  z72 := Tryd.sizeOf53
  v72 := Tryd.zeroValue53
  t75 := Tryd.underlying56
  a75 := Tryd.isAgg56
  z75 := Tryd.sizeOf56
  v75 := Tryd.zeroValue56
  t76 := Tryd.underlying57
  a76 := Tryd.isAgg57
  z76 := Tryd.sizeOf57
  v76 := Tryd.zeroValue57
  t127 := Tryd.underlying70
  a127 := Tryd.isAgg70
  z127 := Tryd.sizeOf70
  v127 := Tryd.zeroValue70
  t164 := Tryd.underlying82
  a164 := Tryd.isAgg82
  z164 := Tryd.sizeOf82
  v164 := Tryd.zeroValue82 }
theorem Tryd.Builder_Extra_156 : Builder.Extra Tryd.prog Tryd.lays156_ren := {
  sizeBuilder := by kernel_rfl
  liesBuilder := by kernel_rfl
  t5 := Tryd.underlying5
  a5 := Tryd.isAgg5
  z5 := Tryd.sizeOf5
  v5 := Tryd.zeroValue5
  infoByte := by kernel_rfl
  cellsByte := by kernel_rfl
  sizeByte := by kernel_rfl
  neB5 := by decide }
open Go.RowKit in
theorem Tryd.strings_Join_none (a : Option Addr) (c : Nat) (sep : ByteArray) (w : World) :
    Calls Tryd.prog 20 #[.slice a 0 c, .string sep] w fun e w' => e = .returned (.string ⟨#[]⟩) ∧ w' = w := Any.strings_Join_none Tryd.lays156 Tryd.Builder_Extra_156 a c sep w
open Go.RowKit in
theorem Tryd.strings_Join (bk o c : Nat) (xs : List ByteArray) (sep : ByteArray) (w : World) (hcells : ∀ (j : Nat) x, xs[j]? = some x → w.cell? ⟨bk, o + j, none⟩ = some (.string x)) (hbk : bk < w.heap.size) (hN : xs.length ≤ 140737488355328) (hcap : xs.length ≤ c) (hlen : (Lib.join (xs.map (·.data.toList)) sep.data.toList).length ≤ 140737488355328) :
    Calls Tryd.prog 20 #[.slice (some ⟨bk, o, none⟩) xs.length c, .string sep] w fun e w' => e = .returned (.string ⟨(Lib.join (xs.map (·.data.toList)) sep.data.toList).toArray⟩) ∧ Below w.heap.size w w' := Any.strings_Join Tryd.lays156 Tryd.Builder_Extra_156 bk o c xs sep w hcells hbk hN hcap hlen
def Tryd.lays171_ren : Go.Shelf.Ren := ⟨fun | 171 => 33 | 243 => 54 | 246 => 73 | 283 => 81 | 284 => 82 | 285 => 83 | 286 => 84 | 129 => 86 | 317 => 85 | 318 => 87 | 319 => 88 | 320 => 89 | 337 => 90 | 338 => 91 | n => n, fun | 3 => 3 | 9 => 9 | 2 => 2 | 4 => 4 | 171 => 88 | 0 => 0 | 53 => 48 | 37 => 45 | 5 => 5 | 173 => 90 | 212 => 93 | 51 => 87 | 20 => 20 | 213 => 94 | 46 => 60 | 232 => 96 | 233 => 97 | n => n, fun | 17 => 1 | 18 => 2 | 19 => 3 | n => n⟩
theorem Tryd.lays171 : Go.Proofs.Lays.n171 Tryd.prog Tryd.lays171_ren := {
  mixed := by kernel_rfl
  f129 := Tryd.func86.trans (congrArg some (by kernel_rfl))
  f171 := Tryd.func33.trans (congrArg some (by kernel_rfl))
  f243 := Tryd.func54.trans (congrArg some (by kernel_rfl))
  f246 := Tryd.func73.trans (congrArg some (by kernel_rfl))
  f283 := Tryd.func81.trans (congrArg some (by kernel_rfl))
  f284 := Tryd.func82.trans (congrArg some (by kernel_rfl))
  f285 := Tryd.func83.trans (congrArg some (by kernel_rfl))
  f286 := Tryd.func84.trans (congrArg some (by kernel_rfl))
  f317 := Tryd.func85.trans (congrArg some (by kernel_rfl))
  f318 := Tryd.func87.trans (congrArg some (by kernel_rfl))
  f319 := Tryd.func88.trans (congrArg some (by kernel_rfl))
  f320 := Tryd.func89.trans (congrArg some (by kernel_rfl))
  f337 := Tryd.func90.trans (congrArg some (by kernel_rfl))
  f338 := Tryd.func91.trans (congrArg some (by kernel_rfl))
  t0 := Tryd.underlying0
  a0 := Tryd.isAgg0
  z0 := Tryd.sizeOf0
  v0 := Tryd.zeroValue0
  t2 := Tryd.underlying2
  a2 := Tryd.isAgg2
  z2 := Tryd.sizeOf2
  v2 := Tryd.zeroValue2
  t3 := Tryd.underlying3
  a3 := Tryd.isAgg3
  z3 := Tryd.sizeOf3
  v3 := Tryd.zeroValue3
  t4 := Tryd.underlying4
  a4 := Tryd.isAgg4
  z4 := Tryd.sizeOf4
  v4 := Tryd.zeroValue4
  t5 := Tryd.underlying5
  a5 := Tryd.isAgg5
  z5 := Tryd.sizeOf5
  v5 := Tryd.zeroValue5
  t9 := Tryd.underlying9
  a9 := Tryd.isAgg9
  z9 := Tryd.sizeOf9
  v9 := Tryd.zeroValue9
  t20 := Tryd.underlying20
  a20 := Tryd.isAgg20
  z20 := Tryd.sizeOf20
  v20 := Tryd.zeroValue20
  t37 := Tryd.underlying45
  a37 := Tryd.isAgg45
  z37 := Tryd.sizeOf45
  v37 := Tryd.zeroValue45
  t46 := Tryd.underlying60
  a46 := Tryd.isAgg60
  z46 := Tryd.sizeOf60
  v46 := Tryd.zeroValue60
  t51 := Tryd.underlying87
  a51 := Tryd.isAgg87
  z51 := Tryd.sizeOf87
  v51 := Tryd.zeroValue87
  t53 := Tryd.underlying48
  a53 := Tryd.isAgg48
  z53 := Tryd.sizeOf48
  v53 := Tryd.zeroValue48
  t171 := Tryd.underlying88
  a171 := Tryd.isAgg88
  z171 := Tryd.sizeOf88
  v171 := Tryd.zeroValue88
  t173 := Tryd.underlying90
  a173 := Tryd.isAgg90
  z173 := Tryd.sizeOf90
  v173 := Tryd.zeroValue90
  t212 := Tryd.underlying93
  a212 := Tryd.isAgg93
  z212 := Tryd.sizeOf93
  v212 := Tryd.zeroValue93
  t213 := Tryd.underlying94
  a213 := Tryd.isAgg94
  z213 := Tryd.sizeOf94
  t232 := Tryd.underlying96
  a232 := Tryd.isAgg96
  z232 := Tryd.sizeOf96
  v232 := Tryd.zeroValue96
  t233 := Tryd.underlying97
  a233 := Tryd.isAgg97
  z233 := Tryd.sizeOf97
  v233 := Tryd.zeroValue97
  g17 := by kernel_rfl
  g18 := by kernel_rfl
  g19 := by kernel_rfl }
open Go.RowKit Go.Sort Go.Lib in
theorem Tryd.strconv_Itoa_small (i : Nat) (hi : i < 100) (w : World) :
    Calls Tryd.prog 33 #[.int .i64 i] w fun e w' => e = .returned (.string ⟨(Lib.decDigits i).toArray⟩) ∧ w' = w := Any.strconv_Itoa_small Tryd.lays171 i hi w
end Go.Proofs
namespace Go.Proofs.YtkoljbncokmeaaaDoor
open Go Go.RowKit
set_option maxRecDepth 1000000
set_option linter.unusedSimpArgs false
set_option linter.unusedVariables false
set_option maxHeartbeats 1000000
open Classical in
/-- The decimal digits of a small number. -/
noncomputable def decS (n : Int) : ByteArray := ⟨(Go.Lib.decDigits n.toNat).toArray⟩
noncomputable def F_strconv_Itoa : List V → Option V := F1 dI fun n => @ite _ (0 ≤ n ∧ n < 100) (Classical.propDecidable _) (some (.str (decS n))) none
theorem fn_strconv_Itoa : FnOk Tryd.prog 33 F_strconv_Itoa := by
  refine ⟨⟨_, Tryd.func33, by kernel_rfl, by kernel_rfl⟩, fun args r h => ?_⟩
  intro U w cargs hU hargs
  obtain ⟨_, n, rfl, h1, h4⟩ := F1_inv h
  cases dI_inv h1
  simp only [Option.ite_none_right_eq_some, Option.some.injEq] at h4
  obtain ⟨⟨n0, n1⟩, rfl⟩ := h4
  cases hargs with
  | cons _ _ c cs F Fs _ ha hs hF =>
    cases hs
    cases ha
    obtain ⟨k, rfl⟩ := Int.eq_ofNat_of_zero_le n0
    have hc := Tryd.strconv_Itoa_small k (by omega) w
    refine Calls.mono hc ?_
    rintro e w' ⟨rfl, rfl⟩
    refine ⟨_, [], rfl, ⟨List.nodup_nil, by simp⟩, ?_, Below.refl _ _⟩
    have e2 : decS ((k : Nat) : Int) = ⟨(Go.Lib.decDigits k).toArray⟩ := by
      unfold decS
      rw [Int.toNat_natCast]
    rw [e2]
    exact .str _
/-- Strings with one between each two. -/
noncomputable def jnS (m : List ByteArray) (sep : ByteArray) : ByteArray := ⟨(Go.Lib.join (m.map (·.data.toList)) sep.data.toList).toArray⟩
def dSt : V → Option ByteArray
  | .str s => some s
  | _ => none
theorem dSt_inv {v : V} {s : ByteArray} (h : dSt v = some s) : v = .str s := by
  unfold dSt at h
  split at h
  · simp only [Option.some.injEq] at h; rw [h]
  · simp at h
noncomputable def F_strings_Join : List V → Option V := F2 dS dSt fun m s => @ite _ (m.length ≤ 64 ∧ (jnS m s).size ≤ 1000000) (Classical.propDecidable _) (some (.str (jnS m s))) none
theorem fn_strings_Join : FnOk Tryd.prog 20 F_strings_Join := by
  refine ⟨⟨_, Tryd.func20, by kernel_rfl, by kernel_rfl⟩, fun args r h => ?_⟩
  intro U w cargs hU hargs
  obtain ⟨_, _, m, sep, rfl, h1, h2, h4⟩ := F2_inv h
  cases dS_inv h1
  cases dSt_inv h2
  simp only [Option.ite_none_right_eq_some, Option.some.injEq] at h4
  obtain ⟨⟨n0, n1⟩, rfl⟩ := h4
  have hlen : (Go.Lib.join (m.map (·.data.toList)) sep.data.toList).length ≤ 1000000 := n1
  cases hargs with
  | cons _ _ c cs F Fs FF ha hs hF =>
    obtain ⟨rfl, rfl⟩ := List.append_eq_nil_iff.1 hF.symm
    cases hs with
    | cons _ _ c2 cs2 F2 Fs2 _ ha2 hs2 hF2 =>
      cases hs2
      cases ha2
      generalize hv : V.list 1 (strs m) = v at ha
      cases ha with
      | listE sz a cap =>
        have hm : m = [] := by
          simp only [V.list.injEq] at hv
          exact strs_inj.1 hv.2
        subst hm
        refine Calls.mono (Tryd.strings_Join_none a cap sep w) ?_
        rintro e w' ⟨rfl, rfl⟩
        refine ⟨_, [], rfl, ⟨List.nodup_nil, by simp⟩, ?_, Below.refl _ _⟩
        exact .str _
      | list sz cells b o len cap cs3 hUb hl hlc hm hz hc hrv =>
        simp only [V.list.injEq] at hv
        obtain ⟨rfl, rfl⟩ := hv
        rw [strs_len, Nat.mul_one] at hl
        subst hl
        have hcells : ∀ (j : Nat) x, m[j]? = some x → w.cell? ⟨b, o + j, none⟩ = some (.string x) := fun j x hj => by
          obtain ⟨c', g1, g2⟩ := hrv.get0 (j := j) (v := .str x) (by simp [strs, hj])
          cases g2
          exact hc j _ g1
        refine Calls.mono (Tryd.strings_Join b o cap m sep w hcells (hU b hUb) (by omega) hlc (by omega)) ?_
        rintro e w' ⟨rfl, hb⟩
        exact ⟨_, [], rfl, ⟨List.nodup_nil, by simp⟩, .str _, hb⟩
      | _ => simp at hv
end Go.Proofs.YtkoljbncokmeaaaDoor
namespace Go.Proofs.YtkoljbncokmeaaaDoor
open Go Go.RowKit
set_option maxRecDepth 1000000
set_option linter.unusedSimpArgs false
set_option linter.unusedVariables false
set_option maxHeartbeats 1000000
def sc_s_FormatInt9_L0 : SC := (.seq (.seq (.reg [⟨(some 10), none, (.mov (.t 0))⟩, ⟨(some 11), none, (.bin false .neq (.t 10) (.c (.int .i64 0)))⟩]) (.cond (.t 11) .skip (.exit 0))) (.block 1 (.seq (.reg [⟨(some 12), none, (.mov (.t 0))⟩, ⟨(some 13), none, (.bin false .rem (.t 12) (.c (.int .i64 10)))⟩, ⟨(some 5), none, (.mov (.t 13))⟩]) (.seq (.seq (.reg [⟨(some 14), none, (.mov (.t 5))⟩, ⟨(some 15), none, (.bin false .lss (.t 14) (.c (.int .i64 0)))⟩]) (.cond (.t 15) (.reg [⟨(some 16), none, (.mov (.t 5))⟩, ⟨(some 17), none, (.bin false .sub (.c (.int .i64 0)) (.t 16))⟩, ⟨(some 5), none, (.mov (.t 17))⟩]) .skip)) (.seq (.reg [⟨(some 18), none, (.mov (.t 5))⟩, ⟨(some 19), none, (.bin false .add (.c (.int .i64 48)) (.t 18))⟩, ⟨(some 20), none, (.conv .u8 (.t 19))⟩, ⟨(some 21), none, (.mks 1 1 [(.int .u8 0)] [(0, (1, (.t 20)))])⟩, ⟨(some 22), none, (.bts (.t 21))⟩, ⟨(some 23), none, (.mov (.t 4))⟩, ⟨(some 24), none, (.bin false .add (.t 22) (.t 23))⟩, ⟨(some 4), none, (.mov (.t 24))⟩]) (.reg [⟨(some 25), none, (.mov (.t 0))⟩, ⟨(some 26), none, (.bin false .quo (.t 25) (.c (.int .i64 10)))⟩, ⟨(some 0), none, (.mov (.t 26))⟩]))))))
def sc_s_FormatInt9 : SC := (.seq (.reg [⟨(some 2), none, (.mov (.c (.str ⟨⟨[]⟩⟩)))⟩]) (.seq (.seq (.reg [⟨(some 6), none, (.mov (.t 0))⟩, ⟨(some 7), none, (.bin false .eql (.t 6) (.c (.int .i64 0)))⟩]) (.cond (.t 7) (.seq (.reg [⟨(some 2), none, (.mov (.c (.str ⟨⟨[48]⟩⟩)))⟩]) .ret) .skip)) (.seq (.reg [⟨(some 8), none, (.mov (.t 0))⟩, ⟨(some 9), none, (.bin false .lss (.t 8) (.c (.int .i64 0)))⟩, ⟨(some 3), none, (.mov (.t 9))⟩]) (.seq (.reg [⟨(some 4), none, (.mov (.c (.str ⟨⟨[]⟩⟩)))⟩]) (.seq (.block 0 (.loop sc_s_FormatInt9_L0)) (.seq (.seq (.reg [⟨(some 27), none, (.mov (.t 3))⟩]) (.cond (.t 27) (.seq (.reg [⟨(some 28), none, (.mov (.t 4))⟩, ⟨(some 29), none, (.bin false .add (.c (.str ⟨⟨[45]⟩⟩)) (.t 28))⟩, ⟨(some 2), none, (.mov (.t 29))⟩]) .ret) .skip)) (.seq (.reg [⟨(some 30), none, (.mov (.t 4))⟩, ⟨(some 2), none, (.mov (.t 30))⟩]) .ret)))))))
theorem code_s_FormatInt9 : fnCode Tryd.prog [] 12 = some (31, sc_s_FormatInt9, [(2, none)]) := by kernel_rfl
noncomputable def F_s_FormatInt : List V → Option V := F1 dI fun n => @ite _ (0 ≤ n ∧ n < 100) (Classical.propDecidable _) (some (.str (decS n))) none
theorem wrap8 (n : Int) (h1 : 0 ≤ n) (h2 : n < 256) : IntKind.u8.wrap n = n := by
  simp only [IntKind.wrap, IntKind.bits, IntKind.signed]
  simp
  omega
def qF (n : Int) : Nat → Int
  | 0 => n
  | k + 1 => qF n k / 10
def d8 (q : Int) : ByteArray := ⟨#[UInt8.ofNat (48 + q % 10).toNat]⟩
def sF (n : Int) : Nat → ByteArray
  | 0 => ⟨⟨[]⟩⟩
  | k + 1 => d8 (qF n k) ++ sF n k
theorem sF_size (n : Int) : ∀ k, (sF n k).size = k
  | 0 => rfl
  | k + 1 => by
    show (d8 (qF n k) ++ sF n k).size = k + 1
    rw [ByteArray.size_append, sF_size n k]
    show 1 + k = k + 1
    omega
theorem dig_nat (q : Nat) : d8 (q : Int) = ⟨#[UInt8.ofNat (48 + q % 10)]⟩ := by
  unfold d8
  rw [show (48 + (q : Int) % 10).toNat = 48 + q % 10 by omega]
theorem decS_one {n : Int} (h0 : 0 ≤ n) (h : n < 10) : decS n = d8 n := by
  obtain ⟨k, rfl⟩ := Int.eq_ofNat_of_zero_le h0
  rw [dig_nat]
  unfold decS
  rw [Int.toNat_natCast]
  unfold Go.Lib.decDigits
  rw [dif_pos (by omega), Nat.mod_eq_of_lt (by omega)]
theorem decS_two {n : Int} (h0 : 10 ≤ n) (h : n < 100) : decS n = d8 (n / 10) ++ d8 n := by
  obtain ⟨k, rfl⟩ := Int.eq_ofNat_of_zero_le (show 0 ≤ n by omega)
  rw [show ((k : Int) / 10) = ((k / 10 : Nat) : Int) by omega, dig_nat, dig_nat]
  unfold decS
  rw [Int.toNat_natCast]
  unfold Go.Lib.decDigits
  rw [dif_neg (by omega)]
  unfold Go.Lib.decDigits
  rw [dif_pos (by omega), Nat.mod_eq_of_lt (a := k / 10) (by omega)]
  apply ByteArray.ext
  simp
theorem str_nil_r (a : ByteArray) : a ++ (⟨⟨[]⟩⟩ : ByteArray) = a := by
  apply ByteArray.ext
  simp
theorem sF_one {n : Int} (h0 : 0 ≤ n) (h : n < 10) : sF n 1 = decS n := by
  rw [decS_one h0 h]
  exact str_nil_r _
theorem sF_two {n : Int} (h0 : 10 ≤ n) (h : n < 100) : sF n 2 = decS n := by
  rw [decS_two h0 h]
  show d8 (n / 10) ++ (d8 n ++ (⟨⟨[]⟩⟩ : ByteArray)) = _
  rw [str_nil_r]
theorem decS_zero : decS 0 = ⟨⟨[48]⟩⟩ := by
  rw [decS_one (Int.le_refl 0) (by omega)]
  rfl
theorem fn_s_FormatInt : FnOk Tryd.prog 12 F_s_FormatInt := by
  refine fn_ok code_s_FormatInt9 mixed envNil_ok ?_
  intro args r h hb
  obtain ⟨_, n, rfl, h1, h4⟩ := F1_inv h
  cases dI_inv h1
  simp only [Option.ite_none_right_eq_some, Option.some.injEq] at h4
  obtain ⟨⟨n0, n9⟩, rfl⟩ := h4
  clear h h1 hb
  refine ⟨by simp, fun w0 U0 L0 N0 => ?_⟩
  by_cases hz : n = 0
  · subst hz
    rw [decS_zero]
    simp -implicitDefEqProofs [sc_s_FormatInt9]
  have hn0 : ¬ n < 0 := by omega
  simp -implicitDefEqProofs [sc_s_FormatInt9, hz, hn0]
  refine loopI envNil_ok mixed (fun k : Nat => [(0, .int .i64 (qF n k)), (3, .bool false), (4, .str (sF n k))]) (fun _ => ([], 0)) (fun k => k ≤ 2 ∧ (k = 2 → ¬ n / 10 = 0)) (fun k => 2 - k) 0 (by simp) (SubI.slots rfl (by simp [qF, sF])) ?_
  rintro k ⟨hk, hk2⟩
  have hq : k = 0 ∧ qF n k = n ∨ k = 1 ∧ qF n k = n / 10 ∨ k = 2 ∧ qF n k = n / 10 / 10 := by
    rcases k with _ | _ | _ | k
    · exact .inl ⟨rfl, rfl⟩
    · exact .inr (.inl ⟨rfl, rfl⟩)
    · exact .inr (.inr ⟨rfl, rfl⟩)
    · omega
  by_cases h0 : qF n k = 0
  · have hres : sF n k = decS n := by
      rcases hq with ⟨rfl, e⟩ | ⟨rfl, e⟩ | ⟨rfl, e⟩
      · omega
      · exact sF_one n0 (by omega)
      · exact sF_two (by have := hk2 rfl; omega) n9
    simp -implicitDefEqProofs [sc_s_FormatInt9_L0, h0, hres]
  · have hk1 : k < 2 := by omega
    have hs : (d8 (qF n k)).size + (sF n k).size ≤ 9223372036854775807 := by
      rw [sF_size]
      show 1 + k ≤ _
      omega
    obtain ⟨q, hqq⟩ : ∃ q, qF n k = q := ⟨_, rfl⟩
    have hs2 : sF n (k + 1) = d8 (qF n k) ++ sF n k := rfl
    have hq2 : qF n (k + 1) = qF n k / 10 := rfl
    have hd : (⟨#[UInt8.ofNat (48 + q % 10).toNat]⟩ : ByteArray) = d8 q := rfl
    rw [hqq] at hq h0 hs hs2 hq2 ⊢
    have q0 : 0 ≤ q := by omega
    have q1 : q < 100 := by omega
    have t1 : q.tmod 10 = q % 10 := Int.tmod_eq_emod_of_nonneg q0
    have t2 : q.tdiv 10 = q / 10 := Int.tdiv_eq_ediv_of_nonneg q0
    have t3 : ¬ q % 10 < 0 := by omega
    have w1 : IntKind.i64.wrap (48 + q % 10) = 48 + q % 10 := wrapI _ (by omega) (by omega)
    have w2 : IntKind.u8.wrap (48 + q % 10) = 48 + q % 10 := wrap8 _ (by omega) (by omega)
    have w3 : IntKind.i64.wrap (q / 10) = q / 10 := wrapI _ (by omega) (by omega)
    have w4 : IntKind.i64.wrap (q % 10) = q % 10 := wrapI _ (by omega) (by omega)
    simp -implicitDefEqProofs [sc_s_FormatInt9_L0, h0, t1, t2, t3, w1, w2, w3, w4, hd, hs]
    refine Again.of (k + 1) ⟨by omega, fun e => by omega⟩ (by omega) (SubI.ren (fun _ => none) ?_ ?_ ?_ (by simp) (by simp))
    · simp [renV, ren1, hs2, hq2]
    · simp
    · simp
def sc_i_FormatInt : SC := (.seq (.reg [⟨(some 2), none, (.mov (.c (.str ⟨⟨[]⟩⟩)))⟩]) (.seq (.reg [⟨(some 3), none, (.mov (.t 0))⟩, ⟨(some 4), none, (.call 33 [(.t 3)])⟩, ⟨(some 2), none, (.mov (.t 4))⟩]) .ret))
theorem code_i_FormatInt : fnCode Tryd.prog [] 18 = some (5, sc_i_FormatInt, [(2, none)]) := by kernel_rfl
noncomputable def F_i_FormatInt : List V → Option V := F1 dI fun n => @ite _ (0 ≤ n ∧ n < 100) (Classical.propDecidable _) (some (.str (decS n))) none
theorem fn_i_FormatInt : FnOk Tryd.prog 18 F_i_FormatInt := by
  have env := (envNil_ok (P := Tryd.prog)).add fn_strconv_Itoa
  refine fn_ok code_i_FormatInt mixed env ?_
  intro args r h hb
  obtain ⟨_, n, rfl, h1, h4⟩ := F1_inv h
  cases dI_inv h1
  simp only [Option.ite_none_right_eq_some, Option.some.injEq] at h4
  obtain ⟨⟨n0, n9⟩, rfl⟩ := h4
  clear h h1 hb
  refine ⟨by simp, fun w0 U0 L0 N0 => ?_⟩
  have e : F_strconv_Itoa [.int .i64 n] = some (.str (decS n)) := if_pos ⟨n0, n9⟩
  simp -implicitDefEqProofs [sc_i_FormatInt, e]
end Go.Proofs.YtkoljbncokmeaaaDoor
namespace Go.Proofs.YtkoljbncokmeaaaDoor
open Go Go.RowKit
set_option maxRecDepth 1000000
set_option linter.unusedSimpArgs false
set_option linter.unusedVariables false
set_option maxHeartbeats 1000000
def sc_s_Join_L0 : SC := (.seq (.seq (.reg [⟨(some 8), none, (.mov (.t 6))⟩, ⟨(some 9), none, (.mov (.t 0))⟩, ⟨(some 10), none, (.len (.t 9))⟩, ⟨(some 11), none, (.bin false .lss (.t 8) (.t 10))⟩]) (.cond (.t 11) .skip (.exit 0))) (.seq (.block 1 (.seq (.seq (.reg [⟨(some 14), none, (.mov (.t 6))⟩, ⟨(some 15), none, (.bin false .gtr (.t 14) (.c (.int .i64 0)))⟩]) (.cond (.t 15) (.reg [⟨(some 16), none, (.mov (.t 5))⟩, ⟨(some 17), none, (.mov (.t 1))⟩, ⟨(some 18), none, (.app 1 1 (.t 16) (.t 17))⟩, ⟨(some 5), none, (.mov (.t 18))⟩]) .skip)) (.reg [⟨(some 19), none, (.mov (.t 5))⟩, ⟨(some 20), none, (.mov (.t 0))⟩, ⟨(some 21), none, (.mov (.t 6))⟩, ⟨(some 22), none, (.idx 1 (.t 20) (.t 21))⟩, ⟨(some 23), none, (.ld none (.str ⟨⟨[]⟩⟩) (.t 22))⟩, ⟨(some 24), none, (.app 1 1 (.t 19) (.t 23))⟩, ⟨(some 5), none, (.mov (.t 24))⟩]))) (.reg [⟨(some 12), none, (.mov (.t 6))⟩, ⟨(some 13), none, (.bin false .add (.t 12) (.c (.int .i64 1)))⟩, ⟨(some 6), none, (.mov (.t 13))⟩])))
def sc_s_Join : SC := (.seq (.reg [⟨(some 4), none, (.mov (.c (.str ⟨⟨[]⟩⟩)))⟩]) (.seq (.reg [⟨(some 7), none, (.mks 0 1 [] [])⟩, ⟨(some 5), none, (.mov (.t 7))⟩]) (.seq (.seq (.reg [⟨(some 6), none, (.mov (.c (.int .i64 0)))⟩]) (.block 0 (.loop sc_s_Join_L0))) (.seq (.reg [⟨(some 25), none, (.mov (.t 5))⟩, ⟨(some 26), none, (.bts (.t 25))⟩, ⟨(some 4), none, (.mov (.t 26))⟩]) .ret))))
theorem code_s_Join : fnCode Tryd.prog [] 14 = some (27, sc_s_Join, [(4, none)]) := by kernel_rfl
theorem ba_ext {a b : ByteArray} (h : a.data.toList = b.data.toList) : a = b := ByteArray.ext (Array.ext' h)
theorem ba_app (a b : ByteArray) : (a ++ b).data.toList = a.data.toList ++ b.data.toList := by simp
theorem jnS_data (m : List ByteArray) (s : ByteArray) : (jnS m s).data.toList = Go.Lib.join (m.map (·.data.toList)) s.data.toList := rfl
theorem jnS_nil (s : ByteArray) : jnS [] s = ⟨#[]⟩ := rfl
theorem joinT_snoc (sep : List UInt8) (r : List (List UInt8)) (x : List UInt8) : Go.Lib.joinTail sep (r ++ [x]) = Go.Lib.joinTail sep r ++ (sep ++ x) := by
  simp [Go.Lib.joinTail]
theorem jnS_one (x s : ByteArray) : jnS [x] s = x := ba_ext (by rw [jnS_data]; exact Go.Lib.join_one _ _)
theorem jnS_snoc {m : List ByteArray} (hm : m ≠ []) (x s : ByteArray) : jnS (m ++ [x]) s = jnS m s ++ s ++ x := by
  apply ba_ext
  rw [ba_app, ba_app, jnS_data, jnS_data]
  cases m with
  | nil => exact absurd rfl hm
  | cons a r =>
    rw [List.cons_append, List.map_cons, List.map_cons, Go.Lib.join_cons, Go.Lib.join_cons, List.map_append]
    simp only [List.map_cons, List.map_nil]
    rw [joinT_snoc]
    simp
theorem ba_size (a b : ByteArray) : (a ++ b).size = a.size + b.size := ByteArray.size_append
theorem take_snocS {m : List ByteArray} {i : Nat} (h : i < m.length) : m.take (i + 1) = m.take i ++ [atS m i] := by
  rw [List.take_succ_eq_append_getElem h]
  simp [atS, h]
theorem jn_step {m : List ByteArray} {i : Nat} (h : i < m.length) (s : ByteArray) : jnS (m.take (i + 1)) s = (if i = 0 then jnS (m.take i) s else jnS (m.take i) s ++ s) ++ atS m i := by
  rw [take_snocS h]
  by_cases h0 : i = 0
  · subst h0
    rw [if_pos rfl, List.take_zero, List.nil_append, jnS_one, jnS_nil]
    exact ba_ext (by rw [ba_app]; rfl)
  · rw [if_neg h0]
    exact jnS_snoc (fun e => by
      have := congrArg List.length e
      rw [List.length_take, List.length_nil] at this
      omega) _ _
theorem jn_mono {m : List ByteArray} (s : ByteArray) : ∀ d i, i + d = m.length → (jnS (m.take i) s).size ≤ (jnS m s).size
  | 0, i, h => by rw [List.take_of_length_le (by omega)]; exact Nat.le_refl _
  | d + 1, i, h => by
    have h1 := jn_mono (m := m) s d (i + 1) (by omega)
    have h2 : i < m.length := by omega
    rw [jn_step h2, ba_size] at h1
    by_cases h0 : i = 0
    · rw [if_pos h0] at h1; omega
    · rw [if_neg h0, ba_size] at h1; omega
theorem btV_nil : btV ⟨#[]⟩ = [] := rfl
theorem ba_size0 : (⟨#[]⟩ : ByteArray).size = 0 := rfl
noncomputable def F_s_Join : List V → Option V := F2 dS dSt fun m s => @ite _ (m.length ≤ 64 ∧ (jnS m s).size ≤ 1000000) (Classical.propDecidable _) (some (.str (jnS m s))) none
theorem fn_s_Join : FnOk Tryd.prog 14 F_s_Join := by
  refine fn_ok code_s_Join mixed envNil_ok ?_
  intro args r h hb
  obtain ⟨_, _, m, sep, rfl, h1, h2, h4⟩ := F2_inv h
  cases dS_inv h1
  cases dSt_inv h2
  simp only [Option.ite_none_right_eq_some, Option.some.injEq] at h4
  obtain ⟨⟨n0, n1⟩, rfl⟩ := h4
  clear h h1 h2 hb
  refine ⟨by simp, fun w0 U0 L0 N0 => ?_⟩
  have hres := bt_back (jnS m sep)
  rw [List.map_map] at hres
  have w1 : IntKind.i64.wrap 1 = 1 := wrapI _ (by omega) (by omega)
  simp -implicitDefEqProofs [sc_s_Join]
  refine loopI envNil_ok mixed (fun i : Nat => [(0, .list 1 (strs m)), (1, .str sep), (5, .sl 0 1 0 (jnS (m.take i) sep).size), (6, .int .i64 (i : Int))]) (fun i => ([(0, btV (jnS (m.take i) sep))], 1)) (fun i => i ≤ m.length) (fun i => m.length - i) 0 (by simp) (SubI.slots (by simp [jnS_nil, btV_nil]) (by simp [jnS_nil, ba_size0, -ByteArray.size_eq_zero_iff])) ?_
  intro i hi
  by_cases hlt : i < m.length
  · have hltI : (i : Int) < (m.length : Int) := by omega
    have hw1 : IntKind.i64.wrap ((i : Int) + 1) = (i : Int) + 1 := wrapI _ (by omega) (by omega)
    have hst := jn_step hlt sep
    have hmo := jn_mono (m := m) sep (m.length - (i + 1)) (i + 1) (by omega)
    have hmo0 := jn_mono (m := m) sep (m.length - i) i (by omega)
    rw [hst, ba_size] at hmo
    generalize hj2 : jnS (m.take (i + 1)) sep = j2 at *
    generalize hj : jnS (m.take i) sep = j at *
    generalize hx : atS m i = x at *
    have wj := btV_whole j
    by_cases h0 : i = 0
    · rw [if_pos h0] at hmo hst
      subst h0
      simp -implicitDefEqProofs [sc_s_Join_L0, hltI, hw1, hlt, hx, wj]
      refine ⟨by omega, ?_⟩
      refine Again.of 1 (by omega) (by omega) (SubI.ren (fun m => if m = 0 then some 1 else none) ?_ ?_ ?_ (by simp) (by simp))
      · rw [show (0 : Nat) + 1 = 1 from rfl] at hj2
        simp [subT, renV, ren1, hj2, hst, ba_size, w1]
      · rw [show (0 : Nat) + 1 = 1 from rfl] at hj2
        simp [subH, renL, ren1, hj2, hst]
      · intro m hm
        simp only at hm
        rw [if_neg (by omega)]
    · rw [if_neg h0] at hmo hst
      rw [ba_size] at hmo
      have h0I : 0 < i := by omega
      have ws := btV_whole (j ++ sep)
      rw [ba_size] at ws
      simp -implicitDefEqProofs [sc_s_Join_L0, hltI, hw1, hlt, hx, wj, h0I, ws]
      repeat' (first | omega | apply And.intro)
      refine Again.of (i + 1) (by omega) (by omega) (SubI.ren (fun m => if m = 0 then some 2 else none) ?_ ?_ ?_ (by simp) (by simp))
      · simp [subT, renV, ren1, hj2, hst, ba_size]
      · simp [subH, renL, ren1, hj2, hst]
      · intro m hm
        simp only at hm
        rw [if_neg (by omega)]
  · have : i = m.length := by omega
    subst this
    have htk : m.take m.length = m := List.take_length
    have wj := btV_whole (jnS m sep)
    simp -implicitDefEqProofs [sc_s_Join_L0, htk, wj, ubL_bt, hres]
end Go.Proofs.YtkoljbncokmeaaaDoor
namespace Go.Proofs.YtkoljbncokmeaaaDoor
open Go Go.RowKit
set_option maxRecDepth 1000000
set_option linter.unusedSimpArgs false
set_option linter.unusedVariables false
set_option maxHeartbeats 1000000
/-- The sum of the first numbers of a sequence. -/
def smS (f : Nat → Int) : Nat → Int
  | 0 => 0
  | n + 1 => smS f n + f n
theorem smS_congr {f g : Nat → Int} : ∀ n, (∀ i, i < n → f i = g i) → smS f n = smS g n
  | 0, _ => rfl
  | n + 1, h => by
    unfold smS
    rw [smS_congr n fun i hi => h i (by omega), h n (by omega)]
theorem smS_add (f g : Nat → Int) : ∀ n, smS (fun i => f i + g i) n = smS f n + smS g n
  | 0 => rfl
  | n + 1 => by
    unfold smS
    rw [smS_add f g n]
    omega
theorem smS_mul (a : Int) (f : Nat → Int) : ∀ n, smS (fun i => a * f i) n = a * smS f n
  | 0 => by simp [smS]
  | n + 1 => by
    unfold smS
    rw [smS_mul a f n, Int.mul_add]
theorem smS_zero : ∀ n, smS (fun _ => 0) n = 0
  | 0 => rfl
  | n + 1 => by unfold smS; rw [smS_zero n]; rfl
theorem smS_z {f : Nat → Int} {n : Nat} (h : ∀ i, i < n → f i = 0) : smS f n = 0 := by
  rw [smS_congr n h, smS_zero]
theorem smS_swap (f : Nat → Nat → Int) (m : Nat) : ∀ n, smS (fun i => smS (f i) m) n = smS (fun j => smS (fun i => f i j) n) m
  | 0 => (smS_z (n := m) (f := fun j => smS (fun i => f i j) 0) fun _ _ => rfl).symm
  | n + 1 => by
    show smS (fun i => smS (f i) m) n + smS (f n) m = _
    rw [smS_swap f m n, ← smS_add]
    rfl
/-- A sum with two neighbours exchanged. -/
theorem smS_nb {f g : Nat → Int} {s : Nat} : ∀ n, s + 1 < n → (∀ i, i < n → i ≠ s → i ≠ s + 1 → f i = g i) → f s = g (s + 1) → f (s + 1) = g s → smS f n = smS g n
  | 0, h, _, _, _ => by omega
  | n + 1, h, h1, h2, h3 => by
    unfold smS
    by_cases e : n = s + 1
    · subst e
      unfold smS
      rw [smS_congr s fun i hi => h1 i (by omega) (by omega) (by omega), h2, h3]
      omega
    · rw [smS_nb n (by omega) (fun i hi => h1 i (by omega)) h2 h3, h1 n (by omega) (by omega) e]
/-- Only one of the numbers is not 0. -/
theorem smS_one {f : Nat → Int} {s : Nat} : ∀ n, s < n → (∀ i, i < n → i ≠ s → f i = 0) → smS f n = f s
  | 0, h, _ => by omega
  | n + 1, h, h1 => by
    unfold smS
    by_cases e : s = n
    · subst e
      rw [smS_z fun i hi => h1 i (by omega) (by omega)]; omega
    · rw [smS_one n (by omega) (fun i hi => h1 i (by omega)), h1 n (by omega) (by omega)]; omega
/-- Skip a place. -/
def skI (i a : Nat) : Nat := if a < i then a else a + 1
theorem skI_lt {i a : Nat} (h : a < i) : skI i a = a := if_pos h
theorem skI_ge {i a : Nat} (h : i ≤ a) : skI i a = a + 1 := if_neg (by omega)
theorem skI_ne (i a : Nat) : skI i a ≠ i := by unfold skI; split <;> omega
theorem skI_bnd {i a n : Nat} (h : a < n) : skI i a < n + 1 := by unfold skI; split <;> omega
theorem skI_inj {i a b : Nat} (h : skI i a = skI i b) : a = b := by unfold skI at h; split at h <;> split at h <;> omega
def altI (i : Nat) : Int := if i % 2 = 0 then 1 else -1
theorem altI_succ (i : Nat) : altI (i + 1) = - altI i := by unfold altI; split <;> split <;> omega
/-- The determinant of the first n rows and columns, by the first column. -/
def dtM : Nat → (Nat → Nat → Int) → Int
  | 0, _ => 1
  | n + 1, M => smS (fun i => altI i * (M i 0 * dtM n fun a b => M (skI i a) (b + 1))) (n + 1)
theorem dtM_succ (n : Nat) (M : Nat → Nat → Int) : dtM (n + 1) M = smS (fun i => altI i * (M i 0 * dtM n fun a b => M (skI i a) (b + 1))) (n + 1) := rfl
theorem dtM_congr : ∀ (n : Nat) {M N : Nat → Nat → Int}, (∀ a b, a < n → b < n → M a b = N a b) → dtM n M = dtM n N
  | 0, _, _, _ => rfl
  | n + 1, M, N, h => by
    rw [dtM_succ, dtM_succ]
    refine smS_congr _ fun i hi => ?_
    rw [h i 0 hi (by omega), dtM_congr n fun a b ha hb => h _ _ (skI_bnd ha) (by omega)]
/-- Exchange two neighbours. -/
def swN (s a : Nat) : Nat := if a = s then s + 1 else if a = s + 1 then s else a
theorem swN_ne {s a : Nat} (h1 : a ≠ s) (h2 : a ≠ s + 1) : swN s a = a := by unfold swN; rw [if_neg h1, if_neg h2]
theorem swN_l (s : Nat) : swN s s = s + 1 := if_pos rfl
theorem swN_r (s : Nat) : swN s (s + 1) = s := by unfold swN; rw [if_neg (by omega), if_pos rfl]
theorem swN_sk_s (s a : Nat) : swN s (skI s a) = skI (s + 1) a := by
  unfold swN skI
  repeat' split
  all_goals omega
theorem swN_sk_s1 (s a : Nat) : swN s (skI (s + 1) a) = skI s a := by
  unfold swN skI
  repeat' split
  all_goals omega
theorem swN_sk_lt {s i : Nat} (h : i < s + 1) (a : Nat) : swN (s + 1) (skI i a) = skI i (swN s a) := by
  unfold swN skI
  repeat' split
  all_goals omega
theorem swN_sk_gt {s i : Nat} (h : s + 1 < i) (a : Nat) : swN s (skI i a) = skI i (swN s a) := by
  unfold swN skI
  repeat' split
  all_goals omega
theorem dt_swap : ∀ (n : Nat) (M : Nat → Nat → Int) (s : Nat), s + 1 < n → dtM n (fun a b => M (swN s a) b) = - dtM n M
  | 0, _, _, h => by omega
  | n + 1, M, s, h => by
    have key : dtM (n + 1) (fun a b => M (swN s a) b) = smS (fun i => - (altI i * (M i 0 * dtM n fun a b => M (skI i a) (b + 1)))) (n + 1) := by
      rw [dtM_succ]
      refine smS_nb (s := s) _ h (fun i hi h1 h2 => ?_) ?_ ?_
      · rw [swN_ne h1 h2]
        have e : dtM n (fun a b => M (swN s (skI i a)) (b + 1)) = - dtM n (fun a b => M (skI i a) (b + 1)) := by
          by_cases hlt : i < s
          · obtain ⟨s', rfl⟩ : ∃ s', s = s' + 1 := ⟨s - 1, by omega⟩
            rw [← dt_swap n (fun a b => M (skI i a) (b + 1)) s' (by omega)]
            exact dtM_congr n fun a b _ _ => by rw [swN_sk_lt (by omega)]
          · rw [← dt_swap n (fun a b => M (skI i a) (b + 1)) s (by omega)]
            exact dtM_congr n fun a b _ _ => by rw [swN_sk_gt (by omega)]
        rw [e, Int.mul_neg, Int.mul_neg]
      · rw [swN_l, altI_succ, dtM_congr n fun a b _ _ => by rw [swN_sk_s]]
        rw [Int.neg_mul, Int.neg_neg]
      · rw [swN_r, altI_succ, dtM_congr n fun a b _ _ => by rw [swN_sk_s1]]
        rw [Int.neg_mul]
    rw [key]
    rw [dtM_succ]
    have : (fun i => - (altI i * (M i 0 * dtM n fun a b => M (skI i a) (b + 1)))) = fun i => -1 * (altI i * (M i 0 * dtM n fun a b => M (skI i a) (b + 1))) := by
      funext i; omega
    rw [this, smS_mul]
    omega
/-- Linear in one row. -/
theorem dt_lin : ∀ (n : Nat) (M U V : Nat → Nat → Int) (s : Nat) (x y : Int), s < n → (∀ a b, a ≠ s → U a b = M a b) → (∀ a b, a ≠ s → V a b = M a b) → (∀ b, M s b = x * U s b + y * V s b) → dtM n M = x * dtM n U + y * dtM n V
  | 0, _, _, _, _, _, _, h, _, _, _ => by omega
  | n + 1, M, U, V, s, x, y, h, hU, hV, hM => by
    rw [dtM_succ, dtM_succ, dtM_succ]
    rw [← smS_mul, ← smS_mul, ← smS_add]
    refine smS_congr _ fun i hi => ?_
    by_cases e : i = s
    · subst e
      rw [hM 0, dtM_congr n (fun a b _ _ => (hU _ (b + 1) (skI_ne i a)).symm), dtM_congr n (M := fun a b => V (skI i a) (b + 1)) (N := fun a b => U (skI i a) (b + 1)) (fun a b _ _ => by rw [hV _ _ (skI_ne i a), hU _ _ (skI_ne i a)])]
      rw [Int.add_mul, Int.mul_add, Int.mul_assoc, Int.mul_assoc, Int.mul_left_comm (altI i) x, Int.mul_left_comm (altI i) y]
    · rw [hU i 0 e, hV i 0 e]
      obtain ⟨s', hs, hs'⟩ : ∃ s', skI i s' = s ∧ s' < n := by
        by_cases hlt : s < i
        · exact ⟨s, skI_lt hlt, by omega⟩
        · exact ⟨s - 1, by rw [skI_ge (by omega)]; omega, by omega⟩
      rw [dt_lin n (fun a b => M (skI i a) (b + 1)) (fun a b => U (skI i a) (b + 1)) (fun a b => V (skI i a) (b + 1)) s' x y hs'
        (fun a b ha => hU _ _ fun h2 => ha (skI_inj (h2.trans hs.symm))) (fun a b ha => hV _ _ fun h2 => ha (skI_inj (h2.trans hs.symm))) (fun b => by rw [hs]; exact hM _)]
      rw [Int.mul_add, Int.mul_add, Int.mul_left_comm (M i 0) x, Int.mul_left_comm (M i 0) y, Int.mul_left_comm (altI i) x, Int.mul_left_comm (altI i) y]
/-- Two equal rows. -/
theorem dt_eq : ∀ (d n : Nat) (M : Nat → Nat → Int) (p : Nat), p + d + 1 < n → (∀ b, M p b = M (p + d + 1) b) → dtM n M = 0
  | 0, n, M, p, h, he => by
    have e := dt_swap n M p (by omega)
    have e2 : dtM n (fun a b => M (swN p a) b) = dtM n M := dtM_congr n fun a b _ _ => by
      by_cases h1 : a = p
      · subst h1; rw [swN_l, he]
      · by_cases h2 : a = p + 1
        · subst h2; rw [swN_r, he]
        · rw [swN_ne h1 h2]
    omega
  | d + 1, n, M, p, h, he => by
    have e := dt_swap n M (p + d + 1) (by omega)
    have e2 := dt_eq d n (fun a b => M (swN (p + d + 1) a) b) p (by omega) (fun b => by
      show M (swN (p + d + 1) p) b = M (swN (p + d + 1) (p + d + 1)) b
      rw [swN_ne (by omega) (by omega), swN_l]; exact he b)
    omega
theorem dt_eq2 {n : Nat} {M : Nat → Nat → Int} {p q : Nat} (hp : p < n) (hq : q < n) (hne : p ≠ q) (he : ∀ b, M p b = M q b) : dtM n M = 0 := by
  by_cases h : p < q
  · exact dt_eq (q - p - 1) n M p (by omega) (fun b => by rw [show p + (q - p - 1) + 1 = q by omega]; exact he b)
  · exact dt_eq (p - q - 1) n M q (by omega) (fun b => by rw [show q + (p - q - 1) + 1 = p by omega]; exact (he b).symm)
/-- A sum with one place left out. -/
theorem smS_skip (f : Nat → Int) : ∀ (n i : Nat), i < n + 1 → smS (fun k => if k = i then 0 else f k) (n + 1) = smS (fun j => f (skI i j)) n
  | 0, i, h => by
    have : i = 0 := by omega
    subst this
    rfl
  | n + 1, i, h => by
    by_cases e : i = n + 1
    · subst e
      show smS (fun k => if k = n + 1 then 0 else f k) (n + 1) + (if n + 1 = n + 1 then 0 else f (n + 1)) = _
      rw [if_pos rfl, Int.add_zero]
      exact smS_congr _ fun k hk => by rw [if_neg (by omega), skI_lt hk]
    · show smS (fun k => if k = i then 0 else f k) (n + 1) + (if n + 1 = i then 0 else f (n + 1)) = smS (fun j => f (skI i j)) n + f (skI i n)
      rw [smS_skip f n i (by omega), if_neg (fun h => e h.symm), skI_ge (by omega)]
def unI (i k : Nat) : Nat := if k < i then k else k - 1
theorem sk_un (i j : Nat) : unI i (skI i j) = j := by unfold skI unI; repeat' split
                                                      all_goals omega
theorem sk_two {i k : Nat} (h : k ≠ i) (a : Nat) : skI i (skI (unI i k) a) = skI k (skI (unI k i) a) := by
  unfold skI unI
  repeat' split
  all_goals omega
theorem alt_two {i k : Nat} (h : k ≠ i) : altI i * altI (unI i k) = - (altI k * altI (unI k i)) := by
  unfold unI
  by_cases h1 : k < i
  · rw [if_pos h1, if_neg (by omega)]
    obtain ⟨i', rfl⟩ : ∃ i', i = i' + 1 := ⟨i - 1, by omega⟩
    rw [altI_succ, Nat.add_sub_cancel, Int.neg_mul, Int.mul_comm]
  · rw [if_neg h1, if_pos (by omega)]
    obtain ⟨k', rfl⟩ : ∃ k', k = k' + 1 := ⟨k - 1, by omega⟩
    rw [altI_succ, Nat.add_sub_cancel, Int.neg_mul, Int.mul_comm]
    omega
def twoT (n : Nat) (M : Nat → Nat → Int) (i k : Nat) : Int := altI i * altI (unI i k) * dtM n fun a b => M (skI i (skI (unI i k) a)) (b + 2)
theorem dt_two (n : Nat) (M : Nat → Nat → Int) : dtM (n + 2) M = smS (fun i => smS (fun k => if k = i then 0 else twoT n M i k * (M i 0 * M k 1)) (n + 2)) (n + 2) := by
  rw [dtM_succ]
  refine smS_congr _ fun i hi => ?_
  rw [smS_skip (fun k => twoT n M i k * (M i 0 * M k 1)) (n + 1) i hi, dtM_succ, ← smS_mul, ← smS_mul]
  refine smS_congr _ fun j hj => ?_
  unfold twoT
  rw [sk_un]
  simp only [Int.mul_assoc, Int.mul_left_comm, Int.mul_comm]
theorem twoT_neg (n : Nat) (M : Nat → Nat → Int) {i k : Nat} (h : k ≠ i) : twoT n M i k = - twoT n M k i := by
  unfold twoT
  rw [alt_two h, dtM_congr n fun a b _ _ => by rw [sk_two h]]
  rw [Int.neg_mul]
theorem dt_cswap : ∀ (n : Nat) (M : Nat → Nat → Int) (s : Nat), s + 1 < n → dtM n (fun a b => M a (swN s b)) = - dtM n M
  | 0, _, _, h => by omega
  | 1, _, s, h => by omega
  | n + 2, M, 0, h => by
    have e1 : dtM (n + 2) (fun a b => M a (swN 0 b)) = smS (fun i => smS (fun k => if k = i then 0 else twoT n M i k * (M i 1 * M k 0)) (n + 2)) (n + 2) := by
      rw [dt_two]
      refine smS_congr _ fun i _ => smS_congr _ fun k _ => ?_
      split
      · rfl
      · have e2 : twoT n (fun a b => M a (swN 0 b)) i k = twoT n M i k := by
          unfold twoT
          have e4 : dtM n (fun a b => M (skI i (skI (unI i k) a)) (swN 0 (b + 2))) = dtM n fun a b => M (skI i (skI (unI i k) a)) (b + 2) := dtM_congr n fun a b _ _ => by rw [swN_ne (by omega) (by omega)]
          rw [e4]
        rw [e2]; rfl
    rw [e1, smS_swap, dt_two]
    have e3 : ∀ f : Nat → Nat → Int, - smS (fun i => smS (f i) (n + 2)) (n + 2) = smS (fun i => smS (fun k => - f i k) (n + 2)) (n + 2) := fun f => by
      have h1 : ∀ g : Nat → Int, ∀ m, smS (fun i => - g i) m = - smS g m := fun g m => by
        have : (fun i => - g i) = fun i => -1 * g i := by funext i; omega
        rw [this, smS_mul]; omega
      rw [← h1]
      exact smS_congr _ fun i _ => (h1 _ _).symm
    rw [e3]
    refine smS_congr _ fun i _ => smS_congr _ fun k _ => ?_
    by_cases h2 : k = i
    · rw [if_pos h2.symm, if_pos h2]; rfl
    · rw [if_neg (fun h => h2 h.symm), if_neg h2, twoT_neg n M h2, Int.neg_mul, Int.neg_neg, Int.mul_comm (M k 1)]
  | n + 2, M, s + 1, h => by
    rw [dtM_succ, dtM_succ]
    have e1 : smS (fun i => altI i * (M i 0 * dtM (n + 1) fun a b => M (skI i a) (b + 1))) (n + 2) = - smS (fun i => -1 * (altI i * (M i 0 * dtM (n + 1) fun a b => M (skI i a) (b + 1)))) (n + 2) := by rw [smS_mul]; omega
    rw [e1, Int.neg_neg]
    refine smS_congr _ fun i _ => ?_
    rw [swN_ne (by omega) (by omega)]
    have e2 : dtM (n + 1) (fun a b => M (skI i a) (swN (s + 1) (b + 1))) = - dtM (n + 1) fun a b => M (skI i a) (b + 1) := by
      rw [← dt_cswap (n + 1) (fun a b => M (skI i a) (b + 1)) s (by omega)]
      exact dtM_congr _ fun a b _ _ => by
        have : swN (s + 1) (b + 1) = swN s b + 1 := by unfold swN; repeat' split
                                                       all_goals omega
        rw [this]
    rw [e2, Int.mul_neg, Int.mul_neg]
    omega
/-- Determinants by lists of rows and columns. -/
def dtL (M : Nat → Nat → Int) (R C : List Nat) : Int := dtM R.length fun a b => M (R.getD a 0) (C.getD b 0)
theorem getD_sw {l : List Nat} {pre : List Nat} {x y : Nat} (a : Nat) : (pre ++ x :: y :: l).getD (swN pre.length a) 0 = (pre ++ y :: x :: l).getD a 0 := by
  simp only [List.getD_eq_getElem?_getD]
  by_cases h1 : a = pre.length
  · subst h1
    rw [swN_l, List.getElem?_append_right (by omega), List.getElem?_append_right (by omega)]
    simp
  · by_cases h2 : a = pre.length + 1
    · subst h2
      rw [swN_r, List.getElem?_append_right (by omega), List.getElem?_append_right (by omega)]
      simp
    · rw [swN_ne h1 h2]
      by_cases h3 : a < pre.length
      · rw [List.getElem?_append_left h3, List.getElem?_append_left h3]
      · rw [List.getElem?_append_right (by omega), List.getElem?_append_right (by omega)]
        obtain ⟨q, hq⟩ : ∃ q, a - pre.length = q + 2 := ⟨a - pre.length - 2, by omega⟩
        rw [hq]
        rfl
theorem dtL_rperm {M : Nat → Nat → Int} {C : List Nat} {R R' : List Nat} (h : R.Perm R') : ∀ pre : List Nat, (dtL M (pre ++ R) C).natAbs = (dtL M (pre ++ R') C).natAbs := by
  induction h with
  | nil => intro pre; rfl
  | cons x _ ih =>
    intro pre
    have := ih (pre ++ [x])
    simpa using this
  | swap x y l =>
    intro pre
    have e : dtL M (pre ++ x :: y :: l) C = - dtL M (pre ++ y :: x :: l) C := by
      unfold dtL
      have hl : (pre ++ x :: y :: l).length = (pre ++ y :: x :: l).length := by simp
      rw [hl, ← dt_swap _ _ pre.length (by simp)]
      exact dtM_congr _ fun a b _ _ => by rw [getD_sw]
    rw [e, Int.natAbs_neg]
  | trans _ _ ih1 ih2 => intro pre; rw [ih1, ih2]
theorem dtL_cperm {M : Nat → Nat → Int} {R : List Nat} {C C' : List Nat} (h : C.Perm C') : ∀ pre : List Nat, (pre ++ C).length = R.length → (dtL M R (pre ++ C)).natAbs = (dtL M R (pre ++ C')).natAbs := by
  induction h with
  | nil => intro pre _; rfl
  | cons x _ ih =>
    intro pre hp
    have := ih (pre ++ [x]) (by simpa using hp)
    simpa using this
  | swap x y l =>
    intro pre hp
    have e : dtL M R (pre ++ x :: y :: l) = - dtL M R (pre ++ y :: x :: l) := by
      unfold dtL
      rw [← dt_cswap _ _ pre.length (by rw [← hp]; simp)]
      exact dtM_congr _ fun a b _ _ => by rw [getD_sw]
    rw [e, Int.natAbs_neg]
  | trans h1 _ ih1 ih2 =>
    intro pre hp
    rw [ih1 pre hp, ih2 pre (by rw [← hp]; simp [h1.length_eq])]
/-- A product of the first numbers of a sequence. -/
def prS (e : Nat → Int) : Nat → Int
  | 0 => 1
  | n + 1 => prS e n * e n
theorem prS_congr {f g : Nat → Int} : ∀ n, (∀ i, i < n → f i = g i) → prS f n = prS g n
  | 0, _ => rfl
  | n + 1, h => by unfold prS; rw [prS_congr n fun i hi => h i (by omega), h n (by omega)]
theorem prS_skip (e : Nat → Int) : ∀ (n i : Nat), i < n + 1 → prS e (n + 1) = e i * prS (fun a => e (skI i a)) n
  | 0, i, h => by
    have : i = 0 := by omega
    subst this
    simp [prS]
  | n + 1, i, h => by
    by_cases h1 : i = n + 1
    · subst h1
      show prS e (n + 1) * e (n + 1) = _
      rw [prS_congr (f := fun a => e (skI (n + 1) a)) (g := e) (n + 1) fun a ha => by rw [skI_lt (by omega)]]
      rw [Int.mul_comm]
    · show prS e (n + 1) * e (n + 1) = e i * (prS (fun a => e (skI i a)) n * e (skI i n))
      rw [prS_skip e n i (by omega), skI_ge (by omega), Int.mul_assoc]
theorem dt_scale (e : Nat → Int) : ∀ (n : Nat) (g : Nat → Int) (f : Nat → Int) (M : Nat → Nat → Int), dtM n (fun a b => f a * g b * M a b) = prS f n * prS g n * dtM n M
  | 0, _, _, _ => by simp [dtM, prS]
  | n + 1, g, f, M => by
    rw [dtM_succ, dtM_succ, ← smS_mul]
    refine smS_congr _ fun i hi => ?_
    rw [dt_scale e n (fun b => g (b + 1)) (fun a => f (skI i a)) fun a b => M (skI i a) (b + 1)]
    have e1 := prS_skip f n i hi
    have e2 := prS_skip g n 0 (by omega)
    have e3 : prS (fun a => g (skI 0 a)) n = prS (fun b => g (b + 1)) n := prS_congr n fun a _ => by rw [skI_ge (by omega)]
    rw [e1, e2, e3]
    simp only [Int.mul_assoc, Int.mul_left_comm, Int.mul_comm]
theorem prS_pm {f : Nat → Int} : ∀ n, (∀ i, i < n → f i = 1 ∨ f i = -1) → prS f n = 1 ∨ prS f n = -1
  | 0, _ => .inl rfl
  | n + 1, h => by
    unfold prS
    rcases prS_pm n fun i hi => h i (by omega) with h1 | h1 <;> rcases h n (by omega) with h2 | h2 <;> rw [h1, h2] <;> simp
theorem pm_abs {a b : Int} (h : a = 1 ∨ a = -1) : (a * b).natAbs = b.natAbs := by
  rcases h with h | h <;> subst h <;> simp
/-- Signs of rows and columns do not change the size. -/
theorem dt_signs {n : Nat} {f g : Nat → Int} {M N : Nat → Nat → Int} (hf : ∀ i, i < n → f i = 1 ∨ f i = -1) (hg : ∀ i, i < n → g i = 1 ∨ g i = -1) (h : ∀ a b, a < n → b < n → N a b = f a * g b * M a b) : (dtM n N).natAbs = (dtM n M).natAbs := by
  rw [dtM_congr n h, dt_scale (fun _ => 0), Int.mul_assoc, pm_abs (prS_pm n hf), pm_abs (prS_pm n hg)]
theorem getD_erase {l : List Nat} (i a : Nat) : (l.eraseIdx i).getD a 0 = l.getD (skI i a) 0 := by
  simp only [List.getD_eq_getElem?_getD, List.getElem?_eraseIdx]
  unfold skI
  split <;> rfl
theorem len_erase {l : List Nat} {i : Nat} (h : i < l.length) : (l.eraseIdx i).length + 1 = l.length := by
  rw [List.length_eraseIdx_of_lt h]; omega
/-- The expansion by the first column, in lists. -/
theorem dtL_cons (M : Nat → Nat → Int) (R : List Nat) (c : Nat) (C : List Nat) (h : R ≠ []) : dtL M R (c :: C) = smS (fun i => altI i * (M (R.getD i 0) c * dtL M (R.eraseIdx i) C)) R.length := by
  obtain ⟨n, hn⟩ : ∃ n, R.length = n + 1 := ⟨R.length - 1, by have := List.length_pos_iff.2 h; omega⟩
  unfold dtL
  rw [hn, dtM_succ]
  refine smS_congr _ fun i hi => ?_
  have hl : (R.eraseIdx i).length = n := by have := len_erase (l := R) (i := i) (by omega); omega
  rw [hl]
  congr 2
  refine dtM_congr n fun a b _ _ => ?_
  rw [getD_erase]
  rfl
end Go.Proofs.YtkoljbncokmeaaaDoor
namespace Go.Proofs.YtkoljbncokmeaaaDoor
open Go Go.RowKit
set_option maxRecDepth 1000000
set_option linter.unusedSimpArgs false
set_option linter.unusedVariables false
set_option maxHeartbeats 1000000
def oneM (N : Nat) : Nat := 2 ^ (2 ^ N) - 1
def varM : Nat → Nat → Nat
  | 0, _ => 0
  | n + 1, i => if i = n then (2 ^ (2 ^ n) - 1) * 2 ^ (2 ^ n) else varM n i * (2 ^ (2 ^ n) + 1)
def frc {α : Type} (n : Nat) (f : Nat → α) : α := match n with
  | 0 => f 0
  | k + 1 => f (k + 1)
theorem frc_eq {α : Type} (n : Nat) (f : Nat → α) : frc n f = f n := by cases n <;> rfl
theorem oneM_bit (N S : Nat) : (oneM N).testBit S = decide (S < 2 ^ N) := by
  unfold oneM; rw [Nat.testBit_two_pow_sub_one]
theorem varM_lt : ∀ n i : Nat, varM n i < 2 ^ (2 ^ n)
  | 0, _ => by simp [varM]
  | n + 1, i => by
    have e : 2 ^ (2 ^ (n + 1)) = 2 ^ (2 ^ n) * 2 ^ (2 ^ n) := by rw [← Nat.pow_add]; congr 1; rw [Nat.pow_succ]; omega
    have hp := Nat.two_pow_pos (2 ^ n)
    unfold varM
    split
    · rw [e]; exact Nat.mul_lt_mul_of_pos_right (by omega) hp
    · have := varM_lt n i
      rw [e]
      generalize 2 ^ (2 ^ n) = q at *
      have h1 : varM n i ≤ q - 1 := by omega
      have h2 : varM n i * (q + 1) ≤ (q - 1) * (q + 1) := Nat.mul_le_mul_right _ h1
      obtain ⟨p, rfl⟩ : ∃ p, q = p + 1 := ⟨q - 1, by omega⟩
      simp only [Nat.add_sub_cancel] at h2
      have h3 : (p + 1) * (p + 1) = p * (p + 1 + 1) + 1 := by
        simp only [Nat.mul_add, Nat.add_mul]; omega
      omega
theorem varM_bit : ∀ n i S : Nat, i < n → S < 2 ^ n → (varM n i).testBit S = S.testBit i
  | 0, _, _, h, _ => by omega
  | n + 1, i, S, hi, hS => by
    have e : 2 ^ (n + 1) = 2 ^ n + 2 ^ n := by rw [Nat.pow_succ]; omega
    unfold varM
    split
    · rename_i h
      subst h
      have e2 : (2 ^ (2 ^ i) - 1) * 2 ^ (2 ^ i) = 2 ^ (2 ^ i) * (2 ^ (2 ^ i) - 1) + 0 := by rw [Nat.mul_comm]; rfl
      rw [e2, Nat.testBit_two_pow_mul_add _ (Nat.two_pow_pos _)]
      split
      · rename_i h
        rw [Nat.testBit_lt_two_pow h]; simp
      · rename_i h
        rw [Nat.testBit_two_pow_sub_one]
        obtain ⟨S', rfl⟩ : ∃ S', S = 2 ^ i + S' := ⟨S - 2 ^ i, by omega⟩
        rw [Nat.testBit_two_pow_add_eq, Nat.testBit_lt_two_pow (by omega)]
        simp; omega
    · rename_i h
      have e2 : varM n i * (2 ^ (2 ^ n) + 1) = 2 ^ (2 ^ n) * varM n i + varM n i := by rw [Nat.mul_add, Nat.mul_one, Nat.mul_comm]
      rw [e2, Nat.testBit_two_pow_mul_add _ (varM_lt n i)]
      split
      · rename_i h2
        exact varM_bit n i S (by omega) h2
      · rename_i h2
        obtain ⟨S', rfl⟩ : ∃ S', S = 2 ^ n + S' := ⟨S - 2 ^ n, by omega⟩
        rw [Nat.add_sub_cancel_left, varM_bit n i S' (by omega) (by omega), Nat.testBit_two_pow_add_gt (by omega)]
/-- Flip one bit. -/
theorem flp_bit (S i j : Nat) : (S ^^^ 2 ^ i).testBit j = (if j = i then !S.testBit j else S.testBit j) := by
  rw [Nat.testBit_xor, Nat.testBit_two_pow]
  by_cases h : j = i
  · subst h; simp
  · have : ¬ i = j := fun e => h e.symm
    simp [h, this]
theorem flp_lt {S i n : Nat} (hS : S < 2 ^ n) (hi : i < n) : S ^^^ 2 ^ i < 2 ^ n := Nat.xor_lt_two_pow hS (Nat.pow_lt_pow_right (by omega) hi)
theorem flp_flp (S i : Nat) : (S ^^^ 2 ^ i) ^^^ 2 ^ i = S := by
  apply Nat.eq_of_testBit_eq
  intro j
  rw [flp_bit, flp_bit]
  split <;> simp
theorem flp_off {S i : Nat} (h : S.testBit i = false) : S ^^^ 2 ^ i = S + 2 ^ i := by
  have hp := Nat.two_pow_pos (i + 1)
  have e1 : S = 2 ^ (i + 1) * (S / 2 ^ (i + 1)) + S % 2 ^ (i + 1) := (Nat.div_add_mod S _).symm
  have hb : S % 2 ^ (i + 1) < 2 ^ i := by
    apply Nat.lt_pow_two_of_testBit
    intro j hj
    rw [Nat.testBit_mod_two_pow]
    by_cases e : j = i
    · subst e; rw [h]; simp
    · have : ¬ j < i + 1 := by omega
      simp [this]
  have e2 : 2 ^ (i + 1) = 2 ^ i + 2 ^ i := by rw [Nat.pow_succ]; omega
  have e3 : S + 2 ^ i = 2 ^ (i + 1) * (S / 2 ^ (i + 1)) + (2 ^ i + S % 2 ^ (i + 1)) := by omega
  apply Nat.eq_of_testBit_eq
  intro j
  rw [e3, Nat.testBit_two_pow_mul_add _ (by omega), flp_bit]
  by_cases hj : j < i + 1
  · rw [if_pos hj]
    have e4 : S.testBit j = (S % 2 ^ (i + 1)).testBit j := by rw [Nat.testBit_mod_two_pow]; simp [hj]
    rw [e4]
    by_cases e : j = i
    · subst e
      rw [if_pos rfl, Nat.testBit_two_pow_add_eq]
    · rw [if_neg e, Nat.testBit_two_pow_add_gt (by omega)]
  · rw [if_neg hj, if_neg (by omega), Nat.testBit_div_two_pow]
    congr 1; omega
theorem flp_on {S i : Nat} (h : S.testBit i = true) : S = (S ^^^ 2 ^ i) + 2 ^ i := by
  have := flp_off (S := S ^^^ 2 ^ i) (i := i) (by rw [flp_bit, if_pos rfl, h]; rfl)
  rw [flp_flp] at this
  exact this
/-- The planes, moved to the sets that hold a place. -/
theorem shl_bit {n r a R : Nat} (hr : r < n) (hR : R < 2 ^ n) : ((a <<< 2 ^ r) &&& varM n r).testBit R = (R.testBit r && a.testBit (R ^^^ 2 ^ r)) := by
  rw [Nat.testBit_and, varM_bit n r R hr hR, Nat.testBit_shiftLeft]
  cases h : R.testBit r with
  | false => simp
  | true =>
    have := flp_on h
    have h1 : 2 ^ r ≤ R := by omega
    have h2 : R - 2 ^ r = R ^^^ 2 ^ r := by omega
    simp [h1, h2]
/-- Two places are exchanged in all sets. -/
def swb (m a b Z : Nat) : Nat :=
  (Z &&& ((oneM m ^^^ varM m a) ^^^ varM m b)) ||| (((Z <<< (2 ^ b - 2 ^ a)) &&& (varM m b &&& (oneM m ^^^ varM m a))) ||| ((Z >>> (2 ^ b - 2 ^ a)) &&& (varM m a &&& (oneM m ^^^ varM m b))))
def twF (a b f : Nat) : Nat := if f.testBit a = f.testBit b then f else (f ^^^ 2 ^ a) ^^^ 2 ^ b
def swI (a b j : Nat) : Nat := if j = a then b else if j = b then a else j
theorem swb_bit {m a b Z f : Nat} (hab : a < b) (hb : b < m) (hf : f < 2 ^ m) : (swb m a b Z).testBit f = Z.testBit (twF a b f) := by
  unfold swb twF
  simp only [Nat.testBit_or, Nat.testBit_and, Nat.testBit_xor, oneM_bit, varM_bit m a f (by omega) hf, varM_bit m b f hb hf, Nat.testBit_shiftLeft, Nat.testBit_shiftRight, hf, decide_true]
  have hpow : 2 ^ a < 2 ^ b := Nat.pow_lt_pow_right (by omega) hab
  cases ha : f.testBit a with
  | false =>
    cases hb2 : f.testBit b with
    | false => simp
    | true =>
      have e1 := flp_off ha
      have e2 : ((f ^^^ 2 ^ a).testBit b) = true := by rw [flp_bit, if_neg (by omega), hb2]
      have e3 := flp_on e2
      have h1 : 2 ^ b - 2 ^ a ≤ f := by have := flp_on hb2; omega
      have h2 : f - (2 ^ b - 2 ^ a) = (f ^^^ 2 ^ a) ^^^ 2 ^ b := by omega
      simp [h1, h2]
  | true =>
    cases hb2 : f.testBit b with
    | true => simp
    | false =>
      have e1 := flp_on ha
      have e2 : ((f ^^^ 2 ^ a).testBit b) = false := by rw [flp_bit, if_neg (by omega), hb2]
      have e3 := flp_off e2
      have h2 : 2 ^ b - 2 ^ a + f = (f ^^^ 2 ^ a) ^^^ 2 ^ b := by omega
      simp [h2]
theorem twF_bit {a b f : Nat} (hab : a ≠ b) (j : Nat) : (twF a b f).testBit j = f.testBit (swI a b j) := by
  unfold twF swI
  by_cases h : f.testBit a = f.testBit b
  · rw [if_pos h]
    by_cases h1 : j = a
    · rw [if_pos h1, h1, h]
    · rw [if_neg h1]
      by_cases h2 : j = b
      · rw [if_pos h2, h2, h]
      · rw [if_neg h2]
  · rw [if_neg h, flp_bit, flp_bit]
    have hx : f.testBit a = !f.testBit b := by
      cases h1 : f.testBit a <;> cases h2 : f.testBit b <;> simp_all
    by_cases h1 : j = a
    · subst h1
      rw [if_neg hab, if_pos rfl, if_pos rfl, hx, Bool.not_not]
    · rw [if_neg h1]
      by_cases h2 : j = b
      · subst h2
        rw [if_pos rfl, if_neg h1, if_pos rfl, hx]
      · rw [if_neg h2, if_neg h1, if_neg h2]
theorem twF_lt {a b f m : Nat} (ha : a < m) (hb : b < m) (hf : f < 2 ^ m) : twF a b f < 2 ^ m := by
  unfold twF
  split
  · exact hf
  · exact flp_lt (flp_lt hf ha) hb
end Go.Proofs.YtkoljbncokmeaaaDoor
namespace Go.Proofs.YtkoljbncokmeaaaDoor
open Go Go.RowKit
set_option maxRecDepth 1000000
set_option linter.unusedSimpArgs false
set_option linter.unusedVariables false
set_option maxHeartbeats 1000000
/-- Linear in one column. -/
theorem dt_clin : ∀ (n : Nat) (M U V : Nat → Nat → Int) (s : Nat) (x y : Int), s < n → (∀ a b, b ≠ s → U a b = M a b) → (∀ a b, b ≠ s → V a b = M a b) → (∀ a, M a s = x * U a s + y * V a s) → dtM n M = x * dtM n U + y * dtM n V
  | 0, _, _, _, _, _, _, h, _, _, _ => by omega
  | n + 1, M, U, V, 0, x, y, _, hU, hV, hM => by
    rw [dtM_succ, dtM_succ, dtM_succ, ← smS_mul, ← smS_mul, ← smS_add]
    refine smS_congr _ fun i _ => ?_
    rw [hM i, dtM_congr n (M := fun a b => U (skI i a) (b + 1)) (N := fun a b => M (skI i a) (b + 1)) (fun a b _ _ => hU _ _ (by omega)), dtM_congr n (M := fun a b => V (skI i a) (b + 1)) (N := fun a b => M (skI i a) (b + 1)) (fun a b _ _ => hV _ _ (by omega))]
    generalize dtM n (fun a b => M (skI i a) (b + 1)) = d
    rw [Int.add_mul, Int.mul_add, Int.mul_assoc, Int.mul_assoc, Int.mul_left_comm (altI i) x, Int.mul_left_comm (altI i) y]
  | n + 1, M, U, V, s + 1, x, y, h, hU, hV, hM => by
    rw [dtM_succ, dtM_succ, dtM_succ, ← smS_mul, ← smS_mul, ← smS_add]
    refine smS_congr _ fun i _ => ?_
    rw [hU i 0 (by omega), hV i 0 (by omega)]
    rw [dt_clin n (fun a b => M (skI i a) (b + 1)) (fun a b => U (skI i a) (b + 1)) (fun a b => V (skI i a) (b + 1)) s x y (by omega) (fun a b hb => hU _ _ (by omega)) (fun a b hb => hV _ _ (by omega)) fun a => hM _]
    rw [Int.mul_add, Int.mul_add, Int.mul_left_comm (M i 0) x, Int.mul_left_comm (M i 0) y, Int.mul_left_comm (altI i) x, Int.mul_left_comm (altI i) y]
/-- All minors of K rows are multiples of t. -/
def mD (t : Int) (n w K : Nat) (f : Nat → Nat → Int) : Prop := ∀ R C : List Nat, R.length = K → C.length = K → (∀ r ∈ R, r < n) → (∀ c ∈ C, c < w) → t ∣ dtL f R C
theorem gD_mem {l : List Nat} {a : Nat} (h : a < l.length) : l.getD a 0 ∈ l := by
  simp [List.getD_eq_getElem?_getD, h]
theorem dtL_congr {n w : Nat} {f g : Nat → Nat → Int} (h : ∀ a b, a < n → b < w → f a b = g a b) {R C : List Nat} (hl : R.length ≤ C.length) (hr : ∀ r ∈ R, r < n) (hc : ∀ c ∈ C, c < w) : dtL f R C = dtL g R C := by
  unfold dtL
  exact dtM_congr _ fun a b ha hb => h _ _ (hr _ (gD_mem ha)) (hc _ (gD_mem (by omega)))
theorem mD_congr {t : Int} {n w K : Nat} {f g : Nat → Nat → Int} (h : ∀ a b, a < n → b < w → f a b = g a b) (hf : mD t n w K f) : mD t n w K g := fun R C hR hC hr hc => by
  rw [← dtL_congr h (by omega) hr hc]
  exact hf R C hR hC hr hc
theorem mD_row {t : Int} {n w K k : Nat} {f : Nat → Nat → Int} (s c : Nat → Int) (hk : k < n) (h : mD t n w K f) : mD t n w K fun a b => s a * f a b + c a * f k b := by
  intro R C hR hC hr hc
  have key : ∀ m, m ≤ K → ∀ R : List Nat, R.length = K → (∀ r ∈ R, r < n) → t ∣ dtM K fun a b => if a < m then s (R.getD a 0) * f (R.getD a 0) (C.getD b 0) + c (R.getD a 0) * f k (C.getD b 0) else f (R.getD a 0) (C.getD b 0) := by
    intro m
    induction m with
    | zero =>
      intro _ R hR hr
      have := h R C hR hC hr hc
      unfold dtL at this
      rw [hR] at this
      rw [dtM_congr K (N := fun a b => f (R.getD a 0) (C.getD b 0)) fun a b _ _ => by rw [if_neg (by omega)]]
      exact this
    | succ m ih =>
      intro hm R hR hr
      have i1 := ih (by omega) R hR hr
      have i2 := ih (by omega) (R.set m k) (by simpa using hR) fun r hmem => by
        rcases List.mem_or_eq_of_mem_set hmem with h1 | h1
        · exact hr r h1
        · rw [h1]; exact hk
      have hset : ∀ a, a ≠ m → (R.set m k).getD a 0 = R.getD a 0 := fun a ha => by
        simp only [List.getD_eq_getElem?_getD]
        rw [List.getElem?_set_ne (fun e => ha e.symm)]
      have hself : (R.set m k).getD m 0 = k := by
        simp only [List.getD_eq_getElem?_getD]
        rw [List.getElem?_set_self (by omega)]
        rfl
      rw [dt_lin K _ (fun a b => if a < m then s (R.getD a 0) * f (R.getD a 0) (C.getD b 0) + c (R.getD a 0) * f k (C.getD b 0) else f (R.getD a 0) (C.getD b 0))
        (fun a b => if a < m then s ((R.set m k).getD a 0) * f ((R.set m k).getD a 0) (C.getD b 0) + c ((R.set m k).getD a 0) * f k (C.getD b 0) else f ((R.set m k).getD a 0) (C.getD b 0)) m (s (R.getD m 0)) (c (R.getD m 0)) (by omega) (fun a b ha => ?_) (fun a b ha => ?_) (fun b => ?_)]
      · exact Int.dvd_add (Int.dvd_mul_of_dvd_right i1) (Int.dvd_mul_of_dvd_right i2)
      · by_cases h1 : a < m
        · rw [if_pos h1, if_pos (by omega)]
        · rw [if_neg h1, if_neg (by omega)]
      · rw [hset a ha]
        by_cases h1 : a < m
        · rw [if_pos h1, if_pos (by omega)]
        · rw [if_neg h1, if_neg (by omega)]
      · rw [if_pos (by omega), if_neg (by omega), if_neg (by omega), hself]
  have := key K (Nat.le_refl K) R hR hr
  unfold dtL
  rw [hR]
  rw [dtM_congr K (N := fun a b => s (R.getD a 0) * f (R.getD a 0) (C.getD b 0) + c (R.getD a 0) * f k (C.getD b 0)) fun a b ha _ => by rw [if_pos ha]] at this
  exact this
theorem mD_col {t : Int} {n w K k : Nat} {f : Nat → Nat → Int} (s c : Nat → Int) (hk : k < w) (h : mD t n w K f) : mD t n w K fun a b => s b * f a b + c b * f a k := by
  intro R C hR hC hr hc
  have key : ∀ m, m ≤ K → ∀ C : List Nat, C.length = K → (∀ r ∈ C, r < w) → t ∣ dtM K fun a b => if b < m then s (C.getD b 0) * f (R.getD a 0) (C.getD b 0) + c (C.getD b 0) * f (R.getD a 0) k else f (R.getD a 0) (C.getD b 0) := by
    intro m
    induction m with
    | zero =>
      intro _ C hC hc
      have := h R C hR hC hr hc
      unfold dtL at this
      rw [hR] at this
      rw [dtM_congr K (N := fun a b => f (R.getD a 0) (C.getD b 0)) fun a b _ _ => by rw [if_neg (by omega)]]
      exact this
    | succ m ih =>
      intro hm C hC hc
      have i1 := ih (by omega) C hC hc
      have i2 := ih (by omega) (C.set m k) (by simpa using hC) fun r hmem => by
        rcases List.mem_or_eq_of_mem_set hmem with h1 | h1
        · exact hc r h1
        · rw [h1]; exact hk
      have hset : ∀ a, a ≠ m → (C.set m k).getD a 0 = C.getD a 0 := fun a ha => by
        simp only [List.getD_eq_getElem?_getD]
        rw [List.getElem?_set_ne (fun e => ha e.symm)]
      have hself : (C.set m k).getD m 0 = k := by
        simp only [List.getD_eq_getElem?_getD]
        rw [List.getElem?_set_self (by omega)]
        rfl
      rw [dt_clin K _ (fun a b => if b < m then s (C.getD b 0) * f (R.getD a 0) (C.getD b 0) + c (C.getD b 0) * f (R.getD a 0) k else f (R.getD a 0) (C.getD b 0))
        (fun a b => if b < m then s ((C.set m k).getD b 0) * f (R.getD a 0) ((C.set m k).getD b 0) + c ((C.set m k).getD b 0) * f (R.getD a 0) k else f (R.getD a 0) ((C.set m k).getD b 0)) m (s (C.getD m 0)) (c (C.getD m 0)) (by omega) (fun a b ha => ?_) (fun a b ha => ?_) (fun b => ?_)]
      · exact Int.dvd_add (Int.dvd_mul_of_dvd_right i1) (Int.dvd_mul_of_dvd_right i2)
      · by_cases h1 : b < m
        · rw [if_pos h1, if_pos (by omega)]
        · rw [if_neg h1, if_neg (by omega)]
      · rw [hset b ha]
        by_cases h1 : b < m
        · rw [if_pos h1, if_pos (by omega)]
        · rw [if_neg h1, if_neg (by omega)]
      · rw [if_pos (by omega), if_neg (by omega), if_neg (by omega), hself]
  have := key K (Nat.le_refl K) C hC hc
  unfold dtL
  rw [hR]
  rw [dtM_congr K (N := fun a b => s (C.getD b 0) * f (R.getD a 0) (C.getD b 0) + c (C.getD b 0) * f (R.getD a 0) k) fun a b _ hb => by rw [if_pos hb]] at this
  exact this
theorem gD_map {f : Nat → Nat} {l : List Nat} {a : Nat} (h : a < l.length) : (l.map f).getD a 0 = f (l.getD a 0) := by
  simp [List.getD_eq_getElem?_getD, List.getElem?_map, h]
theorem dtL_map {f : Nat → Nat → Int} {R C : List Nat} (p q : Nat → Nat) (hl : R.length ≤ C.length) : dtL (fun a b => f (p a) (q b)) R C = dtL f (R.map p) (C.map q) := by
  unfold dtL
  rw [List.length_map]
  exact dtM_congr _ fun a b ha hb => by rw [gD_map ha, gD_map (by omega)]
/-- The same of all matrices that are congruent modulo top. -/
def dv (top : Int) (n w K : Nat) (t : Int) (f : Nat → Nat → Int) : Prop := ∀ Z : Nat → Nat → Int, mD t n w K fun a b => f a b + top * Z a b
theorem dv_mD {top t : Int} {n w K : Nat} {f : Nat → Nat → Int} (h : dv top n w K t f) : mD t n w K f := mD_congr (fun a b _ _ => by simp) (h fun _ _ => 0)
theorem dv_shift {top t : Int} {n w K : Nat} {f g : Nat → Nat → Int} (Y : Nat → Nat → Int) (h : ∀ a b, a < n → b < w → g a b = f a b + top * Y a b) (hf : dv top n w K t f) : dv top n w K t g := fun Z => mD_congr (fun a b ha hb => by rw [h a b ha hb, Int.mul_add]; omega) (hf fun a b => Y a b + Z a b)
theorem dv_row {top t : Int} {n w K k : Nat} {f g : Nat → Nat → Int} (c : Nat → Int) (hk : k < n) (hck : c k = 0) (h : ∀ a b, a < n → b < w → g a b = f a b + c a * f k b) (hf : dv top n w K t f) : dv top n w K t g := fun Z =>
  mD_congr (fun a b ha hb => by
    rw [h a b ha hb]
    simp only [hck, Int.one_mul, Int.mul_add, Int.mul_sub, Int.zero_mul, Int.mul_zero]
    rw [Int.mul_left_comm (c a) top]
    omega) (mD_row (fun _ => 1) c hk (hf fun a b => Z a b - c a * Z k b))
theorem dv_col {top t : Int} {n w K k : Nat} {f g : Nat → Nat → Int} (c : Nat → Int) (hk : k < w) (hck : c k = 0) (h : ∀ a b, a < n → b < w → g a b = f a b + c b * f a k) (hf : dv top n w K t f) : dv top n w K t g := fun Z =>
  mD_congr (fun a b ha hb => by
    rw [h a b ha hb]
    simp only [hck, Int.one_mul, Int.mul_add, Int.mul_sub, Int.zero_mul, Int.mul_zero]
    rw [Int.mul_left_comm (c b) top]
    omega) (mD_col (fun _ => 1) c hk (hf fun a b => Z a b - c b * Z a k))
theorem dv_row_iff {top t : Int} {n w K k : Nat} {f g : Nat → Nat → Int} (c : Nat → Int) (hk : k < n) (hck : c k = 0) (h : ∀ a b, a < n → b < w → g a b = f a b + c a * f k b) : dv top n w K t f ↔ dv top n w K t g :=
  ⟨dv_row c hk hck h, dv_row (fun a => - c a) hk (by simp [hck]) fun a b ha hb => by rw [h a b ha hb, h k b hk hb, hck, Int.neg_mul]; simp; omega⟩
theorem dv_col_iff {top t : Int} {n w K k : Nat} {f g : Nat → Nat → Int} (c : Nat → Int) (hk : k < w) (hck : c k = 0) (h : ∀ a b, a < n → b < w → g a b = f a b + c b * f a k) : dv top n w K t f ↔ dv top n w K t g :=
  ⟨dv_col c hk hck h, dv_col (fun a => - c a) hk (by simp [hck]) fun a b ha hb => by rw [h a b ha hb, h a k ha hk, hck, Int.neg_mul]; simp; omega⟩
end Go.Proofs.YtkoljbncokmeaaaDoor
