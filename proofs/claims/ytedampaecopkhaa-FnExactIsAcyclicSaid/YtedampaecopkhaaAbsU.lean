/- Rows of whole numbers, arguments, whole numbers of a machine. -/
import Derived.Test.YtedampaecopkhaaAbsT
namespace Go.Proofs.Ytedampaecopkhaa
open Go Go.RowKit

def ints (l : List Int) : List V := l.map (.int .i64)
@[simp] theorem ints_nil : ints [] = [] := rfl
@[simp] theorem ints_cons (n : Int) (l : List Int) : ints (n :: l) = .int .i64 n :: ints l := rfl
@[simp] theorem ints_len (l : List Int) : (ints l).length = l.length := by simp [ints]
@[simp] theorem ints_take (l : List Int) (k : Nat) : (ints l).take k = ints (l.take k) := by simp [ints]
@[simp] theorem ints_drop (l : List Int) (k : Nat) : (ints l).drop k = ints (l.drop k) := by simp [ints]
@[simp] theorem ints_app (l m : List Int) : ints l ++ ints m = ints (l ++ m) := by simp [ints]
@[simp] theorem ints_set (l : List Int) (k : Nat) (n : Int) : (ints l).set k (.int .i64 n) = ints (l.set k n) := by simp [ints]
/-- The number at a place; 0 beyond the end. -/
def at0 (l : List Int) (k : Nat) : Int := l[k]?.getD 0
@[simp] theorem ints_get (l : List Int) (k : Nat) : (ints l)[k]?.getD (.int .i64 0) = .int .i64 (at0 l k) := by
  simp only [ints, List.getElem?_map, at0]
  cases l[k]? <;> rfl
@[simp high] theorem ints_getD (l : List Int) (k : Nat) : (ints l).getD k (.int .i64 0) = .int .i64 (at0 l k) := by
  rw [List.getD_eq_getElem?_getD, ints_get]
@[simp] theorem at0_drop (l : List Int) (k j : Nat) : at0 (l.drop k) j = at0 l (k + j) := by simp [at0]
theorem at0_eq {l : List Int} {k : Nat} (h : k < l.length) : at0 l k = l[k] := by simp [at0, h]
theorem at0_take {l : List Int} {k j : Nat} (h : j < k) : at0 (l.take k) j = at0 l j := by simp [at0, h]
theorem at0_set {l : List Int} {k j : Nat} {x : Int} : at0 (l.set k x) j = if k = j ∧ j < l.length then x else at0 l j := by
  simp only [at0, List.getElem?_set]
  by_cases h : k = j
  · subst h
    by_cases h2 : k < l.length
    · simp [h2]
    · simp [h2]
  · simp [h]
theorem at0_ext {l m : List Int} (h : l.length = m.length) (he : ∀ k, k < l.length → at0 l k = at0 m k) : l = m := by
  apply List.ext_getElem h
  intro k h1 h2
  have := he k h1
  rwa [at0_eq h1, at0_eq h2] at this
theorem at0_app {l m : List Int} {k : Nat} : at0 (l ++ m) k = if k < l.length then at0 l k else at0 m (k - l.length) := by
  simp only [at0]
  split
  · rename_i h; rw [List.getElem?_append_left h]
  · rename_i h; rw [List.getElem?_append_right (by omega)]
@[simp] theorem ints_dr (H : List (Nat × List V)) (j : Nat) (l : List Int) : (ints l).map (dr H (j + 1)) = ints l := by simp [ints]
@[simp] theorem ints_fz (j : Nat) (l : List Int) : (ints l).map (fz (j + 1)) = ints l := by simp [ints]
@[simp] theorem ints_nl (j : Nat) (l : List Int) : (ints l).all (nolist (j + 1)) = true := by simp [ints]
@[simp] theorem ints_nn (j : Nat) (l : List Int) : (ints l).all (noname (j + 1)) = true := by simp [ints]
@[simp] theorem ints_nm (j : Nat) (l : List Int) : (ints l).all (nonm (j + 1)) = true := by simp [ints]
@[simp] theorem ints_cell (l : List Int) : (ints l).all V.cell = true := by simp [ints]
@[simp] theorem ints_ren (r : Nat → Option Nat) (l : List Int) : renL r (ints l) = some (ints l) := by
  induction l with
  | nil => rfl
  | cons a l ih => simp [renL, ren1, ih]
theorem ints_repl (n : Nat) (x : Int) : (List.replicate n [V.int .i64 x]).flatten = ints (List.replicate n x) := by
  induction n with
  | zero => rfl
  | succ n ih => simp [List.replicate_succ, ih]
@[simp] theorem repl_ints (n : Nat) (x : Int) : List.replicate n (V.int .i64 x) = ints (List.replicate n x) := by simp [ints]
theorem ints_inj {l m : List Int} : ints l = ints m ↔ l = m := by
  constructor
  · intro h
    induction l generalizing m with
    | nil => cases m with | nil => rfl | cons => simp at h
    | cons a l ih => cases m with
      | nil => simp at h
      | cons b m => simp only [ints_cons, List.cons.injEq, V.int.injEq, true_and] at h; rw [h.1, ih h.2]
  · intro h; rw [h]

def dI : V → Option Int
  | .int .i64 n => some n
  | _ => none
def dB : V → Option Bool
  | .bool b => some b
  | _ => none
def dInts : List V → Option (List Int)
  | [] => some []
  | .int .i64 n :: r => (dInts r).map (n :: ·)
  | _ => none
def dL : V → Option (List Int)
  | .list 1 cells => dInts cells
  | _ => none
/-- A number and a row. -/
def dC : V → Option (Int × List Int)
  | .agg [.int .i64 n, .list 1 cells] => (dInts cells).map fun l => (n, l)
  | _ => none
def eC (n : Int) (l : List Int) : V := .agg [.int .i64 n, .list 1 (ints l)]
@[simp] theorem dI_int (n : Int) : dI (.int .i64 n) = some n := rfl
@[simp] theorem dB_bool (b : Bool) : dB (.bool b) = some b := rfl
@[simp] theorem dInts_ints (l : List Int) : dInts (ints l) = some l := by
  induction l with
  | nil => rfl
  | cons a l ih => simp [dInts, ih]
@[simp] theorem dL_list (l : List Int) : dL (.list 1 (ints l)) = some l := by simp [dL]
@[simp] theorem dL_nil : dL (.list 1 []) = some [] := rfl
@[simp] theorem dC_agg (n : Int) (l : List Int) : dC (.agg [.int .i64 n, .list 1 (ints l)]) = some (n, l) := by simp [dC]
@[simp] theorem dC_nil (n : Int) : dC (.agg [.int .i64 n, .list 1 []]) = some (n, []) := rfl
theorem dI_inv {v : V} {n : Int} (h : dI v = some n) : v = .int .i64 n := by
  unfold dI at h
  split at h
  · injection h with h; rw [h]
  · simp at h
theorem dB_inv {v : V} {n : Bool} (h : dB v = some n) : v = .bool n := by
  unfold dB at h
  split at h
  · injection h with h; rw [h]
  · simp at h
theorem dInts_inv : ∀ {c : List V} {l : List Int}, dInts c = some l → c = ints l := by
  intro c
  induction c with
  | nil => intro l h; simp [dInts] at h; subst h; rfl
  | cons v c ih =>
    intro l h
    unfold dInts at h
    split at h
    · simp_all
    · rename_i n r e
      injection e with e1 e2
      subst e1 e2
      obtain ⟨m, hm, rfl⟩ := Option.map_eq_some_iff.1 h
      simp [ih hm]
    · simp at h
theorem dL_inv {v : V} {l : List Int} (h : dL v = some l) : v = .list 1 (ints l) := by
  unfold dL at h
  split at h
  · rw [dInts_inv h]
  · simp at h
theorem dC_inv {v : V} {n : Int × List Int} (h : dC v = some n) : v = .agg [.int .i64 n.1, .list 1 (ints n.2)] := by
  unfold dC at h
  split at h
  · obtain ⟨m, hm, rfl⟩ := Option.map_eq_some_iff.1 h
    rw [dInts_inv hm]
  · simp at h

def F1 {α : Type} (d : V → Option α) (g : α → Option V) : List V → Option V
  | [a] => (d a).bind g
  | _ => none
def F2 {α β : Type} (d : V → Option α) (d' : V → Option β) (g : α → β → Option V) : List V → Option V
  | [a, b] => (d a).bind fun x => (d' b).bind fun y => g x y
  | _ => none
def F3 {α β γ : Type} (d : V → Option α) (d' : V → Option β) (d'' : V → Option γ) (g : α → β → γ → Option V) : List V → Option V
  | [a, b, c] => (d a).bind fun x => (d' b).bind fun y => (d'' c).bind fun z => g x y z
  | _ => none
def F4 {α β γ δ : Type} (d : V → Option α) (d' : V → Option β) (d'' : V → Option γ) (d3 : V → Option δ) (g : α → β → γ → δ → Option V) : List V → Option V
  | [a, b, c, e] => (d a).bind fun x => (d' b).bind fun y => (d'' c).bind fun z => (d3 e).bind fun t => g x y z t
  | _ => none
@[simp] theorem F1_mk {α : Type} (d : V → Option α) (g : α → Option V) (a : V) : F1 d g [a] = (d a).bind g := rfl
@[simp] theorem F2_mk {α β : Type} (d : V → Option α) (d' : V → Option β) (g : α → β → Option V) (a b : V) : F2 d d' g [a, b] = (d a).bind fun x => (d' b).bind fun y => g x y := rfl
@[simp] theorem F3_mk {α β γ : Type} (d : V → Option α) (d' : V → Option β) (d'' : V → Option γ) (g : α → β → γ → Option V) (a b c : V) :
    F3 d d' d'' g [a, b, c] = (d a).bind fun x => (d' b).bind fun y => (d'' c).bind fun z => g x y z := rfl
@[simp] theorem F4_mk {α β γ δ : Type} (d : V → Option α) (d' : V → Option β) (d'' : V → Option γ) (d3 : V → Option δ) (g : α → β → γ → δ → Option V) (a b c e : V) :
    F4 d d' d'' d3 g [a, b, c, e] = (d a).bind fun x => (d' b).bind fun y => (d'' c).bind fun z => (d3 e).bind fun t => g x y z t := rfl
theorem F1_inv {α : Type} {d : V → Option α} {g : α → Option V} {args : List V} {r : V} (h : F1 d g args = some r) : ∃ a x, args = [a] ∧ d a = some x ∧ g x = some r := by
  unfold F1 at h
  split at h
  · obtain ⟨x, h1, h2⟩ := Option.bind_eq_some_iff.1 h
    exact ⟨_, x, rfl, h1, h2⟩
  · simp at h
theorem F2_inv {α β : Type} {d : V → Option α} {d' : V → Option β} {g : α → β → Option V} {args : List V} {r : V} (h : F2 d d' g args = some r) :
    ∃ a b x y, args = [a, b] ∧ d a = some x ∧ d' b = some y ∧ g x y = some r := by
  unfold F2 at h
  split at h
  · obtain ⟨x, h1, h2⟩ := Option.bind_eq_some_iff.1 h
    obtain ⟨y, h3, h4⟩ := Option.bind_eq_some_iff.1 h2
    exact ⟨_, _, x, y, rfl, h1, h3, h4⟩
  · simp at h
theorem F3_inv {α β γ : Type} {d : V → Option α} {d' : V → Option β} {d'' : V → Option γ} {g : α → β → γ → Option V} {args : List V} {r : V} (h : F3 d d' d'' g args = some r) :
    ∃ a b c x y z, args = [a, b, c] ∧ d a = some x ∧ d' b = some y ∧ d'' c = some z ∧ g x y z = some r := by
  unfold F3 at h
  split at h
  · obtain ⟨x, h1, h2⟩ := Option.bind_eq_some_iff.1 h
    obtain ⟨y, h3, h4⟩ := Option.bind_eq_some_iff.1 h2
    obtain ⟨z, h5, h6⟩ := Option.bind_eq_some_iff.1 h4
    exact ⟨_, _, _, x, y, z, rfl, h1, h3, h5, h6⟩
  · simp at h
theorem F4_inv {α β γ δ : Type} {d : V → Option α} {d' : V → Option β} {d'' : V → Option γ} {d3 : V → Option δ} {g : α → β → γ → δ → Option V} {args : List V} {r : V} (h : F4 d d' d'' d3 g args = some r) :
    ∃ a b c e x y z t, args = [a, b, c, e] ∧ d a = some x ∧ d' b = some y ∧ d'' c = some z ∧ d3 e = some t ∧ g x y z t = some r := by
  unfold F4 at h
  split at h
  · obtain ⟨x, h1, h2⟩ := Option.bind_eq_some_iff.1 h
    obtain ⟨y, h3, h4⟩ := Option.bind_eq_some_iff.1 h2
    obtain ⟨z, h5, h6⟩ := Option.bind_eq_some_iff.1 h4
    obtain ⟨t, h7, h8⟩ := Option.bind_eq_some_iff.1 h6
    exact ⟨_, _, _, _, x, y, z, t, rfl, h1, h3, h5, h7, h8⟩
  · simp at h

theorem wrapI (n : Int) (h1 : -9223372036854775808 ≤ n) (h2 : n < 9223372036854775808) : IntKind.i64.wrap n = n := by
  simp only [IntKind.wrap, IntKind.bits, IntKind.signed]
  simp only [Bool.true_and]
  split <;> simp_all <;> omega
theorem wrapU (n : Int) (h1 : 0 ≤ n) (h2 : n < 18446744073709551616) : IntKind.u64.wrap n = n := by
  simp only [IntKind.wrap, IntKind.bits, IntKind.signed]
  simp
  omega
/-- Conversion to a word without sign of a number that is not below zero. -/
theorem bits_and (a b : Nat) (ha : a < 9223372036854775808) (hb : b < 9223372036854775808) : bitop .and .i64 (a : Int) (b : Int) = ((a &&& b : Nat) : Int) := by
  have e : bitop .and .i64 (a : Int) (b : Int) = IntKind.i64.wrap ((BitVec.ofInt 64 (a : Int) &&& BitVec.ofInt 64 (b : Int)).toNat) := rfl
  have : a &&& b ≤ a := Nat.and_le_left
  rw [e, BitVec.ofInt_natCast, BitVec.ofInt_natCast, BitVec.toNat_and, BitVec.toNat_ofNat, BitVec.toNat_ofNat]
  rw [Nat.mod_eq_of_lt (by omega), Nat.mod_eq_of_lt (by omega)]
  exact wrapI _ (by omega) (by omega)
theorem bits_or (a b : Nat) (ha : a < 9223372036854775808) (hb : b < 9223372036854775808) : bitop .or .i64 (a : Int) (b : Int) = ((a ||| b : Nat) : Int) := by
  have e : bitop .or .i64 (a : Int) (b : Int) = IntKind.i64.wrap ((BitVec.ofInt 64 (a : Int) ||| BitVec.ofInt 64 (b : Int)).toNat) := rfl
  have : a ||| b < 2 ^ 63 := Nat.or_lt_two_pow (by omega) (by omega)
  rw [e, BitVec.ofInt_natCast, BitVec.ofInt_natCast, BitVec.toNat_or, BitVec.toNat_ofNat, BitVec.toNat_ofNat]
  rw [Nat.mod_eq_of_lt (by omega), Nat.mod_eq_of_lt (by omega)]
  exact wrapI _ (by omega) (by omega)
theorem bits_xor (a b : Nat) (ha : a < 9223372036854775808) (hb : b < 9223372036854775808) : bitop .xor .i64 (a : Int) (b : Int) = ((a ^^^ b : Nat) : Int) := by
  have e : bitop .xor .i64 (a : Int) (b : Int) = IntKind.i64.wrap ((BitVec.ofInt 64 (a : Int) ^^^ BitVec.ofInt 64 (b : Int)).toNat) := rfl
  have : a ^^^ b < 2 ^ 63 := Nat.xor_lt_two_pow (by omega) (by omega)
  rw [e, BitVec.ofInt_natCast, BitVec.ofInt_natCast, BitVec.toNat_xor, BitVec.toNat_ofNat, BitVec.toNat_ofNat]
  rw [Nat.mod_eq_of_lt (by omega), Nat.mod_eq_of_lt (by omega)]
  exact wrapI _ (by omega) (by omega)
theorem bitsU_and (a b : Nat) (ha : a < 18446744073709551616) (hb : b < 18446744073709551616) : bitop .and .u64 (a : Int) (b : Int) = ((a &&& b : Nat) : Int) := by
  have e : bitop .and .u64 (a : Int) (b : Int) = IntKind.u64.wrap ((BitVec.ofInt 64 (a : Int) &&& BitVec.ofInt 64 (b : Int)).toNat) := rfl
  have : a &&& b ≤ a := Nat.and_le_left
  rw [e, BitVec.ofInt_natCast, BitVec.ofInt_natCast, BitVec.toNat_and, BitVec.toNat_ofNat, BitVec.toNat_ofNat]
  rw [Nat.mod_eq_of_lt (by omega), Nat.mod_eq_of_lt (by omega)]
  exact wrapU _ (by omega) (by omega)
theorem bitsU_or (a b : Nat) (ha : a < 18446744073709551616) (hb : b < 18446744073709551616) : bitop .or .u64 (a : Int) (b : Int) = ((a ||| b : Nat) : Int) := by
  have e : bitop .or .u64 (a : Int) (b : Int) = IntKind.u64.wrap ((BitVec.ofInt 64 (a : Int) ||| BitVec.ofInt 64 (b : Int)).toNat) := rfl
  have : a ||| b < 2 ^ 64 := Nat.or_lt_two_pow (by omega) (by omega)
  rw [e, BitVec.ofInt_natCast, BitVec.ofInt_natCast, BitVec.toNat_or, BitVec.toNat_ofNat, BitVec.toNat_ofNat]
  rw [Nat.mod_eq_of_lt (by omega), Nat.mod_eq_of_lt (by omega)]
  exact wrapU _ (by omega) (by omega)
def inR (n : Int) : Prop := -9223372036854775808 ≤ n ∧ n < 9223372036854775808
instance (n : Int) : Decidable (inR n) := by unfold inR; infer_instance
end Go.Proofs.Ytedampaecopkhaa
