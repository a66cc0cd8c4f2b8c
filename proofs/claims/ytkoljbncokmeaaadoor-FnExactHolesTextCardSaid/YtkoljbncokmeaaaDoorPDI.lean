import Derived.Test.YtkoljbncokmeaaaDoorPDH
import Derived.Test.YtkoljbncokmeaaaDoorPDG
namespace Go.Proofs.YtkoljbncokmeaaaDoor
open Go Go.RowKit
set_option maxRecDepth 1000000
set_option linter.unusedSimpArgs false
set_option linter.unusedVariables false
set_option maxHeartbeats 1000000
theorem nzJ_congr {f g : Nat → Nat → Int} {i w : Nat} (h : ∀ b, b < w → f i b = g i b) : ∀ n j, j + n ≤ w ∨ n = 0 → nzJ f i n j = nzJ g i n j
  | 0, j, _ => rfl
  | n + 1, j, hj => by
    have e := h j (by omega)
    by_cases h0 : f i j = 0
    · rw [nzJ_yes h0, nzJ_yes (by rw [← e]; exact h0), nzJ_congr h n (j + 1) (by omega)]
    · rw [nzJ_no h0, nzJ_no (by rw [← e]; exact h0)]
theorem nzI_congr {f g : Nat → Nat → Int} {n w k : Nat} (h : ∀ a b, a < n → b < w → f a b = g a b) : ∀ q i, i + q ≤ n ∨ q = 0 → nzI f w k q i = nzI g w k q i
  | 0, i, _ => rfl
  | q + 1, i, hi => by
    have e := nzJ_congr (f := f) (g := g) (i := i) (w := w) (fun b hb => h i b (by omega) hb) (w - k) k (by omega)
    by_cases h0 : nzJ f i (w - k) k < w
    · rw [nzI_yes h0, nzI_yes (by rw [← e]; exact h0), e]
    · rw [nzI_no h0, nzI_no (by rw [← e]; exact h0), nzI_congr h q (i + 1) (by omega)]
theorem nzZ_congr {f g : Nat → Nat → Int} {n w k : Nat} (h : ∀ a b, a < n → b < w → f a b = g a b) : nzZ f n w k = nzZ g n w k := nzI_congr h (n - k) k (by omega)
theorem wdM_matF {n w : Nat} {f : Nat → Nat → Int} (h : n = 0 → w = 0) : wdM (matF n w f) = w := by
  by_cases h0 : n = 0
  · rw [h h0, h0]; rfl
  · exact wd_matF (by omega)
theorem dimM_matF {n w : Nat} {f : Nat → Nat → Int} (h : n = 0 → w = 0) (hn : n ≤ 64) (hw : w ≤ 64) : dimM (matF n w f) := by
  refine ⟨?_, by simpa using hn, by rw [wdM_matF h]; exact hw⟩
  rw [wdM_matF h]
  exact rect_matF n w f
theorem bd_matF {B : Int} {n w : Nat} {f : Nat → Nat → Int} (h : n = 0 → w = 0) (hb : bdE B n w f) : bdE B (matF n w f).length (wdM (matF n w f)) (ent (matF n w f)) := by
  rw [wdM_matF h, matF_len]
  intro i j hi hj
  rw [matF_ent hi hj]
  exact hb i j hi hj
theorem lowB_matF {n w : Nat} {f : Nat → Nat → Int} (h : n = 0 → w = 0) (hn : n ≤ 64) (hw : w ≤ 64) (hb : bdE 1073741824 n w f) : lowB (matF n w f) := by
  obtain ⟨h1, h2, h3⟩ := dimM_matF (f := f) h hn hw
  refine ⟨h1, fun i j hi hj => ?_, h2, h3⟩
  have := bd_matF h hb i j hi hj
  omega
theorem swpR_matF {n w k i j : Nat} {f : Nat → Nat → Int} (hkn : k < n) (hkw : k < w) (hi : i < n) (hj : j < w) : swpR (matF n w f) k i j = matF n w (swF k i j f) := by
  unfold swpR
  rw [wd_matF (by omega), matF_len]
  refine matF_congr fun a b ha hb => ?_
  unfold swF
  rw [matF_ent (swI_lt hkn hi ha) (swI_lt hkw hj hb)]
theorem bdE_sw {B : Int} {n w k i j : Nat} {f : Nat → Nat → Int} (hkn : k < n) (hkw : k < w) (hi : i < n) (hj : j < w) (h : bdE B n w f) : bdE B n w (swF k i j f) := fun a b ha hb => h _ _ (swI_lt hkn hi ha) (swI_lt hkw hj hb)
/-- A step of the elimination without fractions. -/
def barV (k : Nat) (last : Int) (f : Nat → Nat → Int) (a b : Nat) : Int := (f a b * f k k - f a k * f k b).tdiv last
noncomputable def barF (k : Nat) (last : Int) (f : Nat → Nat → Int) (a b : Nat) : Int := @ite _ (k < a ∧ k < b) (Classical.propDecidable _) (barV k last f a b) (@ite _ (k < a ∧ b = k) (Classical.propDecidable _) 0 (f a b))
noncomputable def barS (k : Nat) (last : Int) (f : Nat → Nat → Int) (i a b : Nat) : Int := @ite _ (a < i) (Classical.propDecidable _) (barF k last f a b) (f a b)
theorem barF_top {k : Nat} {last : Int} {f : Nat → Nat → Int} {a : Nat} (h : a ≤ k) (b : Nat) : barF k last f a b = f a b := by
  unfold barF
  rw [if_neg (by omega), if_neg (by omega)]
theorem barS_start {n w k : Nat} (last : Int) (f : Nat → Nat → Int) : matF n w (barS k last f (k + 1)) = matF n w f := matF_congr fun a b _ _ => by
  unfold barS
  by_cases h : a < k + 1
  · rw [if_pos h, barF_top (by omega)]
  · rw [if_neg h]
theorem barS_row {w k i : Nat} {last : Int} {f : Nat → Nat → Int} : rowF w (barS k last f i i) = rowF w (f i) := rowF_congr fun b _ => by unfold barS; rw [if_neg (by omega)]
theorem barS_top {w k i : Nat} {last : Int} {f : Nat → Nat → Int} : rowF w (barS k last f i k) = rowF w (f k) := rowF_congr fun b _ => by
  unfold barS
  split
  · exact barF_top (Nat.le_refl k) b
  · rfl
theorem barS_full {n w k : Nat} (last : Int) (f : Nat → Nat → Int) : matF n w (barS k last f n) = matF n w (barF k last f) := matF_congr fun a b ha _ => by unfold barS; rw [if_pos ha]
theorem bar_row {w k i : Nat} {last : Int} {f : Nat → Nat → Int} (hki : k < i) (hkw : k < w) : (rowW w (k + 1) (f i) (barV k last f i) w).set k 0 = rowF w (barF k last f i) := by
  unfold rowW
  rw [rowF_set hkw]
  refine rowF_congr fun b hb => ?_
  unfold barF
  by_cases e : b = k
  · rw [if_pos e, if_neg (by omega), if_pos ⟨hki, e⟩]
  · rw [if_neg e]
    by_cases h : k < b
    · rw [if_pos ⟨h, hb⟩, if_pos ⟨hki, h⟩]
    · rw [if_neg (by omega), if_neg (by omega), if_neg (by omega)]
theorem barS_step {n w k i : Nat} {last : Int} {f : Nat → Nat → Int} (hin : i < n) : (matF n w (barS k last f i)).set i (rowF w (barF k last f i)) = matF n w (barS k last f (i + 1)) := by
  rw [matF_set _ hin]
  refine matF_congr fun a b _ _ => ?_
  unfold barS
  by_cases e : a = i
  · subst e; rw [if_pos rfl, if_pos (by omega)]
  · rw [if_neg e]
    by_cases h : a < i
    · rw [if_pos h, if_pos (by omega)]
    · rw [if_neg h, if_neg (by omega)]
noncomputable def bareR (n w : Nat) : Nat → (Nat → Nat → Int) → Nat → Int → Option (Int × Int)
  | 0, _, _, _ => none
  | q + 1, f, k, last => @ite _ ((nzZ f n w k).1 < 0) (Classical.propDecidable _) (some ((k : Int), last))
      (@ite _ (last ≠ 0 ∧ bdE 1073741824 n w (barF k last (swF k (nzZ f n w k).1.toNat (nzZ f n w k).2.toNat f))) (Classical.propDecidable _)
        (bareR n w q (barF k last (swF k (nzZ f n w k).1.toNat (nzZ f n w k).2.toNat f)) (k + 1) (swF k (nzZ f n w k).1.toNat (nzZ f n w k).2.toNat f k k)) none)
theorem bareR_stop {n w q k : Nat} {f : Nat → Nat → Int} {last : Int} (h : nzZ f n w k = (-1, -1)) : bareR n w (q + 1) f k last = some ((k : Int), last) := by
  rw [bareR, if_pos (by rw [h]; decide)]
theorem bareR_step {n w q k i j : Nat} {f : Nat → Nat → Int} {last : Int} {R : Int × Int} (h : nzZ f n w k = ((i : Int), (j : Int))) (hR : bareR n w (q + 1) f k last = some R) :
    last ≠ 0 ∧ bdE 1073741824 n w (barF k last (swF k i j f)) ∧ bareR n w q (barF k last (swF k i j f)) (k + 1) (swF k i j f k k) = some R := by
  rw [bareR, if_neg (by rw [h]; simp only; omega)] at hR
  have h1 : (nzZ f n w k).1.toNat = i := by rw [h]; simp
  have h2 : (nzZ f n w k).2.toNat = j := by rw [h]; simp
  rw [h1, h2] at hR
  by_cases hc : last ≠ 0 ∧ bdE 1073741824 n w (barF k last (swF k i j f))
  · rw [if_pos hc] at hR
    exact ⟨hc.1, hc.2, hR⟩
  · rw [if_neg hc] at hR
    cases hR
def sc_i_rankAndMinor_L6 : SC := (.cut (.seq (.reg [⟨(some 59), none, (.mov (.t 12))⟩, ⟨(some 60), none, (.mov (.t 4))⟩, ⟨(some 61), none, (.mov (.t 11))⟩, ⟨(some 62), none, (.idx 1 (.t 60) (.t 61))⟩, ⟨(some 63), none, (.ld none .nil (.t 62))⟩, ⟨(some 64), none, (.len (.t 63))⟩, ⟨(some 65), none, (.bin false .lss (.t 59) (.t 64))⟩]) (.cond (.t 65) .skip (.exit 6))) (.seq (.block 7 (.dreg [⟨⟨(some 68), none, (.mov (.t 4))⟩, false, false⟩, ⟨⟨(some 69), none, (.mov (.t 11))⟩, false, false⟩, ⟨⟨(some 70), none, (.idx 1 (.t 68) (.t 69))⟩, false, false⟩, ⟨⟨(some 71), none, (.ld none .nil (.t 70))⟩, false, false⟩, ⟨⟨(some 72), none, (.mov (.t 12))⟩, false, false⟩, ⟨⟨(some 73), none, (.mov (.t 4))⟩, false, false⟩, ⟨⟨(some 74), none, (.mov (.t 11))⟩, false, false⟩, ⟨⟨(some 75), none, (.idx 1 (.t 73) (.t 74))⟩, false, false⟩, ⟨⟨(some 76), none, (.ld none .nil (.t 75))⟩, false, false⟩, ⟨⟨(some 77), none, (.mov (.t 12))⟩, false, false⟩, ⟨⟨(some 78), none, (.idx 1 (.t 76) (.t 77))⟩, false, false⟩, ⟨⟨(some 79), none, (.ld none (.int .i64 0) (.t 78))⟩, false, false⟩, ⟨⟨(some 80), none, (.mov (.t 4))⟩, false, false⟩, ⟨⟨(some 81), none, (.mov (.t 8))⟩, false, false⟩, ⟨⟨(some 82), none, (.idx 1 (.t 80) (.t 81))⟩, false, false⟩, ⟨⟨(some 83), none, (.ld none .nil (.t 82))⟩, false, false⟩, ⟨⟨(some 84), none, (.mov (.t 8))⟩, false, false⟩, ⟨⟨(some 85), none, (.idx 1 (.t 83) (.t 84))⟩, false, false⟩, ⟨⟨(some 86), none, (.ld none (.int .i64 0) (.t 85))⟩, false, false⟩, ⟨⟨(some 87), none, (.bin false .mul (.t 79) (.t 86))⟩, false, false⟩, ⟨⟨(some 88), none, (.mov (.t 4))⟩, false, false⟩, ⟨⟨(some 89), none, (.mov (.t 11))⟩, false, false⟩, ⟨⟨(some 90), none, (.idx 1 (.t 88) (.t 89))⟩, false, false⟩, ⟨⟨(some 91), none, (.ld none .nil (.t 90))⟩, false, false⟩, ⟨⟨(some 92), none, (.mov (.t 8))⟩, false, false⟩, ⟨⟨(some 93), none, (.idx 1 (.t 91) (.t 92))⟩, false, false⟩, ⟨⟨(some 94), none, (.ld none (.int .i64 0) (.t 93))⟩, false, false⟩, ⟨⟨(some 95), none, (.mov (.t 4))⟩, false, false⟩, ⟨⟨(some 96), none, (.mov (.t 8))⟩, false, false⟩, ⟨⟨(some 97), none, (.idx 1 (.t 95) (.t 96))⟩, false, false⟩, ⟨⟨(some 98), none, (.ld none .nil (.t 97))⟩, false, false⟩, ⟨⟨(some 99), none, (.mov (.t 12))⟩, false, false⟩, ⟨⟨(some 100), none, (.idx 1 (.t 98) (.t 99))⟩, false, false⟩, ⟨⟨(some 101), none, (.ld none (.int .i64 0) (.t 100))⟩, false, false⟩, ⟨⟨(some 102), none, (.bin false .mul (.t 94) (.t 101))⟩, false, false⟩, ⟨⟨(some 103), none, (.bin false .sub (.t 87) (.t 102))⟩, false, false⟩, ⟨⟨(some 104), none, (.mov (.t 7))⟩, false, false⟩, ⟨⟨(some 105), none, (.bin false .quo (.t 103) (.t 104))⟩, false, false⟩, ⟨⟨(some 106), none, (.idx 1 (.t 71) (.t 72))⟩, false, false⟩, ⟨⟨none, none, (.st 1 (.t 106) (.t 105))⟩, true, false⟩])) (.reg [⟨(some 66), none, (.mov (.t 12))⟩, ⟨(some 67), none, (.bin false .add (.t 66) (.c (.int .i64 1)))⟩, ⟨(some 12), none, (.mov (.t 67))⟩])))
def sc_i_rankAndMinor_L4 : SC := (.seq (.seq (.reg [⟨(some 51), none, (.mov (.t 11))⟩, ⟨(some 52), none, (.mov (.t 4))⟩, ⟨(some 53), none, (.len (.t 52))⟩, ⟨(some 54), none, (.bin false .lss (.t 51) (.t 53))⟩]) (.cond (.t 54) .skip (.exit 4))) (.seq (.block 5 (.seq (.seq (.reg [⟨(some 57), none, (.mov (.t 8))⟩, ⟨(some 58), none, (.bin false .add (.t 57) (.c (.int .i64 1)))⟩, ⟨(some 12), none, (.mov (.t 58))⟩]) (.block 6 (.loop sc_i_rankAndMinor_L6))) (.reg [⟨(some 107), none, (.mov (.t 4))⟩, ⟨(some 108), none, (.mov (.t 11))⟩, ⟨(some 109), none, (.idx 1 (.t 107) (.t 108))⟩, ⟨(some 110), none, (.ld none .nil (.t 109))⟩, ⟨(some 111), none, (.mov (.t 8))⟩, ⟨(some 112), none, (.idx 1 (.t 110) (.t 111))⟩, ⟨none, none, (.st 1 (.t 112) (.c (.int .i64 0)))⟩]))) (.reg [⟨(some 55), none, (.mov (.t 11))⟩, ⟨(some 56), none, (.bin false .add (.t 55) (.c (.int .i64 1)))⟩, ⟨(some 11), none, (.mov (.t 56))⟩])))
def sc_i_rankAndMinor_L2 : SC := (.seq (.block 3 (.seq (.reg [⟨(some 32), none, (.mov (.t 4))⟩, ⟨(some 33), none, (.mov (.t 8))⟩, ⟨(some 34), none, (.call 67 [(.t 32), (.t 33)])⟩, ⟨(some 31), none, (.mov (.t 34))⟩, ⟨(some 35), none, (.ext 0 (.t 31))⟩, ⟨(some 36), none, (.ext 1 (.t 31))⟩, ⟨(some 9), none, (.mov (.t 35))⟩, ⟨(some 10), none, (.mov (.t 36))⟩]) (.seq (.seq (.reg [⟨(some 37), none, (.mov (.t 9))⟩, ⟨(some 38), none, (.bin false .lss (.t 37) (.c (.int .i64 0)))⟩]) (.cond (.t 38) (.seq (.reg [⟨(some 39), none, (.mov (.t 8))⟩, ⟨(some 40), none, (.mov (.t 7))⟩, ⟨(some 41), none, (.mov (.t 7))⟩, ⟨(some 42), none, (.un .neg (.t 41))⟩, ⟨(some 43), none, (.mm true (.t 40) (.t 42))⟩, ⟨(some 2), none, (.mov (.t 39))⟩, ⟨(some 3), none, (.mov (.t 43))⟩]) .ret) .skip)) (.seq (.reg [⟨(some 44), none, (.mov (.t 4))⟩, ⟨(some 45), none, (.mov (.t 8))⟩, ⟨(some 46), none, (.mov (.t 9))⟩, ⟨(some 47), none, (.mov (.t 10))⟩, ⟨(some 48), none, (.call 68 [(.t 44), (.t 45), (.t 46), (.t 47)])⟩]) (.seq (.seq (.reg [⟨(some 49), none, (.mov (.t 8))⟩, ⟨(some 50), none, (.bin false .add (.t 49) (.c (.int .i64 1)))⟩, ⟨(some 11), none, (.mov (.t 50))⟩]) (.block 4 (.loop sc_i_rankAndMinor_L4))) (.reg [⟨(some 113), none, (.mov (.t 4))⟩, ⟨(some 114), none, (.mov (.t 8))⟩, ⟨(some 115), none, (.idx 1 (.t 113) (.t 114))⟩, ⟨(some 116), none, (.ld none .nil (.t 115))⟩, ⟨(some 117), none, (.mov (.t 8))⟩, ⟨(some 118), none, (.idx 1 (.t 116) (.t 117))⟩, ⟨(some 119), none, (.ld none (.int .i64 0) (.t 118))⟩, ⟨(some 7), none, (.mov (.t 119))⟩])))))) (.reg [⟨(some 29), none, (.mov (.t 8))⟩, ⟨(some 30), none, (.bin false .add (.t 29) (.c (.int .i64 1)))⟩, ⟨(some 8), none, (.mov (.t 30))⟩]))
def sc_i_rankAndMinor_L0 : SC := (.seq (.reg [⟨(some 19), none, (.bin false .lss (.t 18) (.t 17))⟩]) (.seq (.cond (.t 19) .skip (.exit 0)) (.seq (.block 1 (.seq (.reg [⟨(some 20), none, (.mov (.t 18))⟩, ⟨(some 21), none, (.idx 1 (.t 16) (.t 18))⟩, ⟨(some 22), none, (.ld none .nil (.t 21))⟩, ⟨(some 5), none, (.mov (.t 20))⟩, ⟨(some 6), none, (.mov (.t 22))⟩]) (.reg [⟨(some 23), none, (.mov (.t 4))⟩, ⟨(some 24), none, (.mov (.t 5))⟩, ⟨(some 25), none, (.mov (.t 6))⟩, ⟨(some 26), none, (.app 1 8 (.c .nil) (.t 25))⟩, ⟨(some 27), none, (.idx 1 (.t 23) (.t 24))⟩, ⟨none, none, (.st 1 (.t 27) (.t 26))⟩]))) (.reg [⟨(some 28), none, (.bin false .add (.t 18) (.c (.int .i64 1)))⟩, ⟨(some 18), none, (.mov (.t 28))⟩]))))
def sc_i_rankAndMinor : SC := (.seq (.reg [⟨(some 2), none, (.mov (.c (.int .i64 0)))⟩, ⟨(some 3), none, (.mov (.c (.int .i64 0)))⟩]) (.seq (.reg [⟨(some 13), none, (.mov (.t 0))⟩, ⟨(some 14), none, (.len (.t 13))⟩, ⟨(some 15), none, (.mk 1 24 [.nil] (.t 14) (.t 14))⟩, ⟨(some 4), none, (.mov (.t 15))⟩]) (.seq (.seq (.reg [⟨(some 16), none, (.mov (.t 0))⟩, ⟨(some 17), none, (.len (.t 16))⟩, ⟨(some 18), none, (.mov (.c (.int .i64 0)))⟩]) (.block 0 (.loop sc_i_rankAndMinor_L0))) (.seq (.reg [⟨(some 7), none, (.mov (.c (.int .i64 1)))⟩]) (.seq (.reg [⟨(some 8), none, (.mov (.c (.int .i64 0)))⟩]) (.block 2 (.loop sc_i_rankAndMinor_L2)))))))
theorem code_i_rankAndMinor : fnCode Tryd.prog [666666, 555555] 51 = some (120, sc_i_rankAndMinor, [(2, none), (3, none)]) := by kernel_rfl
noncomputable def F_i_rankAndMinor : List V → Option V := F1 dLL fun M => @ite _ (dimM M ∧ bdE 1073741824 M.length (wdM M) (ent M)) (Classical.propDecidable _) ((bareR M.length (wdM M) (M.length + 1) (ent M) 0 1).map fun x => .tup [.int .i64 x.1, .int .i64 (x.2.natAbs : Nat)]) none
theorem fn_i_rankAndMinor : FnOk Tryd.prog 51 F_i_rankAndMinor := by
  have env := ((envNil_ok (P := Tryd.prog)).add fn_i_findNonZero).addl ln_i_swapTo
  refine fn_ok code_i_rankAndMinor mixed env ?_
  intro args r h hb
  obtain ⟨_, M, rfl, h1, h4⟩ := F1_inv h
  cases dLL_inv h1
  simp only [Option.ite_none_right_eq_some, Option.map_eq_some_iff] at h4
  obtain ⟨⟨⟨hr, hn, hw⟩, hbd⟩, R, hR, rfl⟩ := h4
  clear h h1 hb
  have hself := matF_self hr
  have hw0 : M.length = 0 → wdM M = 0 := fun h0 => by rw [List.length_eq_zero_iff.1 h0]; rfl
  have hlen : ∀ i, i < M.length → (atR M i).length = wdM M := hr
  clear hr
  generalize wdM M = w at *
  generalize hf : ent M = f0 at *
  refine ⟨by simp, fun w0 U0 L0 N0 => ?_⟩
  obtain ⟨rk, rl⟩ := R
  generalize hv : ((rl.natAbs : Nat) : Int) = v at *
  -- the rows below are changed
  have rows : ∀ (f : Nat → Nat → Int) (k : Nat) (last : Int) (Q : Post) (T0 : Tm) (H0 : Hp), k < M.length → k < w → last ≠ 0 → bdE 1073741824 M.length w f →
      SubI 0 T0 H0 [(4, .sl 0 1 0 M.length), (7, .int .i64 last), (8, .int .i64 (k : Int)), (11, .int .i64 ((k + 1 : Nat) : Int))] ([(0, rowsV (matF M.length w f))], 1) →
      Q (.exit 4) [(4, .sl 0 1 0 M.length), (7, .int .i64 last), (8, .int .i64 (k : Int))] ([(0, rowsV (matF M.length w (barF k last f)))], 1) →
      LoopI ⟨Tryd.prog, w0, U0, L0, N0, 0, 120⟩ [666666, 555555] sc_i_rankAndMinor_L4 Q T0 H0 := by
    intro f k last Q T0 H0 hkn hkw hl0 hbf hsub q1
    generalize hnn : M.length = n at *
    refine loopQ env mixed (fun i : Nat => [(4, .sl 0 1 0 n), (7, .int .i64 last), (8, .int .i64 (k : Int)), (11, .int .i64 (i : Int))]) (fun i => ([(0, rowsV (matF n w (barS k last f i)))], 1)) (fun i => k < i ∧ i ≤ n) (fun i => n - i) (k + 1) (by omega) (by rw [barS_start]; exact hsub) ?_
    rintro i ⟨hki, hin⟩
    have hml := matF_len n w (barS k last f i)
    by_cases hlt : i < n
    · have hik : ¬ i = k := by omega
      have hki' : ¬ k = i := by omega
      have hai := matF_at (w := w) (f := barS k last f i) hlt
      rw [barS_row] at hai
      have hak := matF_at (w := w) (f := barS k last f i) hkn
      rw [barS_top] at hak
      have hli : (rowF w (f i)).length = w := rowF_len _ _
      have hlk : (rowF w (f k)).length = w := rowF_len _ _
      have hst := barS_step (w := w) (k := k) (last := last) (f := f) hlt
      rw [← bar_row hki hkw] at hst
      have htw := rowsV_two (M := matF n w (barS k last f i)) (i := i) (k := k) hik (by omega) ((rowW w (k + 1) (f i) (barV k last f i) w).set k 0) (.sl 1 1 0 w) (.sl 2 1 0 w)
      rw [hst, hak] at htw
      have hqd : ∀ j, barV k last f i j = (f i j * f k k - f i k * f k j).tdiv last := fun j => rfl
      have hstart := rowW_start (w := w) (k := k + 1) (old := f i) (new := barV k last f i)
      have hset := fun (j : Nat) h1 h2 => rowW_set (w := w) (k := k + 1) (j := j) (old := f i) (new := barV k last f i) h1 h2
      have hat := fun (j : Nat) h => rowW_at (w := w) (k := k + 1) (j := j) (old := f i) (new := barV k last f i) h
      have hatk : ∀ j, at0 (rowW w (k + 1) (f i) (barV k last f i) j) k = f i k := fun j => by
        unfold rowW
        rw [rowF_at hkw, if_neg (by omega)]
      have hek := fun (j : Nat) (h : j < w) => rowF_at (g := f k) h
      have hrl := fun j => rowW_len w (k + 1) (f i) (barV k last f i) j
      generalize hnb : barV k last f i = nb at *
      have hw1 : IntKind.i64.wrap ((k : Int) + 1) = ((k + 1 : Nat) : Int) := by rw [wrapI _ (by omega) (by omega)]; rfl
      generalize matF n w (barS k last f i) = Mi at *
      simp -implicitDefEqProofs [sc_i_rankAndMinor_L4, hlt, hml, hw1]
      refine loopQ env mixed (fun j : Nat => [(4, .sl 0 1 0 n), (7, .int .i64 last), (8, .int .i64 (k : Int)), (11, .int .i64 (i : Int)), (12, .int .i64 (j : Int))]) (fun j => ([(2, ints (rowF w (f k))), (1, ints (rowW w (k + 1) (f i) nb j)), (0, ((rowsV Mi).set i (.sl 1 1 0 w)).set k (.sl 2 1 0 w))], 3)) (fun j => k < j ∧ j ≤ w) (fun j => w - j) (k + 1) (by omega) ?_ ?_
      · refine SubI.unfold 0 i 1 (co := rowsV Mi) (cn := ints (rowF w (f i))) rfl (by rw [rowsV_get (by omega), hai]) (by omega) ?_
        refine SubI.unfold 0 k 1 (co := (rowsV Mi).set i (.sl 1 1 0 w)) (cn := ints (rowF w (f k))) (by simp [hli]) (by rw [List.getElem?_set_ne hik, rowsV_get (by omega), hak]) (by omega) ?_
        exact SubI.slots (by rw [hstart]; simp [hli, hlk]) (by simp)
      rintro j ⟨hkj, hjw⟩
      by_cases hlt2 : j < w
      · have e1 := hat j hlt2
        have e2 := hatk j
        have e3 := hek j hlt2
        have e4 := hek k hkw
        have e5 := hset j (by omega) hlt2
        have e6 := hrl j
        have m1 := mulB2 (A := 1073741824) (B := 1073741824) (hbf i j hlt hlt2) (hbf k k hkn hkw)
        have m2 := mulB2 (A := 1073741824) (B := 1073741824) (hbf i k hlt hkw) (hbf k j hkn hlt2)
        have w1 : IntKind.i64.wrap (f i j * f k k) = f i j * f k k := wrapI _ (by omega) (by omega)
        have w2 : IntKind.i64.wrap (f i k * f k j) = f i k * f k j := wrapI _ (by omega) (by omega)
        have w3 : IntKind.i64.wrap (f i j * f k k - f i k * f k j) = f i j * f k k - f i k * f k j := wrapI _ (by omega) (by omega)
        have w4 := hqd j
        have w5 : IntKind.i64.wrap (nb j) = nb j := by
          rw [w4]
          have := tdivB (a := f i j * f k k - f i k * f k j) (b := last) (B := 4611686018427387904) ⟨by omega, by omega⟩
          exact wrapI _ (by omega) (by omega)
        generalize hgg : rowW w (k + 1) (f i) nb j = g at *
        generalize rowF w (f k) = rkk at *
        simp -implicitDefEqProofs [sc_i_rankAndMinor_L6, hlt, hkn, hik, hki', hml, hlt2, e6]
        repeat' (first | omega | apply And.intro)
        refine CutI.of (l' := [(4, .sl 0 1 0 n), (7, .int .i64 last), (8, .int .i64 (k : Int)), (11, .int .i64 (i : Int)), (12, .int .i64 (j : Int))]) (SubI.slots rfl (by simp)) ?_
        simp -implicitDefEqProofs [freeOk, hlt, hkn, hik, hki', hml, hlt2, hkw, hlk, e1, e2, e3, e4, e6, w1, w2, w3, ← w4, w5, e5, hl0]
        repeat' (first | omega | apply And.intro)
        exact Again.of (j + 1) (by omega) (by omega) (SubI.slots (by simp) (by simp (disch := omega) [wrapI]))
      · have : j = w := by omega
        subst this
        have e6 := hrl j
        generalize rowW j (k + 1) (f i) nb j = g at *
        generalize rowF j (f k) = rkk at *
        simp -implicitDefEqProofs [sc_i_rankAndMinor_L6, hlt, hkn, hik, hki', hml, e6]
        refine SubQ.of (l1 := [(4, .sl 0 1 0 n), (7, .int .i64 last), (8, .int .i64 (k : Int)), (11, .int .i64 (i : Int))]) (SubI.slots rfl (by simp)) ?_
        simp -implicitDefEqProofs [hlt, hkn, hik, hki', hml, e6, hkw]
        repeat' (first | omega | apply And.intro)
        refine Again.of (i + 1) (by omega) (by omega) ?_
        refine SubI.fold 0 1 i 1 j (cn := ints (g.set k 0)) (co := ((rowsV Mi).set i (.sl 1 1 0 j)).set k (.sl 2 1 0 j)) (by simp) (by simp) (by simp [hml, hlt, hik, hki']) (by simp [e6]) ?_
        refine SubI.fold 0 2 k 1 j (cn := ints rkk) (co := (((rowsV Mi).set i (.sl 1 1 0 j)).set k (.sl 2 1 0 j)).set i (.own 1 (ints (g.set k 0)))) (by simp) (by simp) (by simp [hml, hkn, hik, hki']) (by simp [hlk]) ?_
        rw [htw]
        refine SubI.ren (fun m => if m = 0 then some 0 else none) ?_ ?_ ?_ (by simp) (by simp)
        · simp (disch := omega) [subT, renV, ren1, wrapI]
        · simp [subH, renL, ren1]
        · intro m hm
          simp only at hm
          rw [if_neg (by omega)]
    · have : i = n := by omega
      subst this
      rw [← barS_full] at q1
      simp -implicitDefEqProofs [sc_i_rankAndMinor_L4, hml]
      refine SubQ.of ?_ q1
      exact SubI.slots rfl (by simp)
  -- the steps
  have main : ∀ (Q : Post) (T0 : Tm) (H0 : Hp), SubI 0 T0 H0 [(4, .sl 0 1 0 M.length), (7, .int .i64 1), (8, .int .i64 0)] ([(0, rowsV (matF M.length w f0))], 1) →
      (∀ H, Q .ret [(2, .int .i64 rk), (3, .int .i64 v)] H) →
      LoopI ⟨Tryd.prog, w0, U0, L0, N0, 0, 120⟩ [666666, 555555] sc_i_rankAndMinor_L2 Q T0 H0 := by
    intro Q T0 H0 hsub q1
    generalize hnn : M.length = n at *
    refine loopQ env mixed (fun x : Nat × (Nat → Nat → Int) × Int => [(4, .sl 0 1 0 n), (7, .int .i64 x.2.2), (8, .int .i64 (x.1 : Int))]) (fun x => ([(0, rowsV (matF n w x.2.1))], 1)) (fun x => x.1 ≤ n ∧ bdE 1073741824 n w x.2.1 ∧ -1073741824 ≤ x.2.2 ∧ x.2.2 ≤ 1073741824 ∧ bareR n w (n + 1 - x.1) x.2.1 x.1 x.2.2 = some (rk, rl)) (fun x => n + 1 - x.1) (0, f0, 1) ⟨by simp only; omega, hbd, by simp only; omega, by simp only; omega, hR⟩ (by simpa using hsub) ?_
    rintro ⟨k, f, last⟩ ⟨hkn, hbf, hl1, hl2, hI⟩
    simp only at hkn hbf hl1 hl2 hI ⊢
    have hlow := lowB_matF (f := f) hw0 hn hw hbf
    have hNZ : F_i_findNonZero [.list 1 (rowsL (matF n w f)), .int .i64 (k : Int)] = some (.tup [.int .i64 (nzZ f n w k).1, .int .i64 (nzZ f n w k).2]) := by
      simp only [F_i_findNonZero, F2_mk, dLL_list, dI_int, Option.bind_some]
      rw [if_pos ⟨hlow, by omega, by omega⟩, Int.toNat_natCast, wdM_matF hw0, matF_len, nzZ_congr fun a b ha hb => matF_ent ha hb]
    have hml := matF_len n w f
    rw [show n + 1 - k = (n - k) + 1 by omega] at hI
    rcases nzZ_spec f n w k with ⟨e, hz⟩ | ⟨i, j, e, c1, c2, c3, c4, c5⟩
    · rw [e] at hNZ
      rw [bareR_stop e] at hI
      simp only [Option.some.injEq, Prod.mk.injEq] at hI
      obtain ⟨rfl, rfl⟩ := hI
      have hneg : IntKind.i64.wrap (-last) = -last := wrapI _ (by omega) (by omega)
      have hmx : max last (-last) = v := by omega
      have htk : (matF n w f).take n = matF n w f := List.take_of_length_le (by rw [hml]; omega)
      simp only at hNZ
      generalize matF n w f = Mf at *
      simp -implicitDefEqProofs [sc_i_rankAndMinor_L2, hml, htk, hNZ, hneg, hmx]
      refine SubQ.of ?_ (q1 ([(0, rowsV Mf)], 1))
      exact SubI.slots rfl (by simp)
    · rw [e] at hNZ
      simp only at hNZ
      obtain ⟨hl0, hb2, hI2⟩ := bareR_step e hI
      have hin : i < n := c2
      have hjw : j < w := c4
      have hkn2 : k < n := by omega
      have hkw2 : k < w := by omega
      have hG : G_i_swapTo [.sl 0 1 0 n, .int .i64 (k : Int), .int .i64 (i : Int), .int .i64 (j : Int)] (rowsV (matF n w f)) = some (.tup [], rowsV (matF n w (swF k i j f))) := by
        simp only [G_i_swapTo, dRowsV_rowsV, Option.bind_some]
        have hwd := wdM_matF (f := f) hw0
        rw [if_pos ⟨by rw [hml], dimM_matF hw0 hn hw, by omega, by rw [hml]; omega, by rw [hwd]; omega, by omega, by rw [hml]; omega, by omega, by rw [hwd]; omega⟩]
        simp only [Int.toNat_natCast]
        rw [swpR_matF hkn2 hkw2 hin hjw]
      have hbg := bdE_sw hkn2 hkw2 hin hjw hbf
      have hro := rows (swF k i j f) k last
      have htk : (matF n w f).take n = matF n w f := List.take_of_length_le (by rw [hml]; omega)
      have hml2 := matF_len n w (barF k last (swF k i j f))
      have hak := matF_at (w := w) (f := barF k last (swF k i j f)) hkn2
      have hlk : (rowF w (barF k last (swF k i j f) k)).length = w := rowF_len _ _
      have hek := rowF_at (g := barF k last (swF k i j f) k) hkw2
      rw [barF_top (Nat.le_refl k)] at hek
      have hgb := hbg k k hkn2 hkw2
      have hself2 := rowsV_self (M := matF n w (barF k last (swF k i j f))) (i := k) (by omega)
      rw [hak] at hself2
      have hni : ¬ ((i : Int) < 0) := by omega
      have hw1 : IntKind.i64.wrap ((k : Int) + 1) = ((k + 1 : Nat) : Int) := by rw [wrapI _ (by omega) (by omega)]; rfl
      generalize hgkk : swF k i j f k k = l2 at *
      generalize hff : barF k last (swF k i j f) = f2 at *
      generalize rowF w (f2 k) = r2 at *
      generalize hm2 : matF n w f2 = M2 at *
      generalize matF n w (swF k i j f) = M1 at *
      generalize matF n w f = Mf at *
      simp -implicitDefEqProofs [sc_i_rankAndMinor_L2, ren0, hml, htk, hNZ, hni, hG, hw1]
      refine hro _ _ _ hkn2 hkw2 hl0 hbg (SubI.slots rfl (by simp)) ?_
      simp -implicitDefEqProofs [hkn2, hml2, hak, hlk, hkw2, hek]
      repeat' (first | omega | apply And.intro)
      refine Again.of (k + 1, f2, l2) ⟨by simp only; omega, hb2, by simp only; omega, by simp only; omega, by simp only; rw [show n + 1 - (k + 1) = n - k by omega]; exact hI2⟩ (by simp only; omega) ?_
      refine SubI.fold 0 1 k 1 w (cn := ints r2) (co := (rowsV M2).set k (.sl 1 1 0 w)) (by simp) (by simp) (by simp [hml2, hkn2]) (by simp [hlk]) ?_
      rw [List.set_set, hself2]
      refine SubI.ren (fun m => if m = 0 then some 0 else none) ?_ ?_ ?_ (by simp) (by simp)
      · simp (disch := omega) [subT, renV, ren1, wrapI]
      · simp [subH, renL, ren1, hm2]
      · intro m hm
        simp only at hm
        rw [if_neg (by omega)]
  rw [hself] at main
  simp -implicitDefEqProofs [sc_i_rankAndMinor]
  refine ⟨by omega, ?_⟩
  refine loopQ env mixed (fun i : Nat => [(4, .sl 0 1 0 M.length), (16, .list 1 (rowsL M)), (17, .int .i64 (M.length : Int)), (18, .int .i64 (i : Int))]) (fun i => ([(0, rowsV (padR M i))], 1)) (fun i => i ≤ M.length) (fun i => M.length - i) 0 (by simp) (SubI.nilAll 0 1 (by simp; rfl) (by simp) (SubI.slots (by simp [padR_zero, rowsV]) (by simp))) ?_
  intro i hi
  by_cases hlt : i < M.length
  · have hri := hlen i hlt
    have hps := padR_set hlt
    simp -implicitDefEqProofs [sc_i_rankAndMinor_L0, hlt, rowsL_dR hlt]
    refine ⟨by omega, by omega, by omega, ?_⟩
    refine Again.of (i + 1) (by omega) (by omega) ?_
    refine SubI.fold 0 1 i 1 (atR M i).length (cn := ints (atR M i)) (co := (rowsV (padR M i)).set i (.sl 1 1 0 (atR M i).length)) (by simp) (by simp) (by simp [hlt]) (by simp) ?_
    rw [List.set_set]
    refine SubI.ren (fun m => if m = 0 then some 0 else none) ?_ ?_ ?_ (by simp) (by simp)
    · simp (disch := omega) [subT, renV, ren1, wrapI]
    · simp [subH, renL, ren1, hps]
    · intro m hm
      simp only at hm
      rw [if_neg (by omega)]
  · have : i = M.length := by omega
    subst this
    rw [padR_full]
    simp -implicitDefEqProofs [sc_i_rankAndMinor_L0]
    refine SubQ.of (l1 := [(4, .sl 0 1 0 M.length)]) (SubI.slots rfl (by simp)) ?_
    simp -implicitDefEqProofs
    refine main _ _ _ (SubI.slots rfl (by simp)) ?_
    intro H
    simp -implicitDefEqProofs
end Go.Proofs.YtkoljbncokmeaaaDoor
namespace Go.Proofs.YtkoljbncokmeaaaDoor
open Go Go.RowKit
set_option maxRecDepth 1000000
set_option linter.unusedSimpArgs false
set_option linter.unusedVariables false
set_option maxHeartbeats 1000000
def sc_s_l15Odd_L2 : SC := (.seq (.seq (.reg [⟨(some 17), none, (.mov (.t 6))⟩, ⟨(some 18), none, (.mov (.t 0))⟩, ⟨(some 19), none, (.mov (.t 5))⟩, ⟨(some 20), none, (.idx 1 (.t 18) (.t 19))⟩, ⟨(some 21), none, (.ld none .nil (.t 20))⟩, ⟨(some 22), none, (.len (.t 21))⟩, ⟨(some 23), none, (.bin false .lss (.t 17) (.t 22))⟩]) (.cond (.t 23) .skip (.exit 2))) (.seq (.block 3 (.seq (.dreg [⟨⟨(some 26), none, (.mov (.t 0))⟩, false, false⟩, ⟨⟨(some 27), none, (.mov (.t 5))⟩, false, false⟩, ⟨⟨(some 28), none, (.idx 1 (.t 26) (.t 27))⟩, false, false⟩, ⟨⟨(some 29), none, (.ld none .nil (.t 28))⟩, false, false⟩, ⟨⟨(some 30), none, (.mov (.t 6))⟩, false, false⟩, ⟨⟨(some 31), none, (.idx 1 (.t 29) (.t 30))⟩, false, false⟩, ⟨⟨(some 32), none, (.ld none (.int .i64 0) (.t 31))⟩, false, false⟩, ⟨⟨(some 33), none, (.mov (.t 0))⟩, false, false⟩, ⟨⟨(some 34), none, (.mov (.t 1))⟩, false, false⟩, ⟨⟨(some 35), none, (.idx 1 (.t 33) (.t 34))⟩, false, false⟩, ⟨⟨(some 36), none, (.ld none .nil (.t 35))⟩, false, false⟩, ⟨⟨(some 37), none, (.mov (.t 1))⟩, false, false⟩, ⟨⟨(some 38), none, (.idx 1 (.t 36) (.t 37))⟩, false, false⟩, ⟨⟨(some 39), none, (.ld none (.int .i64 0) (.t 38))⟩, false, false⟩, ⟨⟨(some 40), none, (.bin false .rem (.t 32) (.t 39))⟩, false, false⟩, ⟨⟨(some 41), none, (.bin false .neq (.t 40) (.c (.int .i64 0)))⟩, false, false⟩]) (.cond (.t 41) (.seq (.reg [⟨(some 42), none, (.mov (.t 5))⟩, ⟨(some 4), none, (.mov (.t 42))⟩]) .ret) .skip))) (.reg [⟨(some 24), none, (.mov (.t 6))⟩, ⟨(some 25), none, (.bin false .add (.t 24) (.c (.int .i64 1)))⟩, ⟨(some 6), none, (.mov (.t 25))⟩])))
def sc_s_l15Odd_L0 : SC := (.seq (.seq (.reg [⟨(some 9), none, (.mov (.t 5))⟩, ⟨(some 10), none, (.mov (.t 0))⟩, ⟨(some 11), none, (.len (.t 10))⟩, ⟨(some 12), none, (.bin false .lss (.t 9) (.t 11))⟩]) (.cond (.t 12) .skip (.exit 0))) (.seq (.block 1 (.seq (.reg [⟨(some 15), none, (.mov (.t 1))⟩, ⟨(some 16), none, (.bin false .add (.t 15) (.c (.int .i64 1)))⟩, ⟨(some 6), none, (.mov (.t 16))⟩]) (.block 2 (.loop sc_s_l15Odd_L2)))) (.reg [⟨(some 13), none, (.mov (.t 5))⟩, ⟨(some 14), none, (.bin false .add (.t 13) (.c (.int .i64 1)))⟩, ⟨(some 5), none, (.mov (.t 14))⟩])))
def sc_s_l15Odd : SC := (.seq (.reg [⟨(some 4), none, (.mov (.c (.int .i64 0)))⟩]) (.seq (.seq (.reg [⟨(some 7), none, (.mov (.t 1))⟩, ⟨(some 8), none, (.bin false .add (.t 7) (.c (.int .i64 1)))⟩, ⟨(some 5), none, (.mov (.t 8))⟩]) (.block 0 (.loop sc_s_l15Odd_L0))) (.seq (.reg [⟨(some 4), none, (.mov (.c (.int .i64 (-1))))⟩]) .ret)))
theorem code_s_l15Odd : fnCode Tryd.prog [] 64 = some (43, sc_s_l15Odd, [(4, none)]) := by kernel_rfl
/-- The first row behind a corner with a number that the corner does not divide. -/
def odP (f : Nat → Nat → Int) (w k i : Nat) : Prop := ∃ j, k < j ∧ j < w ∧ (f i j).tmod (f k k) ≠ 0
noncomputable def odI (f : Nat → Nat → Int) (w k : Nat) : Nat → Nat → Int
  | 0, _ => -1
  | n + 1, i => @ite _ (odP f w k i) (Classical.propDecidable _) (i : Int) (odI f w k n (i + 1))
noncomputable def odZ (f : Nat → Nat → Int) (n w k : Nat) : Int := odI f w k (n - (k + 1)) (k + 1)
theorem odI_yes {f : Nat → Nat → Int} {w k n i : Nat} (h : odP f w k i) : odI f w k (n + 1) i = i := by rw [odI, if_pos h]
theorem odI_no {f : Nat → Nat → Int} {w k n i : Nat} (h : ¬ odP f w k i) : odI f w k (n + 1) i = odI f w k n (i + 1) := by rw [odI, if_neg h]
theorem odI_spec (f : Nat → Nat → Int) (w k : Nat) : ∀ n i, (odI f w k n i = -1 ∧ ∀ a, i ≤ a → a < i + n → ¬ odP f w k a) ∨ ∃ a : Nat, odI f w k n i = (a : Int) ∧ i ≤ a ∧ a < i + n ∧ odP f w k a
  | 0, i => .inl ⟨rfl, fun a h1 h2 => by omega⟩
  | n + 1, i => by
    by_cases h : odP f w k i
    · rw [odI_yes h]
      exact .inr ⟨i, rfl, Nat.le_refl _, by omega, h⟩
    · rw [odI_no h]
      rcases odI_spec f w k n (i + 1) with ⟨e, hz⟩ | ⟨a, e, c1, c2, c3⟩
      · refine .inl ⟨e, fun a ha1 ha2 => ?_⟩
        by_cases e2 : a = i
        · rw [e2]; exact h
        · exact hz a (by omega) (by omega)
      · exact .inr ⟨a, e, by omega, by omega, c3⟩
noncomputable def F_s_l15Odd : List V → Option V := F2 dLL dI fun M k => @ite _ (lowB M ∧ 0 ≤ k ∧ k < M.length ∧ k < wdM M ∧ ent M k.toNat k.toNat ≠ 0) (Classical.propDecidable _) (some (.int .i64 (odZ (ent M) M.length (wdM M) k.toNat))) none
theorem fn_s_l15Odd : FnOk Tryd.prog 64 F_s_l15Odd := by
  have env := envNil_ok (P := Tryd.prog)
  refine fn_ok code_s_l15Odd mixed env ?_
  intro args r h hb
  obtain ⟨_, _, M, k, rfl, h1, h2, h4⟩ := F2_inv h
  cases dLL_inv h1
  cases dI_inv h2
  simp only [Option.ite_none_right_eq_some, Option.some.injEq] at h4
  obtain ⟨⟨⟨hr, hbd, hn, hw⟩, hk0, hk1, hk2, hk3⟩, rfl⟩ := h4
  clear h
  obtain ⟨k, rfl⟩ : ∃ q : Nat, k = q := ⟨k.toNat, by omega⟩
  rw [Int.toNat_natCast] at *
  refine ⟨by simp, fun w0 U0 L0 N0 => ?_⟩
  clear hb
  generalize wdM M = w at *
  have hkM : k < M.length := by omega
  have hkw : k < w := by omega
  have hrk := hr k hkM
  have hpz : ¬ at0 (atR M k) k = 0 := hk3
  unfold odZ
  generalize hR : odI (ent M) w k (M.length - (k + 1)) (k + 1) = R
  have hw1 : IntKind.i64.wrap ((k : Int) + 1) = ((k + 1 : Nat) : Int) := by rw [wrapI _ (by omega) (by omega)]; rfl
  simp -implicitDefEqProofs [sc_s_l15Odd, hw1]
  refine loopI env mixed (fun i : Nat => [(0, .list 1 (rowsL M)), (1, .int .i64 (k : Int)), (5, .int .i64 (i : Int))]) (fun _ => ([], 0)) (fun i => k < i ∧ i ≤ M.length ∧ odI (ent M) w k (M.length - i) i = R) (fun i => M.length - i) (k + 1) ⟨by omega, by omega, hR⟩ (SubI.slots rfl (by simp)) ?_
  rintro i ⟨hki, ht, hI⟩
  by_cases hlt : i < M.length
  · have hri := hr i hlt
    rw [show M.length - i = (M.length - (i + 1)) + 1 by omega] at hI
    simp -implicitDefEqProofs [sc_s_l15Odd_L0, hlt, hw1]
    refine loopQ env mixed (fun j : Nat => [(0, .list 1 (rowsL M)), (1, .int .i64 (k : Int)), (5, .int .i64 (i : Int)), (6, .int .i64 (j : Int))]) (fun _ => ([], 0)) (fun j => k < j ∧ j ≤ w ∧ ∀ b, k < b → b < j → (ent M i b).tmod (ent M k k) = 0) (fun j => w - j) (k + 1) ⟨by omega, by omega, fun b h1 h2 => by omega⟩ (SubI.slots rfl (by simp)) ?_
    rintro j ⟨hkj, hu, hJ⟩
    by_cases hlt2 : j < w
    · by_cases hz : (at0 (atR M i) j).tmod (at0 (atR M k) k) = 0
      · simp -implicitDefEqProofs [sc_s_l15Odd_L2, freeOk, hlt, hri, hlt2, hkM, hkw, hrk, rowsL_dR hlt, rowsL_dR hkM, hz, hpz, fz, noname, dr, nolist]
        repeat' (first | omega | apply And.intro)
        refine Again.of (j + 1) ⟨by omega, by omega, fun b h1 h2 => ?_⟩ (by omega) (SubI.slots rfl (by simp (disch := omega) [wrapI]))
        rcases Nat.lt_succ_iff_lt_or_eq.1 h2 with h | rfl
        · exact hJ b h1 h
        · exact hz
      · rw [odI_yes ⟨j, hkj, hlt2, hz⟩] at hI
        subst hI
        simp -implicitDefEqProofs [sc_s_l15Odd_L2, freeOk, hlt, hri, hlt2, hkM, hkw, hrk, rowsL_dR hlt, rowsL_dR hkM, hz, hpz, fz, noname, dr, nolist]
        repeat' (first | omega | apply And.intro)
        refine SubQ.of (l1 := [(4, .int .i64 (i : Int))]) (SubI.slots rfl (by simp)) ?_
        simp -implicitDefEqProofs
    · rw [odI_no fun ⟨b, b1, b2, b3⟩ => b3 (hJ b b1 (by omega))] at hI
      simp -implicitDefEqProofs [sc_s_l15Odd_L2, hlt, hri, hlt2, rowsL_dR hlt]
      repeat' (first | omega | apply And.intro)
      refine SubQ.of (l1 := [(0, .list 1 (rowsL M)), (1, .int .i64 (k : Int)), (5, .int .i64 (i : Int))]) (SubI.slots rfl (by simp)) ?_
      simp -implicitDefEqProofs
      exact Again.of (i + 1) ⟨by omega, by omega, hI⟩ (by omega) (SubI.slots rfl (by simp (disch := omega) [wrapI]))
  · have : R = -1 := by rw [← hI, show M.length - i = 0 by omega]; rfl
    subst this
    simp -implicitDefEqProofs [sc_s_l15Odd_L0, hlt]
end Go.Proofs.YtkoljbncokmeaaaDoor
namespace Go.Proofs.YtkoljbncokmeaaaDoor
open Go Go.RowKit
set_option maxRecDepth 1000000
set_option linter.unusedSimpArgs false
set_option linter.unusedVariables false
set_option maxHeartbeats 1000000
theorem lsJ_congr {f g : Nat → Nat → Int} {n w i k : Nat} (h : ∀ a b, a < n → b < w → f a b = g a b) (hi : i < n) {st : Int × Int} (hst : lsP f n w st) : ∀ u, k + u ≤ w ∨ u = 0 → lsJ f i k st u = lsJ g i k st u
  | 0, _ => rfl
  | u + 1, hu => by
    have hP := lsJ_P (k := k) hi hst u (by omega)
    have ih := lsJ_congr (k := k) h hi hst u (by omega)
    unfold lsJ
    rw [← ih]
    generalize lsJ f i k st u = s at *
    unfold lsS
    have e1 := h i (k + u) hi (by omega)
    rw [← e1]
    rcases hP with e | ⟨s1, s2, s3, s4, s5⟩
    · subst e
      by_cases h0 : f i (k + u) = 0
      · rw [if_neg fun hh => hh.1 h0, if_neg fun hh => hh.1 h0]
      · rw [if_pos ⟨h0, .inl (by simp)⟩, if_pos ⟨h0, .inl (by simp)⟩]
    · rw [h _ _ (show s.1.toNat < n by omega) (show s.2.toNat < w by omega)]
theorem lsI_congr {f g : Nat → Nat → Int} {n w k : Nat} (h : ∀ a b, a < n → b < w → f a b = g a b) : ∀ t, k + t ≤ n ∨ t = 0 → lsI f w k (-1, -1) t = lsI g w k (-1, -1) t
  | 0, _ => rfl
  | t + 1, ht => by
    have ih := lsI_congr (k := k) h t (by omega)
    unfold lsI
    rw [← ih, lsJ_congr (k := k) h (by omega) (lsI_P (k := k) (.inl rfl) t (by omega)) (w - k) (by omega)]
theorem lsZ_congr {f g : Nat → Nat → Int} {n w k : Nat} (h : ∀ a b, a < n → b < w → f a b = g a b) : lsZ f n w k = lsZ g n w k := lsI_congr h (n - k) (by omega)
theorem odP_congr {f g : Nat → Nat → Int} {n w k i : Nat} (h : ∀ a b, a < n → b < w → f a b = g a b) (hi : i < n) (hk : k < n) (hw : k < w) : odP f w k i ↔ odP g w k i := by
  constructor
  · rintro ⟨j, h1, h2, h3⟩
    exact ⟨j, h1, h2, by rw [← h i j hi h2, ← h k k hk hw]; exact h3⟩
  · rintro ⟨j, h1, h2, h3⟩
    exact ⟨j, h1, h2, by rw [h i j hi h2, h k k hk hw]; exact h3⟩
theorem odI_congr {f g : Nat → Nat → Int} {n w k : Nat} (h : ∀ a b, a < n → b < w → f a b = g a b) (hk : k < n) (hw : k < w) : ∀ q i, i + q ≤ n ∨ q = 0 → odI f w k q i = odI g w k q i
  | 0, _, _ => rfl
  | q + 1, i, hi => by
    have e := odP_congr (i := i) h (by omega) hk hw
    by_cases h0 : odP f w k i
    · rw [odI_yes h0, odI_yes (e.1 h0)]
    · rw [odI_no h0, odI_no fun hh => h0 (e.2 hh), odI_congr h hk hw q (i + 1) (by omega)]
theorem odZ_congr {f g : Nat → Nat → Int} {n w k : Nat} (h : ∀ a b, a < n → b < w → f a b = g a b) (hk : k < n) (hw : k < w) : odZ f n w k = odZ g n w k := odI_congr h hk hw _ _ (by omega)
theorem rwF_congr {f g : Nat → Nat → Int} {n w k : Nat} (h : ∀ a b, a < n → b < w → f a b = g a b) (hk : k < n) (hw : k < w) (a b : Nat) (ha : a < n) (hb : b < w) : rwF k f a b = rwF k g a b := by
  unfold rwF rwV
  rw [h a b ha hb, h a k ha hw, h k k hk hw, h k b hk hb]
theorem clF_congr {f g : Nat → Nat → Int} {n w k : Nat} (h : ∀ a b, a < n → b < w → f a b = g a b) (hk : k < n) (hw : k < w) (a b : Nat) (ha : a < n) (hb : b < w) : clF k f a b = clF k g a b := by
  unfold clF clV
  rw [h a b ha hb, h a k ha hw, h k k hk hw, h k b hk hb]
theorem rstF_congr {f g : Nat → Nat → Int} {n w k : Nat} (h : ∀ a b, a < n → b < w → f a b = g a b) (hk : k < n) (hw : k < w) (a b : Nat) (ha : a < n) (hb : b < w) : rstF k f a b = rstF k g a b := clF_congr (fun a b ha hb => rwF_congr h hk hw a b ha hb) hk hw a b ha hb
theorem clnP_congr {f g : Nat → Nat → Int} {n w k : Nat} (h : ∀ a b, a < n → b < w → f a b = g a b) (hk : k < n) (hw : k < w) : clnP n w k f ↔ clnP n w k g := by
  constructor
  · rintro ⟨h1, h2⟩
    exact ⟨fun a ha hb => by rw [← rwF_congr h hk hw a k hb hw]; exact h1 a ha hb, fun b hb hc => by rw [← rstF_congr h hk hw k b hk hc]; exact h2 b hb hc⟩
  · rintro ⟨h1, h2⟩
    exact ⟨fun a ha hb => by rw [rwF_congr h hk hw a k hb hw]; exact h1 a ha hb, fun b hb hc => by rw [rstF_congr h hk hw k b hk hc]; exact h2 b hb hc⟩
theorem bdE_congr {B : Int} {f g : Nat → Nat → Int} {n w : Nat} (h : ∀ a b, a < n → b < w → f a b = g a b) (hb : bdE B n w g) : bdE B n w f := fun i j hi hj => by rw [h i j hi hj]; exact hb i j hi hj
theorem rstO_matF {n w k : Nat} {g : Nat → Nat → Int} (hn : n ≤ 64) (hw : w ≤ 64) (hkn : k < n) (hkw : k < w) (hnz : g k k ≠ 0) (b0 : bdE 1073741824 n w g) (b1 : bdE 1073741824 n w (rwF k g)) (b2 : bdE 1073741824 n w (rstF k g)) : rstO k (matF n w g) := by
  have h0 : n = 0 → w = 0 := fun h => by omega
  have he : ∀ a b, a < n → b < w → ent (matF n w g) a b = g a b := fun a b ha hb => matF_ent ha hb
  refine ⟨dimM_matF h0 hn hw, by simpa using hkn, by rw [wdM_matF h0]; exact hkw, by rw [he k k hkn hkw]; exact hnz, bd_matF h0 b0, ?_, ?_⟩
  · rw [wdM_matF h0, matF_len]
    exact bdE_congr (fun a b ha hb => rwF_congr he hkn hkw a b ha hb) b1
  · rw [wdM_matF h0, matF_len]
    exact bdE_congr (fun a b ha hb => rstF_congr he hkn hkw a b ha hb) b2
/-- A row is added to the corner's row. -/
noncomputable def addF (k o : Nat) (f : Nat → Nat → Int) (a b : Nat) : Int := @ite _ (a = k ∧ k ≤ b) (Classical.propDecidable _) (f a b + f o b) (f a b)
theorem addF_set {n w k o : Nat} {f : Nat → Nat → Int} (hk : k < n) : (matF n w f).set k (rowW w k (f k) (fun b => f k b + f o b) w) = matF n w (addF k o f) := by
  unfold rowW
  rw [matF_set _ hk]
  refine matF_congr fun a b _ hb => ?_
  unfold addF
  by_cases e : a = k
  · subst e
    rw [if_pos rfl]
    by_cases h : a ≤ b
    · rw [if_pos ⟨h, hb⟩, if_pos ⟨rfl, h⟩]
    · rw [if_neg (by omega), if_neg (by omega)]
  · rw [if_neg e, if_neg (by omega)]
/-- The reference's elimination, with a bound on all numbers and on the steps. -/
noncomputable def smR (n w : Nat) : Nat → (Nat → Nat → Int) → Nat → List Int → Option (List Int)
  | 0, _, _, _ => none
  | q + 1, f, k, out => @ite _ (k < n ∧ k < w) (Classical.propDecidable _) (@ite _ ((lsZ f n w k).1 < 0) (Classical.propDecidable _) (some out)
      (@ite _ (bdE 1073741824 n w (rwF k (swF k (lsZ f n w k).1.toNat (lsZ f n w k).2.toNat f)) ∧ bdE 1073741824 n w (rstF k (swF k (lsZ f n w k).1.toNat (lsZ f n w k).2.toNat f))) (Classical.propDecidable _)
        (@ite _ (clnP n w k (swF k (lsZ f n w k).1.toNat (lsZ f n w k).2.toNat f)) (Classical.propDecidable _)
          (@ite _ (odZ (rstF k (swF k (lsZ f n w k).1.toNat (lsZ f n w k).2.toNat f)) n w k < 0) (Classical.propDecidable _)
            (smR n w q (rstF k (swF k (lsZ f n w k).1.toNat (lsZ f n w k).2.toNat f)) (k + 1) (out ++ [((rstF k (swF k (lsZ f n w k).1.toNat (lsZ f n w k).2.toNat f) k k).natAbs : Int)]))
            (@ite _ (bdE 1073741824 n w (addF k (odZ (rstF k (swF k (lsZ f n w k).1.toNat (lsZ f n w k).2.toNat f)) n w k).toNat (rstF k (swF k (lsZ f n w k).1.toNat (lsZ f n w k).2.toNat f)))) (Classical.propDecidable _)
              (smR n w q (addF k (odZ (rstF k (swF k (lsZ f n w k).1.toNat (lsZ f n w k).2.toNat f)) n w k).toNat (rstF k (swF k (lsZ f n w k).1.toNat (lsZ f n w k).2.toNat f))) k out) none))
          (smR n w q (rstF k (swF k (lsZ f n w k).1.toNat (lsZ f n w k).2.toNat f)) k out)) none)) (some out)
section
variable {n w q k : Nat} {f : Nat → Nat → Int} {out R : List Int}
theorem smR_end (h : ¬ (k < n ∧ k < w)) : smR n w (q + 1) f k out = some out := by rw [smR, if_neg h]
theorem smR_zero (h : k < n ∧ k < w) (h1 : lsZ f n w k = (-1, -1)) : smR n w (q + 1) f k out = some out := by rw [smR, if_pos h, if_pos (by rw [h1]; decide)]
variable {i j : Nat}
theorem smR_go (h : k < n ∧ k < w) (h1 : lsZ f n w k = ((i : Int), (j : Int))) : smR n w (q + 1) f k out = 
      (@ite _ (bdE 1073741824 n w (rwF k (swF k i j f)) ∧ bdE 1073741824 n w (rstF k (swF k i j f))) (Classical.propDecidable _)
        (@ite _ (clnP n w k (swF k i j f)) (Classical.propDecidable _)
          (@ite _ (odZ (rstF k (swF k i j f)) n w k < 0) (Classical.propDecidable _)
            (smR n w q (rstF k (swF k i j f)) (k + 1) (out ++ [((rstF k (swF k i j f) k k).natAbs : Int)]))
            (@ite _ (bdE 1073741824 n w (addF k (odZ (rstF k (swF k i j f)) n w k).toNat (rstF k (swF k i j f)))) (Classical.propDecidable _)
              (smR n w q (addF k (odZ (rstF k (swF k i j f)) n w k).toNat (rstF k (swF k i j f))) k out) none))
          (smR n w q (rstF k (swF k i j f)) k out)) none) := by
  have e1 : (lsZ f n w k).1.toNat = i := by rw [h1]; simp
  have e2 : (lsZ f n w k).2.toNat = j := by rw [h1]; simp
  rw [smR, if_pos h, if_neg (by rw [h1]; simp only; omega), e1, e2]
theorem smR_bd (h : k < n ∧ k < w) (h1 : lsZ f n w k = ((i : Int), (j : Int))) (hR : smR n w (q + 1) f k out = some R) : bdE 1073741824 n w (rwF k (swF k i j f)) ∧ bdE 1073741824 n w (rstF k (swF k i j f)) := by
  rw [smR_go h h1] at hR
  by_cases hc : bdE 1073741824 n w (rwF k (swF k i j f)) ∧ bdE 1073741824 n w (rstF k (swF k i j f))
  · exact hc
  · rw [if_neg hc] at hR; cases hR
theorem smR_dirty (h : k < n ∧ k < w) (h1 : lsZ f n w k = ((i : Int), (j : Int))) (hb : bdE 1073741824 n w (rwF k (swF k i j f)) ∧ bdE 1073741824 n w (rstF k (swF k i j f))) (hc : ¬ clnP n w k (swF k i j f)) : smR n w (q + 1) f k out = smR n w q (rstF k (swF k i j f)) k out := by
  rw [smR_go h h1, if_pos hb, if_neg hc]
theorem smR_done (h : k < n ∧ k < w) (h1 : lsZ f n w k = ((i : Int), (j : Int))) (hb : bdE 1073741824 n w (rwF k (swF k i j f)) ∧ bdE 1073741824 n w (rstF k (swF k i j f))) (hc : clnP n w k (swF k i j f)) (ho : odZ (rstF k (swF k i j f)) n w k < 0) : smR n w (q + 1) f k out = smR n w q (rstF k (swF k i j f)) (k + 1) (out ++ [((rstF k (swF k i j f) k k).natAbs : Int)]) := by
  rw [smR_go h h1, if_pos hb, if_pos hc, if_pos ho]
theorem smR_odd {o : Nat} (h : k < n ∧ k < w) (h1 : lsZ f n w k = ((i : Int), (j : Int))) (hb : bdE 1073741824 n w (rwF k (swF k i j f)) ∧ bdE 1073741824 n w (rstF k (swF k i j f))) (hc : clnP n w k (swF k i j f)) (ho : odZ (rstF k (swF k i j f)) n w k = (o : Int)) :
    smR n w (q + 1) f k out = @ite _ (bdE 1073741824 n w (addF k o (rstF k (swF k i j f)))) (Classical.propDecidable _) (smR n w q (addF k o (rstF k (swF k i j f))) k out) none := by
  rw [smR_go h h1, if_pos hb, if_pos hc, if_neg (by rw [ho]; omega), ho, Int.toNat_natCast]
end
theorem smR_mono {n w : Nat} : ∀ (q : Nat) (f : Nat → Nat → Int) (k : Nat) (out R : List Int), smR n w q f k out = some R → smR n w (q + 1) f k out = some R
  | 0, _, _, _, _, h => by simp [smR] at h
  | q + 1, f, k, out, R, h => by
    by_cases hk : k < n ∧ k < w
    rotate_left
    · rw [smR_end hk] at h ⊢; exact h
    rcases lsI_P (f := f) (n := n) (w := w) (k := k) (.inl rfl) (n - k) (by omega) with e | ⟨s1, s2, s3, s4, s5⟩
    · rw [smR_zero hk e] at h ⊢; exact h
    · have e : lsZ f n w k = (((lsZ f n w k).1.toNat : Int), ((lsZ f n w k).2.toNat : Int)) := by
        have h1 : 0 ≤ (lsZ f n w k).1 := s1
        have h2 : 0 ≤ (lsZ f n w k).2 := s3
        rw [Int.toNat_of_nonneg h1, Int.toNat_of_nonneg h2]
      have hb := smR_bd hk e h
      by_cases hc : clnP n w k (swF k (lsZ f n w k).1.toNat (lsZ f n w k).2.toNat f)
      rotate_left
      · rw [smR_dirty hk e hb hc] at h ⊢
        exact smR_mono q _ _ _ _ h
      by_cases ho : odZ (rstF k (swF k (lsZ f n w k).1.toNat (lsZ f n w k).2.toNat f)) n w k < 0
      · rw [smR_done hk e hb hc ho] at h ⊢
        exact smR_mono q _ _ _ _ h
      · have eo : odZ (rstF k (swF k (lsZ f n w k).1.toNat (lsZ f n w k).2.toNat f)) n w k = ((odZ (rstF k (swF k (lsZ f n w k).1.toNat (lsZ f n w k).2.toNat f)) n w k).toNat : Int) := by omega
        rw [smR_odd hk e hb hc eo] at h ⊢
        split at h
        · rename_i hbb
          rw [if_pos hbb]
          exact smR_mono q _ _ _ _ h
        · cases h
theorem smR_le {n w q q' : Nat} {f : Nat → Nat → Int} {k : Nat} {out R : List Int} (h : smR n w q f k out = some R) (hq : q ≤ q') : smR n w q' f k out = some R := by
  obtain ⟨d, rfl⟩ : ∃ d, q' = q + d := ⟨q' - q, by omega⟩
  induction d with
  | zero => exact h
  | succ d ih => exact smR_mono _ _ _ _ _ (ih (by omega))
open Classical in
noncomputable def smV (n w : Nat) (f : Nat → Nat → Int) : Option (List Int) := if h : ∃ R : List Int, ∃ q, smR n w q f 0 [] = some R then some (Classical.choose h) else none
theorem smV_iff {n w : Nat} {f : Nat → Nat → Int} {R : List Int} : smV n w f = some R ↔ ∃ q, smR n w q f 0 [] = some R := by
  unfold smV
  constructor
  · intro h
    split at h
    · rename_i hh
      simp only [Option.some.injEq] at h
      exact h ▸ Classical.choose_spec hh
    · cases h
  · rintro ⟨q, hq⟩
    have hh : ∃ R : List Int, ∃ q, smR n w q f 0 [] = some R := ⟨R, q, hq⟩
    rw [dif_pos hh]
    obtain ⟨q', hq'⟩ := Classical.choose_spec hh
    have h1 := smR_le hq (Nat.le_max_left q q')
    have h2 := smR_le hq' (Nat.le_max_right q q')
    rw [h1] at h2
    exact h2.symm
end Go.Proofs.YtkoljbncokmeaaaDoor
