import Derived.Test.YtmemomfffehnkaaPM
import Derived.Test.YtmemomfffehnkaaPI
import Derived.Test.YtmemomfffehnkaaPK
import Derived.Test.YtmemomfffehnkaaPJ
import Derived.Test.YtmemomfffehnkaaPG
import Derived.Test.YtmemomfffehnkaaPE
namespace Go.Proofs.Ytmemomfffehnkaa
open Go Go.RowKit
set_option maxRecDepth 1000000
set_option linter.unusedSimpArgs false
set_option linter.unusedVariables false
set_option maxHeartbeats 1000000
theorem lnk_down {l : List Int} (hl : allS l) {s : Int} (hs : isS s) : ∀ a b, isS a → isS b → subS a b → lnkP (faceS l) s b → lnkP (faceS l) s a := by
  intro a b ha hb hab h
  obtain ⟨h1, h2⟩ := h
  have hab2 := (subS_tb ha hb).1 hab
  refine ⟨(band_none ha hs).2 fun i hi ht => (band_none hb hs).1 h1 i hi ⟨hab2 i hi ht.1, ht.2⟩, faceS_sub hl (isS_bor ha hs) (isS_bor hb hs) ?_ h2⟩
  rw [subS_tb (isS_bor ha hs) (isS_bor hb hs)]
  intro i hi h
  rcases (tb_bor ha hs hi).1 h with h | h
  · exact (tb_bor hb hs hi).2 (.inl (hab2 i hi h))
  · exact (tb_bor hb hs hi).2 (.inr h)
/-- The facets of the link of s. -/
noncomputable def lkS (l : List Int) (s : Int) : List Int := setsOf (maxP (lnkP (faceS l) s))
theorem lkS_face {l : List Int} (hl : allS l) {s : Int} (hs : isS s) {u : Int} (hu : isS u) : faceS (lkS l s) u ↔ lnkP (faceS l) s u := face_max (lnk_down hl hs) hu
theorem cplx_lnk {n : Int} {l : List Int} (hc : cplx n l) {s : Int} (hs : isS s) : cplx n (lkS l s) := by
  obtain ⟨h1, h6, _⟩ := id hc
  have hso := setsOf_sorted (maxP (lnkP (faceS l) s))
  refine ⟨h1, h6, fun k hk => ?_⟩
  unfold lkS at hk ⊢
  obtain ⟨hks, hkm⟩ := mem_setsOf.1 (getD_mem' hk)
  have hface : faceS l (at0 (setsOf (maxP (lnkP (faceS l) s))) k) := faceS_sub (cplx_isS hc) hks (isS_bor hks hs) ((subS_tb hks (isS_bor hks hs)).2 fun i hi h => (tb_bor hks hs hi).2 (.inl h)) hkm.1.2
  refine ⟨isSet_face' hc hks hface, fun h0 => before_at hso (by omega) hk, fun i hi hb => ?_⟩
  obtain ⟨his, him⟩ := mem_setsOf.1 (getD_mem' (show i < _ from by omega : i < (setsOf (maxP (lnkP (faceS l) s))).length))
  have hsub : subS (at0 (setsOf (maxP (lnkP (faceS l) s))) i) (at0 (setsOf (maxP (lnkP (faceS l) s))) k) := (bnot_zero2 his hks).2 hb
  have e := him.2 _ hks hkm.1 hsub
  have hbf := before_at hso hi hk
  rw [e] at hbf
  simp only [before, decide_eq_true_eq] at hbf
  omega
theorem hm_link {n : Int} {l : List Int} {p : Int} (hc : cplx n l) {s : Int} (hs : isS s) (hp : fpP p) : hmL n (lkS l s) p = holL p (lnkP (faceS l) s) := by
  have e : hmL n (lkS l s) p = holL p (faceS (lkS l s)) := if_pos ⟨cplx_lnk hc hs, hp⟩
  rw [e]
  exact holL_congr fun u hu => lkS_face (cplx_isS hc) hs hu
end Go.Proofs.Ytmemomfffehnkaa
namespace Go.Proofs.Ytmemomfffehnkaa
open Go Go.RowKit
set_option maxRecDepth 1000000
set_option linter.unusedSimpArgs false
set_option linter.unusedVariables false
set_option maxHeartbeats 1000000
end Go.Proofs.Ytmemomfffehnkaa
namespace Go.Proofs.Ytmemomfffehnkaa
open Go Go.RowKit
set_option maxRecDepth 1000000
set_option linter.unusedSimpArgs false
set_option linter.unusedVariables false
set_option maxHeartbeats 1000000
end Go.Proofs.Ytmemomfffehnkaa
namespace Go.Proofs.Ytmemomfffehnkaa
open Go Go.RowKit
set_option maxRecDepth 1000000
set_option linter.unusedSimpArgs false
set_option linter.unusedVariables false
set_option maxHeartbeats 1000000
end Go.Proofs.Ytmemomfffehnkaa
namespace Go.Proofs.Ytmemomfffehnkaa
open Go Go.RowKit
set_option maxRecDepth 1000000
set_option linter.unusedSimpArgs false
set_option linter.unusedVariables false
set_option maxHeartbeats 1000000
end Go.Proofs.Ytmemomfffehnkaa
namespace Go.Proofs.Ytmemomfffehnkaa
open Go Go.RowKit
set_option maxRecDepth 1000000
set_option linter.unusedSimpArgs false
set_option linter.unusedVariables false
set_option maxHeartbeats 1000000
/-- A face's size and a place where its link has a hole, together. -/
def dpV (p : Int) (q : Int → Prop) (v : Int) : Prop := ∃ s, isS s ∧ q s ∧ ∃ k : Nat, k < (holL p (lnkP q s)).length ∧ at0 (holL p (lnkP q s)) k ≠ 0 ∧ v = sz s + k
def dpR (p : Int) (q : Int → Prop) (v : Int) : Prop := (v = -1 ∧ ∀ u, ¬ dpV p q u) ∨ (dpV p q v ∧ ∀ u, dpV p q u → v ≤ u)
theorem dpV_nn {p : Int} {q : Int → Prop} {v : Int} (h : dpV p q v) : 0 ≤ v ∧ v ≤ 13 := by
  obtain ⟨s, hs, _, k, hk, _, rfl⟩ := h
  have h1 := sz_nn s
  have h2 := sz_six hs
  have h3 := (holL_len p (lnkP q s)).2
  omega
theorem dp_ex (p : Int) (q : Int → Prop) : ∃ v, dpR p q v := by
  rcases least_nat (fun i => dpV p q (i : Int)) 14 with h | ⟨m, a, b, c⟩
  · refine ⟨-1, .inl ⟨rfl, fun u hu => ?_⟩⟩
    obtain ⟨h1, h2⟩ := dpV_nn hu
    exact h u.toNat (by omega) (by rw [Int.toNat_of_nonneg h1]; exact hu)
  · refine ⟨m, .inr ⟨b, fun u hu => Classical.byContradiction fun hn => ?_⟩⟩
    obtain ⟨h1, h2⟩ := dpV_nn hu
    exact c u.toNat (by omega) (by rw [Int.toNat_of_nonneg h1]; exact hu)
noncomputable def dpZ (p : Int) (q : Int → Prop) : Int := Classical.choose (dp_ex p q)
theorem dpZ_spec (p : Int) (q : Int → Prop) : dpR p q (dpZ p q) := Classical.choose_spec (dp_ex p q)
theorem dpZ_of {p : Int} {q : Int → Prop} {v : Int} (h : dpR p q v) : dpZ p q = v := by
  rcases dpZ_spec p q with ⟨e, h1⟩ | ⟨h1, h2⟩ <;> rcases h with ⟨e2, h3⟩ | ⟨h3, h4⟩
  · omega
  · exact absurd h3 (h1 v)
  · exact absurd h1 (h3 _)
  · have := h2 v h3
    have := h4 _ h1
    omega
theorem bor_z {s : Int} (hs : isS s) : bor 0 s = s := by
  have h0 : isS 0 := by constructor <;> decide
  refine subS_anti (isS_bor h0 hs) hs ((subS_tb (isS_bor h0 hs) hs).2 fun i hi h => ?_) ((subS_tb hs (isS_bor h0 hs)).2 fun i hi h => (tb_bor h0 hs hi).2 (.inr h))
  rcases (tb_bor h0 hs hi).1 h with h | h
  · exact absurd h (tb_zero i hi)
  · exact h
/-- The link of a greatest set. -/
theorem lnk_great {q : Int → Prop} {s : Int} (hs : isS s) (hq : q s) (ht : sz s = topZ q) {u : Int} (hu : isS u) : lnkP q s u ↔ u = 0 := by
  have h0 : isS 0 := by constructor <;> decide
  constructor
  · rintro ⟨h1, h2⟩
    have hb := isS_bor hu hs
    have hsub : subS s (bor u s) := (subS_tb hs hb).2 fun i hi h => (tb_bor hu hs hi).2 (.inr h)
    have h3 := topZ_ge hb h2
    have e : s = bor u s := Classical.byContradiction fun hn => by
      have := (sz_sub hs hb hsub).2 hn
      omega
    refine subS_anti hu h0 ((subS_tb hu h0).2 fun i hi h => ?_) ((subS_tb h0 hu).2 fun i hi h => absurd h (tb_zero i hi))
    have h4 := (tb_bor hu hs hi).2 (.inl h)
    rw [← e] at h4
    exact absurd ⟨h, h4⟩ ((band_none hu hs).1 h1 i hi)
  · rintro rfl
    exact ⟨(band_none h0 hs).2 fun i hi h => absurd h.1 (tb_zero i hi), by rw [bor_z hs]; exact hq⟩
theorem hol_one {p : Int} : (holL p fun u => u = 0).length = 1 ∧ at0 (holL p fun u => u = 0) 0 ≠ 0 := by
  have h0 : isS 0 := by constructor <;> decide
  have hz : sz 0 = 0 := by decide
  have ht : topZ (fun u => u = 0) = 0 := by
    have h1 := topZ_ge (p := fun u : Int => u = 0) h0 rfl
    rcases topZ_hit (fun u : Int => u = 0) with h | ⟨s, _, rfl, h⟩
    · omega
    · omega
  have hl := (holL_len p (fun u => u = 0)).1
  rw [ht] at hl
  have hl1 : (holL p fun u => u = 0).length = 1 := hl
  refine ⟨hl1, ?_⟩
  unfold holL
  rw [rowF_at (by rw [ht]; decide)]
  unfold holV
  have e1 : rkZ p (fun u => u = 0) ((0 : Nat) : Int) = 0 := rkZ_low p _
  have e2 : rkZ p (fun u => u = 0) (((0 : Nat) : Int) + 1) = 0 := rkZ_high p _ (by rw [ht]; decide)
  rw [e1, e2]
  have : (0 : Int) ∈ szS (fun u => u = 0) ((0 : Nat) : Int) := mem_szS.2 ⟨h0, rfl, by rw [hz]; rfl⟩
  have := List.length_pos_of_mem this
  omega
theorem dpV_top {p : Int} {q : Int → Prop} (h : 0 ≤ topZ q) : dpV p q (topZ q) := by
  rcases topZ_hit q with h1 | ⟨s, hs, hq, e⟩
  · omega
  · have e2 : holL p (lnkP q s) = holL p fun u => u = 0 := holL_congr fun u hu => lnk_great hs hq e hu
    exact ⟨s, hs, hq, 0, by rw [e2, hol_one.1]; decide, by rw [e2]; exact hol_one.2, by simp [e]⟩
/-- What has been seen of the first i faces, and of the holes below k of face i. -/
def dpI (p : Int) (q : Int → Prop) (L : List Int) (i k : Nat) (v : Int) : Prop := ∃ j m : Nat, j < L.length ∧ m < (holL p (lnkP q (at0 L j))).length ∧ at0 (holL p (lnkP q (at0 L j))) m ≠ 0 ∧ v = sz (at0 L j) + m ∧ (j < i ∨ (j = i ∧ m < k))
section
variable {p : Int} {q : Int → Prop} {L : List Int} {i k : Nat}
theorem dpI_nn {v : Int} (h : dpI p q L i k v) : 0 ≤ v := by
  obtain ⟨j, m, _, _, _, rfl, _⟩ := h
  have := sz_nn (at0 L j)
  omega
theorem dpI_zero (u : Int) : ¬ dpI p q L 0 0 u := by
  rintro ⟨j, m, _, _, _, _, h⟩
  omega
theorem dpI_skip (h : at0 (holL p (lnkP q (at0 L i))) k = 0) (u : Int) : dpI p q L i (k + 1) u ↔ dpI p q L i k u := by
  constructor
  · rintro ⟨j, m, h1, h2, h3, h4, h5⟩
    refine ⟨j, m, h1, h2, h3, h4, ?_⟩
    rcases h5 with h5 | ⟨rfl, h5⟩
    · exact .inl h5
    · rcases Nat.lt_succ_iff_lt_or_eq.1 h5 with h6 | rfl
      · exact .inr ⟨rfl, h6⟩
      · exact absurd h h3
  · rintro ⟨j, m, h1, h2, h3, h4, h5⟩
    exact ⟨j, m, h1, h2, h3, h4, by omega⟩
theorem dpI_new (hi : i < L.length) (hk : k < (holL p (lnkP q (at0 L i))).length) (h : at0 (holL p (lnkP q (at0 L i))) k ≠ 0) (u : Int) : dpI p q L i (k + 1) u ↔ dpI p q L i k u ∨ u = sz (at0 L i) + k := by
  constructor
  · rintro ⟨j, m, h1, h2, h3, h4, h5⟩
    rcases h5 with h5 | ⟨rfl, h5⟩
    · exact .inl ⟨j, m, h1, h2, h3, h4, .inl h5⟩
    · rcases Nat.lt_succ_iff_lt_or_eq.1 h5 with h6 | rfl
      · exact .inl ⟨_, m, h1, h2, h3, h4, .inr ⟨rfl, h6⟩⟩
      · exact .inr h4
  · rintro (⟨j, m, h1, h2, h3, h4, h5⟩ | rfl)
    · exact ⟨j, m, h1, h2, h3, h4, by omega⟩
    · exact ⟨i, k, hi, hk, h, rfl, by omega⟩
theorem dpI_end {n : Nat} (h : n = (holL p (lnkP q (at0 L i))).length) (u : Int) : dpI p q L (i + 1) 0 u ↔ dpI p q L i n u := by
  constructor
  · rintro ⟨j, m, h1, h2, h3, h4, h5⟩
    refine ⟨j, m, h1, h2, h3, h4, ?_⟩
    by_cases e : j = i
    · subst e
      exact .inr ⟨rfl, by omega⟩
    · exact .inl (by omega)
  · rintro ⟨j, m, h1, h2, h3, h4, h5⟩
    exact ⟨j, m, h1, h2, h3, h4, by omega⟩
theorem dpI_full (u : Int) : dpI p q (setsOf q) (setsOf q).length 0 u ↔ dpV p q u := by
  constructor
  · rintro ⟨j, m, h1, h2, h3, h4, h5⟩
    obtain ⟨h6, h7⟩ := mem_setsOf.1 (getD_mem' h1)
    exact ⟨at0 (setsOf q) j, h6, h7, m, h2, h3, h4⟩
  · rintro ⟨s, hs, hq, m, h2, h3, h4⟩
    obtain ⟨j, h5, h6⟩ := getD_mem_iff.1 (mem_setsOf.2 ⟨hs, hq⟩)
    subst h6
    exact ⟨j, m, h5, h2, h3, h4, .inl h5⟩
end
/-- The least that has been seen, or -1. -/
def lsR (S : Int → Prop) (d : Int) : Prop := (d = -1 ∧ ∀ u, ¬ S u) ∨ (S d ∧ ∀ u, S u → d ≤ u)
theorem ls_congr {S S2 : Int → Prop} {d : Int} (h : lsR S d) (e : ∀ u, S2 u ↔ S u) : lsR S2 d := by
  rcases h with ⟨h1, h2⟩ | ⟨h1, h2⟩
  · exact .inl ⟨h1, fun u hu => h2 u ((e u).1 hu)⟩
  · exact .inr ⟨(e d).2 h1, fun u hu => h2 u ((e u).1 hu)⟩
theorem ls_new {S S2 : Int → Prop} {d v : Int} (h : lsR S d) (hn : ∀ u, S u → 0 ≤ u) (e : ∀ u, S2 u ↔ S u ∨ u = v) (hd : d < 0 ∨ v < d) : lsR S2 v := by
  refine .inr ⟨(e v).2 (.inr rfl), fun u hu => ?_⟩
  rcases (e u).1 hu with h2 | rfl
  · rcases h with ⟨h3, h4⟩ | ⟨h3, h4⟩
    · exact absurd h2 (h4 u)
    · have := h4 u h2
      have := hn d h3
      omega
  · omega
theorem ls_old {S S2 : Int → Prop} {d v : Int} (h : lsR S d) (e : ∀ u, S2 u ↔ S u ∨ u = v) (hd : ¬ (d < 0 ∨ v < d)) : lsR S2 d := by
  rcases h with ⟨h3, h4⟩ | ⟨h3, h4⟩
  · omega
  · refine .inr ⟨(e d).2 (.inl h3), fun u hu => ?_⟩
    rcases (e u).1 hu with h2 | rfl
    · exact h4 u h2
    · omega
theorem ls_dp {p : Int} {q : Int → Prop} {S : Int → Prop} {d : Int} (h : lsR S d) (e : ∀ u, S u ↔ dpV p q u) : d = dpZ p q := (dpZ_of (by
  rcases h with ⟨h1, h2⟩ | ⟨h1, h2⟩
  · exact .inl ⟨h1, fun u hu => h2 u ((e u).2 hu)⟩
  · exact .inr ⟨(e d).1 h1, fun u hu => h2 u ((e u).2 hu)⟩)).symm
/-- The depth is full. -/
def fdP (p : Int) (q : Int → Prop) : Prop := 0 ≤ topZ q ∧ dpZ p q = topZ q
end Go.Proofs.Ytmemomfffehnkaa
namespace Go.Proofs.Ytmemomfffehnkaa
open Go Go.RowKit
set_option maxRecDepth 1000000
set_option linter.unusedSimpArgs false
set_option linter.unusedVariables false
set_option maxHeartbeats 1000000
def sc_s_DepthOf_L2 : SC := (.seq (.seq (.reg [⟨(some 31), none, (.mov (.t 9))⟩, ⟨(some 32), none, (.mov (.t 8))⟩, ⟨(some 33), none, (.len (.t 32))⟩, ⟨(some 34), none, (.bin false .lss (.t 31) (.t 33))⟩]) (.cond (.t 34) .skip (.exit 2))) (.seq (.block 3 (.seq (.reg [⟨(some 37), none, (.mov (.t 6))⟩, ⟨(some 38), none, (.mov (.t 7))⟩, ⟨(some 39), none, (.idx 1 (.t 37) (.t 38))⟩, ⟨(some 40), none, (.ld none (.int .i64 0) (.t 39))⟩, ⟨(some 41), none, (.call 156 [(.t 40)])⟩, ⟨(some 42), none, (.mov (.t 9))⟩, ⟨(some 43), none, (.bin false .add (.t 41) (.t 42))⟩, ⟨(some 10), none, (.mov (.t 43))⟩]) (.seq (.reg [⟨(some 44), none, (.mov (.t 8))⟩, ⟨(some 45), none, (.mov (.t 9))⟩, ⟨(some 46), none, (.idx 1 (.t 44) (.t 45))⟩, ⟨(some 47), none, (.ld none (.int .i64 0) (.t 46))⟩, ⟨(some 48), none, (.bin false .neq (.t 47) (.c (.int .i64 0)))⟩, ⟨(some 49), none, (.mov (.t 48))⟩, ⟨(some 50), (some (49, true)), (.mov (.t 5))⟩, ⟨(some 51), (some (49, true)), (.bin false .lss (.t 50) (.c (.int .i64 0)))⟩, ⟨(some 52), (some (49, true)), (.mov (.t 51))⟩, ⟨(some 53), (some (52, false)), (.mov (.t 10))⟩, ⟨(some 54), (some (52, false)), (.mov (.t 5))⟩, ⟨(some 55), (some (52, false)), (.bin false .lss (.t 53) (.t 54))⟩, ⟨(some 56), (some (49, true)), (.pick (.t 52) (.c (.bool true)) (.t 55))⟩, ⟨(some 57), none, (.pick (.t 49) (.t 56) (.c (.bool false)))⟩]) (.cond (.t 57) (.reg [⟨(some 58), none, (.mov (.t 10))⟩, ⟨(some 5), none, (.mov (.t 58))⟩]) .skip)))) (.reg [⟨(some 35), none, (.mov (.t 9))⟩, ⟨(some 36), none, (.bin false .add (.t 35) (.c (.int .i64 1)))⟩, ⟨(some 9), none, (.mov (.t 36))⟩])))
def sc_s_DepthOf_L0 : SC := (.seq (.seq (.reg [⟨(some 13), none, (.mov (.t 7))⟩, ⟨(some 14), none, (.mov (.t 6))⟩, ⟨(some 15), none, (.len (.t 14))⟩, ⟨(some 16), none, (.bin false .lss (.t 13) (.t 15))⟩, ⟨(some 17), none, (.mov (.t 16))⟩, ⟨(some 18), (some (17, true)), (.mov (.t 1))⟩, ⟨(some 19), (some (17, true)), (.call 25 [(.t 18)])⟩, ⟨(some 20), none, (.pick (.t 17) (.t 19) (.c (.bool false)))⟩]) (.cond (.t 20) .skip (.exit 0))) (.seq (.block 1 (.seq (.dreg [⟨⟨(some 23), none, (.ld (some 2) .undef (.t 2))⟩, false, false⟩, ⟨⟨(some 24), none, (.mov (.t 6))⟩, false, false⟩, ⟨⟨(some 25), none, (.mov (.t 7))⟩, false, false⟩, ⟨⟨(some 26), none, (.idx 1 (.t 24) (.t 25))⟩, false, false⟩, ⟨⟨(some 27), none, (.ld none (.int .i64 0) (.t 26))⟩, false, false⟩, ⟨⟨(some 28), none, (.call 199 [(.t 23), (.t 27)])⟩, false, false⟩, ⟨⟨(some 29), none, (.mov (.t 1))⟩, false, false⟩, ⟨⟨(some 30), none, (.call 27 [(.t 28), (.t 29)])⟩, false, false⟩, ⟨⟨(some 8), none, (.mov (.t 30))⟩, false, false⟩]) (.seq (.reg [⟨(some 9), none, (.mov (.c (.int .i64 0)))⟩]) (.block 2 (.loop sc_s_DepthOf_L2))))) (.reg [⟨(some 21), none, (.mov (.t 7))⟩, ⟨(some 22), none, (.bin false .add (.t 21) (.c (.int .i64 1)))⟩, ⟨(some 7), none, (.mov (.t 22))⟩])))
def sc_s_DepthOf : SC := (.seq (.reg [⟨(some 2), none, (.box (.t 0))⟩, ⟨(some 4), none, (.mov (.c (.int .i64 0)))⟩]) (.seq (.reg [⟨(some 5), none, (.mov (.c (.int .i64 (-1))))⟩]) (.seq (.reg [⟨(some 11), none, (.ld (some 2) .undef (.t 2))⟩, ⟨(some 12), none, (.call 43 [(.t 11)])⟩, ⟨(some 6), none, (.mov (.t 12))⟩]) (.seq (.seq (.reg [⟨(some 7), none, (.mov (.c (.int .i64 0)))⟩]) (.block 0 (.loop sc_s_DepthOf_L0))) (.seq (.reg [⟨(some 59), none, (.mov (.t 5))⟩, ⟨(some 4), none, (.mov (.t 59))⟩]) .ret)))))
theorem code_s_DepthOf : fnCode Try.prog [] 200 = some (60, sc_s_DepthOf, [(4, none)]) := by kernel_rfl
open Classical in
noncomputable def dpF (n : Int) (l : List Int) (p : Int) : Int := if cplx n l ∧ fpP p then dpZ p (faceS l) else -1
noncomputable def F_s_DepthOf : List V → Option V := F2 dC dI fun c p => some (.int .i64 (dpF c.1 c.2 p))
theorem fn_s_DepthOf : FnOk Try.prog 200 F_s_DepthOf := by
  have env := (((((envNil_ok (P := Try.prog)).add fn_s_FacesOf).add fn_s_IsFieldPrime).add fn_s_l5Link).add fn_s_HolesMod).add fn_s_l2Size
  refine fn_ok code_s_DepthOf mixed env ?_
  intro args r h hb
  obtain ⟨_, _, ⟨n, l⟩, p, rfl, h1, h2, h4⟩ := F2_inv h
  cases dC_inv h1
  cases dI_inv h2
  cases h4
  clear h
  refine ⟨by simp, fun w0 U0 L0 N0 => ?_⟩
  clear hb
  simp only
  have hFF : F_s_FacesOf [.agg [.int .i64 n, .list 1 (ints l)]] = some (.own 1 (ints (facesL n l))) := by simp [F_s_FacesOf]
  by_cases hcp : cplx n l ∧ fpP p
  rotate_left
  · have e : dpF n l p = -1 := if_neg hcp
    rw [e]
    have hLp : facesL n l = [] ∨ ¬ fpP p := by
      by_cases hc : cplx n l
      · exact .inr fun hp => hcp ⟨hc, hp⟩
      · exact .inl (facesL_not hc)
    generalize facesL n l = L at *
    simp -implicitDefEqProofs [sc_s_DepthOf, hFF]
    refine loopI env mixed (fun _ : Unit => [(1, .int .i64 p), (5, .int .i64 (-1)), (6, .sl 1 1 0 L.length), (7, .int .i64 0)]) (fun _ => ([(1, ints L), (0, [.int .i64 n, .list 1 (ints l)])], 2)) (fun _ => True) (fun _ => 0) () trivial (SubI.slots (by simp) (by simp)) ?_
    intro _ _
    rcases hLp with e0 | hp
    · subst e0
      simp -implicitDefEqProofs [sc_s_DepthOf_L0]
    · have hd := dec_false hp
      by_cases h0 : 0 < L.length
      · have h0' : (0 : Int) < L.length := by omega
        simp -implicitDefEqProofs [sc_s_DepthOf_L0, F_s_IsFieldPrime, hd, h0, h0']
      · have h0' : ¬ ((0 : Int) < L.length) := by omega
        simp -implicitDefEqProofs [sc_s_DepthOf_L0, h0, h0']
  obtain ⟨hc, hp⟩ := hcp
  have hd := dec_true hp
  have hS := cplx_isS hc
  have hl64 := cplx_len64 hc
  have hL : allS (facesL n l) := allS_setsOf _
  have hLl : (facesL n l).length ≤ 64 := setsOf_len _
  have hX : ∀ d, lsR (dpI p (faceS l) (facesL n l) (facesL n l).length 0) d → d = dpF n l p := fun d h => by
    rw [show dpF n l p = dpZ p (faceS l) from if_pos ⟨hc, hp⟩]
    rw [facesL_of hc] at h
    exact ls_dp h dpI_full
  generalize dpF n l p = X at *
  have h00 : lsR (dpI p (faceS l) (facesL n l) 0 0) (-1) := .inl ⟨rfl, fun u hu => dpI_zero u hu⟩
  generalize facesL n l = L at *
  simp -implicitDefEqProofs [sc_s_DepthOf, hFF]
  refine loopI env mixed (fun x : Nat × Int => [(1, .int .i64 p), (2, .pt 0 0), (5, .int .i64 x.2), (6, .sl 1 1 0 L.length), (7, .int .i64 (x.1 : Int))]) (fun _ => ([(1, ints L), (0, [.int .i64 n, .list 1 (ints l)])], 2)) (fun x => x.1 ≤ L.length ∧ lsR (dpI p (faceS l) L x.1 0) x.2) (fun x => L.length - x.1) (0, -1) ⟨by simp, h00⟩ (SubI.slots (by simp) (by simp)) ?_
  rintro ⟨i, d⟩ ⟨hi, hI⟩
  simp only at hi hI ⊢
  by_cases hlt : i < L.length
  rotate_left
  · have : i = L.length := by omega
    subst this
    have e := hX d hI
    subst e
    simp -implicitDefEqProofs [sc_s_DepthOf_L0]
  have hs := allS_at hL hlt
  have h6 := sz_six hs
  have h0 := sz_nn (at0 L i)
  have hFK : F_s_l5Link [.agg [.int .i64 n, .list 1 (ints l)], .int .i64 (at0 L i)] = some (.agg [.int .i64 n, .own 1 (ints (lkS l (at0 L i)))]) := by
    simp only [F_s_l5Link, F2_mk, dC_agg, dI_int, Option.bind_some]
    rw [if_pos ⟨hS, hl64, hs⟩]
    rfl
  have hFH : F_s_HolesMod [.agg [.int .i64 n, .list 1 (ints (lkS l (at0 L i)))], .int .i64 p] = some (.own 1 (ints (holL p (lnkP (faceS l) (at0 L i))))) := by
    rw [← hm_link hc hs hp]
    simp [F_s_HolesMod]
  have hF2 : F_s_l2Size [.int .i64 (at0 L i)] = some (.int .i64 (sz (at0 L i))) := by
    simp only [F_s_l2Size, F1_mk, dI_int, Option.bind_some]
    rw [if_pos (by have := hs.2; omega)]
  have hHl := (holL_len p (lnkP (faceS l) (at0 L i))).2
  have hA := fun k h u => dpI_skip (p := p) (q := faceS l) (L := L) (i := i) (k := k) h u
  have hB := fun k h1 h2 u => dpI_new (p := p) (q := faceS l) (k := k) hlt h1 h2 u
  have hC := fun n h u => dpI_end (p := p) (q := faceS l) (L := L) (i := i) (n := n) h u
  generalize holL p (lnkP (faceS l) (at0 L i)) = H at *
  generalize lkS l (at0 L i) = R at *
  simp -implicitDefEqProofs [sc_s_DepthOf_L0, F_s_IsFieldPrime, hlt, hd, hFK, hFH]
  repeat' (first | omega | apply And.intro)
  refine loopI env mixed (fun x : Nat × Int => [(1, .int .i64 p), (2, .pt 0 0), (5, .int .i64 x.2), (6, .sl 1 1 0 L.length), (7, .int .i64 (i : Int)), (8, .list 1 (ints H)), (9, .int .i64 (x.1 : Int))]) (fun _ => ([(1, ints L), (0, [.int .i64 n, .list 1 (ints l)])], 2)) (fun x => x.1 ≤ H.length ∧ lsR (dpI p (faceS l) L i x.1) x.2) (fun x => H.length - x.1) (0, d) ⟨by simp, hI⟩ (SubI.slots (by simp) (by simp)) ?_
  rintro ⟨k, d2⟩ ⟨hk, hI2⟩
  simp only at hk hI2 ⊢
  by_cases hkl : k < H.length
  rotate_left
  · have hn := ls_congr hI2 (hC k (by omega))
    simp -implicitDefEqProofs [sc_s_DepthOf_L2, hkl]
    repeat' (first | omega | apply And.intro)
    exact Again.of (i + 1, d2) ⟨by simp only; omega, hn⟩ (by simp only; omega) (SubI.slots (by simp) (by simp (disch := omega) [wrapI]))
  have hw : IntKind.i64.wrap (sz (at0 L i) + (k : Int)) = sz (at0 L i) + (k : Int) := wrapI _ (by omega) (by omega)
  by_cases hk0 : at0 H k = 0
  · simp -implicitDefEqProofs [sc_s_DepthOf_L2, hkl, hlt, hF2, hw, hk0]
    repeat' (first | omega | apply And.intro)
    exact Again.of (k + 1, d2) ⟨by simp only; omega, ls_congr hI2 (hA k hk0)⟩ (by simp only; omega) (SubI.slots (by simp) (by simp (disch := omega) [wrapI]))
  by_cases hdn : d2 < 0
  · simp -implicitDefEqProofs [sc_s_DepthOf_L2, hkl, hlt, hF2, hw, hk0, hdn]
    repeat' (first | omega | apply And.intro)
    exact Again.of (k + 1, sz (at0 L i) + (k : Int)) ⟨by simp only; omega, ls_new hI2 (fun u hu => dpI_nn hu) (hB k hkl hk0) (.inl hdn)⟩ (by simp only; omega) (SubI.slots (by simp) (by simp (disch := omega) [wrapI]))
  by_cases hdl : sz (at0 L i) + (k : Int) < d2
  · simp -implicitDefEqProofs [sc_s_DepthOf_L2, hkl, hlt, hF2, hw, hk0, hdn, hdl]
    repeat' (first | omega | apply And.intro)
    exact Again.of (k + 1, sz (at0 L i) + (k : Int)) ⟨by simp only; omega, ls_new hI2 (fun u hu => dpI_nn hu) (hB k hkl hk0) (.inr hdl)⟩ (by simp only; omega) (SubI.slots (by simp) (by simp (disch := omega) [wrapI]))
  · simp -implicitDefEqProofs [sc_s_DepthOf_L2, hkl, hlt, hF2, hw, hk0, hdn, hdl]
    repeat' (first | omega | apply And.intro)
    exact Again.of (k + 1, d2) ⟨by simp only; omega, ls_old hI2 (hB k hkl hk0) (by omega)⟩ (by simp only; omega) (SubI.slots (by simp) (by simp (disch := omega) [wrapI]))
end Go.Proofs.Ytmemomfffehnkaa
namespace Go.Proofs.Ytmemomfffehnkaa
open Go Go.RowKit
set_option maxRecDepth 1000000
set_option linter.unusedSimpArgs false
set_option linter.unusedVariables false
set_option maxHeartbeats 1000000
def sc_s_IsCohenMacaulay : SC := (.seq (.reg [⟨(some 2), none, (.box (.t 0))⟩, ⟨(some 4), none, (.mov (.c (.bool false)))⟩]) (.seq (.reg [⟨(some 6), none, (.ld (some 2) .undef (.t 2))⟩, ⟨(some 7), none, (.mov (.t 1))⟩, ⟨(some 8), none, (.call 200 [(.t 6), (.t 7)])⟩, ⟨(some 5), none, (.mov (.t 8))⟩]) (.seq (.reg [⟨(some 9), none, (.mov (.t 5))⟩, ⟨(some 10), none, (.bin false .geq (.t 9) (.c (.int .i64 0)))⟩, ⟨(some 11), none, (.mov (.t 10))⟩, ⟨(some 12), (some (11, true)), (.mov (.t 5))⟩, ⟨(some 13), (some (11, true)), (.ld (some 2) .undef (.t 2))⟩, ⟨(some 14), (some (11, true)), (.call 155 [(.t 13)])⟩, ⟨(some 15), (some (11, true)), (.bin false .add (.t 14) (.c (.int .i64 1)))⟩, ⟨(some 16), (some (11, true)), (.bin false .eql (.t 12) (.t 15))⟩, ⟨(some 17), none, (.pick (.t 11) (.t 16) (.c (.bool false)))⟩, ⟨(some 4), none, (.mov (.t 17))⟩]) .ret)))
theorem code_s_IsCohenMacaulay : fnCode Try.prog [] 104 = some (18, sc_s_IsCohenMacaulay, [(4, none)]) := by kernel_rfl
/-- Cohen-Macaulay: the depth is the number of points of a greatest face. -/
def cmP (n : Int) (l : List Int) (p : Int) : Prop := cplx n l ∧ fpP p ∧ fdP p (faceS l)
noncomputable def F_s_IsCohenMacaulay : List V → Option V := F2 dC dI fun c p => some (.bool (dec (cmP c.1 c.2 p)))
theorem cm_iff {n : Int} {l : List Int} {p : Int} : cmP n l p ↔ 0 ≤ dpF n l p ∧ dpF n l p = dimZ n l + 1 := by
  unfold cmP dpF dimZ fdP
  by_cases hc : cplx n l
  · by_cases hp : fpP p
    · rw [if_pos ⟨hc, hp⟩, if_pos hc]
      constructor
      · rintro ⟨_, _, h1, h2⟩
        omega
      · rintro ⟨h1, h2⟩
        exact ⟨hc, hp, by omega, by omega⟩
    · rw [if_neg fun h => hp h.2]
      exact ⟨fun h => absurd h.2.1 hp, fun h => by omega⟩
  · rw [if_neg fun h => hc h.1]
    exact ⟨fun h => absurd h.1 hc, fun h => by omega⟩
theorem fn_s_IsCohenMacaulay : FnOk Try.prog 104 F_s_IsCohenMacaulay := by
  have env := ((envNil_ok (P := Try.prog)).add fn_s_DepthOf).add fn_s_DimOf
  refine fn_ok code_s_IsCohenMacaulay mixed env ?_
  intro args r h hb
  obtain ⟨_, _, ⟨n, l⟩, p, rfl, h1, h2, h4⟩ := F2_inv h
  cases dC_inv h1
  cases dI_inv h2
  cases h4
  clear h
  refine ⟨by simp, fun w0 U0 L0 N0 => ?_⟩
  clear hb
  simp only
  generalize hv : dec (cmP n l p) = v
  have hF1 : F_s_DepthOf [.agg [.int .i64 n, .list 1 (ints l)], .int .i64 p] = some (.int .i64 (dpF n l p)) := by simp [F_s_DepthOf]
  have hF2 : F_s_DimOf [.agg [.int .i64 n, .list 1 (ints l)]] = some (.int .i64 (dimZ n l)) := by simp [F_s_DimOf]
  have hdb := dimZ_bnd n l
  have hw : IntKind.i64.wrap (dimZ n l + 1) = dimZ n l + 1 := wrapI _ (by omega) (by omega)
  have hi : cmP n l p ↔ 0 ≤ dpF n l p ∧ dpF n l p = dimZ n l + 1 := cm_iff
  generalize dpF n l p = D at *
  generalize dimZ n l = E at *
  by_cases h0 : 0 ≤ D
  rotate_left
  · have hv1 : v = false := hv ▸ dec_false fun h => h0 (hi.1 h).1
    simp -implicitDefEqProofs [sc_s_IsCohenMacaulay, hF1, h0, hv1]
  have hv1 : v = (D == E + 1) := by
    rw [← hv, Bool.eq_iff_iff, dec_iff, beq_iff_eq]
    exact hi.trans ⟨fun h => h.2, fun h => ⟨h0, h⟩⟩
  simp -implicitDefEqProofs [sc_s_IsCohenMacaulay, hF1, hF2, h0, hw, hv1]
end Go.Proofs.Ytmemomfffehnkaa
namespace Go.Proofs.Ytmemomfffehnkaa
open Go Go.RowKit
set_option maxRecDepth 1000000
set_option linter.unusedSimpArgs false
set_option linter.unusedVariables false
set_option maxHeartbeats 1000000
/-- All maximal sets have d points. -/
def pureF (q : Int → Prop) (d : Int) : Prop := ∀ s, isS s → maxP q s → sz s = d
theorem tb_lnk {q : Int → Prop} {s u : Int} (hs : isS s) (hu : isS u) : lnkP q s u ↔ (∀ i, i < 6 → ¬ (tb u i ∧ tb s i)) ∧ q (bor u s) := by
  unfold lnkP
  rw [band_none hu hs]
theorem tb_wto {q : Int → Prop} {i : Nat} (hi : i < 6) {u : Int} (hu : isS u) : wtoP q (2 ^ i) u ↔ q u ∧ ¬ tb u i := by
  unfold wtoP
  rw [pow_sub hi hu]
theorem dn_up {u : Int} (hu : isS u) {i : Nat} (hi : i < 6) (ht : tb u i) : isS (bnot u (2 ^ i)) ∧ ¬ tb (bnot u (2 ^ i)) i ∧ bor (bnot u (2 ^ i)) (2 ^ i) = u ∧ ∀ j, j < 6 → (tb (bnot u (2 ^ i)) j ↔ tb u j ∧ j ≠ i) := by
  have hpS := isS_pow hi
  have hb := isS_bnot hu hpS
  have h0 : ∀ j, j < 6 → (tb (bnot u (2 ^ i)) j ↔ tb u j ∧ j ≠ i) := fun j hj => by
    rw [tb_bnot_iff hu hpS hj, tb_pow hi hj]
    exact ⟨fun h => ⟨h.1, fun e => h.2 e.symm⟩, fun h => ⟨h.1, fun e => h.2 e.symm⟩⟩
  refine ⟨hb, fun h => ((h0 i hi).1 h).2 rfl, tb_ext (isS_bor hb hpS) hu fun j hj => ?_, h0⟩
  rw [bor_tb hb hi hj, h0 j hj]
  constructor
  · rintro (h | rfl)
    · exact h.1
    · exact ht
  · intro h
    by_cases e : j = i
    · exact .inr e
    · exact .inl ⟨h, e⟩
/-- The link of a pure family that sheds is pure. -/
theorem pure_lnk {q : Int → Prop} (hd : dcl q) {i : Nat} (hi : i < 6) {d : Int} (hp : pureF q d) : pureF (lnkP q (2 ^ i)) (d - 1) := fun t ht hm => by
  have hpS := isS_pow hi
  obtain ⟨⟨h1, h2⟩, h3⟩ := hm
  have hn := (band_tb ht hi).1 h1
  have := hp (bor t (2 ^ i)) (isS_bor ht hpS) ⟨h2, fun u hu hq hsub => by
    have htu : tb u i := (subS_tb (isS_bor ht hpS) hu).1 hsub i hi ((bor_tb ht hi hi).2 (.inr rfl))
    obtain ⟨a, b, c, e⟩ := dn_up hu hi htu
    have := h3 (bnot u (2 ^ i)) a ⟨(band_tb a hi).2 b, by rw [c]; exact hq⟩ ((subS_tb ht a).2 fun j hj h => (e j hj).2 ⟨(subS_tb (isS_bor ht hpS) hu).1 hsub j hj ((bor_tb ht hi hj).2 (.inl h)), fun e2 => hn (e2 ▸ h)⟩)
    rw [← c, this]⟩
  rw [sz_addP ht hi hn] at this
  omega
/-- What is left of a pure family that sheds is pure. -/
theorem pure_wto {q : Int → Prop} (hd : dcl q) {i : Nat} (hi : i < 6) (hs : shedQ q i) {d : Int} (hp : pureF q d) : pureF (wtoP q (2 ^ i)) d := fun t ht hm => by
  have hpS := isS_pow hi
  obtain ⟨h1, h3⟩ := id hm
  obtain ⟨hq, hn⟩ := (tb_wto hi ht).1 h1
  refine hp t ht ⟨hq, fun u hu hqu hsub => ?_⟩
  by_cases htu : tb u i
  · exfalso
    obtain ⟨a, b, c, e⟩ := dn_up hu hi htu
    have hbu : subS (bnot u (2 ^ i)) u := (subS_tb a hu).2 fun j hj h => ((e j hj).1 h).1
    have htb : subS t (bnot u (2 ^ i)) := (subS_tb ht a).2 fun j hj h => (e j hj).2 ⟨(subS_tb ht hu).1 hsub j hj h, fun e2 => hn (e2 ▸ h)⟩
    have e2 := h3 _ a ((tb_wto hi a).2 ⟨hd _ _ a hu hbu hqu, b⟩) htb
    refine hs.2 t ht ⟨⟨(band_tb ht hi).2 hn, by rw [← e2, c]; exact hqu⟩, fun w hw hlw hsw => ?_⟩ hm
    have hwn := (band_tb hw hi).1 hlw.1
    exact h3 w hw ((tb_wto hi hw).2 ⟨hd _ _ hw (isS_bor hw hpS) (up_sub hi hw) hlw.2, hwn⟩) hsw
  · exact h3 u hu ((tb_wto hi hu).2 ⟨hqu, htu⟩) hsub
/-- The links of a pure family that can be taken apart have holes at the top only. -/
theorem fin_exF {p : Int} {q : Int → Prop} (h : finI q) : dcl q → ∀ {d : Int}, pureF q d → ∀ s, isS s → q s → ∀ k : Int, k < d - sz s → exF p (lnkP q s) k := by
  induction h with
  | one q h1 =>
    intro hd d hp s hs hq k hk
    obtain ⟨M, hM, hmax, hsM⟩ := max_above (p := q) 7 hs hq (by have := sz_nn s; omega)
    have hdM := hp M hM hmax
    have hone : ∀ u, isS u → q u → subS u M := fun u hu hqu => by
      obtain ⟨M2, hM2, hmax2, hu2⟩ := max_above (p := q) 7 hu hqu (by have := sz_nn u; omega)
      have : M2 = M := Classical.byContradiction fun hne => by
        have h3 : [M2, M].length ≤ (setsOf (maxP q)).length := sub_len (by simpa using hne) fun x hx => by
          simp only [List.mem_cons, List.not_mem_nil, or_false] at hx
          rcases hx with rfl | rfl
          · exact mem_setsOf.2 ⟨hM2, hmax2⟩
          · exact mem_setsOf.2 ⟨hM, hmax⟩
        simp only [List.length_cons, List.length_nil] at h3
        omega
      rwa [this] at hu2
    by_cases hk0 : k < 0
    · exact exF_low p _ hk0
    have hne : s ≠ M := fun e => by rw [e, hdM] at hk; omega
    obtain ⟨i, hi, hMi, hsi⟩ : ∃ i, i < 6 ∧ tb M i ∧ ¬ tb s i := Classical.byContradiction fun hn => hne (tb_ext hs hM fun i hi => ⟨fun h => (subS_tb hs hM).1 hsM i hi h, fun h => Classical.byContradiction fun hh => hn ⟨i, hi, h, hh⟩⟩)
    refine exF_cone hi (dcl_lnk hd hs) (fun u hu hn hlu => ?_) k
    have hub := isS_bor hu (isS_pow hi)
    obtain ⟨l1, l2⟩ := (tb_lnk hs hu).1 hlu
    refine (tb_lnk hs hub).2 ⟨fun j hj hh => ?_, hd _ M (isS_bor hub hs) hM ((subS_tb (isS_bor hub hs) hM).2 fun j hj hh => ?_) hmax.1⟩
    · rcases (bor_tb hu hi hj).1 hh.1 with h | rfl
      · exact l1 j hj ⟨h, hh.2⟩
      · exact hsi hh.2
    · have hsub := (subS_tb (isS_bor hu hs) hM).1 (hone _ (isS_bor hu hs) l2) j hj
      rcases (tb_bor hub hs hj).1 hh with h | h
      · rcases (bor_tb hu hi hj).1 h with h | rfl
        · exact hsub ((tb_bor hu hs hj).2 (.inl h))
        · exact hMi
      · exact hsub ((tb_bor hu hs hj).2 (.inr h))
  | split q i hi hsh f1 f2 ih1 ih2 =>
    intro hd d hp s hs hq k hk
    have hpS := isS_pow hi
    have hdL := dcl_lnk hd hpS
    have hdD := dcl_wto hd hpS
    have hpL := pure_lnk hd hi hp
    have hpD := pure_wto hd hi hsh hp
    by_cases hsi : tb s i
    · -- the set holds the point
      obtain ⟨a, b, c, e⟩ := dn_up hs hi hsi
      have hz := sz_addP a hi b
      rw [c] at hz
      have := ih1 hdL hpL (bnot s (2 ^ i)) a ⟨(band_tb a hi).2 b, by rw [c]; exact hq⟩ k (by omega)
      refine exF_congr (fun u hu => ?_) this
      rw [tb_lnk a hu, tb_lnk hpS (isS_bor hu a), tb_lnk hs hu]
      have eb : bor (bor u (bnot s (2 ^ i))) (2 ^ i) = bor u s := tb_ext (isS_bor (isS_bor hu a) hpS) (isS_bor hu hs) fun j hj => by
        rw [tb_bor (isS_bor hu a) hpS hj, tb_bor hu a hj, tb_bor hu hs hj, e j hj, tb_pow hi hj]
        constructor
        · rintro ((h | h) | rfl)
          · exact .inl h
          · exact .inr h.1
          · exact .inr hsi
        · rintro (h | h)
          · exact .inl (.inl h)
          · by_cases e2 : i = j
            · exact .inr e2
            · exact .inl (.inr ⟨h, fun e3 => e2 e3.symm⟩)
      rw [eb]
      constructor
      · rintro ⟨h1, h2, h3⟩
        refine ⟨fun j hj hh => ?_, h3⟩
        by_cases e2 : j = i
        · subst e2
          exact h2 j hj ⟨(tb_bor hu a hj).2 (.inl hh.1), (tb_pow hi hj).2 rfl⟩
        · exact h1 j hj ⟨hh.1, (e j hj).2 ⟨hh.2, e2⟩⟩
      · rintro ⟨h1, h3⟩
        refine ⟨fun j hj hh => h1 j hj ⟨hh.1, ((e j hj).1 hh.2).1⟩, fun j hj hh => ?_, h3⟩
        have e2 := (tb_pow hi hj).1 hh.2
        subst e2
        rcases (tb_bor hu a hj).1 hh.1 with h | h
        · exact h1 i hj ⟨h, hsi⟩
        · exact b h
    · have hsD : wtoP q (2 ^ i) s := (tb_wto hi hs).2 ⟨hq, hsi⟩
      have hD := ih2 hdD hpD s hs hsD k hk
      by_cases hup : q (bor s (2 ^ i))
      · refine mv hi (dcl_lnk hd hs) (exF_congr (fun u hu => ?_) hD) ?_
        · rw [tb_lnk hs hu, tb_wto hi (isS_bor hu hs), tb_wto hi hu, tb_lnk hs hu, tb_bor hu hs hi]
          constructor
          · rintro ⟨h1, h2, h3⟩; exact ⟨⟨h1, h2⟩, fun h => h3 (.inl h)⟩
          · rintro ⟨⟨h1, h2⟩, h3⟩; exact ⟨h1, h2, fun h => h.elim h3 hsi⟩
        · have hsL : lnkP q (2 ^ i) s := ⟨(band_tb hs hi).2 hsi, hup⟩
          have hL := ih1 hdL hpL s hs hsL (k - 1) (by omega)
          refine exF_congr (fun u hu => ?_) hL
          have hub := isS_bor hu hpS
          rw [tb_lnk hs hu, tb_lnk hpS (isS_bor hu hs), tb_lnk hpS hu, tb_lnk hs hub]
          have eb : bor (bor u s) (2 ^ i) = bor (bor u (2 ^ i)) s := tb_ext (isS_bor (isS_bor hu hs) hpS) (isS_bor hub hs) fun j hj => by
            rw [tb_bor (isS_bor hu hs) hpS hj, tb_bor hu hs hj, tb_bor hub hs hj, tb_bor hu hpS hj]
            constructor
            · rintro ((h | h) | h)
              · exact .inl (.inl h)
              · exact .inr h
              · exact .inl (.inr h)
            · rintro ((h | h) | h)
              · exact .inl (.inl h)
              · exact .inr h
              · exact .inl (.inr h)
          rw [eb]
          constructor
          · rintro ⟨h1, h2, h3⟩
            refine ⟨fun j hj hh => h2 j hj ⟨(tb_bor hu hs hj).2 (.inl hh.1), hh.2⟩, fun j hj hh => ?_, h3⟩
            rcases (tb_bor hu hpS hj).1 hh.1 with h | h
            · exact h1 j hj ⟨h, hh.2⟩
            · have e2 := (tb_pow hi hj).1 h
              subst e2
              exact hsi hh.2
          · rintro ⟨h1, h2, h3⟩
            refine ⟨fun j hj hh => h2 j hj ⟨(tb_bor hu hpS hj).2 (.inl hh.1), hh.2⟩, fun j hj hh => ?_, h3⟩
            rcases (tb_bor hu hs hj).1 hh.1 with h | h
            · exact h1 j hj ⟨h, hh.2⟩
            · have e2 := (tb_pow hi hj).1 hh.2
              subst e2
              exact hsi h
      · refine exF_congr (fun u hu => ?_) hD
        rw [tb_lnk hs hu, tb_lnk hs hu, tb_wto hi (isS_bor hu hs)]
        constructor
        · rintro ⟨h1, h2, _⟩; exact ⟨h1, h2⟩
        · rintro ⟨h1, h2⟩
          refine ⟨h1, h2, fun h => hup ?_⟩
          have hb := isS_bor hu hs
          refine hd _ _ (isS_bor hs hpS) hb ((subS_tb (isS_bor hs hpS) hb).2 fun j hj hh => ?_) h2
          rcases (bor_tb hs hi hj).1 hh with h3 | rfl
          · exact (tb_bor hu hs hj).2 (.inr h3)
          · exact h
/-- A pure complex that can be taken apart is Cohen-Macaulay. -/
theorem fin_cm {n : Int} {l : List Int} {p : Int} (hp : fpP p) (h : decP n l) (hpure : pureB n l = true) (hne : l ≠ []) : cmP n l p := by
  obtain ⟨hc, hf⟩ := h
  have hS := cplx_isS hc
  have hd : dcl (faceS l) := dcl_face hS
  have hl0 : 0 < l.length := List.length_pos_iff.2 hne
  have hpa := (dec_iff.1 hpure).2
  have hpF : pureF (faceS l) (sz (at0 l 0)) := fun s hs hm => by
    have hmem : s ∈ l := by rw [← cplx_max hc]; exact mem_setsOf.2 ⟨hs, hm⟩
    obtain ⟨k, hk, rfl⟩ := getD_mem_iff.1 hmem
    exact hpa k hk
  have htop : topZ (faceS l) = sz (at0 l 0) := by
    rw [topZ_facets hc hne]
    exact hpa _ (by omega)
  have h0 : 0 ≤ topZ (faceS l) := by rw [htop]; exact sz_nn _
  refine ⟨hc, hp, h0, dpZ_of (.inr ⟨dpV_top h0, fun u hu => ?_⟩)⟩
  obtain ⟨s, hs, hq, k, hk, hne2, rfl⟩ := hu
  refine Classical.byContradiction fun hlt => hne2 ?_
  have he := fin_exF (p := p) hf hd hpF s hs hq k (by omega)
  have := (exF_hol hp (dcl_lnk hd hs) k).1 he
  unfold holL
  unfold holL at hk
  rw [rowF_len] at hk
  rw [rowF_at hk]
  exact this
end Go.Proofs.Ytmemomfffehnkaa
namespace Go.Proofs.Ytmemomfffehnkaa
open Go Go.RowKit
set_option maxRecDepth 1000000
set_option linter.unusedSimpArgs false
set_option linter.unusedVariables false
set_option maxHeartbeats 1000000
/-- Facets in ascending order, none within another. -/
structure sfP (F : List Int) : Prop where
  s : allS F
  l : F.length ≤ 8
  o : ∀ i j, i < j → j < F.length → at0 F i < at0 F j
  a : ∀ x ∈ F, ∀ y ∈ F, x ≠ y → bnot x y ≠ 0
def shOk (F head : List Int) : Prop := head.length ≤ F.length ∧ ∀ k, k < head.length → at0 head k ∈ F ∧ at0 head k ∉ head.take k ∧ fitsI (head.take k) (at0 head k)
/-- A shelling of the facets. -/
def shD (F list : List Int) : Prop := list.length = F.length ∧ shOk F list
theorem at0_appL2 {a b : List Int} {k : Nat} (h : k < a.length) : at0 (a ++ b) k = at0 a k := by rw [at0_app, if_pos h]
theorem at0_snoc2 (a : List Int) (x : Int) : at0 (a ++ [x]) a.length = x := by
  rw [at0_app, if_neg (by omega), Nat.sub_self]
  rfl
theorem take_appL {a b : List Int} {k : Nat} (h : k ≤ a.length) : (a ++ b).take k = a.take k := by
  rw [List.take_append_of_le_length h]
theorem shOk_snoc {F head : List Int} {s : Int} (h : shOk F head) (hlt : head.length < F.length) (h1 : s ∈ F) (h2 : s ∉ head) (h3 : fitsI head s) : shOk F (head ++ [s]) := by
  obtain ⟨_, h4⟩ := h
  refine ⟨by simp; omega, fun k hk => ?_⟩
  rw [List.length_append, List.length_singleton] at hk
  by_cases e : k = head.length
  · subst e
    rw [at0_snoc2, take_appL (Nat.le_refl _), List.take_length]
    exact ⟨h1, h2, h3⟩
  · rw [at0_appL2 (by omega), take_appL (by omega)]
    exact h4 k (by omega)
theorem sh_set {F head : List Int} {s : Int} (h : exD (shD F) (head ++ [s])) : head.length < F.length ∧ s ∈ F ∧ s ∉ head ∧ fitsI head s := by
  obtain ⟨t, h1, h2⟩ := h
  have h3 := h2.2 head.length (by simp)
  have e1 : at0 (head ++ [s] ++ t) head.length = s := by rw [at0_appL2 (by simp), at0_snoc2]
  have e2 : (head ++ [s] ++ t).take head.length = head := by rw [List.append_assoc, take_appL (Nat.le_refl _), List.take_length]
  rw [e1, e2] at h3
  rw [List.length_append, List.length_append, List.length_singleton] at h1
  exact ⟨by omega, h3⟩
theorem sh_full {F head : List Int} (h : head.length = F.length) (ho : shOk F head) : exD (shD F) head := ⟨[], by rw [List.append_nil]; exact ⟨h, ho⟩⟩
theorem sh_next {F head : List Int} (hF : allS F) (h : exD (shD F) head) (hlt : head.length < F.length) : ∃ u, isS u ∧ u ∈ F ∧ exD (shD F) (head ++ [u]) := by
  obtain ⟨t, ht⟩ := h
  cases t with
  | nil =>
    have := ht.1
    rw [List.append_nil] at this
    omega
  | cons u t =>
    have he : exD (shD F) (head ++ [u]) := ⟨t, by simpa using ht⟩
    have hu := (sh_set he).2.1
    exact ⟨u, hF u hu, hu, he⟩
theorem sh_none {F head : List Int} (hF : allS F) (hlt : head.length < F.length) (h : ∀ j, j < F.length → ¬ exD (shD F) (head ++ [at0 F j])) : ¬ exD (shD F) head := fun he => by
  obtain ⟨u, _, hu, h2⟩ := sh_next hF he hlt
  obtain ⟨j, hj, e⟩ := getD_mem_iff.1 hu
  rw [← e] at h2
  exact h j hj h2
open Classical in
noncomputable def shO (F head : List Int) : List Int := if exD (shD F) head then exL (shD F) (F.length - head.length) head else []
theorem shO_yes {F head : List Int} (h : exD (shD F) head) : shO F head = exL (shD F) (F.length - head.length) head := if_pos h
theorem shO_no {F head : List Int} (h : ¬ exD (shD F) head) : shO F head = [] := if_neg h
theorem shO_step {F head : List Int} {k : Nat} (hF : sfP F) (hk : k < F.length) (he : exD (shD F) (head ++ [at0 F k])) (hm : ∀ j, j < k → ¬ exD (shD F) (head ++ [at0 F j])) : exD (shD F) head ∧ shO F head = shO F (head ++ [at0 F k]) := by
  have h1 := exD_of _ he
  have h2 := (sh_set he).1
  refine ⟨h1, ?_⟩
  rw [shO_yes h1, shO_yes he, List.length_append, List.length_singleton]
  obtain ⟨d, hd⟩ : ∃ d, F.length - head.length = d + 1 := ⟨F.length - head.length - 1, by omega⟩
  rw [show F.length - (head.length + 1) = d by omega, hd]
  refine exL_step d (allS_at hF.s hk) he fun u hu hlt hx => ?_
  obtain ⟨j, hj, e⟩ := getD_mem_iff.1 (sh_set hx).2.1
  rw [← e] at hlt hx
  have : j < k := by
    rcases Nat.lt_trichotomy j k with h | h | h
    · exact h
    · subst h; omega
    · have := hF.o k j h hj
      omega
  exact hm j this hx
theorem shO_full {F head : List Int} (h : head.length = F.length) (he : exD (shD F) head) : shO F head = head := by
  rw [shO_yes he, h, Nat.sub_self]
  rfl
theorem shOk_allS {F head : List Int} (hF : allS F) (h : shOk F head) : allS head := fun x hx => by
  obtain ⟨k, hk, e⟩ := getD_mem_iff.1 hx
  rw [← e]
  exact hF _ (h.2 k hk).1
theorem sh_fits {F head : List Int} {s : Int} (hF : sfP F) (h : shOk F head) (hs : s ∈ F) (hn : s ∉ head) : fitsS head s ↔ fitsI head s :=
  fits_same (shOk_allS hF.s h) (hF.s s hs) fun g hg => hF.a s hs g (by
    obtain ⟨k, hk, e⟩ := getD_mem_iff.1 hg
    rw [← e]
    exact (h.2 k hk).1) fun e => hn (e ▸ hg)
theorem shn_lt {F head : List Int} {k : Nat} (h : ∀ j, j < k → ¬ exD (shD F) (head ++ [at0 F j])) (hn : ¬ exD (shD F) (head ++ [at0 F k])) : ∀ j, j < k + 1 → ¬ exD (shD F) (head ++ [at0 F j]) := fun j hj => by
  rcases Nat.lt_succ_iff_lt_or_eq.1 hj with h1 | rfl
  · exact h j h1
  · exact hn
end Go.Proofs.Ytmemomfffehnkaa
namespace Go.Proofs.Ytmemomfffehnkaa
open Go Go.RowKit
set_option maxRecDepth 1000000
set_option linter.unusedSimpArgs false
set_option linter.unusedVariables false
set_option maxHeartbeats 1000000
theorem partI_iff {l : List Int} (hl : allS l) {s : Int} (hs : isS s) {i : Nat} (hi : i < 6) : tb (partI l s) i ↔ ∃ g ∈ l, sizeOf1 (bnot s g) = 1 ∧ tb (bnot s g) i := by
  have h := partI_tb hl hs hi l.length (Nat.le_refl _)
  rw [List.take_length] at h
  rw [h]
  constructor
  · rintro ⟨j, hj, h1, h2⟩
    exact ⟨_, getD_mem' hj, h1, h2⟩
  · rintro ⟨g, hg, h1, h2⟩
    obtain ⟨j, hj, e⟩ := getD_mem_iff.1 hg
    exact ⟨j, hj, by rw [e]; exact h1, by rw [e]; exact h2⟩
theorem partI_set {l : List Int} (hl : allS l) {s : Int} (hs : isS s) : isS (partI l s) := by
  have := partI_isS hl hs l.length (Nat.le_refl _)
  rwa [List.take_length] at this
section
variable {F : List Int} {bl : List Bool} {c : V}
end
end Go.Proofs.Ytmemomfffehnkaa
namespace Go.Proofs.Ytmemomfffehnkaa
open Go Go.RowKit
set_option maxRecDepth 1000000
set_option linter.unusedSimpArgs false
set_option linter.unusedVariables false
set_option maxHeartbeats 1000000
def sc_s_l19Find_L0 : SC := (.seq (.seq (.reg [⟨(some 15), none, (.mov (.t 6))⟩, ⟨(some 16), none, (.mov (.t 0))⟩, ⟨(some 17), none, (.len (.t 16))⟩, ⟨(some 18), none, (.bin false .lss (.t 15) (.t 17))⟩]) (.cond (.t 18) .skip (.exit 0))) (.seq (.block 1 (.seq (.seq (.reg [⟨(some 21), none, (.mov (.t 1))⟩, ⟨(some 22), none, (.mov (.t 0))⟩, ⟨(some 23), none, (.mov (.t 6))⟩, ⟨(some 24), none, (.idx 1 (.t 22) (.t 23))⟩, ⟨(some 25), none, (.ld none (.int .i64 0) (.t 24))⟩, ⟨(some 26), none, (.call 134 [(.t 21), (.t 25)])⟩, ⟨(some 27), none, (.mov (.t 26))⟩, ⟨(some 28), (some (27, false)), (.mov (.t 1))⟩, ⟨(some 29), (some (27, false)), (.mov (.t 0))⟩, ⟨(some 30), (some (27, false)), (.mov (.t 6))⟩, ⟨(some 31), (some (27, false)), (.idx 1 (.t 29) (.t 30))⟩, ⟨(some 32), (some (27, false)), (.ld none (.int .i64 0) (.t 31))⟩, ⟨(some 33), (some (27, false)), (.call 153 [(.t 28), (.t 32)])⟩, ⟨(some 34), (some (27, false)), (.un .not (.t 33))⟩, ⟨(some 35), none, (.pick (.t 27) (.c (.bool true)) (.t 34))⟩]) (.cond (.t 35) (.exit 1) .skip)) (.seq (.treg (.fst ⟨(some 37), none, (.mov (.t 0))⟩ true (.fst ⟨(some 39), none, (.mov (.t 1))⟩ true (.fst ⟨(some 41), none, (.mov (.t 0))⟩ true (.fst ⟨(some 42), none, (.mov (.t 6))⟩ true (.fst ⟨(some 43), none, (.idx 1 (.t 41) (.t 42))⟩ true (.alt ⟨(some 38), none, (.mks 0 1 [] [])⟩ true (.alt ⟨(some 40), none, (.app 1 8 (.t 38) (.t 39))⟩ true (.fst ⟨(some 44), none, (.ld none (.int .i64 0) (.t 43))⟩ false (.alt ⟨(some 45), none, (.mks 1 1 [(.int .i64 0)] [(0, (1, (.t 44)))])⟩ true (.alt ⟨(some 46), none, (.app 1 8 (.t 40) (.t 45))⟩ true (.alt ⟨(some 47), none, (.call 147 [(.t 37), (.t 46)])⟩ true (.fst ⟨(some 36), none, (.mov (.t 47))⟩ false (.fst ⟨(some 48), none, (.ext 0 (.t 36))⟩ false (.fst ⟨(some 49), none, (.ext 1 (.t 36))⟩ false (.fst ⟨(some 7), none, (.mov (.t 48))⟩ false (.fst ⟨(some 8), none, (.mov (.t 49))⟩ false .done))))) .stop) .stop) .stop)) (.alt ⟨(some 44), none, (.ld none (.int .i64 0) (.t 43))⟩ false (.alt ⟨(some 40), none, (.app 1 8 (.t 38) (.t 39))⟩ true (.alt ⟨(some 45), none, (.mks 1 1 [(.int .i64 0)] [(0, (1, (.t 44)))])⟩ true (.alt ⟨(some 46), none, (.app 1 8 (.t 40) (.t 45))⟩ true (.alt ⟨(some 47), none, (.call 147 [(.t 37), (.t 46)])⟩ true (.fst ⟨(some 36), none, (.mov (.t 47))⟩ false (.fst ⟨(some 48), none, (.ext 0 (.t 36))⟩ false (.fst ⟨(some 49), none, (.ext 1 (.t 36))⟩ false (.fst ⟨(some 7), none, (.mov (.t 48))⟩ false (.fst ⟨(some 8), none, (.mov (.t 49))⟩ false .done))))) .stop) .stop) .stop) (.alt ⟨(some 45), none, (.mks 1 1 [(.int .i64 0)] [(0, (1, (.t 44)))])⟩ true (.alt ⟨(some 40), none, (.app 1 8 (.t 38) (.t 39))⟩ true (.alt ⟨(some 46), none, (.app 1 8 (.t 40) (.t 45))⟩ true (.alt ⟨(some 47), none, (.call 147 [(.t 37), (.t 46)])⟩ true (.fst ⟨(some 36), none, (.mov (.t 47))⟩ false (.fst ⟨(some 48), none, (.ext 0 (.t 36))⟩ false (.fst ⟨(some 49), none, (.ext 1 (.t 36))⟩ false (.fst ⟨(some 7), none, (.mov (.t 48))⟩ false (.fst ⟨(some 8), none, (.mov (.t 49))⟩ false .done))))) .stop) .stop) .stop) .stop)) .stop)) (.alt ⟨(some 44), none, (.ld none (.int .i64 0) (.t 43))⟩ false (.alt ⟨(some 38), none, (.mks 0 1 [] [])⟩ true (.alt ⟨(some 40), none, (.app 1 8 (.t 38) (.t 39))⟩ true (.alt ⟨(some 45), none, (.mks 1 1 [(.int .i64 0)] [(0, (1, (.t 44)))])⟩ true (.alt ⟨(some 46), none, (.app 1 8 (.t 40) (.t 45))⟩ true (.alt ⟨(some 47), none, (.call 147 [(.t 37), (.t 46)])⟩ true (.fst ⟨(some 36), none, (.mov (.t 47))⟩ false (.fst ⟨(some 48), none, (.ext 0 (.t 36))⟩ false (.fst ⟨(some 49), none, (.ext 1 (.t 36))⟩ false (.fst ⟨(some 7), none, (.mov (.t 48))⟩ false (.fst ⟨(some 8), none, (.mov (.t 49))⟩ false .done))))) .stop) .stop) .stop) (.alt ⟨(some 45), none, (.mks 1 1 [(.int .i64 0)] [(0, (1, (.t 44)))])⟩ true (.alt ⟨(some 40), none, (.app 1 8 (.t 38) (.t 39))⟩ true (.alt ⟨(some 46), none, (.app 1 8 (.t 40) (.t 45))⟩ true (.alt ⟨(some 47), none, (.call 147 [(.t 37), (.t 46)])⟩ true (.fst ⟨(some 36), none, (.mov (.t 47))⟩ false (.fst ⟨(some 48), none, (.ext 0 (.t 36))⟩ false (.fst ⟨(some 49), none, (.ext 1 (.t 36))⟩ false (.fst ⟨(some 7), none, (.mov (.t 48))⟩ false (.fst ⟨(some 8), none, (.mov (.t 49))⟩ false .done))))) .stop) .stop) .stop) .stop)) (.alt ⟨(some 45), none, (.mks 1 1 [(.int .i64 0)] [(0, (1, (.t 44)))])⟩ true (.alt ⟨(some 38), none, (.mks 0 1 [] [])⟩ true (.alt ⟨(some 40), none, (.app 1 8 (.t 38) (.t 39))⟩ true (.alt ⟨(some 46), none, (.app 1 8 (.t 40) (.t 45))⟩ true (.alt ⟨(some 47), none, (.call 147 [(.t 37), (.t 46)])⟩ true (.fst ⟨(some 36), none, (.mov (.t 47))⟩ false (.fst ⟨(some 48), none, (.ext 0 (.t 36))⟩ false (.fst ⟨(some 49), none, (.ext 1 (.t 36))⟩ false (.fst ⟨(some 7), none, (.mov (.t 48))⟩ false (.fst ⟨(some 8), none, (.mov (.t 49))⟩ false .done))))) .stop) .stop) .stop) .stop) .stop)) .stop)))))))) (.seq (.reg [⟨(some 50), none, (.mov (.t 8))⟩]) (.cond (.t 50) (.seq (.reg [⟨(some 51), none, (.mov (.t 7))⟩, ⟨(some 4), none, (.mov (.t 51))⟩, ⟨(some 5), none, (.mov (.c (.bool true)))⟩]) .ret) .skip))))) (.reg [⟨(some 19), none, (.mov (.t 6))⟩, ⟨(some 20), none, (.bin false .add (.t 19) (.c (.int .i64 1)))⟩, ⟨(some 6), none, (.mov (.t 20))⟩])))
def sc_s_l19Find : SC := (.seq (.reg [⟨(some 4), none, (.mov (.c .nil))⟩, ⟨(some 5), none, (.mov (.c (.bool false)))⟩]) (.seq (.seq (.reg [⟨(some 9), none, (.mov (.t 1))⟩, ⟨(some 10), none, (.len (.t 9))⟩, ⟨(some 11), none, (.mov (.t 0))⟩, ⟨(some 12), none, (.len (.t 11))⟩, ⟨(some 13), none, (.bin false .eql (.t 10) (.t 12))⟩]) (.cond (.t 13) (.seq (.reg [⟨(some 14), none, (.mov (.t 1))⟩, ⟨(some 4), none, (.mov (.t 14))⟩, ⟨(some 5), none, (.mov (.c (.bool true)))⟩]) .ret) .skip)) (.seq (.seq (.reg [⟨(some 6), none, (.mov (.c (.int .i64 0)))⟩]) (.block 0 (.loop sc_s_l19Find_L0))) (.seq (.reg [⟨(some 52), none, (.mks 0 1 [] [])⟩, ⟨(some 4), none, (.mov (.t 52))⟩, ⟨(some 5), none, (.mov (.c (.bool false)))⟩]) .ret))))
theorem code_s_l19Find : fnCode Try.prog [147] 147 = some (53, sc_s_l19Find, [(4, none), (5, none)]) := by kernel_rfl
open Classical in
noncomputable def shRes (F head : List Int) (m : Nat) : V := if m = F.length then .tup [.sl 0 1 0 m, .bool true] else .tup [.own 1 (ints (shO F head)), .bool (dec (exD (shD F) head))]
theorem shRes_full {F head : List Int} {m : Nat} (h : m = F.length) : shRes F head m = .tup [.sl 0 1 0 m, .bool true] := if_pos h
theorem shRes_part {F head : List Int} {m : Nat} (h : ¬ m = F.length) : shRes F head m = .tup [.own 1 (ints (shO F head)), .bool (dec (exD (shD F) head))] := if_neg h
noncomputable def G_s_l19Find (n : Nat) : List V → List V → Option (V × List V)
  | [a, .sl 0 1 0 m], cells => (dL a).bind fun F => (dInts cells).bind fun head =>
      @ite _ (sfP F ∧ head.length = m ∧ shOk F head ∧ F.length - m < n) (Classical.propDecidable _) (some (shRes F head m, ints head)) none
  | _, _ => none
theorem G_s_l19Find_at {n : Nat} {F head : List Int} {m : Nat} (hF : sfP F) (hm : head.length = m) (hh : shOk F head) (hn : F.length - m < n) :
    G_s_l19Find n [.list 1 (ints F), .sl 0 1 0 m] (ints head) = some (shRes F head m, ints head) := by
  simp only [G_s_l19Find, dL_list, dInts_ints, Option.bind_some]
  rw [if_pos ⟨hF, hm, hh, hn⟩]
theorem ln_s_l19Find (n : Nat) : LendOk Try.prog 147 1 (G_s_l19Find n) := by
  induction n with
  | zero =>
    refine ⟨callable_of code_s_l19Find, fun args cells r cells' hG => ?_⟩
    unfold G_s_l19Find at hG
    split at hG
    · obtain ⟨F, _, hG⟩ := Option.bind_eq_some_iff.1 hG
      obtain ⟨head, _, hG⟩ := Option.bind_eq_some_iff.1 hG
      simp only [Option.ite_none_right_eq_some] at hG
      exact absurd hG.1.2.2.2 (Nat.not_lt_zero _)
    · simp at hG
  | succ n ih =>
  have env := (((envNil_ok (P := Try.prog)).add fn_s_l2Has).add fn_s_l19Fits).addl ih
  refine fn_lend code_s_l19Find mixed env ?_
  intro args cells r cells' hG hb
  unfold G_s_l19Find at hG
  split at hG
  case h_2 => simp at hG
  rename_i a m
  obtain ⟨F, h1, hG1⟩ := Option.bind_eq_some_iff.1 hG
  obtain ⟨head, h3, hG2⟩ := Option.bind_eq_some_iff.1 hG1
  clear hG hG1
  have hc := dInts_inv h3
  cases dL_inv h1
  subst hc
  simp only [Option.ite_none_right_eq_some, Option.some.injEq, Prod.mk.injEq] at hG2
  obtain ⟨⟨hF, rfl, hh, hn⟩, rfl, rfl⟩ := hG2
  clear h1 h3 hb
  refine ⟨by simp, fun w0 U0 L0 N0 => ?_⟩
  have hhS := shOk_allS hF.s hh
  have hml : head.length ≤ F.length := hh.1
  have h8 := hF.l
  by_cases hf : head.length = F.length
  · rw [shRes_full hf]
    have htk : head.take F.length = head := List.take_of_length_le (by omega)
    simp -implicitDefEqProofs [sc_s_l19Find, hf, htk]
  have hlt : head.length < F.length := by omega
  rw [shRes_part hf]
  have hne : ¬ ((head.length : Int) = (F.length : Int)) := by omega
  have hOs := fun (k : Nat) h1 h2 h3 => shO_step (F := F) (head := head) (k := k) hF h1 h2 h3
  have hOn : ¬ exD (shD F) head → shO F head = [] := shO_no
  have hEn := fun h => sh_none (F := F) (head := head) hF.s hlt h
  generalize shO F head = O at *
  simp -implicitDefEqProofs [sc_s_l19Find, hne]
  refine loopI env mixed (fun k : Nat => [(0, .list 1 (ints F)), (1, .sl 0 1 0 head.length), (6, .int .i64 (k : Int))]) (fun _ => ([(0, ints head)], 1)) (fun k => k ≤ F.length ∧ ∀ j, j < k → ¬ exD (shD F) (head ++ [at0 F j])) (fun k => F.length - k) 0 ⟨by omega, fun u hu => by omega⟩ (SubI.slots (by simp) (by simp)) ?_
  rintro k ⟨hk, hI⟩
  by_cases hkF : k < F.length
  rotate_left
  · have hkF : k = F.length := by omega
    subst hkF
    have hno := hEn hI
    have e := hOn hno
    have hd := dec_false hno
    subst e
    simp -implicitDefEqProofs [sc_s_l19Find_L0, hd]
  have hsF : at0 F k ∈ F := getD_mem' hkF
  have hsS := hF.s _ hsF
  by_cases hmem : at0 F k ∈ head
  · have hno : ¬ exD (shD F) (head ++ [at0 F k]) := fun h => (sh_set h).2.2.1 hmem
    have hnx := shn_lt hI hno
    simp -implicitDefEqProofs [sc_s_l19Find_L0, F_s_l2Has, hkF, hmem]
    repeat' (first | omega | apply And.intro)
    exact Again.of (k + 1) ⟨by omega, hnx⟩ (by omega) (SubI.slots (by simp) (by simp (disch := omega) [wrapI]))
  have hF1 : F_s_l19Fits [.list 1 (ints head), .int .i64 (at0 F k)] = some (.bool (dec (fitsS head (at0 F k)))) := by
    simp only [F_s_l19Fits, F2_mk, dL_list, dI_int, Option.bind_some]
    rw [if_pos ⟨hhS, hsS⟩]
  have hfi := sh_fits hF hh hsF hmem
  by_cases hfit : fitsS head (at0 F k)
  rotate_left
  · have hno : ¬ exD (shD F) (head ++ [at0 F k]) := fun h => hfit (hfi.2 (sh_set h).2.2.2)
    have hnx := shn_lt hI hno
    rw [dec_false hfit] at hF1
    simp -implicitDefEqProofs [sc_s_l19Find_L0, F_s_l2Has, hF1, hkF, hmem]
    repeat' (first | omega | apply And.intro)
    exact Again.of (k + 1) ⟨by omega, hnx⟩ (by omega) (SubI.slots (by simp) (by simp (disch := omega) [wrapI]))
  rw [dec_true hfit] at hF1
  have hh2 : shOk F (head ++ [at0 F k]) := shOk_snoc hh hlt hsF hmem (hfi.1 hfit)
  have hsn : ints head ++ [V.int .i64 (at0 F k)] = ints (head ++ [at0 F k]) := by rw [← ints_app]; rfl
  have hnl : (head ++ [at0 F k]).length = head.length + 1 := by simp
  have hgl : (head ++ [at0 F k]).take (head.length + 1) = head ++ [at0 F k] := List.take_of_length_le (by simp)
  have hG := G_s_l19Find_at (n := n) hF hnl hh2 (by omega)
  have hnx := shn_lt (k := k) hI
  have hst := fun he => hOs k hkF he hI
  have back : ∀ (T : Tm) (H : List (Nat × List V)) (q : Nat), ¬ exD (shD F) (head ++ [at0 F k]) → subE T [(0, .list 1 (ints F)), (1, .sl 0 1 0 head.length), (6, .int .i64 ((k + 1 : Nat) : Int))] → subH (fun qq => if qq = 0 then some 0 else none) H [(0, ints head)] →
      Again 1 (fun k : Nat => [(0, .list 1 (ints F)), (1, .sl 0 1 0 head.length), (6, .int .i64 (k : Int))]) (fun _ => ([(0, ints head)], 1)) (fun k => k ≤ F.length ∧ ∀ j, j < k → ¬ exD (shD F) (head ++ [at0 F j])) (fun k => F.length - k) k T (H, q) := fun T H q hno hT hH => by
    refine Again.of (k + 1) ⟨by omega, hnx hno⟩ (by omega) (SubI.ren (fun qq => if qq = 0 then some 0 else none) ?_ hH ?_ (by simp) (by simp))
    · simp only [subE_cons, subE_nil, and_true] at hT
      obtain ⟨t1, t2, t3⟩ := hT
      simp [subT, renV, ren1, ← t1, ← t2, ← t3]
    · intro qq hm
      simp only at hm
      rw [if_neg (by omega)]
  clear hI hOs hOn hEn hnx
  have hnlx : ∀ a b c d, nolist 5 (.sl a b c d) = true := fun _ _ _ _ => rfl
  have hrn : ∀ (x : List Int) a, List.map (ren0 a 4) (ints x) = ints x := fun x a => by simp [ints, ren0]
  by_cases hf2 : head.length + 1 = F.length
  · rw [shRes_full hf2] at hG
    have he := sh_full (F := F) (head := head ++ [at0 F k]) (by omega) hh2
    obtain ⟨e1, e2⟩ := hst he
    rw [shO_full (by omega) he] at e2
    have e4 := dec_true e1
    generalize head ++ [at0 F k] = nx at *
    subst e2
    simp -implicitDefEqProofs [sc_s_l19Find_L0, F_s_l2Has, freeOk, ren0, hF1, hkF, hmem, hsn, hG, e4, hnl, hgl, hnlx, hrn]
    repeat' (first | omega | apply And.intro)
  · rw [shRes_part hf2] at hG
    by_cases he : exD (shD F) (head ++ [at0 F k])
    · rw [dec_true he] at hG
      obtain ⟨e1, e2⟩ := hst he
      have e4 := dec_true e1
      generalize head ++ [at0 F k] = nx at *
      rw [← e2] at hG
      simp -implicitDefEqProofs [sc_s_l19Find_L0, F_s_l2Has, freeOk, ren0, hF1, hkF, hmem, hsn, hG, e4, hnl, hgl, hnlx, hrn]
      repeat' (first | omega | apply And.intro)
    · rw [dec_false he] at hG
      generalize head ++ [at0 F k] = nx at *
      generalize shO F nx = Z at *
      simp -implicitDefEqProofs [sc_s_l19Find_L0, F_s_l2Has, freeOk, ren0, hF1, hkF, hmem, hsn, hG, hnl, hgl, hnlx, hrn]
      repeat' (first | omega | apply And.intro)
      all_goals exact back _ _ _ he (by simp (disch := omega) [wrapI]) (by simp [subH, renL, ren1])
end Go.Proofs.Ytmemomfffehnkaa
namespace Go.Proofs.Ytmemomfffehnkaa
open Go Go.RowKit
set_option maxRecDepth 1000000
set_option linter.unusedSimpArgs false
set_option linter.unusedVariables false
set_option maxHeartbeats 1000000
/-- All sets, as numbers. -/
def n64 : List Int := (List.range 64).map Int.ofNat
@[simp] theorem n64_len : n64.length = 64 := by simp [n64]
theorem n64_at {k : Nat} (h : k < 64) : at0 n64 k = k := by
  unfold n64 at0
  rw [List.getElem?_map, List.getElem?_range h]
  rfl
theorem n64_mem {s : Int} : s ∈ n64 ↔ isS s := by
  unfold n64 isS
  rw [List.mem_map]
  constructor
  · rintro ⟨k, hk, rfl⟩
    have := List.mem_range.1 hk
    exact ⟨Int.natCast_nonneg k, by show (k : Int) < 64; omega⟩
  · intro h
    exact ⟨s.toNat, List.mem_range.2 (by omega), Int.toNat_of_nonneg h.1⟩
theorem n64_lt : n64.Pairwise (· < ·) := by
  unfold n64
  rw [List.pairwise_map]
  exact List.pairwise_lt_range.imp fun h => Int.ofNat_lt.2 h
/-- The facets by their numbers. -/
noncomputable def srt (l : List Int) : List Int := n64.filter fun s => dec (s ∈ l)
theorem srt_mem {l : List Int} (hl : allS l) {s : Int} : s ∈ srt l ↔ s ∈ l := by
  unfold srt
  rw [List.mem_filter, n64_mem, dec_iff]
  exact ⟨fun h => h.2, fun h => ⟨hl s h, h⟩⟩
theorem srt_lt (l : List Int) : (srt l).Pairwise (· < ·) := n64_lt.filter _
theorem len_sub {a : List Int} : ∀ {b : List Int}, a.Nodup → (∀ x ∈ a, x ∈ b) → a.length ≤ b.length := by
  induction a with
  | nil => intro b _ _; exact Nat.zero_le _
  | cons x a ih =>
    intro b hn hs
    obtain ⟨h1, h2⟩ := List.nodup_cons.1 hn
    have hx := hs x (by simp)
    have h3 := ih (b := b.erase x) h2 fun y hy => (List.mem_erase_of_ne (fun e : y = x => h1 (by rw [← e]; exact hy))).2 (hs y (by simp [hy]))
    rw [List.length_erase_of_mem hx] at h3
    have := List.length_pos_of_mem hx
    simp only [List.length_cons]
    omega
theorem srt_nodup (l : List Int) : (srt l).Nodup := (srt_lt l).imp fun h e => by omega
theorem srt_len {l : List Int} (hl : allS l) : (srt l).length ≤ l.length := len_sub (srt_nodup l) fun x hx => (srt_mem hl).1 hx
theorem srt_sf {n : Int} {l : List Int} (hc : cplx n l) (h8 : l.length ≤ 8) : sfP (srt l) := by
  have hS := cplx_isS hc
  refine ⟨fun x hx => hS x ((srt_mem hS).1 hx), by have := srt_len hS; omega, fun i j hij hj => ?_, fun x hx y hy hn => cplx_apart hc ((srt_mem hS).1 hx) ((srt_mem hS).1 hy) hn⟩
  have := List.pairwise_iff_getElem.1 (srt_lt l) i j (by omega) hj hij
  rwa [at0_eq (by omega), at0_eq hj]
/-- Shellable, with few facets. -/
def fshP (n : Int) (l : List Int) : Prop := cplx n l ∧ l.length ≤ 8 ∧ exD (shD (srt l)) []
open Classical in
noncomputable def fshL (n : Int) (l : List Int) : List Int := if fshP n l then shO (srt l) [] else []
theorem fshL_yes {n : Int} {l : List Int} (h : fshP n l) : fshL n l = shO (srt l) [] := if_pos h
theorem fshL_no {n : Int} {l : List Int} (h : ¬ fshP n l) : fshL n l = [] := if_neg h
noncomputable def F_s_FindShelling : List V → Option V := F1 dC fun c => some (.tup [.own 1 (ints (fshL c.1 c.2)), .bool (dec (fshP c.1 c.2))])
def sc_s_FindShelling_L0 : SC := (.seq (.seq (.reg [⟨(some 19), none, (.mov (.t 5))⟩, ⟨(some 20), none, (.bin false .lss (.t 19) (.c (.int .i64 64)))⟩]) (.cond (.t 20) .skip (.exit 0))) (.seq (.block 1 (.seq (.reg [⟨(some 23), none, (.fad 1 (.t 1))⟩, ⟨(some 24), none, (.ld none .nil (.t 23))⟩, ⟨(some 25), none, (.mov (.t 5))⟩, ⟨(some 26), none, (.call 134 [(.t 24), (.t 25)])⟩]) (.cond (.t 26) (.reg [⟨(some 27), none, (.mov (.t 4))⟩, ⟨(some 28), none, (.mov (.t 5))⟩, ⟨(some 29), none, (.mks 1 1 [(.int .i64 0)] [(0, (1, (.t 28)))])⟩, ⟨(some 30), none, (.app 1 8 (.t 27) (.t 29))⟩, ⟨(some 4), none, (.mov (.t 30))⟩]) .skip))) (.reg [⟨(some 21), none, (.mov (.t 5))⟩, ⟨(some 22), none, (.bin false .add (.t 21) (.c (.int .i64 1)))⟩, ⟨(some 5), none, (.mov (.t 22))⟩])))
def sc_s_FindShelling : SC := (.seq (.reg [⟨(some 1), none, (.box (.t 0))⟩, ⟨(some 2), none, (.mov (.c .nil))⟩, ⟨(some 3), none, (.mov (.c (.bool false)))⟩]) (.seq (.seq (.reg [⟨(some 8), none, (.ld (some 2) .undef (.t 1))⟩, ⟨(some 9), none, (.call 24 [(.t 8)])⟩, ⟨(some 10), none, (.un .not (.t 9))⟩, ⟨(some 11), none, (.mov (.t 10))⟩, ⟨(some 12), (some (11, false)), (.fad 1 (.t 1))⟩, ⟨(some 13), (some (11, false)), (.ld none .nil (.t 12))⟩, ⟨(some 14), (some (11, false)), (.len (.t 13))⟩, ⟨(some 15), (some (11, false)), (.bin false .gtr (.t 14) (.c (.int .i64 8)))⟩, ⟨(some 16), none, (.pick (.t 11) (.c (.bool true)) (.t 15))⟩]) (.cond (.t 16) (.seq (.reg [⟨(some 17), none, (.mks 0 1 [] [])⟩, ⟨(some 2), none, (.mov (.t 17))⟩, ⟨(some 3), none, (.mov (.c (.bool false)))⟩]) .ret) .skip)) (.seq (.reg [⟨(some 18), none, (.mks 0 1 [] [])⟩, ⟨(some 4), none, (.mov (.t 18))⟩]) (.seq (.seq (.reg [⟨(some 5), none, (.mov (.c (.int .i64 0)))⟩]) (.block 0 (.loop sc_s_FindShelling_L0))) (.seq (.reg [⟨(some 32), none, (.mov (.t 4))⟩, ⟨(some 33), none, (.mks 0 1 [] [])⟩, ⟨(some 34), none, (.call 147 [(.t 32), (.t 33)])⟩, ⟨(some 31), none, (.mov (.t 34))⟩, ⟨(some 35), none, (.ext 0 (.t 31))⟩, ⟨(some 36), none, (.ext 1 (.t 31))⟩, ⟨(some 6), none, (.mov (.t 35))⟩, ⟨(some 7), none, (.mov (.t 36))⟩]) (.seq (.reg [⟨(some 37), none, (.mov (.t 6))⟩, ⟨(some 38), none, (.mov (.t 7))⟩, ⟨(some 2), none, (.mov (.t 37))⟩, ⟨(some 3), none, (.mov (.t 38))⟩]) .ret))))))
theorem code_s_FindShelling : fnCode Try.prog [147] 31 = some (39, sc_s_FindShelling, [(2, none), (3, none)]) := by kernel_rfl
theorem fn_s_FindShelling : FnOk Try.prog 31 F_s_FindShelling := by
  have env := ((envNil_ok (P := Try.prog)).add fn_s_IsComplex).add fn_s_l2Has |>.addl (ln_s_l19Find 9)
  refine fn_ok code_s_FindShelling mixed env ?_
  intro args r h hb
  obtain ⟨_, ⟨n, l⟩, rfl, h1, h4⟩ := F1_inv h
  cases dC_inv h1
  cases h4
  clear h
  refine ⟨by simp, fun w0 U0 L0 N0 => ?_⟩
  clear hb
  simp only
  cases e0 : cplxB n l with
  | false =>
    have hP : ¬ fshP n l := fun h => by simp [cplxB_iff.2 h.1] at e0
    rw [fshL_no hP, dec_false hP]
    simp -implicitDefEqProofs [sc_s_FindShelling, F_s_IsComplex, e0]
  | true =>
  have hc := cplxB_iff.1 e0
  by_cases h6 : 8 < (l.length : Int)
  · have hP : ¬ fshP n l := fun h => by have := h.2.1; omega
    rw [fshL_no hP, dec_false hP]
    simp -implicitDefEqProofs [sc_s_FindShelling, F_s_IsComplex, e0, h6]
  have hl8 : l.length ≤ 8 := by omega
  have hF := srt_sf hc hl8
  have hF8 := hF.l
  have hh : shOk (srt l) [] := ⟨Nat.zero_le _, fun k hk => absurd hk (Nat.not_lt_zero _)⟩
  have hG : G_s_l19Find 9 [.list 1 (ints (srt l)), .sl 0 1 0 0] [] = some (shRes (srt l) [] 0, []) := G_s_l19Find_at (n := 9) (m := 0) hF rfl hh (by omega)
  have hPi : fshP n l ↔ exD (shD (srt l)) [] := ⟨fun h => h.2.2, fun h => ⟨hc, hl8, h⟩⟩
  have hst : srt l = n64.filter (fun s => dec (s ∈ l)) := rfl
  have hnlx : ∀ a b c d, nolist 5 (.sl a b c d) = true := fun _ _ _ _ => rfl
  have hrn : ∀ (x : List Int) a, List.map (ren0 a 4) (ints x) = ints x := fun x a => by simp [ints, ren0]
  simp -implicitDefEqProofs [sc_s_FindShelling, F_s_IsComplex, e0, h6]
  refine loopI env mixed (fun k : Nat => [(1, .pt 0 0), (4, .sl 1 1 0 ((n64.take k).filter fun s => dec (s ∈ l)).length), (5, .int .i64 (k : Int))]) (fun k => ([(1, ints ((n64.take k).filter fun s => dec (s ∈ l))), (0, [.int .i64 n, .list 1 (ints l)])], 2)) (fun k => k ≤ 64) (fun k => 64 - k) 0 (by simp) (SubI.slots (by simp) (by simp)) ?_
  intro k hk
  have gl := filt_len n64 k fun s => dec (s ∈ l)
  rw [n64_len] at gl
  by_cases hlt : k < 64
  · have hlt' : (k : Int) < 64 := by omega
    have hk64 : k < n64.length := by rw [n64_len]; exact hlt
    have hat := n64_at hlt
    by_cases hm : (k : Int) ∈ l
    · have e := filt_pos hk64 (q := fun s => dec (s ∈ l)) (dec_true (by rw [hat]; exact hm))
      rw [hat] at e
      generalize (n64.take k).filter (fun s => dec (s ∈ l)) = g at *
      simp -implicitDefEqProofs [sc_s_FindShelling_L0, F_s_l2Has, hlt', hm]
      repeat' (first | omega | apply And.intro)
      refine Again.of (k + 1) (by omega) (by omega) (SubI.ren (fun m => if m = 0 then some 0 else if m = 1 then some 3 else none) ?_ ?_ ?_ (by simp) (by simp))
      · simp only [e]
        simp (disch := omega) [subT, renV, ren1, wrapI]
      · simp only [e]
        simp [subH, renL, ren1]
        rw [← ints_app]
        rfl
      · intro m hm
        simp only at hm
        rw [if_neg (by omega), if_neg (by omega)]
    · have e := filt_neg hk64 (q := fun s => dec (s ∈ l)) (dec_false (by rw [hat]; exact hm))
      generalize (n64.take k).filter (fun s => dec (s ∈ l)) = g at *
      simp -implicitDefEqProofs [sc_s_FindShelling_L0, F_s_l2Has, hlt', hm]
      repeat' (first | omega | apply And.intro)
      exact Again.of (k + 1) (by omega) (by omega) (SubI.slots (by simp only [e]) (by simp only [e]; simp (disch := omega) [wrapI]))
  · have : k = 64 := by omega
    subst this
    have htk : n64.take 64 = n64 := List.take_of_length_le (by simp)
    rw [htk] at *
    rw [← hst] at *
    clear hst htk
    by_cases h0 : 0 = (srt l).length
    · rw [shRes_full h0] at hG
      have he := sh_full (F := srt l) (head := []) h0 hh
      have hP := hPi.2 he
      rw [fshL_yes hP, dec_true hP, shO_full (F := srt l) (head := []) h0 he]
      have hnil : srt l = [] := List.length_eq_zero_iff.1 h0.symm
      rw [hnil] at hG
      rw [hnil]
      simp only [ints_nil] at hG
      have hr0 : shRes [] [] 0 = .tup [.sl 0 1 0 0, .bool true] := shRes_full rfl
      simp -implicitDefEqProofs [sc_s_FindShelling_L0, ren0, hG, hnlx, hrn]
    · rw [shRes_part h0] at hG
      by_cases he : exD (shD (srt l)) []
      · have hP := hPi.2 he
        rw [dec_true he] at hG
        rw [fshL_yes hP, dec_true hP]
        generalize shO (srt l) [] = O at *
        generalize srt l = F at *
        simp -implicitDefEqProofs [sc_s_FindShelling_L0, ren0, hG, hnlx, hrn]
      · have hP : ¬ fshP n l := fun h => he (hPi.1 h)
        rw [dec_false he] at hG
        rw [fshL_no hP, dec_false hP]
        have hO := shO_no he
        rw [hO] at hG
        generalize srt l = F at *
        simp -implicitDefEqProofs [sc_s_FindShelling_L0, ren0, hG, hnlx, hrn]
end Go.Proofs.Ytmemomfffehnkaa
namespace Go.Proofs.Ytmemomfffehnkaa
open Go Go.RowKit
set_option maxRecDepth 1000000
set_option linter.unusedSimpArgs false
set_option linter.unusedVariables false
set_option maxHeartbeats 1000000
/-- The head of a division as far as single sets tell. -/
def hdD (l head : List Int) : Prop := head.length ≤ l.length ∧ ∀ k, k < head.length → isS (at0 head k) ∧ subS (at0 head k) (at0 l k)
end Go.Proofs.Ytmemomfffehnkaa
namespace Go.Proofs.Ytmemomfffehnkaa
open Go Go.RowKit
set_option maxRecDepth 1000000
set_option linter.unusedSimpArgs false
set_option linter.unusedVariables false
set_option maxHeartbeats 1000000
theorem one_bit {b : Int} (hb : isS b) (h1 : sizeOf1 b = 1) {i k : Nat} (hi : i < 6) (hk : k < 6) (h2 : tb b i) (h3 : tb b k) : k = i := by
  obtain ⟨x, hx, rfl⟩ := isS_nat0 hb
  have key : ∀ x : Nat, x < 64 → ∀ i : Nat, i < 6 → ∀ k : Nat, k < 6 → (!(pcF 6 x == 1 && x.testBit i && x.testBit k) || k == i) = true := by decide +kernel
  have hk2 := key x hx i hi k hk
  rw [sizeOf1_set (by omega) (by omega), sz, Int.toNat_natCast, pc6 x hx] at h1
  have h1' : pcF 6 x = 1 := by omega
  rw [tb_nat x i hx hi] at h2
  rw [tb_nat x k hx hk] at h3
  simpa [h1', h2, h3] using hk2
end Go.Proofs.Ytmemomfffehnkaa
