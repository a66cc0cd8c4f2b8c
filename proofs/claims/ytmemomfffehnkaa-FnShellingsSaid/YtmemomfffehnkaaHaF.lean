import Derived.Test.YtmemomfffehnkaaSzA
import Derived.Test.YtmemomfffehnkaaGcI
import Derived.Test.YtmemomfffehnkaaGbE
import Derived.Test.YtmemomfffehnkaaGcB
namespace Go.Proofs.Ytmemomfffehnkaa
open Go Go.RowKit
set_option maxRecDepth 1000000
set_option linter.unusedSimpArgs false
set_option linter.unusedVariables false
set_option maxHeartbeats 1000000
def sc_s_FaceCounts_L2 : SC := (.seq (.seq (.reg [⟨(some 15), none, (.mov (.t 3))⟩, ⟨(some 16), none, (.len (.t 15))⟩, ⟨(some 17), none, (.mov (.t 4))⟩, ⟨(some 18), none, (.mov (.t 5))⟩, ⟨(some 19), none, (.idx 1 (.t 17) (.t 18))⟩, ⟨(some 20), none, (.ld none (.int .i64 0) (.t 19))⟩, ⟨(some 21), none, (.call 156 [(.t 20)])⟩, ⟨(some 22), none, (.bin false .leq (.t 16) (.t 21))⟩]) (.cond (.t 22) .skip (.exit 2))) (.block 3 (.reg [⟨(some 23), none, (.mov (.t 3))⟩, ⟨(some 24), none, (.mks 1 1 [(.int .i64 0)] [(0, (1, (.c (.int .i64 0))))])⟩, ⟨(some 25), none, (.app 1 8 (.t 23) (.t 24))⟩, ⟨(some 3), none, (.mov (.t 25))⟩])))
def sc_s_FaceCounts_L0 : SC := (.seq (.seq (.reg [⟨(some 9), none, (.mov (.t 5))⟩, ⟨(some 10), none, (.mov (.t 4))⟩, ⟨(some 11), none, (.len (.t 10))⟩, ⟨(some 12), none, (.bin false .lss (.t 9) (.t 11))⟩]) (.cond (.t 12) .skip (.exit 0))) (.seq (.block 1 (.seq (.block 2 (.loop sc_s_FaceCounts_L2)) (.dreg [⟨⟨(some 26), none, (.mov (.t 3))⟩, false, false⟩, ⟨⟨(some 27), none, (.mov (.t 4))⟩, false, false⟩, ⟨⟨(some 28), none, (.mov (.t 5))⟩, false, false⟩, ⟨⟨(some 29), none, (.idx 1 (.t 27) (.t 28))⟩, false, false⟩, ⟨⟨(some 30), none, (.ld none (.int .i64 0) (.t 29))⟩, false, false⟩, ⟨⟨(some 31), none, (.call 156 [(.t 30)])⟩, false, false⟩, ⟨⟨(some 32), none, (.mov (.t 3))⟩, false, false⟩, ⟨⟨(some 33), none, (.mov (.t 4))⟩, false, false⟩, ⟨⟨(some 34), none, (.mov (.t 5))⟩, false, false⟩, ⟨⟨(some 35), none, (.idx 1 (.t 33) (.t 34))⟩, false, false⟩, ⟨⟨(some 36), none, (.ld none (.int .i64 0) (.t 35))⟩, false, false⟩, ⟨⟨(some 37), none, (.call 156 [(.t 36)])⟩, false, false⟩, ⟨⟨(some 38), none, (.idx 1 (.t 32) (.t 37))⟩, false, false⟩, ⟨⟨(some 39), none, (.ld none (.int .i64 0) (.t 38))⟩, false, false⟩, ⟨⟨(some 40), none, (.bin false .add (.t 39) (.c (.int .i64 1)))⟩, false, false⟩, ⟨⟨(some 41), none, (.idx 1 (.t 26) (.t 31))⟩, false, false⟩, ⟨⟨none, none, (.st 1 (.t 41) (.t 40))⟩, true, false⟩]))) (.reg [⟨(some 13), none, (.mov (.t 5))⟩, ⟨(some 14), none, (.bin false .add (.t 13) (.c (.int .i64 1)))⟩, ⟨(some 5), none, (.mov (.t 14))⟩])))
def sc_s_FaceCounts : SC := (.seq (.reg [⟨(some 1), none, (.box (.t 0))⟩, ⟨(some 2), none, (.mov (.c .nil))⟩]) (.seq (.reg [⟨(some 6), none, (.mks 0 1 [] [])⟩, ⟨(some 3), none, (.mov (.t 6))⟩]) (.seq (.reg [⟨(some 7), none, (.ld (some 2) .undef (.t 1))⟩, ⟨(some 8), none, (.call 43 [(.t 7)])⟩, ⟨(some 4), none, (.mov (.t 8))⟩]) (.seq (.seq (.reg [⟨(some 5), none, (.mov (.c (.int .i64 0)))⟩]) (.block 0 (.loop sc_s_FaceCounts_L0))) (.seq (.reg [⟨(some 42), none, (.mov (.t 3))⟩, ⟨(some 2), none, (.mov (.t 42))⟩]) .ret)))))
theorem code_s_FaceCounts : fnCode Try.prog [] 141 = some (43, sc_s_FaceCounts, [(2, none)]) := by kernel_rfl
open Classical in
/-- How many faces of each size. -/
noncomputable def fctL (n : Int) (l : List Int) : List Int := if cplx n l then rowF (topZ (faceS l) + 1).toNat (fun z => ((szS (faceS l) z).length : Nat)) else []
noncomputable def F_s_FaceCounts : List V → Option V := F1 dC fun c => some (.own 1 (ints (fctL c.1 c.2)))
theorem at0_takeq {l : List Int} {k q : Nat} (h : q < k) : at0 (l.take k) q = at0 l q := by simp [at0, List.getElem?_take, h]
theorem szRow_grow {m : Nat} {l : List Int} (h : ∀ s ∈ l, sz s < m) : szRow (m + 1) l = szRow m l ++ [0] := by
  unfold szRow
  rw [List.range_succ, List.map_append]
  congr 1
  simp only [List.map_cons, List.map_nil]
  congr 1
  unfold cntZ
  have : l.filter (fun s => dec (sz s = (m : Int))) = [] := List.filter_eq_nil_iff.2 fun s hs => by
    have := h s hs
    rw [dec_false (by omega)]
    simp
  rw [this]
  rfl
theorem fn_s_FaceCounts : FnOk Try.prog 141 F_s_FaceCounts := by
  have env := ((envNil_ok (P := Try.prog)).add fn_s_FacesOf).add fn_s_l2Size
  refine fn_ok code_s_FaceCounts mixed env ?_
  intro args r h hb
  obtain ⟨_, ⟨n, l⟩, rfl, h1, h4⟩ := F1_inv h
  cases dC_inv h1
  cases h4
  clear h
  refine ⟨by simp, fun w0 U0 L0 N0 => ?_⟩
  clear hb
  simp only
  have hL : allS (facesL n l) := allS_setsOf _
  have hLl : (facesL n l).length ≤ 64 := setsOf_len _
  have hso : (facesL n l).Pairwise fun a b => before a b = true := setsOf_sorted _
  have hres : ∀ m : Nat, (facesL n l = [] → m = 0) → (facesL n l ≠ [] → sz (at0 (facesL n l) ((facesL n l).length - 1)) + 1 = m) → (∀ q, q < (facesL n l).length → sz (at0 (facesL n l) q) < m) → fctL n l = szRow m (facesL n l) := by
    intro m h1 h2 h3
    unfold fctL
    by_cases hc : cplx n l
    · rw [if_pos hc]
      have hm : (topZ (faceS l) + 1).toNat = m := by
        have hf := facesL_of hc
        have htb := topZ_bnd (faceS l)
        by_cases he : facesL n l = []
        · rw [h1 he]
          rcases topZ_hit (faceS l) with e | ⟨s, hs, hp, _⟩
          · omega
          · have : s ∈ facesL n l := by rw [hf]; exact mem_setsOf.2 ⟨hs, hp⟩
            rw [he] at this
            simp at this
        · have hpos := List.length_pos_iff.2 he
          have hlast := getD_mem' (l := facesL n l) (j := (facesL n l).length - 1) (by omega)
          have hlast2 := hlast
          rw [hf] at hlast2
          obtain ⟨e1, e2⟩ := mem_setsOf.1 hlast2
          have h4 := topZ_ge e1 e2
          have h5 := h2 he
          rw [← hf] at h4
          rcases topZ_hit (faceS l) with e | ⟨s, hs, hp, e⟩
          · have := sz_nn (at0 (facesL n l) ((facesL n l).length - 1))
            omega
          · have hms : s ∈ facesL n l := by rw [hf]; exact mem_setsOf.2 ⟨hs, hp⟩
            obtain ⟨q, hq, rfl⟩ := getD_mem_iff.1 hms
            have := h3 q hq
            omega
      rw [hm]
      unfold rowF szRow
      refine List.map_congr_left fun z _ => ?_
      unfold cntZ
      rw [facesL_of hc, filt_setsOf]
      rfl
    · rw [if_neg hc]
      have he := facesL_not hc
      rw [h1 he, he]
      rfl
  have hFF : F_s_FacesOf [.agg [.int .i64 n, .list 1 (ints l)]] = some (.own 1 (ints (facesL n l))) := by simp [F_s_FacesOf]
  generalize facesL n l = L at *
  generalize fctL n l = F at *
  simp -implicitDefEqProofs [sc_s_FaceCounts, hFF]
  have inner : ∀ (i m0 z M1 : Nat) (Q : Post) (T0 : Tm), M1 = z + 1 → i < L.length → sz (at0 L i) = z → m0 ≤ z + 1 → (∀ s ∈ L.take i, sz s < m0) → subE T0 [(3, .sl 1 1 0 m0), (4, .sl 2 1 0 L.length), (5, .int .i64 (i : Int))] →
      Q (.exit 2) [(3, .sl 1 1 0 M1), (4, .sl 2 1 0 L.length), (5, .int .i64 (i : Int))] ([(2, ints L), (1, ints (szRow M1 (L.take i))), (0, [.int .i64 n, .list 1 (ints l)])], 3) →
      LoopI ⟨Try.prog, w0, U0, L0, N0, 0, 43⟩ [] sc_s_FaceCounts_L2 Q T0 ([(2, ints L), (1, ints (szRow m0 (L.take i))), (0, [.int .i64 n, .list 1 (ints l)])], 3) := by
    intro i m0 z M1 Q T0 hM1 hi hz hm hlow hsub q1
    subst hM1
    have hf := allS_at hL hi
    have h6 := sz_six hf
    have r1 : at0 L i < 9223372036854775808 := by have := hf.2; omega
    refine loopQ env mixed (fun j : Nat => [(3, .sl 1 1 0 j), (4, .sl 2 1 0 L.length), (5, .int .i64 (i : Int))]) (fun j => ([(2, ints L), (1, ints (szRow j (L.take i))), (0, [.int .i64 n, .list 1 (ints l)])], 3)) (fun j => m0 ≤ j ∧ j ≤ z + 1) (fun j => z + 1 - j) m0 ⟨by omega, hm⟩ (SubI.slots (by simp) (by simpa using hsub)) ?_
    rintro j ⟨hj1, hj2⟩
    by_cases hlt : j ≤ z
    · have hlt' : (j : Int) ≤ (z : Int) := by omega
      have hgr := szRow_grow (m := j) (l := L.take i) fun s hs => by have := hlow s hs; omega
      have hgl := szRow_len j (L.take i)
      generalize szRow j (L.take i) = g at *
      simp -implicitDefEqProofs [sc_s_FaceCounts_L2, F_s_l2Size, hi, r1, hz, hlt, hlt', hgl]
      repeat' (first | omega | apply And.intro)
      refine Again.of (j + 1) ⟨by omega, by omega⟩ (by omega) (SubI.ren (fun m => if m = 0 then some 0 else if m = 1 then some 4 else if m = 2 then some 2 else none) ?_ ?_ ?_ (by simp) (by simp))
      · simp (disch := omega) [subT, renV, ren1, wrapI]
      · have htk : g.take j = g := List.take_of_length_le (by omega)
        simp [subH, hgr, renL, ren1, htk]
        rw [← ints_app]
        rfl
      · intro m hm
        simp only at hm
        rw [if_neg (by omega), if_neg (by omega), if_neg (by omega)]
    · have : j = z + 1 := by omega
      subst this
      have hlt' : ¬ ((z : Int) + 1 ≤ (z : Int)) := by omega
      simp -implicitDefEqProofs [sc_s_FaceCounts_L2, F_s_l2Size, hi, r1, hz, hlt']
      exact SubQ.of (SubI.slots rfl (by simp)) q1
  refine loopI env mixed (fun x : Nat × Nat => [(3, .sl 1 1 0 x.2), (4, .sl 2 1 0 L.length), (5, .int .i64 (x.1 : Int))]) (fun x => ([(2, ints L), (1, ints (szRow x.2 (L.take x.1))), (0, [.int .i64 n, .list 1 (ints l)])], 3))
    (fun x => x.1 ≤ L.length ∧ (x.1 = 0 → x.2 = 0) ∧ (0 < x.1 → sz (at0 L (x.1 - 1)) + 1 = x.2) ∧ ∀ q, q < x.1 → sz (at0 L q) < x.2) (fun x => L.length - x.1) (0, 0) ⟨by simp, by simp, by simp, by simp⟩ (SubI.slots (by simp [szRow]) (by simp)) ?_
  rintro ⟨i, m⟩ ⟨hi, hm0, hm1, hq⟩
  simp only at hi hm0 hm1 hq
  by_cases hlt : i < L.length
  · have hf := allS_at hL hlt
    have h6 := sz_six hf
    have r1 : at0 L i < 9223372036854775808 := by have := hf.2; omega
    obtain ⟨z, hz⟩ : ∃ z : Nat, sz (at0 L i) = z := ⟨(sz (at0 L i)).toNat, by have := sz_nn (at0 L i); omega⟩
    have hmz : m ≤ z + 1 := by
      by_cases h0 : i = 0
      · rw [hm0 h0]; omega
      · have h1 := hm1 (by omega)
        have h2 := before_at hso (show i - 1 < i by omega) hlt
        simp only [before, decide_eq_true_eq] at h2
        omega
    have hlow : ∀ s ∈ L.take i, sz s < m := fun s hs => by
      obtain ⟨q, hq1, rfl⟩ := getD_mem_iff.1 hs
      rw [List.length_take] at hq1
      rw [at0_takeq (by omega)]
      exact hq q (by omega)
    have hcb := cntZ_bnd L i z
    have hw2 : IntKind.i64.wrap (cntZ (L.take i) z + 1) = cntZ (L.take i) z + 1 := wrapI _ (by omega) (by omega)
    have hF2 : F_s_l2Size [.int .i64 (at0 L i)] = some (.int .i64 (z : Int)) := by
      simp only [F_s_l2Size, F1_mk, dI_int, Option.bind_some]
      rw [if_pos r1, hz]
    obtain ⟨M1, hM1⟩ : ∃ M1, M1 = z + 1 := ⟨_, rfl⟩
    have hzM : z < M1 := by omega
    have hst := szRow_step (m := M1) hlt hz hzM
    have ha := at0_szRow (m := M1) (z := z) (L.take i) hzM
    have hgl := szRow_len M1 (L.take i)
    have hin := inner i m z M1
    simp -implicitDefEqProofs [sc_s_FaceCounts_L0, hlt]
    refine hin _ _ hM1 hlt hz hmz hlow (by simp) ?_
    simp -implicitDefEqProofs [hF2, hlt, hzM, ha, hw2, hst]
    repeat' (first | omega | apply And.intro)
    refine Again.of (i + 1, M1) ⟨by simp only; omega, by simp, fun _ => by simp only [Nat.add_sub_cancel]; omega, fun q h => ?_⟩ (by simp only; omega) (SubI.slots (by simp) (by simp (disch := omega) [wrapI]))
    simp only at h ⊢
    rcases Nat.lt_succ_iff_lt_or_eq.1 h with h1 | rfl
    · have := hq q h1; omega
    · omega
  · have : i = L.length := by omega
    subst this
    rw [hres m (fun e => hm0 (by rw [e]; rfl)) (fun e => hm1 (List.length_pos_iff.2 e)) hq]
    have htk : (szRow m L).take m = szRow m L := szRow_take m L
    simp -implicitDefEqProofs [sc_s_FaceCounts_L0]
end Go.Proofs.Ytmemomfffehnkaa
