import Derived.Test.YtncnohompmcddaaHaG
import Derived.Test.YtncnohompmcddaaHaF
import Derived.Test.YtncnohompmcddaaGaD
import Derived.Test.YtncnohompmcddaaKL
namespace Go.Proofs.Ytncnohompmcddaa
open Go Go.RowKit
set_option maxRecDepth 1000000
set_option linter.unusedSimpArgs false
set_option linter.unusedVariables false
set_option maxHeartbeats 1000000
theorem cplx_sorted {n : Int} {l : List Int} (h : cplx n l) : l.Pairwise fun a b => before a b = true := by
  rw [List.pairwise_iff_getElem]
  intro i j hi hj hij
  have := cplx_before h hij hj
  rwa [at0_eq (by omega), at0_eq (by omega)] at this
/-- A complex lists its maximal faces in order. -/
theorem cplx_max {n : Int} {l : List Int} (h : cplx n l) : setsOf (maxP (faceS l)) = l := by
  have hS := cplx_isS h
  refine sorted_ext (setsOf_sorted _) (cplx_sorted h) fun x => ?_
  rw [mem_setsOf]
  constructor
  · rintro ⟨hx, ⟨f, hf, hs⟩, hm⟩
    have := hm f (hS f hf) ⟨f, hf, subS_refl (hS f hf)⟩ hs
    exact this ▸ hf
  · intro hx
    refine ⟨hS x hx, ⟨x, hx, subS_refl (hS x hx)⟩, ?_⟩
    rintro t ht ⟨f, hf, hs⟩ hxt
    have hxf := subS_trans (hS x hx) ht (hS f hf) hxt hs
    have e : x = f := Classical.byContradiction fun hne => cplx_apart h hx hf hne hxf
    subst e
    exact subS_anti ht (hS x hx) hs hxt
theorem max_above {p : Int → Prop} (k : Nat) : ∀ {s : Int}, isS s → p s → 7 ≤ sz s + k → ∃ t, isS t ∧ maxP p t ∧ subS s t := by
  induction k with
  | zero => intro s hs _ hk; have := sz_six hs; omega
  | succ k ih =>
    intro s hs hp hk
    by_cases h : maxP p s
    · exact ⟨s, hs, h, subS_refl hs⟩
    · obtain ⟨t, ht, hpt, hst, hne⟩ : ∃ t, isS t ∧ p t ∧ subS s t ∧ t ≠ s := Classical.byContradiction fun hn => h ⟨hp, fun t ht hpt hst => Classical.byContradiction fun hne => hn ⟨t, ht, hpt, hst, hne⟩⟩
      have := (sz_sub hs ht hst).2 (Ne.symm hne)
      obtain ⟨u, hu, hm, htu⟩ := ih ht hpt (by omega)
      exact ⟨u, hu, hm, subS_trans hs ht hu hst htu⟩
/-- The faces below the maximal sets of a family that is closed downwards. -/
theorem face_max {p : Int → Prop} (hd : ∀ s t, isS s → isS t → subS s t → p t → p s) {s : Int} (hs : isS s) : faceS (setsOf (maxP p)) s ↔ p s := by
  constructor
  · rintro ⟨f, hf, h⟩
    obtain ⟨h1, h2⟩ := mem_setsOf.1 hf
    exact hd s f hs h1 h h2.1
  · intro h
    obtain ⟨t, ht, hm, hst⟩ := max_above 7 hs h (by have := sz_nn s; omega)
    exact ⟨t, mem_setsOf.2 ⟨ht, hm⟩, hst⟩
theorem wto_down {l : List Int} (hl : allS l) {s : Int} (hs : isS s) : ∀ a b, isS a → isS b → subS a b → wtoP (faceS l) s b → wtoP (faceS l) s a :=
  fun a b ha hb hab h => ⟨faceS_sub hl ha hb hab h.1, fun h2 => h.2 (subS_trans hs ha hb h2 hab)⟩
theorem cplx_wto {n : Int} {l : List Int} (hc : cplx n l) {s : Int} (hs : isS s) : cplx n (setsOf (maxP (wtoP (faceS l) s))) := by
  obtain ⟨h1, h6, _⟩ := id hc
  have hso := setsOf_sorted (maxP (wtoP (faceS l) s))
  refine ⟨h1, h6, fun k hk => ?_⟩
  obtain ⟨hks, hkm⟩ := mem_setsOf.1 (getD_mem' hk)
  refine ⟨isSet_face' hc hks hkm.1.1, fun h0 => before_at hso (by omega) hk, fun i hi hb => ?_⟩
  obtain ⟨his, him⟩ := mem_setsOf.1 (getD_mem' (show i < _ from by omega : i < (setsOf (maxP (wtoP (faceS l) s))).length))
  have hsub : subS (at0 (setsOf (maxP (wtoP (faceS l) s))) i) (at0 (setsOf (maxP (wtoP (faceS l) s))) k) := (bnot_zero2 his hks).2 hb
  have e := him.2 _ hks hkm.1 hsub
  have hbf := before_at hso hi hk
  rw [e] at hbf
  simp only [before, decide_eq_true_eq] at hbf
  omega
/-- A complex without the faces that hold s. -/
noncomputable def delL (l : List Int) (s : Int) : List Int := setsOf (maxP (wtoP (faceS l) s))
theorem delL_face {n : Int} {l : List Int} (hc : cplx n l) {s : Int} (hs : isS s) {u : Int} (hu : isS u) : faceS (delL l s) u ↔ wtoP (faceS l) s u := face_max (wto_down (cplx_isS hc) hs) hu
theorem delL_less {n : Int} {l : List Int} (hc : cplx n l) {s : Int} (hs : isS s) (hf : faceS l s) : (setsOf (faceS (delL l s))).length < (setsOf (faceS l)).length := by
  have h1 : (s :: setsOf (faceS (delL l s))).Nodup := List.nodup_cons.2 ⟨fun h => ((delL_face hc hs hs).1 (mem_setsOf.1 h).2).2 (subS_refl hs), setsOf_nodup _⟩
  have h2 : (s :: setsOf (faceS (delL l s))).length ≤ (setsOf (faceS l)).length := sub_len h1 fun x hx => by
    rcases List.mem_cons.1 hx with rfl | hx
    · exact mem_setsOf.2 ⟨hs, hf⟩
    · obtain ⟨a, b⟩ := mem_setsOf.1 hx
      exact mem_setsOf.2 ⟨a, ((delL_face hc hs a).1 b).1⟩
  simp only [List.length_cons] at h2
  omega
theorem lnk_down {l : List Int} (hl : allS l) {s : Int} (hs : isS s) : ∀ a b, isS a → isS b → subS a b → lnkP (faceS l) s b → lnkP (faceS l) s a := by
  intro a b ha hb hab h
  obtain ⟨h1, h2⟩ := h
  have hab2 := (subS_tb ha hb).1 hab
  refine ⟨(band_none ha hs).2 fun i hi ht => (band_none hb hs).1 h1 i hi ⟨hab2 i hi ht.1, ht.2⟩, faceS_sub hl (isS_bor ha hs) (isS_bor hb hs) ?_ h2⟩
  rw [subS_tb (isS_bor ha hs) (isS_bor hb hs)]
  intro i hi h
  rcases (tb_bor ha hs hi).1 h with h | h
  · exact (tb_bor hb hs hi).2 (.inl (hab2 i hi h))
  · exact (tb_bor hb hs hi).2 (.inr h)
/-- The facets of the link of s. -/
noncomputable def lkS (l : List Int) (s : Int) : List Int := setsOf (maxP (lnkP (faceS l) s))
theorem lkS_face {l : List Int} (hl : allS l) {s : Int} (hs : isS s) {u : Int} (hu : isS u) : faceS (lkS l s) u ↔ lnkP (faceS l) s u := face_max (lnk_down hl hs) hu
theorem cplx_lnk {n : Int} {l : List Int} (hc : cplx n l) {s : Int} (hs : isS s) : cplx n (lkS l s) := by
  obtain ⟨h1, h6, _⟩ := id hc
  have hso := setsOf_sorted (maxP (lnkP (faceS l) s))
  refine ⟨h1, h6, fun k hk => ?_⟩
  unfold lkS at hk ⊢
  obtain ⟨hks, hkm⟩ := mem_setsOf.1 (getD_mem' hk)
  have hface : faceS l (at0 (setsOf (maxP (lnkP (faceS l) s))) k) := faceS_sub (cplx_isS hc) hks (isS_bor hks hs) ((subS_tb hks (isS_bor hks hs)).2 fun i hi h => (tb_bor hks hs hi).2 (.inl h)) hkm.1.2
  refine ⟨isSet_face' hc hks hface, fun h0 => before_at hso (by omega) hk, fun i hi hb => ?_⟩
  obtain ⟨his, him⟩ := mem_setsOf.1 (getD_mem' (show i < _ from by omega : i < (setsOf (maxP (lnkP (faceS l) s))).length))
  have hsub : subS (at0 (setsOf (maxP (lnkP (faceS l) s))) i) (at0 (setsOf (maxP (lnkP (faceS l) s))) k) := (bnot_zero2 his hks).2 hb
  have e := him.2 _ hks hkm.1 hsub
  have hbf := before_at hso hi hk
  rw [e] at hbf
  simp only [before, decide_eq_true_eq] at hbf
  omega
theorem hm_link {n : Int} {l : List Int} {p : Int} (hc : cplx n l) {s : Int} (hs : isS s) (hp : fpP p) : hmL n (lkS l s) p = holL p (lnkP (faceS l) s) := by
  have e : hmL n (lkS l s) p = holL p (faceS (lkS l s)) := if_pos ⟨cplx_lnk hc hs, hp⟩
  rw [e]
  exact holL_congr fun u hu => lkS_face (cplx_isS hc) hs hu
def sc_s_BadLink_L2 : SC := (.seq (.seq (.reg [⟨(some 34), none, (.mov (.t 10))⟩, ⟨(some 35), none, (.mov (.t 9))⟩, ⟨(some 36), none, (.len (.t 35))⟩, ⟨(some 37), none, (.bin false .lss (.t 34) (.t 36))⟩, ⟨(some 38), none, (.mov (.t 37))⟩, ⟨(some 39), (some (38, true)), (.mov (.t 10))⟩, ⟨(some 40), (some (38, true)), (.mov (.t 7))⟩, ⟨(some 41), (some (38, true)), (.mov (.t 6))⟩, ⟨(some 42), (some (38, true)), (.mov (.t 8))⟩, ⟨(some 43), (some (38, true)), (.idx 1 (.t 41) (.t 42))⟩, ⟨(some 44), (some (38, true)), (.ld none (.int .i64 0) (.t 43))⟩, ⟨(some 45), (some (38, true)), (.call 36 [(.t 44)])⟩, ⟨(some 46), (some (38, true)), (.bin false .sub (.t 40) (.t 45))⟩, ⟨(some 47), (some (38, true)), (.bin false .lss (.t 39) (.t 46))⟩, ⟨(some 48), none, (.pick (.t 38) (.t 47) (.c (.bool false)))⟩]) (.cond (.t 48) .skip (.exit 2))) (.seq (.block 3 (.seq (.reg [⟨(some 51), none, (.mov (.t 9))⟩, ⟨(some 52), none, (.mov (.t 10))⟩, ⟨(some 53), none, (.idx 1 (.t 51) (.t 52))⟩, ⟨(some 54), none, (.ld none (.int .i64 0) (.t 53))⟩, ⟨(some 55), none, (.bin false .neq (.t 54) (.c (.int .i64 0)))⟩]) (.cond (.t 55) (.seq (.reg [⟨(some 56), none, (.mov (.t 6))⟩, ⟨(some 57), none, (.mov (.t 8))⟩, ⟨(some 58), none, (.idx 1 (.t 56) (.t 57))⟩, ⟨(some 59), none, (.ld none (.int .i64 0) (.t 58))⟩, ⟨(some 4), none, (.mov (.t 59))⟩, ⟨(some 5), none, (.mov (.c (.bool true)))⟩]) .ret) .skip))) (.reg [⟨(some 49), none, (.mov (.t 10))⟩, ⟨(some 50), none, (.bin false .add (.t 49) (.c (.int .i64 1)))⟩, ⟨(some 10), none, (.mov (.t 50))⟩])))
def sc_s_BadLink_L0 : SC := (.seq (.seq (.reg [⟨(some 16), none, (.mov (.t 8))⟩, ⟨(some 17), none, (.mov (.t 6))⟩, ⟨(some 18), none, (.len (.t 17))⟩, ⟨(some 19), none, (.bin false .lss (.t 16) (.t 18))⟩, ⟨(some 20), none, (.mov (.t 19))⟩, ⟨(some 21), (some (20, true)), (.mov (.t 1))⟩, ⟨(some 22), (some (20, true)), (.call 33 [(.t 21)])⟩, ⟨(some 23), none, (.pick (.t 20) (.t 22) (.c (.bool false)))⟩]) (.cond (.t 23) .skip (.exit 0))) (.seq (.block 1 (.seq (.dreg [⟨⟨(some 26), none, (.ld (some 2) .undef (.t 2))⟩, false, false⟩, ⟨⟨(some 27), none, (.mov (.t 6))⟩, false, false⟩, ⟨⟨(some 28), none, (.mov (.t 8))⟩, false, false⟩, ⟨⟨(some 29), none, (.idx 1 (.t 27) (.t 28))⟩, false, false⟩, ⟨⟨(some 30), none, (.ld none (.int .i64 0) (.t 29))⟩, false, false⟩, ⟨⟨(some 31), none, (.call 35 [(.t 26), (.t 30)])⟩, false, false⟩, ⟨⟨(some 32), none, (.mov (.t 1))⟩, false, false⟩, ⟨⟨(some 33), none, (.call 34 [(.t 31), (.t 32)])⟩, false, false⟩, ⟨⟨(some 9), none, (.mov (.t 33))⟩, false, false⟩]) (.seq (.reg [⟨(some 10), none, (.mov (.c (.int .i64 0)))⟩]) (.block 2 (.loop sc_s_BadLink_L2))))) (.reg [⟨(some 24), none, (.mov (.t 8))⟩, ⟨(some 25), none, (.bin false .add (.t 24) (.c (.int .i64 1)))⟩, ⟨(some 8), none, (.mov (.t 25))⟩])))
def sc_s_BadLink : SC := (.seq (.reg [⟨(some 2), none, (.box (.t 0))⟩, ⟨(some 4), none, (.mov (.c (.int .i64 0)))⟩, ⟨(some 5), none, (.mov (.c (.bool false)))⟩]) (.seq (.reg [⟨(some 11), none, (.ld (some 2) .undef (.t 2))⟩, ⟨(some 12), none, (.call 32 [(.t 11)])⟩, ⟨(some 6), none, (.mov (.t 12))⟩]) (.seq (.reg [⟨(some 13), none, (.ld (some 2) .undef (.t 2))⟩, ⟨(some 14), none, (.call 42 [(.t 13)])⟩, ⟨(some 15), none, (.bin false .add (.t 14) (.c (.int .i64 1)))⟩, ⟨(some 7), none, (.mov (.t 15))⟩]) (.seq (.seq (.reg [⟨(some 8), none, (.mov (.c (.int .i64 0)))⟩]) (.block 0 (.loop sc_s_BadLink_L0))) (.seq (.reg [⟨(some 4), none, (.mov (.c (.int .i64 0)))⟩, ⟨(some 5), none, (.mov (.c (.bool false)))⟩]) .ret)))))
theorem code_s_BadLink : fnCode Try.prog [] 15 = some (60, sc_s_BadLink, [(4, none), (5, none)]) := by kernel_rfl
/-- A face whose link has a hole below the top. -/
def bdP (p : Int) (q : Int → Prop) (s : Int) : Prop := ∃ k : Nat, k < (holL p (lnkP q s)).length ∧ at0 (holL p (lnkP q s)) k ≠ 0 ∧ (k : Int) < topZ q - sz s
def bdR (L : List Int) (P : Int → Prop) (x : Int × Bool) : Prop := (x = (0, false) ∧ ∀ i, i < L.length → ¬ P (at0 L i)) ∨ ∃ i, i < L.length ∧ P (at0 L i) ∧ x = (at0 L i, true) ∧ ∀ j, j < i → ¬ P (at0 L j)
theorem bd_ex (L : List Int) (P : Int → Prop) : ∃ x, bdR L P x := by
  rcases least_nat (fun i => P (at0 L i)) L.length with h | ⟨i, a, b, c⟩
  · exact ⟨_, .inl ⟨rfl, h⟩⟩
  · exact ⟨_, .inr ⟨i, a, b, rfl, c⟩⟩
noncomputable def bdX (L : List Int) (P : Int → Prop) : Int × Bool := Classical.choose (bd_ex L P)
theorem bdX_none {L : List Int} {P : Int → Prop} (h : ∀ i, i < L.length → ¬ P (at0 L i)) : bdX L P = (0, false) := by
  rcases (Classical.choose_spec (bd_ex L P) : bdR L P (bdX L P)) with ⟨e, _⟩ | ⟨i, a, b, _⟩
  · exact e
  · exact absurd b (h i a)
theorem bdX_hit {L : List Int} {P : Int → Prop} {i : Nat} (hi : i < L.length) (h : P (at0 L i)) (hm : ∀ j, j < i → ¬ P (at0 L j)) : bdX L P = (at0 L i, true) := by
  rcases (Classical.choose_spec (bd_ex L P) : bdR L P (bdX L P)) with ⟨_, h2⟩ | ⟨k, a, b, e, c⟩
  · exact absurd h (h2 i hi)
  · have e2 : bdX L P = (at0 L k, true) := e
    rw [e2]
    rcases Nat.lt_trichotomy i k with h1 | h1 | h1
    · exact absurd h (c i h1)
    · rw [h1]
    · exact absurd b (hm k h1)
open Classical in
noncomputable def blL (n : Int) (l : List Int) (p : Int) : List Int := if cplx n l ∧ fpP p then setsOf (faceS l) else []
noncomputable def blX (n : Int) (l : List Int) (p : Int) : Int × Bool := bdX (blL n l p) (bdP p (faceS l))
noncomputable def F_s_BadLink : List V → Option V := F2 dC dI fun c p => some (.tup [.int .i64 (blX c.1 c.2 p).1, .bool (blX c.1 c.2 p).2])
theorem fn_s_BadLink : FnOk Try.prog 15 F_s_BadLink := by
  have env := ((((((envNil_ok (P := Try.prog)).add fn_s_FacesOf).add fn_s_DimOf).add fn_s_IsFieldPrime).add fn_s_l5Link).add fn_s_HolesMod).add fn_s_l2Size
  refine fn_ok code_s_BadLink mixed env ?_
  intro args r h hb
  obtain ⟨_, _, ⟨n, l⟩, p, rfl, h1, h2, h4⟩ := F2_inv h
  cases dC_inv h1
  cases dI_inv h2
  cases h4
  clear h
  refine ⟨by simp, fun w0 U0 L0 N0 => ?_⟩
  clear hb
  simp only
  have hFF : F_s_FacesOf [.agg [.int .i64 n, .list 1 (ints l)]] = some (.own 1 (ints (facesL n l))) := by simp [F_s_FacesOf]
  have hFD : F_s_DimOf [.agg [.int .i64 n, .list 1 (ints l)]] = some (.int .i64 (dimZ n l)) := by simp [F_s_DimOf]
  have hdb := dimZ_bnd n l
  have hwd : IntKind.i64.wrap (dimZ n l + 1) = dimZ n l + 1 := wrapI _ (by omega) (by omega)
  by_cases hcp : cplx n l ∧ fpP p
  rotate_left
  · have e : blX n l p = (0, false) := by
      unfold blX blL
      rw [if_neg hcp]
      exact bdX_none fun i hi => by simp at hi
    rw [e]
    have hLp : facesL n l = [] ∨ ¬ fpP p := by
      by_cases hc : cplx n l
      · exact .inr fun hp => hcp ⟨hc, hp⟩
      · exact .inl (facesL_not hc)
    generalize facesL n l = L at *
    simp -implicitDefEqProofs [sc_s_BadLink, hFF, hFD, hwd]
    refine loopI env mixed (fun _ : Unit => [(1, .int .i64 p), (6, .sl 1 1 0 L.length), (8, .int .i64 0)]) (fun _ => ([(1, ints L), (0, [.int .i64 n, .list 1 (ints l)])], 2)) (fun _ => True) (fun _ => 0) () trivial (SubI.slots (by simp) (by simp)) ?_
    intro _ _
    rcases hLp with e0 | hp
    · subst e0
      simp -implicitDefEqProofs [sc_s_BadLink_L0]
    · have hd := dec_false hp
      by_cases h0 : 0 < L.length
      · have h0' : (0 : Int) < L.length := by omega
        simp -implicitDefEqProofs [sc_s_BadLink_L0, F_s_IsFieldPrime, hd, h0, h0']
      · have h0' : ¬ ((0 : Int) < L.length) := by omega
        simp -implicitDefEqProofs [sc_s_BadLink_L0, h0, h0']
  obtain ⟨hc, hp⟩ := hcp
  have hd := dec_true hp
  have hS := cplx_isS hc
  have hl64 := cplx_len64 hc
  have hbl : blL n l p = facesL n l := by unfold blL; rw [if_pos ⟨hc, hp⟩, facesL_of hc]
  have hL : allS (facesL n l) := allS_setsOf _
  have hLl : (facesL n l).length ≤ 64 := setsOf_len _
  have hdz : dimZ n l + 1 = topZ (faceS l) := by unfold dimZ; rw [if_pos hc]; omega
  have htb := topZ_bnd (faceS l)
  have hx : ∀ x, x = blX n l p → x = bdX (facesL n l) (bdP p (faceS l)) := fun x e => by rw [e]; unfold blX; rw [hbl]
  generalize blX n l p = X at *
  have hX := hx X rfl
  clear hx hbl
  have hhit := fun (i : Nat) h1 h2 h3 => hX.trans (bdX_hit (L := facesL n l) (P := bdP p (faceS l)) (i := i) h1 h2 h3)
  have hnone := fun h => hX.trans (bdX_none (L := facesL n l) (P := bdP p (faceS l)) h)
  clear hX
  generalize facesL n l = L at *
  simp -implicitDefEqProofs [sc_s_BadLink, hFF, hFD, hwd]
  rw [hdz]
  refine loopI env mixed (fun i : Nat => [(1, .int .i64 p), (2, .pt 0 0), (6, .sl 1 1 0 L.length), (7, .int .i64 (topZ (faceS l))), (8, .int .i64 (i : Int))]) (fun _ => ([(1, ints L), (0, [.int .i64 n, .list 1 (ints l)])], 2)) (fun i => i ≤ L.length ∧ ∀ j, j < i → ¬ bdP p (faceS l) (at0 L j)) (fun i => L.length - i) 0 (by simp) (SubI.slots (by simp) (by simp)) ?_
  rintro i ⟨hi, hI⟩
  by_cases hlt : i < L.length
  rotate_left
  · have : i = L.length := by omega
    subst this
    have e := hnone hI
    subst e
    simp -implicitDefEqProofs [sc_s_BadLink_L0]
  have hs := allS_at hL hlt
  have h6 := sz_six hs
  have h0 := sz_nn (at0 L i)
  have hFK : F_s_l5Link [.agg [.int .i64 n, .list 1 (ints l)], .int .i64 (at0 L i)] = some (.agg [.int .i64 n, .own 1 (ints (lkS l (at0 L i)))]) := by
    simp only [F_s_l5Link, F2_mk, dC_agg, dI_int, Option.bind_some]
    rw [if_pos ⟨hS, hl64, hs⟩]
    rfl
  have hFH : F_s_HolesMod [.agg [.int .i64 n, .list 1 (ints (lkS l (at0 L i)))], .int .i64 p] = some (.own 1 (ints (holL p (lnkP (faceS l) (at0 L i))))) := by
    rw [← hm_link hc hs hp]
    simp [F_s_HolesMod]
  have hF2 : F_s_l2Size [.int .i64 (at0 L i)] = some (.int .i64 (sz (at0 L i))) := by
    simp only [F_s_l2Size, F1_mk, dI_int, Option.bind_some]
    rw [if_pos (by have := hs.2; omega)]
  have hbd : bdP p (faceS l) (at0 L i) ↔ ∃ k : Nat, k < (holL p (lnkP (faceS l) (at0 L i))).length ∧ at0 (holL p (lnkP (faceS l) (at0 L i))) k ≠ 0 ∧ (k : Int) < topZ (faceS l) - sz (at0 L i) := Iff.rfl
  have hHl := (holL_len p (lnkP (faceS l) (at0 L i))).2
  have hw : IntKind.i64.wrap (topZ (faceS l) - sz (at0 L i)) = topZ (faceS l) - sz (at0 L i) := wrapI _ (by omega) (by omega)
  generalize holL p (lnkP (faceS l) (at0 L i)) = H at *
  generalize lkS l (at0 L i) = R at *
  simp -implicitDefEqProofs [sc_s_BadLink_L0, F_s_IsFieldPrime, hlt, hd, hFK, hFH]
  repeat' (first | omega | apply And.intro)
  have out : ¬ bdP p (faceS l) (at0 L i) → ∀ j, j < i + 1 → ¬ bdP p (faceS l) (at0 L j) := fun hn j hj => by
    rcases Nat.lt_succ_iff_lt_or_eq.1 hj with h | rfl
    · exact hI j h
    · exact hn
  refine loopI env mixed (fun k : Nat => [(1, .int .i64 p), (2, .pt 0 0), (6, .sl 1 1 0 L.length), (7, .int .i64 (topZ (faceS l))), (8, .int .i64 (i : Int)), (9, .list 1 (ints H)), (10, .int .i64 (k : Int))]) (fun _ => ([(1, ints L), (0, [.int .i64 n, .list 1 (ints l)])], 2)) (fun k => k ≤ H.length ∧ ∀ j, j < k → at0 H j = 0) (fun k => H.length - k) 0 (by simp) (SubI.slots (by simp) (by simp)) ?_
  rintro k ⟨hk, hz⟩
  by_cases hkl : k < H.length
  rotate_left
  · have hn := out fun hb => by
      obtain ⟨j, j1, j2, _⟩ := hbd.1 hb
      exact j2 (hz j (by omega))
    simp -implicitDefEqProofs [sc_s_BadLink_L2, hkl]
    repeat' (first | omega | apply And.intro)
    exact Again.of (i + 1) ⟨by omega, hn⟩ (by omega) (SubI.slots (by simp) (by simp (disch := omega) [wrapI]))
  by_cases hkt : (k : Int) < topZ (faceS l) - sz (at0 L i)
  rotate_left
  · have hn := out fun hb => by
      obtain ⟨j, j1, j2, j3⟩ := hbd.1 hb
      exact j2 (hz j (by omega))
    simp -implicitDefEqProofs [sc_s_BadLink_L2, hkl, hlt, hF2, hw, hkt]
    repeat' (first | omega | apply And.intro)
    exact Again.of (i + 1) ⟨by omega, hn⟩ (by omega) (SubI.slots (by simp) (by simp (disch := omega) [wrapI]))
  by_cases hk0 : at0 H k = 0
  · simp -implicitDefEqProofs [sc_s_BadLink_L2, hkl, hlt, hF2, hw, hkt, hk0]
    repeat' (first | omega | apply And.intro)
    refine Again.of (k + 1) ⟨by omega, fun j hj => ?_⟩ (by omega) (SubI.slots (by simp) (by simp (disch := omega) [wrapI]))
    rcases Nat.lt_succ_iff_lt_or_eq.1 hj with h | rfl
    · exact hz j h
    · exact hk0
  · have e := hhit i hlt (hbd.2 ⟨k, hkl, hk0, hkt⟩) hI
    subst e
    simp -implicitDefEqProofs [sc_s_BadLink_L2, hkl, hlt, hF2, hw, hkt, hk0]
    try omega
end Go.Proofs.Ytncnohompmcddaa
