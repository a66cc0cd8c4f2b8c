import Derived.Test.YtmemomfffehnkaaKI
import Derived.Test.YtmemomfffehnkaaKT
import Derived.Test.YtmemomfffehnkaaKL
import Derived.Test.YtmemomfffehnkaaKS2
import Derived.Test.YtmemomfffehnkaaKQ
import Derived.Test.YtmemomfffehnkaaKJ
namespace Go.Proofs.Ytmemomfffehnkaa
open Go Go.RowKit
set_option maxRecDepth 1000000
set_option linter.unusedSimpArgs false
set_option linter.unusedVariables false
set_option maxHeartbeats 1000000
def sc_i_HasFace : SC := (.seq (.reg [⟨(some 2), none, (.box (.t 0))⟩, ⟨(some 4), none, (.mov (.c (.bool false)))⟩]) (.seq (.seq (.reg [⟨(some 5), none, (.ld (some 2) .undef (.t 2))⟩, ⟨(some 6), none, (.call 130 [(.t 5)])⟩, ⟨(some 7), none, (.un .not (.t 6))⟩, ⟨(some 8), none, (.mov (.t 7))⟩, ⟨(some 9), (some (8, false)), (.fad 0 (.t 2))⟩, ⟨(some 10), (some (8, false)), (.ld none (.int .i64 0) (.t 9))⟩, ⟨(some 11), (some (8, false)), (.mov (.t 1))⟩, ⟨(some 12), (some (8, false)), (.call 180 [(.t 10), (.t 11)])⟩, ⟨(some 13), (some (8, false)), (.un .not (.t 12))⟩, ⟨(some 14), none, (.pick (.t 8) (.c (.bool true)) (.t 13))⟩]) (.cond (.t 14) (.seq (.reg [⟨(some 4), none, (.mov (.c (.bool false)))⟩]) .ret) .skip)) (.seq (.reg [⟨(some 15), none, (.ld (some 2) .undef (.t 2))⟩, ⟨(some 16), none, (.call 151 [(.t 15)])⟩, ⟨(some 17), none, (.mov (.t 1))⟩, ⟨(some 18), none, (.call 182 [(.t 16), (.t 17)])⟩, ⟨(some 4), none, (.mov (.t 18))⟩]) .ret)))
theorem code_i_HasFace : fnCode Try.prog [] 173 = some (19, sc_i_HasFace, [(4, none)]) := by kernel_rfl
theorem isSet_face' {n : Int} {l : List Int} (hc : cplx n l) {s : Int} (hs : isS s) (h : faceS l s) : isSet n s = true := by
  obtain ⟨f, hf, hsf⟩ := h
  obtain ⟨j, hj, rfl⟩ := getD_mem_iff.1 hf
  have h1 := (hc.2.2 j hj).1
  have h2 := subS_le hs (cplx_isS hc _ hf) hsf
  simp only [isSet, decide_eq_true_eq] at h1 ⊢
  exact ⟨h1.1, h1.2.1, hs.1, by omega⟩
theorem fn_i_HasFace : FnOk Try.prog 173 F_s_HasFace := by
  have env := ((((envNil_ok (P := Try.prog)).add fn_i_IsComplex).add fn_i_IsSet).add fn_i_facesIn).add fn_i_hasSet
  refine fn_ok code_i_HasFace mixed env ?_
  intro args r h hb
  obtain ⟨_, _, ⟨n, l⟩, s, rfl, h1, h2, h4⟩ := F2_inv h
  cases dC_inv h1
  cases dI_inv h2
  cases h4
  refine ⟨by simp, fun w0 U0 L0 N0 => ?_⟩
  generalize hv : hasFaceB n l s = v
  cases e0 : cplxB n l with
  | false =>
    have hv1 : v = false := hv ▸ dec_false fun h => by simp [cplxB_iff.2 h.1] at e0
    simp -implicitDefEqProofs [sc_i_HasFace, F_s_IsComplex, e0, hv1]
  | true =>
  have hc := cplxB_iff.1 e0
  have hS := cplx_isS hc
  cases e1 : isSet n s with
  | false =>
    have hv1 : v = false := hv ▸ dec_false fun h => by simp [isSet_face' hc h.2.1 h.2.2] at e1
    simp -implicitDefEqProofs [sc_i_HasFace, F_s_IsComplex, F_i_IsSet, e0, e1, hv1]
  | true =>
  have hs := (show isS s from isSet_pos e1)
  have hg := hasG_fam (p := faceS l) hs
  have hv1 : dec (faceS l s) = v := by
    rw [← hv, Bool.eq_iff_iff, dec_iff]
    exact ⟨fun h => dec_true ⟨hc, hs, h⟩, fun h => (dec_iff.1 h).2.2⟩
  rw [hv1] at hg
  simp -implicitDefEqProofs [sc_i_HasFace, F_s_IsComplex, F_i_IsSet, F_i_facesIn, F_i_hasSet, e0, e1, hS, hg]
end Go.Proofs.Ytmemomfffehnkaa
namespace Go.Proofs.Ytmemomfffehnkaa
open Go Go.RowKit
set_option maxRecDepth 1000000
set_option linter.unusedSimpArgs false
set_option linter.unusedVariables false
set_option maxHeartbeats 1000000
theorem cplx_sorted {n : Int} {l : List Int} (h : cplx n l) : l.Pairwise fun a b => before a b = true := by
  rw [List.pairwise_iff_getElem]
  intro i j hi hj hij
  have := cplx_before h hij hj
  rwa [at0_eq (by omega), at0_eq (by omega)] at this
/-- A complex lists its maximal faces in order. -/
theorem cplx_max {n : Int} {l : List Int} (h : cplx n l) : setsOf (maxP (faceS l)) = l := by
  have hS := cplx_isS h
  refine sorted_ext (setsOf_sorted _) (cplx_sorted h) fun x => ?_
  rw [mem_setsOf]
  constructor
  · rintro ⟨hx, ⟨f, hf, hs⟩, hm⟩
    have := hm f (hS f hf) ⟨f, hf, subS_refl (hS f hf)⟩ hs
    exact this ▸ hf
  · intro hx
    refine ⟨hS x hx, ⟨x, hx, subS_refl (hS x hx)⟩, ?_⟩
    rintro t ht ⟨f, hf, hs⟩ hxt
    have hxf := subS_trans (hS x hx) ht (hS f hf) hxt hs
    have e : x = f := Classical.byContradiction fun hne => cplx_apart h hx hf hne hxf
    subst e
    exact subS_anti ht (hS x hx) hs hxt
theorem max_above {p : Int → Prop} (k : Nat) : ∀ {s : Int}, isS s → p s → 7 ≤ sz s + k → ∃ t, isS t ∧ maxP p t ∧ subS s t := by
  induction k with
  | zero => intro s hs _ hk; have := sz_six hs; omega
  | succ k ih =>
    intro s hs hp hk
    by_cases h : maxP p s
    · exact ⟨s, hs, h, subS_refl hs⟩
    · obtain ⟨t, ht, hpt, hst, hne⟩ : ∃ t, isS t ∧ p t ∧ subS s t ∧ t ≠ s := Classical.byContradiction fun hn => h ⟨hp, fun t ht hpt hst => Classical.byContradiction fun hne => hn ⟨t, ht, hpt, hst, hne⟩⟩
      have := (sz_sub hs ht hst).2 (Ne.symm hne)
      obtain ⟨u, hu, hm, htu⟩ := ih ht hpt (by omega)
      exact ⟨u, hu, hm, subS_trans hs ht hu hst htu⟩
/-- The faces below the maximal sets of a family that is closed downwards. -/
theorem face_max {p : Int → Prop} (hd : ∀ s t, isS s → isS t → subS s t → p t → p s) {s : Int} (hs : isS s) : faceS (setsOf (maxP p)) s ↔ p s := by
  constructor
  · rintro ⟨f, hf, h⟩
    obtain ⟨h1, h2⟩ := mem_setsOf.1 hf
    exact hd s f hs h1 h h2.1
  · intro h
    obtain ⟨t, ht, hm, hst⟩ := max_above 7 hs h (by have := sz_nn s; omega)
    exact ⟨t, mem_setsOf.2 ⟨ht, hm⟩, hst⟩
theorem wto_down {l : List Int} (hl : allS l) {s : Int} (hs : isS s) : ∀ a b, isS a → isS b → subS a b → wtoP (faceS l) s b → wtoP (faceS l) s a :=
  fun a b ha hb hab h => ⟨faceS_sub hl ha hb hab h.1, fun h2 => h.2 (subS_trans hs ha hb h2 hab)⟩
theorem cplx_wto {n : Int} {l : List Int} (hc : cplx n l) {s : Int} (hs : isS s) : cplx n (setsOf (maxP (wtoP (faceS l) s))) := by
  obtain ⟨h1, h6, _⟩ := id hc
  have hso := setsOf_sorted (maxP (wtoP (faceS l) s))
  refine ⟨h1, h6, fun k hk => ?_⟩
  obtain ⟨hks, hkm⟩ := mem_setsOf.1 (getD_mem' hk)
  refine ⟨isSet_face' hc hks hkm.1.1, fun h0 => before_at hso (by omega) hk, fun i hi hb => ?_⟩
  obtain ⟨his, him⟩ := mem_setsOf.1 (getD_mem' (show i < _ from by omega : i < (setsOf (maxP (wtoP (faceS l) s))).length))
  have hsub : subS (at0 (setsOf (maxP (wtoP (faceS l) s))) i) (at0 (setsOf (maxP (wtoP (faceS l) s))) k) := (bnot_zero2 his hks).2 hb
  have e := him.2 _ hks hkm.1 hsub
  have hbf := before_at hso hi hk
  rw [e] at hbf
  simp only [before, decide_eq_true_eq] at hbf
  omega
/-- A complex without the faces that hold s. -/
noncomputable def delL (l : List Int) (s : Int) : List Int := setsOf (maxP (wtoP (faceS l) s))
theorem delL_face {n : Int} {l : List Int} (hc : cplx n l) {s : Int} (hs : isS s) {u : Int} (hu : isS u) : faceS (delL l s) u ↔ wtoP (faceS l) s u := face_max (wto_down (cplx_isS hc) hs) hu
theorem delL_less {n : Int} {l : List Int} (hc : cplx n l) {s : Int} (hs : isS s) (hf : faceS l s) : (setsOf (faceS (delL l s))).length < (setsOf (faceS l)).length := by
  have h1 : (s :: setsOf (faceS (delL l s))).Nodup := List.nodup_cons.2 ⟨fun h => ((delL_face hc hs hs).1 (mem_setsOf.1 h).2).2 (subS_refl hs), setsOf_nodup _⟩
  have h2 : (s :: setsOf (faceS (delL l s))).length ≤ (setsOf (faceS l)).length := sub_len h1 fun x hx => by
    rcases List.mem_cons.1 hx with rfl | hx
    · exact mem_setsOf.2 ⟨hs, hf⟩
    · obtain ⟨a, b⟩ := mem_setsOf.1 hx
      exact mem_setsOf.2 ⟨a, ((delL_face hc hs a).1 b).1⟩
  simp only [List.length_cons] at h2
  omega
theorem lnk_down {l : List Int} (hl : allS l) {s : Int} (hs : isS s) : ∀ a b, isS a → isS b → subS a b → lnkP (faceS l) s b → lnkP (faceS l) s a := by
  intro a b ha hb hab h
  obtain ⟨h1, h2⟩ := h
  have hab2 := (subS_tb ha hb).1 hab
  refine ⟨(band_none ha hs).2 fun i hi ht => (band_none hb hs).1 h1 i hi ⟨hab2 i hi ht.1, ht.2⟩, faceS_sub hl (isS_bor ha hs) (isS_bor hb hs) ?_ h2⟩
  rw [subS_tb (isS_bor ha hs) (isS_bor hb hs)]
  intro i hi h
  rcases (tb_bor ha hs hi).1 h with h | h
  · exact (tb_bor hb hs hi).2 (.inl (hab2 i hi h))
  · exact (tb_bor hb hs hi).2 (.inr h)
/-- The facets of the link of s. -/
noncomputable def lkS (l : List Int) (s : Int) : List Int := setsOf (maxP (lnkP (faceS l) s))
theorem lkS_face {l : List Int} (hl : allS l) {s : Int} (hs : isS s) {u : Int} (hu : isS u) : faceS (lkS l s) u ↔ lnkP (faceS l) s u := face_max (lnk_down hl hs) hu
theorem cplx_lnk {n : Int} {l : List Int} (hc : cplx n l) {s : Int} (hs : isS s) : cplx n (lkS l s) := by
  obtain ⟨h1, h6, _⟩ := id hc
  have hso := setsOf_sorted (maxP (lnkP (faceS l) s))
  refine ⟨h1, h6, fun k hk => ?_⟩
  unfold lkS at hk ⊢
  obtain ⟨hks, hkm⟩ := mem_setsOf.1 (getD_mem' hk)
  have hface : faceS l (at0 (setsOf (maxP (lnkP (faceS l) s))) k) := faceS_sub (cplx_isS hc) hks (isS_bor hks hs) ((subS_tb hks (isS_bor hks hs)).2 fun i hi h => (tb_bor hks hs hi).2 (.inl h)) hkm.1.2
  refine ⟨isSet_face' hc hks hface, fun h0 => before_at hso (by omega) hk, fun i hi hb => ?_⟩
  obtain ⟨his, him⟩ := mem_setsOf.1 (getD_mem' (show i < _ from by omega : i < (setsOf (maxP (lnkP (faceS l) s))).length))
  have hsub : subS (at0 (setsOf (maxP (lnkP (faceS l) s))) i) (at0 (setsOf (maxP (lnkP (faceS l) s))) k) := (bnot_zero2 his hks).2 hb
  have e := him.2 _ hks hkm.1 hsub
  have hbf := before_at hso hi hk
  rw [e] at hbf
  simp only [before, decide_eq_true_eq] at hbf
  omega
theorem hm_link {n : Int} {l : List Int} {p : Int} (hc : cplx n l) {s : Int} (hs : isS s) (hp : fpP p) : hmL n (lkS l s) p = holL p (lnkP (faceS l) s) := by
  have e : hmL n (lkS l s) p = holL p (faceS (lkS l s)) := if_pos ⟨cplx_lnk hc hs, hp⟩
  rw [e]
  exact holL_congr fun u hu => lkS_face (cplx_isS hc) hs hu
def sc_s_BadLink_L2 : SC := (.seq (.seq (.reg [⟨(some 34), none, (.mov (.t 10))⟩, ⟨(some 35), none, (.mov (.t 9))⟩, ⟨(some 36), none, (.len (.t 35))⟩, ⟨(some 37), none, (.bin false .lss (.t 34) (.t 36))⟩, ⟨(some 38), none, (.mov (.t 37))⟩, ⟨(some 39), (some (38, true)), (.mov (.t 10))⟩, ⟨(some 40), (some (38, true)), (.mov (.t 7))⟩, ⟨(some 41), (some (38, true)), (.mov (.t 6))⟩, ⟨(some 42), (some (38, true)), (.mov (.t 8))⟩, ⟨(some 43), (some (38, true)), (.idx 1 (.t 41) (.t 42))⟩, ⟨(some 44), (some (38, true)), (.ld none (.int .i64 0) (.t 43))⟩, ⟨(some 45), (some (38, true)), (.call 156 [(.t 44)])⟩, ⟨(some 46), (some (38, true)), (.bin false .sub (.t 40) (.t 45))⟩, ⟨(some 47), (some (38, true)), (.bin false .lss (.t 39) (.t 46))⟩, ⟨(some 48), none, (.pick (.t 38) (.t 47) (.c (.bool false)))⟩]) (.cond (.t 48) .skip (.exit 2))) (.seq (.block 3 (.seq (.reg [⟨(some 51), none, (.mov (.t 9))⟩, ⟨(some 52), none, (.mov (.t 10))⟩, ⟨(some 53), none, (.idx 1 (.t 51) (.t 52))⟩, ⟨(some 54), none, (.ld none (.int .i64 0) (.t 53))⟩, ⟨(some 55), none, (.bin false .neq (.t 54) (.c (.int .i64 0)))⟩]) (.cond (.t 55) (.seq (.reg [⟨(some 56), none, (.mov (.t 6))⟩, ⟨(some 57), none, (.mov (.t 8))⟩, ⟨(some 58), none, (.idx 1 (.t 56) (.t 57))⟩, ⟨(some 59), none, (.ld none (.int .i64 0) (.t 58))⟩, ⟨(some 4), none, (.mov (.t 59))⟩, ⟨(some 5), none, (.mov (.c (.bool true)))⟩]) .ret) .skip))) (.reg [⟨(some 49), none, (.mov (.t 10))⟩, ⟨(some 50), none, (.bin false .add (.t 49) (.c (.int .i64 1)))⟩, ⟨(some 10), none, (.mov (.t 50))⟩])))
def sc_s_BadLink_L0 : SC := (.seq (.seq (.reg [⟨(some 16), none, (.mov (.t 8))⟩, ⟨(some 17), none, (.mov (.t 6))⟩, ⟨(some 18), none, (.len (.t 17))⟩, ⟨(some 19), none, (.bin false .lss (.t 16) (.t 18))⟩, ⟨(some 20), none, (.mov (.t 19))⟩, ⟨(some 21), (some (20, true)), (.mov (.t 1))⟩, ⟨(some 22), (some (20, true)), (.call 25 [(.t 21)])⟩, ⟨(some 23), none, (.pick (.t 20) (.t 22) (.c (.bool false)))⟩]) (.cond (.t 23) .skip (.exit 0))) (.seq (.block 1 (.seq (.dreg [⟨⟨(some 26), none, (.ld (some 2) .undef (.t 2))⟩, false, false⟩, ⟨⟨(some 27), none, (.mov (.t 6))⟩, false, false⟩, ⟨⟨(some 28), none, (.mov (.t 8))⟩, false, false⟩, ⟨⟨(some 29), none, (.idx 1 (.t 27) (.t 28))⟩, false, false⟩, ⟨⟨(some 30), none, (.ld none (.int .i64 0) (.t 29))⟩, false, false⟩, ⟨⟨(some 31), none, (.call 199 [(.t 26), (.t 30)])⟩, false, false⟩, ⟨⟨(some 32), none, (.mov (.t 1))⟩, false, false⟩, ⟨⟨(some 33), none, (.call 27 [(.t 31), (.t 32)])⟩, false, false⟩, ⟨⟨(some 9), none, (.mov (.t 33))⟩, false, false⟩]) (.seq (.reg [⟨(some 10), none, (.mov (.c (.int .i64 0)))⟩]) (.block 2 (.loop sc_s_BadLink_L2))))) (.reg [⟨(some 24), none, (.mov (.t 8))⟩, ⟨(some 25), none, (.bin false .add (.t 24) (.c (.int .i64 1)))⟩, ⟨(some 8), none, (.mov (.t 25))⟩])))
def sc_s_BadLink : SC := (.seq (.reg [⟨(some 2), none, (.box (.t 0))⟩, ⟨(some 4), none, (.mov (.c (.int .i64 0)))⟩, ⟨(some 5), none, (.mov (.c (.bool false)))⟩]) (.seq (.reg [⟨(some 11), none, (.ld (some 2) .undef (.t 2))⟩, ⟨(some 12), none, (.call 43 [(.t 11)])⟩, ⟨(some 6), none, (.mov (.t 12))⟩]) (.seq (.reg [⟨(some 13), none, (.ld (some 2) .undef (.t 2))⟩, ⟨(some 14), none, (.call 155 [(.t 13)])⟩, ⟨(some 15), none, (.bin false .add (.t 14) (.c (.int .i64 1)))⟩, ⟨(some 7), none, (.mov (.t 15))⟩]) (.seq (.seq (.reg [⟨(some 8), none, (.mov (.c (.int .i64 0)))⟩]) (.block 0 (.loop sc_s_BadLink_L0))) (.seq (.reg [⟨(some 4), none, (.mov (.c (.int .i64 0)))⟩, ⟨(some 5), none, (.mov (.c (.bool false)))⟩]) .ret)))))
/-- A face whose link has a hole below the top. -/
def bdP (p : Int) (q : Int → Prop) (s : Int) : Prop := ∃ k : Nat, k < (holL p (lnkP q s)).length ∧ at0 (holL p (lnkP q s)) k ≠ 0 ∧ (k : Int) < topZ q - sz s
def bdR (L : List Int) (P : Int → Prop) (x : Int × Bool) : Prop := (x = (0, false) ∧ ∀ i, i < L.length → ¬ P (at0 L i)) ∨ ∃ i, i < L.length ∧ P (at0 L i) ∧ x = (at0 L i, true) ∧ ∀ j, j < i → ¬ P (at0 L j)
theorem bd_ex (L : List Int) (P : Int → Prop) : ∃ x, bdR L P x := by
  rcases least_nat (fun i => P (at0 L i)) L.length with h | ⟨i, a, b, c⟩
  · exact ⟨_, .inl ⟨rfl, h⟩⟩
  · exact ⟨_, .inr ⟨i, a, b, rfl, c⟩⟩
noncomputable def bdX (L : List Int) (P : Int → Prop) : Int × Bool := Classical.choose (bd_ex L P)
theorem bdX_none {L : List Int} {P : Int → Prop} (h : ∀ i, i < L.length → ¬ P (at0 L i)) : bdX L P = (0, false) := by
  rcases (Classical.choose_spec (bd_ex L P) : bdR L P (bdX L P)) with ⟨e, _⟩ | ⟨i, a, b, _⟩
  · exact e
  · exact absurd b (h i a)
theorem bdX_hit {L : List Int} {P : Int → Prop} {i : Nat} (hi : i < L.length) (h : P (at0 L i)) (hm : ∀ j, j < i → ¬ P (at0 L j)) : bdX L P = (at0 L i, true) := by
  rcases (Classical.choose_spec (bd_ex L P) : bdR L P (bdX L P)) with ⟨_, h2⟩ | ⟨k, a, b, e, c⟩
  · exact absurd h (h2 i hi)
  · have e2 : bdX L P = (at0 L k, true) := e
    rw [e2]
    rcases Nat.lt_trichotomy i k with h1 | h1 | h1
    · exact absurd h (c i h1)
    · rw [h1]
    · exact absurd b (hm k h1)
open Classical in
noncomputable def blL (n : Int) (l : List Int) (p : Int) : List Int := if cplx n l ∧ fpP p then setsOf (faceS l) else []
noncomputable def blX (n : Int) (l : List Int) (p : Int) : Int × Bool := bdX (blL n l p) (bdP p (faceS l))
noncomputable def F_s_BadLink : List V → Option V := F2 dC dI fun c p => some (.tup [.int .i64 (blX c.1 c.2 p).1, .bool (blX c.1 c.2 p).2])
end Go.Proofs.Ytmemomfffehnkaa
namespace Go.Proofs.Ytmemomfffehnkaa
open Go Go.RowKit
set_option maxRecDepth 1000000
set_option linter.unusedSimpArgs false
set_option linter.unusedVariables false
set_option maxHeartbeats 1000000
def sc_i_modMatrix_L2 : SC := (.seq (.reg [⟨(some 29), none, (.bin false .lss (.t 28) (.t 27))⟩]) (.seq (.cond (.t 29) .skip (.exit 2)) (.seq (.block 3 (.seq (.reg [⟨(some 30), none, (.mov (.t 28))⟩, ⟨(some 31), none, (.idx 1 (.t 26) (.t 28))⟩, ⟨(some 32), none, (.ld none (.int .i64 0) (.t 31))⟩, ⟨(some 8), none, (.mov (.t 30))⟩, ⟨(some 9), none, (.mov (.t 32))⟩]) (.dreg [⟨⟨(some 33), none, (.mov (.t 5))⟩, false, false⟩, ⟨⟨(some 34), none, (.mov (.t 6))⟩, false, false⟩, ⟨⟨(some 35), none, (.idx 1 (.t 33) (.t 34))⟩, false, false⟩, ⟨⟨(some 36), none, (.ld none .nil (.t 35))⟩, false, false⟩, ⟨⟨(some 37), none, (.mov (.t 8))⟩, false, false⟩, ⟨⟨(some 38), none, (.mov (.t 9))⟩, false, false⟩, ⟨⟨(some 39), none, (.mov (.t 1))⟩, false, false⟩, ⟨⟨(some 40), none, (.call 125 [(.t 38), (.t 39)])⟩, false, false⟩, ⟨⟨(some 41), none, (.idx 1 (.t 36) (.t 37))⟩, false, false⟩, ⟨⟨none, none, (.st 1 (.t 41) (.t 40))⟩, true, false⟩]))) (.reg [⟨(some 42), none, (.bin false .add (.t 28) (.c (.int .i64 1)))⟩, ⟨(some 28), none, (.mov (.t 42))⟩]))))
def sc_i_modMatrix_L0 : SC := (.seq (.reg [⟨(some 16), none, (.bin false .lss (.t 15) (.t 14))⟩]) (.seq (.cond (.t 16) .skip (.exit 0)) (.seq (.block 1 (.seq (.reg [⟨(some 17), none, (.mov (.t 15))⟩, ⟨(some 18), none, (.idx 1 (.t 13) (.t 15))⟩, ⟨(some 19), none, (.ld none .nil (.t 18))⟩, ⟨(some 6), none, (.mov (.t 17))⟩, ⟨(some 7), none, (.mov (.t 19))⟩]) (.seq (.reg [⟨(some 20), none, (.mov (.t 5))⟩, ⟨(some 21), none, (.mov (.t 6))⟩, ⟨(some 22), none, (.mov (.t 7))⟩, ⟨(some 23), none, (.len (.t 22))⟩, ⟨(some 24), none, (.mk 1 8 [(.int .i64 0)] (.t 23) (.t 23))⟩, ⟨(some 25), none, (.idx 1 (.t 20) (.t 21))⟩, ⟨none, none, (.st 1 (.t 25) (.t 24))⟩]) (.seq (.reg [⟨(some 26), none, (.mov (.t 7))⟩, ⟨(some 27), none, (.len (.t 26))⟩, ⟨(some 28), none, (.mov (.c (.int .i64 0)))⟩]) (.block 2 (.loop sc_i_modMatrix_L2)))))) (.reg [⟨(some 43), none, (.bin false .add (.t 15) (.c (.int .i64 1)))⟩, ⟨(some 15), none, (.mov (.t 43))⟩]))))
def sc_i_modMatrix : SC := (.seq (.reg [⟨(some 4), none, (.mov (.c .nil))⟩]) (.seq (.reg [⟨(some 10), none, (.mov (.t 0))⟩, ⟨(some 11), none, (.len (.t 10))⟩, ⟨(some 12), none, (.mk 1 24 [.nil] (.t 11) (.t 11))⟩, ⟨(some 5), none, (.mov (.t 12))⟩]) (.seq (.seq (.reg [⟨(some 13), none, (.mov (.t 0))⟩, ⟨(some 14), none, (.len (.t 13))⟩, ⟨(some 15), none, (.mov (.c (.int .i64 0)))⟩]) (.block 0 (.loop sc_i_modMatrix_L0))) (.seq (.reg [⟨(some 44), none, (.mov (.t 5))⟩, ⟨(some 4), none, (.mov (.t 44))⟩]) .ret))))
theorem code_i_modMatrix : fnCode Try.prog [] 119 = some (45, sc_i_modMatrix, [(4, none)]) := by kernel_rfl
theorem fn_i_modMatrix : FnOk Try.prog 119 F_i_modMatrix := by
  have env := (envNil_ok (P := Try.prog)).add fn_i_restMod
  refine fn_ok code_i_modMatrix mixed env ?_
  intro args r h hb
  obtain ⟨_, _, M, p, rfl, h1, h2, h4⟩ := F2_inv h
  cases dLL_inv h1
  cases dI_inv h2
  simp only [Option.ite_none_right_eq_some, Option.some.injEq] at h4
  obtain ⟨⟨hp, hml, hrl⟩, rfl⟩ := h4
  clear h
  refine ⟨by simp, fun w0 U0 L0 N0 => ?_⟩
  clear hb
  have hFm := fn_restMod_at hp
  have hol := modM_len p M
  have hoa := fun (i : Nat) (hi : i < M.length) => modM_at (p := p) hi
  generalize modM p M = O at *
  simp -implicitDefEqProofs [sc_i_modMatrix]
  repeat' (first | omega | apply And.intro)
  have inner : ∀ (i : Nat) (Q : Post) (T0 : Tm), i < M.length → subE T0 [(1, .int .i64 p), (5, .sl 0 1 0 M.length), (6, .int .i64 (i : Int)), (13, .list 1 (rowsL M)), (14, .int .i64 (M.length : Int)), (15, .int .i64 (i : Int)), (26, .list 1 (ints (atR M i))), (27, .int .i64 ((atR M i).length : Int)), (28, .int .i64 0)] →
      Q (.exit 2) [(1, .int .i64 p), (5, .sl 0 1 0 M.length), (13, .list 1 (rowsL M)), (14, .int .i64 (M.length : Int)), (15, .int .i64 (i : Int))] ([(0, rowsV (padR O (i + 1)))], 1) →
      LoopI ⟨Try.prog, w0, U0, L0, N0, 0, 45⟩ [] sc_i_modMatrix_L2 Q T0 ([(1, ints (zK (atR M i).length (fun j => at0 (atR M i) j % p) 0)), (0, (rowsV (padR O i)).set i (.sl 1 1 0 (atR M i).length))], 2) := by
    intro i Q T0 hi hsub q1
    have hiO : i < O.length := by omega
    have hri := hrl i hi
    refine loopQ env mixed (fun j : Nat => [(1, .int .i64 p), (5, .sl 0 1 0 M.length), (6, .int .i64 (i : Int)), (13, .list 1 (rowsL M)), (14, .int .i64 (M.length : Int)), (15, .int .i64 (i : Int)), (26, .list 1 (ints (atR M i))), (27, .int .i64 ((atR M i).length : Int)), (28, .int .i64 (j : Int))]) (fun j => ([(1, ints (zK (atR M i).length (fun j => at0 (atR M i) j % p) j)), (0, (rowsV (padR O i)).set i (.sl 1 1 0 (atR M i).length))], 2)) (fun j => j ≤ (atR M i).length) (fun j => (atR M i).length - j) 0 (by simp) (SubI.slots rfl (by simpa using hsub)) ?_
    intro j hj
    by_cases hlt : j < (atR M i).length
    · have hset : (zK (atR M i).length (fun j => at0 (atR M i) j % p) j).set j (at0 (atR M i) j % p) = zK (atR M i).length (fun j => at0 (atR M i) j % p) (j + 1) := zK_set (g := fun j => at0 (atR M i) j % p) hlt
      have hgl := zK_len (atR M i).length (fun j => at0 (atR M i) j % p) j
      generalize zK (atR M i).length (fun j => at0 (atR M i) j % p) j = g at *
      simp -implicitDefEqProofs [sc_i_modMatrix_L2, hFm, hlt, hi, hol, hgl, hset]
      repeat' (first | omega | apply And.intro)
      exact Again.of (j + 1) (by omega) (by omega) (SubI.slots (by simp) (by simp (disch := omega) [wrapI]))
    · have : j = (atR M i).length := by omega
      subst this
      have hfu := zK_full (atR M i).length (fun j => at0 (atR M i) j % p)
      rw [← hoa i hi] at hfu
      have hps := padR_set hiO
      have hal : (atR O i).length = (atR M i).length := by rw [hoa i hi]; simp
      rw [hfu]
      simp -implicitDefEqProofs [sc_i_modMatrix_L2]
      refine SubQ.of ?_ q1
      refine SubI.fold 0 1 i 1 (atR M i).length (cn := ints (atR O i)) (co := (rowsV (padR O i)).set i (.sl 1 1 0 (atR M i).length)) (by simp) (by simp) (by simp [hiO]) (by simp [hal]) ?_
      refine SubI.ren (fun m => if m = 0 then some 0 else none) ?_ ?_ ?_ (by simp) (by simp)
      · simp [subT, renV, ren1]
      · simp [subH, hps]
      · intro m hm
        simp only at hm
        rw [if_neg (by omega)]
  refine loopI env mixed (fun i : Nat => [(1, .int .i64 p), (5, .sl 0 1 0 M.length), (13, .list 1 (rowsL M)), (14, .int .i64 (M.length : Int)), (15, .int .i64 (i : Int))]) (fun i => ([(0, rowsV (padR O i))], 1)) (fun i => i ≤ M.length) (fun i => M.length - i) 0 (by simp) (SubI.nilAll 0 1 (by simp; rfl) (by simp) (SubI.slots (by simp [padR_zero, rowsV, hol]) (by simp))) ?_
  intro i hi
  by_cases hlt : i < M.length
  · have hin := inner i
    have hri := hrl i hlt
    have hd0 := rowsL_drop0 hlt .nil
    have hz := zK_zero (atR M i).length (fun j => at0 (atR M i) j % p)
    simp -implicitDefEqProofs [sc_i_modMatrix_L0, hlt, hol, hd0]
    rw [← hz]
    repeat' (first | omega | apply And.intro)
    refine hin _ _ hlt (by simp) ?_
    simp -implicitDefEqProofs
    exact Again.of (i + 1) (by omega) (by omega) (SubI.slots (by simp) (by simp (disch := omega) [wrapI]))
  · have : i = M.length := by omega
    subst this
    have hpf : padR O M.length = O := by rw [← hol, padR_full]
    have ht : O.take M.length = O := List.take_of_length_le (by omega)
    simp -implicitDefEqProofs [sc_i_modMatrix_L0, hpf, ht]
    try omega
end Go.Proofs.Ytmemomfffehnkaa
namespace Go.Proofs.Ytmemomfffehnkaa
open Go Go.RowKit
set_option maxRecDepth 1000000
set_option linter.unusedSimpArgs false
set_option linter.unusedVariables false
set_option maxHeartbeats 1000000
def sc_i_reduceMod_L8 : SC := (.seq (.reg [⟨(some 133), none, (.bin false .lss (.t 132) (.t 131))⟩]) (.seq (.cond (.t 133) .skip (.exit 8)) (.seq (.block 9 (.seq (.reg [⟨(some 134), none, (.mov (.t 132))⟩, ⟨(some 15), none, (.mov (.t 134))⟩]) (.dreg [⟨⟨(some 135), none, (.mov (.t 0))⟩, false, false⟩, ⟨⟨(some 136), none, (.mov (.t 13))⟩, false, false⟩, ⟨⟨(some 137), none, (.idx 1 (.t 135) (.t 136))⟩, false, false⟩, ⟨⟨(some 138), none, (.ld none .nil (.t 137))⟩, false, false⟩, ⟨⟨(some 139), none, (.mov (.t 15))⟩, false, false⟩, ⟨⟨(some 140), none, (.mov (.t 0))⟩, false, false⟩, ⟨⟨(some 141), none, (.mov (.t 13))⟩, false, false⟩, ⟨⟨(some 142), none, (.idx 1 (.t 140) (.t 141))⟩, false, false⟩, ⟨⟨(some 143), none, (.ld none .nil (.t 142))⟩, false, false⟩, ⟨⟨(some 144), none, (.mov (.t 15))⟩, false, false⟩, ⟨⟨(some 145), none, (.idx 1 (.t 143) (.t 144))⟩, false, false⟩, ⟨⟨(some 146), none, (.ld none (.int .i64 0) (.t 145))⟩, false, false⟩, ⟨⟨(some 147), none, (.mov (.t 14))⟩, false, false⟩, ⟨⟨(some 148), none, (.mov (.t 0))⟩, false, false⟩, ⟨⟨(some 149), none, (.mov (.t 9))⟩, false, false⟩, ⟨⟨(some 150), none, (.idx 1 (.t 148) (.t 149))⟩, false, false⟩, ⟨⟨(some 151), none, (.ld none .nil (.t 150))⟩, false, false⟩, ⟨⟨(some 152), none, (.mov (.t 15))⟩, false, false⟩, ⟨⟨(some 153), none, (.idx 1 (.t 151) (.t 152))⟩, false, false⟩, ⟨⟨(some 154), none, (.ld none (.int .i64 0) (.t 153))⟩, false, false⟩, ⟨⟨(some 155), none, (.bin false .mul (.t 147) (.t 154))⟩, false, false⟩, ⟨⟨(some 156), none, (.bin false .add (.t 146) (.t 155))⟩, false, false⟩, ⟨⟨(some 157), none, (.mov (.t 2))⟩, false, false⟩, ⟨⟨(some 158), none, (.bin false .rem (.t 156) (.t 157))⟩, false, false⟩, ⟨⟨(some 159), none, (.idx 1 (.t 138) (.t 139))⟩, false, false⟩, ⟨⟨none, none, (.st 1 (.t 159) (.t 158))⟩, true, false⟩]))) (.reg [⟨(some 160), none, (.bin false .add (.t 132) (.c (.int .i64 1)))⟩, ⟨(some 132), none, (.mov (.t 160))⟩]))))
def sc_i_reduceMod_L6 : SC := (.seq (.reg [⟨(some 103), none, (.bin false .lss (.t 102) (.t 101))⟩]) (.seq (.cond (.t 103) .skip (.exit 6)) (.seq (.block 7 (.seq (.reg [⟨(some 104), none, (.mov (.t 102))⟩, ⟨(some 13), none, (.mov (.t 104))⟩]) (.seq (.seq (.reg [⟨(some 105), none, (.mov (.t 13))⟩, ⟨(some 106), none, (.mov (.t 9))⟩, ⟨(some 107), none, (.bin false .eql (.t 105) (.t 106))⟩, ⟨(some 108), none, (.mov (.t 107))⟩, ⟨(some 109), (some (108, false)), (.mov (.t 0))⟩, ⟨(some 110), (some (108, false)), (.mov (.t 13))⟩, ⟨(some 111), (some (108, false)), (.idx 1 (.t 109) (.t 110))⟩, ⟨(some 112), (some (108, false)), (.ld none .nil (.t 111))⟩, ⟨(some 113), (some (108, false)), (.mov (.t 8))⟩, ⟨(some 114), (some (108, false)), (.idx 1 (.t 112) (.t 113))⟩, ⟨(some 115), (some (108, false)), (.ld none (.int .i64 0) (.t 114))⟩, ⟨(some 116), (some (108, false)), (.bin false .eql (.t 115) (.c (.int .i64 0)))⟩, ⟨(some 117), none, (.pick (.t 108) (.c (.bool true)) (.t 116))⟩]) (.cond (.t 117) (.exit 7) .skip)) (.seq (.reg [⟨(some 118), none, (.mov (.t 2))⟩, ⟨(some 119), none, (.mov (.t 0))⟩, ⟨(some 120), none, (.mov (.t 13))⟩, ⟨(some 121), none, (.idx 1 (.t 119) (.t 120))⟩, ⟨(some 122), none, (.ld none .nil (.t 121))⟩, ⟨(some 123), none, (.mov (.t 8))⟩, ⟨(some 124), none, (.idx 1 (.t 122) (.t 123))⟩, ⟨(some 125), none, (.ld none (.int .i64 0) (.t 124))⟩, ⟨(some 126), none, (.bin false .sub (.t 118) (.t 125))⟩, ⟨(some 14), none, (.mov (.t 126))⟩]) (.seq (.reg [⟨(some 127), none, (.mov (.t 0))⟩, ⟨(some 128), none, (.mov (.t 13))⟩, ⟨(some 129), none, (.idx 1 (.t 127) (.t 128))⟩, ⟨(some 130), none, (.ld none .nil (.t 129))⟩, ⟨(some 131), none, (.len (.t 130))⟩, ⟨(some 132), none, (.mov (.c (.int .i64 0)))⟩]) (.block 8 (.loop sc_i_reduceMod_L8))))))) (.reg [⟨(some 161), none, (.bin false .add (.t 102) (.c (.int .i64 1)))⟩, ⟨(some 102), none, (.mov (.t 161))⟩]))))
def sc_i_reduceMod_L4 : SC := (.seq (.reg [⟨(some 80), none, (.bin false .lss (.t 79) (.t 78))⟩]) (.seq (.cond (.t 80) .skip (.exit 4)) (.seq (.block 5 (.seq (.reg [⟨(some 81), none, (.mov (.t 79))⟩, ⟨(some 12), none, (.mov (.t 81))⟩]) (.dreg [⟨⟨(some 82), none, (.mov (.t 0))⟩, false, false⟩, ⟨⟨(some 83), none, (.mov (.t 9))⟩, false, false⟩, ⟨⟨(some 84), none, (.idx 1 (.t 82) (.t 83))⟩, false, false⟩, ⟨⟨(some 85), none, (.ld none .nil (.t 84))⟩, false, false⟩, ⟨⟨(some 86), none, (.mov (.t 12))⟩, false, false⟩, ⟨⟨(some 87), none, (.mov (.t 0))⟩, false, false⟩, ⟨⟨(some 88), none, (.mov (.t 9))⟩, false, false⟩, ⟨⟨(some 89), none, (.idx 1 (.t 87) (.t 88))⟩, false, false⟩, ⟨⟨(some 90), none, (.ld none .nil (.t 89))⟩, false, false⟩, ⟨⟨(some 91), none, (.mov (.t 12))⟩, false, false⟩, ⟨⟨(some 92), none, (.idx 1 (.t 90) (.t 91))⟩, false, false⟩, ⟨⟨(some 93), none, (.ld none (.int .i64 0) (.t 92))⟩, false, false⟩, ⟨⟨(some 94), none, (.mov (.t 11))⟩, false, false⟩, ⟨⟨(some 95), none, (.bin false .mul (.t 93) (.t 94))⟩, false, false⟩, ⟨⟨(some 96), none, (.mov (.t 2))⟩, false, false⟩, ⟨⟨(some 97), none, (.bin false .rem (.t 95) (.t 96))⟩, false, false⟩, ⟨⟨(some 98), none, (.idx 1 (.t 85) (.t 86))⟩, false, false⟩, ⟨⟨none, none, (.st 1 (.t 98) (.t 97))⟩, true, false⟩]))) (.reg [⟨(some 99), none, (.bin false .add (.t 79) (.c (.int .i64 1)))⟩, ⟨(some 79), none, (.mov (.t 99))⟩]))))
def sc_i_reduceMod_L2 : SC := (.seq (.seq (.reg [⟨(some 31), none, (.mov (.t 10))⟩, ⟨(some 32), none, (.mov (.t 0))⟩, ⟨(some 33), none, (.len (.t 32))⟩, ⟨(some 34), none, (.bin false .lss (.t 31) (.t 33))⟩, ⟨(some 35), none, (.mov (.t 34))⟩, ⟨(some 36), (some (35, true)), (.mov (.t 0))⟩, ⟨(some 37), (some (35, true)), (.mov (.t 10))⟩, ⟨(some 38), (some (35, true)), (.idx 1 (.t 36) (.t 37))⟩, ⟨(some 39), (some (35, true)), (.ld none .nil (.t 38))⟩, ⟨(some 40), (some (35, true)), (.mov (.t 8))⟩, ⟨(some 41), (some (35, true)), (.idx 1 (.t 39) (.t 40))⟩, ⟨(some 42), (some (35, true)), (.ld none (.int .i64 0) (.t 41))⟩, ⟨(some 43), (some (35, true)), (.bin false .eql (.t 42) (.c (.int .i64 0)))⟩, ⟨(some 44), none, (.pick (.t 35) (.t 43) (.c (.bool false)))⟩]) (.cond (.t 44) .skip (.exit 2))) (.block 3 (.reg [⟨(some 45), none, (.mov (.t 10))⟩, ⟨(some 46), none, (.bin false .add (.t 45) (.c (.int .i64 1)))⟩, ⟨(some 10), none, (.mov (.t 46))⟩])))
def sc_i_reduceMod_L0 : SC := (.seq (.seq (.reg [⟨(some 16), none, (.mov (.t 8))⟩, ⟨(some 17), none, (.mov (.t 1))⟩, ⟨(some 18), none, (.bin false .lss (.t 16) (.t 17))⟩, ⟨(some 19), none, (.mov (.t 18))⟩, ⟨(some 20), (some (19, true)), (.mov (.t 7))⟩, ⟨(some 21), (some (19, true)), (.len (.t 20))⟩, ⟨(some 22), (some (19, true)), (.mov (.t 0))⟩, ⟨(some 23), (some (19, true)), (.len (.t 22))⟩, ⟨(some 24), (some (19, true)), (.bin false .lss (.t 21) (.t 23))⟩, ⟨(some 25), none, (.pick (.t 19) (.t 24) (.c (.bool false)))⟩]) (.cond (.t 25) .skip (.exit 0))) (.seq (.block 1 (.seq (.reg [⟨(some 28), none, (.mov (.t 7))⟩, ⟨(some 29), none, (.len (.t 28))⟩, ⟨(some 9), none, (.mov (.t 29))⟩]) (.seq (.reg [⟨(some 30), none, (.mov (.t 9))⟩, ⟨(some 10), none, (.mov (.t 30))⟩]) (.seq (.block 2 (.loop sc_i_reduceMod_L2)) (.seq (.seq (.reg [⟨(some 47), none, (.mov (.t 10))⟩, ⟨(some 48), none, (.mov (.t 0))⟩, ⟨(some 49), none, (.len (.t 48))⟩, ⟨(some 50), none, (.bin false .eql (.t 47) (.t 49))⟩]) (.cond (.t 50) (.exit 1) .skip)) (.seq (.dreg [⟨⟨(some 51), none, (.mov (.t 0))⟩, false, false⟩, ⟨⟨(some 52), none, (.mov (.t 9))⟩, false, false⟩, ⟨⟨(some 53), none, (.mov (.t 0))⟩, false, true⟩, ⟨⟨(some 54), none, (.mov (.t 10))⟩, false, true⟩, ⟨⟨(some 55), none, (.mov (.t 0))⟩, false, false⟩, ⟨⟨(some 56), none, (.mov (.t 10))⟩, false, false⟩, ⟨⟨(some 57), none, (.idx 1 (.t 55) (.t 56))⟩, false, false⟩, ⟨⟨(some 58), none, (.ld none .nil (.t 57))⟩, false, false⟩, ⟨⟨(some 59), none, (.mov (.t 0))⟩, false, false⟩, ⟨⟨(some 60), none, (.mov (.t 9))⟩, false, false⟩, ⟨⟨(some 61), none, (.idx 1 (.t 59) (.t 60))⟩, false, false⟩, ⟨⟨(some 62), none, (.ld none .nil (.t 61))⟩, false, false⟩, ⟨⟨(some 63), none, (.idx 1 (.t 51) (.t 52))⟩, false, false⟩, ⟨⟨none, none, (.st 1 (.t 63) (.t 58))⟩, true, false⟩, ⟨⟨(some 64), none, (.idx 1 (.t 53) (.t 54))⟩, false, false⟩, ⟨⟨none, none, (.st 1 (.t 64) (.t 62))⟩, true, false⟩]) (.seq (.reg [⟨(some 65), none, (.mov (.t 0))⟩, ⟨(some 66), none, (.mov (.t 9))⟩, ⟨(some 67), none, (.idx 1 (.t 65) (.t 66))⟩, ⟨(some 68), none, (.ld none .nil (.t 67))⟩, ⟨(some 69), none, (.mov (.t 8))⟩, ⟨(some 70), none, (.idx 1 (.t 68) (.t 69))⟩, ⟨(some 71), none, (.ld none (.int .i64 0) (.t 70))⟩, ⟨(some 72), none, (.mov (.t 2))⟩, ⟨(some 73), none, (.call 209 [(.t 71), (.t 72)])⟩, ⟨(some 11), none, (.mov (.t 73))⟩]) (.seq (.seq (.reg [⟨(some 74), none, (.mov (.t 0))⟩, ⟨(some 75), none, (.mov (.t 9))⟩, ⟨(some 76), none, (.idx 1 (.t 74) (.t 75))⟩, ⟨(some 77), none, (.ld none .nil (.t 76))⟩, ⟨(some 78), none, (.len (.t 77))⟩, ⟨(some 79), none, (.mov (.c (.int .i64 0)))⟩]) (.block 4 (.loop sc_i_reduceMod_L4))) (.seq (.seq (.reg [⟨(some 100), none, (.mov (.t 0))⟩, ⟨(some 101), none, (.len (.t 100))⟩, ⟨(some 102), none, (.mov (.c (.int .i64 0)))⟩]) (.block 6 (.loop sc_i_reduceMod_L6))) (.reg [⟨(some 162), none, (.mov (.t 7))⟩, ⟨(some 163), none, (.mov (.t 8))⟩, ⟨(some 164), none, (.mks 1 1 [(.int .i64 0)] [(0, (1, (.t 163)))])⟩, ⟨(some 165), none, (.app 1 8 (.t 162) (.t 164))⟩, ⟨(some 7), none, (.mov (.t 165))⟩])))))))))) (.reg [⟨(some 26), none, (.mov (.t 8))⟩, ⟨(some 27), none, (.bin false .add (.t 26) (.c (.int .i64 1)))⟩, ⟨(some 8), none, (.mov (.t 27))⟩])))
def sc_i_reduceMod : SC := (.seq (.reg [⟨(some 6), none, (.mov (.c .nil))⟩]) (.seq (.reg [⟨(some 7), none, (.mov (.c .nil))⟩]) (.seq (.seq (.reg [⟨(some 8), none, (.mov (.c (.int .i64 0)))⟩]) (.block 0 (.loop sc_i_reduceMod_L0))) (.seq (.reg [⟨(some 166), none, (.mov (.t 7))⟩, ⟨(some 6), none, (.mov (.t 166))⟩]) .ret))))
theorem code_i_reduceMod : fnCode Try.prog [] 121 = some (167, sc_i_reduceMod, [(6, none)]) := by kernel_rfl
noncomputable def G_i_reduceMod : List V → List V → Option (V × List V)
  | [.sl 0 1 0 m, .int .i64 w, .int .i64 p], cells => (dRowsV cells).bind fun M => @ite _ (∃ W, matI p W m M ∧ 0 ≤ w ∧ w ≤ W) (Classical.propDecidable _) (some (.own 1 (ints (redS p M w.toNat).2), rowsV (redS p M w.toNat).1)) none
  | _, _ => none
theorem swp_self {M : List (List Int)} {d : Nat} (h : d < M.length) : swp M d d = M := atR_ext (by simp) fun k hk => by
  rw [swp_len] at hk
  rw [swp_at h h hk]
  split
  · rename_i e; rw [e]
  · rfl
theorem swp_cells {M : List (List Int)} {d a : Nat} (hda : d ≠ a) (x z : V) : ((((rowsV M).set a x).set d x).set a z).set a (.own 1 (ints (atR M d))) = (rowsV (swp M d a)).set d x := by
  unfold swp
  rw [← rowsV_set, ← rowsV_set]
  apply List.ext_getElem (by simp)
  intro k h1 h2
  simp only [List.getElem_set]
  by_cases e1 : a = k
  · have e2 : ¬ d = k := fun e => hda (e.trans e1.symm)
    simp [e1, e2]
  · by_cases e2 : d = k
    · simp [e1, e2]
    · simp [e1, e2]
theorem elG_impl (x c y p : Int) : (x + (p - c) * y) % p = (x - c * y) % p := by
  rw [Int.sub_mul, show x + (p * y - c * y) = (x - c * y) + p * y by omega, Int.add_mul_emod_self_left]
theorem ln_i_reduceMod : LendOk Try.prog 121 0 G_i_reduceMod := by
  have env := (envNil_ok (P := Try.prog)).add fn_i_InverseMod
  refine fn_lend code_i_reduceMod mixed env ?_
  intro args cells r cells' hG hb
  unfold G_i_reduceMod at hG
  split at hG
  case h_2 => simp at hG
  rename_i m w p
  obtain ⟨M, h1, h2⟩ := Option.bind_eq_some_iff.1 hG
  have hc := dRowsV_inv h1
  subst hc
  simp only [Option.ite_none_right_eq_some, Option.some.injEq, Prod.mk.injEq] at h2
  obtain ⟨⟨W, ⟨hp, hm, hok, hW, hml⟩, hw0, hwW⟩, rfl, rfl⟩ := h2
  obtain ⟨w, rfl⟩ : ∃ n : Nat, w = n := ⟨w.toNat, by omega⟩
  clear hG h1 hb
  rw [Int.toNat_natCast]
  refine ⟨by simp, fun w0 U0 L0 N0 => ?_⟩
  have hFI := fn_inv_at hp
  obtain ⟨p1, p2, p3⟩ := fpP_bnd hp
  -- a row is scaled
  have scale : ∀ (M1 : List (List Int)) (P : List Int) (d j : Nat) (Q : Post) (T0 : Tm) (H0 : Hp), M1.length = m → okM p W M1 → d < m → j < W →
      SubI 1 T0 H0 [(0, .sl 0 1 0 m), (1, .int .i64 (w : Int)), (2, .int .i64 p), (7, .sl 1 1 0 P.length), (8, .int .i64 (j : Int)), (9, .int .i64 (d : Int)), (11, .int .i64 (invZ (at0 (atR M1 d) j) p)), (78, .int .i64 (W : Int)), (79, .int .i64 0)] ([(2, ints (atR M1 d)), (1, ints P), (0, (rowsV M1).set d (.sl 2 1 0 W))], 3) →
      Q (.exit 4) [(0, .sl 0 1 0 m), (1, .int .i64 (w : Int)), (2, .int .i64 p), (7, .sl 1 1 0 P.length), (8, .int .i64 (j : Int)), (9, .int .i64 (d : Int))] ([(2, ints (atR (sclM p M1 d j) d)), (1, ints P), (0, (rowsV (sclM p M1 d j)).set d (.sl 2 1 0 W))], 3) →
      LoopI ⟨Try.prog, w0, U0, L0, N0, 1, 167⟩ [] sc_i_reduceMod_L4 Q T0 H0 := by
    intro M1 P d j Q T0 H0 hM1 hok1 hd hj hsub q1
    obtain ⟨hrl, hre⟩ := hok1 d (by omega)
    have hdm : d < M1.length := by omega
    have hrs : atR (sclM p M1 d j) d = sclR p (invZ (at0 (atR M1 d) j) p) (atR M1 d) := by unfold sclM; rw [atR_set, if_pos ⟨rfl, hdm⟩]
    have hcell : (rowsV (sclM p M1 d j)).set d (.sl 2 1 0 W) = (rowsV M1).set d (.sl 2 1 0 W) := rowsV_set2 M1 d _ _
    rw [hrs, hcell] at q1
    obtain ⟨f1, f2⟩ := invZ_bnd (a := at0 (atR M1 d) j) hp
    generalize invZ (at0 (atR M1 d) j) p = f at *
    generalize atR M1 d = rd at *
    refine loopQ env mixed (fun t : Nat => [(0, .sl 0 1 0 m), (1, .int .i64 (w : Int)), (2, .int .i64 p), (7, .sl 1 1 0 P.length), (8, .int .i64 (j : Int)), (9, .int .i64 (d : Int)), (11, .int .i64 f), (78, .int .i64 (W : Int)), (79, .int .i64 (t : Int))]) (fun t => ([(2, ints (pK rd (sclG p f rd) t)), (1, ints P), (0, (rowsV M1).set d (.sl 2 1 0 W))], 3)) (fun t => t ≤ W) (fun t => W - t) 0 (by simp) (by simpa [pK_zero] using hsub) ?_
    intro t ht
    by_cases hlt : t < W
    · have hat := pK_at (r := rd) (g := sclG p f rd) (t := t) (by omega) (Nat.le_refl t)
      have hset : (pK rd (sclG p f rd) t).set t (at0 rd t * f % p) = pK rd (sclG p f rd) (t + 1) := pK_set (r := rd) (g := sclG p f rd) (t := t) (by omega)
      have hgl := pK_len rd (sclG p f rd) t
      obtain ⟨e1, e2⟩ := hre t hlt
      obtain ⟨m1, m2⟩ := mulB p2 e1 e2 f1 f2
      have hwr : IntKind.i64.wrap (at0 rd t * f) = at0 rd t * f := wrapI _ (by omega) (by omega)
      have htm := tmod_nn p m1
      generalize pK rd (sclG p f rd) t = g at *
      simp -implicitDefEqProofs [sc_i_reduceMod_L4, hd, hdm, hM1, hlt, hgl, hrl, hat, hwr, htm, p3, hset]
      repeat' (first | omega | apply And.intro)
      exact Again.of (t + 1) (by omega) (by omega) (SubI.slots (by simp) (by simp (disch := omega) [wrapI]))
    · have : t = W := by omega
      subst this
      have hfull : pK rd (sclG p f rd) rd.length = sclR p f rd := pK_full rd (sclG p f rd)
      rw [hrl] at hfull
      rw [hfull]
      simp -implicitDefEqProofs [sc_i_reduceMod_L4]
      exact SubQ.of (SubI.slots rfl (by simp)) q1
  -- the other rows are cleared
  have clear : ∀ (M1 : List (List Int)) (P : List Int) (d j : Nat) (Q : Post) (T0 : Tm), M1.length = m → okM p W M1 → d < m → j < W →
      subE T0 [(0, .sl 0 1 0 m), (1, .int .i64 (w : Int)), (2, .int .i64 p), (7, .sl 1 1 0 P.length), (8, .int .i64 (j : Int)), (9, .int .i64 (d : Int)), (101, .int .i64 (m : Int)), (102, .int .i64 0)] →
      Q (.exit 6) [(0, .sl 0 1 0 m), (1, .int .i64 (w : Int)), (2, .int .i64 p), (7, .sl 1 1 0 P.length), (8, .int .i64 (j : Int)), (9, .int .i64 (d : Int))] ([(1, ints P), (0, rowsV (clrM p M1 d j))], 3) →
      LoopI ⟨Try.prog, w0, U0, L0, N0, 1, 167⟩ [] sc_i_reduceMod_L6 Q T0 ([(2, ints (atR M1 d)), (1, ints P), (0, (rowsV M1).set d (.sl 2 1 0 W))], 3) := by
    intro M1 P d j Q T0 hM1 hok1 hd hj hsub q1
    have hGd := clrG_d p M1 d j
    have hGn := fun (i : Nat) (h : i ≠ d) => clrG_ne (p := p) (M := M1) (d := d) (j := j) h
    have hfin : pM M1 (clrG p M1 d j) m = clrM p M1 d j := by rw [← hM1]; rfl
    rw [← hfin] at q1
    obtain ⟨hr1, hr2⟩ := hok1 d (by omega)
    generalize clrG p M1 d j = G at *
    generalize hrr : atR M1 d = rs at *
    have hdm1 : d < M1.length := by omega
    refine loopQ env mixed (fun i : Nat => [(0, .sl 0 1 0 m), (1, .int .i64 (w : Int)), (2, .int .i64 p), (7, .sl 1 1 0 P.length), (8, .int .i64 (j : Int)), (9, .int .i64 (d : Int)), (101, .int .i64 (m : Int)), (102, .int .i64 (i : Int))]) (fun i => ([(2, ints rs), (1, ints P), (0, (rowsV (pM M1 G i)).set d (.sl 2 1 0 W))], 3)) (fun i => i ≤ m) (fun i => m - i) 0 (by simp) (SubI.slots (by simp [pM_zero]) (by simpa using hsub)) ?_
    intro i hi
    have hml2 := pM_len M1 G i
    by_cases hlt2 : i < m
    · have him : i < M1.length := by omega
      by_cases hid : i = d
      · subst hid
        have hk : pM M1 G (i + 1) = pM M1 G i := pM_keep him (by rw [hGd, hrr])
        simp -implicitDefEqProofs [sc_i_reduceMod_L6, hd]
        repeat' (first | omega | apply And.intro)
        exact Again.of (i + 1) (by omega) (by omega) (SubI.slots (by simp [hk]) (by simp (disch := omega) [wrapI]))
      have hid' : d ≠ i := fun e => hid e.symm
      have hidI : ¬ ((i : Int) = (d : Int)) := by omega
      obtain ⟨hs1, hs2⟩ := hok1 i him
      have hge := pM_ge (M := M1) (G := G) him (Nat.le_refl i)
      have hset := pM_set (M := M1) (G := G) him
      have hGi := hGn i hid
      generalize pM M1 G i = Mi at *
      generalize atR M1 i = ri at *
      obtain ⟨c1, c2⟩ := hs2 j hj
      have fold : ∀ (T : Tm) (k : Nat), subE T [(0, .sl 0 1 0 m), (1, .int .i64 (w : Int)), (2, .int .i64 p), (7, .sl 1 1 0 P.length), (8, .int .i64 (j : Int)), (9, .int .i64 (d : Int)), (101, .int .i64 (m : Int)), (102, .int .i64 (k : Int))] →
          SubI 1 T ([(3, ints (G i)), (2, ints rs), (1, ints P), (0, ((rowsV Mi).set d (.sl 2 1 0 W)).set i (.sl 3 1 0 W))], 4) [(0, .sl 0 1 0 m), (1, .int .i64 (w : Int)), (2, .int .i64 p), (7, .sl 1 1 0 P.length), (8, .int .i64 (j : Int)), (9, .int .i64 (d : Int)), (101, .int .i64 (m : Int)), (102, .int .i64 (k : Int))] ([(2, ints rs), (1, ints P), (0, (rowsV (pM M1 G (i + 1))).set d (.sl 2 1 0 W))], 3) := fun T k hTT => by
        have hgil : (G i).length = W := by rw [hGi, elimR_len, hs1]
        refine SubI.fold 0 3 i 1 W (cn := ints (G i)) (co := ((rowsV Mi).set d (.sl 2 1 0 W)).set i (.sl 3 1 0 W)) rfl rfl (by simp [hml2, him]) (by simp [hgil]) ?_
        have hstep := rowsV_step (M := Mi) hid (G i) (.sl 2 1 0 W) (.sl 3 1 0 W)
        rw [hset] at hstep
        rw [hstep]
        simp only [subE_cons, subE_nil, and_true] at hTT
        obtain ⟨e1, e2, e3, e4, e5, e6, e7, e8⟩ := hTT
        refine SubI.ren (fun m => if m = 0 then some 0 else if m = 1 then some 1 else if m = 2 then some 2 else none) ?_ ?_ ?_ (by simp) (by simp)
        · simp [subT, renV, ren1, ← e1, ← e2, ← e3, ← e4, ← e5, ← e6, ← e7, ← e8]
        · simp only [subH, renL_set (renL_rowsV _ _) (show ren1 (fun m => if m = 0 then some 0 else if m = 1 then some 1 else if m = 2 then some 2 else none) (.sl 2 1 0 W) = some (.sl 2 1 0 W) from rfl)]
          simp [subH, renL, ren1]
        · intro m hm
          simp only at hm
          rw [if_neg (by omega), if_neg (by omega), if_neg (by omega)]
      generalize hcc : at0 ri j = c at *
      by_cases hc0 : c = 0
      · subst hc0
        have hG0 : G i = ri := by rw [hGi]; exact elimR_zero (fun q hq => hs2 q (by omega)) rs
        rw [hG0] at fold
        simp -implicitDefEqProofs [sc_i_reduceMod_L6, hlt2, him, hml2, hM1, hj, hid, hid', hidI, hge, hs1, hcc]
        repeat' (first | omega | apply And.intro)
        exact Again.of (i + 1) (by omega) (by omega) (fold _ _ (by simp (disch := omega) [wrapI]))
      simp -implicitDefEqProofs [sc_i_reduceMod_L6, hlt2, him, hml2, hM1, hj, hid, hid', hidI, hge, hs1, hcc, hc0]
      repeat' (first | omega | apply And.intro)
      have hwg : IntKind.i64.wrap (p - c) = p - c := wrapI _ (by omega) (by omega)
      refine loopQ env mixed (fun q : Nat => [(0, .sl 0 1 0 m), (1, .int .i64 (w : Int)), (2, .int .i64 p), (7, .sl 1 1 0 P.length), (8, .int .i64 (j : Int)), (9, .int .i64 (d : Int)), (13, .int .i64 (i : Int)), (14, .int .i64 (p - c)), (101, .int .i64 (m : Int)), (102, .int .i64 (i : Int)), (131, .int .i64 (W : Int)), (132, .int .i64 (q : Int))]) (fun q => ([(3, ints (pK ri (elG p c ri rs) q)), (2, ints rs), (1, ints P), (0, ((rowsV Mi).set d (.sl 2 1 0 W)).set i (.sl 3 1 0 W))], 4)) (fun q => q ≤ W) (fun q => W - q) 0 (by simp) (SubI.slots (by simp [pK_zero]) (by simp [hwg])) ?_
      intro q hq
      by_cases hlt3 : q < W
      · have hat := pK_at (r := ri) (g := elG p c ri rs) (t := q) (by omega) (Nat.le_refl q)
        have hst : (pK ri (elG p c ri rs) q).set q ((at0 ri q - c * at0 rs q) % p) = pK ri (elG p c ri rs) (q + 1) := pK_set (r := ri) (g := elG p c ri rs) (t := q) (by omega)
        have hgl := pK_len ri (elG p c ri rs) q
        obtain ⟨e1, e2⟩ := hs2 q hlt3
        obtain ⟨e3, e4⟩ := hr2 q hlt3
        obtain ⟨m1, m2⟩ := mulB p2 (show 0 ≤ p - c by omega) (by omega) e3 e4
        have hw1 : IntKind.i64.wrap ((p - c) * at0 rs q) = (p - c) * at0 rs q := wrapI _ (by omega) (by omega)
        have hw2 : IntKind.i64.wrap (at0 ri q + (p - c) * at0 rs q) = at0 ri q + (p - c) * at0 rs q := wrapI _ (by omega) (by omega)
        have htm : (at0 ri q + (p - c) * at0 rs q).tmod p = (at0 ri q - c * at0 rs q) % p := by rw [tmod_nn p (by omega), elG_impl]
        generalize pK ri (elG p c ri rs) q = g at *
        simp -implicitDefEqProofs [sc_i_reduceMod_L8, hd, hdm1, hlt2, him, hml2, hM1, hid, hid', hidI, hlt3, hgl, hs1, hr1, hat, hw1, hw2, htm, p3, hst]
        repeat' (first | omega | apply And.intro)
        exact Again.of (q + 1) (by omega) (by omega) (SubI.slots (by simp) (by simp (disch := omega) [wrapI]))
      · have : q = W := by omega
        subst this
        have hfu : pK ri (elG p c ri rs) ri.length = G i := by rw [hGi]; exact pK_full ri (elG p c ri rs)
        rw [hs1] at hfu
        rw [hfu]
        simp -implicitDefEqProofs [sc_i_reduceMod_L8]
        refine SubQ.of (l1 := [(0, .sl 0 1 0 m), (1, .int .i64 (w : Int)), (2, .int .i64 p), (7, .sl 1 1 0 P.length), (8, .int .i64 (j : Int)), (9, .int .i64 (d : Int)), (101, .int .i64 (m : Int)), (102, .int .i64 (i : Int))]) (fold _ _ (by simp)) ?_
        simp -implicitDefEqProofs
        exact Again.of (i + 1) (by omega) (by omega) (SubI.slots (by simp) (by simp (disch := omega) [wrapI]))
    · have : i = m := by omega
      subst this
      have hself := rowsV_self (M := pM M1 G i) (i := d) (by omega)
      rw [pM_lt hdm1 (by omega), hGd] at hself
      simp -implicitDefEqProofs [sc_i_reduceMod_L6]
      refine SubQ.of ?_ q1
      refine SubI.fold 0 2 d 1 W (cn := ints rs) (co := (rowsV (pM M1 G i)).set d (.sl 2 1 0 W)) rfl rfl (by simp [hml2, hdm1]) (by simp [hr1]) ?_
      exact SubI.slots (by simp [hself]) (by simp)
  simp -implicitDefEqProofs [sc_i_reduceMod]
  have inv := fun (j : Nat) => redI_all hp hok j
  refine loopI env mixed (fun j : Nat => [(0, .sl 0 1 0 m), (1, .int .i64 (w : Int)), (2, .int .i64 p), (7, .sl 1 1 0 (redS p M j).2.length), (8, .int .i64 (j : Int))]) (fun j => ([(1, ints (redS p M j).2), (0, rowsV (redS p M j).1)], 2)) (fun j => j ≤ w) (fun j => w - j) 0 (by simp) (SubI.nilN 7 1 (by simp) (SubI.slots (by simp [redS]) (by simp [redS]))) ?_
  intro j hj
  obtain ⟨hokj, hlj, hpj, _, hsj⟩ := inv j
  have hlm : (redS p M j).1.length = m := by rw [hlj, hm]
  have hstep : redS p M (j + 1) = redC p j (redS p M j) := rfl
  have hstop := fun h => redS_stop (p := p) (M := M) (j := j) h (w - j)
  rw [show j + (w - j) = w by omega] at hstop
  by_cases hjw : j < w
  rotate_left
  · have : j = w := by omega
    subst this
    generalize redS p M j = x at *
    obtain ⟨Mj, P⟩ := x
    simp only at hokj hlj hpj hsj hlm
    simp -implicitDefEqProofs [sc_i_reduceMod_L0]
  by_cases hfull : (redS p M j).2.length = m
  · have e := hstop (by rw [hfull, hlm])
    rw [e]
    generalize redS p M j = x at *
    obtain ⟨Mj, P⟩ := x
    simp only at hokj hlj hpj hsj hlm hfull
    have htk : P.take m = P := List.take_of_length_le (by omega)
    simp -implicitDefEqProofs [sc_i_reduceMod_L0, hjw, hfull, htk]
  generalize redS p M j = x at *
  obtain ⟨Mj, P⟩ := x
  simp only at hokj hlj hpj hsj hlm hfull
  have hPm : P.length < m := by omega
  have hjW : j < W := by omega
  have hfb := fndZ_bnd Mj j (m - P.length) P.length
  have hyes := fun (a : Nat) h1 h2 h3 => redC_yes (p := p) (j := j) (M := Mj) (P := P) (a := a) h1 h2 h3
  have hno := redC_no (p := p) (j := j) (M := Mj) (P := P)
  rw [hlm] at hno
  simp only [hlm] at hyes
  simp -implicitDefEqProofs [sc_i_reduceMod_L0, hjw, hPm]
  generalize ha : fndZ Mj j (m - P.length) P.length = a at *
  refine loopQ env mixed (fun i : Nat => [(0, .sl 0 1 0 m), (1, .int .i64 (w : Int)), (2, .int .i64 p), (7, .sl 1 1 0 P.length), (8, .int .i64 (j : Int)), (9, .int .i64 (P.length : Int)), (10, .int .i64 (i : Int))]) (fun _ => ([(1, ints P), (0, rowsV Mj)], 2)) (fun i => P.length ≤ i ∧ i ≤ m ∧ fndZ Mj j (m - i) i = a) (fun i => m - i) P.length ⟨by omega, by omega, ha⟩ (SubI.slots (by simp) (by simp)) ?_
  rintro i ⟨i1, i2, i3⟩
  by_cases him : i < m
  · obtain ⟨hil, hie⟩ := hokj i (by omega)
    by_cases hz : at0 (atR Mj i) j = 0
    · simp -implicitDefEqProofs [sc_i_reduceMod_L2, him, hlm, hjW, hil, hz]
      repeat' (first | omega | apply And.intro)
      refine Again.of (i + 1) ⟨by omega, by omega, by rw [← i3, show m - i = (m - (i + 1)) + 1 by omega, fndZ_yes hz]⟩ (by omega) ?_
      refine SubI.fold 0 2 i 1 W (cn := ints (atR Mj i)) (co := (rowsV Mj).set i (.sl 2 1 0 W)) rfl rfl (by simp [hlm, him]) (by simp [hil]) ?_
      have hself := rowsV_self (M := Mj) (i := i) (by omega)
      refine SubI.ren (fun m => if m = 0 then some 0 else if m = 1 then some 1 else none) ?_ ?_ ?_ (by simp) (by simp)
      · simp (disch := omega) [subT, renV, ren1, wrapI]
      · simp [subH, renL, ren1, hself]
      · intro m hm
        simp only at hm
        rw [if_neg (by omega), if_neg (by omega)]
    · have hai : a = i := by rw [← i3, show m - i = (m - (i + 1)) + 1 by omega, fndZ_no hz]
      subst hai
      have hred : redS p M (j + 1) = (pivM p Mj P.length a j, P ++ [(j : Int)]) := by rw [hstep, hyes a rfl hPm him]
      have hne : ¬ ((a : Int) = (m : Int)) := by omega
      simp -implicitDefEqProofs [sc_i_reduceMod_L2, him, hlm, hjW, hil, hz]
      by_cases had : a = P.length
      · refine SubQ.of (l1 := [(0, .sl 0 1 0 m), (1, .int .i64 (w : Int)), (2, .int .i64 p), (7, .sl 1 1 0 P.length), (8, .int .i64 (j : Int)), (9, .int .i64 (P.length : Int)), (10, .int .i64 (a : Int))]) (SubI.slots rfl (by simp)) ?_
        rw [had] at hred hil hie hz hne ⊢
        have hsw : pivM p Mj P.length P.length j = clrM p (sclM p Mj P.length j) P.length j := by unfold pivM; rw [swp_self (by omega)]
        rw [hsw] at hred
        simp -implicitDefEqProofs [freeOk, hPm, hlm, hjW, hil, hne, hFI]
        repeat' (first | omega | apply And.intro)
        refine scale Mj P P.length j _ _ _ hlm hokj hPm hjW (SubI.slots rfl (by simp)) ?_
        have hM2 : (sclM p Mj P.length j).length = m := by simp [hlm]
        have hok2 := okM_scl hp hokj j (show P.length < Mj.length by omega)
        simp -implicitDefEqProofs
        refine clear (sclM p Mj P.length j) P P.length j _ _ hM2 hok2 hPm hjW (by simp [hlm]) ?_
        simp -implicitDefEqProofs
        repeat' (first | omega | apply And.intro)
        refine Again.of (j + 1) (by omega) (by omega) (SubI.ren (fun m => if m = 0 then some 0 else if m = 1 then some 4 else none) ?_ ?_ ?_ (by simp) (by simp))
        · rw [hred]
          simp (disch := omega) [subT, renV, ren1, wrapI]
        · rw [hred]
          simp [subH, renL, ren1]
          rw [← ints_app]
          rfl
        · intro m hm
          simp only at hm
          rw [if_neg (by omega), if_neg (by omega)]

      · have hda : P.length ≠ a := fun e => had e.symm
        obtain ⟨hdl, hde⟩ := hokj P.length (by omega)
        refine SubQ.of (l1 := [(0, .sl 0 1 0 m), (1, .int .i64 (w : Int)), (2, .int .i64 p), (7, .sl 1 1 0 P.length), (8, .int .i64 (j : Int)), (9, .int .i64 (P.length : Int)), (10, .int .i64 (a : Int))]) (s1 := ([(3, ints (atR Mj P.length)), (2, ints (atR Mj a)), (1, ints P), (0, ((rowsV Mj).set a (.sl 2 1 0 W)).set P.length (.sl 3 1 0 W))], 4)) ?_ ?_
        · refine SubI.unfold 0 P.length 1 (co := (rowsV Mj).set a (.sl 2 1 0 W)) (cn := ints (atR Mj P.length)) rfl (by rw [List.getElem?_set_ne had, rowsV_get (by omega)]) (by omega) ?_
          exact SubI.slots (by simp [hdl]) (by simp)
        have hok1 := okM_swp hokj (show P.length < Mj.length by omega) (show a < Mj.length by omega)
        have hs1 : (swp Mj P.length a).length = m := by simp [hlm]
        have hsd : atR (swp Mj P.length a) P.length = atR Mj a := by rw [swp_at (by omega) (by omega) (by omega), if_neg hda, if_pos rfl]
        simp -implicitDefEqProofs [freeOk, hPm, him, hlm, hjW, hil, hdl, hne, hda, had, hFI]
        repeat' (first | omega | apply And.intro)
        refine scale (swp Mj P.length a) P P.length j _ _ _ hs1 hok1 hPm hjW ?_ ?_
        · rw [hsd]
          refine SubI.fold 0 3 a 1 W (cn := ints (atR Mj P.length)) (co := (((rowsV Mj).set a (.sl 2 1 0 W)).set P.length (.sl 2 1 0 W)).set a (.sl 3 1 0 W)) rfl rfl (by simp [hlm, him]) (by simp [hdl]) ?_
          rw [swp_cells hda]
          refine SubI.ren (fun m => if m = 0 then some 0 else if m = 1 then some 1 else if m = 2 then some 2 else none) ?_ ?_ ?_ (by simp) (by simp)
          · simp [subT, renV, ren1]
          · simp only [subH, renL_set (renL_rowsV _ _) (show ren1 (fun m => if m = 0 then some 0 else if m = 1 then some 1 else if m = 2 then some 2 else none) (.sl 2 1 0 W) = some (.sl 2 1 0 W) from rfl)]
            simp [subH, renL, ren1]
          · intro m hm
            simp only at hm
            rw [if_neg (by omega), if_neg (by omega), if_neg (by omega)]
        have hM2 : (sclM p (swp Mj P.length a) P.length j).length = m := by simp [hlm]
        have hok2 := okM_scl hp hok1 j (show P.length < (swp Mj P.length a).length by simp only [swp_len]; omega)
        simp -implicitDefEqProofs
        refine clear (sclM p (swp Mj P.length a) P.length j) P P.length j _ _ hM2 hok2 hPm hjW (by simp [hlm]) ?_
        simp -implicitDefEqProofs
        repeat' (first | omega | apply And.intro)
        refine Again.of (j + 1) (by omega) (by omega) (SubI.ren (fun m => if m = 0 then some 0 else if m = 1 then some 4 else none) ?_ ?_ ?_ (by simp) (by simp))
        · rw [hred]
          simp (disch := omega) [subT, renV, ren1, wrapI]
        · rw [hred]
          simp [subH, renL, ren1]
          rw [← ints_app]
          exact ⟨rfl, rfl⟩
        · intro m hm
          simp only at hm
          rw [if_neg (by omega), if_neg (by omega)]
  · have hai : a = m := by
      have : i = m := by omega
      rw [← i3, this, Nat.sub_self]
      rfl
    have hred : redS p M (j + 1) = (Mj, P) := by rw [hstep, hno fun h => by omega]
    have : i = m := by omega
    subst this
    simp -implicitDefEqProofs [sc_i_reduceMod_L2, hlm]
    refine SubQ.of (l1 := [(0, .sl 0 1 0 i), (1, .int .i64 (w : Int)), (2, .int .i64 p), (7, .sl 1 1 0 P.length), (8, .int .i64 (j : Int)), (10, .int .i64 (i : Int))]) (SubI.slots rfl (by simp)) ?_
    simp -implicitDefEqProofs
    exact Again.of (j + 1) (by omega) (by omega) (SubI.slots (by simp [hred]) (by simp (disch := omega) [wrapI, hred]))
end Go.Proofs.Ytmemomfffehnkaa
namespace Go.Proofs.Ytmemomfffehnkaa
open Go Go.RowKit
set_option maxRecDepth 1000000
set_option linter.unusedSimpArgs false
set_option linter.unusedVariables false
set_option maxHeartbeats 1000000
def sc_i_rankOf : SC := (.seq (.reg [⟨(some 4), none, (.mov (.c (.int .i64 0)))⟩]) (.seq (.seq (.reg [⟨(some 5), none, (.mov (.t 0))⟩, ⟨(some 6), none, (.len (.t 5))⟩, ⟨(some 7), none, (.bin false .eql (.t 6) (.c (.int .i64 0)))⟩]) (.cond (.t 7) (.seq (.reg [⟨(some 4), none, (.mov (.c (.int .i64 0)))⟩]) .ret) .skip)) (.seq (.dreg [⟨⟨(some 8), none, (.mov (.t 0))⟩, false, false⟩, ⟨⟨(some 9), none, (.mov (.t 1))⟩, false, false⟩, ⟨⟨(some 11), none, (.mov (.t 0))⟩, false, true⟩, ⟨⟨(some 12), none, (.idx 1 (.t 11) (.c (.int .i64 0)))⟩, false, true⟩, ⟨⟨(some 13), none, (.ld none .nil (.t 12))⟩, false, true⟩, ⟨⟨(some 14), none, (.len (.t 13))⟩, false, true⟩, ⟨⟨(some 15), none, (.mov (.t 1))⟩, false, true⟩, ⟨⟨(some 10), none, (.call 119 [(.t 8), (.t 9)])⟩, true, false⟩, ⟨⟨(some 16), none, (.call 121 [(.t 10), (.t 14), (.t 15)])⟩, true, false⟩, ⟨⟨(some 17), none, (.len (.t 16))⟩, false, false⟩, ⟨⟨(some 4), none, (.mov (.t 17))⟩, false, false⟩]) .ret)))
end Go.Proofs.Ytmemomfffehnkaa
namespace Go.Proofs.Ytmemomfffehnkaa
open Go Go.RowKit
set_option maxRecDepth 1000000
set_option linter.unusedSimpArgs false
set_option linter.unusedVariables false
set_option maxHeartbeats 1000000
def sc_i_holesIn_L2 : SC := (.seq (.reg [⟨(some 43), none, (.bin false .lss (.t 42) (.t 41))⟩]) (.seq (.cond (.t 43) .skip (.exit 2)) (.seq (.block 3 (.seq (.reg [⟨(some 44), none, (.mov (.t 42))⟩, ⟨(some 9), none, (.mov (.t 44))⟩]) (.dreg [⟨⟨(some 45), none, (.mov (.t 8))⟩, false, false⟩, ⟨⟨(some 46), none, (.mov (.t 9))⟩, false, false⟩, ⟨⟨(some 47), none, (.mov (.t 5))⟩, false, false⟩, ⟨⟨(some 48), none, (.mov (.t 9))⟩, false, false⟩, ⟨⟨(some 49), none, (.idx 1 (.t 47) (.t 48))⟩, false, false⟩, ⟨⟨(some 50), none, (.ld none .nil (.t 49))⟩, false, false⟩, ⟨⟨(some 51), none, (.len (.t 50))⟩, false, false⟩, ⟨⟨(some 52), none, (.mov (.t 6))⟩, false, false⟩, ⟨⟨(some 53), none, (.mov (.t 9))⟩, false, false⟩, ⟨⟨(some 54), none, (.idx 1 (.t 52) (.t 53))⟩, false, false⟩, ⟨⟨(some 55), none, (.ld none (.int .i64 0) (.t 54))⟩, false, false⟩, ⟨⟨(some 56), none, (.bin false .sub (.t 51) (.t 55))⟩, false, false⟩, ⟨⟨(some 57), none, (.mov (.t 6))⟩, false, false⟩, ⟨⟨(some 58), none, (.mov (.t 9))⟩, false, false⟩, ⟨⟨(some 59), none, (.bin false .add (.t 58) (.c (.int .i64 1)))⟩, false, false⟩, ⟨⟨(some 60), none, (.idx 1 (.t 57) (.t 59))⟩, false, false⟩, ⟨⟨(some 61), none, (.ld none (.int .i64 0) (.t 60))⟩, false, false⟩, ⟨⟨(some 62), none, (.bin false .sub (.t 56) (.t 61))⟩, false, false⟩, ⟨⟨(some 63), none, (.idx 1 (.t 45) (.t 46))⟩, false, false⟩, ⟨⟨none, none, (.st 1 (.t 63) (.t 62))⟩, true, false⟩]))) (.reg [⟨(some 64), none, (.bin false .add (.t 42) (.c (.int .i64 1)))⟩, ⟨(some 42), none, (.mov (.t 64))⟩]))))
/-- The ranks of the borders below k, of m + 1 places. -/
noncomputable def rkR (p : Int) (q : Int → Prop) (m k : Nat) : List Int := rowF (m + 1) fun i => @ite _ (i < k) (Classical.propDecidable _) (rkZ p q i) 0
theorem rkR_set {p : Int} {q : Int → Prop} {m k : Nat} (h : k < m + 1) : (rkR p q m k).set k (rkZ p q k) = rkR p q m (k + 1) := by
  unfold rkR
  rw [rowF_set h]
  refine rowF_congr fun i hi => ?_
  by_cases e : i = k
  · rw [if_pos e, if_pos (by omega), e]
  · rw [if_neg e]
    by_cases h3 : i < k
    · rw [if_pos h3, if_pos (by omega)]
    · rw [if_neg h3, if_neg (by omega)]
@[simp] theorem rkR_len (p : Int) (q : Int → Prop) (m k : Nat) : (rkR p q m k).length = m + 1 := by simp [rkR]
theorem rkR_one (p : Int) (q : Int → Prop) (m : Nat) : rkR p q m 1 = List.replicate (m + 1) 0 := by
  rw [rowF_zero]
  refine rowF_congr fun i _ => ?_
  by_cases h : i < 1
  · have : i = 0 := by omega
    subst this
    rw [if_pos h]
    exact rkZ_low p q
  · rw [if_neg h]
theorem rkR_at {p : Int} {q : Int → Prop} {m k i : Nat} (ht : topZ q + 1 = m) (hk : m ≤ k) (h : i < m + 1) : at0 (rkR p q m k) i = rkZ p q i := by
  unfold rkR
  rw [rowF_at h]
  by_cases h1 : i < k
  · rw [if_pos h1]
  · rw [if_neg h1, rkZ_high p q (by omega)]
end Go.Proofs.Ytmemomfffehnkaa
namespace Go.Proofs.Ytmemomfffehnkaa
open Go Go.RowKit
set_option maxRecDepth 1000000
set_option linter.unusedSimpArgs false
set_option linter.unusedVariables false
set_option maxHeartbeats 1000000
def sc_i_BadLink_L2 : SC := (.seq (.reg [⟨(some 44), none, (.bin false .lss (.t 43) (.t 42))⟩]) (.seq (.cond (.t 44) .skip (.exit 2)) (.seq (.block 3 (.seq (.reg [⟨(some 45), none, (.mov (.t 43))⟩, ⟨(some 46), none, (.idx 1 (.t 41) (.t 43))⟩, ⟨(some 47), none, (.ld none (.int .i64 0) (.t 46))⟩, ⟨(some 10), none, (.mov (.t 45))⟩, ⟨(some 11), none, (.mov (.t 47))⟩]) (.seq (.reg [⟨(some 48), none, (.mov (.t 11))⟩, ⟨(some 49), none, (.bin false .neq (.t 48) (.c (.int .i64 0)))⟩, ⟨(some 50), none, (.mov (.t 49))⟩, ⟨(some 51), (some (50, true)), (.mov (.t 10))⟩, ⟨(some 52), (some (50, true)), (.mov (.t 7))⟩, ⟨(some 53), (some (50, true)), (.mov (.t 9))⟩, ⟨(some 54), (some (50, true)), (.call 181 [(.t 53)])⟩, ⟨(some 55), (some (50, true)), (.bin false .sub (.t 52) (.t 54))⟩, ⟨(some 56), (some (50, true)), (.bin false .lss (.t 51) (.t 55))⟩, ⟨(some 57), none, (.pick (.t 50) (.t 56) (.c (.bool false)))⟩]) (.cond (.t 57) (.seq (.reg [⟨(some 58), none, (.mov (.t 9))⟩, ⟨(some 4), none, (.mov (.t 58))⟩, ⟨(some 5), none, (.mov (.c (.bool true)))⟩]) .ret) .skip)))) (.reg [⟨(some 59), none, (.bin false .add (.t 43) (.c (.int .i64 1)))⟩, ⟨(some 43), none, (.mov (.t 59))⟩]))))
end Go.Proofs.Ytmemomfffehnkaa
namespace Go.Proofs.Ytmemomfffehnkaa
open Go Go.RowKit
set_option maxRecDepth 1000000
set_option linter.unusedSimpArgs false
set_option linter.unusedVariables false
set_option maxHeartbeats 1000000
theorem holL_nil (p : Int) : holL p (faceS []) = [] := by
  have h := (holL_len p (faceS [])).1
  rw [topZ_nil] at h
  exact List.length_eq_zero_iff.1 h
end Go.Proofs.Ytmemomfffehnkaa
namespace Go.Proofs.Ytmemomfffehnkaa
open Go Go.RowKit
set_option maxRecDepth 1000000
set_option linter.unusedSimpArgs false
set_option linter.unusedVariables false
set_option maxHeartbeats 1000000
/-- A face's size and a place where its link has a hole, together. -/
def dpV (p : Int) (q : Int → Prop) (v : Int) : Prop := ∃ s, isS s ∧ q s ∧ ∃ k : Nat, k < (holL p (lnkP q s)).length ∧ at0 (holL p (lnkP q s)) k ≠ 0 ∧ v = sz s + k
def dpR (p : Int) (q : Int → Prop) (v : Int) : Prop := (v = -1 ∧ ∀ u, ¬ dpV p q u) ∨ (dpV p q v ∧ ∀ u, dpV p q u → v ≤ u)
theorem dpV_nn {p : Int} {q : Int → Prop} {v : Int} (h : dpV p q v) : 0 ≤ v ∧ v ≤ 13 := by
  obtain ⟨s, hs, _, k, hk, _, rfl⟩ := h
  have h1 := sz_nn s
  have h2 := sz_six hs
  have h3 := (holL_len p (lnkP q s)).2
  omega
theorem dp_ex (p : Int) (q : Int → Prop) : ∃ v, dpR p q v := by
  rcases least_nat (fun i => dpV p q (i : Int)) 14 with h | ⟨m, a, b, c⟩
  · refine ⟨-1, .inl ⟨rfl, fun u hu => ?_⟩⟩
    obtain ⟨h1, h2⟩ := dpV_nn hu
    exact h u.toNat (by omega) (by rw [Int.toNat_of_nonneg h1]; exact hu)
  · refine ⟨m, .inr ⟨b, fun u hu => Classical.byContradiction fun hn => ?_⟩⟩
    obtain ⟨h1, h2⟩ := dpV_nn hu
    exact c u.toNat (by omega) (by rw [Int.toNat_of_nonneg h1]; exact hu)
noncomputable def dpZ (p : Int) (q : Int → Prop) : Int := Classical.choose (dp_ex p q)
theorem dpZ_spec (p : Int) (q : Int → Prop) : dpR p q (dpZ p q) := Classical.choose_spec (dp_ex p q)
theorem dpZ_of {p : Int} {q : Int → Prop} {v : Int} (h : dpR p q v) : dpZ p q = v := by
  rcases dpZ_spec p q with ⟨e, h1⟩ | ⟨h1, h2⟩ <;> rcases h with ⟨e2, h3⟩ | ⟨h3, h4⟩
  · omega
  · exact absurd h3 (h1 v)
  · exact absurd h1 (h3 _)
  · have := h2 v h3
    have := h4 _ h1
    omega
theorem bor_z {s : Int} (hs : isS s) : bor 0 s = s := by
  have h0 : isS 0 := by constructor <;> decide
  refine subS_anti (isS_bor h0 hs) hs ((subS_tb (isS_bor h0 hs) hs).2 fun i hi h => ?_) ((subS_tb hs (isS_bor h0 hs)).2 fun i hi h => (tb_bor h0 hs hi).2 (.inr h))
  rcases (tb_bor h0 hs hi).1 h with h | h
  · exact absurd h (tb_zero i hi)
  · exact h
/-- The link of a greatest set. -/
theorem lnk_great {q : Int → Prop} {s : Int} (hs : isS s) (hq : q s) (ht : sz s = topZ q) {u : Int} (hu : isS u) : lnkP q s u ↔ u = 0 := by
  have h0 : isS 0 := by constructor <;> decide
  constructor
  · rintro ⟨h1, h2⟩
    have hb := isS_bor hu hs
    have hsub : subS s (bor u s) := (subS_tb hs hb).2 fun i hi h => (tb_bor hu hs hi).2 (.inr h)
    have h3 := topZ_ge hb h2
    have e : s = bor u s := Classical.byContradiction fun hn => by
      have := (sz_sub hs hb hsub).2 hn
      omega
    refine subS_anti hu h0 ((subS_tb hu h0).2 fun i hi h => ?_) ((subS_tb h0 hu).2 fun i hi h => absurd h (tb_zero i hi))
    have h4 := (tb_bor hu hs hi).2 (.inl h)
    rw [← e] at h4
    exact absurd ⟨h, h4⟩ ((band_none hu hs).1 h1 i hi)
  · rintro rfl
    exact ⟨(band_none h0 hs).2 fun i hi h => absurd h.1 (tb_zero i hi), by rw [bor_z hs]; exact hq⟩
theorem hol_one {p : Int} : (holL p fun u => u = 0).length = 1 ∧ at0 (holL p fun u => u = 0) 0 ≠ 0 := by
  have h0 : isS 0 := by constructor <;> decide
  have hz : sz 0 = 0 := by decide
  have ht : topZ (fun u => u = 0) = 0 := by
    have h1 := topZ_ge (p := fun u : Int => u = 0) h0 rfl
    rcases topZ_hit (fun u : Int => u = 0) with h | ⟨s, _, rfl, h⟩
    · omega
    · omega
  have hl := (holL_len p (fun u => u = 0)).1
  rw [ht] at hl
  have hl1 : (holL p fun u => u = 0).length = 1 := hl
  refine ⟨hl1, ?_⟩
  unfold holL
  rw [rowF_at (by rw [ht]; decide)]
  unfold holV
  have e1 : rkZ p (fun u => u = 0) ((0 : Nat) : Int) = 0 := rkZ_low p _
  have e2 : rkZ p (fun u => u = 0) (((0 : Nat) : Int) + 1) = 0 := rkZ_high p _ (by rw [ht]; decide)
  rw [e1, e2]
  have : (0 : Int) ∈ szS (fun u => u = 0) ((0 : Nat) : Int) := mem_szS.2 ⟨h0, rfl, by rw [hz]; rfl⟩
  have := List.length_pos_of_mem this
  omega
theorem dpV_top {p : Int} {q : Int → Prop} (h : 0 ≤ topZ q) : dpV p q (topZ q) := by
  rcases topZ_hit q with h1 | ⟨s, hs, hq, e⟩
  · omega
  · have e2 : holL p (lnkP q s) = holL p fun u => u = 0 := holL_congr fun u hu => lnk_great hs hq e hu
    exact ⟨s, hs, hq, 0, by rw [e2, hol_one.1]; decide, by rw [e2]; exact hol_one.2, by simp [e]⟩
theorem dpZ_top {p : Int} {q : Int → Prop} (h : 0 ≤ topZ q) : 0 ≤ dpZ p q ∧ dpZ p q ≤ topZ q := by
  rcases dpZ_spec p q with ⟨_, h2⟩ | ⟨h1, h2⟩
  · exact absurd (dpV_top h) (h2 _)
  · exact ⟨(dpV_nn h1).1, h2 _ (dpV_top h)⟩
theorem dpZ_empty {p : Int} {q : Int → Prop} (h : ¬ 0 ≤ topZ q) : dpZ p q = -1 := dpZ_of (.inl ⟨rfl, fun u ⟨s, hs, hq, _⟩ => h (by
  have h1 := topZ_ge hs hq
  have h2 := sz_nn s
  omega)⟩)
theorem dpZ_bnd (p : Int) (q : Int → Prop) : -1 ≤ dpZ p q ∧ dpZ p q ≤ 6 := by
  have := topZ_bnd q
  by_cases h : 0 ≤ topZ q
  · have := dpZ_top (p := p) h
    omega
  · have := dpZ_empty (p := p) h
    omega
theorem lnkP_cg {q q2 : Int → Prop} (h : ∀ s, isS s → (q s ↔ q2 s)) {s : Int} (hs : isS s) : ∀ u, isS u → (lnkP q s u ↔ lnkP q2 s u) := fun u hu => by
  unfold lnkP
  rw [h _ (isS_bor hu hs)]
theorem dpV_congr {p : Int} {q q2 : Int → Prop} (h : ∀ s, isS s → (q s ↔ q2 s)) (u : Int) : dpV p q u ↔ dpV p q2 u := by
  constructor
  · rintro ⟨s, hs, h1, k, h2, h3, h4⟩
    rw [holL_congr (lnkP_cg h hs)] at h2 h3
    exact ⟨s, hs, (h s hs).1 h1, k, h2, h3, h4⟩
  · rintro ⟨s, hs, h1, k, h2, h3, h4⟩
    rw [← holL_congr (lnkP_cg h hs)] at h2 h3
    exact ⟨s, hs, (h s hs).2 h1, k, h2, h3, h4⟩
theorem dpZ_congr {p : Int} {q q2 : Int → Prop} (h : ∀ s, isS s → (q s ↔ q2 s)) : dpZ p q = dpZ p q2 := dpZ_of (by
  rcases dpZ_spec p q2 with ⟨a, b⟩ | ⟨a, b⟩
  · exact .inl ⟨a, fun u hu => b u ((dpV_congr h u).1 hu)⟩
  · exact .inr ⟨(dpV_congr h _).2 a, fun u hu => b u ((dpV_congr h u).1 hu)⟩)
/-- What has been seen of the first i faces, and of the holes below k of face i. -/
def dpI (p : Int) (q : Int → Prop) (L : List Int) (i k : Nat) (v : Int) : Prop := ∃ j m : Nat, j < L.length ∧ m < (holL p (lnkP q (at0 L j))).length ∧ at0 (holL p (lnkP q (at0 L j))) m ≠ 0 ∧ v = sz (at0 L j) + m ∧ (j < i ∨ (j = i ∧ m < k))
section
variable {p : Int} {q : Int → Prop} {L : List Int} {i k : Nat}
theorem dpI_nn {v : Int} (h : dpI p q L i k v) : 0 ≤ v := by
  obtain ⟨j, m, _, _, _, rfl, _⟩ := h
  have := sz_nn (at0 L j)
  omega
theorem dpI_zero (u : Int) : ¬ dpI p q L 0 0 u := by
  rintro ⟨j, m, _, _, _, _, h⟩
  omega
theorem dpI_skip (h : at0 (holL p (lnkP q (at0 L i))) k = 0) (u : Int) : dpI p q L i (k + 1) u ↔ dpI p q L i k u := by
  constructor
  · rintro ⟨j, m, h1, h2, h3, h4, h5⟩
    refine ⟨j, m, h1, h2, h3, h4, ?_⟩
    rcases h5 with h5 | ⟨rfl, h5⟩
    · exact .inl h5
    · rcases Nat.lt_succ_iff_lt_or_eq.1 h5 with h6 | rfl
      · exact .inr ⟨rfl, h6⟩
      · exact absurd h h3
  · rintro ⟨j, m, h1, h2, h3, h4, h5⟩
    exact ⟨j, m, h1, h2, h3, h4, by omega⟩
theorem dpI_new (hi : i < L.length) (hk : k < (holL p (lnkP q (at0 L i))).length) (h : at0 (holL p (lnkP q (at0 L i))) k ≠ 0) (u : Int) : dpI p q L i (k + 1) u ↔ dpI p q L i k u ∨ u = sz (at0 L i) + k := by
  constructor
  · rintro ⟨j, m, h1, h2, h3, h4, h5⟩
    rcases h5 with h5 | ⟨rfl, h5⟩
    · exact .inl ⟨j, m, h1, h2, h3, h4, .inl h5⟩
    · rcases Nat.lt_succ_iff_lt_or_eq.1 h5 with h6 | rfl
      · exact .inl ⟨_, m, h1, h2, h3, h4, .inr ⟨rfl, h6⟩⟩
      · exact .inr h4
  · rintro (⟨j, m, h1, h2, h3, h4, h5⟩ | rfl)
    · exact ⟨j, m, h1, h2, h3, h4, by omega⟩
    · exact ⟨i, k, hi, hk, h, rfl, by omega⟩
theorem dpI_end {n : Nat} (h : n = (holL p (lnkP q (at0 L i))).length) (u : Int) : dpI p q L (i + 1) 0 u ↔ dpI p q L i n u := by
  constructor
  · rintro ⟨j, m, h1, h2, h3, h4, h5⟩
    refine ⟨j, m, h1, h2, h3, h4, ?_⟩
    by_cases e : j = i
    · subst e
      exact .inr ⟨rfl, by omega⟩
    · exact .inl (by omega)
  · rintro ⟨j, m, h1, h2, h3, h4, h5⟩
    exact ⟨j, m, h1, h2, h3, h4, by omega⟩
theorem dpI_full (u : Int) : dpI p q (setsOf q) (setsOf q).length 0 u ↔ dpV p q u := by
  constructor
  · rintro ⟨j, m, h1, h2, h3, h4, h5⟩
    obtain ⟨h6, h7⟩ := mem_setsOf.1 (getD_mem' h1)
    exact ⟨at0 (setsOf q) j, h6, h7, m, h2, h3, h4⟩
  · rintro ⟨s, hs, hq, m, h2, h3, h4⟩
    obtain ⟨j, h5, h6⟩ := getD_mem_iff.1 (mem_setsOf.2 ⟨hs, hq⟩)
    subst h6
    exact ⟨j, m, h5, h2, h3, h4, .inl h5⟩
end
/-- The least of T and of what has been seen. -/
def mnR (T : Int) (S : Int → Prop) (d : Int) : Prop := (d = T ∨ S d) ∧ d ≤ T ∧ ∀ u, S u → d ≤ u
/-- The least that has been seen, or -1. -/
def lsR (S : Int → Prop) (d : Int) : Prop := (d = -1 ∧ ∀ u, ¬ S u) ∨ (S d ∧ ∀ u, S u → d ≤ u)
theorem mn_congr {T : Int} {S S2 : Int → Prop} {d : Int} (h : mnR T S d) (e : ∀ u, S2 u ↔ S u) : mnR T S2 d := ⟨h.1.imp id (e d).2, h.2.1, fun u hu => h.2.2 u ((e u).1 hu)⟩
theorem mn_new {T : Int} {S S2 : Int → Prop} {d v : Int} (h : mnR T S d) (e : ∀ u, S2 u ↔ S u ∨ u = v) : mnR T S2 (min d v) := by
  obtain ⟨h1, h2, h3⟩ := h
  refine ⟨?_, by omega, fun u hu => ?_⟩
  · by_cases hv : v < d
    · right
      rw [show min d v = v by omega]
      exact (e v).2 (.inr rfl)
    · rw [show min d v = d by omega]
      exact h1.imp id fun h => (e d).2 (.inl h)
  · rcases (e u).1 hu with h | rfl
    · have := h3 u h
      omega
    · omega
theorem ls_congr {S S2 : Int → Prop} {d : Int} (h : lsR S d) (e : ∀ u, S2 u ↔ S u) : lsR S2 d := by
  rcases h with ⟨h1, h2⟩ | ⟨h1, h2⟩
  · exact .inl ⟨h1, fun u hu => h2 u ((e u).1 hu)⟩
  · exact .inr ⟨(e d).2 h1, fun u hu => h2 u ((e u).1 hu)⟩
theorem ls_new {S S2 : Int → Prop} {d v : Int} (h : lsR S d) (hn : ∀ u, S u → 0 ≤ u) (e : ∀ u, S2 u ↔ S u ∨ u = v) (hd : d < 0 ∨ v < d) : lsR S2 v := by
  refine .inr ⟨(e v).2 (.inr rfl), fun u hu => ?_⟩
  rcases (e u).1 hu with h2 | rfl
  · rcases h with ⟨h3, h4⟩ | ⟨h3, h4⟩
    · exact absurd h2 (h4 u)
    · have := h4 u h2
      have := hn d h3
      omega
  · omega
theorem ls_old {S S2 : Int → Prop} {d v : Int} (h : lsR S d) (e : ∀ u, S2 u ↔ S u ∨ u = v) (hd : ¬ (d < 0 ∨ v < d)) : lsR S2 d := by
  rcases h with ⟨h3, h4⟩ | ⟨h3, h4⟩
  · omega
  · refine .inr ⟨(e d).2 (.inl h3), fun u hu => ?_⟩
    rcases (e u).1 hu with h2 | rfl
    · exact h4 u h2
    · omega
theorem ls_dp {p : Int} {q : Int → Prop} {S : Int → Prop} {d : Int} (h : lsR S d) (e : ∀ u, S u ↔ dpV p q u) : d = dpZ p q := (dpZ_of (by
  rcases h with ⟨h1, h2⟩ | ⟨h1, h2⟩
  · exact .inl ⟨h1, fun u hu => h2 u ((e u).2 hu)⟩
  · exact .inr ⟨(e d).1 h1, fun u hu => h2 u ((e u).2 hu)⟩)).symm
theorem mn_dp {p : Int} {q : Int → Prop} {S : Int → Prop} {d : Int} (h : mnR (topZ q) S d) (e : ∀ u, S u ↔ dpV p q u) : d = dpZ p q := by
  obtain ⟨h1, h2, h3⟩ := h
  by_cases ht : 0 ≤ topZ q
  · have h4 : dpV p q d := h1.elim (fun e => e ▸ dpV_top ht) (e d).1
    exact (dpZ_of (.inr ⟨h4, fun u hu => h3 u ((e u).2 hu)⟩)).symm
  · have hb := topZ_bnd q
    rw [dpZ_empty ht]
    rcases h1 with h1 | h1
    · omega
    · have := (dpV_nn ((e d).1 h1)).1
      omega
/-- The depth is full. -/
def fdP (p : Int) (q : Int → Prop) : Prop := 0 ≤ topZ q ∧ dpZ p q = topZ q
theorem fdP_congr {p : Int} {q q2 : Int → Prop} (h : ∀ s, isS s → (q s ↔ q2 s)) : fdP p q ↔ fdP p q2 := by
  unfold fdP
  rw [topZ_congr h, dpZ_congr h]
theorem fam_top {q : Int → Prop} : fam q = 0 ↔ ¬ 0 ≤ topZ q := by
  rw [fam_zero]
  constructor
  · intro h ht
    rcases topZ_hit q with h1 | ⟨s, hs, hq, _⟩
    · omega
    · exact h s hs hq
  · intro h s hs hq
    have h1 := topZ_ge hs hq
    have h2 := sz_nn s
    omega
end Go.Proofs.Ytmemomfffehnkaa
