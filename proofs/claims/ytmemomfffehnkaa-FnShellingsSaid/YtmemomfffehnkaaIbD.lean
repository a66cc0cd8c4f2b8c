import Derived.Test.YtmemomfffehnkaaIbA
namespace Go.Proofs.Ytmemomfffehnkaa
open Go Go.RowKit
set_option maxRecDepth 1000000
set_option linter.unusedSimpArgs false
set_option linter.unusedVariables false
set_option maxHeartbeats 1000000
theorem partI_iff {l : List Int} (hl : allS l) {s : Int} (hs : isS s) {i : Nat} (hi : i < 6) : tb (partI l s) i ↔ ∃ g ∈ l, sizeOf1 (bnot s g) = 1 ∧ tb (bnot s g) i := by
  have h := partI_tb hl hs hi l.length (Nat.le_refl _)
  rw [List.take_length] at h
  rw [h]
  constructor
  · rintro ⟨j, hj, h1, h2⟩
    exact ⟨_, getD_mem' hj, h1, h2⟩
  · rintro ⟨g, hg, h1, h2⟩
    obtain ⟨j, hj, e⟩ := getD_mem_iff.1 hg
    exact ⟨j, hj, by rw [e]; exact h1, by rw [e]; exact h2⟩
theorem partI_set {l : List Int} (hl : allS l) {s : Int} (hs : isS s) : isS (partI l s) := by
  have := partI_isS hl hs l.length (Nat.le_refl _)
  rwa [List.take_length] at this
theorem fitsI_congr {a b : List Int} (ha : allS a) (hb : allS b) (h : ∀ x, x ∈ a ↔ x ∈ b) {s : Int} (hs : isS s) (hf : fitsI a s) : fitsI b s := by
  have e : partI a s = partI b s := tb_ext (partI_set ha hs) (partI_set hb hs) fun i hi => by
    rw [partI_iff ha hs hi, partI_iff hb hs hi]
    constructor
    · rintro ⟨g, hg, h1⟩; exact ⟨g, (h g).1 hg, h1⟩
    · rintro ⟨g, hg, h1⟩; exact ⟨g, (h g).2 hg, h1⟩
  intro g hg
  rw [← e]
  exact hf g ((h g).2 hg)
theorem shOk_nodup {F head : List Int} (h : shOk F head) : head.Nodup := nodup_at fun j hj => (h.2 j hj).2.1
theorem ex_same {F a b : List Int} (hF : allS F) (ha : shOk F a) (hb : shOk F b) (h : ∀ x, x ∈ a ↔ x ∈ b) (he : exD (shD F) a) : exD (shD F) b := by
  obtain ⟨t, h1, h2, h3⟩ := he
  have l1 := sub_len (shOk_nodup ha) fun x hx => (h x).1 hx
  have l2 := sub_len (shOk_nodup hb) fun x hx => (h x).2 hx
  have hab : a.length = b.length := by omega
  refine ⟨t, by rw [List.length_append] at h1 ⊢; omega, by rw [List.length_append] at h2 ⊢; omega, fun k hk => ?_⟩
  by_cases hkb : k < b.length
  · rw [at0_appL2 hkb, take_appL (by omega)]
    exact hb.2 k hkb
  · have h4 := h3 k (by rw [List.length_append] at hk ⊢; omega)
    have hall : allS (a ++ t) := fun x hx => by
      obtain ⟨j, hj, e⟩ := getD_mem_iff.1 hx
      rw [← e]
      exact hF _ (h3 j hj).1
    have e1 : at0 (b ++ t) k = at0 (a ++ t) k := by rw [at0_app, at0_app, if_neg hkb, if_neg (by omega), hab]
    have e2 : ∀ x, x ∈ (a ++ t).take k ↔ x ∈ (b ++ t).take k := fun x => by
      rw [List.take_append, List.take_append, List.take_of_length_le (show a.length ≤ k by omega), List.take_of_length_le (show b.length ≤ k by omega), List.mem_append, List.mem_append, h x, hab]
    have hbS : allS ((b ++ t).take k) := fun x hx => hall x (List.mem_of_mem_take ((e2 x).2 hx))
    rw [e1]
    exact ⟨h4.1, fun hx => h4.2.1 ((e2 _).2 hx), fitsI_congr (fun x hx => hall x (List.mem_of_mem_take hx)) hbS e2 (hF _ h4.1) h4.2.2⟩
/-- The places of the head's facets, as bits. -/
def usedP (F head : List Int) (u : Nat) : Prop := u < 2 ^ F.length ∧ ∀ i, i < F.length → (u.testBit i = true ↔ at0 F i ∈ head)
theorem used_lt {F head : List Int} {u : Nat} (hF : sfP F) (h : usedP F head u) : u < 256 := by
  have h1 : 2 ^ F.length ≤ 2 ^ 8 := Nat.pow_le_pow_right (by omega) hF.l
  have := h.1
  omega
theorem used_mem {F a b : List Int} {u : Nat} (ha : shOk F a) (hb : shOk F b) (h1 : usedP F a u) (h2 : usedP F b u) (x : Int) : x ∈ a ↔ x ∈ b := by
  have key : ∀ c d : List Int, shOk F c → usedP F c u → usedP F d u → x ∈ c → x ∈ d := fun c d hc hu hv hx => by
    obtain ⟨j, hj, e⟩ := getD_mem_iff.1 hx
    have hxF : x ∈ F := e ▸ (hc.2 j hj).1
    obtain ⟨i, hi, e2⟩ := getD_mem_iff.1 hxF
    have := (hu.2 i hi).2 (by rw [e2]; exact hx)
    have := (hv.2 i hi).1 this
    rwa [e2] at this
  exact ⟨key a b ha h1 h2, key b a hb h2 h1⟩
theorem used_snoc {F head : List Int} {u i : Nat} (hF : sfP F) (h : usedP F head u) (hi : i < F.length) : usedP F (head ++ [at0 F i]) (u ||| 2 ^ i) := by
  obtain ⟨h1, h2⟩ := h
  refine ⟨Nat.or_lt_two_pow h1 (Nat.pow_lt_pow_right (by omega) hi), fun j hj => ?_⟩
  rw [Nat.testBit_or, Bool.or_eq_true, h2 j hj, List.mem_append, List.mem_singleton, Nat.testBit_two_pow]
  have : (decide (i = j) = true) ↔ at0 F j = at0 F i := by
    rw [decide_eq_true_iff]
    constructor
    · rintro rfl; rfl
    · intro e
      rcases Nat.lt_trichotomy i j with h | h | h
      · have := hF.o i j h hj; omega
      · exact h
      · have := hF.o j i h hi; omega
  rw [this]
/-- What has failed cannot be completed. -/
def memP (F : List Int) (bl : List Bool) : Prop := bl.length = 256 ∧ ∀ head u, shOk F head → usedP F head u → bl[u]?.getD false = true → ¬ exD (shD F) head
theorem mem_set {F : List Int} {bl : List Bool} {head : List Int} {u : Nat} (hF : allS F) (h : memP F bl) (ho : shOk F head) (hu : usedP F head u) (hn : ¬ exD (shD F) head) : memP F (bl.set u true) := by
  refine ⟨by rw [List.length_set]; exact h.1, fun a v ha hv hb => ?_⟩
  rw [List.getElem?_set] at hb
  by_cases e : u = v
  · subst e
    exact fun he => hn (ex_same hF ha ho (used_mem ha ho hv hu) he)
  · rw [if_neg e] at hb
    exact h.2 a v ha hv hb
/-- The next facet may be tried. -/
def tryP (F head : List Int) (i : Nat) : Prop := at0 F i ∉ head ∧ fitsI head (at0 F i)
noncomputable def lpF (F head : List Int) (u : Nat) (rc : Nat → List Int → List Bool → List Bool) (bl : List Bool) : Nat → List Bool
  | 0 => bl
  | i + 1 => @ite _ (tryP F head i) (Classical.propDecidable _) (rc (u ||| 2 ^ i) (head ++ [at0 F i]) (lpF F head u rc bl i)) (lpF F head u rc bl i)
theorem fi_ex (F head : List Int) : ∃ m : Nat, (∃ i, i < F.length ∧ exD (shD F) (head ++ [at0 F i])) → m < F.length ∧ exD (shD F) (head ++ [at0 F m]) ∧ ∀ j, j < m → ¬ exD (shD F) (head ++ [at0 F j]) := by
  rcases lst_nat (fun i => exD (shD F) (head ++ [at0 F i])) F.length with h | ⟨m, a, b, c⟩
  · exact ⟨0, fun ⟨i, hi, he⟩ => absurd he (h i hi)⟩
  · exact ⟨m, fun _ => ⟨a, b, c⟩⟩
noncomputable def fiF (F head : List Int) : Nat := Classical.choose (fi_ex F head)
theorem fiF_eq {F head : List Int} {i : Nat} (hi : i < F.length) (he : exD (shD F) (head ++ [at0 F i])) (hm : ∀ j, j < i → ¬ exD (shD F) (head ++ [at0 F j])) : fiF F head = i := by
  obtain ⟨h1, h2, h3⟩ := Classical.choose_spec (fi_ex F head) ⟨i, hi, he⟩
  have e : fiF F head = Classical.choose (fi_ex F head) := rfl
  rw [← e] at h1 h2 h3
  rcases Nat.lt_trichotomy (fiF F head) i with h | h | h
  · exact absurd h2 (hm _ h)
  · exact h
  · exact absurd he (h3 i h)
noncomputable def ocF (F : List Int) : Nat → Nat → List Int → List Bool → List Bool
  | 0, _, _, bl => bl
  | n + 1, u, head, bl => @ite _ (head.length = F.length ∨ bl[u]?.getD false = true) (Classical.propDecidable _) bl
      (@ite _ (exD (shD F) head) (Classical.propDecidable _) (lpF F head u (ocF F n) bl (fiF F head + 1)) ((lpF F head u (ocF F n) bl F.length).set u true))
theorem ocF_stop {F head : List Int} {n u : Nat} {bl : List Bool} (h : head.length = F.length ∨ bl[u]?.getD false = true) : ocF F (n + 1) u head bl = bl := by rw [ocF, if_pos h]
theorem ocF_hit {F head : List Int} {n u i : Nat} {bl : List Bool} (h : ¬ (head.length = F.length ∨ bl[u]?.getD false = true)) (hi : i < F.length) (he : exD (shD F) (head ++ [at0 F i])) (hm : ∀ j, j < i → ¬ exD (shD F) (head ++ [at0 F j])) : ocF F (n + 1) u head bl = lpF F head u (ocF F n) bl (i + 1) := by rw [ocF, if_neg h, if_pos (exD_of _ he), fiF_eq hi he hm]
theorem ocF_miss {F head : List Int} {n u : Nat} {bl : List Bool} (h : ¬ (head.length = F.length ∨ bl[u]?.getD false = true)) (he : ¬ exD (shD F) head) : ocF F (n + 1) u head bl = (lpF F head u (ocF F n) bl F.length).set u true := by rw [ocF, if_neg h, if_neg he]
theorem lpF_yes {F head : List Int} {u i : Nat} {rc : Nat → List Int → List Bool → List Bool} {bl : List Bool} (h : tryP F head i) : lpF F head u rc bl (i + 1) = rc (u ||| 2 ^ i) (head ++ [at0 F i]) (lpF F head u rc bl i) := by rw [lpF, if_pos h]
theorem lpF_no {F head : List Int} {u i : Nat} {rc : Nat → List Int → List Bool → List Bool} {bl : List Bool} (h : ¬ tryP F head i) : lpF F head u rc bl (i + 1) = lpF F head u rc bl i := by rw [lpF, if_neg h]
theorem lpF_mem {F head : List Int} {u : Nat} {rc : Nat → List Int → List Bool → List Bool} {bl : List Bool} (hF : sfP F) (ho : shOk F head) (hlt : head.length < F.length) (hu : usedP F head u) (hb : memP F bl)
    (hr : ∀ v h b, shOk F h → usedP F h v → h.length = head.length + 1 → memP F b → memP F (rc v h b)) : ∀ i, i ≤ F.length → memP F (lpF F head u rc bl i) := by
  intro i
  induction i with
  | zero => intro _; exact hb
  | succ i ih =>
    intro hi
    by_cases ht : tryP F head i
    · rw [lpF_yes ht]
      exact hr _ _ _ (shOk_snoc ho hlt (getD_mem' (by omega)) ht.1 ht.2) (used_snoc hF hu (by omega)) (by simp) (ih (by omega))
    · rw [lpF_no ht]
      exact ih (by omega)
theorem ocF_mem {F : List Int} (hF : sfP F) : ∀ (n u : Nat) (head : List Int) (bl : List Bool), shOk F head → usedP F head u → memP F bl → memP F (ocF F n u head bl) := by
  intro n
  induction n with
  | zero => intro u head bl _ _ hb; exact hb
  | succ n ih =>
    intro u head bl ho hu hb
    by_cases h1 : head.length = F.length ∨ bl[u]?.getD false = true
    · rw [ocF_stop h1]; exact hb
    have hlt : head.length < F.length := by
      have := ho.1
      by_cases e : head.length = F.length
      · exact absurd (.inl e) h1
      · omega
    have hl := fun i hi => lpF_mem (rc := ocF F n) hF ho hlt hu hb (fun v h b k1 k2 _ k3 => ih v h b k1 k2 k3) i hi
    by_cases he : exD (shD F) head
    · obtain ⟨t, _, ht, h3⟩ := sh_next hF.s he hlt
      obtain ⟨i, hi, e⟩ := getD_mem_iff.1 ht
      rw [← e] at h3
      obtain ⟨m1, m2, m3⟩ := Classical.choose_spec (fi_ex F head) ⟨i, hi, h3⟩
      rw [ocF_hit h1 m1 m2 m3]
      exact hl _ m1
    · rw [ocF_miss h1 he]
      exact mem_set hF.s (hl _ (Nat.le_refl _)) ho hu he
open Classical in
/-- The list behind the search. -/
noncomputable def shR (F head : List Int) : List Int := if exD (shD F) head then shO F head else head
theorem shR_yes {F head : List Int} (h : exD (shD F) head) : shR F head = shO F head := if_pos h
theorem shR_no {F head : List Int} (h : ¬ exD (shD F) head) : shR F head = head := if_neg h
def dBs : List V → Option (List Bool)
  | [] => some []
  | .bool b :: r => (dBs r).map (b :: ·)
  | _ => none
theorem dBs_map (l : List Bool) : dBs (l.map V.bool) = some l := by
  induction l with
  | nil => rfl
  | cons a l ih => simp [dBs, ih]
theorem dBs_inv : ∀ {c : List V} {l : List Bool}, dBs c = some l → c = l.map V.bool := by
  intro c
  induction c with
  | nil => intro l h; simp [dBs] at h; subst h; rfl
  | cons a c ih =>
    intro l h
    cases a <;> simp [dBs] at h
    obtain ⟨m, h1, rfl⟩ := h
    rw [ih h1]
    rfl
/-- The searcher's memory: the facets, the test, the marks, the list. -/
def osC (F : List Int) (bl : List Bool) (c : V) : List V := .list 1 (ints F) :: .fn 146 [] :: (bl.map V.bool ++ [c])
section
variable {F : List Int} {bl : List Bool} {c : V}
theorem osC_len (h : bl.length = 256) : (osC F bl c).length = 259 := by simp [osC, h]
theorem osC_0 : (osC F bl c)[0]? = some (.list 1 (ints F)) := rfl
theorem osC_1 : (osC F bl c)[1]? = some (.fn 146 []) := rfl
theorem osC_l (h : bl.length = 256) : (osC F bl c)[258]? = some c := by
  show (bl.map V.bool ++ [c])[256]? = some c
  rw [List.getElem?_append_right (by simp [h])]
  simp [h]
theorem osC_f (h : bl.length = 256) {u : Nat} (hu : u < 256) : (osC F bl c)[2 + u]? = some (.bool (bl[u]?.getD false)) := by
  rw [show 2 + u = u + 1 + 1 by omega]
  show (bl.map V.bool ++ [c])[u]? = _
  rw [List.getElem?_append_left (by simp [h]; omega), List.getElem?_map, List.getElem?_eq_getElem (by omega)]
  rfl
theorem osC_setl (h : bl.length = 256) (d : V) : (osC F bl c).set 258 d = osC F bl d := by
  show .list 1 (ints F) :: .fn 146 [] :: (bl.map V.bool ++ [c]).set 256 d = _
  rw [List.set_append_right _ _ (by simp [h])]
  simp [h, osC]
theorem osC_setf (h : bl.length = 256) {u : Nat} (hu : u < 256) (b : Bool) : (osC F bl c).set (2 + u) (.bool b) = osC F (bl.set u b) c := by
  rw [show 2 + u = u + 1 + 1 by omega]
  show .list 1 (ints F) :: .fn 146 [] :: (bl.map V.bool ++ [c]).set u (.bool b) = _
  rw [List.set_append_left _ _ (by simp [h]; omega), ← List.map_set]
  rfl
theorem osC_nm : (osC F bl c).all (nonm 6) = nonm 6 c := by
  have : ∀ l : List Bool, (l.map V.bool).all (nonm 6) = true := fun l => List.all_eq_true.2 fun x hx => by
    obtain ⟨b, _, rfl⟩ := List.mem_map.1 hx
    rfl
  simp only [osC, List.all_cons, List.all_append, this, List.all_nil, Bool.and_true, Bool.true_and]
  have h1 : nonm 6 (.list 1 (ints F)) = true := by simp [nonm]
  rw [h1]
  rfl
end
end Go.Proofs.Ytmemomfffehnkaa
