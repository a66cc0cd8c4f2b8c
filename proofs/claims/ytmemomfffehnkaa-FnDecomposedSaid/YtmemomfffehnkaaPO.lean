import Derived.Test.YtmemomfffehnkaaPN
import Derived.Test.YtmemomfffehnkaaPJ
import Derived.Test.YtmemomfffehnkaaPI
import Derived.Test.YtmemomfffehnkaaPD
import Derived.Test.YtmemomfffehnkaaPC
import Derived.Test.YtmemomfffehnkaaPE
import Derived.Test.YtmemomfffehnkaaPH
namespace Go.Proofs.Ytmemomfffehnkaa
open Go Go.RowKit
set_option maxRecDepth 1000000
set_option linter.unusedSimpArgs false
set_option linter.unusedVariables false
set_option maxHeartbeats 1000000
theorem size_pow : ∀ i : Nat, i < 6 → sizeOf1 (2 ^ i) = 1 := by decide +kernel
/-- The points of a set without which it lies in a set ahead of it. -/
theorem fresh_iff {l : List Int} (hl : allS l) {s : Int} (hs : isS s) {i : Nat} (hi : i < 6) : tb (partI l s) i ↔ tb s i ∧ ∃ g ∈ l, ¬ tb g i ∧ ∀ j, j < 6 → j ≠ i → tb s j → tb g j := by
  rw [partI_iff hl hs hi]
  constructor
  · rintro ⟨g, hg, h1, h2⟩
    have hgS := hl g hg
    obtain ⟨a, b⟩ := (tb_bnot_iff hs hgS hi).1 h2
    refine ⟨a, g, hg, b, fun j hj hne hsj => Classical.byContradiction fun hn => hne ?_⟩
    exact one_bit (isS_bnot hs hgS) h1 hi hj h2 ((tb_bnot_iff hs hgS hj).2 ⟨hsj, hn⟩)
  · rintro ⟨a, g, hg, b, c⟩
    have hgS := hl g hg
    have e : bnot s g = 2 ^ i := tb_ext (isS_bnot hs hgS) (isS_pow hi) fun j hj => by
      rw [tb_bnot_iff hs hgS hj, tb_pow hi hj]
      constructor
      · rintro ⟨h1, h2⟩
        exact Classical.byContradiction fun hn => h2 (c j hj (fun e => hn e.symm) h1)
      · rintro rfl
        exact ⟨a, b⟩
    exact ⟨g, hg, by rw [e]; exact size_pow i hi, by rw [e]; exact (tb_pow hi hi).2 rfl⟩
theorem shed_max {q : Int → Prop} (hd : dcl q) {i : Nat} (hi : i < 6) (hs : shedQ q i) {t : Int} (ht : isS t) (hm : maxP (wtoP q (2 ^ i)) t) : maxP q t := by
  have hpS := isS_pow hi
  obtain ⟨h1, h3⟩ := id hm
  obtain ⟨hq, hn⟩ := (tb_wto hi ht).1 h1
  refine ⟨hq, fun u hu hqu hsub => ?_⟩
  by_cases htu : tb u i
  · exfalso
    obtain ⟨a, b, c, e⟩ := dn_up hu hi htu
    have hbu : subS (bnot u (2 ^ i)) u := (subS_tb a hu).2 fun j hj h => ((e j hj).1 h).1
    have htb : subS t (bnot u (2 ^ i)) := (subS_tb ht a).2 fun j hj h => (e j hj).2 ⟨(subS_tb ht hu).1 hsub j hj h, fun e2 => hn (e2 ▸ h)⟩
    have e2 := h3 _ a ((tb_wto hi a).2 ⟨hd _ _ a hu hbu hqu, b⟩) htb
    refine hs.2 t ht ⟨⟨(band_tb ht hi).2 hn, by rw [← e2, c]; exact hqu⟩, fun w hw hlw hsw => ?_⟩ hm
    have hwn := (band_tb hw hi).1 hlw.1
    exact h3 w hw ((tb_wto hi hw).2 ⟨hd _ _ hw (isS_bor hw hpS) (up_sub hi hw) hlw.2, hwn⟩) hsw
  · exact h3 u hu ((tb_wto hi hu).2 ⟨hqu, htu⟩) hsub
theorem lnk_max {q : Int → Prop} {i : Nat} (hi : i < 6) {t : Int} (ht : isS t) : maxP (lnkP q (2 ^ i)) t ↔ ¬ tb t i ∧ maxP q (bor t (2 ^ i)) := by
  have hpS := isS_pow hi
  have hbS := isS_bor ht hpS
  constructor
  · rintro ⟨⟨h1, h2⟩, h3⟩
    have hn := (band_tb ht hi).1 h1
    refine ⟨hn, h2, fun u hu hq hsub => ?_⟩
    have htu : tb u i := (subS_tb hbS hu).1 hsub i hi ((bor_tb ht hi hi).2 (.inr rfl))
    obtain ⟨a, b, c, e⟩ := dn_up hu hi htu
    have := h3 (bnot u (2 ^ i)) a ⟨(band_tb a hi).2 b, by rw [c]; exact hq⟩ ((subS_tb ht a).2 fun j hj h => (e j hj).2 ⟨(subS_tb hbS hu).1 hsub j hj ((bor_tb ht hi hj).2 (.inl h)), fun e2 => hn (e2 ▸ h)⟩)
    rw [← c, this]
  · rintro ⟨hn, h2, h3⟩
    refine ⟨⟨(band_tb ht hi).2 hn, h2⟩, fun u hu hl hsub => ?_⟩
    have hun := (band_tb hu hi).1 hl.1
    have hub := isS_bor hu hpS
    have := h3 (bor u (2 ^ i)) hub hl.2 ((subS_tb hbS hub).2 fun j hj h => by
      rcases (bor_tb ht hi hj).1 h with h | rfl
      · exact (bor_tb hu hi hj).2 (.inl ((subS_tb ht hu).1 hsub j hj h))
      · exact (bor_tb hu hi hj).2 (.inr rfl))
    exact up_inj hi hu ht hun hn this
/-- An order of the maximal sets that shells. -/
def shOrd (q : Int → Prop) (list : List Int) : Prop := list.Nodup ∧ (∀ s, s ∈ list ↔ isS s ∧ maxP q s) ∧ ∀ k, k < list.length → fitsI (list.take k) (at0 list k)
theorem fin_shell {q : Int → Prop} (h : finI q) : dcl q → ∃ list, shOrd q list := by
  induction h with
  | one q h1 =>
    intro _
    refine ⟨setsOf (maxP q), setsOf_nodup _, fun s => mem_setsOf, fun k hk => ?_⟩
    have : k = 0 := by omega
    subst this
    intro g hg
    simp at hg
  | split q i hi hsh f1 f2 ih1 ih2 =>
    intro hd
    have hpS := isS_pow hi
    obtain ⟨K, k1, k2, k3⟩ := ih1 (dcl_lnk hd hpS)
    obtain ⟨D, d1, d2, d3⟩ := ih2 (dcl_wto hd hpS)
    have hKS : allS K := fun x hx => ((k2 x).1 hx).1
    have hDS : allS D := fun x hx => ((d2 x).1 hx).1
    have hKn : ∀ x ∈ K, ¬ tb x i := fun x hx => ((lnk_max hi ((k2 x).1 hx).1).1 ((k2 x).1 hx).2).1
    have hDn : ∀ x ∈ D, ¬ tb x i := fun x hx => ((tb_wto hi ((d2 x).1 hx).1).1 ((d2 x).1 hx).2.1).2
    have hUS : allS (K.map fun x => bor x (2 ^ i)) := fun x hx => by
      obtain ⟨y, hy, rfl⟩ := List.mem_map.1 hx
      exact isS_bor (hKS y hy) hpS
    have hUt : ∀ x ∈ K.map fun x => bor x (2 ^ i), tb x i := fun x hx => by
      obtain ⟨y, hy, rfl⟩ := List.mem_map.1 hx
      exact (bor_tb (hKS y hy) hi hi).2 (.inr rfl)
    refine ⟨D ++ K.map fun x => bor x (2 ^ i), ?_, fun s => ?_, fun k hk => ?_⟩
    · rw [List.nodup_append]
      refine ⟨d1, List.pairwise_map.2 (List.Pairwise.imp_of_mem (fun ha hb hne e => hne (up_inj hi (hKS _ ha) (hKS _ hb) (hKn _ ha) (hKn _ hb) e)) k1), fun a ha b hb e => ?_⟩
      exact hDn a ha (by rw [e]; exact hUt b hb)
    · rw [List.mem_append]
      constructor
      · rintro (h | h)
        · obtain ⟨a, b⟩ := (d2 s).1 h
          exact ⟨a, shed_max hd hi hsh a b⟩
        · obtain ⟨y, hy, rfl⟩ := List.mem_map.1 h
          obtain ⟨a, b⟩ := (k2 y).1 hy
          exact ⟨isS_bor a hpS, ((lnk_max hi a).1 b).2⟩
      · rintro ⟨a, b⟩
        by_cases ht : tb s i
        · obtain ⟨x1, x2, x3, _⟩ := dn_up a hi ht
          exact .inr (List.mem_map.2 ⟨bnot s (2 ^ i), (k2 _).2 ⟨x1, (lnk_max hi x1).2 ⟨x2, by rw [x3]; exact b⟩⟩, x3⟩)
        · exact .inl ((d2 s).2 ⟨a, (tb_wto hi a).2 ⟨b.1, ht⟩, fun u hu hq hsub => b.2 u hu ((tb_wto hi hu).1 hq).1 hsub⟩)
    · rw [List.length_append, List.length_map] at hk
      by_cases hkD : k < D.length
      · rw [at0_appL2 hkD, take_appL (by omega)]
        exact d3 k hkD
      · obtain ⟨j, rfl⟩ : ∃ j, k = D.length + j := ⟨k - D.length, by omega⟩
        have hj : j < K.length := by omega
        have hFm := getD_mem' (l := K) hj
        have hF := hKS _ hFm
        have hFn := hKn _ hFm
        have eA : at0 (D ++ K.map fun x => bor x (2 ^ i)) (D.length + j) = bor (at0 K j) (2 ^ i) := by
          rw [at0_app, if_neg (by omega), Nat.add_sub_cancel_left]
          simp [at0, hj]
        have eT : (D ++ K.map fun x => bor x (2 ^ i)).take (D.length + j) = D ++ (K.take j).map fun x => bor x (2 ^ i) := by
          rw [List.take_append, List.take_of_length_le (by omega), Nat.add_sub_cancel_left, List.map_take]
        rw [eA, eT]
        have hfit := k3 j hj
        obtain ⟨F, hFe⟩ : ∃ F, at0 K j = F := ⟨_, rfl⟩
        rw [hFe] at hFm hF hFn hfit ⊢
        have hTS : allS (K.take j) := allS_take hKS j
        have hG := isS_bor hF hpS
        have hBS : allS (D ++ (K.take j).map fun x => bor x (2 ^ i)) := fun x hx => by
          rcases List.mem_append.1 hx with h | h
          · exact hDS x h
          · obtain ⟨y, hy, rfl⟩ := List.mem_map.1 h
            exact isS_bor (hTS y hy) hpS
        have hPS := partI_set hBS hG
        have hv : tb (partI (D ++ (K.take j).map fun x => bor x (2 ^ i)) (bor F (2 ^ i))) i := by
          rw [fresh_iff hBS hG hi]
          refine ⟨(bor_tb hF hi hi).2 (.inr rfl), ?_⟩
          have hFq := ((k2 F).1 hFm).2.1
          have hFD : wtoP q (2 ^ i) F := (tb_wto hi hF).2 ⟨hd _ _ hF hG (up_sub hi hF) hFq.2, hFn⟩
          obtain ⟨M, hM, hmax, hsub⟩ := max_above (p := wtoP q (2 ^ i)) 7 hF hFD (by have := sz_nn F; omega)
          have hMD : M ∈ D := (d2 M).2 ⟨hM, hmax⟩
          refine ⟨M, List.mem_append_left _ hMD, hDn M hMD, fun t ht hne htt => ?_⟩
          rcases (bor_tb hF hi ht).1 htt with h | h
          · exact (subS_tb hF hM).1 hsub t ht h
          · exact absurd h hne
        intro g hg h0
        have hgS := hBS g hg
        have hsub : subS (partI (D ++ (K.take j).map fun x => bor x (2 ^ i)) (bor F (2 ^ i))) g := h0
        rcases List.mem_append.1 hg with h | h
        · exact hDn g h ((subS_tb hPS hgS).1 hsub i hi hv)
        · obtain ⟨F', hF', rfl⟩ := List.mem_map.1 h
          have hF'S := hTS F' hF'
          refine hfit F' hF' ?_
          show subS (partI (K.take j) F) F'
          refine (subS_tb (partI_set hTS hF) hF'S).2 fun t ht htt => ?_
          obtain ⟨a, F2, b1, b2, b3⟩ := (fresh_iff hTS hF ht).1 htt
          have hti : t ≠ i := fun e => hFn (e ▸ a)
          have hF2S := hTS F2 b1
          have : tb (partI (D ++ (K.take j).map fun x => bor x (2 ^ i)) (bor F (2 ^ i))) t := by
            rw [fresh_iff hBS hG ht]
            refine ⟨(bor_tb hF hi ht).2 (.inl a), bor F2 (2 ^ i), List.mem_append_right _ (List.mem_map.2 ⟨F2, b1, rfl⟩), fun h => ?_, fun j2 hj2 hne hb => ?_⟩
            · rcases (bor_tb hF2S hi ht).1 h with h | h
              · exact b2 h
              · exact hti h
            · rcases (bor_tb hF hi hj2).1 hb with h | h
              · exact (bor_tb hF2S hi hj2).2 (.inl (b3 j2 hj2 hne h))
              · exact (bor_tb hF2S hi hj2).2 (.inr h)
          rcases (bor_tb hF'S hi ht).1 ((subS_tb hPS hgS).1 hsub t ht this) with h | h
          · exact h
          · exact absurd h hti
/-- A complex that can be taken apart is shellable. -/
theorem fin_fsh {n : Int} {l : List Int} (h : decP n l) (h8 : l.length ≤ 8) : fshP n l := by
  obtain ⟨hc, hf⟩ := h
  have hS := cplx_isS hc
  obtain ⟨list, h1, h2, h3⟩ := fin_shell hf (dcl_face hS)
  have hm : ∀ s, s ∈ list ↔ s ∈ srt l := fun s => by
    rw [h2, srt_mem hS, ← mem_setsOf, cplx_max hc]
  have hlen : list.length = (srt l).length := Nat.le_antisymm (len_sub h1 fun x hx => (hm x).1 hx) (len_sub (srt_nodup l) fun x hx => (hm x).2 hx)
  refine ⟨hc, h8, list, ?_⟩
  rw [List.nil_append]
  refine ⟨hlen, by omega, fun k hk => ⟨(hm _).1 (getD_mem' hk), fun hh => ?_, h3 k hk⟩⟩
  obtain ⟨j, hj, e⟩ := List.getElem_of_mem hh
  rw [List.length_take] at hj
  rw [List.getElem_take, at0_eq hk] at e
  have := (List.getElem_inj h1).1 e
  omega
end Go.Proofs.Ytmemomfffehnkaa
namespace Go.Proofs.Ytmemomfffehnkaa
open Go Go.RowKit
set_option maxRecDepth 1000000
set_option linter.unusedSimpArgs false
set_option linter.unusedVariables false
set_option maxHeartbeats 1000000
def sc_i_DecomposeBy_L2 : SC := (.seq (.seq (.reg [⟨(some 18), none, (.mov (.t 7))⟩, ⟨(some 19), none, (.bin false .lss (.t 18) (.c (.int .i64 6)))⟩, ⟨(some 20), none, (.mov (.t 19))⟩, ⟨(some 21), (some (20, true)), (.ld (some 1) .undef (.t 4))⟩, ⟨(some 22), (some (20, true)), (.mov (.t 5))⟩, ⟨(some 23), (some (20, true)), (.mov (.t 7))⟩, ⟨(some 24), (some (20, true)), (.call 193 [(.t 21), (.t 22), (.t 23)])⟩, ⟨(some 25), (some (20, true)), (.un .not (.t 24))⟩, ⟨(some 26), none, (.pick (.t 20) (.t 25) (.c (.bool false)))⟩]) (.cond (.t 26) .skip (.exit 2))) (.block 3 (.reg [⟨(some 27), none, (.mov (.t 7))⟩, ⟨(some 28), none, (.bin false .add (.t 27) (.c (.int .i64 1)))⟩, ⟨(some 7), none, (.mov (.t 28))⟩])))
def sc_i_DecomposeBy_L0 : SC := (.seq (.seq (.reg [⟨(some 14), none, (.mov (.t 5))⟩, ⟨(some 15), none, (.call 192 [(.t 14)])⟩, ⟨(some 16), none, (.len (.t 15))⟩, ⟨(some 17), none, (.bin false .gtr (.t 16) (.c (.int .i64 1)))⟩]) (.cond (.t 17) .skip (.exit 0))) (.block 1 (.seq (.reg [⟨(some 7), none, (.mov (.c (.int .i64 0)))⟩]) (.seq (.block 2 (.loop sc_i_DecomposeBy_L2)) (.seq (.seq (.reg [⟨(some 29), none, (.mov (.t 7))⟩, ⟨(some 30), none, (.bin false .eql (.t 29) (.c (.int .i64 6)))⟩]) (.cond (.t 30) (.seq (.reg [⟨(some 2), none, (.mov (.c .nil))⟩, ⟨(some 3), none, (.mov (.c (.bool false)))⟩]) .ret) .skip)) (.seq (.reg [⟨(some 31), none, (.mov (.t 6))⟩, ⟨(some 32), none, (.mov (.t 7))⟩, ⟨(some 33), none, (.mks 1 1 [(.int .i64 0)] [(0, (1, (.t 32)))])⟩, ⟨(some 34), none, (.app 1 8 (.t 31) (.t 33))⟩, ⟨(some 6), none, (.mov (.t 34))⟩]) (.reg [⟨(some 35), none, (.mov (.t 5))⟩, ⟨(some 36), none, (.mov (.t 7))⟩, ⟨(some 37), none, (.conv .u64 (.t 36))⟩, ⟨(some 38), none, (.bin false .shl (.c (.int .i64 1)) (.t 37))⟩, ⟨(some 39), none, (.call 194 [(.t 35), (.t 38)])⟩, ⟨(some 5), none, (.mov (.t 39))⟩])))))))
def sc_i_DecomposeBy : SC := (.seq (.reg [⟨(some 1), none, (.box (.t 0))⟩, ⟨(some 2), none, (.mov (.c .nil))⟩, ⟨(some 3), none, (.mov (.c (.bool false)))⟩]) (.seq (.seq (.reg [⟨(some 8), none, (.ld (some 2) .undef (.t 1))⟩, ⟨(some 9), none, (.call 98 [(.t 8)])⟩, ⟨(some 10), none, (.un .not (.t 9))⟩]) (.cond (.t 10) (.seq (.reg [⟨(some 2), none, (.mov (.c .nil))⟩, ⟨(some 3), none, (.mov (.c (.bool false)))⟩]) .ret) .skip)) (.seq (.reg [⟨(some 11), none, (.call 191 [])⟩, ⟨(some 4), none, (.new [.nmap])⟩, ⟨none, none, (.st 1 (.t 4) (.t 11))⟩]) (.seq (.reg [⟨(some 12), none, (.ld (some 2) .undef (.t 1))⟩, ⟨(some 13), none, (.call 151 [(.t 12)])⟩, ⟨(some 5), none, (.mov (.t 13))⟩]) (.seq (.reg [⟨(some 6), none, (.mov (.c .nil))⟩]) (.seq (.block 0 (.loop sc_i_DecomposeBy_L0)) (.seq (.reg [⟨(some 40), none, (.mov (.t 6))⟩, ⟨(some 2), none, (.mov (.t 40))⟩, ⟨(some 3), none, (.mov (.c (.bool true)))⟩]) .ret)))))))
theorem code_i_DecomposeBy : fnCode Try.prog [196, 193, 191] 96 = some (41, sc_i_DecomposeBy, [(2, none), (3, none)]) := by kernel_rfl
theorem fn_i_DecomposeBy : FnOk Try.prog 96 F_s_DecomposeBy := by
  have env := ((((((envNil_ok (P := Try.prog)).add fn_i_IsDecomposable).add fn_i_newDecomposer).add fn_i_facesIn).add fn_i_maximalIn).add fn_i_deletionIn).addl (ln_i_splits (ln_i_works 7))
  refine fn_ok code_i_DecomposeBy mixed env ?_
  intro args r h hb
  obtain ⟨_, ⟨n, l⟩, rfl, h1, h4⟩ := F1_inv h
  cases dC_inv h1
  cases h4
  refine ⟨by simp, fun w0 U0 L0 N0 => ?_⟩
  clear h hb
  have hID : F_s_IsDecomposable [.agg [.int .i64 n, .list 1 (ints l)]] = some (.bool (dec (decP n l))) := by simp [F_s_IsDecomposable]
  by_cases hP : decP n l
  rotate_left
  · rw [dec_false hP] at hID
    simp only
    rw [dcbL_no hP, dec_false hP]
    simp -implicitDefEqProofs [sc_i_DecomposeBy, hID]
  rw [dec_true hP] at hID
  simp only
  rw [dcbL_yes hP, dec_true hP]
  obtain ⟨hc, hf⟩ := hP
  have hS := cplx_isS hc
  have hst := dI'_start hf
  have hd0 := dcl_face hS
  generalize dcb 7 (faceS l) = R at *
  have hFI : F_i_facesIn [.agg [.int .i64 n, .list 1 (ints l)]] = some (.int .u64 (fam (faceS l))) := by
    simp [F_i_facesIn, hS]
  have inner : ∀ (p : Int → Prop) (D : MM) (A o : List Int) (m : Nat) (Q : Post) (T0 : Tm), dcl p → mInv 7 D → m < 6 → splQ p m → (∀ i : Nat, i < m → ¬ splQ p i) →
      subE T0 [(4, .pt 2 0), (5, .int .u64 (fam p)), (6, .sl 3 1 0 o.length), (7, .int .i64 0)] →
      (∀ D', mInv 7 D' → Q (.exit 2) [(4, .pt 2 0), (5, .int .u64 (fam p)), (6, .sl 3 1 0 o.length), (7, .int .i64 (m : Int))] ([(4, ints A), (3, ints o), (2, [.mp 1]), (1, [.mpe D']), (0, [.int .i64 n, .list 1 (ints l)])], 5)) →
      LoopI ⟨Try.prog, w0, U0, L0, N0, 0, 41⟩ [196, 193, 191] sc_i_DecomposeBy_L2 Q T0 ([(4, ints A), (3, ints o), (2, [.mp 1]), (1, [.mpe D]), (0, [.int .i64 n, .list 1 (ints l)])], 5) := by
    intro p D A o m Q T0 hd hD hm hs hmin hT hQ
    refine loopQ env mixed (fun x : Nat × MM => [(4, .pt 2 0), (5, .int .u64 (fam p)), (6, .sl 3 1 0 o.length), (7, .int .i64 (x.1 : Int))]) (fun x => ([(4, ints A), (3, ints o), (2, [.mp 1]), (1, [.mpe x.2]), (0, [.int .i64 n, .list 1 (ints l)])], 5)) (fun x => x.1 ≤ m ∧ mInv 7 x.2) (fun x => m - x.1) (0, D) ⟨by simp, hD⟩ (SubI.slots rfl (by simpa using hT)) ?_
    rintro ⟨j, E⟩ ⟨hj, hE⟩
    simp only at hj hE
    have hj6 : (j : Int) < 6 := by omega
    have hg := G_splits_fam (k := 7) (p := p) (D := E) (m := j) hd (by have := pts_six p; omega) (by omega)
    obtain ⟨a1, a2, _⟩ := spW_ok (wk_ok 7) (m := 7) (p := p) (D := E) (i := j) (by omega) hd (by have := pts_six p; omega) (Nat.le_refl _) hE
    generalize spW (wk 7) (fam p) j E = x1 at *
    obtain ⟨b1, E1⟩ := x1
    simp only at hg a1 a2
    subst a1
    by_cases e : j = m
    · subst e
      rw [dec_true hs] at hg
      simp -implicitDefEqProofs [sc_i_DecomposeBy_L2, ren0, hj6, hg]
      exact SubQ.of (SubI.slots rfl (by simp)) (hQ E1 a2)
    · rw [dec_false (hmin j (by omega))] at hg
      simp -implicitDefEqProofs [sc_i_DecomposeBy_L2, ren0, hj6, hg]
      refine Again.of (j + 1, E1) ?_ ?_ ?_
      · exact ⟨by simp only; omega, a2⟩
      · simp only; omega
      · exact SubI.slots rfl (by simp (disch := omega) [wrapI])
  simp -implicitDefEqProofs [sc_i_DecomposeBy, F_i_newDecomposer, hID, hFI]
  refine loopI env mixed (fun x : Nat × (Int → Prop) × MM × List Int => [(4, .pt 2 0), (5, .int .u64 (fam x.2.1)), (6, .sl 3 1 0 x.2.2.2.length)]) (fun x => ([(3, ints x.2.2.2), (2, [.mp 1]), (1, [.mpe x.2.2.1]), (0, [.int .i64 n, .list 1 (ints l)])], 4)) (fun x => dcl x.2.1 ∧ mInv 7 x.2.2.1 ∧ dI' R x.1 x.2.1 x.2.2.2) (fun x => x.1) (7, faceS l, [], []) ⟨hd0, mInv_nil 7, hst⟩ (SubI.nilN 6 1 (by simp) (SubI.slots (by simp) (by simp))) ?_
  rintro ⟨k, p, D, o⟩ ⟨hd, hD, hI⟩
  simp only at hd hD hI
  have hol := hI.hl
  have g1 := maxG_fam p
  have hml := setsOf_len (maxP p)
  by_cases hl : (setsOf (maxP p)).length ≤ 1
  · have e := hI.done hl
    subst e
    clear hI hst
    generalize setsOf (maxP p) = A at *
    have hl' : ¬ (1 < (A.length : Int)) := by omega
    simp -implicitDefEqProofs [sc_i_DecomposeBy_L0, F_i_maximalIn, g1, hl']
    try omega
  · obtain ⟨j, m, rfl, hm, hs, hmin, hnx⟩ := hI.step hl
    have hpS := isS_pow hm
    have hI2 := hnx (wtoP p (2 ^ m)) (fun _ _ => Iff.rfl)
    have hd2 := dcl_wto hd hpS
    have hu : IntKind.u64.wrap (m : Int) = m := wrapU _ (by omega) (by omega)
    have hsh := shl6 hm
    have g2 := wtoG_fam p hpS
    have hm6 : ¬ ((m : Int) = 6) := by omega
    clear hnx hI hst
    generalize setsOf (maxP p) = A at *
    have hl' : (1 < (A.length : Int)) := by omega
    simp -implicitDefEqProofs [sc_i_DecomposeBy_L0, F_i_maximalIn, g1, hl']
    refine inner p D A o m _ _ hd hD hm hs hmin (by simp) ?_
    intro D' hD'
    generalize wtoP p (2 ^ m) = q at *
    generalize (2 : Int) ^ m = z at *
    simp -implicitDefEqProofs [F_i_deletionIn, hu, hsh, g2, hm6]
    repeat' (first | omega | apply And.intro)
    refine Again.of (j, q, D', o ++ [(m : Int)]) ⟨hd2, hD', hI2⟩ (by simp only; omega) (SubI.ren (fun m => if m = 0 then some 0 else if m = 1 then some 1 else if m = 2 then some 2 else if m = 3 then some 6 else none) ?_ ?_ ?_ (by simp) (by simp))
    · simp (disch := omega) [subT, renV, ren1, wrapI]
    · simp [subH, renL, ren1]
      rw [← ints_app]
      rfl
    · intro m hm
      simp only at hm
      rw [if_neg (by omega), if_neg (by omega), if_neg (by omega), if_neg (by omega)]
end Go.Proofs.Ytmemomfffehnkaa
namespace Go.Proofs.Ytmemomfffehnkaa
open Go Go.RowKit
set_option maxRecDepth 1000000
set_option linter.unusedSimpArgs false
set_option linter.unusedVariables false
set_option maxHeartbeats 1000000
def sc_i_IsShedding : SC := (.seq (.reg [⟨(some 2), none, (.box (.t 0))⟩, ⟨(some 4), none, (.mov (.c (.bool false)))⟩]) (.seq (.seq (.reg [⟨(some 5), none, (.ld (some 2) .undef (.t 2))⟩, ⟨(some 6), none, (.call 130 [(.t 5)])⟩, ⟨(some 7), none, (.un .not (.t 6))⟩, ⟨(some 8), none, (.mov (.t 7))⟩, ⟨(some 9), (some (8, false)), (.mov (.t 1))⟩, ⟨(some 10), (some (8, false)), (.bin false .lss (.t 9) (.c (.int .i64 0)))⟩, ⟨(some 11), none, (.pick (.t 8) (.c (.bool true)) (.t 10))⟩, ⟨(some 12), none, (.mov (.t 11))⟩, ⟨(some 13), (some (12, false)), (.mov (.t 1))⟩, ⟨(some 14), (some (12, false)), (.fad 0 (.t 2))⟩, ⟨(some 15), (some (12, false)), (.ld none (.int .i64 0) (.t 14))⟩, ⟨(some 16), (some (12, false)), (.bin false .geq (.t 13) (.t 15))⟩, ⟨(some 17), none, (.pick (.t 12) (.c (.bool true)) (.t 16))⟩]) (.cond (.t 17) (.seq (.reg [⟨(some 4), none, (.mov (.c (.bool false)))⟩]) .ret) .skip)) (.seq (.reg [⟨(some 18), none, (.ld (some 2) .undef (.t 2))⟩, ⟨(some 19), none, (.call 151 [(.t 18)])⟩, ⟨(some 20), none, (.mov (.t 1))⟩, ⟨(some 21), none, (.call 198 [(.t 19), (.t 20)])⟩, ⟨(some 4), none, (.mov (.t 21))⟩]) .ret)))
theorem code_i_IsShedding : fnCode Try.prog [] 100 = some (22, sc_i_IsShedding, [(4, none)]) := by kernel_rfl
theorem fn_i_IsShedding : FnOk Try.prog 100 F_s_IsShedding := by
  have env := (((envNil_ok (P := Try.prog)).add fn_i_IsComplex).add fn_i_facesIn).add fn_i_sheds
  refine fn_ok code_i_IsShedding mixed env ?_
  intro args r h hb
  obtain ⟨_, _, ⟨n, l⟩, x, rfl, h1, h2, h4⟩ := F2_inv h
  cases dC_inv h1
  cases dI_inv h2
  clear h
  simp only [Option.ite_none_right_eq_some, Option.some.injEq] at h4
  obtain ⟨hx, rfl⟩ := h4
  refine ⟨by simp, fun w0 U0 L0 N0 => ?_⟩
  clear hb
  generalize hv : dec (shdP n l x) = v
  cases e0 : cplxB n l with
  | false =>
    have hv1 : v = false := hv ▸ dec_false fun h => by simp [cplxB_iff.2 h.1] at e0
    simp -implicitDefEqProofs [sc_i_IsShedding, F_s_IsComplex, e0, hv1]
  | true =>
  have hc := cplxB_iff.1 e0
  have hS := cplx_isS hc
  obtain ⟨hn1, hn6, _⟩ := id hc
  by_cases g0 : x < 0
  · have hv1 : v = false := hv ▸ dec_false fun h => by have := h.2.1; omega
    simp -implicitDefEqProofs [sc_i_IsShedding, F_s_IsComplex, e0, g0, hv1]
  by_cases g1 : n ≤ x
  · have hv1 : v = false := hv ▸ dec_false fun h => by have := h.2.2.1; omega
    simp -implicitDefEqProofs [sc_i_IsShedding, F_s_IsComplex, e0, g0, g1, hv1]
  obtain ⟨m, rfl⟩ : ∃ m : Nat, x = m := ⟨x.toNat, by omega⟩
  have hm : m < 6 := by omega
  have hvv : dec (shedQ (faceS l) m) = v := by
    rw [← hv, Bool.eq_iff_iff, dec_iff, dec_iff]
    exact ⟨fun h => ⟨hc, by omega, by omega, h⟩, fun h => h.2.2.2⟩
  have hg := shedG_fam (faceS l) hm
  simp -implicitDefEqProofs [sc_i_IsShedding, F_s_IsComplex, F_i_facesIn, F_i_sheds, e0, g0, g1, hS, hg, hvv]
end Go.Proofs.Ytmemomfffehnkaa
namespace Go.Proofs.Ytmemomfffehnkaa
open Go Go.RowKit
set_option maxRecDepth 1000000
set_option linter.unusedSimpArgs false
set_option linter.unusedVariables false
set_option maxHeartbeats 1000000
def sc_s_FirstShedding_L0 : SC := (.seq (.seq (.reg [⟨(some 4), none, (.mov (.t 3))⟩, ⟨(some 5), none, (.fad 0 (.t 1))⟩, ⟨(some 6), none, (.ld none (.int .i64 0) (.t 5))⟩, ⟨(some 7), none, (.bin false .lss (.t 4) (.t 6))⟩, ⟨(some 8), none, (.mov (.t 7))⟩, ⟨(some 9), (some (8, true)), (.ld (some 2) .undef (.t 1))⟩, ⟨(some 10), (some (8, true)), (.call 24 [(.t 9)])⟩, ⟨(some 11), none, (.pick (.t 8) (.t 10) (.c (.bool false)))⟩]) (.cond (.t 11) .skip (.exit 0))) (.seq (.block 1 (.seq (.reg [⟨(some 14), none, (.ld (some 2) .undef (.t 1))⟩, ⟨(some 15), none, (.mov (.t 3))⟩, ⟨(some 16), none, (.call 101 [(.t 14), (.t 15)])⟩]) (.cond (.t 16) (.seq (.reg [⟨(some 17), none, (.mov (.t 3))⟩, ⟨(some 2), none, (.mov (.t 17))⟩]) .ret) .skip))) (.reg [⟨(some 12), none, (.mov (.t 3))⟩, ⟨(some 13), none, (.bin false .add (.t 12) (.c (.int .i64 1)))⟩, ⟨(some 3), none, (.mov (.t 13))⟩])))
def sc_s_FirstShedding : SC := (.seq (.reg [⟨(some 1), none, (.box (.t 0))⟩, ⟨(some 2), none, (.mov (.c (.int .i64 0)))⟩]) (.seq (.seq (.reg [⟨(some 3), none, (.mov (.c (.int .i64 0)))⟩]) (.block 0 (.loop sc_s_FirstShedding_L0))) (.seq (.reg [⟨(some 2), none, (.mov (.c (.int .i64 (-1))))⟩]) .ret)))
theorem code_s_FirstShedding : fnCode Try.prog [] 103 = some (18, sc_s_FirstShedding, [(2, none)]) := by kernel_rfl
/-- The least point below m that can be taken away, or -1. -/
def fsR (n : Int) (l : List Int) (v : Int) : Prop := (v = -1 ∧ ∀ i : Nat, i < 6 → ¬ shdP n l i) ∨ ∃ m : Nat, m < 6 ∧ v = m ∧ shdP n l m ∧ ∀ i : Nat, i < m → ¬ shdP n l i
theorem least_lt (q : Nat → Prop) : ∀ k, (∀ i, i < k → ¬ q i) ∨ ∃ m, m < k ∧ q m ∧ ∀ i, i < m → ¬ q i
  | 0 => .inl fun i hi => by omega
  | k + 1 => by
    rcases least_lt q k with h | ⟨m, a, b, c⟩
    · by_cases hq : q k
      · exact .inr ⟨k, by omega, hq, h⟩
      · refine .inl fun i hi => ?_
        rcases Nat.lt_succ_iff_lt_or_eq.1 hi with h1 | rfl
        · exact h i h1
        · exact hq
    · exact .inr ⟨m, by omega, b, c⟩
theorem fs_ex (n : Int) (l : List Int) : ∃ v, fsR n l v := by
  rcases least_lt (fun i => shdP n l i) 6 with h | ⟨m, a, b, c⟩
  · exact ⟨-1, .inl ⟨rfl, h⟩⟩
  · exact ⟨m, .inr ⟨m, a, rfl, b, c⟩⟩
noncomputable def fsZ (n : Int) (l : List Int) : Int := Classical.choose (fs_ex n l)
theorem fsZ_spec (n : Int) (l : List Int) : fsR n l (fsZ n l) := Classical.choose_spec (fs_ex n l)
theorem fsZ_hit {n : Int} {l : List Int} {m : Nat} (hm : m < 6) (h : shdP n l m) (hmin : ∀ i : Nat, i < m → ¬ shdP n l i) : fsZ n l = m := by
  rcases fsZ_spec n l with ⟨_, b⟩ | ⟨k, hk, e, hs, hmin2⟩
  · exact absurd h (b m hm)
  · rw [e]
    rcases Nat.lt_trichotomy m k with h1 | h1 | h1
    · exact absurd h (hmin2 m h1)
    · rw [h1]
    · exact absurd hs (hmin k h1)
theorem fsZ_none {n : Int} {l : List Int} (h : ∀ i : Nat, i < 6 → ¬ shdP n l i) : fsZ n l = -1 := by
  rcases fsZ_spec n l with ⟨a, _⟩ | ⟨k, hk, _, hs, _⟩
  · exact a
  · exact absurd hs (h k hk)
noncomputable def F_s_FirstShedding : List V → Option V := F1 dC fun c => some (.int .i64 (fsZ c.1 c.2))
theorem fn_s_FirstShedding : FnOk Try.prog 103 F_s_FirstShedding := by
  have env := ((envNil_ok (P := Try.prog)).add fn_s_IsComplex).add fn_s_IsShedding
  refine fn_ok code_s_FirstShedding mixed env ?_
  intro args r h hb
  obtain ⟨_, ⟨n, l⟩, rfl, h1, h4⟩ := F1_inv h
  cases dC_inv h1
  cases h4
  clear h
  refine ⟨by simp, fun w0 U0 L0 N0 => ?_⟩
  clear hb
  have hhit := fun (m : Nat) hm h1 h2 => fsZ_hit (n := n) (l := l) (m := m) hm h1 h2
  have hnone := fsZ_none (n := n) (l := l)
  generalize fsZ n l = z at *
  simp -implicitDefEqProofs [sc_s_FirstShedding]
  refine loopI env mixed (fun k : Nat => [(1, .pt 0 0), (3, .int .i64 (k : Int))]) (fun _ => ([(0, [.int .i64 n, .list 1 (ints l)])], 1)) (fun k => k ≤ 6 ∧ ∀ i : Nat, i < k → ¬ shdP n l i) (fun k => 6 - k) 0 (by simp) (SubI.slots rfl (by simp)) ?_
  rintro k ⟨hk, hno⟩
  have out : (∀ i : Nat, i < 6 → ¬ shdP n l i) → z = -1 := hnone
  by_cases hlt : (k : Int) < n
  · cases e0 : cplxB n l with
    | false =>
      have hz := out fun i hi h => by simp [cplxB_iff.2 h.1] at e0
      simp -implicitDefEqProofs [sc_s_FirstShedding_L0, F_s_IsComplex, hlt, e0, hz]
    | true =>
      have hc := cplxB_iff.1 e0
      have hn6 := hc.2.1
      have hk6 : k < 6 := by omega
      have hr : inR (k : Int) := ⟨by omega, by omega⟩
      by_cases hs : shdP n l k
      · have hz := hhit k hk6 hs hno
        rw [hz]
        have hd := dec_true hs
        simp -implicitDefEqProofs [sc_s_FirstShedding_L0, F_s_IsComplex, F_s_IsShedding, hlt, e0, hr, hd]
      · have hd := dec_false hs
        simp -implicitDefEqProofs [sc_s_FirstShedding_L0, F_s_IsComplex, F_s_IsShedding, hlt, e0, hr, hd]
        repeat' (first | omega | apply And.intro)
        refine Again.of (k + 1) ⟨by omega, fun i hi => ?_⟩ (by omega) (SubI.slots rfl (by simp (disch := omega) [wrapI]))
        rcases Nat.lt_succ_iff_lt_or_eq.1 hi with h1 | rfl
        · exact hno i h1
        · exact hs
  · have hz := out fun i hi h => by
      by_cases h2 : i < k
      · exact hno i h2 h
      · have := h.2.2.1; omega
    simp -implicitDefEqProofs [sc_s_FirstShedding_L0, hlt, hz]
end Go.Proofs.Ytmemomfffehnkaa
namespace Go.Proofs.Ytmemomfffehnkaa
open Go Go.RowKit
set_option maxRecDepth 1000000
set_option linter.unusedSimpArgs false
set_option linter.unusedVariables false
set_option maxHeartbeats 1000000
def sc_i_FirstShedding_L0 : SC := (.seq (.seq (.reg [⟨(some 4), none, (.mov (.t 3))⟩, ⟨(some 5), none, (.bin false .lss (.t 4) (.c (.int .i64 6)))⟩]) (.cond (.t 5) .skip (.exit 0))) (.seq (.block 1 (.seq (.reg [⟨(some 8), none, (.ld (some 2) .undef (.t 1))⟩, ⟨(some 9), none, (.mov (.t 3))⟩, ⟨(some 10), none, (.call 100 [(.t 8), (.t 9)])⟩]) (.cond (.t 10) (.seq (.reg [⟨(some 11), none, (.mov (.t 3))⟩, ⟨(some 2), none, (.mov (.t 11))⟩]) .ret) .skip))) (.reg [⟨(some 6), none, (.mov (.t 3))⟩, ⟨(some 7), none, (.bin false .add (.t 6) (.c (.int .i64 1)))⟩, ⟨(some 3), none, (.mov (.t 7))⟩])))
def sc_i_FirstShedding : SC := (.seq (.reg [⟨(some 1), none, (.box (.t 0))⟩, ⟨(some 2), none, (.mov (.c (.int .i64 0)))⟩]) (.seq (.seq (.reg [⟨(some 3), none, (.mov (.c (.int .i64 0)))⟩]) (.block 0 (.loop sc_i_FirstShedding_L0))) (.seq (.reg [⟨(some 2), none, (.mov (.c (.int .i64 (-1))))⟩]) .ret)))
theorem code_i_FirstShedding : fnCode Try.prog [] 102 = some (12, sc_i_FirstShedding, [(2, none)]) := by kernel_rfl
theorem fn_i_FirstShedding : FnOk Try.prog 102 F_s_FirstShedding := by
  have env := (envNil_ok (P := Try.prog)).add fn_i_IsShedding
  refine fn_ok code_i_FirstShedding mixed env ?_
  intro args r h hb
  obtain ⟨_, ⟨n, l⟩, rfl, h1, h4⟩ := F1_inv h
  cases dC_inv h1
  cases h4
  clear h
  refine ⟨by simp, fun w0 U0 L0 N0 => ?_⟩
  clear hb
  have hhit := fun (m : Nat) hm h1 h2 => fsZ_hit (n := n) (l := l) (m := m) hm h1 h2
  have hnone := fsZ_none (n := n) (l := l)
  generalize fsZ n l = z at *
  simp -implicitDefEqProofs [sc_i_FirstShedding]
  refine loopI env mixed (fun k : Nat => [(1, .pt 0 0), (3, .int .i64 (k : Int))]) (fun _ => ([(0, [.int .i64 n, .list 1 (ints l)])], 1)) (fun k => k ≤ 6 ∧ ∀ i : Nat, i < k → ¬ shdP n l i) (fun k => 6 - k) 0 (by simp) (SubI.slots rfl (by simp)) ?_
  rintro k ⟨hk, hno⟩
  by_cases hlt : k < 6
  · have hlt' : (k : Int) < 6 := by omega
    have hr : inR (k : Int) := ⟨by omega, by omega⟩
    by_cases hs : shdP n l k
    · have hz := hhit k hlt hs hno
      rw [hz]
      have hd := dec_true hs
      simp -implicitDefEqProofs [sc_i_FirstShedding_L0, F_s_IsShedding, hlt', hr, hd]
    · have hd := dec_false hs
      simp -implicitDefEqProofs [sc_i_FirstShedding_L0, F_s_IsShedding, hlt', hr, hd]
      repeat' (first | omega | apply And.intro)
      refine Again.of (k + 1) ⟨by omega, fun i hi => ?_⟩ (by omega) (SubI.slots rfl (by simp (disch := omega) [wrapI]))
      rcases Nat.lt_succ_iff_lt_or_eq.1 hi with h1 | rfl
      · exact hno i h1
      · exact hs
  · have hlt' : ¬ ((k : Int) < 6) := by omega
    have hz := hnone fun i hi h => hno i (by omega) h
    simp -implicitDefEqProofs [sc_i_FirstShedding_L0, hlt', hz]
end Go.Proofs.Ytmemomfffehnkaa
namespace Go.Proofs.Ytmemomfffehnkaa
open Go Go.RowKit
set_option maxRecDepth 1000000
set_option linter.unusedSimpArgs false
set_option linter.unusedVariables false
set_option maxHeartbeats 1000000
def sc_s_IsShellable : SC := (.seq (.reg [⟨(some 1), none, (.box (.t 0))⟩, ⟨(some 2), none, (.mov (.c (.bool false)))⟩]) (.seq (.reg [⟨(some 6), none, (.ld (some 2) .undef (.t 1))⟩, ⟨(some 7), none, (.call 31 [(.t 6)])⟩, ⟨(some 5), none, (.mov (.t 7))⟩, ⟨(some 8), none, (.ext 0 (.t 5))⟩, ⟨(some 9), none, (.ext 1 (.t 5))⟩, ⟨(some 3), none, (.mov (.t 8))⟩, ⟨(some 4), none, (.mov (.t 9))⟩]) (.seq (.reg [⟨(some 10), none, (.mov (.t 4))⟩, ⟨(some 2), none, (.mov (.t 10))⟩]) .ret)))
theorem code_s_IsShellable : fnCode Try.prog [] 62 = some (11, sc_s_IsShellable, [(2, none)]) := by kernel_rfl
noncomputable def F_s_IsShellable : List V → Option V := F1 dC fun c => some (.bool (dec (fshP c.1 c.2)))
theorem fn_s_IsShellable : FnOk Try.prog 62 F_s_IsShellable := by
  have env := (envNil_ok (P := Try.prog)).add fn_s_FindShelling
  refine fn_ok code_s_IsShellable mixed env ?_
  intro args r h hb
  obtain ⟨_, ⟨n, l⟩, rfl, h1, h4⟩ := F1_inv h
  cases dC_inv h1
  cases h4
  clear h
  refine ⟨by simp, fun w0 U0 L0 N0 => ?_⟩
  simp -implicitDefEqProofs [sc_s_IsShellable, F_s_FindShelling]
end Go.Proofs.Ytmemomfffehnkaa
namespace Go.Proofs.Ytmemomfffehnkaa
open Go Go.RowKit
set_option maxRecDepth 1000000
set_option linter.unusedSimpArgs false
set_option linter.unusedVariables false
set_option maxHeartbeats 1000000
def sc_l_big : SC := (.seq (.reg [⟨(some 2), none, (.mov (.c (.bool false)))⟩]) (.seq (.reg [⟨(some 3), none, (.mov (.t 0))⟩, ⟨(some 4), none, (.len (.t 3))⟩, ⟨(some 5), none, (.bin false .gtr (.t 4) (.c (.int .i64 1048576)))⟩, ⟨(some 2), none, (.mov (.t 5))⟩]) .ret))
theorem code_l_big : fnCode Try.prog [] 10 = some (6, sc_l_big, [(2, none)]) := by kernel_rfl
def F_l_big : List V → Option V
  | [.list 1 cells] => some (.bool (decide (1048576 < cells.length)))
  | _ => none
theorem fn_l_big : FnOk Try.prog 10 F_l_big := by
  refine fn_ok code_l_big mixed envNil_ok ?_
  intro args r h hb
  unfold F_l_big at h
  split at h
  case h_2 => simp at h
  rename_i cells
  simp only [Option.some.injEq] at h
  subst h
  refine ⟨by simp, fun w0 U0 L0 N0 => ?_⟩
  clear hb
  by_cases hl : 1048576 < cells.length
  · have hl' : (1048576 : Int) < cells.length := by omega
    simp -implicitDefEqProofs [sc_l_big, hl, hl']
    try omega
  · have hl' : ¬ ((1048576 : Int) < cells.length) := by omega
    simp -implicitDefEqProofs [sc_l_big, hl, hl']
    try omega
def sc_l_sameInts_L0 : SC := (.seq (.seq (.reg [⟨(some 11), none, (.mov (.t 5))⟩, ⟨(some 12), none, (.mov (.t 0))⟩, ⟨(some 13), none, (.len (.t 12))⟩, ⟨(some 14), none, (.bin false .lss (.t 11) (.t 13))⟩]) (.cond (.t 14) .skip (.exit 0))) (.seq (.block 1 (.seq (.dreg [⟨⟨(some 17), none, (.mov (.t 0))⟩, false, false⟩, ⟨⟨(some 18), none, (.mov (.t 5))⟩, false, false⟩, ⟨⟨(some 19), none, (.idx 1 (.t 17) (.t 18))⟩, false, false⟩, ⟨⟨(some 20), none, (.ld none (.int .i64 0) (.t 19))⟩, false, false⟩, ⟨⟨(some 21), none, (.mov (.t 1))⟩, false, false⟩, ⟨⟨(some 22), none, (.mov (.t 5))⟩, false, false⟩, ⟨⟨(some 23), none, (.idx 1 (.t 21) (.t 22))⟩, false, false⟩, ⟨⟨(some 24), none, (.ld none (.int .i64 0) (.t 23))⟩, false, false⟩, ⟨⟨(some 25), none, (.bin false .neq (.t 20) (.t 24))⟩, false, false⟩]) (.cond (.t 25) (.seq (.reg [⟨(some 4), none, (.mov (.c (.bool false)))⟩]) .ret) .skip))) (.reg [⟨(some 15), none, (.mov (.t 5))⟩, ⟨(some 16), none, (.bin false .add (.t 15) (.c (.int .i64 1)))⟩, ⟨(some 5), none, (.mov (.t 16))⟩])))
def sc_l_sameInts : SC := (.seq (.reg [⟨(some 4), none, (.mov (.c (.bool false)))⟩]) (.seq (.seq (.reg [⟨(some 6), none, (.mov (.t 0))⟩, ⟨(some 7), none, (.len (.t 6))⟩, ⟨(some 8), none, (.mov (.t 1))⟩, ⟨(some 9), none, (.len (.t 8))⟩, ⟨(some 10), none, (.bin false .neq (.t 7) (.t 9))⟩]) (.cond (.t 10) (.seq (.reg [⟨(some 4), none, (.mov (.c (.bool false)))⟩]) .ret) .skip)) (.seq (.seq (.reg [⟨(some 5), none, (.mov (.c (.int .i64 0)))⟩]) (.block 0 (.loop sc_l_sameInts_L0))) (.seq (.reg [⟨(some 4), none, (.mov (.c (.bool true)))⟩]) .ret))))
theorem code_l_sameInts : fnCode Try.prog [] 19 = some (26, sc_l_sameInts, [(4, none)]) := by kernel_rfl
noncomputable def F_l_sameInts : List V → Option V := F2 dL dL fun a b => some (.bool (dec (a = b)))
theorem fn_l_sameInts : FnOk Try.prog 19 F_l_sameInts := by
  refine fn_ok code_l_sameInts mixed envNil_ok ?_
  intro args r h hb
  obtain ⟨_, _, a, b, rfl, h1, h2, h4⟩ := F2_inv h
  cases dL_inv h1
  cases dL_inv h2
  cases h4
  clear h
  have hla := bnd_ints (hb (.list 1 (ints a)) (by simp))
  refine ⟨by simp, fun w0 U0 L0 N0 => ?_⟩
  clear hb
  generalize hv : dec (a = b) = v
  by_cases hl : a.length = b.length
  rotate_left
  · have hv1 : v = false := hv ▸ dec_false fun h => hl (by rw [h])
    have hl' : ¬ ((a.length : Int) = b.length) := by omega
    simp -implicitDefEqProofs [sc_l_sameInts, hl', hv1]
  simp -implicitDefEqProofs [sc_l_sameInts, hl]
  refine loopI envNil_ok mixed (fun k : Nat => [(0, .list 1 (ints a)), (1, .list 1 (ints b)), (5, .int .i64 (k : Int))]) (fun _ => ([], 0)) (fun k => k ≤ a.length ∧ ∀ j, j < k → at0 a j = at0 b j) (fun k => a.length - k) 0 (by simp) (SubI.slots rfl (by simp)) ?_
  rintro k ⟨hk, hI⟩
  by_cases hlt : k < a.length
  · have hlt2 : k < b.length := by omega
    by_cases he : at0 a k = at0 b k
    · simp -implicitDefEqProofs [sc_l_sameInts_L0, freeOk, hlt, hlt2, he]
      repeat' (first | omega | apply And.intro)
      refine Again.of (k + 1) ⟨by omega, fun j hj => ?_⟩ (by omega) (SubI.slots rfl (by simp (disch := omega) [wrapI]))
      rcases Nat.lt_succ_iff_lt_or_eq.1 hj with h1 | rfl
      · exact hI j h1
      · exact he
    · have hv1 : v = false := hv ▸ dec_false fun h => he (by rw [h])
      simp -implicitDefEqProofs [sc_l_sameInts_L0, freeOk, hlt, hlt2, he, hv1]
      try omega
  · have hv1 : v = true := hv ▸ dec_true (by
      refine List.ext_getElem hl fun j h1 h2 => ?_
      have := hI j (by omega)
      rwa [at0_eq h1, at0_eq h2] at this)
    have hka : k = a.length := by omega
    subst hka
    simp -implicitDefEqProofs [sc_l_sameInts_L0, hl, hv1]
end Go.Proofs.Ytmemomfffehnkaa
namespace Go.Proofs.Ytmemomfffehnkaa
open Go Go.RowKit
set_option maxRecDepth 1000000
set_option linter.unusedSimpArgs false
set_option linter.unusedVariables false
set_option maxHeartbeats 1000000
def sc_l_FnDecomposed_L0 : SC := (.seq (.seq (.reg [⟨(some 98), none, (.mov (.t 11))⟩, ⟨(some 99), none, (.mov (.t 6))⟩, ⟨(some 100), none, (.len (.t 99))⟩, ⟨(some 101), none, (.bin false .lss (.t 98) (.t 100))⟩]) (.cond (.t 101) .skip (.exit 0))) (.seq (.block 1 (.cut (.seq (.dreg [⟨⟨(some 104), none, (.mov (.t 6))⟩, false, false⟩, ⟨⟨(some 105), none, (.mov (.t 11))⟩, false, false⟩, ⟨⟨(some 106), none, (.idx 1 (.t 104) (.t 105))⟩, false, false⟩, ⟨⟨(some 107), none, (.ld none (.int .i64 0) (.t 106))⟩, false, false⟩, ⟨⟨(some 108), none, (.bin false .lss (.t 107) (.c (.int .i64 0)))⟩, false, false⟩, ⟨⟨(some 109), none, (.mov (.t 108))⟩, false, false⟩, ⟨⟨(some 110), (some (109, false)), (.mov (.t 6))⟩, false, false⟩, ⟨⟨(some 111), (some (109, false)), (.mov (.t 11))⟩, false, false⟩, ⟨⟨(some 112), (some (109, false)), (.idx 1 (.t 110) (.t 111))⟩, false, false⟩, ⟨⟨(some 113), (some (109, false)), (.ld none (.int .i64 0) (.t 112))⟩, false, false⟩, ⟨⟨(some 114), (some (109, false)), (.bin false .gtr (.t 113) (.c (.int .i64 5)))⟩, false, false⟩, ⟨⟨(some 115), none, (.pick (.t 109) (.c (.bool true)) (.t 114))⟩, false, false⟩, ⟨⟨(some 116), none, (.mov (.t 115))⟩, false, false⟩, ⟨⟨(some 117), (some (116, false)), (.ld (some 2) .undef (.t 10))⟩, false, false⟩, ⟨⟨(some 118), (some (116, false)), (.mov (.t 6))⟩, false, false⟩, ⟨⟨(some 119), (some (116, false)), (.mov (.t 11))⟩, false, false⟩, ⟨⟨(some 120), (some (116, false)), (.idx 1 (.t 118) (.t 119))⟩, false, false⟩, ⟨⟨(some 121), (some (116, false)), (.ld none (.int .i64 0) (.t 120))⟩, false, false⟩, ⟨⟨(some 122), (some (116, false)), (.call 100 [(.t 117), (.t 121)])⟩, false, false⟩, ⟨⟨(some 123), (some (116, false)), (.un .not (.t 122))⟩, false, false⟩, ⟨⟨(some 124), none, (.pick (.t 116) (.c (.bool true)) (.t 123))⟩, false, false⟩]) (.cond (.t 124) (.seq (.reg [⟨(some 2), none, (.mov (.c (.bool false)))⟩]) .ret) .skip)) (.seq (.treg (.fst ⟨(some 127), none, (.mov (.t 6))⟩ true (.fst ⟨(some 128), none, (.mov (.t 11))⟩ true (.fst ⟨(some 129), none, (.idx 1 (.t 127) (.t 128))⟩ true (.alt ⟨(some 126), none, (.ld (some 2) .undef (.t 10))⟩ false (.alt ⟨(some 130), none, (.ld none (.int .i64 0) (.t 129))⟩ false (.fst ⟨(some 131), none, (.conv .u64 (.t 130))⟩ true (.fst ⟨(some 132), none, (.bin false .shl (.c (.int .i64 1)) (.t 131))⟩ true (.alt ⟨(some 133), none, (.call 105 [(.t 126), (.t 132)])⟩ true (.fst ⟨(some 125), none, (.mov (.t 133))⟩ true (.fst ⟨(some 134), none, (.ext 0 (.t 125))⟩ true (.fst ⟨(some 135), none, (.ext 1 (.t 125))⟩ true (.alt ⟨(some 12), none, (.new [(.int .i64 0), .nil])⟩ true (.alt ⟨none, none, (.st 2 (.t 12) (.t 134))⟩ true (.fst ⟨(some 13), none, (.mov (.t 135))⟩ false .done) .stop) .stop)))) (.alt ⟨(some 12), none, (.new [(.int .i64 0), .nil])⟩ true (.alt ⟨(some 133), none, (.call 105 [(.t 126), (.t 132)])⟩ true (.fst ⟨(some 125), none, (.mov (.t 133))⟩ false (.fst ⟨(some 134), none, (.ext 0 (.t 125))⟩ false (.fst ⟨(some 135), none, (.ext 1 (.t 125))⟩ true (.alt ⟨none, none, (.st 2 (.t 12) (.t 134))⟩ true (.fst ⟨(some 13), none, (.mov (.t 135))⟩ false .done) .stop)))) .stop) .stop)))) (.alt ⟨(some 12), none, (.new [(.int .i64 0), .nil])⟩ true (.fst ⟨(some 130), none, (.ld none (.int .i64 0) (.t 129))⟩ false (.fst ⟨(some 131), none, (.conv .u64 (.t 130))⟩ false (.fst ⟨(some 132), none, (.bin false .shl (.c (.int .i64 1)) (.t 131))⟩ false (.alt ⟨(some 133), none, (.call 105 [(.t 126), (.t 132)])⟩ true (.fst ⟨(some 125), none, (.mov (.t 133))⟩ false (.fst ⟨(some 134), none, (.ext 0 (.t 125))⟩ false (.fst ⟨(some 135), none, (.ext 1 (.t 125))⟩ true (.alt ⟨none, none, (.st 2 (.t 12) (.t 134))⟩ true (.fst ⟨(some 13), none, (.mov (.t 135))⟩ false .done) .stop)))) .stop)))) .stop)) (.alt ⟨(some 130), none, (.ld none (.int .i64 0) (.t 129))⟩ false (.fst ⟨(some 131), none, (.conv .u64 (.t 130))⟩ true (.fst ⟨(some 132), none, (.bin false .shl (.c (.int .i64 1)) (.t 131))⟩ true (.alt ⟨(some 126), none, (.ld (some 2) .undef (.t 10))⟩ false (.alt ⟨(some 133), none, (.call 105 [(.t 126), (.t 132)])⟩ true (.fst ⟨(some 125), none, (.mov (.t 133))⟩ true (.fst ⟨(some 134), none, (.ext 0 (.t 125))⟩ true (.fst ⟨(some 135), none, (.ext 1 (.t 125))⟩ true (.alt ⟨(some 12), none, (.new [(.int .i64 0), .nil])⟩ true (.alt ⟨none, none, (.st 2 (.t 12) (.t 134))⟩ true (.fst ⟨(some 13), none, (.mov (.t 135))⟩ false .done) .stop) .stop)))) (.alt ⟨(some 12), none, (.new [(.int .i64 0), .nil])⟩ true (.alt ⟨(some 133), none, (.call 105 [(.t 126), (.t 132)])⟩ true (.fst ⟨(some 125), none, (.mov (.t 133))⟩ false (.fst ⟨(some 134), none, (.ext 0 (.t 125))⟩ false (.fst ⟨(some 135), none, (.ext 1 (.t 125))⟩ true (.alt ⟨none, none, (.st 2 (.t 12) (.t 134))⟩ true (.fst ⟨(some 13), none, (.mov (.t 135))⟩ false .done) .stop)))) .stop) .stop)) (.alt ⟨(some 12), none, (.new [(.int .i64 0), .nil])⟩ true (.fst ⟨(some 126), none, (.ld (some 2) .undef (.t 10))⟩ false (.alt ⟨(some 133), none, (.call 105 [(.t 126), (.t 132)])⟩ true (.fst ⟨(some 125), none, (.mov (.t 133))⟩ false (.fst ⟨(some 134), none, (.ext 0 (.t 125))⟩ false (.fst ⟨(some 135), none, (.ext 1 (.t 125))⟩ true (.alt ⟨none, none, (.st 2 (.t 12) (.t 134))⟩ true (.fst ⟨(some 13), none, (.mov (.t 135))⟩ false .done) .stop)))) .stop)) .stop)))) (.alt ⟨(some 12), none, (.new [(.int .i64 0), .nil])⟩ true (.fst ⟨(some 126), none, (.ld (some 2) .undef (.t 10))⟩ false (.fst ⟨(some 130), none, (.ld none (.int .i64 0) (.t 129))⟩ false (.fst ⟨(some 131), none, (.conv .u64 (.t 130))⟩ false (.fst ⟨(some 132), none, (.bin false .shl (.c (.int .i64 1)) (.t 131))⟩ false (.alt ⟨(some 133), none, (.call 105 [(.t 126), (.t 132)])⟩ true (.fst ⟨(some 125), none, (.mov (.t 133))⟩ false (.fst ⟨(some 134), none, (.ext 0 (.t 125))⟩ false (.fst ⟨(some 135), none, (.ext 1 (.t 125))⟩ true (.alt ⟨none, none, (.st 2 (.t 12) (.t 134))⟩ true (.fst ⟨(some 13), none, (.mov (.t 135))⟩ false .done) .stop)))) .stop))))) .stop))))))) (.seq (.seq (.reg [⟨(some 136), none, (.mov (.t 13))⟩, ⟨(some 137), none, (.un .not (.t 136))⟩]) (.cond (.t 137) (.seq (.reg [⟨(some 2), none, (.mov (.c (.bool false)))⟩]) .ret) .skip)) (.reg [⟨(some 138), none, (.ld (some 2) .undef (.t 12))⟩, ⟨none, none, (.st 2 (.t 10) (.t 138))⟩]))))) (.reg [⟨(some 102), none, (.mov (.t 11))⟩, ⟨(some 103), none, (.bin false .add (.t 102) (.c (.int .i64 1)))⟩, ⟨(some 11), none, (.mov (.t 103))⟩])))
def sc_l_FnDecomposed : SC := (.seq (.reg [⟨(some 2), none, (.mov (.c (.bool false)))⟩]) (.seq (.seq (.reg [⟨(some 14), none, (.mov (.t 0))⟩, ⟨(some 15), none, (.call 10 [(.t 14)])⟩]) (.cond (.t 15) (.seq (.reg [⟨(some 2), none, (.mov (.c (.bool true)))⟩]) .ret) .skip)) (.seq (.reg [⟨(some 16), none, (.mov (.t 0))⟩, ⟨(some 17), none, (.call 94 [(.t 16)])⟩, ⟨(some 3), none, (.new [(.int .i64 0), .nil])⟩, ⟨none, none, (.st 2 (.t 3) (.t 17))⟩]) (.seq (.reg [⟨(some 19), none, (.mov (.t 0))⟩, ⟨(some 20), none, (.call 95 [(.t 19)])⟩, ⟨(some 18), none, (.mov (.t 20))⟩, ⟨(some 21), none, (.ext 0 (.t 18))⟩, ⟨(some 22), none, (.ext 1 (.t 18))⟩, ⟨(some 4), none, (.new [(.int .i64 0), .nil])⟩, ⟨none, none, (.st 2 (.t 4) (.t 21))⟩, ⟨(some 5), none, (.mov (.t 22))⟩]) (.seq (.reg [⟨(some 24), none, (.ld (some 2) .undef (.t 3))⟩, ⟨(some 25), none, (.call 96 [(.t 24)])⟩, ⟨(some 23), none, (.mov (.t 25))⟩, ⟨(some 26), none, (.ext 0 (.t 23))⟩, ⟨(some 27), none, (.ext 1 (.t 23))⟩, ⟨(some 6), none, (.mov (.t 26))⟩, ⟨(some 7), none, (.mov (.t 27))⟩]) (.cut (.reg [⟨(some 29), none, (.ld (some 2) .undef (.t 3))⟩, ⟨(some 30), none, (.call 97 [(.t 29)])⟩, ⟨(some 28), none, (.mov (.t 30))⟩, ⟨(some 31), none, (.ext 0 (.t 28))⟩, ⟨(some 32), none, (.ext 1 (.t 28))⟩, ⟨(some 8), none, (.mov (.t 31))⟩, ⟨(some 9), none, (.mov (.t 32))⟩]) (.cut (.seq (.dreg [⟨⟨(some 33), none, (.ld (some 2) .undef (.t 3))⟩, false, false⟩, ⟨⟨(some 34), none, (.call 98 [(.t 33)])⟩, false, false⟩, ⟨⟨(some 35), none, (.ld (some 2) .undef (.t 3))⟩, false, false⟩, ⟨⟨(some 36), none, (.call 99 [(.t 35)])⟩, false, false⟩, ⟨⟨(some 37), none, (.bin true .neq (.t 34) (.t 36))⟩, false, false⟩, ⟨⟨(some 38), none, (.mov (.t 37))⟩, false, false⟩, ⟨⟨(some 39), (some (38, false)), (.ld (some 2) .undef (.t 4))⟩, false, false⟩, ⟨⟨(some 40), (some (38, false)), (.mov (.t 5))⟩, false, false⟩, ⟨⟨(some 41), (some (38, false)), (.call 100 [(.t 39), (.t 40)])⟩, false, false⟩, ⟨⟨(some 42), (some (38, false)), (.ld (some 2) .undef (.t 4))⟩, false, false⟩, ⟨⟨(some 43), (some (38, false)), (.mov (.t 5))⟩, false, false⟩, ⟨⟨(some 44), (some (38, false)), (.call 101 [(.t 42), (.t 43)])⟩, false, false⟩, ⟨⟨(some 45), (some (38, false)), (.bin true .neq (.t 41) (.t 44))⟩, false, false⟩, ⟨⟨(some 46), none, (.pick (.t 38) (.c (.bool true)) (.t 45))⟩, false, false⟩, ⟨⟨(some 47), none, (.mov (.t 46))⟩, false, false⟩, ⟨⟨(some 48), (some (47, false)), (.mov (.t 7))⟩, false, false⟩, ⟨⟨(some 49), (some (47, false)), (.mov (.t 9))⟩, false, false⟩, ⟨⟨(some 50), (some (47, false)), (.bin true .neq (.t 48) (.t 49))⟩, false, false⟩, ⟨⟨(some 51), none, (.pick (.t 47) (.c (.bool true)) (.t 50))⟩, false, false⟩, ⟨⟨(some 52), none, (.mov (.t 51))⟩, false, false⟩, ⟨⟨(some 53), (some (52, false)), (.mov (.t 6))⟩, false, false⟩, ⟨⟨(some 54), (some (52, false)), (.mov (.t 8))⟩, false, false⟩, ⟨⟨(some 55), (some (52, false)), (.call 19 [(.t 53), (.t 54)])⟩, false, false⟩, ⟨⟨(some 56), (some (52, false)), (.un .not (.t 55))⟩, false, false⟩, ⟨⟨(some 57), none, (.pick (.t 52) (.c (.bool true)) (.t 56))⟩, false, false⟩, ⟨⟨(some 58), none, (.mov (.t 57))⟩, false, false⟩, ⟨⟨(some 59), (some (58, false)), (.ld (some 2) .undef (.t 3))⟩, false, false⟩, ⟨⟨(some 60), (some (58, false)), (.call 102 [(.t 59)])⟩, false, false⟩, ⟨⟨(some 61), (some (58, false)), (.ld (some 2) .undef (.t 3))⟩, false, false⟩, ⟨⟨(some 62), (some (58, false)), (.call 103 [(.t 61)])⟩, false, false⟩, ⟨⟨(some 63), (some (58, false)), (.bin false .neq (.t 60) (.t 62))⟩, false, false⟩, ⟨⟨(some 64), none, (.pick (.t 58) (.c (.bool true)) (.t 63))⟩, false, false⟩, ⟨⟨(some 65), none, (.mov (.t 64))⟩, false, false⟩, ⟨⟨(some 66), (some (65, false)), (.mov (.t 7))⟩, false, false⟩, ⟨⟨(some 67), (some (65, false)), (.ld (some 2) .undef (.t 3))⟩, false, false⟩, ⟨⟨(some 68), (some (65, false)), (.call 98 [(.t 67)])⟩, false, false⟩, ⟨⟨(some 69), (some (65, false)), (.bin true .neq (.t 66) (.t 68))⟩, false, false⟩, ⟨⟨(some 70), none, (.pick (.t 65) (.c (.bool true)) (.t 69))⟩, false, false⟩]) (.cond (.t 70) (.seq (.reg [⟨(some 2), none, (.mov (.c (.bool false)))⟩]) .ret) .skip)) (.cut (.seq (.reg [⟨(some 71), none, (.mov (.t 7))⟩, ⟨(some 72), none, (.un .not (.t 71))⟩]) (.cond (.t 72) (.seq (.reg [⟨(some 2), none, (.mov (.c (.bool true)))⟩]) .ret) .skip)) (.cut (.seq (.reg [⟨(some 73), none, (.fad 1 (.t 3))⟩, ⟨(some 74), none, (.ld none .nil (.t 73))⟩, ⟨(some 75), none, (.len (.t 74))⟩, ⟨(some 76), none, (.bin false .leq (.t 75) (.c (.int .i64 8)))⟩, ⟨(some 77), none, (.mov (.t 76))⟩, ⟨(some 78), (some (77, true)), (.ld (some 2) .undef (.t 3))⟩, ⟨(some 79), (some (77, true)), (.call 62 [(.t 78)])⟩, ⟨(some 80), (some (77, true)), (.un .not (.t 79))⟩, ⟨(some 81), none, (.pick (.t 77) (.t 80) (.c (.bool false)))⟩, ⟨(some 82), none, (.mov (.t 81))⟩, ⟨(some 83), (some (82, false)), (.ld (some 2) .undef (.t 3))⟩, ⟨(some 84), (some (82, false)), (.call 41 [(.t 83)])⟩, ⟨(some 85), (some (82, false)), (.mov (.t 84))⟩, ⟨(some 86), (some (85, true)), (.fad 1 (.t 3))⟩, ⟨(some 87), (some (85, true)), (.ld none .nil (.t 86))⟩, ⟨(some 88), (some (85, true)), (.len (.t 87))⟩, ⟨(some 89), (some (85, true)), (.bin false .gtr (.t 88) (.c (.int .i64 0)))⟩, ⟨(some 90), (some (82, false)), (.pick (.t 85) (.t 89) (.c (.bool false)))⟩, ⟨(some 91), (some (82, false)), (.mov (.t 90))⟩, ⟨(some 92), (some (91, true)), (.ld (some 2) .undef (.t 3))⟩, ⟨(some 93), (some (91, true)), (.call 104 [(.t 92), (.c (.int .i64 2))])⟩, ⟨(some 94), (some (91, true)), (.un .not (.t 93))⟩, ⟨(some 95), (some (82, false)), (.pick (.t 91) (.t 94) (.c (.bool false)))⟩, ⟨(some 96), none, (.pick (.t 82) (.c (.bool true)) (.t 95))⟩]) (.cond (.t 96) (.seq (.reg [⟨(some 2), none, (.mov (.c (.bool false)))⟩]) .ret) .skip)) (.seq (.reg [⟨(some 97), none, (.ld (some 2) .undef (.t 3))⟩, ⟨(some 10), none, (.new [(.int .i64 0), .nil])⟩, ⟨none, none, (.st 2 (.t 10) (.t 97))⟩]) (.seq (.seq (.reg [⟨(some 11), none, (.mov (.c (.int .i64 0)))⟩]) (.block 0 (.loop sc_l_FnDecomposed_L0))) (.seq (.reg [⟨(some 139), none, (.fad 1 (.t 10))⟩, ⟨(some 140), none, (.ld none .nil (.t 139))⟩, ⟨(some 141), none, (.len (.t 140))⟩, ⟨(some 142), none, (.bin false .leq (.t 141) (.c (.int .i64 1)))⟩, ⟨(some 2), none, (.mov (.t 142))⟩]) .ret))))))))))))
theorem code_l_FnDecomposed : fnCode Try.prog [105, 666666, 1000071, 1000073, 1000097] 8 = some (143, sc_l_FnDecomposed, [(2, none)]) := by kernel_rfl
open Classical in
noncomputable def F_l_FnDecomposed : List V → Option V
  | [.list 1 cells] => if ∃ b, (∀ x ∈ b, 0 ≤ x ∧ x < 256) ∧ cells = u8s b then some (.bool true) else none
  | _ => none
theorem numR_R2 {n : Int} {l : List Int} (h : numR n l) : allR l := fun x hx => by have := h.2.2 x hx; unfold inR; omega
set_option maxHeartbeats 20000000
theorem fn_l_FnDecomposed : FnOk Try.prog 8 F_l_FnDecomposed := by
  have env := ((((((((((((((((envNil_ok (P := Try.prog)).add fn_l_big).add fn_l_sameInts).add fn_s_DrawIsDecomposable).add fn_s_DrawIsShedding).add fn_s_DecomposeBy).add fn_i_DecomposeBy).add fn_s_IsDecomposable).add fn_i_IsDecomposable).add fn_s_IsShedding).add fn_i_IsShedding).add fn_s_FirstShedding).add fn_i_FirstShedding).add fn_s_IsShellable).add fn_s_IsPure).add fn_s_IsCohenMacaulay).add fn_s_DeletionOf
  refine fn_ok code_l_FnDecomposed mixed env ?_
  intro args r h hb
  unfold F_l_FnDecomposed at h
  split at h
  case h_2 => simp at h
  rename_i cells
  simp only [Option.ite_none_right_eq_some, Option.some.injEq] at h
  obtain ⟨⟨b, hbr, rfl⟩, rfl⟩ := h
  clear hb
  refine ⟨by simp, fun w0 U0 L0 N0 => ?_⟩
  have hBig : F_l_big [.list 1 (u8s b)] = some (.bool (decide (1048576 < b.length))) := by simp only [F_l_big, u8s_len]
  by_cases hlong : 1048576 < b.length
  · rw [decide_eq_true hlong] at hBig
    simp -implicitDefEqProofs [sc_l_FnDecomposed, hBig]
  rw [decide_eq_false hlong] at hBig
  have hw : wfb b := ⟨hbr, by omega⟩
  have hD1 : F_s_DrawIsDecomposable [.list 1 (u8s b)] = some (.agg [.int .i64 (bentN (newCur b)).1.1, .own 1 (ints (bentN (newCur b)).1.2)]) := by
    simp only [F_s_DrawIsDecomposable, F1_mk, dBy_list hw, Option.bind_some]
  have hD2 : F_s_DrawIsShedding [.list 1 (u8s b)] = some (.tup [.agg [.int .i64 (bentN (newCur b)).1.1, .own 1 (ints (bentN (newCur b)).1.2)], .int .i64 (dsX (bentN (newCur b)).2)]) := by
    simp only [F_s_DrawIsShedding, F1_mk, dBy_list hw, Option.bind_some]
  have hr := dsX_rng (bentN (newCur b)).2
  have hn1 := bentN_num (newCur b)
  generalize dsX (bentN (newCur b)).2 = S at *
  generalize (bentN (newCur b)).1 = c1 at *
  obtain ⟨n, l⟩ := c1
  simp only at hD1 hD2 hn1
  have hR1 := numR_R2 hn1
  clear hw hbr
  have hDB : F_s_DecomposeBy [.agg [.int .i64 n, .list 1 (ints l)]] = some (.tup [.own 1 (ints (dcbL n l)), .bool (dec (decP n l))]) := by
    simp only [F_s_DecomposeBy, F1_mk, dC_agg, Option.bind_some]
  have hID : F_s_IsDecomposable [.agg [.int .i64 n, .list 1 (ints l)]] = some (.bool (dec (decP n l))) := by
    simp only [F_s_IsDecomposable, F1_mk, dC_agg, Option.bind_some]
  have hIS : ∀ l x, inR x → F_s_IsShedding [.agg [.int .i64 n, .list 1 (ints l)], .int .i64 x] = some (.bool (dec (shdP n l x))) := fun l x hx => by
    simp only [F_s_IsShedding, F2_mk, dC_agg, dI_int, Option.bind_some]
    rw [if_pos hx]
  have hFS : F_s_FirstShedding [.agg [.int .i64 n, .list 1 (ints l)]] = some (.int .i64 (fsZ n l)) := by
    simp only [F_s_FirstShedding, F1_mk, dC_agg, Option.bind_some]
  have hSh : F_s_IsShellable [.agg [.int .i64 n, .list 1 (ints l)]] = some (.bool (dec (fshP n l))) := by
    simp only [F_s_IsShellable, F1_mk, dC_agg, Option.bind_some]
  have hPu : F_s_IsPure [.agg [.int .i64 n, .list 1 (ints l)]] = some (.bool (pureB n l)) := by
    simp only [F_s_IsPure, F1_mk, dC_agg, Option.bind_some]
    rw [if_pos hR1]
  have hCM : F_s_IsCohenMacaulay [.agg [.int .i64 n, .list 1 (ints l)], .int .i64 2] = some (.bool (dec (cmP n l 2))) := by
    simp only [F_s_IsCohenMacaulay, F2_mk, dC_agg, dI_int, Option.bind_some]
  have hDO : ∀ l x, F_s_DeletionOf [.agg [.int .i64 n, .list 1 (ints l)], .int .i64 x] = some (.tup [.agg [.int .i64 (dloN n l x), .own 1 (ints (dloL n l x))], .bool (dec (dloP n l x))]) := fun l x => by
    simp only [F_s_DeletionOf, F2_mk, dC_agg, dI_int, Option.bind_some]
  have hI : ∀ a b : List Int, F_l_sameInts [.list 1 (ints a), .list 1 (ints b)] = some (.bool (dec (a = b))) := fun a b => by
    simp only [F_l_sameInts, F2_mk, dL_list, Option.bind_some]
  have hE : dec True = true := dec_iff.2 trivial
  have hS := hIS l S (by unfold inR; omega)
  have hLl := dcbL_len n l
  have p1 : dec (decP n l) = false ∨ (dec (decP n l) = true ∧ (l.length ≤ 8 → dec (fshP n l) = true) ∧ (pureB n l = true → l ≠ [] → dec (cmP n l 2) = true) ∧
      (∀ k, k < (dcbL n l).length → ∃ i : Nat, i < 6 ∧ at0 (dcbL n l) k = (i : Int) ∧ F_s_IsShedding [.agg [.int .i64 n, .list 1 (ints (nwL l (dcbL n l) k))], .int .i64 (i : Int)] = some (.bool true) ∧
        F_s_DeletionOf [.agg [.int .i64 n, .list 1 (ints (nwL l (dcbL n l) k))], .int .i64 (2 ^ i)] = some (.tup [.agg [.int .i64 n, .own 1 (ints (nwL l (dcbL n l) (k + 1)))], .bool true])) ∧ (nwL l (dcbL n l) (dcbL n l).length).length ≤ 1) := by
    by_cases h : decP n l
    · obtain ⟨q1, q2⟩ := dcbL_law h
      refine .inr ⟨dec_true h, fun h8 => dec_true (fin_fsh h h8), fun hp hne => dec_true (fin_cm (.inl rfl) h hp hne), fun k hk => ?_, q2⟩
      obtain ⟨a1, a2, a3, a4, a5⟩ := q1 k hk
      obtain ⟨i, hi⟩ := Int.eq_ofNat_of_zero_le a2
      have e := nwL_step (l := l) hk
      rw [hi] at a3 a4 a5 e
      rw [Int.toNat_natCast] at a5 e
      exact ⟨i, by omega, hi, by rw [hIS _ _ (by unfold inR; omega), dec_true a4], by rw [hDO, dloN_yes a5, dloL_yes a5, dec_true a5, e]⟩
    · exact .inl (dec_false h)
  clear hIS hDO
  have h00 := nwL_zero l (dcbL n l)
  generalize nwL l (dcbL n l) = f at *
  generalize dcbL n l = L at *
  generalize dec (decP n l) = ok at *
  generalize dec (shdP n l S) = sv at *
  generalize fsZ n l = fz at *
  generalize dec (fshP n l) = fs at *
  generalize pureB n l = pu at *
  generalize dec (cmP n l 2) = cm at *
  simp -implicitDefEqProofs [sc_l_FnDecomposed, freeOk, hBig, hD1, hD2, hDB]
  refine CutI.of (l' := [(3, .pt 1 0), (4, .pt 3 0), (5, .int .i64 S), (6, .sl 4 1 0 L.length), (7, .bool ok), (8, .sl 5 1 0 L.length), (9, .bool ok)]) (SubI.slots rfl (by simp)) ?_
  clear hD1 hD2 hBig hDB
  simp -implicitDefEqProofs [freeOk, hID, hS, hI, hE, hFS]
  refine CutI.of (l' := [(3, .pt 1 0), (6, .sl 4 1 0 L.length), (7, .bool ok)]) (SubI.slots rfl (by simp)) ?_
  clear hID hS hFS
  rcases p1 with rfl | ⟨rfl, q1, q2, q3, q4⟩
  · simp -implicitDefEqProofs [freeOk]
  simp -implicitDefEqProofs [freeOk]
  refine CutI.of (l' := [(3, .pt 1 0), (6, .sl 4 1 0 L.length)]) (SubI.slots rfl (by simp)) ?_
  have s1 : (¬ l.length ≤ 8) ∨ (l.length ≤ 8 ∧ fs = true) := by
    by_cases h : l.length ≤ 8
    · exact .inr ⟨h, q1 h⟩
    · exact .inl h
  have s2 : pu = false ∨ (pu = true ∧ ¬ 0 < l.length) ∨ (pu = true ∧ 0 < l.length ∧ cm = true) := by
    cases hpu : pu with
    | false => exact .inl rfl
    | true =>
      by_cases h : l = []
      · exact .inr (.inl ⟨rfl, by simp [h]⟩)
      · exact .inr (.inr ⟨rfl, List.length_pos_iff.2 h, q2 hpu h⟩)
  have loop : ∀ (l0 : Tm) (s0 : Hp) (Q : Post), SubI 0 l0 s0 [(6, .sl 1 1 0 L.length), (10, .pt 2 0), (11, .int .i64 0)] ([(2, [.int .i64 n, .sl 0 1 0 (f 0).length]), (1, ints L), (0, ints (f 0))], 3) →
      Q (.exit 0) [(10, .pt 2 0)] ([(2, [.int .i64 n, .sl 0 1 0 (f L.length).length]), (1, ints L), (0, ints (f L.length))], 3) →
      LoopI ⟨Try.prog, w0, U0, L0, N0, 0, 143⟩ [105, 666666, 1000071, 1000073, 1000097] sc_l_FnDecomposed_L0 Q l0 s0 := by
    intro l0 s0 Q hs hQ
    refine loopQ env mixed (fun k : Nat => [(6, .sl 1 1 0 L.length), (10, .pt 2 0), (11, .int .i64 (k : Int))]) (fun k => ([(2, [.int .i64 n, .sl 0 1 0 (f k).length]), (1, ints L), (0, ints (f k))], 3)) (fun k => k ≤ L.length) (fun k => L.length - k) 0 (by simp) (by simpa using hs) ?_
    intro k hk
    have hwk : IntKind.i64.wrap ((k : Int) + 1) = (k : Int) + 1 := wrapI _ (by omega) (by omega)
    by_cases hlt : k < L.length
    · obtain ⟨i, hi, ei, e1, e2⟩ := q3 k hlt
      have hi5 : ¬ (5 : Int) < (i : Int) := by omega
      have hi0 : ¬ (i : Int) < 0 := by omega
      have hu : IntKind.u64.wrap (i : Int) = i := wrapU _ (by omega) (by omega)
      have hsh := shl6 hi
      simp -implicitDefEqProofs [sc_l_FnDecomposed_L0, freeOk, hlt, ei, hi5, hi0, e1]
      refine CutI.of (l' := [(6, .sl 1 1 0 L.length), (10, .pt 2 0), (11, .int .i64 (k : Int))]) (SubI.slots rfl (by simp)) ?_
      simp -implicitDefEqProofs [freeOk, hlt, ei, hu, hsh, e2, hwk]
      repeat' apply And.intro
      all_goals first
        | (refine Again.of (k + 1) (by omega) (by omega) (SubI.ren (fun m => if m = 0 then some 3 else if m = 1 then some 1 else if m = 2 then some 2 else none) ?_ ?_ ?_ (by simp) (by simp))
           · simp [subT, renV, ren1]
           · simp [subH, renL, ren1]
             done
           · intro c hc
             simp only at hc
             rw [if_neg (by omega), if_neg (by omega), if_neg (by omega)])
        | (refine Again.of (k + 1) (by omega) (by omega) (SubI.ren (fun m => if m = 0 then some 4 else if m = 1 then some 1 else if m = 2 then some 2 else none) ?_ ?_ ?_ (by simp) (by simp))
           · simp [subT, renV, ren1]
           · simp [subH, renL, ren1]
             done
           · intro c hc
             simp only at hc
             rw [if_neg (by omega), if_neg (by omega), if_neg (by omega)])
    · have hkl : k = L.length := by omega
      subst hkl
      simp -implicitDefEqProofs [sc_l_FnDecomposed_L0, freeOk]
      exact SubQ.of (SubI.slots rfl (by simp)) hQ
  have h8i : ∀ {m : Nat}, m ≤ 8 → (m : Int) ≤ 8 := fun h => by omega
  have h8j : ∀ {m : Nat}, ¬ m ≤ 8 → ¬ (m : Int) ≤ 8 := fun h => by omega
  rcases s1 with h8 | ⟨h8, rfl⟩
  all_goals rcases s2 with rfl | ⟨rfl, hl1⟩ | ⟨rfl, hl1, rfl⟩
  case' inr.inl.inl => simp -implicitDefEqProofs [freeOk, h8j h8, hPu]
  case' inr.inl.inr.inl => simp -implicitDefEqProofs [freeOk, h8j h8, hPu, hl1]
  case' inr.inl.inr.inr => simp -implicitDefEqProofs [freeOk, h8j h8, hPu, hl1, hCM]
  case' inr.inr.inl => simp -implicitDefEqProofs [freeOk, h8i h8, hSh, hPu]
  case' inr.inr.inr.inl => simp -implicitDefEqProofs [freeOk, h8i h8, hSh, hPu, hl1]
  case' inr.inr.inr.inr => simp -implicitDefEqProofs [freeOk, h8i h8, hSh, hPu, hl1, hCM]
  all_goals
    refine CutI.of (l' := [(3, .pt 1 0), (6, .sl 4 1 0 L.length)]) (SubI.slots rfl (by simp)) ?_
    simp -implicitDefEqProofs [freeOk]
    refine loop _ _ _ (SubI.ren (fun m => if m = 0 then some 0 else if m = 1 then some 4 else if m = 2 then some 6 else none) (by simp [subT, renV, ren1]) (by simp [subH, renL, ren1, h00]) (by intro c hc; simp only at hc; rw [if_neg (by omega), if_neg (by omega), if_neg (by omega)]) (by simp) (by simp)) ?_
    simp -implicitDefEqProofs [freeOk]
    omega
end Go.Proofs.Ytmemomfffehnkaa
namespace Go.Proofs.Ytmemomfffehnkaa
open Go.ChangeShapes Go.WideShapes Go.ChangeAt Go.RowKit
set_option maxRecDepth 1000000
set_option linter.unusedSimpArgs false
set_option linter.unusedVariables false
section
variable {H : Type} {enc : TypeId × Value → H} {P : Program} {w : World} {base : Nat} {held : Bool} {N : Nm} {U : Nat → Prop}
theorem wf_u8 {n : Int} (h : (Lit.int .u8 n).wf = true) : 0 ≤ n ∧ n < 256 := by
  have h1 : IntKind.u8.min = 0 := rfl
  have h2 : IntKind.u8.max = 255 := rfl
  simp only [Lit.wf, Bool.and_eq_true, decide_eq_true_eq] at h
  omega
theorem rvs_u8s : ∀ (l : List Int), RVs N U w (u8s l) (l.map (Value.int .u8)) [] := by
  intro l
  induction l with
  | nil => exact .nil
  | cons a l ih => exact .cons _ _ _ _ [] [] _ (.int _ _) ih rfl
theorem rd_bytes1 (hU : ∀ b, b < w.heap.size → U b) {t e : TypeId} {fuel : Nat} {cs : List Value} {x : DataW H × List MemPlace} (ht : P.underlying t = some (.slice e)) (he : P.underlying e = some (.int .u8)) (hc : P.cellsOf e = 1)
    (h : DataW.trod enc P w base (fun _ => true) held fuel t cs = some x) : ∃ v l, cs = [v] ∧ v.cells = #[v] ∧ (∀ n ∈ l, 0 ≤ n ∧ n < 256) ∧ RV N U w (.list 1 (u8s l)) v [] := by
  rcases open_ints ht he hc h with ⟨rfl, _⟩ | ⟨a, len, cap, zs, rfl, _, hl, hm, hz, _, hcell, hw⟩
  · exact ⟨_, [], rfl, rfl, by simp, .listE 1 none 0⟩
  · simp only [if_true] at hz
    rcases Nat.eq_zero_or_pos len with rfl | h0
    · exact ⟨_, [], rfl, rfl, by simp, .listE 1 (some a) cap⟩
    · obtain ⟨b, o, sp⟩ := a
      have h1 := hcell 0 (by omega)
      have hs : sp = none := by simpa [Addr.add] using World.cell?_spot h1
      subst hs
      rw [add_plain] at h1
      refine ⟨_, zs.take len, rfl, rfl, fun n hn => wf_u8 (hw n (List.mem_of_mem_take hn)), ?_⟩
      refine .list 1 _ b o len cap ((zs.take len).map (Value.int .u8)) (hU b (cell_lt h1)) (by simp; omega) hl (by omega) (by omega) ?_ (rvs_u8s _)
      intro j c hj
      simp only [List.getElem?_map, Option.map_eq_some_iff] at hj
      obtain ⟨y, hy, rfl⟩ := hj
      have hjl : j < len := by
        have := (List.getElem?_eq_some_iff.1 hy).1
        simp at this
        omega
      have := hcell j (by omega)
      rw [add_plain] at this
      rw [this]
      rw [List.getElem?_take_of_lt hjl] at hy
      simp [List.getD, hy]
theorem rd_bytes (hU : ∀ b, b < w.heap.size → U b) {t e : TypeId} {v : Value} {d : DataW H} {p : List MemPlace} {r : Reach} {b0 : Nat} (ht : P.underlying t = some (.slice e)) (he : P.underlying e = some (.int .u8)) (hc : P.cellsOf e = 1)
    (hval : Value.okWide P w r b0 t v) (h : DataW.Trod enc P w base (fun _ => true) held t v d p) : ∃ l, (∀ n ∈ l, 0 ≤ n ∧ n < 256) ∧ RV N U w (.list 1 (u8s l)) v [] := by
  obtain ⟨a0, len, cap, rfl⟩ := okWide_slice ht hval
  obtain ⟨fuel, hf⟩ := h
  obtain ⟨v', l, h1, h2, h3, h4⟩ := rd_bytes1 (N := N) hU ht he hc hf
  have e : v' = .slice a0 len cap := by
    have : (Value.slice a0 len cap).cells.toList = [Value.slice a0 len cap] := rfl
    rw [this] at h1
    injection h1 with h1 _
    exact h1.symm
  subst e
  exact ⟨l, h3, h4⟩
end
end Go.Proofs.Ytmemomfffehnkaa
