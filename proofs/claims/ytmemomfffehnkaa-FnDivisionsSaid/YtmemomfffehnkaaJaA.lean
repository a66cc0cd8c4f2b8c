import Derived.Test.YtmemomfffehnkaaIbC
import Derived.Test.YtmemomfffehnkaaIaC
import Derived.Test.YtmemomfffehnkaaFqC
import Derived.Test.YtmemomfffehnkaaFmA
import Derived.Test.YtmemomfffehnkaaKL
namespace Go.Proofs.Ytmemomfffehnkaa
open Go Go.RowKit
set_option maxRecDepth 1000000
set_option linter.unusedSimpArgs false
set_option linter.unusedVariables false
set_option maxHeartbeats 1000000
theorem one_bit {b : Int} (hb : isS b) (h1 : sizeOf1 b = 1) {i k : Nat} (hi : i < 6) (hk : k < 6) (h2 : tb b i) (h3 : tb b k) : k = i := by
  obtain ⟨x, hx, rfl⟩ := isS_nat0 hb
  have key : ∀ x : Nat, x < 64 → ∀ i : Nat, i < 6 → ∀ k : Nat, k < 6 → (!(pcF 6 x == 1 && x.testBit i && x.testBit k) || k == i) = true := by decide +kernel
  have hk2 := key x hx i hi k hk
  rw [sizeOf1_set (by omega) (by omega), sz, Int.toNat_natCast, pc6 x hx] at h1
  have h1' : pcF 6 x = 1 := by omega
  rw [tb_nat x i hx hi] at h2
  rw [tb_nat x k hx hk] at h3
  simpa [h1', h2, h3] using hk2
theorem part_pt {l : List Int} (hl : allS l) {s : Int} (hs : isS s) {u : Int} (hu : isS u) (hus : subS u s) {i : Nat} (hi : i < 6) (h : tb (partI l s) i) (hu' : ¬ tb u i) : ∃ g ∈ l, subS u g := by
  have e : partI l s = partI (l.take l.length) s := by rw [List.take_length]
  rw [e, partI_tb hl hs hi _ (Nat.le_refl _)] at h
  obtain ⟨j, hj, h1, h2⟩ := h
  refine ⟨at0 l j, getD_mem' hj, (subS_tb hu (allS_at hl hj)).2 fun k hk hk2 => ?_⟩
  have hsk := (subS_tb hu hs).1 hus k hk hk2
  refine Classical.byContradiction fun hg => ?_
  have h3 := (tb_bnot_iff hs (allS_at hl hj) hk).2 ⟨hsk, hg⟩
  have h4 := one_bit (isS_bnot hs (allS_at hl hj)) h1 hi hk h2 h3
  subst h4
  exact hu' hk2
theorem isS_partI {l : List Int} (hl : allS l) {s : Int} (hs : isS s) : isS (partI l s) := by
  have := partI_isS hl hs l.length (Nat.le_refl _)
  rwa [List.take_length] at this
theorem at0_tk {l : List Int} {j k : Nat} (h : k < j) : at0 (l.take j) k = at0 l k := by
  simp only [at0, List.getElem?_take_of_lt h]
theorem mem_take {l : List Int} {i j : Nat} (hij : i < j) (hj : j < l.length) : at0 l i ∈ l.take j := by
  rw [← at0_tk hij]
  exact getD_mem' (by rw [List.length_take]; omega)
theorem sh_low {list : List Int} (hS : allS list) {u : Int} (hu : isS u) {j : Nat} (hj : j < list.length) (hsub : subS u (at0 list j)) (hmin : ∀ i, i < j → ¬ subS u (at0 list i)) : subS (partI (list.take j) (at0 list j)) u := by
  have hT := allS_take hS j
  have hs := allS_at hS hj
  rw [subS_tb (isS_partI hT hs) hu]
  intro i hi h
  refine Classical.byContradiction fun hn => ?_
  obtain ⟨g, hg, h2⟩ := part_pt hT hs hu hsub hi h hn
  obtain ⟨k, hk, e⟩ := getD_mem_iff.1 hg
  rw [List.length_take] at hk
  rw [at0_tk (by omega)] at e
  exact hmin k (by omega) (by rw [e]; exact h2)
def fitsA (list : List Int) : Prop := ∀ k, k < list.length → fitsI (list.take k) (at0 list k)
theorem sh_two {list : List Int} (hS : allS list) (hf : fitsA list) {u : Int} (hu : isS u) {i j : Nat} (hij : i < j) (hj : j < list.length) (h1 : subS u (at0 list i)) (h2 : subS (partI (list.take j) (at0 list j)) u) : False :=
  hf j hj (at0 list i) (mem_take hij hj) (subS_trans (isS_partI (allS_take hS j) (allS_at hS hj)) hu (allS_at hS (by omega)) h2 h1)
theorem at0_newfP {list : List Int} {k i : Nat} (h : i < k) : at0 (newfP list k) i = partI (list.take i) (at0 list i) := by
  simp [newfP, at0, h]
theorem inIv_sh {list : List Int} {u : Int} {i : Nat} (h : i < list.length) : inIv list (newfP list list.length) u i ↔ subS (partI (list.take i) (at0 list i)) u ∧ subS u (at0 list i) := by
  unfold inIv
  rw [at0_newfP h]
theorem sh_ex {list : List Int} (hS : allS list) {u : Int} (hu : isS u) (hex : ∃ i, i < list.length ∧ subS u (at0 list i)) : ∃ i, i < list.length ∧ inIv list (newfP list list.length) u i := by
  rcases lst_nat (fun i => subS u (at0 list i)) list.length with h | ⟨m, a, b, c⟩
  · obtain ⟨i, hi, h2⟩ := hex
    exact absurd h2 (h i hi)
  · exact ⟨m, a, (inIv_sh a).2 ⟨sh_low hS hu a b c, b⟩⟩
theorem sh_uniq {list : List Int} (hS : allS list) (hf : fitsA list) {u : Int} (hu : isS u) {i j : Nat} (hi : i < list.length) (hj : j < list.length) (h1 : inIv list (newfP list list.length) u i) (h2 : inIv list (newfP list list.length) u j) : i = j := by
  rw [inIv_sh hi] at h1
  rw [inIv_sh hj] at h2
  rcases Nat.lt_trichotomy i j with h | h | h
  · exact (sh_two hS hf hu h hj h1.2 h2.1).elim
  · exact h
  · exact (sh_two hS hf hu h hi h2.2 h1.1).elim
theorem cntIv_just {facets lows : List Int} {u : Int} {m : Nat} (h1 : ∃ i, i < m ∧ inIv facets lows u i) (h2 : ∀ i j, i < m → j < m → inIv facets lows u i → inIv facets lows u j → i = j) : cntIv facets lows u m = 1 := by
  obtain ⟨i, hi, hv⟩ := h1
  have a := cntIv_hit hi hv
  have b := (cntIv_bnd facets lows u i).1
  have c := cntIv_one (facets := facets) (lows := lows) (u := u) (m := m) fun k hk j hj hh => by
    have := h2 j k (by omega) hk hh.1 hh.2
    omega
  omega
theorem sh_cnt {list : List Int} (hS : allS list) (hf : fitsA list) {u : Int} (hu : isS u) (hex : ∃ i, i < list.length ∧ subS u (at0 list i)) : cntIv list (newfP list list.length) u list.length = 1 :=
  cntIv_just (sh_ex hS hu hex) fun i j hi hj h1 h2 => sh_uniq hS hf hu hi hj h1 h2
theorem shell_fits {n : Int} {l list : List Int} (h : shellB n l list = true) : fitsA list := (dec_iff.1 h).2
/-- A shelling gives a division. -/
theorem div_shell {n : Int} {l list : List Int} (h : shellB n l list = true) : divP n l (divfL n l list) := by
  have ho := shell_order h
  obtain ⟨hc, hnd, hsub, hSl⟩ := order_parts ho
  obtain ⟨hlen, _, hall⟩ := order_all ho
  have hf := shell_fits h
  have hS := cplx_isS hc
  have hln := cplx_nodup hc
  have e : divfL n l list = divfP l list (newfP list list.length) l.length := by unfold divfL; rw [if_pos h]
  rw [e]
  have hat : ∀ k, k < l.length → posI list (at0 l k) < list.length ∧ at0 list (posI list (at0 l k)) = at0 l k ∧ at0 (divfP l list (newfP list list.length) l.length) k = partI (list.take (posI list (at0 l k))) (at0 list (posI list (at0 l k))) := fun k hk => by
    obtain ⟨a, b⟩ := posI_of (hall _ (getD_mem' hk))
    exact ⟨a, b, by rw [at0_divfP hk, at0_newfP a]⟩
  have hiv : ∀ (u : Int) k, k < l.length → (inIv l (divfP l list (newfP list list.length) l.length) u k ↔ inIv list (newfP list list.length) u (posI list (at0 l k))) := fun u k hk => by
    obtain ⟨a, b, c⟩ := hat k hk
    rw [inIv_sh a]
    unfold inIv
    rw [c, b]
  refine ⟨hc, by simp, fun k hk => ?_, fun u hu => ?_⟩
  · rw [divfP_len] at hk
    obtain ⟨a, b, c⟩ := hat k hk
    rw [c]
    have hT := allS_take hSl (posI list (at0 l k))
    have hs := allS_at hSl a
    refine ⟨isS_partI hT hs, ?_⟩
    have h10 : subS (partI (list.take (posI list (at0 l k))) (at0 list (posI list (at0 l k)))) (at0 list (posI list (at0 l k))) := (subS_tb (isS_partI hT hs) hs).2 fun i hi hi2 => part_sub hT hs hi hi2
    exact Eq.subst (motive := fun z => subS (partI (list.take (posI list (at0 l k))) (at0 list (posI list (at0 l k)))) z) b h10
  · obtain ⟨huS, f, hf1, hf2⟩ := mem_setsOf.1 hu
    have key : cntIv l (divfP l list (newfP list list.length) l.length) u (divfP l list (newfP list list.length) l.length).length = 1 := by
      rw [divfP_len]
      refine cntIv_just ?_ fun i j hi hj h1 h2 => ?_
      · obtain ⟨j, hj, e2⟩ := getD_mem_iff.1 (hall f hf1)
        obtain ⟨i, hi, h1⟩ := sh_ex hSl huS ⟨j, hj, by rw [e2]; exact hf2⟩
        obtain ⟨k, hk, e3⟩ := getD_mem_iff.1 (hsub _ (getD_mem' hi))
        refine ⟨k, hk, (hiv u k hk).2 ?_⟩
        have e4 : posI list (at0 l k) = i := by
          rw [e3]
          exact ((posI_eq hnd (getD_mem' hi) hi).1 rfl).symm
        rw [e4]
        exact h1
      · have e4 := sh_uniq hSl hf huS (hat i hi).1 (hat j hj).1 ((hiv u i hi).1 h1) ((hiv u j hj).1 h2)
        have e5 := congrArg (at0 list) e4
        rw [(hat i hi).2.1, (hat j hj).2.1] at e5
        exact nodup_inj hln hi hj e5
    rw [key]
    exact ⟨by omega, fun _ => rfl⟩
theorem exL_ok {D : List Int → Prop} {N : Nat} (hlen : ∀ x, D x → x.length = N) (hset : ∀ x u, exD D (x ++ [u]) → isS u) : ∀ (n : Nat) (head : List Int), head.length + n = N → exD D head → D (exL D n head)
  | 0, head, hN, he => by
    obtain ⟨t, ht⟩ := he
    have := hlen _ ht
    rw [List.length_append] at this
    have e : t = [] := List.length_eq_zero_iff.1 (by omega)
    subst e
    rwa [List.append_nil] at ht
  | n + 1, head, hN, he => by
    obtain ⟨t, ht⟩ := he
    cases t with
    | nil =>
      have := hlen _ ht
      rw [List.append_nil] at this
      omega
    | cons u t =>
      have hu : exD D (head ++ [u]) := ⟨t, by simpa using ht⟩
      obtain ⟨_, h2, _⟩ := nxS_spec ⟨u, hset _ _ hu, hu⟩
      rw [exL]
      exact exL_ok hlen hset n _ (by rw [List.length_append, List.length_singleton]; omega) h2
theorem fdv_ok {n : Int} {l : List Int} (h : fdvP n l) : divP n l (fdvL n l) := by
  have hd : dvD l (fdvL n l) := by
    rw [fdvL_yes h, fdO_yes h.2.2]
    exact exL_ok (fun x hx => hx.1) (fun x u hx => (ex_set hx).2.1) _ [] (by simp) h.2.2
  exact ⟨h.1, hd⟩
theorem fsh_ok {n : Int} {l : List Int} (h : fshP n l) : shellB n l (fshL n l) = true := by
  have hc := h.1
  have hS := cplx_isS hc
  have hF := srt_sf hc h.2.1
  have hd : shD (srt l) (fshL n l) := by
    rw [fshL_yes h, shO_yes h.2.2]
    exact exL_ok (fun x hx => hx.1) (fun x u hx => hF.s u (sh_set hx).2.1) _ [] (by simp) h.2.2
  obtain ⟨h1, _, h2⟩ := hd
  refine dec_iff.2 ⟨?_, fun k hk => (h2 k hk).2.2⟩
  simp only [orderB, Bool.and_eq_true, decide_eq_true_eq]
  refine ⟨cplxB_iff.2 hc, ?_, ?_, fun x hx => ?_⟩
  · rw [h1, srt_len2 hS (cplx_nodup hc)]
  · rw [List.nodup_iff_pairwise_ne, List.pairwise_iff_getElem]
    intro i j hi hj hij e
    refine (h2 j hj).2.1 ?_
    have := mem_take (l := fshL n l) hij hj
    rwa [at0_eq hi, e, ← at0_eq hj] at this
  · obtain ⟨k, hk, e⟩ := getD_mem_iff.1 hx
    rw [← e]
    exact (srt_mem hS).1 (h2 k hk).1
theorem shell_div {n : Int} {l : List Int} (h : fshP n l) (h6 : l.length ≤ 6) : fdvP n l := ⟨h.1, h6, _, (div_shell (fsh_ok h)).2⟩
end Go.Proofs.Ytmemomfffehnkaa
