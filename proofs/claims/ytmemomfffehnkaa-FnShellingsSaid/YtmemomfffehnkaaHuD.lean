import Derived.Test.YtmemomfffehnkaaHuC
import Derived.Test.YtmemomfffehnkaaGbG
import Derived.Test.YtmemomfffehnkaaKG
namespace Go.Proofs.Ytmemomfffehnkaa
open Go Go.RowKit
set_option maxRecDepth 1000000
set_option linter.unusedSimpArgs false
set_option linter.unusedVariables false
set_option maxHeartbeats 1000000
theorem newfP_len2 (list : List Int) (k : Nat) : (newfP list k).length = k := by simp [newfP]
theorem sh_lows {n : Int} {l list : List Int} (h : shellB n l list = true) : ∀ k, k < (newfP list list.length).length → isS (at0 (newfP list list.length) k) ∧ subS (at0 (newfP list list.length) k) (at0 list k) := by
  obtain ⟨hc, hnd, hsub, hSl⟩ := order_parts (shell_order h)
  intro k hk
  rw [newfP_len2] at hk
  rw [at0_newfP hk]
  have hT := allS_take hSl k
  have hs := allS_at hSl hk
  exact ⟨isS_partI hT hs, (subS_tb (isS_partI hT hs) hs).2 fun i hi hi2 => part_sub hT hs hi hi2⟩
theorem sh_once {n : Int} {l list : List Int} (h : shellB n l list = true) {u : Int} (hu : isS u) (hf : faceS l u) : cntIv list (newfP list list.length) u list.length = 1 := by
  have ho := shell_order h
  obtain ⟨hc, hnd, hsub, hSl⟩ := order_parts ho
  obtain ⟨hlen, _, hall⟩ := order_all ho
  obtain ⟨f, hf1, hf2⟩ := hf
  obtain ⟨j, hj, e2⟩ := getD_mem_iff.1 (hall f hf1)
  exact sh_cnt hSl (shell_fits h) hu ⟨j, hj, by rw [e2]; exact hf2⟩
theorem shell_h {n : Int} {l list : List Int} (h : shellB n l list = true) (hne : 0 < list.length) (hp : pureB n l = true) : hnL n l = shcL n l list := by
  have ho := shell_order h
  obtain ⟨hc, hnd, hsub, hSl⟩ := order_parts ho
  obtain ⟨hlen, _, hall⟩ := order_all ho
  have e : shcL n l list = szRow (topZ (faceS l) + 1).toNat (newfP list list.length) := if_pos h
  rw [e]
  have hl : l ≠ [] := by intro hl; rw [hl] at hlen; simp only [List.length_nil] at hlen; omega
  refine hnL_div hc hl hp (F := list) (fun x => ⟨hsub x, hall x⟩) (newfP_len2 _ _) (sh_lows h) fun u hu hf => ?_
  rw [newfP_len2]
  exact sh_once h hu hf
end Go.Proofs.Ytmemomfffehnkaa
