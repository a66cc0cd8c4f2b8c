import Derived.Test.YtkfjacclpjgafaaKW
import Derived.Test.YtkfjacclpjgafaaKI
namespace Go.Proofs.Ytkfjacclpjgafaa
open Go.ChangeShapes Go.WideShapes Go.ChangeAt Go.RowKit
set_option maxRecDepth 1000000
set_option linter.unusedSimpArgs false
set_option linter.unusedVariables false
section
variable {H : Type} {enc : TypeId × Value → H} {P : Program} {w : World} {base : Nat} {held : Bool} {N : Nm} {U : Nat → Prop}
theorem rvs_prs : ∀ (l : List (Int × Int)), RVs N U w (prs l) (l.flatMap fun p => [Value.int .i64 p.1, Value.int .i64 p.2]) [] := by
  intro l
  induction l with
  | nil => exact .nil
  | cons p l ih => exact .cons _ _ _ _ [] [] _ (.int _ _) (.cons _ _ _ _ [] [] _ (.int _ _) ih rfl) rfl
theorem flat_pr : ∀ (l : List (Int × Int)) (j : Nat) (c : Value), (l.flatMap fun p => [Value.int .i64 p.1, Value.int .i64 p.2])[j]? = some c →
    ∃ i, i < l.length ∧ ((j = i * 2 ∧ c = .int .i64 (pr0 l i).1) ∨ (j = i * 2 + 1 ∧ c = .int .i64 (pr0 l i).2)) := by
  intro l
  induction l with
  | nil => intro j c h; simp at h
  | cons p l ih =>
    intro j c h
    rw [List.flatMap_cons] at h
    match j, h with
    | 0, h => simp at h; exact ⟨0, by simp, .inl ⟨rfl, by simp [pr0, ← h]⟩⟩
    | 1, h => simp at h; exact ⟨0, by simp, .inr ⟨rfl, by simp [pr0, ← h]⟩⟩
    | j + 2, h =>
      have h2 : (l.flatMap fun p => [Value.int .i64 p.1, Value.int .i64 p.2])[j]? = some c := by simpa using h
      obtain ⟨i, h3, h4⟩ := ih j c h2
      refine ⟨i + 1, by simp; omega, ?_⟩
      have e : pr0 (p :: l) (i + 1) = pr0 l i := by simp [pr0]
      rw [e]
      rcases h4 with ⟨rfl, h4⟩ | ⟨rfl, h4⟩
      · exact .inl ⟨by omega, h4⟩
      · exact .inr ⟨by omega, h4⟩
theorem rd_prs (hU : ∀ b, b < w.heap.size → U b) {t e ti tj : TypeId} {f0 f1 : Field} {v : Value} {d : DataW H} {p : List MemPlace} {r : Reach} {b0 : Nat} (ht : P.underlying t = some (.slice e)) (hs : P.underlying e = some (.struct #[f0, f1])) (e0 : f0.type = ti) (e1 : f1.type = tj) (o0 : f0.offset = 0) (o1 : f1.offset = 1)
    (c0 : P.cellsOf ti = 1) (c1 : P.cellsOf tj = 1) (ce : P.cellsOf e = 2) (hi : P.underlying ti = some (.int .i64)) (hj : P.underlying tj = some (.int .i64))
    (hval : Value.okWide P w r b0 t v) (h : DataW.Trod enc P w base (fun _ => true) held t v d p) : ∃ l, (∀ p ∈ l, inR p.1 ∧ inR p.2) ∧ RV N U w (.list 2 (prs l)) v [] := by
  obtain ⟨a0, len0, cap0, rfl⟩ := okWide_slice ht hval
  obtain ⟨fuel, hf⟩ := h
  have hcells : (Value.slice a0 len0 cap0).cells.toList = [Value.slice a0 len0 cap0] := rfl
  rw [hcells] at hf
  subst e0 e1
  rcases DataW.trod_slice ht hf with ⟨hc, _⟩ | ⟨a, len, cap, elems, rest, n, _, hc, _, hb, hl, hm, hlen, hel, _, _⟩
  · injection hc with hc _
    rw [hc]
    exact ⟨[], by simp, .listE 2 none 0⟩
  · injection hc with hc _
    rw [hc]
    rw [ce] at hel
    have each : ∀ i : Nat, ∃ p : Int × Int, i < len → (inR p.1 ∧ inR p.2) ∧ w.cell? ((a.add (i * 2)).add 0) = some (.int .i64 p.1) ∧ w.cell? ((a.add (i * 2)).add 1) = some (.int .i64 p.2) := by
      intro i
      by_cases hi' : i < len
      · have h1 := hel i hi'
        have h2 : ∃ y, elems[i]? = some y := ⟨elems[i], List.getElem?_eq_getElem (by omega)⟩
        obtain ⟨y, hy⟩ := h2
        rw [hy, Option.bind_eq_some_iff] at h1
        obtain ⟨cs, hcs, hy'⟩ := h1
        obtain ⟨y0, y1, m, _, hl2, t0, t1⟩ := trod_struct2 hs hy'
        rw [o0, c0] at t0
        rw [o1, c1] at t1
        obtain ⟨x, g1, _, gw⟩ := DataW.trod_int hi t0
        obtain ⟨z, k1, _, kw⟩ := DataW.trod_int hj t1
        obtain ⟨_, hcl, hcell⟩ := World.cells?_some hcs
        have hcl2 : cs = [.int .i64 x, .int .i64 z] := by
          rw [ce] at hl2
          match cs, hl2, g1, k1 with
          | [p, q], _, g1, k1 =>
            simp at g1 k1
            rw [g1, k1]
        refine ⟨(x, z), fun _ => ⟨⟨wf_inR gw, wf_inR kw⟩, ?_, ?_⟩⟩
        · rw [hcell 0 (by omega), hcl2]; rfl
        · rw [hcell 1 (by omega), hcl2]; rfl
      · exact ⟨(0, 0), fun h => absurd h hi'⟩
    obtain ⟨f, hf2⟩ := Classical.axiomOfChoice each
    rcases Nat.eq_zero_or_pos len with rfl | hpos
    · exact ⟨[], by simp, .listE 2 (some a) cap⟩
    obtain ⟨b, o, sp⟩ := a
    have hsp : sp = none := by
      have := (hf2 0 hpos).2.1
      have h3 := World.cell?_spot this
      unfold Addr.add at h3
      simpa using h3
    subst hsp
    have hll : ((List.range len).map f).length = len := by simp
    have hpr : ∀ i, i < len → pr0 ((List.range len).map f) i = f i := fun i hi' => by simp [pr0, hi']
    have hblk : b < w.heap.size := by
      have := (hf2 0 hpos).2.1
      rw [add_plain, add_plain] at this
      exact cell_lt this
    refine ⟨(List.range len).map f, fun p hp => ?_, ?_⟩
    · obtain ⟨i, hi', rfl⟩ := List.mem_map.1 hp
      exact (hf2 i (List.mem_range.1 hi')).1
    · refine .list 2 _ b o len cap _ (hU b hblk) (by simp) hl (by omega) (by omega) ?_ (rvs_prs _)
      intro j c hjc
      obtain ⟨i, h3, h4⟩ := flat_pr _ j c hjc
      rw [hll] at h3
      rw [hpr i h3] at h4
      have h5 := (hf2 i h3).2
      rw [add_plain, add_plain, add_plain] at h5
      rcases h4 with ⟨rfl, rfl⟩ | ⟨rfl, rfl⟩
      · exact h5.1
      · rw [show o + (i * 2 + 1) = o + i * 2 + 1 by omega]; exact h5.2
end
end Go.Proofs.Ytkfjacclpjgafaa
