import Derived.Test.YtmemomfffehnkaaIbE
import Derived.Test.YtmemomfffehnkaaKS
namespace Go.Proofs.Ytmemomfffehnkaa
open Go Go.RowKit
set_option maxRecDepth 1000000
set_option linter.unusedSimpArgs false
set_option linter.unusedVariables false
set_option maxHeartbeats 1000000
def flB : List V := List.replicate 256 (.bool false)
def sc_i_leastOrder : SC := (.seq (.reg [⟨(some 4), none, (.mov (.c .nil))⟩, ⟨(some 5), none, (.mov (.c (.bool false)))⟩]) (.seq (.seq (.reg [⟨(some 8), none, (.mov (.t 0))⟩, ⟨(some 9), none, (.len (.t 8))⟩, ⟨(some 10), none, (.bin false .gtr (.t 9) (.c (.int .i64 8)))⟩]) (.cond (.t 10) (.seq (.reg [⟨(some 4), none, (.mov (.c .nil))⟩, ⟨(some 5), none, (.mov (.c (.bool false)))⟩]) .ret) .skip)) (.cut (.reg [⟨(some 11), none, (.mov (.t 0))⟩, ⟨(some 12), none, (.call 215 [(.t 11)])⟩, ⟨(some 6), none, (.mov (.t 12))⟩]) (.seq (.reg [⟨(some 13), none, (.mov (.t 6))⟩, ⟨(some 14), none, (.call 216 [(.t 13)])⟩]) (.cut (.reg [⟨(some 15), none, (.mov (.t 6))⟩, ⟨(some 16), none, (.mov (.t 1))⟩, ⟨(some 17), none, (.agg (.nil :: .nfn :: (flB ++ [.nil])) [(0, (1, (.t 15))), (1, (1, (.t 16)))])⟩, ⟨(some 7), none, (.new (.nil :: .nfn :: (flB ++ [.nil])))⟩, ⟨none, none, (.st 259 (.t 7) (.t 17))⟩]) (.seq (.seq (.reg [⟨(some 18), none, (.call 217 [(.t 7), (.c (.int .i64 0))])⟩, ⟨(some 19), none, (.un .not (.t 18))⟩]) (.cond (.t 19) (.seq (.reg [⟨(some 4), none, (.mov (.c .nil))⟩, ⟨(some 5), none, (.mov (.c (.bool false)))⟩]) .ret) .skip)) (.seq (.reg [⟨(some 20), none, (.fad 258 (.t 7))⟩, ⟨(some 21), none, (.ld none .nil (.t 20))⟩, ⟨(some 4), none, (.mov (.t 21))⟩, ⟨(some 5), none, (.mov (.c (.bool true)))⟩]) .ret)))))))
theorem code_i_leastOrder : fnCode Try.prog [217, 216, 888888] 145 = some (22, sc_i_leastOrder, [(4, none), (5, none)]) := by kernel_rfl
theorem setRange_app : ∀ (v p l : List V), l.length = v.length → setRange (p ++ l) p.length v = p ++ v := by
  intro v
  induction v with
  | nil =>
    intro p l h
    have : l = [] := List.length_eq_zero_iff.1 h
    subst this
    rfl
  | cons a v ih =>
    intro p l h
    cases l with
    | nil => simp at h
    | cons b l =>
      have e : (p ++ b :: l).set p.length a = (p ++ [a]) ++ l := by
        rw [List.set_append_right _ _ (Nat.le_refl _), Nat.sub_self]
        simp
      have h2 := ih (p ++ [a]) l (by simpa using h)
      rw [List.length_append, List.length_singleton] at h2
      show setRange ((p ++ b :: l).set p.length a) (p.length + 1) v = _
      rw [e, h2]
      simp
@[simp] theorem flB_len : flB.length = 256 := by simp [flB]
@[simp] theorem flB_cell : flB.all V.cell = true := List.all_eq_true.2 fun x hx => by
  unfold flB at hx
  rw [(List.mem_replicate.1 hx).2]
  rfl
theorem flB_eq : flB = (List.replicate 256 false).map V.bool := by simp [flB]
theorem flB_set (x y : V) : setRange (x :: y :: (flB ++ [.nil])) 2 (flB ++ [.nil]) = x :: y :: (flB ++ [.nil]) := by
  generalize flB ++ [V.nil] = z
  have h := setRange_app z [x, y] z rfl
  exact h
theorem opnL_id {f : V → Hp → V × Hp} {l : List V} (h : ∀ v ∈ l, ∀ s, f v s = (v, s)) (s : Hp) : opnL f l s = (l, s) := by
  induction l generalizing s with
  | nil => rfl
  | cons a l ih =>
    simp only [opnL, h a (by simp)]
    rw [ih fun v hv => h v (by simp [hv])]
theorem flB_opn (s : Hp) : opnL (opn 5) (flB ++ [.nil]) s = (flB ++ [.nil], s) := opnL_id (fun v hv s => by
  rcases List.mem_append.1 hv with h | h
  · unfold flB at h
    rw [(List.mem_replicate.1 h).2]
    rfl
  · rw [List.mem_singleton.1 h]
    rfl) s
/-- The least shelling of a list of facets. -/
def loP (l : List Int) : Prop := l.length ≤ 8 ∧ exD (shD (srt l)) []
open Classical in
noncomputable def loL (l : List Int) : List Int := if loP l then shO (srt l) [] else []
theorem loL_yes {l : List Int} (h : loP l) : loL l = shO (srt l) [] := if_pos h
theorem loL_no {l : List Int} (h : ¬ loP l) : loL l = [] := if_neg h
noncomputable def F_i_leastOrder : List V → Option V
  | [a, .fn f []] => (dL a).bind fun l => @ite _ (f = 146 ∧ allS l ∧ l.Nodup ∧ (l.length ≤ 8 → sfP (srt l))) (Classical.propDecidable _) (some (.tup [.own 1 (ints (loL l)), .bool (dec (loP l))])) none
  | _ => none
theorem fn_i_leastOrder : FnOk Try.prog 145 F_i_leastOrder := by
  have env := (((envNil_ok (P := Try.prog)).add fn_Clone).addl (ln_i_ordC 9)).addl ln_Sort
  refine fn_ok code_i_leastOrder mixed env ?_
  intro args r h hb
  unfold F_i_leastOrder at h
  split at h
  case h_2 => simp at h
  rename_i a f
  obtain ⟨l, h1, h2⟩ := Option.bind_eq_some_iff.1 h
  cases dL_inv h1
  simp only [Option.ite_none_right_eq_some, Option.some.injEq] at h2
  obtain ⟨⟨rfl, hS, hn, hsf⟩, rfl⟩ := h2
  clear h h1 hb
  refine ⟨by simp, fun w0 U0 L0 N0 => ?_⟩
  by_cases h8 : 8 < (l.length : Int)
  · have hP : ¬ loP l := fun h => by have := h.1; omega
    rw [loL_no hP, dec_false hP]
    simp -implicitDefEqProofs [sc_i_leastOrder, h8]
  have hl8 : l.length ≤ 8 := by omega
  have hF := hsf hl8
  have hlen := srt_len2 hS hn
  have hC : F_Clone [.list 1 (ints l)] = some (.own 1 (ints l)) := by
    simp only [F_Clone, F1_mk, dL_list, Option.bind_some]
    rw [if_pos (by omega)]
  have hGs : G_Sort [.sl 0 1 0 l.length] (ints l) = some (.tup [], ints (srt l)) := by
    simp only [G_Sort, dInts_ints, Option.bind_some]
    rw [if_pos ⟨rfl, hn, hS, hl8⟩]
  have hPi : loP l ↔ exD (shD (srt l)) [] := ⟨fun h => h.2, fun h => ⟨hl8, h⟩⟩
  have hG : G_i_ordC 9 [.pt 0 0, .int .i64 0] (osC (srt l) (List.replicate 256 false) (.own 1 [])) = some (.bool (dec (exD (shD (srt l)) [])), osC (srt l) (ocF (srt l) 9 0 [] (List.replicate 256 false)) (.own 1 (ints (shR (srt l) [])))) :=
    G_i_ordC_at (n := 9) (u := 0) (head := []) (bl := List.replicate 256 false) hF ⟨Nat.zero_le _, fun k hk => absurd hk (Nat.not_lt_zero _)⟩ ⟨Nat.two_pow_pos _, fun i _ => by simp⟩
      ⟨by simp, fun head u _ _ hb => by
        rw [List.getElem?_replicate] at hb
        split at hb <;> simp at hb⟩ (by have := hF.l; simp; omega)
  have hX : ∀ b, dec (exD (shD (srt l)) []) = b → dec (loP l) = b ∧ (b = true → loL l = shR (srt l) []) ∧ (b = false → loL l = []) := fun b h => by
    cases b with
    | true =>
      have h1 := dec_iff.1 h
      exact ⟨dec_true (hPi.2 h1), fun _ => by rw [loL_yes (hPi.2 h1), shR_yes h1], fun h => by simp at h⟩
    | false =>
      have h1 : ¬ exD (shD (srt l)) [] := fun h2 => by rw [dec_true h2] at h; simp at h
      have h2 : ¬ loP l := fun h3 => h1 (hPi.1 h3)
      exact ⟨dec_false h2, fun h => by simp at h, fun _ => loL_no h2⟩
  have hm : ((ocF (srt l) 9 0 [] (List.replicate 256 false))).length = 256 := (ocF_mem hF 9 0 [] _ ⟨Nat.zero_le _, fun k hk => absurd hk (Nat.not_lt_zero _)⟩ ⟨Nat.two_pow_pos _, fun i _ => by simp⟩
      ⟨by simp, fun head u _ _ hb => by
        rw [List.getElem?_replicate] at hb
        split at hb <;> simp at hb⟩).1
  generalize ocF (srt l) 9 0 [] (List.replicate 256 false) = bz at *
  obtain ⟨hx1, hx2, hx3⟩ := hX _ rfl
  rw [hx1]
  generalize loL l = LL at *
  generalize dec (exD (shD (srt l)) []) = bx at *
  generalize shR (srt l) [] = R at *
  generalize srt l = F at *
  clear hPi hx1 hX hsf
  simp -implicitDefEqProofs [sc_i_leastOrder, h8, hC]
  refine CutI.of (l' := [(1, .fn 146 []), (6, .sl 0 1 0 l.length)]) (s' := ([(0, ints l)], 1)) (SubI.slots rfl (by simp)) ?_
  simp -implicitDefEqProofs [-List.all_eq_true, ren0, hGs, flB_set, flB_opn]
  have hb0 : (List.replicate 256 false).length = 256 := by simp
  have eO : ∀ c : V, (V.list 1 (ints F) :: V.fn 146 [] :: (flB ++ [c])) = osC F (List.replicate 256 false) c := fun c => by
    unfold osC
    rw [flB_eq]
  have nm0 : (osC F (List.replicate 256 false) (.own 1 [])).all (nonm 6) = true := by rw [osC_nm]; simp [nonm]
  have nm1 : (osC F bz (.own 1 (ints R))).all (nonm 6) = true := by rw [osC_nm]; simp [nonm]
  have gl : ∀ (c : V) (h : 258 < (osC F bz c).length), (osC F bz c)[258]'h = c := fun c h => osC_El hm h
  have gs : ∀ (c d : V), (osC F bz c).set 258 d = osC F bz d := fun c d => osC_setl hm d
  have gn : ∀ (c : V), (osC F bz c).length = 259 := fun c => osC_len hm
  generalize List.replicate 256 false = b0 at *
  refine CutI.of (l' := [(7, .pt 1 0)]) (s' := ([(1, osC F b0 (.own 1 []))], 3)) ?_ ?_
  · refine SubI.frzC 1 0 0 1 l.length (cn := ints F) (co := .sl 0 1 0 l.length :: .fn 146 [] :: (flB ++ [.nil])) rfl rfl rfl (by simp [hlen]) (nums_ints F) ?_
    have e1 : hset (hdel [(1, .sl 0 1 0 l.length :: .fn 146 [] :: (flB ++ [.nil])), (0, ints F)] 0) 1 (List.set (.sl 0 1 0 l.length :: .fn 146 [] :: (flB ++ [.nil])) 0 (.list 1 (ints F))) = [(1, osC F b0 .nil)] := by
      simp only [hdel, hset, List.set_cons_zero, eO]
      simp
    rw [e1]
    refine SubI.nilCell 1 258 1 (co := osC F b0 .nil) rfl (osC_l hb0) ?_
    have e2 : hset [(1, osC F b0 .nil)] 1 ((osC F b0 .nil).set 258 (.sl 2 1 0 0)) = [(1, osC F b0 (.sl 2 1 0 0))] := by rw [osC_setl hb0]; rfl
    rw [e2]
    refine SubI.fold 1 2 258 1 0 (cn := []) (co := osC F b0 (.sl 2 1 0 0)) rfl rfl (osC_l hb0) rfl ?_
    have e3 : hset (hdel [(2, []), (1, osC F b0 (.sl 2 1 0 0))] 2) 1 ((osC F b0 (.sl 2 1 0 0)).set 258 (.own 1 [])) = [(1, osC F b0 (.own 1 []))] := by rw [osC_setl hb0]; rfl
    rw [e3]
    exact SubI.slots rfl (by simp)
  cases bx with
  | true =>
    rw [hx2 rfl]
    simp -implicitDefEqProofs [-List.all_eq_true, ren0, hG, nm0, nm1, gn, gl, gs]
    try omega
  | false =>
    rw [hx3 rfl]
    simp -implicitDefEqProofs [-List.all_eq_true, ren0, hG, nm0, nm1, gn, gl, gs]
    try omega
end Go.Proofs.Ytmemomfffehnkaa
