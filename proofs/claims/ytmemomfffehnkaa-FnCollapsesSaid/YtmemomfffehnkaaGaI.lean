import Derived.Test.YtmemomfffehnkaaGaF
import Derived.Test.YtmemomfffehnkaaKR
import Derived.Test.YtmemomfffehnkaaGaD
import Derived.Test.YtmemomfffehnkaaKL
namespace Go.Proofs.Ytmemomfffehnkaa
open Go Go.RowKit
set_option maxRecDepth 1000000
set_option linter.unusedSimpArgs false
set_option linter.unusedVariables false
set_option maxHeartbeats 1000000
def sc_s_CollapseAt : SC := (.seq (.reg [⟨(some 2), none, (.box (.t 0))⟩, ⟨(some 4), none, (.new [(.int .i64 0), .nil])⟩, ⟨(some 5), none, (.mov (.c (.bool false)))⟩]) (.seq (.seq (.reg [⟨(some 6), none, (.ld (some 2) .undef (.t 2))⟩, ⟨(some 7), none, (.call 77 [(.t 6)])⟩, ⟨(some 8), none, (.mov (.t 1))⟩, ⟨(some 9), none, (.call 134 [(.t 7), (.t 8)])⟩, ⟨(some 10), none, (.un .not (.t 9))⟩]) (.cond (.t 10) (.seq (.reg [⟨(some 11), none, (.agg [(.int .i64 0), .nil] [])⟩, ⟨none, none, (.st 2 (.t 4) (.t 11))⟩, ⟨(some 5), none, (.mov (.c (.bool false)))⟩]) .ret) .skip)) (.seq (.reg [⟨(some 12), none, (.ld (some 2) .undef (.t 2))⟩, ⟨(some 13), none, (.mov (.t 1))⟩, ⟨(some 14), none, (.call 176 [(.t 12), (.t 13)])⟩, ⟨none, none, (.st 2 (.t 4) (.t 14))⟩, ⟨(some 5), none, (.mov (.c (.bool true)))⟩]) .ret)))
theorem code_s_CollapseAt : fnCode Try.prog [] 65 = some (15, sc_s_CollapseAt, [(4, (some 2)), (5, none)]) := by kernel_rfl
/-- A face below just one other face of a complex. -/
def colP (n : Int) (l : List Int) (s : Int) : Prop := cplx n l ∧ isS s ∧ faceS l s ∧ ∃ t, freeOf (faceS l) s t
theorem colP_free {n : Int} {l : List Int} {s : Int} : colP n l s ↔ s ∈ freeL n l := by
  unfold freeL colP
  rw [mem_setsOf]
  exact ⟨fun ⟨a, b, c, d⟩ => ⟨b, a, c, d⟩, fun ⟨b, a, c, d⟩ => ⟨a, b, c, d⟩⟩
open Classical in
noncomputable def colL (n : Int) (l : List Int) (s : Int) : List Int := if colP n l s then setsOf (maxP (wtoP (faceS l) s)) else []
theorem colN_ex (n : Int) (l : List Int) (s : Int) : ∃ m : Int, (colP n l s → m = n) ∧ (¬ colP n l s → m = 0) := by
  by_cases h : colP n l s
  · exact ⟨n, fun _ => rfl, fun h2 => absurd h h2⟩
  · exact ⟨0, fun h2 => absurd h2 h, fun _ => rfl⟩
noncomputable def colN (n : Int) (l : List Int) (s : Int) : Int := Classical.choose (colN_ex n l s)
theorem colN_yes {n : Int} {l : List Int} {s : Int} (h : colP n l s) : colN n l s = n := (Classical.choose_spec (colN_ex n l s)).1 h
theorem colN_no {n : Int} {l : List Int} {s : Int} (h : ¬ colP n l s) : colN n l s = 0 := (Classical.choose_spec (colN_ex n l s)).2 h
theorem colL_yes {n : Int} {l : List Int} {s : Int} (h : colP n l s) : colL n l s = setsOf (maxP (wtoP (faceS l) s)) := if_pos h
theorem colL_no {n : Int} {l : List Int} {s : Int} (h : ¬ colP n l s) : colL n l s = [] := if_neg h
noncomputable def F_s_CollapseAt : List V → Option V := F2 dC dI fun c s => some (.tup [.agg [.int .i64 (colN c.1 c.2 s), .own 1 (ints (colL c.1 c.2 s))], .bool (dec (colP c.1 c.2 s))])
theorem fn_s_CollapseAt : FnOk Try.prog 65 F_s_CollapseAt := by
  have env := (((envNil_ok (P := Try.prog)).add fn_s_l2Has).add fn_s_FreeFaces).add fn_s_l5Without
  refine fn_ok code_s_CollapseAt mixed env ?_
  intro args r h hb
  obtain ⟨_, _, ⟨n, l⟩, s, rfl, h1, h2, h4⟩ := F2_inv h
  cases dC_inv h1
  cases dI_inv h2
  cases h4
  clear h
  refine ⟨by simp, fun w0 U0 L0 N0 => ?_⟩
  clear hb
  have hi := colP_free (n := n) (l := l) (s := s)
  by_cases hP : colP n l s
  · have hm := hi.1 hP
    have hc := hP.1
    have hs := hP.2.1
    rw [colN_yes hP, colL_yes hP, dec_true hP]
    simp -implicitDefEqProofs [sc_s_CollapseAt, F_s_FreeFaces, F_s_l2Has, F_s_l5Without, hm, hc, hs]
  · have hm : s ∉ freeL n l := fun h => hP (hi.2 h)
    rw [colN_no hP, colL_no hP, dec_false hP]
    simp -implicitDefEqProofs [sc_s_CollapseAt, F_s_FreeFaces, F_s_l2Has, hm]
def sc_i_CollapseAt : SC := (.seq (.reg [⟨(some 2), none, (.box (.t 0))⟩, ⟨(some 4), none, (.new [(.int .i64 0), .nil])⟩, ⟨(some 5), none, (.mov (.c (.bool false)))⟩]) (.seq (.seq (.reg [⟨(some 9), none, (.ld (some 2) .undef (.t 2))⟩, ⟨(some 10), none, (.mov (.t 1))⟩, ⟨(some 11), none, (.call 173 [(.t 9), (.t 10)])⟩, ⟨(some 12), none, (.un .not (.t 11))⟩]) (.cond (.t 12) (.seq (.reg [⟨(some 13), none, (.agg [(.int .i64 0), .nil] [])⟩, ⟨none, none, (.st 2 (.t 4) (.t 13))⟩, ⟨(some 5), none, (.mov (.c (.bool false)))⟩]) .ret) .skip)) (.seq (.reg [⟨(some 14), none, (.ld (some 2) .undef (.t 2))⟩, ⟨(some 15), none, (.call 151 [(.t 14)])⟩, ⟨(some 6), none, (.mov (.t 15))⟩]) (.seq (.reg [⟨(some 17), none, (.mov (.t 6))⟩, ⟨(some 18), none, (.mov (.t 1))⟩, ⟨(some 19), none, (.call 174 [(.t 17), (.t 18)])⟩, ⟨(some 16), none, (.mov (.t 19))⟩, ⟨(some 20), none, (.ext 0 (.t 16))⟩, ⟨(some 21), none, (.ext 1 (.t 16))⟩, ⟨(some 7), none, (.mov (.t 20))⟩, ⟨(some 8), none, (.mov (.t 21))⟩]) (.seq (.seq (.reg [⟨(some 22), none, (.mov (.t 8))⟩, ⟨(some 23), none, (.un .not (.t 22))⟩]) (.cond (.t 23) (.seq (.reg [⟨(some 24), none, (.agg [(.int .i64 0), .nil] [])⟩, ⟨none, none, (.st 2 (.t 4) (.t 24))⟩, ⟨(some 5), none, (.mov (.c (.bool false)))⟩]) .ret) .skip)) (.seq (.reg [⟨(some 25), none, (.fad 0 (.t 2))⟩, ⟨(some 26), none, (.ld none (.int .i64 0) (.t 25))⟩, ⟨(some 27), none, (.mov (.t 6))⟩, ⟨(some 28), none, (.mov (.t 1))⟩, ⟨(some 29), none, (.conv .u64 (.t 28))⟩, ⟨(some 30), none, (.bin false .shl (.c (.int .u64 1)) (.t 29))⟩, ⟨(some 31), none, (.mov (.t 7))⟩, ⟨(some 32), none, (.conv .u64 (.t 31))⟩, ⟨(some 33), none, (.bin false .shl (.c (.int .u64 1)) (.t 32))⟩, ⟨(some 34), none, (.bin false .or (.t 30) (.t 33))⟩, ⟨(some 35), none, (.bin false .andNot (.t 27) (.t 34))⟩, ⟨(some 36), none, (.call 175 [(.t 26), (.t 35)])⟩, ⟨none, none, (.st 2 (.t 4) (.t 36))⟩, ⟨(some 5), none, (.mov (.c (.bool true)))⟩]) .ret))))))
theorem code_i_CollapseAt : fnCode Try.prog [] 64 = some (37, sc_i_CollapseAt, [(4, (some 2)), (5, none)]) := by kernel_rfl
theorem col_fam {p : Int → Prop} {s t : Int} (hp : p s) (h : freeOf p s t) (u : Int) (hu : isS u) : (p u ∧ ¬ (u = s ∨ u = t)) ↔ wtoP p s u := by
  unfold wtoP
  constructor
  · rintro ⟨a, b⟩
    exact ⟨a, fun hs => b (.inr (h.2.2 u hu ⟨a, hs, fun e => b (.inl e)⟩))⟩
  · rintro ⟨a, b⟩
    refine ⟨a, fun h2 => b ?_⟩
    rcases h2 with rfl | rfl
    · exact subS_refl hu
    · exact h.2.1.2.1
theorem fn_i_CollapseAt : FnOk Try.prog 64 F_s_CollapseAt := by
  have env := ((((envNil_ok (P := Try.prog)).add fn_i_HasFace).add fn_i_facesIn).add fn_i_freePartner).add fn_i_complexOf
  refine fn_ok code_i_CollapseAt mixed env ?_
  intro args r h hb
  obtain ⟨_, _, ⟨n, l⟩, s, rfl, h1, h2, h4⟩ := F2_inv h
  cases dC_inv h1
  cases dI_inv h2
  cases h4
  clear h
  refine ⟨by simp, fun w0 U0 L0 N0 => ?_⟩
  clear hb
  by_cases hF : cplx n l ∧ isS s ∧ faceS l s
  rotate_left
  · have hP : ¬ colP n l s := fun h => hF ⟨h.1, h.2.1, h.2.2.1⟩
    have hb : hasFaceB n l s = false := dec_false hF
    rw [colN_no hP, colL_no hP, dec_false hP]
    simp -implicitDefEqProofs [sc_i_CollapseAt, F_s_HasFace, hb]
  have hb : hasFaceB n l s = true := dec_true hF
  obtain ⟨hc, hs, hf⟩ := hF
  have hS := cplx_isS hc
  have hg := partG_fam (faceS l) hs
  by_cases hq : ∃ t, freeOf (faceS l) s t
  rotate_left
  · have hP : ¬ colP n l s := fun h => hq h.2.2.2
    rw [dec_false hq] at hg
    rw [colN_no hP, colL_no hP, dec_false hP]
    simp -implicitDefEqProofs [sc_i_CollapseAt, F_s_HasFace, F_i_facesIn, F_i_freePartner, hb, hS, hg]
  have hP : colP n l s := ⟨hc, hs, hf, hq⟩
  rw [dec_true hq] at hg
  rw [colN_yes hP, colL_yes hP, dec_true hP]
  obtain ⟨t, ht⟩ := hq
  rw [partnerV_of ht] at hg
  have hts := ht.1
  have u1 := wrapS hs
  have u2 := wrapS hts
  have o1 := fam_one hs
  have o2 := fam_one hts
  have p1 := hs.1
  have p2 := hts.1
  have hcf := cofG_fam n fun u => faceS l u ∧ ¬ (u = s ∨ u = t)
  rw [setsOf_congr fun u hu => maxP_congr (fun v hv => col_fam hf ht v hv) hu] at hcf
  simp only [not_or] at hcf
  generalize setsOf (maxP (wtoP (faceS l) s)) = R at *
  simp -implicitDefEqProofs [sc_i_CollapseAt, F_s_HasFace, F_i_facesIn, F_i_freePartner, F_i_complexOf, hb, hS, hg, u1, u2, o1, o2, p1, p2, hcf]
end Go.Proofs.Ytmemomfffehnkaa
