import Derived.Test.YtmemomfffehnkaaIbB
namespace Go.Proofs.Ytmemomfffehnkaa
open Go Go.RowKit
set_option maxRecDepth 1000000
set_option linter.unusedSimpArgs false
set_option linter.unusedVariables false
set_option maxHeartbeats 1000000
/-- All sets, as numbers. -/
def n64 : List Int := (List.range 64).map Int.ofNat
@[simp] theorem n64_len : n64.length = 64 := by simp [n64]
theorem n64_at {k : Nat} (h : k < 64) : at0 n64 k = k := by
  unfold n64 at0
  rw [List.getElem?_map, List.getElem?_range h]
  rfl
theorem n64_mem {s : Int} : s ∈ n64 ↔ isS s := by
  unfold n64 isS
  rw [List.mem_map]
  constructor
  · rintro ⟨k, hk, rfl⟩
    have := List.mem_range.1 hk
    exact ⟨Int.natCast_nonneg k, by show (k : Int) < 64; omega⟩
  · intro h
    exact ⟨s.toNat, List.mem_range.2 (by omega), Int.toNat_of_nonneg h.1⟩
theorem n64_lt : n64.Pairwise (· < ·) := by
  unfold n64
  rw [List.pairwise_map]
  exact List.pairwise_lt_range.imp fun h => Int.ofNat_lt.2 h
/-- The facets by their numbers. -/
noncomputable def srt (l : List Int) : List Int := n64.filter fun s => dec (s ∈ l)
theorem srt_mem {l : List Int} (hl : allS l) {s : Int} : s ∈ srt l ↔ s ∈ l := by
  unfold srt
  rw [List.mem_filter, n64_mem, dec_iff]
  exact ⟨fun h => h.2, fun h => ⟨hl s h, h⟩⟩
theorem srt_lt (l : List Int) : (srt l).Pairwise (· < ·) := n64_lt.filter _
theorem len_sub {a : List Int} : ∀ {b : List Int}, a.Nodup → (∀ x ∈ a, x ∈ b) → a.length ≤ b.length := by
  induction a with
  | nil => intro b _ _; exact Nat.zero_le _
  | cons x a ih =>
    intro b hn hs
    obtain ⟨h1, h2⟩ := List.nodup_cons.1 hn
    have hx := hs x (by simp)
    have h3 := ih (b := b.erase x) h2 fun y hy => (List.mem_erase_of_ne (fun e : y = x => h1 (by rw [← e]; exact hy))).2 (hs y (by simp [hy]))
    rw [List.length_erase_of_mem hx] at h3
    have := List.length_pos_of_mem hx
    simp only [List.length_cons]
    omega
theorem srt_nodup (l : List Int) : (srt l).Nodup := (srt_lt l).imp fun h e => by omega
theorem srt_len {l : List Int} (hl : allS l) : (srt l).length ≤ l.length := len_sub (srt_nodup l) fun x hx => (srt_mem hl).1 hx
theorem srt_len2 {l : List Int} (hl : allS l) (hn : l.Nodup) : (srt l).length = l.length := by
  have h1 := srt_len hl
  have h2 := len_sub hn fun x hx => (srt_mem hl).2 hx
  omega
theorem srt_sf {n : Int} {l : List Int} (hc : cplx n l) (h8 : l.length ≤ 8) : sfP (srt l) := by
  have hS := cplx_isS hc
  refine ⟨fun x hx => hS x ((srt_mem hS).1 hx), by have := srt_len hS; omega, fun i j hij hj => ?_, fun x hx y hy hn => cplx_apart hc ((srt_mem hS).1 hx) ((srt_mem hS).1 hy) hn⟩
  have := List.pairwise_iff_getElem.1 (srt_lt l) i j (by omega) hj hij
  rwa [at0_eq (by omega), at0_eq hj]
/-- Shellable, with few facets. -/
def fshP (n : Int) (l : List Int) : Prop := cplx n l ∧ l.length ≤ 8 ∧ exD (shD (srt l)) []
open Classical in
noncomputable def fshL (n : Int) (l : List Int) : List Int := if fshP n l then shO (srt l) [] else []
theorem fshL_yes {n : Int} {l : List Int} (h : fshP n l) : fshL n l = shO (srt l) [] := if_pos h
theorem fshL_no {n : Int} {l : List Int} (h : ¬ fshP n l) : fshL n l = [] := if_neg h
theorem fshL_len (n : Int) (l : List Int) : (fshL n l).length ≤ 64 := by
  by_cases h : fshP n l
  · rw [fshL_yes h]
    have h1 := shO_len (srt l) [] (Nat.zero_le _)
    have h2 := (srt_sf h.1 h.2.1).l
    omega
  · rw [fshL_no h]; exact Nat.zero_le _
noncomputable def F_s_FindShelling : List V → Option V := F1 dC fun c => some (.tup [.own 1 (ints (fshL c.1 c.2)), .bool (dec (fshP c.1 c.2))])
def sc_s_FindShelling_L0 : SC := (.seq (.seq (.reg [⟨(some 19), none, (.mov (.t 5))⟩, ⟨(some 20), none, (.bin false .lss (.t 19) (.c (.int .i64 64)))⟩]) (.cond (.t 20) .skip (.exit 0))) (.seq (.block 1 (.seq (.reg [⟨(some 23), none, (.fad 1 (.t 1))⟩, ⟨(some 24), none, (.ld none .nil (.t 23))⟩, ⟨(some 25), none, (.mov (.t 5))⟩, ⟨(some 26), none, (.call 134 [(.t 24), (.t 25)])⟩]) (.cond (.t 26) (.reg [⟨(some 27), none, (.mov (.t 4))⟩, ⟨(some 28), none, (.mov (.t 5))⟩, ⟨(some 29), none, (.mks 1 1 [(.int .i64 0)] [(0, (1, (.t 28)))])⟩, ⟨(some 30), none, (.app 1 8 (.t 27) (.t 29))⟩, ⟨(some 4), none, (.mov (.t 30))⟩]) .skip))) (.reg [⟨(some 21), none, (.mov (.t 5))⟩, ⟨(some 22), none, (.bin false .add (.t 21) (.c (.int .i64 1)))⟩, ⟨(some 5), none, (.mov (.t 22))⟩])))
def sc_s_FindShelling : SC := (.seq (.reg [⟨(some 1), none, (.box (.t 0))⟩, ⟨(some 2), none, (.mov (.c .nil))⟩, ⟨(some 3), none, (.mov (.c (.bool false)))⟩]) (.seq (.seq (.reg [⟨(some 8), none, (.ld (some 2) .undef (.t 1))⟩, ⟨(some 9), none, (.call 24 [(.t 8)])⟩, ⟨(some 10), none, (.un .not (.t 9))⟩, ⟨(some 11), none, (.mov (.t 10))⟩, ⟨(some 12), (some (11, false)), (.fad 1 (.t 1))⟩, ⟨(some 13), (some (11, false)), (.ld none .nil (.t 12))⟩, ⟨(some 14), (some (11, false)), (.len (.t 13))⟩, ⟨(some 15), (some (11, false)), (.bin false .gtr (.t 14) (.c (.int .i64 8)))⟩, ⟨(some 16), none, (.pick (.t 11) (.c (.bool true)) (.t 15))⟩]) (.cond (.t 16) (.seq (.reg [⟨(some 17), none, (.mks 0 1 [] [])⟩, ⟨(some 2), none, (.mov (.t 17))⟩, ⟨(some 3), none, (.mov (.c (.bool false)))⟩]) .ret) .skip)) (.seq (.reg [⟨(some 18), none, (.mks 0 1 [] [])⟩, ⟨(some 4), none, (.mov (.t 18))⟩]) (.seq (.seq (.reg [⟨(some 5), none, (.mov (.c (.int .i64 0)))⟩]) (.block 0 (.loop sc_s_FindShelling_L0))) (.seq (.reg [⟨(some 32), none, (.mov (.t 4))⟩, ⟨(some 33), none, (.mks 0 1 [] [])⟩, ⟨(some 34), none, (.call 147 [(.t 32), (.t 33)])⟩, ⟨(some 31), none, (.mov (.t 34))⟩, ⟨(some 35), none, (.ext 0 (.t 31))⟩, ⟨(some 36), none, (.ext 1 (.t 31))⟩, ⟨(some 6), none, (.mov (.t 35))⟩, ⟨(some 7), none, (.mov (.t 36))⟩]) (.seq (.reg [⟨(some 37), none, (.mov (.t 6))⟩, ⟨(some 38), none, (.mov (.t 7))⟩, ⟨(some 2), none, (.mov (.t 37))⟩, ⟨(some 3), none, (.mov (.t 38))⟩]) .ret))))))
theorem code_s_FindShelling : fnCode Try.prog [147] 31 = some (39, sc_s_FindShelling, [(2, none), (3, none)]) := by kernel_rfl
theorem fn_s_FindShelling : FnOk Try.prog 31 F_s_FindShelling := by
  have env := ((envNil_ok (P := Try.prog)).add fn_s_IsComplex).add fn_s_l2Has |>.addl (ln_s_l19Find 9)
  refine fn_ok code_s_FindShelling mixed env ?_
  intro args r h hb
  obtain ⟨_, ⟨n, l⟩, rfl, h1, h4⟩ := F1_inv h
  cases dC_inv h1
  cases h4
  clear h
  refine ⟨by simp, fun w0 U0 L0 N0 => ?_⟩
  clear hb
  simp only
  cases e0 : cplxB n l with
  | false =>
    have hP : ¬ fshP n l := fun h => by simp [cplxB_iff.2 h.1] at e0
    rw [fshL_no hP, dec_false hP]
    simp -implicitDefEqProofs [sc_s_FindShelling, F_s_IsComplex, e0]
  | true =>
  have hc := cplxB_iff.1 e0
  by_cases h6 : 8 < (l.length : Int)
  · have hP : ¬ fshP n l := fun h => by have := h.2.1; omega
    rw [fshL_no hP, dec_false hP]
    simp -implicitDefEqProofs [sc_s_FindShelling, F_s_IsComplex, e0, h6]
  have hl8 : l.length ≤ 8 := by omega
  have hF := srt_sf hc hl8
  have hF8 := hF.l
  have hh : shOk (srt l) [] := ⟨Nat.zero_le _, fun k hk => absurd hk (Nat.not_lt_zero _)⟩
  have hG : G_s_l19Find 9 [.list 1 (ints (srt l)), .sl 0 1 0 0] [] = some (shRes (srt l) [] 0, []) := G_s_l19Find_at (n := 9) (m := 0) hF rfl hh (by omega)
  have hPi : fshP n l ↔ exD (shD (srt l)) [] := ⟨fun h => h.2.2, fun h => ⟨hc, hl8, h⟩⟩
  have hst : srt l = n64.filter (fun s => dec (s ∈ l)) := rfl
  have hnlx : ∀ a b c d, nolist 5 (.sl a b c d) = true := fun _ _ _ _ => rfl
  have hrn : ∀ (x : List Int) a, List.map (ren0 a 4) (ints x) = ints x := fun x a => by simp [ints, ren0]
  simp -implicitDefEqProofs [sc_s_FindShelling, F_s_IsComplex, e0, h6]
  refine loopI env mixed (fun k : Nat => [(1, .pt 0 0), (4, .sl 1 1 0 ((n64.take k).filter fun s => dec (s ∈ l)).length), (5, .int .i64 (k : Int))]) (fun k => ([(1, ints ((n64.take k).filter fun s => dec (s ∈ l))), (0, [.int .i64 n, .list 1 (ints l)])], 2)) (fun k => k ≤ 64) (fun k => 64 - k) 0 (by simp) (SubI.slots (by simp) (by simp)) ?_
  intro k hk
  have gl := filt_len n64 k fun s => dec (s ∈ l)
  rw [n64_len] at gl
  by_cases hlt : k < 64
  · have hlt' : (k : Int) < 64 := by omega
    have hk64 : k < n64.length := by rw [n64_len]; exact hlt
    have hat := n64_at hlt
    by_cases hm : (k : Int) ∈ l
    · have e := filt_pos hk64 (q := fun s => dec (s ∈ l)) (dec_true (by rw [hat]; exact hm))
      rw [hat] at e
      generalize (n64.take k).filter (fun s => dec (s ∈ l)) = g at *
      simp -implicitDefEqProofs [sc_s_FindShelling_L0, F_s_l2Has, hlt', hm]
      repeat' (first | omega | apply And.intro)
      refine Again.of (k + 1) (by omega) (by omega) (SubI.ren (fun m => if m = 0 then some 0 else if m = 1 then some 3 else none) ?_ ?_ ?_ (by simp) (by simp))
      · simp only [e]
        simp (disch := omega) [subT, renV, ren1, wrapI]
      · simp only [e]
        simp [subH, renL, ren1]
        rw [← ints_app]
        rfl
      · intro m hm
        simp only at hm
        rw [if_neg (by omega), if_neg (by omega)]
    · have e := filt_neg hk64 (q := fun s => dec (s ∈ l)) (dec_false (by rw [hat]; exact hm))
      generalize (n64.take k).filter (fun s => dec (s ∈ l)) = g at *
      simp -implicitDefEqProofs [sc_s_FindShelling_L0, F_s_l2Has, hlt', hm]
      repeat' (first | omega | apply And.intro)
      exact Again.of (k + 1) (by omega) (by omega) (SubI.slots (by simp only [e]) (by simp only [e]; simp (disch := omega) [wrapI]))
  · have : k = 64 := by omega
    subst this
    have htk : n64.take 64 = n64 := List.take_of_length_le (by simp)
    rw [htk] at *
    rw [← hst] at *
    clear hst htk
    by_cases h0 : 0 = (srt l).length
    · rw [shRes_full h0] at hG
      have he := sh_full (F := srt l) (head := []) h0 hh
      have hP := hPi.2 he
      rw [fshL_yes hP, dec_true hP, shO_full (F := srt l) (head := []) h0 he]
      have hnil : srt l = [] := List.length_eq_zero_iff.1 h0.symm
      rw [hnil] at hG
      rw [hnil]
      simp only [ints_nil] at hG
      have hr0 : shRes [] [] 0 = .tup [.sl 0 1 0 0, .bool true] := shRes_full rfl
      simp -implicitDefEqProofs [sc_s_FindShelling_L0, ren0, hG, hnlx, hrn]
    · rw [shRes_part h0] at hG
      by_cases he : exD (shD (srt l)) []
      · have hP := hPi.2 he
        rw [dec_true he] at hG
        rw [fshL_yes hP, dec_true hP]
        generalize shO (srt l) [] = O at *
        generalize srt l = F at *
        simp -implicitDefEqProofs [sc_s_FindShelling_L0, ren0, hG, hnlx, hrn]
      · have hP : ¬ fshP n l := fun h => he (hPi.1 h)
        rw [dec_false he] at hG
        rw [fshL_no hP, dec_false hP]
        have hO := shO_no he
        rw [hO] at hG
        generalize srt l = F at *
        simp -implicitDefEqProofs [sc_s_FindShelling_L0, ren0, hG, hnlx, hrn]
end Go.Proofs.Ytmemomfffehnkaa
