import Derived.Test.YtmemomfffehnkaaIbD
namespace Go.Proofs.Ytmemomfffehnkaa
open Go Go.RowKit
set_option maxRecDepth 1000000
set_option linter.unusedSimpArgs false
set_option linter.unusedVariables false
set_option maxHeartbeats 1000000
def sc_i_ordComplete_L0 : SC := (.seq (.reg [⟨(some 30), none, (.bin false .lss (.t 29) (.t 28))⟩]) (.seq (.cond (.t 30) .skip (.exit 0)) (.seq (.block 1 (.cut (.reg [⟨(some 31), none, (.mov (.t 29))⟩, ⟨(some 32), none, (.idx 1 (.t 27) (.t 29))⟩, ⟨(some 33), none, (.ld none (.int .i64 0) (.t 32))⟩, ⟨(some 5), none, (.mov (.t 31))⟩, ⟨(some 6), none, (.mov (.t 33))⟩]) (.seq (.seq (.dreg [⟨⟨(some 34), none, (.mov (.t 1))⟩, false, false⟩, ⟨⟨(some 35), none, (.mov (.t 5))⟩, false, false⟩, ⟨⟨(some 36), none, (.conv .u64 (.t 35))⟩, false, false⟩, ⟨⟨(some 37), none, (.bin false .shr (.t 34) (.t 36))⟩, false, false⟩, ⟨⟨(some 38), none, (.bin false .and (.t 37) (.c (.int .i64 1)))⟩, false, false⟩, ⟨⟨(some 39), none, (.bin false .eql (.t 38) (.c (.int .i64 1)))⟩, false, false⟩, ⟨⟨(some 40), none, (.mov (.t 39))⟩, false, false⟩, ⟨⟨(some 41), (some (40, false)), (.mov (.t 0))⟩, false, false⟩, ⟨⟨(some 42), (some (40, false)), (.nck (.t 41))⟩, false, false⟩, ⟨⟨(some 43), (some (40, false)), (.fad 1 (.t 42))⟩, false, false⟩, ⟨⟨(some 44), (some (40, false)), (.ld none .nfn (.t 43))⟩, false, false⟩, ⟨⟨(some 45), (some (40, false)), (.mov (.t 0))⟩, false, false⟩, ⟨⟨(some 46), (some (40, false)), (.nck (.t 45))⟩, false, false⟩, ⟨⟨(some 47), (some (40, false)), (.fad 258 (.t 46))⟩, false, false⟩, ⟨⟨(some 48), (some (40, false)), (.ld none .nil (.t 47))⟩, false, false⟩, ⟨⟨(some 49), (some (40, false)), (.mov (.t 6))⟩, false, false⟩, ⟨⟨(some 50), (some (40, false)), (.callv (.t 44) [(.t 48), (.t 49)])⟩, false, false⟩, ⟨⟨(some 51), (some (40, false)), (.un .not (.t 50))⟩, false, false⟩, ⟨⟨(some 52), none, (.pick (.t 40) (.c (.bool true)) (.t 51))⟩, false, false⟩]) (.cond (.t 52) (.exit 1) .skip)) (.cut (.reg [⟨(some 53), none, (.mov (.t 0))⟩, ⟨(some 54), none, (.mov (.t 0))⟩, ⟨(some 55), none, (.nck (.t 54))⟩, ⟨(some 56), none, (.fad 258 (.t 55))⟩, ⟨(some 57), none, (.ld none .nil (.t 56))⟩, ⟨(some 58), none, (.mov (.t 6))⟩, ⟨(some 59), none, (.mks 1 1 [(.int .i64 0)] [(0, (1, (.t 58)))])⟩, ⟨(some 60), none, (.app 1 8 (.t 57) (.t 59))⟩, ⟨(some 61), none, (.nck (.t 53))⟩, ⟨(some 62), none, (.fad 258 (.t 61))⟩, ⟨none, none, (.st 1 (.t 62) (.t 60))⟩]) (.cut (.seq (.reg [⟨(some 63), none, (.mov (.t 0))⟩, ⟨(some 64), none, (.mov (.t 1))⟩, ⟨(some 65), none, (.mov (.t 5))⟩, ⟨(some 66), none, (.conv .u64 (.t 65))⟩, ⟨(some 67), none, (.bin false .shl (.c (.int .i64 1)) (.t 66))⟩, ⟨(some 68), none, (.bin false .or (.t 64) (.t 67))⟩, ⟨(some 69), none, (.call 217 [(.t 63), (.t 68)])⟩]) (.cond (.t 69) (.seq (.reg [⟨(some 4), none, (.mov (.c (.bool true)))⟩]) .ret) .skip)) (.dreg [⟨⟨(some 70), none, (.mov (.t 0))⟩, false, false⟩, ⟨⟨(some 71), none, (.mov (.t 0))⟩, false, false⟩, ⟨⟨(some 72), none, (.nck (.t 71))⟩, false, false⟩, ⟨⟨(some 73), none, (.fad 258 (.t 72))⟩, false, false⟩, ⟨⟨(some 74), none, (.ld none .nil (.t 73))⟩, false, false⟩, ⟨⟨(some 75), none, (.mov (.t 0))⟩, false, false⟩, ⟨⟨(some 76), none, (.nck (.t 75))⟩, false, false⟩, ⟨⟨(some 77), none, (.fad 258 (.t 76))⟩, false, false⟩, ⟨⟨(some 78), none, (.ld none .nil (.t 77))⟩, false, false⟩, ⟨⟨(some 79), none, (.len (.t 78))⟩, false, false⟩, ⟨⟨(some 80), none, (.bin false .sub (.t 79) (.c (.int .i64 1)))⟩, false, false⟩, ⟨⟨(some 81), none, (.sli 1 (.t 74) none (some (.t 80)) none)⟩, false, false⟩, ⟨⟨(some 82), none, (.nck (.t 70))⟩, false, false⟩, ⟨⟨(some 83), none, (.fad 258 (.t 82))⟩, false, false⟩, ⟨⟨none, none, (.st 1 (.t 83) (.t 81))⟩, true, false⟩])))))) (.reg [⟨(some 84), none, (.bin false .add (.t 29) (.c (.int .i64 1)))⟩, ⟨(some 29), none, (.mov (.t 84))⟩]))))
def sc_i_ordComplete : SC := (.cut (.reg [⟨(some 4), none, (.mov (.c (.bool false)))⟩]) (.seq (.seq (.dreg [⟨⟨(some 7), none, (.mov (.t 0))⟩, false, false⟩, ⟨⟨(some 8), none, (.nck (.t 7))⟩, false, false⟩, ⟨⟨(some 9), none, (.fad 258 (.t 8))⟩, false, false⟩, ⟨⟨(some 10), none, (.ld none .nil (.t 9))⟩, false, false⟩, ⟨⟨(some 11), none, (.len (.t 10))⟩, false, false⟩, ⟨⟨(some 12), none, (.mov (.t 0))⟩, false, false⟩, ⟨⟨(some 13), none, (.nck (.t 12))⟩, false, false⟩, ⟨⟨(some 14), none, (.fad 0 (.t 13))⟩, false, false⟩, ⟨⟨(some 15), none, (.ld none .nil (.t 14))⟩, false, false⟩, ⟨⟨(some 16), none, (.len (.t 15))⟩, false, false⟩, ⟨⟨(some 17), none, (.bin false .eql (.t 11) (.t 16))⟩, false, false⟩]) (.cond (.t 17) (.seq (.reg [⟨(some 4), none, (.mov (.c (.bool true)))⟩]) .ret) .skip)) (.seq (.seq (.reg [⟨(some 18), none, (.mov (.t 0))⟩, ⟨(some 19), none, (.mov (.t 1))⟩, ⟨(some 20), none, (.nck (.t 18))⟩, ⟨(some 21), none, (.fad 2 (.t 20))⟩, ⟨(some 22), none, (.idxa 256 1 (.t 21) (.t 19))⟩, ⟨(some 23), none, (.ld none (.bool false) (.t 22))⟩]) (.cond (.t 23) (.seq (.reg [⟨(some 4), none, (.mov (.c (.bool false)))⟩]) .ret) .skip)) (.seq (.seq (.reg [⟨(some 24), none, (.mov (.t 0))⟩, ⟨(some 25), none, (.nck (.t 24))⟩, ⟨(some 26), none, (.fad 0 (.t 25))⟩, ⟨(some 27), none, (.ld none .nil (.t 26))⟩, ⟨(some 28), none, (.len (.t 27))⟩, ⟨(some 29), none, (.mov (.c (.int .i64 0)))⟩]) (.block 0 (.loop sc_i_ordComplete_L0))) (.seq (.reg [⟨(some 85), none, (.mov (.t 0))⟩, ⟨(some 86), none, (.mov (.t 1))⟩, ⟨(some 87), none, (.nck (.t 85))⟩, ⟨(some 88), none, (.fad 2 (.t 87))⟩, ⟨(some 89), none, (.idxa 256 1 (.t 88) (.t 86))⟩, ⟨none, none, (.st 1 (.t 89) (.c (.bool true)))⟩]) (.seq (.reg [⟨(some 4), none, (.mov (.c (.bool false)))⟩]) .ret))))))
theorem code_i_ordComplete : fnCode Try.prog [217, 888888, 666666] 217 = some (90, sc_i_ordComplete, [(4, none)]) := by kernel_rfl
noncomputable def G_i_ordC (n : Nat) : List V → List V → Option (V × List V)
  | [.pt 0 0, .int .i64 u], .list 1 a :: .fn f [] :: r => match r.drop 256 with
    | [.own 1 c] => (dInts a).bind fun F => (dInts c).bind fun head => (dBs (r.take 256)).bind fun bl =>
        @ite _ (f = 146 ∧ sfP F ∧ shOk F head ∧ 0 ≤ u ∧ usedP F head u.toNat ∧ memP F bl ∧ F.length - head.length < n) (Classical.propDecidable _)
          (some (.bool (dec (exD (shD F) head)), osC F (ocF F n u.toNat head bl) (.own 1 (ints (shR F head))))) none
    | _ => none
  | _, _ => none
theorem G_i_ordC_at {n u : Nat} {F head : List Int} {bl : List Bool} (hF : sfP F) (ho : shOk F head) (hu : usedP F head u) (hb : memP F bl) (hn : F.length - head.length < n) :
    G_i_ordC n [.pt 0 0, .int .i64 (u : Int)] (osC F bl (.own 1 (ints head))) = some (.bool (dec (exD (shD F) head)), osC F (ocF F n u head bl) (.own 1 (ints (shR F head)))) := by
  have h1 : (bl.map V.bool ++ [V.own 1 (ints head)]).drop 256 = [V.own 1 (ints head)] := by
    rw [List.drop_append, List.drop_of_length_le (by simp [hb.1])]
    simp [hb.1]
  have h2 : (bl.map V.bool ++ [V.own 1 (ints head)]).take 256 = bl.map V.bool := by
    rw [List.take_append, List.take_of_length_le (by simp [hb.1])]
    simp [hb.1]
  unfold osC G_i_ordC
  simp only [h1, h2, dInts_ints, dBs_map, Option.bind_some, Int.toNat_natCast]
  rw [if_pos ⟨rfl, hF, ho, Int.natCast_nonneg u, hu, hb, hn⟩]
  rfl
theorem G_i_ordC_inv {n : Nat} {args cells cells' : List V} {r : V} (h : G_i_ordC n args cells = some (r, cells')) : ∃ (F head : List Int) (bl : List Bool) (u : Nat), args = [.pt 0 0, .int .i64 (u : Int)] ∧ cells = osC F bl (.own 1 (ints head)) ∧ sfP F ∧ shOk F head ∧ usedP F head u ∧ memP F bl ∧ F.length - head.length < n ∧
    r = .bool (dec (exD (shD F) head)) ∧ cells' = osC F (ocF F n u head bl) (.own 1 (ints (shR F head))) := by
  unfold G_i_ordC at h
  split at h
  · rename_i u a f r0
    split at h
    · rename_i c hd
      obtain ⟨F, h1, g1⟩ := Option.bind_eq_some_iff.1 h
      obtain ⟨head, h2, g2⟩ := Option.bind_eq_some_iff.1 g1
      obtain ⟨bl, h3, g3⟩ := Option.bind_eq_some_iff.1 g2
      simp only [Option.ite_none_right_eq_some, Option.some.injEq, Prod.mk.injEq] at g3
      obtain ⟨⟨rfl, k1, k2, k3, k4, k5, k6⟩, rfl, rfl⟩ := g3
      have e1 := dInts_inv h1
      have e2 := dInts_inv h2
      have e3 := dBs_inv h3
      subst e1 e2
      refine ⟨F, head, bl, u.toNat, ?_, ?_, k1, k2, k4, k5, k6, rfl, rfl⟩
      · rw [Int.toNat_of_nonneg k3]
      · unfold osC
        rw [← e3, ← hd, List.take_append_drop]
    · simp at h
  · simp at h
theorem renL_nm {r : Nat → Option Nat} : ∀ {c : List V}, c.all (nonm 6) = true → renL r c = some c := by
  intro c
  induction c with
  | nil => intro _; rfl
  | cons a c ih =>
    intro h
    rw [List.all_cons, Bool.and_eq_true] at h
    have h1 : ren1 r a = some a := by
      have ha := h.1
      unfold ren1
      split
      · simp [nonm] at ha
      · simp [nonm] at ha
      · simp [nonm] at ha
      · rw [if_pos ha]
    simp only [renL, h1, ih h.2]
section
variable {F : List Int} {bl : List Bool} {c : V}
theorem osC_E0 (h : 0 < (osC F bl c).length) : (osC F bl c)[0]'h = .list 1 (ints F) := rfl
theorem osC_E1 (h : 1 < (osC F bl c).length) : (osC F bl c)[1]'h = .fn 146 [] := rfl
theorem osC_El (hb : bl.length = 256) (h : 258 < (osC F bl c).length) : (osC F bl c)[258]'h = c := (List.getElem?_eq_some_iff.1 (osC_l hb)).2
theorem osC_Ef (hb : bl.length = 256) {u : Nat} (hu : u < 256) (h : 2 + u < (osC F bl c).length) : (osC F bl c)[2 + u]'h = .bool (bl[u]?.getD false) := (List.getElem?_eq_some_iff.1 (osC_f hb hu)).2
end
def btB (b : List Bool) (u : Nat) : Bool := b[u]?.getD false
theorem ln_i_ordC (n : Nat) : LendOk Try.prog 217 0 (G_i_ordC n) := by
  induction n with
  | zero =>
    refine ⟨callable_of code_i_ordComplete, fun args cells r cells' hG => ?_⟩
    obtain ⟨_, _, _, _, _, _, _, _, _, _, h, _⟩ := G_i_ordC_inv hG
    exact absurd h (Nat.not_lt_zero _)
  | succ n ih =>
  have env := ((envNil_ok (P := Try.prog)).add fn_i_shellFits).addl ih
  refine fn_lend2 code_i_ordComplete mixed env ?_
  intro args cells r cells' hG _
  obtain ⟨F, head, bl, u, rfl, rfl, hF, ho, hu, hb, hn, rfl, rfl⟩ := G_i_ordC_inv hG
  clear hG
  refine ⟨by simp, fun w0 U0 L0 N0 => ?_⟩
  have hul := used_lt hF hu
  have hb0 := hb.1
  have h8 := hF.l
  have hho := ho.1
  have hhS := shOk_allS hF.s ho
  have foldR : ∀ (T : Tm) (b : List Bool) (hd : List Int) (v : V), b.length = 256 → tget T 4 = v → SubI 1 T ([(1, ints hd), (0, osC F b (.sl 1 1 0 hd.length))], 2) [(4, v)] ([(0, osC F b (.own 1 (ints hd)))], 2) := fun T b hd v hbl hv => by
    refine SubI.fold 0 1 258 1 hd.length (cn := ints hd) (co := osC F b (.sl 1 1 0 hd.length)) rfl rfl (osC_l hbl) (by simp) ?_
    exact SubI.slots (by simp [hset, hdel, osC_setl hbl]) (by simp [hv])
  have nmO : ∀ (b : List Bool) (hd : List Int), (osC F b (.own 1 (ints hd))).all (nonm 6) = true := fun b hd => by rw [osC_nm]; simp [nonm]
  have foldL : ∀ (T : Tm) (b : List Bool) (hd : List Int) (i : Nat), b.length = 256 → subE T [(0, .pt 0 0), (1, .int .i64 (u : Int)), (27, .list 1 (ints F)), (28, .int .i64 (F.length : Int)), (29, .int .i64 (i : Int))] →
      SubI 1 T ([(1, ints hd), (0, osC F b (.sl 1 1 0 hd.length))], 2) [(0, .pt 0 0), (1, .int .i64 (u : Int)), (27, .list 1 (ints F)), (28, .int .i64 (F.length : Int)), (29, .int .i64 (i : Int))] ([(0, osC F b (.own 1 (ints hd)))], 1) := fun T b hd i hbl hT => by
    refine SubI.fold 0 1 258 1 hd.length (cn := ints hd) (co := osC F b (.sl 1 1 0 hd.length)) rfl rfl (osC_l hbl) (by simp) ?_
    simp only [subE_cons, subE_nil, and_true] at hT
    obtain ⟨t1, t2, t3, t4, t5⟩ := hT
    refine SubI.ren (fun q => if q = 0 then some 0 else none) ?_ ?_ ?_ (by simp) (by simp)
    · simp [subT, renV, ren1, ← t1, ← t2, ← t3, ← t4, ← t5]
    · simp [hset, hdel, osC_setl hbl, subH, renL_nm (nmO b hd)]
    · intro q hq
      simp only at hq
      rw [if_neg (by omega)]
  have hcutL : ∀ (T : Tm) (b : List Bool), b.length = 256 → SubI 1 T ([(0, osC F b (.own 1 (ints head)))], 1) T ([(1, ints head), (0, osC F b (.sl 1 1 0 head.length))], 2) := fun T b hbl => by
    refine SubI.unfold 0 258 1 (co := osC F b (.own 1 (ints head))) (cn := ints head) rfl (osC_l hbl) (by omega) ?_
    have e : (hset [(0, osC F b (.own 1 (ints head)))] 0 ((osC F b (.own 1 (ints head))).set 258 (.sl 1 1 0 ((ints head).length / 1)))) = [(0, osC F b (.sl 1 1 0 head.length))] := by simp [hset, osC_setl hbl]
    rw [e]
    exact ⟨Sub.refl 1 _ _⟩
  have l1 : ∀ (b : List Bool) (c : V), b.length = 256 → (osC F b c).length = 259 := fun b c h => osC_len h
  have g0 : ∀ (b : List Bool) (c : V) (h : 0 < (osC F b c).length), (osC F b c)[0]'h = .list 1 (ints F) := fun b c h => osC_E0 h
  have g1 : ∀ (b : List Bool) (c : V) (h : 1 < (osC F b c).length), (osC F b c)[1]'h = .fn 146 [] := fun b c h => osC_E1 h
  have gl : ∀ (b : List Bool) (c : V) (hb : b.length = 256) (h : 258 < (osC F b c).length), (osC F b c)[258]'h = c := fun b c hb h => osC_El hb h
  have gf : ∀ (b : List Bool) (c : V) (hb : b.length = 256) (h : 2 + u < (osC F b c).length), (osC F b c)[2 + u]'h = .bool (btB b u) := fun b c hb h => osC_Ef hb hul h
  have hu64 : (u : Int) < 256 := by omega
  have h2u : 2 + u < 259 := by omega
  have gq : ∀ (b : List Bool) (c : V), b.length = 256 → (osC F b c)[2 + u]? = some (.bool (btB b u)) := fun b c h => osC_f h hul
  have nmA : ∀ (b : List Bool) (hd : List Int) (x : V), x ∈ osC F b (.own 1 (ints hd)) → nonm 6 x = true := fun b hd x hx => List.all_eq_true.1 (nmO b hd) x hx
  simp -implicitDefEqProofs [sc_i_ordComplete]
  refine CutI.of (hcutL _ bl hb0) ?_
  by_cases hf : head.length = F.length
  · have he := sh_full hf ho
    rw [dec_true he, ocF_stop (.inl hf), shR_yes he, shO_full hf he]
    simp -implicitDefEqProofs [l1, g0, gl, hb0, hf]
    rw [← hf]
    refine foldE_of (foldR _ bl head (.bool true) hb0 rfl) ?_
    simp
    exact nmA bl head
  have hne : ¬ ((head.length : Int) = (F.length : Int)) := by omega
  have hlt : head.length < F.length := by omega
  cases hbu : btB bl u with
  | true =>
    have hno := hb.2 head u ho hu hbu
    rw [dec_false hno, ocF_stop (.inr hbu), shR_no hno]
    simp -implicitDefEqProofs [l1, g0, gl, gq, gf, hb0, hne, hul, hu64, h2u, hbu]
    repeat' (first | omega | apply And.intro)
    refine foldE_of (foldR _ bl head (.bool false) hb0 rfl) ?_
    simp
    exact nmA bl head
  | false =>
  have hgo : ¬ (head.length = F.length ∨ bl[u]?.getD false = true) := by
    rintro (h | h)
    · omega
    · have h2 : btB bl u = true := h
      rw [hbu] at h2
      simp at h2
  have hhit := fun (i : Nat) h1 h2 h3 => ocF_hit (n := n) (F := F) (head := head) (u := u) (bl := bl) (i := i) hgo h1 h2 h3
  have hmiss := fun h => ocF_miss (n := n) (F := F) (head := head) (u := u) (bl := bl) hgo h
  have hstep := fun (k : Nat) h1 h2 h3 => shO_step (F := F) (head := head) (k := k) hF h1 h2 h3
  have hEn := fun h => sh_none (F := F) (head := head) hF.s hlt h
  have hlm := fun i hi => lpF_mem (rc := ocF F n) hF ho hlt hu hb (fun v h b k1 k2 _ k3 => ocF_mem hF n v h b k1 k2 k3) i hi
  have hly := fun (i : Nat) h => lpF_yes (F := F) (head := head) (u := u) (rc := ocF F n) (bl := bl) (i := i) h
  have hln := fun (i : Nat) h => lpF_no (F := F) (head := head) (u := u) (rc := ocF F n) (bl := bl) (i := i) h
  have hl0 : lpF F head u (ocF F n) bl 0 = bl := rfl
  generalize hlp : lpF F head u (ocF F n) bl = lp at *
  clear hlp
  generalize hX : dec (exD (shD F) head) = X
  generalize hY : shR F head = Y
  generalize hZ : ocF F (n + 1) u head bl = Z at *
  simp -implicitDefEqProofs [l1, g0, gl, gq, gf, hb0, hne, hul, hu64, h2u, hbu]
  repeat' (first | omega | apply And.intro)
  refine loopI env mixed (fun i : Nat => [(0, .pt 0 0), (1, .int .i64 (u : Int)), (27, .list 1 (ints F)), (28, .int .i64 (F.length : Int)), (29, .int .i64 (i : Int))]) (fun i => ([(0, osC F (lp i) (.own 1 (ints head)))], 1)) (fun i => i ≤ F.length ∧ ∀ j, j < i → ¬ exD (shD F) (head ++ [at0 F j])) (fun i => F.length - i) 0 ⟨by omega, fun j hj => by omega⟩ (by
    rw [hl0]
    exact foldL _ bl head 0 hb0 (by simp)) ?_
  rintro i ⟨hi, hI⟩
  have hlpl := (hlm i hi).1
  by_cases hiF : i < F.length
  rotate_left
  · have : i = F.length := by omega
    subst this
    have hno := hEn hI
    have hno' := hmiss hno
    rw [dec_false hno] at hX
    rw [shR_no hno] at hY
    subst hX hY
    have hst : (osC F (lp F.length) (.own 1 (ints head))).set (2 + u) (.bool true) = osC F Z (.own 1 (ints head)) := by rw [osC_setf hlpl hul, hno']
    simp -implicitDefEqProofs [sc_i_ordComplete_L0, l1, hlpl, hul, hu64, h2u, hst]
    repeat' (first | omega | apply And.intro)
    refine foldE_id ?_
    simp
    exact nmA _ head
  have hsF : at0 F i ∈ F := getD_mem' hiF
  have hsS := hF.s _ hsF
  have hu64k : IntKind.u64.wrap (i : Int) = i := wrapU _ (by omega) (by omega)
  have hmb : min i IntKind.i64.bits = i := by simp only [IntKind.bits]; omega
  obtain ⟨w1, hw1⟩ : ∃ w1 : Int, w1 = ((u / 2 ^ i : Nat) : Int) := ⟨_, rfl⟩
  have hfd : (u : Int).fdiv (2 ^ i) = w1 := by
    rw [hw1, Int.fdiv_eq_ediv_of_nonneg _ (by have := Int.natCast_nonneg (2 ^ i); simpa using this)]
    simp
  obtain ⟨v1, hv1⟩ : ∃ v1 : Int, v1 = ((u / 2 ^ i % 2 : Nat) : Int) := ⟨_, rfl⟩
  have hle : u / 2 ^ i ≤ u := Nat.div_le_self ..
  have hbv : bitop .and .i64 w1 1 = v1 := by
    rw [hw1, hv1, show (1 : Int) = ((1 : Nat) : Int) from rfl, bits_and _ 1 (by omega) (by omega), Nat.and_one_is_mod]
  have hvt : v1 = 1 ↔ at0 F i ∈ head := by
    rw [← hu.2 i hiF, Nat.testBit_eq_decide_div_mod_eq, decide_eq_true_iff, hv1]
    omega
  clear hw1 hv1 hle
  have hFs : F_i_shellFits [.list 1 (ints head), .int .i64 (at0 F i)] = some (.bool (dec (fitsI head (at0 F i)))) := by
    simp only [F_i_shellFits, F2_mk, dL_list, dI_int, Option.bind_some]
    rw [if_pos ⟨hhS, hsS⟩]
  have hcutB : ∀ (T : Tm), subE T [(0, .pt 0 0), (1, .int .i64 (u : Int)), (27, .list 1 (ints F)), (28, .int .i64 (F.length : Int)), (29, .int .i64 (i : Int)), (5, .int .i64 (i : Int)), (6, .int .i64 (at0 F i))] →
      SubI 1 T ([(0, osC F (lp i) (.own 1 (ints head)))], 1) [(0, .pt 0 0), (1, .int .i64 (u : Int)), (27, .list 1 (ints F)), (28, .int .i64 (F.length : Int)), (29, .int .i64 (i : Int)), (5, .int .i64 (i : Int)), (6, .int .i64 (at0 F i))] ([(1, ints head), (0, osC F (lp i) (.sl 1 1 0 head.length))], 2) := fun T hT => (hcutL T (lp i) hlpl).trans (SubI.slots rfl hT)
  simp -implicitDefEqProofs [sc_i_ordComplete_L0, hiF]
  refine ⟨by omega, CutI.of (hcutB _ (by simp)) ?_⟩
  by_cases hmem : at0 F i ∈ head
  · have hv := hvt.2 hmem
    have hno : ¬ exD (shD F) (head ++ [at0 F i]) := fun h => (sh_set h).2.2.1 hmem
    have hnx := shn_lt hI hno
    have e := hln i fun h => h.1 hmem
    rw [← e]
    rw [← e] at hlpl
    simp -implicitDefEqProofs [hu64k, hmb, hfd, hbv, hv]
    exact Again.of (i + 1) ⟨by omega, hnx⟩ (by omega) (foldL _ _ head (i + 1) hlpl (by simp (disch := omega) [wrapI]))
  have hv : ¬ v1 = 1 := fun h => hmem (hvt.1 h)
  by_cases hfit : fitsI head (at0 F i)
  rotate_left
  · have hno : ¬ exD (shD F) (head ++ [at0 F i]) := fun h => hfit (sh_set h).2.2.2
    have hnx := shn_lt hI hno
    have e := hln i fun h => hfit h.2
    rw [dec_false hfit] at hFs
    rw [← e]
    rw [← e] at hlpl
    simp -implicitDefEqProofs [hu64k, hmb, hfd, hbv, hv, l1, g1, gl, hlpl, hFs]
    repeat' (first | omega | apply And.intro)
    exact Again.of (i + 1) ⟨by omega, hnx⟩ (by omega) (foldL _ _ head (i + 1) hlpl (by simp (disch := omega) [wrapI]))
  rw [dec_true hfit] at hFs
  have ho2 : shOk F (head ++ [at0 F i]) := shOk_snoc ho hlt hsF hmem hfit
  have hu2 := used_snoc hF hu hiF
  have hG := G_i_ordC_at (n := n) hF ho2 hu2 (hlm i hi) (by simp; omega)
  rw [← hly i ⟨hmem, hfit⟩] at hG
  have hlp2 := (hlm (i + 1) (by omega)).1
  have hsh : IntKind.i64.wrap (2 ^ i) = 2 ^ i := by
    have : ∀ i : Nat, i < 8 → IntKind.i64.wrap (2 ^ i) = 2 ^ i := by decide +kernel
    exact this i (by omega)
  have hor : bitop .or .i64 (u : Int) (2 ^ i) = ((u ||| 2 ^ i : Nat) : Int) := by
    have h1 : 2 ^ i < 2 ^ 8 := Nat.pow_lt_pow_right (by omega) (by omega)
    rw [← bits_or u (2 ^ i) (by omega) (by omega)]
    simp
  generalize (u ||| 2 ^ i) = u2 at *
  have hsn : ints head ++ [V.int .i64 (at0 F i)] = ints (head ++ [at0 F i]) := by rw [← ints_app]; rfl
  have hnl : (head ++ [at0 F i]).length = head.length + 1 := by simp
  have hts : (head ++ [at0 F i]).take head.length = head := by simp
  have hgs : ∀ (c d : V), (osC F (lp i) c).set 258 d = osC F (lp i) d := fun c d => osC_setl hlpl d
  have hnx := shn_lt (k := i) hI
  have hstp := fun he => hstep i hiF he hI
  have hht := fun he => hhit i hiF he hI
  simp -implicitDefEqProofs [hu64k, hmb, hfd, hbv, hv, l1, g1, gl, hlpl, hFs, hsn, hgs]
  refine ⟨by omega, CutI.of (l' := [(0, .pt 0 0), (1, .int .i64 (u : Int)), (27, .list 1 (ints F)), (28, .int .i64 (F.length : Int)), (29, .int .i64 (i : Int)), (5, .int .i64 (i : Int)), (6, .int .i64 (at0 F i))]) (s' := ([(0, osC F (lp i) (.own 1 (ints (head ++ [at0 F i]))))], 1)) ?_ ?_⟩
  · refine SubI.fold 0 3 258 1 (head.length + 1) (cn := ints (head ++ [at0 F i])) (co := osC F (lp i) (.sl 3 1 0 (head.length + 1))) rfl rfl (osC_l hlpl) (by simp) ?_
    refine SubI.ren (fun q => if q = 0 then some 0 else none) ?_ ?_ ?_ (by simp) (by simp)
    · simp [subT, renV, ren1]
    · simp [hset, hdel, hgs, subH, renL_nm (nmO (lp i) (head ++ [at0 F i]))]
    · intro q hq
      simp only at hq
      rw [if_neg (by omega)]
  have nmB : ∀ (b : List Bool) (hd : List Int), (osC F b (.own 1 (ints hd))).all (nonm 6) = true := nmO
  by_cases he : exD (shD F) (head ++ [at0 F i])
  · obtain ⟨e1, e2⟩ := hstp he
    have e3 := hht he
    rw [dec_true he, shR_yes he] at hG
    rw [dec_true e1] at hX
    rw [shR_yes e1, e2] at hY
    subst hX hY e3
    generalize head ++ [at0 F i] = nx at *
    generalize shO F nx = O at *
    simp -implicitDefEqProofs [-List.all_eq_true, hu64k, hmb, hsh, hor, hG, nmB, ren0]
    refine foldE_id ?_
    simp
    exact nmA _ O
  · rw [dec_false he, shR_no he] at hG
    have hX2 := hnx he
    generalize hnxe : head ++ [at0 F i] = nx at *
    simp -implicitDefEqProofs [-List.all_eq_true, hu64k, hmb, hsh, hor, hG, nmB, ren0]
    have hg2 : ∀ (c d : V), (osC F (lp (i + 1)) c).set 258 d = osC F (lp (i + 1)) d := fun c d => osC_setl hlp2 d
    refine CutI.of (l' := [(0, .pt 0 0), (1, .int .i64 (u : Int)), (27, .list 1 (ints F)), (28, .int .i64 (F.length : Int)), (29, .int .i64 (i : Int))]) (s' := ([(1, ints nx), (0, osC F (lp (i + 1)) (.sl 1 1 0 (head.length + 1)))], 2)) ?_ ?_
    · refine SubI.unfold 0 258 1 (co := osC F (lp (i + 1)) (.own 1 (ints nx))) (cn := ints nx) rfl (osC_l hlp2) (by omega) ?_
      exact SubI.slots (by simp [hset, hg2, hnl]) (by simp)
    have hw2 : IntKind.i64.wrap (head.length : Int) = (head.length : Int) := wrapI _ (by omega) (by omega)
    simp -implicitDefEqProofs [l1, gl, hlp2, hg2, hw2, hnl]
    repeat' (first | omega | apply And.intro)
    refine Again.of (i + 1) ⟨by omega, hX2⟩ (by omega) ?_
    refine SubI.shrink 1 head.length (cn := ints nx) rfl (nums_ints nx) ?_
    have e0 : (hset [(1, ints nx), (0, osC F (lp (i + 1)) (.sl 1 1 0 head.length))] 1 ((ints nx).take head.length)) = [(1, ints head), (0, osC F (lp (i + 1)) (.sl 1 1 0 head.length))] := by simp [hset, hts]
    rw [e0]
    exact foldL _ _ head (i + 1) hlp2 (by simp (disch := omega) [wrapI])
end Go.Proofs.Ytmemomfffehnkaa
