/- Calls that write into a row of the caller's; one theorem for all operations. -/
import Derived.Test.YtedampaecopkhaaAbsK
namespace Go.Proofs.Ytedampaecopkhaa
open Go Go.RowKit

section
variable {N : Nm} {U : Nat → Prop} {w : World}
/-- A value without names does not care for names; and may read more. -/
theorem nonm_ok {N' : Nm} {U' : Nat → Prop} (hU : ∀ b, U b → U' b) : ∀ (k : Nat) (v : V) (c : Value) (F : List Nat), nonm k v = true → RV N U w v c F → RV N' U' w v c F := by
  intro k
  induction k with
  | zero => intro v c F hn h; simp [nonm] at hn
  | succ k ih =>
    intro v c F hn h
    have sub : ∀ (cells : List V), cells.all (nonm k) = true → ∀ (cs : List Value) (G : List Nat), RVs N U w cells cs G → RVs N' U' w cells cs G := by
      intro cells hc cs G hv
      exact hv.mapN fun v c G' hm hr => ih v c G' (List.all_eq_true.1 hc v hm) hr
    cases h with
    | undef => exact .undef _
    | int => exact .int _ _
    | bool => exact .bool _
    | str => exact .str _
    | nil => exact .nil
    | listE => exact .listE _ _ _
    | list sz cells b o len cap cs hUb hl hlc hm hz hc hv => exact .list sz cells b o len cap cs (hU b hUb) hl hlc hm hz hc (sub cells (by simpa [nonm] using hn) cs [] hv)
    | ownE => exact .ownE _
    | own sz cells b o len cap arr e cs F _ hb hl hs hlc hm hz hc hv hF =>
      exact .own sz cells b o len cap arr e cs F _ hb hl hs hlc hm hz hc (sub cells (by simpa [nonm] using hn) cs F hv) hF
    | agg parts cs F hv => exact .agg _ cs F (sub parts (by simpa [nonm] using hn) cs F hv)
    | tup parts cs F hv => exact .tup _ cs F (sub parts (by simpa [nonm] using hn) cs F hv)
    | sl => simp [nonm] at hn
    | slE => simp [nonm] at hn
    | slZ => simp [nonm] at hn
    | pt => simp [nonm] at hn
    | rp cells b o cs hUb hc hv => exact .rp cells b o cs (hU b hUb) hc (sub cells (by simpa [nonm] using hn) cs [] hv)
    | fn f caps cs hv => exact .fn f caps cs (sub caps (by simpa [nonm] using hn) cs [] hv)
theorem RVs.mapS {N' : Nm} {g : V → V} {vs : List V} {cs : List Value} {F : List Nat} (h : RVs N U w vs cs F) (hg : ∀ v c G, v ∈ vs → RV N U w v c G → RV N' U w (g v) c G) : RVs N' U w (vs.map g) cs F := by
  induction vs generalizing cs F with
  | nil => cases h; exact .nil
  | cons v vs ih =>
    cases h with
    | cons _ _ c cs F Fs _ h hs hE => exact .cons _ _ _ _ F Fs _ (hg _ _ _ (by simp) h) (ih hs (fun v c G hv hr => hg v c G (by simp [hv]) hr)) hE
/-- Name 0 becomes 'n'. -/
theorem ren0_ok {l : Loc} {n : Nat} {N' : Nm} (hn : N' n = some l) : ∀ (k : Nat) (v : V) (c : Value) (F : List Nat), nolist k v = true → RV (fun m => if m = 0 then some l else none) U w v c F → RV N' U w (ren0 n k v) c F := by
  have nm : ∀ {m : Nat} {q : Loc}, (fun m => if m = 0 then some l else none : Nm) m = some q → m = 0 ∧ q = l := by
    intro m q h
    simp only at h
    split at h
    · rename_i e; exact ⟨e, by simpa using h.symm⟩
    · cases h
  intro k
  induction k with
  | zero => intro v c F hn h; simp [nolist] at hn
  | succ k ih =>
    intro v c F hl h
    have sub : ∀ (cells : List V), cells.all (nolist k) = true → ∀ (cs : List Value) (G : List Nat), RVs (fun m => if m = 0 then some l else none) U w cells cs G → RVs N' U w (cells.map (ren0 n k)) cs G := by
      intro cells hc cs G hv
      exact hv.mapS fun v c G' hm hr => ih v c G' (List.all_eq_true.1 hc v hm) hr
    cases h with
    | undef => exact .undef _
    | int => exact .int _ _
    | bool => exact .bool _
    | str => exact .str _
    | nil => exact .nil
    | listE => exact .listE _ _ _
    | list => simp [nolist] at hl
    | ownE => exact .ownE _
    | own sz cells b o len cap arr e cs F _ hb hl' hs hlc hm hz hc hv hF =>
      exact .own sz _ b o len cap arr e cs F _ hb (by simpa using hl') hs hlc hm hz hc (sub cells (by simpa [nolist] using hl) cs F hv) hF
    | agg parts cs F hv => exact .agg _ cs F (sub parts (by simpa [nolist] using hl) cs F hv)
    | tup parts cs F hv => exact .tup _ cs F (sub parts (by simpa [nolist] using hl) cs F hv)
    | sl m sz off len b base cap arr e fz h1 hb hs hlc hm hz =>
      obtain ⟨rfl, h2⟩ := nm h1
      simp only [ren0, if_true]
      exact .sl n sz off len b base cap arr e fz (by rw [hn, h2]) hb hs hlc hm hz
    | slE m sz h1 =>
      obtain ⟨rfl, h2⟩ := nm h1
      simp only [ren0, if_true]
      exact .slE n sz (by rw [hn, h2])
    | slZ m sz off b base o arr e fz h1 hb ho hz =>
      obtain ⟨rfl, h2⟩ := nm h1
      simp only [ren0, if_true]
      exact .slZ n sz off b base o arr e fz (by rw [hn, h2]) hb ho hz
    | pt m off b base h1 =>
      obtain ⟨rfl, h2⟩ := nm h1
      simp only [ren0, if_true]
      exact .pt n off b base (by rw [hn, h2])
    | rp => simp [nolist] at hl
    | fn => simp [nolist] at hl
end

section
variable {P : Program} {w0 : World} {U0 : Nat → Prop} {L0 : List Nat} {N0 : Nm} {k0 nt : Nat} {t : Nat → V} {s : Hp} {N : Nm} {T : List Nat} {a : Act} {w : World}

/-- Behind a call that writes into the row of name 'n'. -/
theorem RS.lent (h : RS w0 U0 L0 N0 k0 nt t s N T a w) {dst : Option Nat} (hd : ∀ d, dst = some d → d < nt) {n : Nat} {cells cells' : List V} (hg : hget s.1 n = some cells) {l : Loc} (hl : N n = some l) {X T1 : List Nat}
    (h2 : RH N (Un w0 U0 w T) w (hdel s.1 n) T1) (h3 : T.Perm (X ++ T1)) {w' : World} {c : Value} {F T' : List Nat} {r : V} (hnl : nolist 6 r = true) (hnm : cells'.all (nonm 6) = true) {Ul : Nat → Prop}
    (hnd : (F ++ T').Nodup) (hsub : ∀ b ∈ F ++ T', b ∈ X ∨ (w.heap.size ≤ b ∧ b < w'.heap.size))
    (hr : RV (fun m => if m = 0 then some l else none) Ul w' r c F) (hh : RH (fun m => if m = 0 then some l else none) Ul w' [(0, cells')] T')
    (hq : cells'.all (nolist 6) = true ∨ ∀ b, Ul b → Un w0 U0 w T b ∨ (w.heap.size ≤ b ∧ b < w'.heap.size ∧ b ∉ F ++ T')) (hk : KeepBut X w w') :
    ∃ N' T2, RS w0 U0 L0 N0 k0 nt (upd t dst (opn 6 (ren0 n 6 r) (hset s.1 n cells', s.2)).1) (opn 6 (ren0 n 6 r) (hset s.1 n cells', s.2)).2 N' T2 (a.put dst c) w' := by
  have hTlt := h.hp.lt
  have hmem : ∀ x, x ∈ T ↔ x ∈ X ++ T1 := fun x => h3.mem_iff
  have hndT : (X ++ T1).Nodup := h3.nodup_iff.1 h.nd
  have hXT : ∀ x ∈ X, x ∈ T := fun x hx => (hmem x).2 (by simp [hx])
  have hT1T : ∀ x ∈ T1, x ∈ T := fun x hx => (hmem x).2 (by simp [hx])
  have hXT1 : ∀ x ∈ X, x ∉ T1 := fun x hx hx' => (List.nodup_append.1 hndT).2.2 x hx x hx' rfl
  have hFT1 : ∀ x ∈ F ++ T', x ∉ T1 := fun x hx hx' => by
    rcases hsub x hx with hx2 | hx2
    · exact hXT1 x hx2 hx'
    · have := hTlt x (hT1T x hx'); omega
  -- the blocks that may be read behind the call
  let U2 : Nat → Prop := fun b => b < w'.heap.size ∧ b ∉ T1 ∧ b ∉ F ++ T' ∧ (U0 b ∨ w0.heap.size ≤ b)
  have k1 : Kept N N (Un w0 U0 w T) U2 w w' := by
    refine ⟨fun b hU => ⟨hk.block b hU.1 (fun hx => hU.2.1 (hXT b hx)), Nat.lt_of_lt_of_le hU.1 hk.size, fun hx => hU.2.1 (hT1T b hx), fun hx => ?_, hU.2.2⟩, fun _ _ h => h, fun m b base hm arr e fz hb => hk.shape b (heap_lt hb) arr e fz hb⟩
    rcases hsub b hx with hx | hx
    · exact hU.2.1 (hXT b hx)
    · have := hU.1; omega
  have g2 : RH N U2 w' (hdel s.1 n) T1 := h2.kept k1 (fun x hx => hk.block x (hTlt x (hT1T x hx)) (fun hX => hXT1 x hX hx))
  -- the row that was lent
  obtain ⟨Y, T0, e1, e2, e3⟩ := hh.pop
  have hT0 : T0 = [] := by cases e2; rfl
  subst hT0
  simp only [List.append_nil] at e3
  subst e3
  have hent : Ent N U2 w' n cells' T' := by
    have hcv : ∀ cs G, RVs (fun m => if m = 0 then some l else none) Ul w' cells' cs G → RVs N U2 w' cells' cs G := by
      intro cs G hv
      rcases hq with hq | hq
      · have v1 : RVs (fun m => if m = 0 then some l else none) U2 w' cells' cs G := hv.mapN fun v c G' hm hr => nolist_ok (fun _ _ h => h) 6 v c G' (List.all_eq_true.1 hq v hm) hr
        exact v1.mapN fun v c G' hm hr => nonm_ok (fun _ h => h) 6 v c G' (List.all_eq_true.1 hnm v hm) hr
      · refine hv.mapN fun v c G' hm hr => nonm_ok (fun b hb => ?_) 6 v c G' (List.all_eq_true.1 hnm v hm) hr
        rcases hq b hb with hb | hb
        · refine ⟨Nat.lt_of_lt_of_le hb.1 hk.size, fun hx => hb.2.1 (hT1T b hx), fun hx => ?_, hb.2.2⟩
          rcases hsub b hx with hx | hx
          · exact hb.2.1 (hXT b hx)
          · have := hb.1; omega
        · exact ⟨hb.2.1, fun hx => by have := hTlt b (hT1T b hx); omega, hb.2.2, .inr (Nat.le_trans h.fr.size hb.1)⟩
    rcases e1 with ⟨q1, rfl, rfl⟩ | ⟨b, base, arr, e, cs, G, q1, q2, q3, q4, rfl⟩
    · exact .inl ⟨by simp at q1; rw [hl, q1], rfl, rfl⟩
    · exact .inr ⟨b, base, arr, e, cs, G, by simp at q1; rw [hl, q1], q2, q3, hcv cs G q4, rfl⟩
  obtain ⟨T3, i1, i2⟩ := RH.ins hg g2 hent
  have hr2 : RV N U2 w' (ren0 n 6 r) c F := ren0_ok hl 6 r c F hnl (nolist_ok (fun _ _ h => h) 6 r c F hnl hr)
  obtain ⟨N', T4, D, a1, a2, a3, a4, a5, a6, a7⟩ := opn_ok 6 (ren0 n 6 r) c F N (hset s.1 n cells', s.2) T3 hr2 i1 h.nx
  have hm4 : ∀ x ∈ T4, x ∈ F ++ T' ∨ x ∈ T1 := fun x hx => by
    have p := a7.mem_iff (a := x)
    simp only [List.mem_append] at p
    rcases p.1 (.inl hx) with hx | hx
    · exact .inl (by simp [hx])
    · rcases List.mem_append.1 (i2.mem_iff.1 hx) with hx | hx
      · exact .inl (by simp [hx])
      · exact .inr hx
  have hU4 : ∀ b, U2 b → Un w0 U0 w' T4 b := fun b hb => ⟨hb.1, fun hm => (hm4 b hm).elim hb.2.2.1 hb.2.1, hb.2.2.2⟩
  have k2 : Kept N' N' U2 (Un w0 U0 w' T4) w' w' := kept_refl N' w' hU4
  have k3 : Kept N N' (Un w0 U0 w T) (Un w0 U0 w' T4) w w' := ⟨fun b hb => ⟨(k1.u b hb).1, hU4 b (k1.u b hb).2⟩, a1, k1.s⟩
  refine ⟨N', T4, h.step hd k3 (a5.kept k2 (by simp)) (a6.kept k2 (fun _ _ => rfl)) ?_ ?_ ?_ a2 a4 a3⟩
  · have n1 : (F ++ T3).Nodup := by
      have p : (F ++ T3).Perm (F ++ (T' ++ T1)) := i2.append_left F
      rw [p.nodup_iff, ← List.append_assoc, List.nodup_append]
      exact ⟨hnd, (List.nodup_append.1 hndT).2.1, fun x hx y hy e => hFT1 x hx (e ▸ hy)⟩
    exact (List.nodup_append.1 (a7.nodup_iff.2 n1)).1
  · intro b hb
    rcases hm4 b hb with hx | hx
    · rcases hsub b hx with hx | hx
      · exact h.own b (hXT b hx)
      · exact .inr (Nat.le_trans h.fr.size hx.1)
    · exact h.own b (hT1T b hx)
  · refine ⟨hk.os.trans h.fr.os, hk.tape.trans h.fr.tape, hk.output.trans h.fr.output, Nat.le_trans h.fr.size hk.size, fun i hi hL => ?_, fun i hi arr e fz hb => ?_⟩
    · refine (hk.block i (Nat.lt_of_lt_of_le hi h.fr.size) (fun hx => ?_)).trans (h.fr.block i hi hL)
      rcases h.own i (hXT i hx) with ho | ho
      · exact hL ho
      · omega
    · obtain ⟨arr1, e1, fz1, q1, q2⟩ := h.fr.shape i hi arr e fz hb
      obtain ⟨arr2, e2, fz2, q3, q4⟩ := hk.shape i (Nat.lt_of_lt_of_le hi h.fr.size) arr1 e1 fz1 q1
      exact ⟨arr2, e2, fz2, q3, q4.trans q2⟩

/-- The arguments of such a call. -/
theorem lend_args (h : RS w0 U0 L0 N0 k0 nt t s N T a w) {n : Nat} {l : Loc} {T1 : List Nat} (h2 : RH N (Un w0 U0 w T) w (hdel s.1 n) T1) {U' : Nat → Prop} (hU : ∀ b, Un w0 U0 w T b → U' b)
    {os : List Operand} {xs : List Opd} (hc : compOpds os = some xs) {i : Nat} (hT1 : (∀ b ∈ T1, U' b) ∨ ((xs.eraseIdx i).all fun x => noname 6 (x.ev t)) = true) {v : V} {cv : Value} (hi : (os[i]?).map a.eval = some cv)
    (hv : RV (fun m => if m = 0 then some l else none) U' w v cv []) : RVs (fun m => if m = 0 then some l else none) U' w ((xs.map fun x => dr (hdel s.1 n) 6 (x.ev t)).set i v) (os.map a.eval) [] := by
  induction os generalizing xs i with
  | nil => simp at hi
  | cons o os ih =>
    unfold compOpds at hc
    split at hc
    · rename_i x xs' c1 c2
      simp only [Option.some.injEq] at hc
      subst hc
      have lift : ∀ v c, RV (fun _ => none) U' w v c [] → RV (fun m => if m = 0 then some l else none) U' w v c [] := fun v c hr => hr.kept ⟨fun b hb => ⟨rfl, hb⟩, by simp, by simp⟩ (by simp)
      have lifts : ∀ vs cs, RVs (fun _ => none) U' w vs cs [] → RVs (fun m => if m = 0 then some l else none) U' w vs cs [] := fun vs cs hr => hr.kept ⟨fun b hb => ⟨rfl, hb⟩, by simp, by simp⟩ (by simp)
      cases i with
      | zero =>
        simp at hi
        subst hi
        simp only [List.map_cons, List.set_cons_zero]
        refine .cons _ _ _ _ [] [] _ hv (lifts _ _ (args_ok h2 hU c2 h.sl 6 ?_)) rfl
        rcases hT1 with hT1 | hT1
        · exact .inl hT1
        · exact .inr (by simpa using hT1)
      | succ i =>
        simp at hi
        simp only [List.map_cons, List.set_cons_succ]
        refine .cons _ _ _ _ [] [] _ (lift _ _ (dr_ok h2 hU 6 _ _ [] ?_ (compOpd_ok c1 h.sl))) (ih c2 ?_ (by simpa using hi)) rfl
        · rcases hT1 with hT1 | hT1
          · exact .inl ⟨hT1, by simp⟩
          · simp only [List.eraseIdx_cons_succ, List.all_cons, Bool.and_eq_true] at hT1
            exact .inr hT1.1
        · rcases hT1 with hT1 | hT1
          · exact .inl hT1
          · simp only [List.eraseIdx_cons_succ, List.all_cons, Bool.and_eq_true] at hT1
            exact .inr hT1.2
    · simp at hc
end
end Go.Proofs.Ytedampaecopkhaa
