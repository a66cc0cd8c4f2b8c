/- One theorem for all operations. -/
import Derived.Test.YtedampaecopkhaaAbsH
namespace Go.Proofs.Ytedampaecopkhaa
open Go Go.RowKit

section
variable {P : Program} {w0 : World} {U0 : Nat → Prop} {L0 : List Nat} {N0 : Nm} {k0 nt : Nat} {t : Nat → V} {s : Hp} {N : Nm} {T : List Nat} {a : Act} {w : World}

theorem RS.step (h : RS w0 U0 L0 N0 k0 nt t s N T a w) {dst : Option Nat} (hd : ∀ d, dst = some d → d < nt) {N' : Nm} {T' : List Nat} {s' : Hp} {w' : World} {v : V} {c : Value}
    (k : Kept N N' (Un w0 U0 w T) (Un w0 U0 w' T') w w') (hv : RV N' (Un w0 U0 w' T') w' v c []) (hh : RH N' (Un w0 U0 w' T') w' s'.1 T') (hnd : T'.Nodup) (hown : ∀ b ∈ T', b ∈ L0 ∨ w0.heap.size ≤ b)
    (hfr : KeepBut L0 w0 w') (hnx : ∀ n, s'.2 ≤ n → N' n = none) (hss : s.2 ≤ s'.2) (hnl : ∀ n, n < s.2 → N' n = N n) : RS w0 U0 L0 N0 k0 nt (upd t dst v) s' N' T' (a.put dst c) w' :=
  ⟨put_size.trans h.tsz, put_dfr.trans h.dfr, slots_put (h.sl.kept k) h.tsz hd hv, hh, hnd, hown, hfr, hnx, fun n hn => (hnl n (Nat.lt_of_lt_of_le hn h.kn)).trans (h.nl n hn), Nat.le_trans h.kn hss, h.lh⟩

/-- Behind a call or a quiet operation. -/
theorem RS.back (h : RS w0 U0 L0 N0 k0 nt t s N T a w) {dst : Option Nat} (hd : ∀ d, dst = some d → d < nt) {w' : World} {F : List Nat} {v : V} {c : Value}
    (hb : Below w.heap.size w w') (hF : Fresh w w' F) (hv : RV N (Uf (Un w0 U0 w T) w w' F) w' v c F) : ∃ N' T', RS w0 U0 L0 N0 k0 nt (upd t dst (opn 6 v s).1) (opn 6 v s).2 N' T' (a.put dst c) w' := by
  have hTlt := h.hp.lt
  have k1 : Kept N N (Un w0 U0 w T) (Uf (Un w0 U0 w T) w w' F) w w' := ⟨fun b hU => ⟨hb.block b hU.1, .inl hU⟩, fun _ _ h => h, fun n b base hn => by
    intro arr e fz hbb
    exact ⟨arr, e, fz, by rw [hb.block b (heap_lt hbb)]; exact hbb, rfl⟩⟩
  obtain ⟨N', T', D, a1, a2, a3, a4, a5, a6, a7⟩ := opn_ok 6 v c F N s T hv (h.hp.kept k1 (fun b hbT => hb.block b (hTlt b hbT))) h.nx
  have hmem : ∀ b ∈ T', b ∈ F ∨ b ∈ T := fun b hbT => by
    have := a7.mem_iff (a := b)
    simp at this
    exact this.1 (.inl hbT)
  have hU : ∀ b, Uf (Un w0 U0 w T) w w' F b → Un w0 U0 w' T' b := by
    intro b hU
    rcases hU with ⟨g1, g2⟩ | ⟨g1, g2, g3⟩
    · refine ⟨Nat.lt_of_lt_of_le g1 hb.size, fun hm => ?_, g2.2⟩
      rcases hmem b hm with hm | hm
      · have := (hF.2 b hm).1; omega
      · exact g2.1 hm
    · refine ⟨g2, fun hm => ?_, .inr (Nat.le_trans h.fr.size g1)⟩
      rcases hmem b hm with hm | hm
      · exact g3 hm
      · have := hTlt b hm; omega
  have k2 : Kept N' N' (Uf (Un w0 U0 w T) w w' F) (Un w0 U0 w' T') w' w' := ⟨fun b hb => ⟨rfl, hU b hb⟩, fun _ _ h => h, fun _ _ _ _ => SameAt.shape rfl⟩
  refine ⟨N', T', h.step hd ?_ (a5.kept k2 (by simp)) (a6.kept k2 (fun _ _ => rfl)) ?_ ?_ (h.fr.trans (below_keep hb L0)) a2 a4 a3⟩
  · exact ⟨fun b hbU => ⟨hb.block b hbU.1, hU b (.inl hbU)⟩, a1, k1.s⟩
  · have hnd : (F ++ T).Nodup := by
      rw [List.nodup_append]
      refine ⟨hF.1, h.nd, fun x hx y hy e => ?_⟩
      subst e
      have := (hF.2 x hx).1
      have := hTlt x hy
      omega
    have := (a7.nodup_iff).2 hnd
    exact (List.nodup_append.1 this).1
  · intro b hbT
    rcases hmem b hbT with hm | hm
    · exact .inr (Nat.le_trans h.fr.size (hF.2 b hm).1)
    · exact h.own b hm
theorem keep_alloc (L : List Nat) (w : World) (o : Obj) : KeepBut L w (w.alloc o) := below_keep (Below.alloc (Below.refl _ _) (Nat.le_refl _) o) L
theorem keep_drew (L : List Nat) (w : World) : KeepBut L w w.drew := below_keep (Below.drew (Below.refl _ _)) L

/-- A new row. -/
theorem RS.new (h : RS w0 U0 L0 N0 k0 nt t s N T a w) {dst : Option Nat} (hd : ∀ d, dst = some d → d < nt) {w1 : World} (hb : Below w.heap.size w w1) (hsz : w1.heap.size = w.heap.size) {arr : Array Value} {e : TypeId} {cells : List V} {cs : List Value}
    (hv : RVs N (Un w0 U0 w T) w cells cs []) (hc : ∀ (j : Nat) (c : Value), cs[j]? = some c → arr[j]? = some c) {v : V} {c : Value}
    (hval : ∀ N' U', N' s.2 = some (some (w.heap.size, 0)) → RV N' U' (w1.alloc (.cells arr e)) v c []) :
    ∃ N' T', RS w0 U0 L0 N0 k0 nt (upd t dst v) ((s.2, cells) :: s.1, s.2 + 1) N' T' (a.put dst c) (w1.alloc (.cells arr e)) := by
  have hTlt := h.hp.lt
  have hb2 : Below w.heap.size w (w1.alloc (.cells arr e)) := hb.alloc (by omega) _
  have hext : ∀ n l', N n = some l' → (fun n => if n = s.2 then some (some (w.heap.size, 0)) else N n) n = some l' := by
    intro n l' h'
    simp only
    split
    · rename_i e'
      rw [e', h.nx _ (Nat.le_refl _)] at h'
      cases h'
    · exact h'
  have k : Kept N (fun n => if n = s.2 then some (some (w.heap.size, 0)) else N n) (Un w0 U0 w T) (Un w0 U0 (w1.alloc (.cells arr e)) (w.heap.size :: T)) w (w1.alloc (.cells arr e)) := by
    refine ⟨fun b hU => ⟨hb2.block b hU.1, ?_, ?_, hU.2.2⟩, hext, fun n b base hn arr' e' fz hbb => ⟨arr', e', fz, by rw [hb2.block b (heap_lt hbb)]; exact hbb, rfl⟩⟩
    · have := hU.1; simp; omega
    · intro hm
      rcases List.mem_cons.1 hm with rfl | hm
      · exact absurd hU.1 (by omega)
      · exact hU.2.1 hm
  have hnew : (w1.alloc (.cells arr e)).heap[w.heap.size]? = some (.cells arr e (0, 0)) := by rw [← hsz]; exact heap_alloc_new w1 _
  refine ⟨fun n => if n = s.2 then some (some (w.heap.size, 0)) else N n, w.heap.size :: T, h.step hd k (hval _ _ (by simp)) ?_ ?_ ?_ (h.fr.trans (below_keep hb2 L0)) ?_ (by simp) ?_⟩
  · refine RH.push (X := [w.heap.size]) (h.hp.kept k (fun b hbT => hb2.block b (hTlt b hbT))) (.inr ⟨w.heap.size, 0, arr, e, cs, [], by simp, hnew, fun j c hj => by rw [Nat.zero_add]; exact hc j c hj, hv.kept k (by simp), rfl⟩)
  · exact List.nodup_cons.2 ⟨fun hm => by have := hTlt _ hm; omega, h.nd⟩
  · intro b hbT
    rcases List.mem_cons.1 hbT with rfl | hm
    · exact .inr h.fr.size
    · exact h.own b hm
  · intro n hn
    show (if n = s.2 then some (some (w.heap.size, 0)) else N n) = none
    have hn' : s.2 + 1 ≤ n := hn
    rw [if_neg (by omega)]
    exact h.nx n (by omega)
  · intro n hn
    show (if n = s.2 then some (some (w.heap.size, 0)) else N n) = N n
    rw [if_neg (by omega)]

theorem cells_ok {cs : List Value} {arr : Array Value} (h : arr.toList = cs) : ∀ (j : Nat) (c : Value), cs[j]? = some c → arr[j]? = some c := by
  intro j c hj
  rw [← h] at hj
  simpa using hj

theorem setRange_get {α : Type} (vs : List α) : ∀ (l : List α) (o j : Nat), o + vs.length ≤ l.length → (setRange l o vs)[j]? = if o ≤ j ∧ j < o + vs.length then vs[j - o]? else l[j]? := by
  induction vs with
  | nil => intro l o j _; simp only [setRange, List.length_nil]; rw [if_neg (by omega)]
  | cons v vs ih =>
    intro l o j h
    simp only [List.length_cons] at h
    simp only [setRange]
    rw [ih (l.set o v) (o + 1) j (by rw [List.length_set]; omega)]
    simp only [List.length_cons]
    by_cases h1 : o + 1 ≤ j ∧ j < o + 1 + vs.length
    · rw [if_pos h1, if_pos (by omega)]
      rw [show j - o = (j - (o + 1)) + 1 by omega, List.getElem?_cons_succ]
    · rw [if_neg h1]
      by_cases h2 : o = j
      · subst h2
        rw [if_pos (by omega), List.getElem?_set_self (by omega)]
        simp
      · rw [List.getElem?_set_ne h2, if_neg (by omega)]
theorem setRange_eq {α : Type} (vs : List α) : ∀ (l : List α) (o : Nat), o + vs.length ≤ l.length → setRange l o vs = l.take o ++ vs ++ l.drop (o + vs.length) := by
  intro l o h
  apply List.ext_getElem?
  intro j
  rw [setRange_get vs l o j h]
  rw [List.append_assoc]
  by_cases h1 : j < o
  · rw [if_neg (by omega), List.getElem?_append_left (by rw [List.length_take]; omega), List.getElem?_take_of_lt h1]
  · rw [List.getElem?_append_right (by rw [List.length_take]; omega), List.length_take, Nat.min_eq_left (by omega)]
    by_cases h2 : j < o + vs.length
    · rw [if_pos (by omega), List.getElem?_append_left (by omega)]
    · rw [if_neg (by omega), List.getElem?_append_right (by omega), List.getElem?_drop]
      congr 1
      omega
/-- A row that has a name is written. -/
theorem RS.row (h : RS w0 U0 L0 N0 k0 nt t s N T a w) {dst : Option Nat} (hd : ∀ d, dst = some d → d < nt) {n : Nat} {cells : List V} (hg : hget s.1 n = some cells) {b base : Nat} (hn : N n = some (some (b, base)))
    {arr arr' : Array Value} {e : TypeId} (hb : w.heap[b]? = some (.cells arr e (0, 0))) (hsz : arr'.size = arr.size) {cells' : List V}
    (hnew : ∀ (cs : List Value) (F : List Nat), (∀ (j : Nat) (c : Value), cs[j]? = some c → arr[base + j]? = some c) → RVs N (Un w0 U0 w T) w cells cs F →
      ∃ cs' F', RVs N (Un w0 U0 w T) w cells' cs' F' ∧ List.Sublist F' F ∧ (∀ (j : Nat) (c : Value), cs'[j]? = some c → arr'[base + j]? = some c)) {v : V} {c : Value} (hv : RV N (Un w0 U0 w T) w v c []) :
    ∃ N' T', RS w0 U0 L0 N0 k0 nt (upd t dst v) (hset s.1 n cells', s.2) N' T' (a.put dst c) (w.setRow b arr') := by
  obtain ⟨X, T1, h1, h2, h3⟩ := h.hp.del hg
  rcases h1 with ⟨g1, _⟩ | ⟨b', base', arr0, e0, cs, F, g1, g2, g3, g4, rfl⟩
  · rw [hn] at g1; simp at g1
  · rw [hn] at g1
    simp at g1
    obtain ⟨rfl, rfl⟩ := g1
    rw [hb] at g2
    simp at g2
    obtain ⟨rfl, rfl⟩ := g2
    obtain ⟨cs', F', k1, k2, k3⟩ := hnew cs F g3 g4
    have hnd : (b :: F ++ T1).Nodup := h3.nodup_iff.1 h.nd
    have hmem : ∀ x, x ∈ T ↔ x ∈ b :: F ++ T1 := fun x => h3.mem_iff
    have hbT : b ∈ T := (hmem b).2 (by simp)
    have hother : ∀ x, x ≠ b → SameAt w (w.setRow b arr') x := fun x hx => setRow_other w b x arr' hx
    have hF'T : ∀ x ∈ b :: F' ++ T1, x ∈ T := fun x hx => by
      rw [hmem]
      simp only [List.cons_append, List.mem_cons, List.mem_append] at hx ⊢
      rcases hx with hx | hx | hx
      · exact .inl hx
      · exact .inr (.inl (k2.subset hx))
      · exact .inr (.inr hx)
    have kk : ∀ T2, (∀ x ∈ T2, x ∈ T) → Kept N N (Un w0 U0 w T) (Un w0 U0 (w.setRow b arr') T2) w (w.setRow b arr') := fun T2 hT2 =>
      ⟨fun x hU => ⟨hother x (fun e => hU.2.1 (e ▸ hbT)), by rw [size_setRow]; exact hU.1, fun hm => hU.2.1 (hT2 x hm), hU.2.2⟩, fun _ _ h => h, fun m b2 base2 hm => by
        intro arr2 e2 fz2 hbb
        by_cases hbe : b2 = b
        · subst hbe
          rw [hb] at hbb
          simp at hbb
          obtain ⟨rfl, rfl, rfl⟩ := hbb
          exact ⟨arr', e, (0, 0), setRow_heap w b2 arr arr' e (0, 0) hb, hsz⟩
        · exact ⟨arr2, e2, fz2, by rw [hother b2 hbe]; exact hbb, rfl⟩⟩
    simp only [List.cons_append, List.nodup_cons, List.nodup_append, List.mem_append] at hnd
    obtain ⟨n1, n2, n3, n4⟩ := hnd
    have hF : ∀ x ∈ F', SameAt w (w.setRow b arr') x := fun x hx => hother x (fun e => n1 (.inl (e ▸ k2.subset hx)))
    have hT1 : ∀ x ∈ T1, SameAt w (w.setRow b arr') x := fun x hx => hother x (fun e => n1 (.inr (e ▸ hx)))
    have k0' := kk (b :: F' ++ T1) hF'T
    obtain ⟨T', i1, i2⟩ := RH.ins (X := b :: F') hg (h2.kept k0' hT1) (.inr ⟨b, base, arr', e, cs', F', hn, setRow_heap w b arr arr' e (0, 0) hb, k3, k1.kept k0' hF, rfl⟩)
    have hT'T : ∀ x ∈ T', x ∈ T := fun x hx => hF'T x (i2.mem_iff.1 hx)
    have hUU : ∀ x, Un w0 U0 (w.setRow b arr') (b :: F' ++ T1) x → Un w0 U0 (w.setRow b arr') T' x := fun x hU => ⟨hU.1, fun hm => hU.2.1 (i2.mem_iff.1 hm), hU.2.2⟩
    refine ⟨N, T', h.step hd (kk T' hT'T) (hv.kept (kk T' hT'T) (by simp)) (i1.kept (kept_refl N _ hUU) (fun _ _ => rfl)) ?_ (fun x hx => h.own x (hT'T x hx)) ?_ h.nx (Nat.le_refl _) (fun _ _ => rfl)⟩
    · rw [i2.nodup_iff]
      simp only [List.cons_append, List.nodup_cons, List.nodup_append, List.mem_append]
      refine ⟨fun hm => ?_, k2.nodup n2, n3, fun x hx y hy => n4 x (k2.subset hx) y hy⟩
      rcases hm with hm | hm
      · exact n1 (.inl (k2.subset hm))
      · exact n1 (.inr hm)
    · refine ⟨h.fr.os, h.fr.tape, h.fr.output, by rw [size_setRow]; exact h.fr.size, fun x hx hxL => (hother x (fun e => ?_)).trans (h.fr.block x hx hxL), fun x hx arr2 e2 fz2 hbb => ?_⟩
      · subst e
        rcases h.own x hbT with ho | ho
        · exact hxL ho
        · omega
      · obtain ⟨arr3, e3, fz3, q1, q2⟩ := h.fr.shape x hx arr2 e2 fz2 hbb
        by_cases hbe : x = b
        · subst hbe
          rw [hb] at q1
          simp at q1
          obtain ⟨rfl, rfl, rfl⟩ := q1
          exact ⟨arr', e, (0, 0), setRow_heap w x arr arr' e (0, 0) hb, hsz.trans q2⟩
        · exact ⟨arr3, e3, fz3, (hother x hbe).trans q1, q2⟩
end
end Go.Proofs.Ytedampaecopkhaa
