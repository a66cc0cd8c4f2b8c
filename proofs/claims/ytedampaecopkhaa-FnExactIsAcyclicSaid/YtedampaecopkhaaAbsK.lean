/- Append as a step of the state. -/
import Derived.Test.YtedampaecopkhaaAbsJ
namespace Go.Proofs.Ytedampaecopkhaa
open Go Go.RowKit

section
variable {P : Program} {w0 : World} {U0 : Nat → Prop} {L0 : List Nat} {N0 : Nm} {k0 nt : Nat} {t : Nat → V} {s : Hp} {N : Nm} {T : List Nat} {a : Act} {w : World}

structure AppT (P : Program) (ty u e : TypeId) : Prop where
  hu : P.underlying ty = some (.slice e)
  hu2 : ∃ eu, P.underlying u = some (.slice eu)
  hi : (P.info? e).isSome = true
  hz : 0 < sizeT P e
  zl : ∃ i zv, P.info? e = some i ∧ i.zero = some zv ∧ zv.cells.size = sizeT P e

/-- The new slice in a new row. -/
theorem RS.grow (h : RS w0 U0 L0 N0 k0 nt t s N T a w) {dst : Option Nat} (hd : ∀ d, dst = some d → d < nt) {H1 : List (Nat × List V)} {T1 : List Nat} (hH : RH N (Un w0 U0 w T) w H1 T1) (hT1 : ∀ x ∈ T1, x ∈ T) {G : List Nat} (hGT : ∀ x ∈ G, x ∈ T) (hnd : (G ++ T1).Nodup)
    {old news : List V} {ocs ncs : List Value} (ho : RVs N (Un w0 U0 w T) w old ocs G) (hn : RVs N (Un w0 U0 w T) w news ncs []) {rest : List Value} {e : TypeId} {sz len cap : Nat} (hsz : 0 < sz) (hlc : len ≤ cap) (hm : cap ≤ maxLen) (hfit : cap * sz ≤ ocs.length + ncs.length + rest.length) :
    ∃ N' T', RS w0 U0 L0 N0 k0 nt (upd t dst (.sl s.2 sz 0 len)) ((s.2, old ++ news) :: H1, s.2 + 1) N' T' (a.put dst (.slice (some ⟨w.heap.size, 0, none⟩) len cap)) (w.drew.alloc (.cells (ocs ++ ncs ++ rest).toArray e)) := by
  have hTlt := h.hp.lt
  have hb : Below w.heap.size w (w.drew.alloc (.cells (ocs ++ ncs ++ rest).toArray e)) := Below.alloc (Below.drew (Below.refl _ _)) (Nat.le_refl _) _
  have hnew : (w.drew.alloc (.cells (ocs ++ ncs ++ rest).toArray e)).heap[w.heap.size]? = some (.cells (ocs ++ ncs ++ rest).toArray e (0, 0)) := heap_alloc_new w.drew _
  refine h.push hd hH hT1 (l := some (w.heap.size, 0)) (X := w.heap.size :: G) hb.size (fun x hx _ => hb.block x hx) (fun x hx => SameAt.shape (hb.block x hx)) ?_ ?_ (h.fr.trans (below_keep hb L0)) (fun k => ?_) (fun k => ?_)
  · rw [List.cons_append, List.nodup_cons]
    refine ⟨fun hm => ?_, hnd⟩
    rcases List.mem_append.1 hm with hm | hm
    · have := hTlt _ (hGT _ hm); omega
    · have := hTlt _ (hT1 _ hm); omega
  · intro x hx
    rcases List.mem_cons.1 hx with rfl | hx
    · exact .inr (Nat.le_refl _)
    · exact .inl (hGT x hx)
  · refine .inr ⟨w.heap.size, 0, _, e, ocs ++ ncs, G, ext_new _ _ _, hnew, fun j c hj => ?_, ?_, rfl⟩
    · rw [Nat.zero_add, List.getElem?_toArray, List.getElem?_append_left (by have := (List.getElem?_eq_some_iff.1 hj).1; omega)]
      exact hj
    · have := (ho.kept k (fun x hx => hb.block x (hTlt x (hGT x hx)))).append (hn.kept k (by simp))
      simpa using this
  · have := RV.sl (N := ext N s.2 (some (w.heap.size, 0))) (U := Un w0 U0 (w.drew.alloc (.cells (ocs ++ ncs ++ rest).toArray e)) (w.heap.size :: G ++ T1)) s.2 sz 0 len w.heap.size 0 cap _ e (0, 0) (ext_new _ _ _) hnew (by simp; omega) hlc hm hsz
    simpa using this

theorem grown_size {P : Program} {e : TypeId} {zv : Value} (hz : zv.cells.size = sizeT P e) (ocs ncs : List Value) {len m : Nat} (h1 : ocs.length = len * sizeT P e) (h2 : ncs.length = m * sizeT P e) {cap : Nat} (hc : len + m ≤ cap) :
    cap * sizeT P e ≤ ocs.length + ncs.length + (Builtin.zeroCells zv.cells (cap - (len + m))).toList.length := by
  have e1 : (Builtin.zeroCells zv.cells (cap - (len + m))).toList.length = (cap - (len + m)) * sizeT P e := by rw [Array.length_toList, size_zeroCells, hz]
  rw [e1, h1, h2, ← Nat.add_mul, ← Nat.add_mul]
  exact Nat.mul_le_mul_right _ (by omega)

set_option maxHeartbeats 1000000 in
theorem RS.app (h : RS w0 U0 L0 N0 k0 nt t s N T a w) {dst : Option Nat} (hd : ∀ d, dst = some d → d < nt) {ty u rt e : TypeId} (ht : AppT P ty u e) {bytes : Nat} (hby : bytes = bytesT P e) {x : V} {news : List V} (he : srcOf s.1 (sizeT P e) x = some news) (hcell : news.all V.cell = true)
    {cx : Value} (hx : RV N (Un w0 U0 w T) w x cx []) {sv v : V} {s' : Hp} {cs : Value} (hs : RV N (Un w0 U0 w T) w sv cs [])
    (hev : evApp (sizeT P e) bytes news s sv = some (true, v, s')) (hb47 : bytes = 0 → False) :
    ∃ c w', (Builtin.append_ #[ty, u] rt #[cs, cx]).run P w = .ok c w' ∧ ∃ N' T', RS w0 U0 L0 N0 k0 nt (upd t dst v) s' N' T' (a.put dst c) w' := by
  obtain ⟨hu, ⟨eu, hu2⟩, hi, hz, i, zv, hi2, hz0, hzs⟩ := ht
  obtain ⟨ncs, hsrc, hn⟩ := src_ok (P := P) h.hp hz he hcell hx
  have hone : ∀ y ∈ ncs, y.oneCell' = true := hn.cells1 hcell
  have hTlt := h.hp.lt
  have hib : i.bytes = bytes := by rw [hby]; simp [bytesT, hi2]
  -- a slice without elements, whatever it is
  have empty : ∀ (base : Option Addr) (cap : Nat) (H1 : List (Nat × List V)) (T1 : List Nat), RH N (Un w0 U0 w T) w H1 T1 → (∀ y ∈ T1, y ∈ T) → T1.Nodup → cap = 0 → 0 < news.length / sizeT P e → (news.length / sizeT P e) * bytes ≤ 140737488355328 →
      ∃ c w', (Builtin.append_ #[ty, u] rt #[.slice base 0 cap, cx]).run P w = .ok c w' ∧ ∃ N' T', RS w0 U0 L0 N0 k0 nt (upd t dst (V.sl s.2 (sizeT P e) 0 (news.length / sizeT P e))) ((s.2, news) :: H1, s.2 + 1) N' T' (a.put dst c) w' := by
    intro base cap H1 T1 hH hT1 hnd hcap hpos hbytes
    subst hcap
    have hle : (0 + news.length / sizeT P e) * i.bytes ≤ 140737488355328 := by rw [hib, Nat.zero_add]; exact hbytes
    have hm63 : 0 + news.length / sizeT P e ≤ maxLen := by
      have : news.length / sizeT P e ≤ (news.length / sizeT P e) * bytes := Nat.le_mul_of_pos_right _ (Nat.pos_of_ne_zero hb47)
      simp only [maxLen]; omega
    have hr := app_grow (P := P) (rt := rt) hu hu2 hi2 hz0 hsrc (base := base) (sLen := 0) (sCap := 0) (ocs := []) (fun w' _ => first_zero w') (by omega) (by simp only [maxLen] at hm63; omega) (growslice_fits (by omega) hle)
    refine ⟨_, _, hr, ?_⟩
    have hgc := grownCap_ge w (0 + news.length / sizeT P e) 0 e
    have hgm := grownCap_le_maxLen w (0 + news.length / sizeT P e) 0 e hm63
    have := h.grow (G := []) hd hH hT1 (by simp) (by simpa using hnd) (old := []) (ocs := []) .nil hn (rest := (Builtin.zeroCells zv.cells (grownCap w (0 + news.length / sizeT P e) 0 e - (0 + news.length / sizeT P e))).toList) (e := e) (sz := sizeT P e) (len := 0 + news.length / sizeT P e) hz hgc hgm
      (grown_size hzs [] ncs (by simp) hsrc.cnt hgc)
    simpa using this
  -- nothing is appended to nothing
  have nothing : ∀ (base : Option Addr) (cap : Nat) (l : Loc) (H1 : List (Nat × List V)) (T1 X : List Nat), RH N (Un w0 U0 w T) w H1 T1 → (∀ y ∈ T1, y ∈ T) → (∀ y ∈ X, y ∈ T) → (X ++ T1).Nodup → news.length / sizeT P e = 0 →
      (∀ N' U', N' s.2 = some l → Kept N N' (Un w0 U0 w T) U' w w → RV N' U' w (.sl s.2 (sizeT P e) 0 0) (.slice base 0 cap) [] ∧ Ent N' U' w s.2 [] X) →
      ∃ c w', (Builtin.append_ #[ty, u] rt #[.slice base 0 cap, cx]).run P w = .ok c w' ∧ ∃ N' T', RS w0 U0 L0 N0 k0 nt (upd t dst (V.sl s.2 (sizeT P e) 0 0)) ((s.2, []) :: H1, s.2 + 1) N' T' (a.put dst c) w' := by
    intro base cap l H1 T1 X hH hT1 hX hnd hm hval
    have hsrc0 := hsrc
    rw [hm] at hsrc0
    refine ⟨_, _, app_same hu hu2 hi hsrc0 base (Nat.zero_le _), ?_⟩
    exact h.push hd hH hT1 (l := l) (X := X) (Nat.le_refl _) (fun _ _ _ => rfl) (fun _ _ => SameAt.shape rfl) hnd (fun y hy => .inl (hX y hy)) h.fr (fun k => (hval _ _ (ext_new _ _ _) k).2) (fun k => (hval _ _ (ext_new _ _ _) k).1)
  have hnews0 : news.length / sizeT P e = 0 → news = [] := by
    intro hm
    have h1 := hsrc.cnt
    rw [hm, Nat.zero_mul] at h1
    have h2 := hn.len
    exact List.eq_nil_of_length_eq_zero (by omega)
  cases sv <;> simp only [evApp] at hev <;> try (simp at hev; done)
  case nil =>
    simp only [Option.some.injEq, Prod.mk.injEq, Bool.and_eq_true, decide_eq_true_eq] at hev
    obtain ⟨⟨_, hbytes⟩, rfl, rfl⟩ := hev
    obtain ⟨rfl, _⟩ := hs.nil_inv
    rcases Nat.eq_zero_or_pos (news.length / sizeT P e) with hm | hm
    · have hn0 := hnews0 hm
      rw [hm, hn0]
      exact nothing none 0 none s.1 T [] h.hp (fun _ h => h) (by simp) (by simpa using h.nd) hm (fun N' U' hl _ => ⟨.slE _ _ hl, .inl ⟨hl, rfl, rfl⟩⟩)
    · exact empty none 0 s.1 T h.hp (fun _ h => h) h.nd rfl hm hbytes
  case sl n sz' off len =>
    split at hev
    · rename_i cells hg
      simp only [Option.some.injEq, Prod.mk.injEq, Bool.and_eq_true, decide_eq_true_eq] at hev
      obtain ⟨⟨⟨⟨hsz, _⟩, hle⟩, hbytes⟩, rfl, rfl⟩ := hev
      subst hsz
      obtain ⟨X, T1, d1, d2, d3⟩ := h.hp.del hg
      have hT1 : ∀ y ∈ T1, y ∈ T := fun y hy => d3.mem_iff.2 (by simp [hy])
      have hndX : (X ++ T1).Nodup := d3.nodup_iff.1 h.nd
      have hnd1 : T1.Nodup := (List.nodup_append.1 hndX).2.1
      cases hs with
      | slE _ _ hn' =>
        have hc : ((cells.drop 0).take (0 * sizeT P e) ++ news) = news := by simp
        rw [hc]
        simp only [Nat.zero_add] at hbytes ⊢
        rcases Nat.eq_zero_or_pos (news.length / sizeT P e) with hm | hm
        · have hn0 := hnews0 hm
          rw [hm, hn0]
          exact nothing none 0 none _ T1 [] d2 hT1 (by simp) (by simpa using hnd1) hm (fun N' U' hl _ => ⟨.slE _ _ hl, .inl ⟨hl, rfl, rfl⟩⟩)
        · exact empty none 0 _ T1 d2 hT1 hnd1 rfl hm hbytes
      | slZ _ _ _ b base o arr0 e0 fz hn' hb0 ho0 hz0' =>
        have hc : ((cells.drop off).take (0 * sizeT P e) ++ news) = news := by simp
        rw [hc]
        simp only [Nat.zero_add] at hbytes ⊢
        rcases Nat.eq_zero_or_pos (news.length / sizeT P e) with hm | hm
        · have hn0 := hnews0 hm
          rw [hm, hn0]
          rcases d1 with ⟨g1, _⟩ | ⟨b', base', arr, e', cs', F, g1, g2, g3, g4, rfl⟩
          · rw [hn'] at g1; simp at g1
          · rw [hn'] at g1
            simp at g1
            obtain ⟨rfl, rfl⟩ := g1
            refine nothing (some ⟨b, o, none⟩) 0 (some (b, base)) _ T1 [b] d2 hT1 (fun y hy => d3.mem_iff.2 (by simp at hy; simp [hy])) ?_ hm (fun N' U' hl _ => ⟨.slZ _ _ _ b base o arr0 e0 fz hl hb0 ho0 hz0', .inr ⟨b, base, arr, e', [], [], hl, g2, by simp, .nil, rfl⟩⟩)
            simp only [List.cons_append, List.nodup_cons, List.mem_append, List.nodup_append] at hndX
            simp only [List.singleton_append, List.nodup_cons]
            exact ⟨fun hm => hndX.1 (.inr hm), hnd1⟩
        · exact empty (some ⟨b, o, none⟩) 0 _ T1 d2 hT1 hnd1 rfl hm hbytes
      | sl _ _ _ _ b base cap arr e' fz hn' hb hs' hlc hm _ =>
        rcases d1 with ⟨g1, _⟩ | ⟨b', base', arr', e'', cs', F, g1, g2, g3, g4, rfl⟩
        · rw [hn'] at g1; simp at g1
        · rw [hn'] at g1
          simp at g1
          obtain ⟨rfl, rfl⟩ := g1
          rw [hb] at g2
          simp at g2
          obtain ⟨rfl, rfl, rfl⟩ := g2
          obtain ⟨ms, G, m1, m2, m3, m4⟩ := g4.mid hle
          have hGT : ∀ y ∈ G, y ∈ T := fun y hy => d3.mem_iff.2 (by simp [m2.subset hy])
          have hndG : (G ++ T1).Nodup := by
            simp only [List.cons_append, List.nodup_cons, List.nodup_append] at hndX
            rw [List.nodup_append]
            exact ⟨m2.nodup hndX.2.1, hnd1, fun y hy z hz' => hndX.2.2.2 y (m2.subset hy) z hz'⟩
          have hbG : b ∉ G ++ T1 := by
            simp only [List.cons_append, List.nodup_cons, List.mem_append] at hndX
            intro hm'
            rcases List.mem_append.1 hm' with hm' | hm'
            · exact hndX.1 (.inl (m2.subset hm'))
            · exact hndX.1 (.inr hm')
          have hmsT : ∀ j c, ms[j]? = some c → arr[base + off + j]? = some c := fun j c hj => by rw [Nat.add_assoc]; exact g3 _ c (m3 j c hj)
          have hne : ∀ x, (x ∉ T ∨ x ∈ T1) → x ≠ b := by
            intro x hx e
            subst e
            rcases hx with hx | hx
            · exact hx (d3.mem_iff.2 (by simp))
            · exact hbG (by simp [hx])
          by_cases hroom : len + news.length / sizeT P e ≤ cap
          · have hfit : base + off + len * sizeT P e + ncs.length ≤ arr.size := by
              have h1 : (len + news.length / sizeT P e) * sizeT P e ≤ cap * sizeT P e := Nat.mul_le_mul_right _ hroom
              rw [Nat.add_mul] at h1
              have h2 := hsrc.cnt
              omega
            have hr := app_room (P := P) (rt := rt) hu hu2 hi hsrc (b := b) (o := base + off) (sLen := len) (sCap := cap) hb hone hroom hfit
            refine ⟨_, _, hr, ?_⟩
            have hsize : (setRange arr.toList (base + off + len * sizeT P e) ncs).toArray.size = arr.size := by simp [setRange_length]
            have hother : ∀ x, x ≠ b → SameAt w (w.setRow b (setRange arr.toList (base + off + len * sizeT P e) ncs).toArray) x := fun x hx => setRow_other w b x _ hx
            have hnewb := setRow_heap w b arr (setRange arr.toList (base + off + len * sizeT P e) ncs).toArray e' (0, 0) hb
            refine h.push hd d2 hT1 (l := some (b, base + off)) (X := b :: G) (by rw [size_setRow]; exact Nat.le_refl _) (fun x _ hx => hother x (hne x hx)) ?_ ?_ ?_ ?_ (fun k => ?_) (fun k => ?_)
            · intro x _ arr2 e2 fz2 hbb
              by_cases hbe : x = b
              · subst hbe
                rw [hb] at hbb
                simp at hbb
                obtain ⟨rfl, rfl, rfl⟩ := hbb
                exact ⟨_, e', (0, 0), hnewb, hsize⟩
              · exact ⟨arr2, e2, fz2, (hother x hbe).trans hbb, rfl⟩
            · rw [List.cons_append, List.nodup_cons]; exact ⟨hbG, hndG⟩
            · intro x hx
              rcases List.mem_cons.1 hx with rfl | hx
              · exact .inl (d3.mem_iff.2 (by simp))
              · exact .inl (hGT x hx)
            · refine ⟨h.fr.os, h.fr.tape, h.fr.output, by rw [size_setRow]; exact h.fr.size, fun x hx hxL => (hother x (fun e => ?_)).trans (h.fr.block x hx hxL), fun x hx arr2 e2 fz2 hbb => ?_⟩
              · subst e
                rcases h.own x (d3.mem_iff.2 (by simp)) with ho | ho
                · exact hxL ho
                · omega
              · obtain ⟨arr3, e3, fz3, q1, q2⟩ := h.fr.shape x hx arr2 e2 fz2 hbb
                by_cases hbe : x = b
                · subst hbe
                  rw [hb] at q1
                  simp at q1
                  obtain ⟨rfl, rfl, rfl⟩ := q1
                  exact ⟨_, e', (0, 0), hnewb, hsize.trans q2⟩
                · exact ⟨arr3, e3, fz3, (hother x hbe).trans q1, q2⟩
            · refine .inr ⟨b, base + off, _, e', ms ++ ncs, G, ext_new _ _ _, hnewb, fun j c hj => ?_, ?_, rfl⟩
              · rw [List.getElem?_toArray, setRange_get _ _ _ _ (by simpa using hfit)]
                have hml : ms.length = len * sizeT P e := m4
                have hjl := (List.getElem?_eq_some_iff.1 hj).1
                rw [List.length_append] at hjl
                by_cases hj2 : j < ms.length
                · rw [List.getElem?_append_left hj2] at hj
                  rw [if_neg (by omega)]
                  simpa using hmsT j c hj
                · rw [List.getElem?_append_right (by omega)] at hj
                  rw [if_pos (by omega)]
                  rw [show base + off + j - (base + off + len * sizeT P e) = j - ms.length by omega]
                  exact hj
              · have := (m1.kept k (fun x hx => hother x (fun e => hbG (e ▸ by simp [hx])))).append (hn.kept k (by simp))
                simpa using this
            · have := RV.sl (N := ext N s.2 (some (b, base + off))) (U := Un w0 U0 (w.setRow b (setRange arr.toList (base + off + len * sizeT P e) ncs).toArray) (b :: G ++ T1)) s.2 (sizeT P e) 0 (len + news.length / sizeT P e) b (base + off) cap _ e' (0, 0) (ext_new _ _ _) hnewb (by rw [hsize]; omega) hroom hm hz
              simpa using this
          · have hle2 : (len + news.length / sizeT P e) * i.bytes ≤ 140737488355328 := by rw [hib]; exact hbytes
            have hm63 : len + news.length / sizeT P e ≤ maxLen := by
              have : len + news.length / sizeT P e ≤ (len + news.length / sizeT P e) * bytes := Nat.le_mul_of_pos_right _ (Nat.pos_of_ne_zero hb47)
              simp only [maxLen]; omega
            have hr := app_grow (P := P) (rt := rt) hu hu2 hi2 hz0 hsrc (base := some ⟨b, base + off, none⟩) (sLen := len) (sCap := cap) (ocs := ms) (fun w' hw => first_some m4 (fun j c hj => by rw [cell_of_arr hb]; exact hmsT j c hj) hw) (by omega) (by simp only [maxLen] at hm63; omega) (growslice_fits (by omega) hle2)
            refine ⟨_, _, hr, ?_⟩
            have hgc := grownCap_ge w (len + news.length / sizeT P e) cap e
            have hgm := grownCap_le_maxLen w (len + news.length / sizeT P e) cap e hm63
            exact h.grow hd d2 hT1 hGT hndG m1 hn (rest := (Builtin.zeroCells zv.cells (grownCap w (len + news.length / sizeT P e) cap e - (len + news.length / sizeT P e))).toList) (e := e) (sz := sizeT P e) (len := len + news.length / sizeT P e) hz hgc hgm
              (grown_size hzs ms ncs m4 hsrc.cnt hgc)
    · simp at hev
end
end Go.Proofs.Ytedampaecopkhaa
