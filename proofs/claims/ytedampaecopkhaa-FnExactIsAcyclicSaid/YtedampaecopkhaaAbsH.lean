/- Operations that make or write rows. -/
import Derived.Test.YtedampaecopkhaaAbsG
namespace Go.Proofs.Ytedampaecopkhaa
open Go Go.RowKit

/-- What a named row is. -/
def Ent (N : Nm) (U : Nat → Prop) (w : World) (n : Nat) (cells : List V) (X : List Nat) : Prop :=
  (N n = some none ∧ cells = [] ∧ X = []) ∨ ∃ b base arr e cs F, N n = some (some (b, base)) ∧ w.heap[b]? = some (.cells arr e (0, 0)) ∧
    (∀ j c, cs[j]? = some c → arr[base + j]? = some c) ∧ RVs N U w cells cs F ∧ X = b :: F

section
variable {N : Nm} {U : Nat → Prop} {w : World}
theorem RH.push {H : List (Nat × List V)} {T : List Nat} (h : RH N U w H T) {n : Nat} {cells : List V} {X : List Nat} (he : Ent N U w n cells X) : RH N U w ((n, cells) :: H) (X ++ T) := by
  rcases he with ⟨h1, rfl, rfl⟩ | ⟨b, base, arr, e, cs, F, h1, h2, h3, h4, rfl⟩
  · exact .consE n H T h1 h
  · exact .cons n cells b base arr e cs F H T _ h1 h2 h3 h4 h rfl
theorem RH.pop {H : List (Nat × List V)} {T : List Nat} {n : Nat} {cells : List V} (h : RH N U w ((n, cells) :: H) T) : ∃ X T', Ent N U w n cells X ∧ RH N U w H T' ∧ T = X ++ T' := by
  cases h with
  | consE _ _ _ hn h => exact ⟨[], T, .inl ⟨hn, rfl, rfl⟩, h, rfl⟩
  | cons _ _ b base arr e cs F _ T' _ hn hb hc h hH hT => exact ⟨b :: F, T', .inr ⟨b, base, arr, e, cs, F, hn, hb, hc, h, rfl⟩, hH, hT⟩
theorem RH.del {H : List (Nat × List V)} : ∀ {T : List Nat}, RH N U w H T → ∀ {n : Nat} {cells : List V}, hget H n = some cells → ∃ X T', Ent N U w n cells X ∧ RH N U w (hdel H n) T' ∧ T.Perm (X ++ T') := by
  induction H with
  | nil => intro T _ n cells hg; simp [hget] at hg
  | cons p H ih =>
    intro T h n cells hg
    obtain ⟨m, cm⟩ := p
    obtain ⟨X, T', h1, h2, rfl⟩ := h.pop
    unfold hget at hg
    unfold hdel
    split at hg
    · rename_i e
      subst e
      simp only [Option.some.injEq] at hg
      subst hg
      rw [if_pos rfl]
      exact ⟨X, T', h1, h2, List.Perm.refl _⟩
    · rename_i e
      rw [if_neg e]
      obtain ⟨Y, T'', g1, g2, g3⟩ := ih h2 hg
      refine ⟨Y, X ++ T'', g1, g2.push h1, ?_⟩
      have := g3.append_left X
      refine this.trans ?_
      rw [← List.append_assoc, ← List.append_assoc]
      exact List.Perm.append_right _ List.perm_append_comm
theorem RH.ins {H : List (Nat × List V)} : ∀ {T : List Nat} {n : Nat} {old cells : List V}, hget H n = some old → RH N U w (hdel H n) T → ∀ {X : List Nat}, Ent N U w n cells X → ∃ T', RH N U w (hset H n cells) T' ∧ T'.Perm (X ++ T) := by
  induction H with
  | nil => intro T n old cells hg; simp [hget] at hg
  | cons p H ih =>
    intro T n old cells hg h X hX
    obtain ⟨m, cm⟩ := p
    unfold hget at hg
    unfold hdel at h
    unfold hset
    split at hg
    · rename_i e
      subst e
      rw [if_pos rfl] at h ⊢
      exact ⟨_, h.push hX, List.Perm.refl _⟩
    · rename_i e
      rw [if_neg e] at h ⊢
      obtain ⟨Y, T', h1, h2, rfl⟩ := h.pop
      obtain ⟨T'', g1, g2⟩ := ih hg h2 hX
      refine ⟨_, g1.push h1, ?_⟩
      refine (g2.append_left Y).trans ?_
      rw [← List.append_assoc, ← List.append_assoc]
      exact List.Perm.append_right _ List.perm_append_comm
theorem Ent.kept {N' : Nm} {U' : Nat → Prop} {w' : World} (k : Kept N N' U U' w w') {n : Nat} {cells : List V} {X : List Nat} (h : Ent N U w n cells X) (hX : ∀ b ∈ X, SameAt w w' b) : Ent N' U' w' n cells X := by
  rcases h with ⟨h1, rfl, rfl⟩ | ⟨b, base, arr, e, cs, F, h1, h2, h3, h4, rfl⟩
  · exact .inl ⟨k.n _ _ h1, rfl, rfl⟩
  · exact .inr ⟨b, base, arr, e, cs, F, k.n _ _ h1, by rw [hX b (by simp)]; exact h2, h3, h4.kept k (fun x hx => hX x (by simp [hx])), rfl⟩
theorem RVs.lt {vs : List V} {cs : List Value} {F : List Nat} (h : RVs N U w vs cs F) : ∀ b ∈ F, b < w.heap.size := by
  have : ∀ (k : Nat), True := fun _ => trivial
  exact RVs.rec (N := N) (U := U) (w := w) (motive_1 := fun _ _ F _ => ∀ b ∈ F, b < w.heap.size) (motive_2 := fun _ _ F _ => ∀ b ∈ F, b < w.heap.size)
    (by simp) (by simp) (by simp) (by simp) (by simp) (by simp) (by intros; simp_all) (by simp)
    (by
      intro sz cells b o len cap arr e cs F FF hb hl hs hlc hm hz hc h hF ih x hx
      subst hF
      rcases List.mem_cons.1 hx with rfl | hx
      · exact heap_lt hb
      · exact ih x hx)
    (by intro parts cs F h ih; exact ih) (by intro parts cs F h ih; exact ih) (by simp) (by simp) (by simp) (by simp) (by intros; simp_all) (by intros; simp_all)
    (by simp)
    (by
      intro v vs c cs F Fs FF h hs hF ih1 ih2 x hx
      subst hF
      rcases List.mem_append.1 hx with hx | hx
      · exact ih1 x hx
      · exact ih2 x hx) h
theorem Ent.lt {n : Nat} {cells : List V} {X : List Nat} (h : Ent N U w n cells X) : ∀ b ∈ X, b < w.heap.size := by
  rcases h with ⟨_, _, rfl⟩ | ⟨b, base, arr, e, cs, F, h1, h2, h3, h4, rfl⟩
  · simp
  · intro x hx
    rcases List.mem_cons.1 hx with rfl | hx
    · exact heap_lt h2
    · exact h4.lt x hx
theorem RH.lt {H : List (Nat × List V)} {T : List Nat} (h : RH N U w H T) : ∀ b ∈ T, b < w.heap.size := by
  induction H generalizing T with
  | nil => cases h; simp
  | cons p H ih =>
    obtain ⟨n, cells⟩ := p
    obtain ⟨X, T', h1, h2, rfl⟩ := h.pop
    intro b hb
    rcases List.mem_append.1 hb with hb | hb
    · exact h1.lt b hb
    · exact ih h2 b hb

/-- A result's own rows become named ones. -/
def OpnOk (U : Nat → Prop) (w : World) (N : Nm) (s : Hp) (T : List Nat) (v' : V) (s' : Hp) (c : Value) (F : List Nat) : Prop :=
  ∃ N' T' D, (∀ n l, N n = some l → N' n = some l) ∧ (∀ n, s'.2 ≤ n → N' n = none) ∧ (∀ n, n < s.2 → N' n = N n) ∧ s.2 ≤ s'.2 ∧ RV N' U w v' c [] ∧ RH N' U w s'.1 T' ∧ (T' ++ D).Perm (F ++ T)
def OpnsOk (U : Nat → Prop) (w : World) (N : Nm) (s : Hp) (T : List Nat) (vs' : List V) (s' : Hp) (cs : List Value) (F : List Nat) : Prop :=
  ∃ N' T' D, (∀ n l, N n = some l → N' n = some l) ∧ (∀ n, s'.2 ≤ n → N' n = none) ∧ (∀ n, n < s.2 → N' n = N n) ∧ s.2 ≤ s'.2 ∧ RVs N' U w vs' cs [] ∧ RH N' U w s'.1 T' ∧ (T' ++ D).Perm (F ++ T)
theorem opnL_ok {f : V → Hp → V × Hp} (hf : ∀ v c F N s T, RV N U w v c F → RH N U w s.1 T → (∀ n, s.2 ≤ n → N n = none) → OpnOk U w N s T (f v s).1 (f v s).2 c F) :
    ∀ (vs : List V) (cs : List Value) (F : List Nat) (N : Nm) (s : Hp) (T : List Nat), RVs N U w vs cs F → RH N U w s.1 T → (∀ n, s.2 ≤ n → N n = none) → OpnsOk U w N s T (opnL f vs s).1 (opnL f vs s).2 cs F := by
  intro vs
  induction vs with
  | nil =>
    intro cs F N s T h hh hn
    cases h
    exact ⟨N, T, [], fun _ _ h => h, hn, fun _ _ => rfl, Nat.le_refl _, .nil, hh, by simp⟩
  | cons v vs ih =>
    intro cs F N s T h hh hn
    cases h with
    | cons _ _ c cs F1 F2 _ h1 h2 hE =>
      subst hE
      obtain ⟨N1, T1, D1, a1, a2, a3, a4, a5, a6, a7⟩ := hf v c F1 N s T h1 hh hn
      have k1 : Kept N N1 U U w w := ⟨fun b hb => ⟨rfl, hb⟩, a1, fun _ _ _ _ => SameAt.shape rfl⟩
      obtain ⟨N2, T2, D2, b1, b2, b3, b4, b5, b6, b7⟩ := ih cs F2 N1 (f v s).2 T1 (h2.kept k1 (fun _ _ => rfl)) a6 a2
      have k2 : Kept N1 N2 U U w w := ⟨fun b hb => ⟨rfl, hb⟩, b1, fun _ _ _ _ => SameAt.shape rfl⟩
      refine ⟨N2, T2, D2 ++ D1, fun n l h => b1 n l (a1 n l h), b2, fun n hn' => (b3 n (by omega)).trans (a3 n hn'), Nat.le_trans a4 b4, ?_, b6, ?_⟩
      · exact .cons _ _ _ _ [] [] _ (a5.kept k2 (by simp)) b5 rfl
      · have p1 : (T2 ++ (D2 ++ D1)).Perm ((F2 ++ T1) ++ D1) := by rw [← List.append_assoc]; exact b7.append_right D1
        have p2 : ((F2 ++ T1) ++ D1).Perm (F2 ++ (F1 ++ T)) := by rw [List.append_assoc]; exact a7.append_left F2
        have p3 : (F2 ++ (F1 ++ T)).Perm (F1 ++ F2 ++ T) := by
          rw [← List.append_assoc]
          exact List.Perm.append_right _ List.perm_append_comm
        exact (p1.trans p2).trans p3
theorem opn_ok : ∀ (k : Nat) (v : V) (c : Value) (F : List Nat) (N : Nm) (s : Hp) (T : List Nat), RV N U w v c F → RH N U w s.1 T → (∀ n, s.2 ≤ n → N n = none) → OpnOk U w N s T (opn k v s).1 (opn k v s).2 c F := by
  intro k
  induction k with
  | zero => intro v c F N s T h hh hn; exact ⟨N, T, F, fun _ _ h => h, hn, fun _ _ => rfl, Nat.le_refl _, .undef _, hh, List.perm_append_comm⟩
  | succ k ih =>
    intro v c F N s T h hh hn
    have same : F = [] → opn (k + 1) v s = (v, s) → OpnOk U w N s T (opn (k + 1) v s).1 (opn (k + 1) v s).2 c F := by
      intro hF he
      subst hF
      rw [he]
      exact ⟨N, T, [], fun _ _ h => h, hn, fun _ _ => rfl, Nat.le_refl _, h, hh, by simp⟩
    have new : ∀ (l : Loc) (sz : Nat) (cells : List V), (∀ (N' : Nm), (∀ n l, N n = some l → N' n = some l) → N' s.2 = some l → RV N' U w (.sl s.2 sz 0 (cells.length / sz)) c [] ∧ Ent N' U w s.2 cells F) →
        OpnOk U w N s T (.sl s.2 sz 0 (cells.length / sz)) ((s.2, cells) :: s.1, s.2 + 1) c F := by
      intro l sz cells hN
      refine ⟨fun n => if n = s.2 then some l else N n, F ++ T, [], ?_, ?_, ?_, by simp, ?_, ?_, by simp⟩
      · intro n l' h'
        simp only
        split
        · rename_i e
          rw [e, hn _ (Nat.le_refl _)] at h'
          cases h'
        · exact h'
      · intro n hn'
        simp only at hn' ⊢
        rw [if_neg (by omega)]
        exact hn n (by omega)
      · intro n hn'
        simp only
        rw [if_neg (by omega)]
      all_goals
        have hext : ∀ n l', N n = some l' → (if n = s.2 then some l else N n) = some l' := by
          intro n l' h'
          split
          · rename_i e
            rw [e, hn _ (Nat.le_refl _)] at h'
            cases h'
          · exact h'
        obtain ⟨g1, g2⟩ := hN (fun n => if n = s.2 then some l else N n) hext (by simp)
      · exact g1
      · exact RH.push (hh.kept ⟨fun b hb => ⟨rfl, hb⟩, hext, fun _ _ _ _ => SameAt.shape rfl⟩ (fun _ _ => rfl)) g2
    have h0 := h
    cases h with
    | undef => exact same rfl rfl
    | int => exact same rfl rfl
    | bool => exact same rfl rfl
    | str => exact same rfl rfl
    | nil => exact same rfl rfl
    | listE => exact same rfl rfl
    | list => exact same rfl rfl
    | ownE sz =>
      refine new none sz [] fun N' hN hl => ⟨?_, .inl ⟨hl, rfl, rfl⟩⟩
      simp only [List.length_nil, Nat.zero_div]
      exact .slE _ _ hl
    | own sz cells b o len cap arr e cs F _ hb hl hs hlc hm hz hc hv hF =>
      refine new (some (b, o)) sz cells fun N' hN hl' => ?_
      have e1 : cells.length / sz = len := by rw [hl]; exact Nat.mul_div_cancel _ hz
      rw [e1]
      have k1 : Kept N N' U U w w := ⟨fun b hb => ⟨rfl, hb⟩, hN, fun _ _ _ _ => SameAt.shape rfl⟩
      exact ⟨.sl s.2 sz 0 len b o cap arr e (0, 0) hl' hb (by simpa using hs) hlc hm hz, .inr ⟨b, o, arr, e, cs, F, hl', hb, hc, hv.kept k1 (fun _ _ => rfl), hF⟩⟩
    | agg parts cs F hv =>
      obtain ⟨N', T', D, a1, a2, a3, a4, a5, a6, a7⟩ := opnL_ok (fun v c F N s T => ih v c F N s T) parts cs F N s T hv hh hn
      exact ⟨N', T', D, a1, a2, a3, a4, .agg _ cs [] a5, a6, a7⟩
    | tup parts cs F hv =>
      obtain ⟨N', T', D, a1, a2, a3, a4, a5, a6, a7⟩ := opnL_ok (fun v c F N s T => ih v c F N s T) parts cs F N s T hv hh hn
      exact ⟨N', T', D, a1, a2, a3, a4, .tup _ cs [] a5, a6, a7⟩
    | sl => exact same rfl rfl
    | slE => exact same rfl rfl
    | slZ => exact same rfl rfl
    | pt => exact same rfl rfl
    | rp => exact same rfl rfl
    | fn => exact same rfl rfl

def Un (w0 : World) (U0 : Nat → Prop) (w : World) (T : List Nat) : Nat → Prop := fun b => b < w.heap.size ∧ b ∉ T ∧ (U0 b ∨ w0.heap.size ≤ b)

/-- The state as pure data ('t', 's') and the model's ('a', 'w'). 'L0': blocks lent by the caller; 'N0', 'k0': their names. -/
structure RS (w0 : World) (U0 : Nat → Prop) (L0 : List Nat) (N0 : Nm) (k0 nt : Nat) (t : Nat → V) (s : Hp) (N : Nm) (T : List Nat) (a : Act) (w : World) : Prop where
  tsz : a.tmps.size = nt
  dfr : a.defers = []
  sl : Slots N (Un w0 U0 w T) w t a
  hp : RH N (Un w0 U0 w T) w s.1 T
  nd : T.Nodup
  own : ∀ b ∈ T, b ∈ L0 ∨ w0.heap.size ≤ b
  fr : KeepBut L0 w0 w
  nx : ∀ n, s.2 ≤ n → N n = none
  nl : ∀ n, n < k0 → N n = N0 n
  kn : k0 ≤ s.2
  lh : ∀ b ∈ L0, b < w0.heap.size

theorem put_get {a : Act} {d : Nat} (hd : d < a.tmps.size) (c : Value) (i : Nat) : (a.put (some d) c).tmps.getD i Go.undef = if d = i then c else a.tmps.getD i Go.undef := by
  simp only [Act.put, Array.getD_eq_getD_getElem?]
  by_cases h : d = i
  · subst h; simp [hd]
  · simp [h]
theorem slots_put {t : Nat → V} {a : Act} {nt : Nat} (hs : Slots N U w t a) (hz : a.tmps.size = nt) {dst : Option Nat} (hd : ∀ d, dst = some d → d < nt) {v : V} {c : Value} (hv : RV N U w v c []) : Slots N U w (upd t dst v) (a.put dst c) := by
  intro i
  cases dst with
  | none => exact hs i
  | some d =>
    rw [put_get (by rw [hz]; exact hd d rfl)]
    simp only [upd]
    split
    · exact hv
    · exact hs i
theorem put_size {a : Act} {dst : Option Nat} {c : Value} : (a.put dst c).tmps.size = a.tmps.size := by cases dst <;> simp [Act.put]
theorem put_dfr {a : Act} {dst : Option Nat} {c : Value} : (a.put dst c).defers = a.defers := by cases dst <;> simp [Act.put]
theorem Slots.kept {N' : Nm} {U' : Nat → Prop} {w' : World} (k : Kept N N' U U' w w') {t : Nat → V} {a : Act} (h : Slots N U w t a) : Slots N' U' w' t a := fun i => (h i).kept k (by simp)
theorem KeepBut.refl (L : List Nat) (w : World) : KeepBut L w w := ⟨rfl, rfl, rfl, Nat.le_refl _, fun _ _ _ => rfl, fun _ _ => SameAt.shape rfl⟩
theorem KeepBut.trans {L : List Nat} {a b c : World} (h : KeepBut L a b) (k : KeepBut L b c) : KeepBut L a c :=
  ⟨k.os.trans h.os, k.tape.trans h.tape, k.output.trans h.output, Nat.le_trans h.size k.size, fun i hi hn => (k.block i (Nat.lt_of_lt_of_le hi h.size) hn).trans (h.block i hi hn),
    fun i hi arr e fz hb => by
      obtain ⟨arr', e', fz', h1, h2⟩ := h.shape i hi arr e fz hb
      obtain ⟨arr'', e'', fz'', h3, h4⟩ := k.shape i (Nat.lt_of_lt_of_le hi h.size) arr' e' fz' h1
      exact ⟨arr'', e'', fz'', h3, h4.trans h2⟩⟩
theorem KeepBut.mono {L L' : List Nat} {a b : World} (h : KeepBut L a b) (hL : ∀ x ∈ L, x < a.heap.size → x ∈ L') : KeepBut L' a b :=
  ⟨h.os, h.tape, h.output, h.size, fun i hi hn => h.block i hi (fun hm => hn (hL i hm hi)), h.shape⟩
theorem below_keep {w w' : World} (h : Below w.heap.size w w') (L : List Nat) : KeepBut L w w' :=
  ⟨h.os, h.tape, h.output, h.size, fun i hi _ => h.block i hi, fun i hi => SameAt.shape (h.block i hi)⟩
end
end Go.Proofs.Ytedampaecopkhaa
