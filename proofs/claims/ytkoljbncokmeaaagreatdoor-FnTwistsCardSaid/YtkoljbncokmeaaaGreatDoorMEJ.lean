import Derived.Test.YtkoljbncokmeaaaGreatDoorMEI
import Derived.Test.YtkoljbncokmeaaaGreatDoorMEG
import Derived.Test.YtkoljbncokmeaaaGreatDoorMEH
namespace Go.Proofs.YtkoljbncokmeaaaGreatDoor
open Go Go.RowKit
set_option maxRecDepth 1000000
set_option linter.unusedSimpArgs false
set_option linter.unusedVariables false
set_option maxHeartbeats 1000000
theorem lsJ_congr {f g:Nat→Nat→Int} {n w i k:Nat} (h:∀ a b,a<n→b<w→f a b=g a b) (hi:i<n) {st:Int×Int} (hst:lsP f n w st):∀ u,k+u≤w∨u=0→lsJ f i k st u=lsJ g i k st u
 | 0,_=>rfl
 | u+1,hu=>by
  have hP:=lsJ_P (k:=k) hi hst u (by omega)
  have ih:=lsJ_congr (k:=k) h hi hst u (by omega)
  unfold lsJ
  rw [← ih]
  generalize lsJ f i k st u=s at *
  unfold lsS
  have e1:=h i (k+u) hi (by omega)
  rw [← e1]
  rcases hP with e | ⟨s1,s2,s3,s4,s5⟩
  ·subst e
   by_cases h0:f i (k+u)=0
   ·rw [if_neg fun hh=>hh.1 h0,if_neg fun hh=>hh.1 h0]
   ·rw [if_pos ⟨h0,.inl (by simp)⟩,if_pos ⟨h0,.inl (by simp)⟩]
  ·rw [h _ _ (show s.1.toNat<n by omega) (show s.2.toNat<w by omega)]
theorem lsI_congr {f g:Nat→Nat→Int} {n w k:Nat} (h:∀ a b,a<n→b<w→f a b=g a b):∀ t,k+t≤n∨t=0→lsI f w k (-1,-1) t=lsI g w k (-1,-1) t
 | 0,_=>rfl
 | t+1,ht=>by
  have ih:=lsI_congr (k:=k) h t (by omega)
  unfold lsI
  rw [← ih,lsJ_congr (k:=k) h (by omega) (lsI_P (k:=k) (.inl rfl) t (by omega)) (w-k) (by omega)]
theorem lsZ_congr {f g:Nat→Nat→Int} {n w k:Nat} (h:∀ a b,a<n→b<w→f a b=g a b):lsZ f n w k=lsZ g n w k:=lsI_congr h (n-k) (by omega)
theorem odP_congr {f g:Nat→Nat→Int} {n w k i:Nat} (h:∀ a b,a<n→b<w→f a b=g a b) (hi:i<n) (hk:k<n) (hw:k<w):odP f w k i↔odP g w k i:=by
 constructor
 ·rintro ⟨j,h1,h2,h3⟩
  exact ⟨j,h1,h2,by rw [← h i j hi h2,← h k k hk hw]; exact h3⟩
 ·rintro ⟨j,h1,h2,h3⟩
  exact ⟨j,h1,h2,by rw [h i j hi h2,h k k hk hw]; exact h3⟩
theorem odI_congr {f g:Nat→Nat→Int} {n w k:Nat} (h:∀ a b,a<n→b<w→f a b=g a b) (hk:k<n) (hw:k<w):∀ q i,i+q≤n∨q=0→odI f w k q i=odI g w k q i
 | 0,_,_=>rfl
 | q+1,i,hi=>by
  have e:=odP_congr (i:=i) h (by omega) hk hw
  by_cases h0:odP f w k i
  ·rw [odI_yes h0,odI_yes (e.1 h0)]
  ·rw [odI_no h0,odI_no fun hh=>h0 (e.2 hh),odI_congr h hk hw q (i+1) (by omega)]
theorem odZ_congr {f g:Nat→Nat→Int} {n w k:Nat} (h:∀ a b,a<n→b<w→f a b=g a b) (hk:k<n) (hw:k<w):odZ f n w k=odZ g n w k:=odI_congr h hk hw _ _ (by omega)
theorem rwF_congr {f g:Nat→Nat→Int} {n w k:Nat} (h:∀ a b,a<n→b<w→f a b=g a b) (hk:k<n) (hw:k<w) (a b:Nat) (ha:a<n) (hb:b<w):rwF k f a b=rwF k g a b:=by
 unfold rwF rwV
 rw [h a b ha hb,h a k ha hw,h k k hk hw,h k b hk hb]
theorem clF_congr {f g:Nat→Nat→Int} {n w k:Nat} (h:∀ a b,a<n→b<w→f a b=g a b) (hk:k<n) (hw:k<w) (a b:Nat) (ha:a<n) (hb:b<w):clF k f a b=clF k g a b:=by
 unfold clF clV
 rw [h a b ha hb,h a k ha hw,h k k hk hw,h k b hk hb]
theorem rstF_congr {f g:Nat→Nat→Int} {n w k:Nat} (h:∀ a b,a<n→b<w→f a b=g a b) (hk:k<n) (hw:k<w) (a b:Nat) (ha:a<n) (hb:b<w):rstF k f a b=rstF k g a b:=clF_congr (fun a b ha hb=>rwF_congr h hk hw a b ha hb) hk hw a b ha hb
theorem clnP_congr {f g:Nat→Nat→Int} {n w k:Nat} (h:∀ a b,a<n→b<w→f a b=g a b) (hk:k<n) (hw:k<w):clnP n w k f↔clnP n w k g:=by
 constructor
 ·rintro ⟨h1,h2⟩
  exact ⟨fun a ha hb=>by rw [← rwF_congr h hk hw a k hb hw]; exact h1 a ha hb,fun b hb hc=>by rw [← rstF_congr h hk hw k b hk hc]; exact h2 b hb hc⟩
 ·rintro ⟨h1,h2⟩
  exact ⟨fun a ha hb=>by rw [rwF_congr h hk hw a k hb hw]; exact h1 a ha hb,fun b hb hc=>by rw [rstF_congr h hk hw k b hk hc]; exact h2 b hb hc⟩
theorem bdE_congr {B:Int} {f g:Nat→Nat→Int} {n w:Nat} (h:∀ a b,a<n→b<w→f a b=g a b) (hb:bdE B n w g):bdE B n w f:=fun i j hi hj=>by rw [h i j hi hj]; exact hb i j hi hj
theorem rstO_matF {n w k:Nat} {g:Nat→Nat→Int} (hn:n≤64) (hw:w≤64) (hkn:k<n) (hkw:k<w) (hnz:g k k≠0) (b0:bdE 1073741824 n w g) (b1:bdE 1073741824 n w (rwF k g)) (b2:bdE 1073741824 n w (rstF k g)):rstO k (matF n w g):=by
 have h0:n=0→w=0:=fun h=>by omega
 have he:∀ a b,a<n→b<w→ent (matF n w g) a b=g a b:=fun a b ha hb=>matF_ent ha hb
 refine ⟨dimM_matF h0 hn hw,by simpa using hkn,by rw [wdM_matF h0]; exact hkw,by rw [he k k hkn hkw]; exact hnz,bd_matF h0 b0,?_,?_⟩
 ·rw [wdM_matF h0,matF_len]
  exact bdE_congr (fun a b ha hb=>rwF_congr he hkn hkw a b ha hb) b1
 ·rw [wdM_matF h0,matF_len]
  exact bdE_congr (fun a b ha hb=>rstF_congr he hkn hkw a b ha hb) b2
noncomputable def addF (k o:Nat) (f:Nat→Nat→Int) (a b:Nat):Int:=@ite _ (a=k∧k≤b) (Classical.propDecidable _) (f a b+f o b) (f a b)
theorem addF_set {n w k o:Nat} {f:Nat→Nat→Int} (hk:k<n):(matF n w f).set k (rowW w k (f k) (fun b=>f k b+f o b) w)=matF n w (addF k o f):=by
 unfold rowW
 rw [matF_set _ hk]
 refine matF_congr fun a b _ hb => ?_
 unfold addF
 by_cases e:a=k
 ·subst e
  rw [if_pos rfl]
  by_cases h:a≤b
  ·rw [if_pos ⟨h,hb⟩,if_pos ⟨rfl,h⟩]
  ·rw [if_neg (by omega),if_neg (by omega)]
 ·rw [if_neg e,if_neg (by omega)]
noncomputable def smR (n w:Nat):Nat→(Nat→Nat→Int)→Nat→List Int→Option (List Int)
 | 0,_,_,_=>none
 | q+1,f,k,out => @ite _ (k<n∧k<w) (Classical.propDecidable _) (@ite _ ((lsZ f n w k).1<0) (Classical.propDecidable _) (some out)
   (@ite _ (bdE 1073741824 n w (rwF k (swF k (lsZ f n w k).1.toNat (lsZ f n w k).2.toNat f))∧bdE 1073741824 n w (rstF k (swF k (lsZ f n w k).1.toNat (lsZ f n w k).2.toNat f))) (Classical.propDecidable _)
    (@ite _ (clnP n w k (swF k (lsZ f n w k).1.toNat (lsZ f n w k).2.toNat f)) (Classical.propDecidable _)
     (@ite _ (odZ (rstF k (swF k (lsZ f n w k).1.toNat (lsZ f n w k).2.toNat f)) n w k<0) (Classical.propDecidable _)
      (smR n w q (rstF k (swF k (lsZ f n w k).1.toNat (lsZ f n w k).2.toNat f)) (k+1) (out++[((rstF k (swF k (lsZ f n w k).1.toNat (lsZ f n w k).2.toNat f) k k).natAbs:Int)]))
      (@ite _ (bdE 1073741824 n w (addF k (odZ (rstF k (swF k (lsZ f n w k).1.toNat (lsZ f n w k).2.toNat f)) n w k).toNat (rstF k (swF k (lsZ f n w k).1.toNat (lsZ f n w k).2.toNat f)))) (Classical.propDecidable _)
       (smR n w q (addF k (odZ (rstF k (swF k (lsZ f n w k).1.toNat (lsZ f n w k).2.toNat f)) n w k).toNat (rstF k (swF k (lsZ f n w k).1.toNat (lsZ f n w k).2.toNat f))) k out) none))
     (smR n w q (rstF k (swF k (lsZ f n w k).1.toNat (lsZ f n w k).2.toNat f)) k out)) none)) (some out)
section
variable {n w q k : Nat} {f : Nat → Nat → Int} {out R : List Int}
theorem smR_end (h:¬(k<n∧k<w)):smR n w (q+1) f k out=some out:=by rw [smR,if_neg h]
theorem smR_zero (h:k<n∧k<w) (h1:lsZ f n w k=(-1,-1)):smR n w (q+1) f k out=some out:=by rw [smR,if_pos h,if_pos (by rw [h1]; decide)]
variable {i j : Nat}
theorem smR_go (h : k < n ∧ k < w) (h1 : lsZ f n w k = ((i : Int), (j : Int))) : smR n w (q + 1) f k out = 
      (@ite _ (bdE 1073741824 n w (rwF k (swF k i j f)) ∧ bdE 1073741824 n w (rstF k (swF k i j f))) (Classical.propDecidable _)
        (@ite _ (clnP n w k (swF k i j f)) (Classical.propDecidable _)
          (@ite _ (odZ (rstF k (swF k i j f)) n w k < 0) (Classical.propDecidable _)
            (smR n w q (rstF k (swF k i j f)) (k + 1) (out ++ [((rstF k (swF k i j f) k k).natAbs : Int)]))
            (@ite _ (bdE 1073741824 n w (addF k (odZ (rstF k (swF k i j f)) n w k).toNat (rstF k (swF k i j f)))) (Classical.propDecidable _)
              (smR n w q (addF k (odZ (rstF k (swF k i j f)) n w k).toNat (rstF k (swF k i j f))) k out) none))
          (smR n w q (rstF k (swF k i j f)) k out)) none) := by
  have e1 : (lsZ f n w k).1.toNat = i := by rw [h1]; simp
  have e2 : (lsZ f n w k).2.toNat = j := by rw [h1]; simp
  rw [smR, if_pos h, if_neg (by rw [h1]; simp only; omega), e1, e2]
theorem smR_bd (h:k<n∧k<w) (h1:lsZ f n w k=((i:Int),(j:Int))) (hR:smR n w (q+1) f k out=some R):bdE 1073741824 n w (rwF k (swF k i j f))∧bdE 1073741824 n w (rstF k (swF k i j f)):=by
 rw [smR_go h h1] at hR
 by_cases hc:bdE 1073741824 n w (rwF k (swF k i j f))∧bdE 1073741824 n w (rstF k (swF k i j f))
 ·exact hc
 ·rw [if_neg hc] at hR; cases hR
theorem smR_dirty (h:k<n∧k<w) (h1:lsZ f n w k=((i:Int),(j:Int))) (hb:bdE 1073741824 n w (rwF k (swF k i j f))∧bdE 1073741824 n w (rstF k (swF k i j f))) (hc:¬clnP n w k (swF k i j f)):smR n w (q+1) f k out=smR n w q (rstF k (swF k i j f)) k out:=by
 rw [smR_go h h1,if_pos hb,if_neg hc]
theorem smR_done (h:k<n∧k<w) (h1:lsZ f n w k=((i:Int),(j:Int))) (hb:bdE 1073741824 n w (rwF k (swF k i j f))∧bdE 1073741824 n w (rstF k (swF k i j f))) (hc:clnP n w k (swF k i j f)) (ho:odZ (rstF k (swF k i j f)) n w k<0):smR n w (q+1) f k out=smR n w q (rstF k (swF k i j f)) (k+1) (out++[((rstF k (swF k i j f) k k).natAbs:Int)]):=by
 rw [smR_go h h1,if_pos hb,if_pos hc,if_pos ho]
theorem smR_odd {o:Nat} (h:k<n∧k<w) (h1:lsZ f n w k=((i:Int),(j:Int))) (hb:bdE 1073741824 n w (rwF k (swF k i j f))∧bdE 1073741824 n w (rstF k (swF k i j f))) (hc:clnP n w k (swF k i j f)) (ho:odZ (rstF k (swF k i j f)) n w k=(o:Int)) :
  smR n w (q+1) f k out = @ite _ (bdE 1073741824 n w (addF k o (rstF k (swF k i j f)))) (Classical.propDecidable _) (smR n w q (addF k o (rstF k (swF k i j f))) k out) none:=by
 rw [smR_go h h1,if_pos hb,if_pos hc,if_neg (by rw [ho]; omega),ho,Int.toNat_natCast]
end
theorem smR_mono {n w:Nat}:∀ (q:Nat) (f:Nat→Nat→Int) (k:Nat) (out R:List Int),smR n w q f k out=some R→smR n w (q+1) f k out=some R
 | 0,_,_,_,_,h=>by simp [smR] at h
 | q+1,f,k,out,R,h=>by
  by_cases hk:k<n∧k<w
  rotate_left
  ·rw [smR_end hk] at h ⊢; exact h
  rcases lsI_P (f:=f) (n:=n) (w:=w) (k:=k) (.inl rfl) (n-k) (by omega) with e | ⟨s1,s2,s3,s4,s5⟩
  ·rw [smR_zero hk e] at h ⊢; exact h
  ·have e:lsZ f n w k=(((lsZ f n w k).1.toNat:Int),((lsZ f n w k).2.toNat:Int)):=by
    have h1:0≤(lsZ f n w k).1:=s1
    have h2:0≤(lsZ f n w k).2:=s3
    rw [Int.toNat_of_nonneg h1,Int.toNat_of_nonneg h2]
   have hb:=smR_bd hk e h
   by_cases hc:clnP n w k (swF k (lsZ f n w k).1.toNat (lsZ f n w k).2.toNat f)
   rotate_left
   ·rw [smR_dirty hk e hb hc] at h ⊢
    exact smR_mono q _ _ _ _ h
   by_cases ho:odZ (rstF k (swF k (lsZ f n w k).1.toNat (lsZ f n w k).2.toNat f)) n w k<0
   ·rw [smR_done hk e hb hc ho] at h ⊢
    exact smR_mono q _ _ _ _ h
   ·have eo:odZ (rstF k (swF k (lsZ f n w k).1.toNat (lsZ f n w k).2.toNat f)) n w k=((odZ (rstF k (swF k (lsZ f n w k).1.toNat (lsZ f n w k).2.toNat f)) n w k).toNat:Int):=by omega
    rw [smR_odd hk e hb hc eo] at h ⊢
    split at h
    ·rename_i hbb
     rw [if_pos hbb]
     exact smR_mono q _ _ _ _ h
    ·cases h
theorem smR_le {n w q q':Nat} {f:Nat→Nat→Int} {k:Nat} {out R:List Int} (h:smR n w q f k out=some R) (hq:q≤q'):smR n w q' f k out=some R:=by
 obtain ⟨d,rfl⟩:∃ d,q'=q+d:=⟨q' - q,by omega⟩
 induction d with
 | zero=>exact h
 | succ d ih=>exact smR_mono _ _ _ _ _ (ih (by omega))
open Classical in
noncomputable def smV (n w:Nat) (f:Nat→Nat→Int):Option (List Int):=if h:∃ R:List Int,∃ q,smR n w q f 0 []=some R then some (Classical.choose h) else none
theorem smV_iff {n w:Nat} {f:Nat→Nat→Int} {R:List Int}:smV n w f=some R↔∃ q,smR n w q f 0 []=some R:=by
 unfold smV
 constructor
 ·intro h
  split at h
  ·rename_i hh
   simp only [Option.some.injEq] at h
   exact h ▸ Classical.choose_spec hh
  ·cases h
 ·rintro ⟨q,hq⟩
  have hh:∃ R:List Int,∃ q,smR n w q f 0 []=some R:=⟨R,q,hq⟩
  rw [dif_pos hh]
  obtain ⟨q',hq'⟩:=Classical.choose_spec hh
  have h1:=smR_le hq (Nat.le_max_left q q')
  have h2:=smR_le hq' (Nat.le_max_right q q')
  rw [h1] at h2
  exact h2.symm
noncomputable def rgS (k:Nat) (nw f:Nat→Nat→Int) (i a b:Nat):Int:=@ite _ (k<a∧a<i∧k≤b) (Classical.propDecidable _) (nw a b) (f a b)
noncomputable def cgS (k:Nat) (nw f:Nat→Nat→Int) (j a b:Nat):Int:=@ite _ (k≤a∧k<b∧b<j) (Classical.propDecidable _) (nw a b) (f a b)
noncomputable def rgF (k:Nat) (nw f:Nat→Nat→Int) (a b:Nat):Int:=@ite _ (k<a∧k≤b) (Classical.propDecidable _) (nw a b) (f a b)
noncomputable def cgF (k:Nat) (nw f:Nat→Nat→Int) (a b:Nat):Int:=@ite _ (k≤a∧k<b) (Classical.propDecidable _) (nw a b) (f a b)
noncomputable def cgT (k:Nat) (nw f:Nat→Nat→Int) (j i a b:Nat):Int:=@ite _ (k≤a∧k<b∧(b<j∨(b=j∧a<i))) (Classical.propDecidable _) (nw a b) (f a b)
theorem rgS_start {n w k:Nat} (nw f:Nat→Nat→Int):matF n w (rgS k nw f (k+1))=matF n w f:=matF_congr fun a b _ _=>by unfold rgS; rw [if_neg (by omega)]
theorem rgS_row {w k i:Nat} {nw f:Nat→Nat→Int}:rowF w (rgS k nw f i i)=rowF w (f i):=rowF_congr fun b _=>by unfold rgS; rw [if_neg (by omega)]
theorem rgS_top {w k i:Nat} {nw f:Nat→Nat→Int}:rowF w (rgS k nw f i k)=rowF w (f k):=rowF_congr fun b _=>by unfold rgS; rw [if_neg (by omega)]
theorem rgS_step {n w k i:Nat} {nw f:Nat→Nat→Int} (hi:k<i) (hin:i<n):(matF n w (rgS k nw f i)).set i (rowW w k (f i) (nw i) w)=matF n w (rgS k nw f (i+1)):=by
 unfold rowW
 rw [matF_set _ hin]
 refine matF_congr fun a b _ hb => ?_
 by_cases e:a=i
 ·subst e
  rw [if_pos rfl]
  unfold rgS
  by_cases h:k≤b
  ·rw [if_pos ⟨h,hb⟩,if_pos (by omega)]
  ·rw [if_neg (by omega),if_neg (by omega)]
 ·rw [if_neg e]
  unfold rgS
  by_cases h:k<a∧a<i∧k≤b
  ·rw [if_pos h,if_pos (by omega)]
  ·rw [if_neg h,if_neg (by omega)]
theorem rgS_full {n w k:Nat} (nw f:Nat→Nat→Int):matF n w (rgS k nw f n)=matF n w (rgF k nw f):=matF_congr fun a b ha _=>by
 unfold rgS rgF
 by_cases h:k<a∧k≤b
 ·rw [if_pos h,if_pos (by omega)]
 ·rw [if_neg h,if_neg (by omega)]
theorem cgT_start {n w k j:Nat} (nw f:Nat→Nat→Int):matF n w (cgT k nw f j k)=matF n w (cgS k nw f j):=matF_congr fun a b _ _=>by
 unfold cgT cgS
 by_cases h:k≤a∧k<b∧b<j
 ·rw [if_pos (by omega),if_pos h]
 ·rw [if_neg (by omega),if_neg h]
theorem cgT_full {n w k j:Nat} (nw f:Nat→Nat→Int):matF n w (cgT k nw f j n)=matF n w (cgS k nw f (j+1)):=matF_congr fun a b ha _=>by
 unfold cgT cgS
 by_cases h:k≤a∧k<b∧b<j+1
 ·rw [if_pos (by omega),if_pos h]
 ·rw [if_neg (by omega),if_neg h]
theorem cgS_start {n w k:Nat} (nw f:Nat→Nat→Int):matF n w (cgS k nw f (k+1))=matF n w f:=matF_congr fun a b _ _=>by unfold cgS; rw [if_neg (by omega)]
theorem cgS_full {n w k:Nat} (nw f:Nat→Nat→Int):matF n w (cgS k nw f w)=matF n w (cgF k nw f):=matF_congr fun a b _ hb=>by
 unfold cgS cgF
 by_cases h:k≤a∧k<b
 ·rw [if_pos (by omega),if_pos h]
 ·rw [if_neg (by omega),if_neg h]
theorem cgT_set {n w k j i:Nat} {nw f:Nat→Nat→Int} (hi:k≤i) (hin:i<n) (hj:k<j) (hjw:j<w):(matF n w (cgT k nw f j i)).set i ((rowF w (cgT k nw f j i i)).set j (nw i j))=matF n w (cgT k nw f j (i+1)):=by
 rw [rowF_set hjw,matF_set _ hin]
 refine matF_congr fun a b _ hb => ?_
 by_cases e:a=i
 ·subst e
  rw [if_pos rfl]
  unfold cgT
  by_cases e2:b=j
  ·rw [if_pos e2,e2,if_pos (by omega)]
  ·rw [if_neg e2]
   by_cases h:k≤a∧k<b∧(b<j∨b=j∧a<a)
   ·rw [if_pos h,if_pos (by omega)]
   ·rw [if_neg h,if_neg (by omega)]
 ·rw [if_neg e]
  unfold cgT
  by_cases h:k≤a∧k<b∧(b<j∨(b=j∧a<i))
  ·rw [if_pos h,if_pos (by omega)]
  ·rw [if_neg h,if_neg (by omega)]
theorem cgT_old {k j i a:Nat} {nw f:Nat→Nat→Int} (h:i≤a):cgT k nw f j i a j=f a j:=by unfold cgT; rw [if_neg (by omega)]
theorem cgT_k {k j i a:Nat} {nw f:Nat→Nat→Int}:cgT k nw f j i a k=f a k:=by unfold cgT; rw [if_neg (by omega)]
theorem cgS_top {k j:Nat} {nw f:Nat→Nat→Int} {b:Nat} (h:j≤b∨b≤k):cgS k nw f j k b=f k b:=by unfold cgS; rw [if_neg (by omega)]
theorem cgS_done {k j:Nat} {nw f:Nat→Nat→Int} (h:k<j):cgS k nw f (j+1) k j=cgF k nw f k j:=by
 unfold cgS cgF
 rw [if_pos (by omega),if_pos (by omega)]
theorem rgF_top {k:Nat} {nw f:Nat→Nat→Int} {b:Nat}:rgF k nw f k b=f k b:=by unfold rgF; rw [if_neg (by omega)]
noncomputable def F_i_restModT:List V→Option V:=F2 dI dI fun a p => @ite _ (1≤p∧p≤1073741824 ∧ -4611686018427387904≤a∧a≤4611686018427387904) (Classical.propDecidable _) (some (.int .i64 (a % p))) none
theorem fn_i_restModT:FnOk Tryz.prog 92 F_i_restModT:=by
 refine fn_ok code_i_restMod mixed envNil_ok ?_
 intro args r h hb
 obtain ⟨_,_,a,p,rfl,h1,h2,h4⟩:=F2_inv h
 cases dI_inv h1
 cases dI_inv h2
 simp only [Option.ite_none_right_eq_some,Option.some.injEq] at h4
 obtain ⟨⟨hp,hp2,ha,ha2⟩,rfl⟩:=h4
 clear h
 refine ⟨by simp,fun w0 U0 L0 N0 => ?_⟩
 clear hb
 have p3:¬p=0:=by omega
 have hm1:=Int.emod_nonneg a p3
 have hm2:=Int.emod_lt_of_pos a (show 0<p by omega)
 have hbb:=tdivB (a:=a) (b:=p) (B:=4611686018427387904) ⟨by omega,by omega⟩
 have hneg:a.tmod p<0→a.tmod p+p=a % p:=fun h=>by
  have h0:a<0:=by
   refine Int.not_le.1 fun h0 => ?_
   have:=Int.tmod_nonneg p h0
   omega
  have h1:=tmod_neg p h0
  have h2:=Int.emod_nonneg (-a) p3
  have h3:=Int.emod_lt_of_pos (-a) (show 0<p by omega)
  have h4:=Int.emod_add_mul_ediv a p
  have h5:=Int.emod_add_mul_ediv (-a) p
  have h6:a % p+(-a) % p=p*(-(a / p)-(-a) / p):=by rw [Int.mul_sub,Int.mul_neg]; omega
  have h7:(-a) % p≠0:=by omega
  generalize -(a / p)-(-a) / p=q at h6
  have h8:q=1:=by
   have g1:0<p*q:=by omega
   have g2:p*q<p*2:=by omega
   have g3:0<q:=by
    refine Int.not_le.1 fun h => ?_
    have:=Int.mul_nonpos_of_nonneg_of_nonpos (show 0≤p by omega) h
    omega
   have g4:q<2:=Int.lt_of_mul_lt_mul_left g2 (by omega)
   omega
  subst h8
  omega
 have hpos:¬a.tmod p<0→a.tmod p=a % p:=fun h=>by
  by_cases h0:0≤a
  ·exact tmod_nn p h0
  ·have h1:=tmod_neg (a:=a) p (by omega)
   have h2:=Int.emod_nonneg (-a) p3
   have h9:(-a) % p=0:=by omega
   have h10:p ∣ -a:=Int.dvd_of_emod_eq_zero h9
   have h11:a % p=0:=Int.emod_eq_zero_of_dvd ((Int.dvd_neg).1 h10)
   omega
 by_cases ht:a.tmod p<0
 ·have e:=hneg ht
  have hw:IntKind.i64.wrap (a.tmod p+p)=a % p:=by rw [wrapI _ (by omega) (by omega),e]
  simp -implicitDefEqProofs [sc_i_restMod,p3,ht,hw]
 ·have e:=hpos ht
  have hn:¬a % p<0:=by omega
  simp -implicitDefEqProofs [sc_i_restMod,p3,ht,hn,e]
  try omega
def sc_i_clearCross_L6:SC:=(.cut (.seq (.reg [⟨some 111,none,.mov (.t 13)⟩,⟨some 112,none,.mov (.t 0)⟩,⟨some 113,none,.len (.t 112)⟩,⟨some 114,none,.bin false .lss (.t 111) (.t 113)⟩,⟨some 115,none,.mov (.t 114)⟩,⟨some 116,some (115,true),.mov (.t 12)⟩,⟨some 117,some (115,true),.bin false .neq (.t 116) (.c (.int .i64 0))⟩,⟨some 118,none,.pick (.t 115) (.t 117) (.c (.bool false))⟩]) (.cond (.t 118) .skip (.exit 6))) (.seq (.block 7 (.dreg [⟨⟨some 121,none,.mov (.t 0)⟩,false,false⟩,⟨⟨some 122,none,.mov (.t 13)⟩,false,false⟩,⟨⟨some 123,none,.idx 1 (.t 121) (.t 122)⟩,false,false⟩,⟨⟨some 124,none,.ld none .nil (.t 123)⟩,false,false⟩,⟨⟨some 125,none,.mov (.t 11)⟩,false,false⟩,⟨⟨some 126,none,.mov (.t 0)⟩,false,false⟩,⟨⟨some 127,none,.mov (.t 13)⟩,false,false⟩,⟨⟨some 128,none,.idx 1 (.t 126) (.t 127)⟩,false,false⟩,⟨⟨some 129,none,.ld none .nil (.t 128)⟩,false,false⟩,⟨⟨some 130,none,.mov (.t 11)⟩,false,false⟩,⟨⟨some 131,none,.idx 1 (.t 129) (.t 130)⟩,false,false⟩,⟨⟨some 132,none,.ld none (.int .i64 0) (.t 131)⟩,false,false⟩,⟨⟨some 133,none,.mov (.t 12)⟩,false,false⟩,⟨⟨some 134,none,.mov (.t 0)⟩,false,false⟩,⟨⟨some 135,none,.mov (.t 13)⟩,false,false⟩,⟨⟨some 136,none,.idx 1 (.t 134) (.t 135)⟩,false,false⟩,⟨⟨some 137,none,.ld none .nil (.t 136)⟩,false,false⟩,⟨⟨some 138,none,.mov (.t 1)⟩,false,false⟩,⟨⟨some 139,none,.idx 1 (.t 137) (.t 138)⟩,false,false⟩,⟨⟨some 140,none,.ld none (.int .i64 0) (.t 139)⟩,false,false⟩,⟨⟨some 141,none,.bin false .mul (.t 133) (.t 140)⟩,false,false⟩,⟨⟨some 142,none,.bin false .sub (.t 132) (.t 141)⟩,false,false⟩,⟨⟨some 143,none,.mov (.t 2)⟩,false,false⟩,⟨⟨some 144,none,.call 92 [.t 142,.t 143]⟩,false,false⟩,⟨⟨some 145,none,.idx 1 (.t 124) (.t 125)⟩,false,false⟩,⟨⟨none,none,.st 1 (.t 145) (.t 144)⟩,true,false⟩])) (.reg [⟨some 119,none,.mov (.t 13)⟩,⟨some 120,none,.bin false .add (.t 119) (.c (.int .i64 1))⟩,⟨some 13,none,.mov (.t 120)⟩])))
def sc_i_clearCross_L4:SC:=(.cut (.seq (.reg [⟨some 86,none,.mov (.t 11)⟩,⟨some 87,none,.mov (.t 0)⟩,⟨some 88,none,.mov (.t 1)⟩,⟨some 89,none,.idx 1 (.t 87) (.t 88)⟩,⟨some 90,none,.ld none .nil (.t 89)⟩,⟨some 91,none,.len (.t 90)⟩,⟨some 92,none,.bin false .lss (.t 86) (.t 91)⟩]) (.cond (.t 92) .skip (.exit 4))) (.seq (.block 5 (.seq (.dreg [⟨⟨some 95,none,.mov (.t 0)⟩,false,false⟩,⟨⟨some 96,none,.mov (.t 1)⟩,false,false⟩,⟨⟨some 97,none,.idx 1 (.t 95) (.t 96)⟩,false,false⟩,⟨⟨some 98,none,.ld none .nil (.t 97)⟩,false,false⟩,⟨⟨some 99,none,.mov (.t 11)⟩,false,false⟩,⟨⟨some 100,none,.idx 1 (.t 98) (.t 99)⟩,false,false⟩,⟨⟨some 101,none,.ld none (.int .i64 0) (.t 100)⟩,false,false⟩,⟨⟨some 102,none,.mov (.t 0)⟩,false,false⟩,⟨⟨some 103,none,.mov (.t 1)⟩,false,false⟩,⟨⟨some 104,none,.idx 1 (.t 102) (.t 103)⟩,false,false⟩,⟨⟨some 105,none,.ld none .nil (.t 104)⟩,false,false⟩,⟨⟨some 106,none,.mov (.t 1)⟩,false,false⟩,⟨⟨some 107,none,.idx 1 (.t 105) (.t 106)⟩,false,false⟩,⟨⟨some 108,none,.ld none (.int .i64 0) (.t 107)⟩,false,false⟩,⟨⟨some 109,none,.bin false .quo (.t 101) (.t 108)⟩,false,false⟩,⟨⟨some 12,none,.mov (.t 109)⟩,false,false⟩]) (.seq (.seq (.reg [⟨some 110,none,.mov (.t 1)⟩,⟨some 13,none,.mov (.t 110)⟩]) (.block 6 (.loop sc_i_clearCross_L6))) (.seq (.reg [⟨some 146,none,.mov (.t 0)⟩,⟨some 147,none,.mov (.t 1)⟩,⟨some 148,none,.idx 1 (.t 146) (.t 147)⟩,⟨some 149,none,.ld none .nil (.t 148)⟩,⟨some 150,none,.mov (.t 11)⟩,⟨some 151,none,.idx 1 (.t 149) (.t 150)⟩,⟨some 152,none,.ld none (.int .i64 0) (.t 151)⟩,⟨some 153,none,.bin false .neq (.t 152) (.c (.int .i64 0))⟩]) (.cond (.t 153) (.reg [⟨some 7,none,.mov (.c (.bool false))⟩]) .skip))))) (.reg [⟨some 93,none,.mov (.t 11)⟩,⟨some 94,none,.bin false .add (.t 93) (.c (.int .i64 1))⟩,⟨some 11,none,.mov (.t 94)⟩])))
def sc_i_clearCross_L2:SC:=(.cut (.seq (.reg [⟨some 38,none,.mov (.t 10)⟩,⟨some 39,none,.mov (.t 0)⟩,⟨some 40,none,.mov (.t 8)⟩,⟨some 41,none,.idx 1 (.t 39) (.t 40)⟩,⟨some 42,none,.ld none .nil (.t 41)⟩,⟨some 43,none,.len (.t 42)⟩,⟨some 44,none,.bin false .lss (.t 38) (.t 43)⟩,⟨some 45,none,.mov (.t 44)⟩,⟨some 46,some (45,true),.mov (.t 9)⟩,⟨some 47,some (45,true),.bin false .neq (.t 46) (.c (.int .i64 0))⟩,⟨some 48,none,.pick (.t 45) (.t 47) (.c (.bool false))⟩]) (.cond (.t 48) .skip (.exit 2))) (.seq (.block 3 (.dreg [⟨⟨some 51,none,.mov (.t 0)⟩,false,false⟩,⟨⟨some 52,none,.mov (.t 8)⟩,false,false⟩,⟨⟨some 53,none,.idx 1 (.t 51) (.t 52)⟩,false,false⟩,⟨⟨some 54,none,.ld none .nil (.t 53)⟩,false,false⟩,⟨⟨some 55,none,.mov (.t 10)⟩,false,false⟩,⟨⟨some 56,none,.mov (.t 0)⟩,false,false⟩,⟨⟨some 57,none,.mov (.t 8)⟩,false,false⟩,⟨⟨some 58,none,.idx 1 (.t 56) (.t 57)⟩,false,false⟩,⟨⟨some 59,none,.ld none .nil (.t 58)⟩,false,false⟩,⟨⟨some 60,none,.mov (.t 10)⟩,false,false⟩,⟨⟨some 61,none,.idx 1 (.t 59) (.t 60)⟩,false,false⟩,⟨⟨some 62,none,.ld none (.int .i64 0) (.t 61)⟩,false,false⟩,⟨⟨some 63,none,.mov (.t 9)⟩,false,false⟩,⟨⟨some 64,none,.mov (.t 0)⟩,false,false⟩,⟨⟨some 65,none,.mov (.t 1)⟩,false,false⟩,⟨⟨some 66,none,.idx 1 (.t 64) (.t 65)⟩,false,false⟩,⟨⟨some 67,none,.ld none .nil (.t 66)⟩,false,false⟩,⟨⟨some 68,none,.mov (.t 10)⟩,false,false⟩,⟨⟨some 69,none,.idx 1 (.t 67) (.t 68)⟩,false,false⟩,⟨⟨some 70,none,.ld none (.int .i64 0) (.t 69)⟩,false,false⟩,⟨⟨some 71,none,.bin false .mul (.t 63) (.t 70)⟩,false,false⟩,⟨⟨some 72,none,.bin false .sub (.t 62) (.t 71)⟩,false,false⟩,⟨⟨some 73,none,.mov (.t 2)⟩,false,false⟩,⟨⟨some 74,none,.call 92 [.t 72,.t 73]⟩,false,false⟩,⟨⟨some 75,none,.idx 1 (.t 54) (.t 55)⟩,false,false⟩,⟨⟨none,none,.st 1 (.t 75) (.t 74)⟩,true,false⟩])) (.reg [⟨some 49,none,.mov (.t 10)⟩,⟨some 50,none,.bin false .add (.t 49) (.c (.int .i64 1))⟩,⟨some 10,none,.mov (.t 50)⟩])))
def sc_i_clearCross_L0:SC:=(.cut (.seq (.reg [⟨some 16,none,.mov (.t 8)⟩,⟨some 17,none,.mov (.t 0)⟩,⟨some 18,none,.len (.t 17)⟩,⟨some 19,none,.bin false .lss (.t 16) (.t 18)⟩]) (.cond (.t 19) .skip (.exit 0))) (.seq (.block 1 (.seq (.dreg [⟨⟨some 22,none,.mov (.t 0)⟩,false,false⟩,⟨⟨some 23,none,.mov (.t 8)⟩,false,false⟩,⟨⟨some 24,none,.idx 1 (.t 22) (.t 23)⟩,false,false⟩,⟨⟨some 25,none,.ld none .nil (.t 24)⟩,false,false⟩,⟨⟨some 26,none,.mov (.t 1)⟩,false,false⟩,⟨⟨some 27,none,.idx 1 (.t 25) (.t 26)⟩,false,false⟩,⟨⟨some 28,none,.ld none (.int .i64 0) (.t 27)⟩,false,false⟩,⟨⟨some 29,none,.mov (.t 0)⟩,false,false⟩,⟨⟨some 30,none,.mov (.t 1)⟩,false,false⟩,⟨⟨some 31,none,.idx 1 (.t 29) (.t 30)⟩,false,false⟩,⟨⟨some 32,none,.ld none .nil (.t 31)⟩,false,false⟩,⟨⟨some 33,none,.mov (.t 1)⟩,false,false⟩,⟨⟨some 34,none,.idx 1 (.t 32) (.t 33)⟩,false,false⟩,⟨⟨some 35,none,.ld none (.int .i64 0) (.t 34)⟩,false,false⟩,⟨⟨some 36,none,.bin false .quo (.t 28) (.t 35)⟩,false,false⟩,⟨⟨some 9,none,.mov (.t 36)⟩,false,false⟩]) (.seq (.seq (.reg [⟨some 37,none,.mov (.t 1)⟩,⟨some 10,none,.mov (.t 37)⟩]) (.block 2 (.loop sc_i_clearCross_L2))) (.seq (.reg [⟨some 76,none,.mov (.t 0)⟩,⟨some 77,none,.mov (.t 8)⟩,⟨some 78,none,.idx 1 (.t 76) (.t 77)⟩,⟨some 79,none,.ld none .nil (.t 78)⟩,⟨some 80,none,.mov (.t 1)⟩,⟨some 81,none,.idx 1 (.t 79) (.t 80)⟩,⟨some 82,none,.ld none (.int .i64 0) (.t 81)⟩,⟨some 83,none,.bin false .neq (.t 82) (.c (.int .i64 0))⟩]) (.cond (.t 83) (.reg [⟨some 7,none,.mov (.c (.bool false))⟩]) .skip))))) (.reg [⟨some 20,none,.mov (.t 8)⟩,⟨some 21,none,.bin false .add (.t 20) (.c (.int .i64 1))⟩,⟨some 8,none,.mov (.t 21)⟩])))
def sc_i_clearCross:SC:=(.seq (.reg [⟨some 6,none,.mov (.c (.bool false))⟩]) (.seq (.reg [⟨some 7,none,.mov (.c (.bool true))⟩]) (.seq (.seq (.reg [⟨some 14,none,.mov (.t 1)⟩,⟨some 15,none,.bin false .add (.t 14) (.c (.int .i64 1))⟩,⟨some 8,none,.mov (.t 15)⟩]) (.block 0 (.loop sc_i_clearCross_L0))) (.seq (.seq (.reg [⟨some 84,none,.mov (.t 1)⟩,⟨some 85,none,.bin false .add (.t 84) (.c (.int .i64 1))⟩,⟨some 11,none,.mov (.t 85)⟩]) (.block 4 (.loop sc_i_clearCross_L4))) (.seq (.reg [⟨some 154,none,.mov (.t 7)⟩,⟨some 6,none,.mov (.t 154)⟩]) .ret)))))
theorem code_i_clearCross:fnCode Tryz.prog [666666,555555] 64=some (155,sc_i_clearCross,[(6,none)]):=by kernel_rfl
def rmV (t:Int) (k:Nat) (f:Nat→Nat→Int) (a b:Nat):Int:=rwV k f a b % t
def cmV (t:Int) (k:Nat) (f:Nat→Nat→Int) (a b:Nat):Int:=clV k f a b % t
noncomputable def rmF (t:Int) (k:Nat) (f:Nat→Nat→Int):Nat→Nat→Int:=rgF k (rmV t k f) f
noncomputable def crF (t:Int) (k:Nat) (f:Nat→Nat→Int):Nat→Nat→Int:=cgF k (cmV t k (rmF t k f)) (rmF t k f)
def ccP (t:Int) (n w k:Nat) (f:Nat→Nat→Int):Prop:=(∀ a,k<a→a<n→rmF t k f a k=0)∧∀ b,k<b→b<w→crF t k f k b=0
def modE (t:Int) (n w:Nat) (f:Nat→Nat→Int):Prop:=∀ i j,i<n→j<w→0≤f i j∧f i j<t
theorem modE_bd {t:Int} {n w:Nat} {f:Nat→Nat→Int} (h:modE t n w f) (ht:t≤1073741824):bdE 1073741824 n w f:=fun i j hi hj=>by have:=h i j hi hj; omega
theorem modE_rm {t:Int} {n w k:Nat} {f:Nat→Nat→Int} (h:modE t n w f) (ht:1≤t):modE t n w (rmF t k f):=fun i j hi hj=>by
 unfold rmF rgF rmV
 split
 ·exact ⟨Int.emod_nonneg _ (by omega),Int.emod_lt_of_pos _ (by omega)⟩
 ·exact h i j hi hj
theorem modE_cr {t:Int} {n w k:Nat} {f:Nat→Nat→Int} (h:modE t n w f) (ht:1≤t):modE t n w (crF t k f):=fun i j hi hj=>by
 unfold crF cgF cmV
 split
 ·exact ⟨Int.emod_nonneg _ (by omega),Int.emod_lt_of_pos _ (by omega)⟩
 ·exact modE_rm h ht i j hi hj
structure ccO (t:Int) (k:Nat) (M:List (List Int)):Prop where
 dim:dimM M
 kn:k<M.length
 kw:k<wdM M
 nz:ent M k k≠0
 t1:1≤t
 t2:t≤1073741824
 b0:modE t M.length (wdM M) (ent M)
noncomputable def G_i_clearCross:List V→List V→Option (V×List V)
 | [.sl 0 1 0 m,.int .i64 k,.int .i64 t],cells=>(dRowsV cells).bind fun M => @ite _ (m=M.length∧0≤k∧ccO t k.toNat M) (Classical.propDecidable _) (some (.bool (dec (ccP t M.length (wdM M) k.toNat (ent M))),rowsV (matF M.length (wdM M) (crF t k.toNat (ent M))))) none
 | _,_=>none
theorem ln_i_clearCross:LendOk Tryz.prog 64 0 G_i_clearCross:=by
 have env:=(envNil_ok (P:=Tryz.prog)).add fn_i_restModT
 refine fn_lend code_i_clearCross mixed env ?_
 intro args cells r cells' hG hb
 unfold G_i_clearCross at hG
 split at hG
 case h_2=>simp at hG
 rename_i m k t
 obtain ⟨M,h1,h2⟩:=Option.bind_eq_some_iff.1 hG
 have hc:=dRowsV_inv h1
 subst hc
 simp only [Option.ite_none_right_eq_some,Option.some.injEq,Prod.mk.injEq] at h2
 obtain ⟨⟨rfl,hk0,⟨⟨hr,hn,hw⟩,hkn,hkw,hnz,ht1,ht2,b0⟩⟩,rfl,rfl⟩:=h2
 obtain ⟨k,rfl⟩:∃ n:Nat,k=n:=⟨k.toNat,by omega⟩
 simp only [Int.toNat_natCast] at *
 clear hG h1 hb
 have hself:=matF_self hr
 generalize wdM M=w at *
 generalize hf:ent M=f at *
 generalize hnn:M.length=n at *
 rw [← hself]
 clear hself hr hf
 have b1:modE t n w (rmF t k f):=modE_rm b0 ht1
 have b2:modE t n w (crF t k f):=modE_cr b0 ht1
 have bb0:=modE_bd b0 ht2
 have bb1:=modE_bd b1 ht2
 refine ⟨by simp,fun w0 U0 L0 N0 => ?_⟩
 have hw1:IntKind.i64.wrap ((k:Int)+1)=((k+1:Nat):Int):=by rw [wrapI _ (by omega) (by omega)]; rfl
 have hRM:∀ x q y:Int,(-1073741824≤x∧x≤1073741824)→(-1073741824≤q∧q≤1073741824)→(-1073741824≤y∧y≤1073741824)→F_i_restModT [.int .i64 (x-q*y),.int .i64 t]=some (.int .i64 ((x-q*y) % t)):=fun x q y hx hq hy=>by
  have h1:=mulB2 (A:=1073741824) (B:=1073741824) hq hy
  simp only [F_i_restModT,F2_mk,dI_int,Option.bind_some]
  rw [if_pos ⟨ht1,ht2,by omega,by omega⟩]
 -- a row is changed
 have rowL:∀ (i:Nat) (Mi:List (List Int)) (cl:Bool) (Q:Post) (T0:Tm),k<i→i<n→Mi.length=n →
   subE T0 [(0,.sl 0 1 0 n),(1,.int .i64 (k:Int)),(2,.int .i64 t),(7,.bool cl),(8,.int .i64 (i:Int)),(9,.int .i64 ((f i k).tdiv (f k k))),(10,.int .i64 (k:Int))] →
   Q (.exit 2) [(0,.sl 0 1 0 n),(1,.int .i64 (k:Int)),(2,.int .i64 t),(7,.bool cl),(8,.int .i64 (i:Int))] ([(2,ints (rowF w (f k))),(1,ints (rowW w k (f i) (rmV t k f i) w)),(0,((rowsV Mi).set i (.sl 1 1 0 w)).set k (.sl 2 1 0 w))],3) →
   LoopI ⟨Tryz.prog,w0,U0,L0,N0,1,155⟩ [666666,555555] sc_i_clearCross_L2 Q T0 ([(2,ints (rowF w (f k))),(1,ints (rowF w (f i))),(0,((rowsV Mi).set i (.sl 1 1 0 w)).set k (.sl 2 1 0 w))],3):=by
  intro i Mi cl Q T0 hki hin hml hsub q1
  have hik:¬i=k:=by omega
  have hki':¬k=i:=by omega
  obtain ⟨hq1,hq2,hq3⟩:=quoB (c:=k) (d:=k) bb0 hin hkw
  have hqd:∀ j,rmV t k f i j=(f i j-(f i k).tdiv (f k k)*f k j) % t:=fun j=>rfl
  generalize rmV t k f i=new at *
  generalize (f i k).tdiv (f k k)=q at *
  have hstart:=rowW_start (w:=w) (k:=k) (old:=f i) (new:=new)
  by_cases hq0:q=0
  ·subst hq0
   have hsame:rowW w k (f i) new w=rowF w (f i):=rowF_congr fun b hb=>by
    split
    ·rw [hqd,Int.zero_mul,Int.sub_zero]
     have:=b0 i b hin hb
     exact Int.emod_eq_of_lt this.1 this.2
    ·rfl
   rw [hsame] at q1
   refine loopQ env mixed (fun _:Unit=>[(0,.sl 0 1 0 n),(1,.int .i64 (k:Int)),(2,.int .i64 t),(7,.bool cl),(8,.int .i64 (i:Int)),(9,.int .i64 0),(10,.int .i64 (k:Int))]) (fun _=>([(2,ints (rowF w (f k))),(1,ints (rowF w (f i))),(0,((rowsV Mi).set i (.sl 1 1 0 w)).set k (.sl 2 1 0 w))],3)) (fun _=>True) (fun _=>0) () trivial (SubI.slots rfl hsub) ?_
   intro _ _
   simp -implicitDefEqProofs [sc_i_clearCross_L2,hin,hkn,hik,hki',hml,hkw]
   repeat' (first | omega | apply And.intro)
   refine SubQ.of ?_ q1
   exact SubI.slots rfl (by simp)
  refine loopQ env mixed (fun j:Nat=>[(0,.sl 0 1 0 n),(1,.int .i64 (k:Int)),(2,.int .i64 t),(7,.bool cl),(8,.int .i64 (i:Int)),(9,.int .i64 q),(10,.int .i64 (j:Int))]) (fun j=>([(2,ints (rowF w (f k))),(1,ints (rowW w k (f i) new j)),(0,((rowsV Mi).set i (.sl 1 1 0 w)).set k (.sl 2 1 0 w))],3)) (fun j=>k≤j∧j≤w) (fun j=>w-j) k ⟨Nat.le_refl k,by omega⟩ (SubI.slots (by rw [hstart]) hsub) ?_
  rintro j ⟨hkj,hjw⟩
  by_cases hlt:j<w
  ·have hat:=rowW_at (k:=k) (old:=f i) (new:=new) hlt
   have hset:=rowW_set (old:=f i) (new:=new) hkj hlt
   have hrl:=rowW_len w k (f i) new j
   have hrk:(rowF w (f k)).length=w:=rowF_len _ _
   have hek:=rowF_at (g:=f k) hlt
   obtain ⟨w1,w2⟩:=subB (bb0 i j hin hlt) ⟨hq2,hq3⟩ (bb0 k j hkn hlt)
   have hF:=hRM (f i j) q (f k j) (bb0 i j hin hlt) ⟨hq2,hq3⟩ (bb0 k j hkn hlt)
   rw [← hqd j] at hF
   generalize rowW w k (f i) new j=g at *
   generalize rowF w (f k)=rk at *
   simp -implicitDefEqProofs [sc_i_clearCross_L2,hin,hkn,hik,hki',hml,hlt,hrl,hq0]
   repeat' (first | omega | apply And.intro)
   refine CutI.of (l':=[(0,.sl 0 1 0 n),(1,.int .i64 (k:Int)),(2,.int .i64 t),(7,.bool cl),(8,.int .i64 (i:Int)),(9,.int .i64 q),(10,.int .i64 (j:Int))]) (SubI.slots rfl (by simp)) ?_
   simp -implicitDefEqProofs [freeOk,hin,hkn,hik,hki',hml,hlt,hrl,hrk,hat,hek,w1,w2,hF,hset]
   repeat' (first | omega | apply And.intro)
   exact Again.of (j+1) (by omega) (by omega) (SubI.slots (by simp) (by simp (disch:=omega) [wrapI]))
  ·have:j=w:=by omega
   subst this
   simp -implicitDefEqProofs [sc_i_clearCross_L2,hin,hkn,hik,hki',hml]
   repeat' (first | omega | apply And.intro)
   refine SubQ.of ?_ q1
   exact SubI.slots rfl (by simp)
 have hlenS:=fun i=>matF_len n w (rgS k (rmV t k f) f i)
 simp -implicitDefEqProofs [sc_i_clearCross,hw1]
 have hC0:dec (∀ a,k<a→a<k+1→rmF t k f a k=0)=true:=dec_true fun a h1 h2=>by omega
 refine loopI env mixed (fun i:Nat=>[(0,.sl 0 1 0 n),(1,.int .i64 (k:Int)),(2,.int .i64 t),(7,.bool (dec (∀ a,k<a→a<i→rmF t k f a k=0))),(8,.int .i64 (i:Int))]) (fun i=>([(0,rowsV (matF n w (rgS k (rmV t k f) f i)))],1)) (fun i=>k<i∧i≤n) (fun i=>n-i) (k+1) (by omega) (SubI.slots (by simp [rgS_start]) (by simp [hC0])) ?_
 rintro i ⟨hki,hin⟩
 by_cases hlt:i<n
 ·have hik:¬i=k:=by omega
  have hki':¬k=i:=by omega
  have hml:=hlenS i
  have hai:=matF_at (w:=w) (f:=rgS k (rmV t k f) f i) hlt
  rw [rgS_row] at hai
  have hak:=matF_at (w:=w) (f:=rgS k (rmV t k f) f i) hkn
  rw [rgS_top] at hak
  have hst:=rgS_step (w:=w) (nw:=rmV t k f) (f:=f) hki hlt
  obtain ⟨hq1,hq2,hq3⟩:=quoB (c:=k) (d:=k) bb0 hlt hkw
  have hel:=rowF_at (g:=f i) hkw
  have hek:=rowF_at (g:=f k) hkw
  have hli:(rowF w (f i)).length=w:=rowF_len _ _
  have hlk:(rowF w (f k)).length=w:=rowF_len _ _
  have hin2:=rowL i (matF n w (rgS k (rmV t k f) f i))
  have hnew:at0 (rowW w k (f i) (rmV t k f i) w) k=rmF t k f i k:=by
   rw [rowW_at2 hkw (Nat.le_refl k)]
   unfold rmF rgF
   rw [if_pos ⟨hki,Nat.le_refl k⟩]
  have hnl:=rowW_len w k (f i) (rmV t k f i) w
  have hcl:dec (∀ a,k<a→a<i+1→rmF t k f a k=0)=(dec (∀ a,k<a→a<i→rmF t k f a k=0) && dec (rmF t k f i k=0)):=by
   by_cases h1:∀ a,k<a→a<i→rmF t k f a k=0
   ·by_cases h2:rmF t k f i k=0
    ·rw [dec_true h1,dec_true h2,dec_true fun a ha1 ha2 => ?_]
     ·rfl
     ·rcases Nat.lt_succ_iff_lt_or_eq.1 ha2 with h | rfl
      ·exact h1 a ha1 h
      ·exact h2
    ·rw [dec_false h2,dec_false fun h=>h2 (h i hki (by omega)),Bool.and_false]
   ·rw [dec_false h1,dec_false fun h=>h1 fun a ha1 ha2=>h a ha1 (by omega),Bool.false_and]
  generalize dec (∀ a,k<a→a<i→rmF t k f a k=0)=cl at *
  generalize hzz:rmF t k f i k=z at *
  have htw:=rowsV_two (M:=matF n w (rgS k (rmV t k f) f i)) (i:=i) (k:=k) hik (by omega) (rowW w k (f i) (rmV t k f i) w) (.sl 1 1 0 w) (.sl 2 1 0 w)
  rw [hst,hak] at htw
  generalize rowW w k (f i) (rmV t k f i) w=ri2 at *
  generalize rowF w (f i)=ri at *
  generalize rowF w (f k)=rk at *
  generalize matF n w (rgS k (rmV t k f) f i)=Mi at *
  simp -implicitDefEqProofs [sc_i_clearCross_L0,hlt,hml]
  refine CutI.of (l':=[(0,.sl 0 1 0 n),(1,.int .i64 (k:Int)),(2,.int .i64 t),(7,.bool cl),(8,.int .i64 (i:Int))]) (s':=([(2,ints rk),(1,ints ri),(0,((rowsV Mi).set i (.sl 1 1 0 w)).set k (.sl 2 1 0 w))],3)) ?_ ?_
  ·refine SubI.unfold 0 i 1 (co:=rowsV Mi) (cn:=ints ri) rfl (by rw [rowsV_get (by omega),hai]) (by omega) ?_
   refine SubI.unfold 0 k 1 (co:=(rowsV Mi).set i (.sl 1 1 0 w)) (cn:=ints rk) (by simp [hli]) (by rw [List.getElem?_set_ne hik,rowsV_get (by omega),hak]) (by omega) ?_
   exact SubI.slots (by simp [hli,hlk]) (by simp)
  simp -implicitDefEqProofs [freeOk,hlt,hkn,hml,hik,hki',hli,hlk,hkw,hel,hek,hnz,hq1]
  repeat' (first | omega | apply And.intro)
  refine hin2 cl _ _ hki hlt hml (by simp) ?_
  have fin:∀ (T:Tm) (c2:Bool),subE T [(0,.sl 0 1 0 n),(1,.int .i64 (k:Int)),(2,.int .i64 t),(7,.bool c2),(8,.int .i64 (((i+1:Nat)):Int))] →
    SubI 1 T ([(2,ints rk),(1,ints ri2),(0,((rowsV Mi).set i (.sl 1 1 0 w)).set k (.sl 2 1 0 w))],3) [(0,.sl 0 1 0 n),(1,.int .i64 (k:Int)),(2,.int .i64 t),(7,.bool c2),(8,.int .i64 (((i+1:Nat)):Int))] ([(0,rowsV (matF n w (rgS k (rmV t k f) f (i+1))))],1):=fun T c2 hT=>by
   refine SubI.fold 0 1 i 1 w (cn:=ints ri2) (co:=((rowsV Mi).set i (.sl 1 1 0 w)).set k (.sl 2 1 0 w)) rfl rfl (by simp [hml,hlt,hik,hki']) (by simp [hnl]) ?_
   refine SubI.fold 0 2 k 1 w (cn:=ints rk) (co:=(((rowsV Mi).set i (.sl 1 1 0 w)).set k (.sl 2 1 0 w)).set i (.own 1 (ints ri2))) (by simp) (by simp) (by simp [hml,hkn,hik,hki']) (by simp [hlk]) ?_
   rw [htw]
   simp only [subE_cons,subE_nil,and_true] at hT
   obtain ⟨e1,e2,e3,e4,e5⟩:=hT
   refine SubI.ren (fun m=>if m=0 then some 0 else none) ?_ ?_ ?_ (by simp) (by simp)
   ·simp [subT,renV,ren1,← e1,← e2,← e3,← e4,← e5]
   ·simp [subH,renL,ren1]
   ·intro m hm
    simp only at hm
    rw [if_neg (by omega)]
  by_cases hz:z=0
  ·rw [dec_true hz,Bool.and_true] at hcl
   simp -implicitDefEqProofs [hlt,hkn,hml,hik,hki',hkw,hnl,hnew,hz]
   repeat' (first | omega | apply And.intro)
   refine Again.of (i+1) (by omega) (by omega) ?_
   rw [hcl]
   exact fin _ _ (by simp (disch:=omega) [wrapI])
  ·rw [dec_false hz,Bool.and_false] at hcl
   simp -implicitDefEqProofs [hlt,hkn,hml,hik,hki',hkw,hnl,hnew,hz]
   repeat' (first | omega | apply And.intro)
   refine Again.of (i+1) (by omega) (by omega) ?_
   rw [hcl]
   exact fin _ _ (by simp (disch:=omega) [wrapI,hz])
 ·have:i=n:=by omega
  subst this
  rw [rgS_full]
  have hres:dec (ccP t i w k f)=(dec (∀ a,k<a→a<i→rmF t k f a k=0) && dec (∀ b,k<b→b<w→crF t k f k b=0)):=by
   by_cases h1:∀ a,k<a→a<i→rmF t k f a k=0
   ·by_cases h2:∀ b,k<b→b<w→crF t k f k b=0
    ·rw [dec_true h1,dec_true h2,dec_true ⟨h1,h2⟩]; rfl
    ·rw [dec_false h2,dec_false fun h=>h2 h.2,Bool.and_false]
   ·rw [dec_false h1,dec_false fun h=>h1 h.1,Bool.false_and]
  rw [hres]
  have hkk:rmF t k f k k=f k k:=rgF_top
  rw [← hkk] at hnz
  unfold crF
  generalize hc1:dec (∀ a,k<a→a<i→rmF t k f a k=0)=c1 at *
  have b2':modE t i w (cgF k (cmV t k (rmF t k f)) (rmF t k f)):=b2
  clear b2 hres hlt rowL hlenS hC0 hkk b0 bb0
  rw [show rgF k (rmV t k f) f=rmF t k f from rfl]
  generalize rmF t k f=g at *
  simp -implicitDefEqProofs [sc_i_clearCross_L0,hw1]
  have hC0:dec (∀ b,k<b→b<k+1→cgF k (cmV t k g) g k b=0)=true:=dec_true fun a h1 h2=>by omega
  refine loopQ env mixed (fun j:Nat=>[(0,.sl 0 1 0 i),(1,.int .i64 (k:Int)),(2,.int .i64 t),(7,.bool (c1 && dec (∀ b,k<b→b<j→cgF k (cmV t k g) g k b=0))),(11,.int .i64 (j:Int))]) (fun j=>([(0,rowsV (matF i w (cgS k (cmV t k g) g j)))],1)) (fun j=>k<j∧j≤w) (fun j=>w-j) (k+1) (by omega) (SubI.slots (by simp [cgS_start]) (by simp [hC0])) ?_
  rintro j ⟨hkj,hjw⟩
  have hml:=matF_len i w (cgS k (cmV t k g) g j)
  have hak:=matF_at (w:=w) (f:=cgS k (cmV t k g) g j) hkn
  have hlk:(rowF w (cgS k (cmV t k g) g j k)).length=w:=rowF_len _ _
  have hself:=rowsV_self (M:=matF i w (cgS k (cmV t k g) g j)) (i:=k) (by omega)
  by_cases hlt:j<w
  ·have hek:=rowF_at (g:=cgS k (cmV t k g) g j k) hkw
   rw [cgS_top (.inr (Nat.le_refl k))] at hek
   have hej:=rowF_at (g:=cgS k (cmV t k g) g j k) hlt
   rw [cgS_top (.inl (Nat.le_refl j))] at hej
   obtain ⟨hq1,hq2,hq3⟩:=quoB (c:=k) (d:=k) bb1 hkn hlt
   have hcl:dec (∀ b,k<b→b<j+1→cgF k (cmV t k g) g k b=0)=(dec (∀ b,k<b→b<j→cgF k (cmV t k g) g k b=0) && dec (cgF k (cmV t k g) g k j=0)):=by
    by_cases h1:∀ b,k<b→b<j→cgF k (cmV t k g) g k b=0
    ·by_cases h2:cgF k (cmV t k g) g k j=0
     ·rw [dec_true h1,dec_true h2,dec_true fun a ha1 ha2 => ?_]
      ·rfl
      ·rcases Nat.lt_succ_iff_lt_or_eq.1 ha2 with h | rfl
       ·exact h1 a ha1 h
       ·exact h2
     ·rw [dec_false h2,dec_false fun h=>h2 (h j hkj (by omega)),Bool.and_false]
    ·rw [dec_false h1,dec_false fun h=>h1 fun a ha1 ha2=>h a ha1 (by omega),Bool.false_and]
   have hcl2:(c1 && dec (∀ b,k<b→b<j+1→cgF k (cmV t k g) g k b=0))=((c1 && dec (∀ b,k<b→b<j→cgF k (cmV t k g) g k b=0)) && dec (cgF k (cmV t k g) g k j=0)):=by rw [hcl,Bool.and_assoc]
   generalize (c1 && dec (∀ b,k<b→b<j→cgF k (cmV t k g) g k b=0))=cl at *
   clear hcl
   -- a column is changed
   have colL:∀ (Q:Post) (T0:Tm) (H0:Hp),SubI 1 T0 H0 [(0,.sl 0 1 0 i),(1,.int .i64 (k:Int)),(2,.int .i64 t),(7,.bool cl),(11,.int .i64 (j:Int)),(12,.int .i64 ((g k j).tdiv (g k k))),(13,.int .i64 (k:Int))] ([(0,rowsV (matF i w (cgS k (cmV t k g) g j)))],1) →
     Q (.exit 6) [(0,.sl 0 1 0 i),(1,.int .i64 (k:Int)),(2,.int .i64 t),(7,.bool cl),(11,.int .i64 (j:Int))] ([(0,rowsV (matF i w (cgS k (cmV t k g) g (j+1))))],1) →
     LoopI ⟨Tryz.prog,w0,U0,L0,N0,1,155⟩ [666666,555555] sc_i_clearCross_L6 Q T0 H0:=by
    intro Q T0 H0 hsub q1
    have hqd:∀ a,cmV t k g a j=(g a j-(g k j).tdiv (g k k)*g a k) % t:=fun a=>rfl
    have hsetT:=fun (a:Nat) h1 h2=>cgT_set (n:=i) (w:=w) (k:=k) (j:=j) (i:=a) (nw:=cmV t k g) (f:=g) h1 h2 hkj hlt
    generalize hcm:cmV t k g=cm at *
    generalize (g k j).tdiv (g k k)=q at *
    by_cases hq0:q=0
    ·subst hq0
     have hsame:matF i w (cgS k cm g (j+1))=matF i w (cgS k cm g j):=matF_congr fun a b ha hb=>by
      unfold cgS
      by_cases e:k≤a∧k<b∧b<j
      ·rw [if_pos (by omega),if_pos e]
      ·rw [if_neg e]
       by_cases e2:k≤a∧k<b∧b<j+1
       ·rw [if_pos e2]
        have:b=j:=by omega
        subst this
        rw [hqd,Int.zero_mul,Int.sub_zero]
        have:=b1 a b ha hb
        exact Int.emod_eq_of_lt this.1 this.2
       ·rw [if_neg e2]
     rw [hsame] at q1
     refine loopQ env mixed (fun _:Unit=>[(0,.sl 0 1 0 i),(1,.int .i64 (k:Int)),(2,.int .i64 t),(7,.bool cl),(11,.int .i64 (j:Int)),(12,.int .i64 0),(13,.int .i64 (k:Int))]) (fun _=>([(0,rowsV (matF i w (cgS k cm g j)))],1)) (fun _=>True) (fun _=>0) () trivial hsub ?_
     intro _ _
     simp -implicitDefEqProofs [sc_i_clearCross_L6,hkn,hml]
     refine SubQ.of ?_ q1
     exact SubI.slots rfl (by simp)
    refine loopQ env mixed (fun a:Nat=>[(0,.sl 0 1 0 i),(1,.int .i64 (k:Int)),(2,.int .i64 t),(7,.bool cl),(11,.int .i64 (j:Int)),(12,.int .i64 q),(13,.int .i64 (a:Int))]) (fun a=>([(0,rowsV (matF i w (cgT k cm g j a)))],1)) (fun a=>k≤a∧a≤i) (fun a=>i-a) k ⟨Nat.le_refl k,by omega⟩ (by rw [cgT_start]; exact hsub) ?_
    rintro a ⟨hka,hai⟩
    have hml:=matF_len i w (cgT k cm g j a)
    by_cases hlt3:a<i
    ·have haa:=matF_at (w:=w) (f:=cgT k cm g j a) hlt3
     have hla:(rowF w (cgT k cm g j a a)).length=w:=rowF_len _ _
     have e1:=rowF_at (g:=cgT k cm g j a a) hlt
     rw [cgT_old (Nat.le_refl a)] at e1
     have e2:=rowF_at (g:=cgT k cm g j a a) hkw
     rw [cgT_k] at e2
     have hst:=hsetT a hka hlt3
     obtain ⟨w1,w2⟩:=subB (bb1 a j hlt3 hlt) ⟨hq2,hq3⟩ (bb1 a k hlt3 hkw)
     have hF:=hRM (g a j) q (g a k) (bb1 a j hlt3 hlt) ⟨hq2,hq3⟩ (bb1 a k hlt3 hkw)
     rw [← hqd a] at hF
     have hst2:∀ v,((rowsV (matF i w (cgT k cm g j a))).set a v).set a (.own 1 (ints ((rowF w (cgT k cm g j a a)).set j (cm a j))))=rowsV (matF i w (cgT k cm g j (a+1))):=fun v=>by
      rw [List.set_set,rowsV_set,hst]
     generalize rowF w (cgT k cm g j a a)=ra at *
     generalize matF i w (cgT k cm g j a)=Ma at *
     simp -implicitDefEqProofs [sc_i_clearCross_L6,hlt3,hml,hq0]
     refine CutI.of (l':=[(0,.sl 0 1 0 i),(1,.int .i64 (k:Int)),(2,.int .i64 t),(7,.bool cl),(11,.int .i64 (j:Int)),(12,.int .i64 q),(13,.int .i64 (a:Int))]) (s':=([(1,ints ra),(0,(rowsV Ma).set a (.sl 1 1 0 w))],2)) ?_ ?_
     ·refine SubI.unfold 0 a 1 (co:=rowsV Ma) (cn:=ints ra) rfl (by rw [rowsV_get (by omega),haa]) (by omega) ?_
      exact SubI.slots (by simp [hla]) (by simp)
     simp -implicitDefEqProofs [freeOk,hlt3,hml,hla,hkw,hlt,e1,e2,w1,w2,hF]
     repeat' (first | omega | apply And.intro)
     refine Again.of (a+1) (by omega) (by omega) ?_
     refine SubI.fold 0 1 a 1 w (cn:=ints (ra.set j (cm a j))) (co:=(rowsV Ma).set a (.sl 1 1 0 w)) (by simp) (by simp) (by simp [hml,hlt3]) (by simp [hla]) ?_
     rw [hst2]
     refine SubI.ren (fun m=>if m=0 then some 0 else none) ?_ ?_ ?_ (by simp) (by simp)
     ·simp (disch:=omega) [subT,renV,ren1,wrapI]
     ·simp [subH,renL,ren1]
     ·intro m hm
      simp only at hm
      rw [if_neg (by omega)]
    ·have:a=i:=by omega
     subst this
     rw [← cgT_full] at q1
     simp -implicitDefEqProofs [sc_i_clearCross_L6,hml]
     refine SubQ.of ?_ q1
     exact SubI.slots rfl (by simp)
   have hml2:=matF_len i w (cgS k (cmV t k g) g (j+1))
   have hak2:=matF_at (w:=w) (f:=cgS k (cmV t k g) g (j+1)) hkn
   have hlk2:(rowF w (cgS k (cmV t k g) g (j+1) k)).length=w:=rowF_len _ _
   have hself2:=rowsV_self (M:=matF i w (cgS k (cmV t k g) g (j+1))) (i:=k) (by omega)
   have hej2:=rowF_at (g:=cgS k (cmV t k g) g (j+1) k) hlt
   rw [cgS_done hkj] at hej2
   rw [hak2] at hself2
   rw [hak] at hself
   generalize hqv:(g k j).tdiv (g k k)=q at *
   generalize cgF k (cmV t k g) g k j=z at *
   generalize rowF w (cgS k (cmV t k g) g (j+1) k)=rk2 at *
   generalize hM2:matF i w (cgS k (cmV t k g) g (j+1))=M2 at *
   generalize rowF w (cgS k (cmV t k g) g j k)=rk at *
   generalize matF i w (cgS k (cmV t k g) g j)=M1 at *
   simp -implicitDefEqProofs [sc_i_clearCross_L4,hlt,hkn,hml,hak,hlk]
   repeat' (first | omega | apply And.intro)
   refine CutI.of (l':=[(0,.sl 0 1 0 i),(1,.int .i64 (k:Int)),(2,.int .i64 t),(7,.bool cl),(11,.int .i64 (j:Int))]) (SubI.slots rfl (by simp)) ?_
   simp -implicitDefEqProofs [freeOk,hlt,hkn,hkw,hml,hlk,hek,hej,hnz,hqv,hq1]
   repeat' (first | omega | apply And.intro)
   refine colL _ _ _ ?_ ?_
   ·refine SubI.fold 0 1 k 1 w (cn:=ints rk) (co:=(rowsV M1).set k (.sl 1 1 0 w)) (by simp) (by simp) (by simp [hml,hkn]) (by simp [hlk]) ?_
    rw [List.set_set,hself]
    refine SubI.ren (fun m=>if m=0 then some 0 else none) ?_ ?_ ?_ (by simp) (by simp)
    ·simp (disch:=omega) [subT,renV,ren1,wrapI,hqv,hq1]
    ·simp [subH,renL,ren1]
    ·intro m hm
     simp only at hm
     rw [if_neg (by omega)]
   have fin:∀ (T:Tm) (c2:Bool),subE T [(0,.sl 0 1 0 i),(1,.int .i64 (k:Int)),(2,.int .i64 t),(7,.bool c2),(11,.int .i64 (((j+1:Nat)):Int))] →
     SubI 1 T ([(1,ints rk2),(0,(rowsV M2).set k (.sl 1 1 0 w))],2) [(0,.sl 0 1 0 i),(1,.int .i64 (k:Int)),(2,.int .i64 t),(7,.bool c2),(11,.int .i64 (((j+1:Nat)):Int))] ([(0,rowsV M2)],1):=fun T c2 hT=>by
    refine SubI.fold 0 1 k 1 w (cn:=ints rk2) (co:=(rowsV M2).set k (.sl 1 1 0 w)) (by simp) (by simp) (by simp [hml2,hkn]) (by simp [hlk2]) ?_
    rw [List.set_set,hself2]
    simp only [subE_cons,subE_nil,and_true] at hT
    obtain ⟨e1,e2,e3,e4,e5⟩:=hT
    refine SubI.ren (fun m=>if m=0 then some 0 else none) ?_ ?_ ?_ (by simp) (by simp)
    ·simp [subT,renV,ren1,← e1,← e2,← e3,← e4,← e5]
    ·simp [subH,renL,ren1]
    ·intro m hm
     simp only at hm
     rw [if_neg (by omega)]
   by_cases hz:z=0
   ·rw [dec_true hz,Bool.and_true] at hcl2
    simp -implicitDefEqProofs [hlt,hkn,hml2,hak2,hlk2,hej2,hz]
    repeat' (first | omega | apply And.intro)
    refine Again.of (j+1) (by omega) (by omega) ?_
    rw [hcl2,hM2]
    exact fin _ _ (by simp (disch:=omega) [wrapI])
   ·rw [dec_false hz,Bool.and_false] at hcl2
    simp -implicitDefEqProofs [hlt,hkn,hml2,hak2,hlk2,hej2,hz]
    repeat' (first | omega | apply And.intro)
    refine Again.of (j+1) (by omega) (by omega) ?_
    rw [hcl2,hM2]
    exact fin _ _ (by simp (disch:=omega) [wrapI,hz])
  ·have:j=w:=by omega
   subst this
   rw [hak] at hself
   rw [cgS_full] at *
   generalize rowF j (cgS k (cmV t k g) g j k)=rk at *
   generalize matF i j (cgF k (cmV t k g) g)=M1 at *
   generalize (c1 && dec (∀ b,k<b→b<j→cgF k (cmV t k g) g k b=0))=cl at *
   simp -implicitDefEqProofs [sc_i_clearCross_L4,hkn,hml,hak,hlk]
   refine SubQ.of (l1:=[(0,.sl 0 1 0 i),(7,.bool cl)]) (s1:=([(0,rowsV M1)],1)) ?_ ?_
   ·refine SubI.fold 0 1 k 1 j (cn:=ints rk) (co:=(rowsV M1).set k (.sl 1 1 0 j)) (by simp) (by simp) (by simp [hml,hkn]) (by simp [hlk]) ?_
    rw [List.set_set,hself]
    refine SubI.ren (fun m=>if m=0 then some 0 else none) ?_ ?_ ?_ (by simp) (by simp)
    ·simp [subT,renV,ren1]
    ·simp [subH,renL,ren1]
    ·intro m hm
     simp only at hm
     rw [if_neg (by omega)]
   simp -implicitDefEqProofs
def sc_i_modMatrix_L2:SC:=(.seq (.reg [⟨some 29,none,.bin false .lss (.t 28) (.t 27)⟩]) (.seq (.cond (.t 29) .skip (.exit 2)) (.seq (.block 3 (.seq (.reg [⟨some 30,none,.mov (.t 28)⟩,⟨some 31,none,.idx 1 (.t 26) (.t 28)⟩,⟨some 32,none,.ld none (.int .i64 0) (.t 31)⟩,⟨some 8,none,.mov (.t 30)⟩,⟨some 9,none,.mov (.t 32)⟩]) (.dreg [⟨⟨some 33,none,.mov (.t 5)⟩,false,false⟩,⟨⟨some 34,none,.mov (.t 6)⟩,false,false⟩,⟨⟨some 35,none,.idx 1 (.t 33) (.t 34)⟩,false,false⟩,⟨⟨some 36,none,.ld none .nil (.t 35)⟩,false,false⟩,⟨⟨some 37,none,.mov (.t 8)⟩,false,false⟩,⟨⟨some 38,none,.mov (.t 9)⟩,false,false⟩,⟨⟨some 39,none,.mov (.t 1)⟩,false,false⟩,⟨⟨some 40,none,.call 92 [.t 38,.t 39]⟩,false,false⟩,⟨⟨some 41,none,.idx 1 (.t 36) (.t 37)⟩,false,false⟩,⟨⟨none,none,.st 1 (.t 41) (.t 40)⟩,true,false⟩]))) (.reg [⟨some 42,none,.bin false .add (.t 28) (.c (.int .i64 1))⟩,⟨some 28,none,.mov (.t 42)⟩]))))
def sc_i_modMatrix_L0:SC:=(.seq (.reg [⟨some 16,none,.bin false .lss (.t 15) (.t 14)⟩]) (.seq (.cond (.t 16) .skip (.exit 0)) (.seq (.block 1 (.seq (.reg [⟨some 17,none,.mov (.t 15)⟩,⟨some 18,none,.idx 1 (.t 13) (.t 15)⟩,⟨some 19,none,.ld none .nil (.t 18)⟩,⟨some 6,none,.mov (.t 17)⟩,⟨some 7,none,.mov (.t 19)⟩]) (.seq (.reg [⟨some 20,none,.mov (.t 5)⟩,⟨some 21,none,.mov (.t 6)⟩,⟨some 22,none,.mov (.t 7)⟩,⟨some 23,none,.len (.t 22)⟩,⟨some 24,none,.mk 1 8 [.int .i64 0] (.t 23) (.t 23)⟩,⟨some 25,none,.idx 1 (.t 20) (.t 21)⟩,⟨none,none,.st 1 (.t 25) (.t 24)⟩]) (.seq (.reg [⟨some 26,none,.mov (.t 7)⟩,⟨some 27,none,.len (.t 26)⟩,⟨some 28,none,.mov (.c (.int .i64 0))⟩]) (.block 2 (.loop sc_i_modMatrix_L2)))))) (.reg [⟨some 43,none,.bin false .add (.t 15) (.c (.int .i64 1))⟩,⟨some 15,none,.mov (.t 43)⟩]))))
def sc_i_modMatrix:SC:=(.seq (.reg [⟨some 4,none,.mov (.c .nil)⟩]) (.seq (.reg [⟨some 10,none,.mov (.t 0)⟩,⟨some 11,none,.len (.t 10)⟩,⟨some 12,none,.mk 1 24 [.nil] (.t 11) (.t 11)⟩,⟨some 5,none,.mov (.t 12)⟩]) (.seq (.seq (.reg [⟨some 13,none,.mov (.t 0)⟩,⟨some 14,none,.len (.t 13)⟩,⟨some 15,none,.mov (.c (.int .i64 0))⟩]) (.block 0 (.loop sc_i_modMatrix_L0))) (.seq (.reg [⟨some 44,none,.mov (.t 5)⟩,⟨some 4,none,.mov (.t 44)⟩]) .ret))))
theorem code_i_modMatrix:fnCode Tryz.prog [] 62=some (45,sc_i_modMatrix,[(4,none)]):=by kernel_rfl
noncomputable def F_i_modMatrixT:List V→Option V:=F2 dLL dI fun M p => @ite _ (1≤p∧p≤1073741824∧dimM M∧bdE 1073741824 M.length (wdM M) (ent M)) (Classical.propDecidable _) (some (.own 1 (rowsV (modM p M)))) none
theorem modM_matF {p:Int} {M:List (List Int)} (h:rect (wdM M) M):modM p M=matF M.length (wdM M) fun a b=>ent M a b % p:=atR_ext (by simp) fun k hk=>by
 rw [modM_len] at hk
 rw [modM_at hk,matF_at hk,h k hk]
 rfl
theorem fn_i_modMatrixT:FnOk Tryz.prog 62 F_i_modMatrixT:=by
 have env:=(envNil_ok (P:=Tryz.prog)).add fn_i_restModT
 refine fn_ok code_i_modMatrix mixed env ?_
 intro args r h hb
 obtain ⟨_,_,M,p,rfl,h1,h2,h4⟩:=F2_inv h
 cases dLL_inv h1
 cases dI_inv h2
 simp only [Option.ite_none_right_eq_some,Option.some.injEq] at h4
 obtain ⟨⟨hp,hp2,hdim,hbd⟩,rfl⟩:=h4
 clear h
 refine ⟨by simp,fun w0 U0 L0 N0 => ?_⟩
 clear hb
 have hml:M.length≤64:=hdim.2.1
 have hrl:∀ i,i<M.length→(atR M i).length≤64:=fun i hi=>by rw [hdim.1 i hi]; exact hdim.2.2
 have hFm:∀ i j,i<M.length→j<(atR M i).length→F_i_restModT [.int .i64 (at0 (atR M i) j),.int .i64 p]=some (.int .i64 (at0 (atR M i) j % p)):=fun i j hi hj=>by
  have:=hbd i j hi (by rw [← hdim.1 i hi]; exact hj)
  unfold ent at this
  simp only [F_i_restModT,F2_mk,dI_int,Option.bind_some]
  rw [if_pos ⟨hp,hp2,by omega,by omega⟩]
 have hol:=modM_len p M
 have hoa:=fun (i:Nat) (hi:i<M.length)=>modM_at (p:=p) hi
 generalize modM p M=O at *
 simp -implicitDefEqProofs [sc_i_modMatrix]
 repeat' (first | omega | apply And.intro)
 have inner:∀ (i:Nat) (Q:Post) (T0:Tm),i<M.length→subE T0 [(1,.int .i64 p),(5,.sl 0 1 0 M.length),(6,.int .i64 (i:Int)),(13,.list 1 (rowsL M)),(14,.int .i64 (M.length:Int)),(15,.int .i64 (i:Int)),(26,.list 1 (ints (atR M i))),(27,.int .i64 ((atR M i).length:Int)),(28,.int .i64 0)] →
   Q (.exit 2) [(1,.int .i64 p),(5,.sl 0 1 0 M.length),(13,.list 1 (rowsL M)),(14,.int .i64 (M.length:Int)),(15,.int .i64 (i:Int))] ([(0,rowsV (padR O (i+1)))],1) →
   LoopI ⟨Tryz.prog,w0,U0,L0,N0,0,45⟩ [] sc_i_modMatrix_L2 Q T0 ([(1,ints (zK (atR M i).length (fun j=>at0 (atR M i) j % p) 0)),(0,(rowsV (padR O i)).set i (.sl 1 1 0 (atR M i).length))],2):=by
  intro i Q T0 hi hsub q1
  have hiO:i<O.length:=by omega
  have hri:=hrl i hi
  refine loopQ env mixed (fun j:Nat=>[(1,.int .i64 p),(5,.sl 0 1 0 M.length),(6,.int .i64 (i:Int)),(13,.list 1 (rowsL M)),(14,.int .i64 (M.length:Int)),(15,.int .i64 (i:Int)),(26,.list 1 (ints (atR M i))),(27,.int .i64 ((atR M i).length:Int)),(28,.int .i64 (j:Int))]) (fun j=>([(1,ints (zK (atR M i).length (fun j=>at0 (atR M i) j % p) j)),(0,(rowsV (padR O i)).set i (.sl 1 1 0 (atR M i).length))],2)) (fun j=>j≤(atR M i).length) (fun j=>(atR M i).length-j) 0 (by simp) (SubI.slots rfl (by simpa using hsub)) ?_
  intro j hj
  by_cases hlt:j<(atR M i).length
  ·have hset:(zK (atR M i).length (fun j=>at0 (atR M i) j % p) j).set j (at0 (atR M i) j % p)=zK (atR M i).length (fun j=>at0 (atR M i) j % p) (j+1):=zK_set (g:=fun j=>at0 (atR M i) j % p) hlt
   have hgl:=zK_len (atR M i).length (fun j=>at0 (atR M i) j % p) j
   have hF:=hFm i j hi hlt
   generalize zK (atR M i).length (fun j=>at0 (atR M i) j % p) j=g at *
   simp -implicitDefEqProofs [sc_i_modMatrix_L2,hF,hlt,hi,hol,hgl,hset]
   repeat' (first | omega | apply And.intro)
   exact Again.of (j+1) (by omega) (by omega) (SubI.slots (by simp) (by simp (disch:=omega) [wrapI]))
  ·have:j=(atR M i).length:=by omega
   subst this
   have hfu:=zK_full (atR M i).length (fun j=>at0 (atR M i) j % p)
   rw [← hoa i hi] at hfu
   have hps:=padR_set hiO
   have hal:(atR O i).length=(atR M i).length:=by rw [hoa i hi]; simp
   rw [hfu]
   simp -implicitDefEqProofs [sc_i_modMatrix_L2]
   refine SubQ.of ?_ q1
   refine SubI.fold 0 1 i 1 (atR M i).length (cn:=ints (atR O i)) (co:=(rowsV (padR O i)).set i (.sl 1 1 0 (atR M i).length)) (by simp) (by simp) (by simp [hiO]) (by simp [hal]) ?_
   refine SubI.ren (fun m=>if m=0 then some 0 else none) ?_ ?_ ?_ (by simp) (by simp)
   ·simp [subT,renV,ren1]
   ·simp [subH,hps]
   ·intro m hm
    simp only at hm
    rw [if_neg (by omega)]
 refine loopI env mixed (fun i:Nat=>[(1,.int .i64 p),(5,.sl 0 1 0 M.length),(13,.list 1 (rowsL M)),(14,.int .i64 (M.length:Int)),(15,.int .i64 (i:Int))]) (fun i=>([(0,rowsV (padR O i))],1)) (fun i=>i≤M.length) (fun i=>M.length-i) 0 (by simp) (SubI.nilAll 0 1 (by simp; rfl) (by simp) (SubI.slots (by simp [padR_zero,rowsV,hol]) (by simp))) ?_
 intro i hi
 by_cases hlt:i<M.length
 ·have hin:=inner i
  have hri:=hrl i hlt
  have hd0:=rowsL_drop0 hlt .nil
  have hz:=zK_zero (atR M i).length (fun j=>at0 (atR M i) j % p)
  simp -implicitDefEqProofs [sc_i_modMatrix_L0,hlt,hol,hd0]
  rw [← hz]
  repeat' (first | omega | apply And.intro)
  refine hin _ _ hlt (by simp) ?_
  simp -implicitDefEqProofs
  exact Again.of (i+1) (by omega) (by omega) (SubI.slots (by simp) (by simp (disch:=omega) [wrapI]))
 ·have:i=M.length:=by omega
  subst this
  have hpf:padR O M.length=O:=by rw [← hol,padR_full]
  have ht:O.take M.length=O:=List.take_of_length_le (by omega)
  simp -implicitDefEqProofs [sc_i_modMatrix_L0,hpf,ht]
  try omega
def sc_i_findLeast_L2:SC:=(.seq (.seq (.reg [⟨some 24,none,.mov (.t 9)⟩,⟨some 25,none,.mov (.t 0)⟩,⟨some 26,none,.mov (.t 8)⟩,⟨some 27,none,.idx 1 (.t 25) (.t 26)⟩,⟨some 28,none,.ld none .nil (.t 27)⟩,⟨some 29,none,.len (.t 28)⟩,⟨some 30,none,.bin false .lss (.t 24) (.t 29)⟩]) (.cond (.t 30) .skip (.exit 2))) (.seq (.block 3 (.seq (.dreg [⟨⟨some 33,none,.mov (.t 0)⟩,false,false⟩,⟨⟨some 34,none,.mov (.t 8)⟩,false,false⟩,⟨⟨some 35,none,.idx 1 (.t 33) (.t 34)⟩,false,false⟩,⟨⟨some 36,none,.ld none .nil (.t 35)⟩,false,false⟩,⟨⟨some 37,none,.mov (.t 9)⟩,false,false⟩,⟨⟨some 38,none,.idx 1 (.t 36) (.t 37)⟩,false,false⟩,⟨⟨some 39,none,.ld none (.int .i64 0) (.t 38)⟩,false,false⟩,⟨⟨some 40,none,.bin false .neq (.t 39) (.c (.int .i64 0))⟩,false,false⟩,⟨⟨some 41,none,.mov (.t 40)⟩,false,false⟩,⟨⟨some 42,some (41,true),.mov (.t 0)⟩,false,false⟩,⟨⟨some 43,some (41,true),.mov (.t 8)⟩,false,false⟩,⟨⟨some 44,some (41,true),.idx 1 (.t 42) (.t 43)⟩,false,false⟩,⟨⟨some 45,some (41,true),.ld none .nil (.t 44)⟩,false,false⟩,⟨⟨some 46,some (41,true),.mov (.t 9)⟩,false,false⟩,⟨⟨some 47,some (41,true),.idx 1 (.t 45) (.t 46)⟩,false,false⟩,⟨⟨some 48,some (41,true),.ld none (.int .i64 0) (.t 47)⟩,false,false⟩,⟨⟨some 49,some (41,true),.mov (.t 0)⟩,false,false⟩,⟨⟨some 50,some (41,true),.mov (.t 6)⟩,false,false⟩,⟨⟨some 51,some (41,true),.idx 1 (.t 49) (.t 50)⟩,false,false⟩,⟨⟨some 52,some (41,true),.ld none .nil (.t 51)⟩,false,false⟩,⟨⟨some 53,some (41,true),.mov (.t 7)⟩,false,false⟩,⟨⟨some 54,some (41,true),.idx 1 (.t 52) (.t 53)⟩,false,false⟩,⟨⟨some 55,some (41,true),.ld none (.int .i64 0) (.t 54)⟩,false,false⟩,⟨⟨some 56,some (41,true),.bin false .lss (.t 48) (.t 55)⟩,false,false⟩,⟨⟨some 57,none,.pick (.t 41) (.t 56) (.c (.bool false))⟩,false,false⟩]) (.cond (.t 57) (.reg [⟨some 58,none,.mov (.t 8)⟩,⟨some 59,none,.mov (.t 9)⟩,⟨some 6,none,.mov (.t 58)⟩,⟨some 7,none,.mov (.t 59)⟩]) .skip))) (.reg [⟨some 31,none,.mov (.t 9)⟩,⟨some 32,none,.bin false .add (.t 31) (.c (.int .i64 1))⟩,⟨some 9,none,.mov (.t 32)⟩])))
def sc_i_findLeast_L0:SC:=(.seq (.seq (.reg [⟨some 17,none,.mov (.t 8)⟩,⟨some 18,none,.mov (.t 0)⟩,⟨some 19,none,.len (.t 18)⟩,⟨some 20,none,.bin false .lss (.t 17) (.t 19)⟩]) (.cond (.t 20) .skip (.exit 0))) (.seq (.block 1 (.seq (.reg [⟨some 23,none,.mov (.t 1)⟩,⟨some 9,none,.mov (.t 23)⟩]) (.block 2 (.loop sc_i_findLeast_L2)))) (.reg [⟨some 21,none,.mov (.t 8)⟩,⟨some 22,none,.bin false .add (.t 21) (.c (.int .i64 1))⟩,⟨some 8,none,.mov (.t 22)⟩])))
def sc_i_findLeast:SC:=(.seq (.reg [⟨some 4,none,.mov (.c (.int .i64 0))⟩,⟨some 5,none,.mov (.c (.int .i64 0))⟩]) (.seq (.reg [⟨some 11,none,.mov (.t 0)⟩,⟨some 12,none,.mov (.t 1)⟩,⟨some 13,none,.call 60 [.t 11,.t 12]⟩,⟨some 10,none,.mov (.t 13)⟩,⟨some 14,none,.ext 0 (.t 10)⟩,⟨some 15,none,.ext 1 (.t 10)⟩,⟨some 6,none,.mov (.t 14)⟩,⟨some 7,none,.mov (.t 15)⟩]) (.seq (.seq (.reg [⟨some 16,none,.mov (.t 1)⟩,⟨some 8,none,.mov (.t 16)⟩]) (.block 0 (.loop sc_i_findLeast_L0))) (.seq (.reg [⟨some 60,none,.mov (.t 6)⟩,⟨some 61,none,.mov (.t 7)⟩,⟨some 4,none,.mov (.t 60)⟩,⟨some 5,none,.mov (.t 61)⟩]) .ret))))
theorem code_i_findLeast:fnCode Tryz.prog [] 63=some (62,sc_i_findLeast,[(4,none),(5,none)]):=by kernel_rfl
def nonN (M:List (List Int)):Prop:=∀ i j,i<M.length→j<wdM M→0≤ent M i j
noncomputable def flZ (f:Nat→Nat→Int) (n w k:Nat):Int×Int:=lsI f w k (nzZ f n w k) (n-k)
theorem lsJ_zero {f:Nat→Nat→Int} {i k:Nat} {st:Int×Int}:∀ u,(∀ b,k≤b→b<k+u→f i b=0)→lsJ f i k st u=st
 | 0,_=>rfl
 | u+1,h=>by
  unfold lsJ
  rw [lsJ_zero u fun b h1 h2=>h b h1 (by omega)]
  unfold lsS
  rw [if_neg fun hh=>hh.1 (h (k+u) (by omega) (by omega))]
theorem lsI_zero {f:Nat→Nat→Int} {w k n:Nat} {st:Int×Int} (h:∀ a b,k≤a→a<n→k≤b→b<w→f a b=0):∀ t,k+t≤n∨t=0→lsI f w k st t=st
 | 0,_=>rfl
 | t+1,ht=>by
  unfold lsI
  rw [lsI_zero h t (by omega),lsJ_zero _ fun b h1 h2=>h (k+t) b (by omega) (by omega) h1 (by omega)]
def lsQ (f:Nat→Nat→Int) (n w:Nat) (st:Int×Int):Prop:=0≤st.1∧st.1<n∧0≤st.2∧st.2<w∧f st.1.toNat st.2.toNat≠0
theorem lsS_Q {f:Nat→Nat→Int} {n w i j:Nat} {st:Int×Int} (hi:i<n) (hj:j<w) (h:lsQ f n w st):lsQ f n w (lsS f i j st):=by
 unfold lsS
 split
 ·rename_i h1
  exact ⟨by simp only; omega,by simp only; omega,by simp only; omega,by simp only; omega,by simpa using h1.1⟩
 ·exact h
theorem lsJ_Q {f:Nat→Nat→Int} {n w i k:Nat} {st:Int×Int} (hi:i<n) (h:lsQ f n w st):∀ u,k+u≤w∨u=0→lsQ f n w (lsJ f i k st u)
 | 0,_=>h
 | u+1,hu=>by
  unfold lsJ
  exact lsS_Q hi (by omega) (lsJ_Q hi h u (by omega))
theorem lsI_Q {f:Nat→Nat→Int} {n w k:Nat} {st:Int×Int} (h:lsQ f n w st):∀ t,k+t≤n∨t=0→lsQ f n w (lsI f w k st t)
 | 0,_=>h
 | t+1,ht=>by
  unfold lsI
  exact lsJ_Q (by omega) (lsI_Q h t (by omega)) _ (by omega)
noncomputable def F_i_findLeast:List V→Option V:=F2 dLL dI fun M k => @ite _ (lowB M∧nonN M∧0≤k∧k≤64) (Classical.propDecidable _) (some (.tup [.int .i64 (flZ (ent M) M.length (wdM M) k.toNat).1,.int .i64 (flZ (ent M) M.length (wdM M) k.toNat).2])) none
theorem fn_i_findLeast:FnOk Tryz.prog 63 F_i_findLeast:=by
 have env:=(envNil_ok (P:=Tryz.prog)).add fn_i_findNonZero
 refine fn_ok code_i_findLeast mixed env ?_
 intro args r h hb
 obtain ⟨_,_,M,k,rfl,h1,h2,h4⟩:=F2_inv h
 cases dLL_inv h1
 cases dI_inv h2
 simp only [Option.ite_none_right_eq_some,Option.some.injEq] at h4
 obtain ⟨⟨hlow,hnn,hk0,hk1⟩,rfl⟩:=h4
 clear h
 obtain ⟨k,rfl⟩:∃ q:Nat,k=q:=⟨k.toNat,by omega⟩
 have hNZ:F_i_findNonZero [.list 1 (rowsL M),.int .i64 (k:Int)]=some (.tup [.int .i64 (nzZ (ent M) M.length (wdM M) k).1,.int .i64 (nzZ (ent M) M.length (wdM M) k).2]):=by
  simp only [F_i_findNonZero,F2_mk,dLL_list,dI_int,Option.bind_some]
  rw [if_pos ⟨hlow,hk0,hk1⟩,Int.toNat_natCast]
 obtain ⟨hr,hbd,hn,hw⟩:=hlow
 rw [Int.toNat_natCast]
 refine ⟨by simp,fun w0 U0 L0 N0 => ?_⟩
 clear hb
 unfold nonN at hnn
 unfold flZ
 generalize wdM M=w at *
 have hsp:=nzZ_spec (ent M) M.length w k
 generalize nzZ (ent M) M.length w k=z at *
 have inner:∀ (i:Nat) (st:Int×Int) (Q:Post) (T0:Tm),i<M.length→(lsQ (ent M) M.length w st∨∀ b,k≤b→b<w→ent M i b=0)→subE T0 [(0,.list 1 (rowsL M)),(1,.int .i64 (k:Int)),(6,.int .i64 st.1),(7,.int .i64 st.2),(8,.int .i64 (i:Int)),(9,.int .i64 (k:Int))] →
   Q (.exit 2) [(0,.list 1 (rowsL M)),(1,.int .i64 (k:Int)),(6,.int .i64 (lsJ (ent M) i k st (w-k)).1),(7,.int .i64 (lsJ (ent M) i k st (w-k)).2),(8,.int .i64 (i:Int))] ([],0) →
   LoopI ⟨Tryz.prog,w0,U0,L0,N0,0,62⟩ [] sc_i_findLeast_L2 Q T0 ([],0):=by
  intro i st Q T0 hi hst hsub q1
  have hri:=hr i hi
  refine loopQ env mixed (fun j:Nat=>[(0,.list 1 (rowsL M)),(1,.int .i64 (k:Int)),(6,.int .i64 (lsJ (ent M) i k st (j-k)).1),(7,.int .i64 (lsJ (ent M) i k st (j-k)).2),(8,.int .i64 (i:Int)),(9,.int .i64 (j:Int))]) (fun _=>([],0)) (fun j=>k≤j∧(j≤w∨j=k)) (fun j=>w-j) k ⟨Nat.le_refl k,.inr rfl⟩ (SubI.slots rfl (by simpa [lsJ] using hsub)) ?_
  rintro j ⟨hkj,hu⟩
  by_cases hlt:j<w
  ·have hstep:=lsJ_succ (f:=ent M) (i:=i) (st:=st) hkj
   have hst2:lsQ (ent M) M.length w (lsJ (ent M) i k st (j-k))∨∀ b,k≤b→b<w→ent M i b=0:=hst.imp (fun h=>lsJ_Q hi h _ (by omega)) id
   generalize lsJ (ent M) i k st (j-k)=s at *
   obtain ⟨sr,sc⟩:=s
   by_cases hz:at0 (atR M i) j=0
   ·have hk:lsS (ent M) i j (sr,sc)=(sr,sc):=by unfold lsS; rw [if_neg fun h=>h.1 hz]
    rw [hk] at hstep
    simp -implicitDefEqProofs [sc_i_findLeast_L2,freeOk,hi,hri,hlt,rowsL_dR hi,hz,fz,noname,dr,nolist]
    repeat' (first | omega | apply And.intro)
    exact Again.of (j+1) (by omega) (by omega) (SubI.slots rfl (by simp (disch:=omega) [wrapI,hstep]))
   rcases hst2 with ⟨s1,s2,s3,s4,s5⟩ | h0
   rotate_left
   ·exact absurd (h0 j hkj hlt) hz
   simp only at s1 s2 s3 s4 s5
   obtain ⟨sr,rfl⟩:∃ q:Nat,sr=q:=⟨sr.toNat,by omega⟩
   obtain ⟨sc,rfl⟩:∃ q:Nat,sc=q:=⟨sc.toNat,by omega⟩
   have hsr:sr<M.length:=by omega
   have hsc:sc<w:=by omega
   have hrs:=hr sr hsr
   have hneg:¬((sr:Int)<0):=by omega
   have n1:=hnn i j hi hlt
   have n2:=hnn sr sc hsr hsc
   by_cases hc:at0 (atR M i) j<at0 (atR M sr) sc
   ·have hk:lsS (ent M) i j ((sr:Int),(sc:Int))=((i:Int),(j:Int)):=by
     unfold lsS
     have hc2:(ent M i j).natAbs<(ent M sr sc).natAbs:=by unfold ent at *; omega
     rw [if_pos ⟨hz,.inr hc2⟩]
    rw [hk] at hstep
    simp -implicitDefEqProofs [sc_i_findLeast_L2,freeOk,hi,hri,hlt,hsr,hsc,hrs,rowsL_dR hi,rowsL_dR hsr,hz,hneg,hc,fz,noname,dr,nolist]
    repeat' (first | omega | apply And.intro)
    exact Again.of (j+1) (by omega) (by omega) (SubI.slots rfl (by simp (disch:=omega) [wrapI,hstep]))
   ·have hk:lsS (ent M) i j ((sr:Int),(sc:Int))=((sr:Int),(sc:Int)):=by
     unfold lsS
     rw [if_neg fun h => ?_]
     rcases h.2 with h | h
     ·simp only at h; omega
     ·simp only [Int.toNat_natCast] at h
      unfold ent at *
      omega
    rw [hk] at hstep
    simp -implicitDefEqProofs [sc_i_findLeast_L2,freeOk,hi,hri,hlt,hsr,hsc,hrs,rowsL_dR hi,rowsL_dR hsr,hz,hneg,hc,fz,noname,dr,nolist]
    repeat' (first | omega | apply And.intro)
    exact Again.of (j+1) (by omega) (by omega) (SubI.slots rfl (by simp (disch:=omega) [wrapI,hstep]))
  ·have hu2:lsJ (ent M) i k st (j-k)=lsJ (ent M) i k st (w-k):=by rw [show j-k=w-k by omega]
   simp -implicitDefEqProofs [sc_i_findLeast_L2,hi,hri,hlt,hu2,rowsL_dR hi]
   refine ⟨by omega,SubQ.of ?_ q1⟩
   exact SubI.slots rfl (by simp)
 simp -implicitDefEqProofs [sc_i_findLeast,hNZ]
 refine loopI env mixed (fun i:Nat=>[(0,.list 1 (rowsL M)),(1,.int .i64 (k:Int)),(6,.int .i64 (lsI (ent M) w k z (i-k)).1),(7,.int .i64 (lsI (ent M) w k z (i-k)).2),(8,.int .i64 (i:Int))]) (fun _=>([],0)) (fun i=>k≤i∧(i≤M.length∨i=k)) (fun i=>M.length-i) k ⟨Nat.le_refl k,.inr rfl⟩ (SubI.slots rfl (by simp [lsI])) ?_
 rintro i ⟨hki,ht⟩
 by_cases hlt:i<M.length
 ·have hstep:=lsI_succ (f:=ent M) (w:=w) (st:=z) hki
  have hPt:lsQ (ent M) M.length w (lsI (ent M) w k z (i-k))∨∀ b,k≤b→b<w→ent M i b=0:=by
   rcases hsp with ⟨_,hz⟩ | ⟨a,b,e,c1,c2,c3,c4,c5⟩
   ·exact .inr fun b h1 h2=>hz i b hki hlt h1 h2
   ·exact .inl (lsI_Q (by rw [e]; exact ⟨by simp only; omega,by simp only; omega,by simp only; omega,by simp only; omega,by simpa using c5⟩) _ (by omega))
  have hin:=inner i (lsI (ent M) w k z (i-k))
  generalize lsI (ent M) w k z (i-k)=s at *
  simp -implicitDefEqProofs [sc_i_findLeast_L0,hlt]
  refine hin _ _ hlt hPt (by simp) ?_
  simp -implicitDefEqProofs
  exact Again.of (i+1) (by omega) (by omega) (SubI.slots rfl (by simp (disch:=omega) [wrapI,hstep]))
 ·have ht2:lsI (ent M) w k z (i-k)=lsI (ent M) w k z (M.length-k):=by rw [show i-k=M.length-k by omega]
  simp -implicitDefEqProofs [sc_i_findLeast_L0,hlt,ht2]
def sc_i_divisorOf_L0:SC:=(.seq (.seq (.reg [⟨some 5,none,.mov (.t 1)⟩,⟨some 6,none,.bin false .neq (.t 5) (.c (.int .i64 0))⟩]) (.cond (.t 6) .skip (.exit 0))) (.block 1 (.dreg [⟨⟨some 7,none,.mov (.t 1)⟩,false,false⟩,⟨⟨some 8,none,.mov (.t 0)⟩,false,false⟩,⟨⟨some 9,none,.mov (.t 1)⟩,false,false⟩,⟨⟨some 10,none,.bin false .rem (.t 8) (.t 9)⟩,false,false⟩,⟨⟨some 0,none,.mov (.t 7)⟩,false,false⟩,⟨⟨some 1,none,.mov (.t 10)⟩,false,false⟩])))
def sc_i_divisorOf:SC:=(.seq (.reg [⟨some 4,none,.mov (.c (.int .i64 0))⟩]) (.seq (.block 0 (.loop sc_i_divisorOf_L0)) (.seq (.reg [⟨some 11,none,.mov (.t 0)⟩,⟨some 4,none,.mov (.t 11)⟩]) .ret)))
theorem code_i_divisorOf:fnCode Tryz.prog [] 65=some (12,sc_i_divisorOf,[(4,none)]):=by kernel_rfl
noncomputable def F_i_divisorOf:List V→Option V:=F2 dI dI fun a b => @ite _ (0≤a∧0≤b∧a≤9223372036854775807∧b≤9223372036854775807) (Classical.propDecidable _) (some (.int .i64 (Int.gcd a b:Nat))) none
theorem fn_i_divisorOf:FnOk Tryz.prog 65 F_i_divisorOf:=by
 have env:=envNil_ok (P:=Tryz.prog)
 refine fn_ok code_i_divisorOf mixed env ?_
 intro args r h hb
 obtain ⟨_,_,a,b,rfl,h1,h2,h4⟩:=F2_inv h
 cases dI_inv h1
 cases dI_inv h2
 simp only [Option.ite_none_right_eq_some,Option.some.injEq] at h4
 obtain ⟨⟨ha,hb0,ha1,hb1⟩,rfl⟩:=h4
 clear h h1 h2 hb
 obtain ⟨a,rfl⟩:∃ n:Nat,a=n:=⟨a.toNat,by omega⟩
 obtain ⟨b,rfl⟩:∃ n:Nat,b=n:=⟨b.toNat,by omega⟩
 have hg:Int.gcd (a:Int) (b:Int)=Nat.gcd a b:=rfl
 rw [hg]
 generalize hgg:Nat.gcd a b=g
 refine ⟨by simp,fun w0 U0 L0 N0 => ?_⟩
 simp -implicitDefEqProofs [sc_i_divisorOf]
 refine loopI env mixed (fun x:Nat×Nat=>[(0,.int .i64 (x.1:Int)),(1,.int .i64 (x.2:Int))]) (fun _=>([],0)) (fun x=>Nat.gcd x.1 x.2=g∧x.1≤9223372036854775807∧x.2≤9223372036854775807) (fun x=>x.2) (a,b) ⟨hgg,by simp only; omega,by simp only; omega⟩ (SubI.slots rfl (by simp)) ?_
 rintro ⟨x,y⟩ ⟨hI,hx,hy⟩
 simp only at hI hx hy
 by_cases hz:y=0
 ·subst hz
  have:x=g:=by rwa [Nat.gcd_zero_right] at hI
  subst this
  simp -implicitDefEqProofs [sc_i_divisorOf_L0]
 ·have hz':¬((y:Int)=0):=by omega
  have ht:(x:Int).tmod (y:Int)=((x % y:Nat):Int):=rfl
  have hlt:x % y<y:=Nat.mod_lt _ (by omega)
  simp -implicitDefEqProofs [sc_i_divisorOf_L0,hz,hz',ht]
  refine Again.of (y,x % y) ⟨?_,?_,?_⟩ ?_ (SubI.slots rfl (by simp))
  ·show Nat.gcd y (x % y)=g
   rw [← hI,Nat.gcd_comm y,← Nat.gcd_rec,Nat.gcd_comm]
  ·exact hy
  ·show x % y≤_; omega
  ·show x % y<y; exact hlt
end Go.Proofs.YtkoljbncokmeaaaGreatDoor
