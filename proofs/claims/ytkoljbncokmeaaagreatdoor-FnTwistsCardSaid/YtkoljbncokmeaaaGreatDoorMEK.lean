import Derived.Test.YtkoljbncokmeaaaGreatDoorMEJ
import Derived.Test.YtkoljbncokmeaaaGreatDoorMEI
import Derived.Test.YtkoljbncokmeaaaGreatDoorMEH
namespace Go.Proofs.YtkoljbncokmeaaaGreatDoor
open Go Go.RowKit
set_option maxRecDepth 1000000
set_option linter.unusedSimpArgs false
set_option linter.unusedVariables false
set_option maxHeartbeats 1000000
noncomputable def dmR (t:Int) (n w:Nat):Nat→(Nat→Nat→Int)→Nat→Option (Nat→Nat→Int)
 | 0,_,_=>none
 | q+1,f,k => @ite _ (k<n∧k<w) (Classical.propDecidable _) (@ite _ ((flZ f n w k).1<0) (Classical.propDecidable _) (dmR t n w q f (k+1))
   (@ite _ (ccP t n w k (swF k (flZ f n w k).1.toNat (flZ f n w k).2.toNat f)) (Classical.propDecidable _)
    (dmR t n w q (crF t k (swF k (flZ f n w k).1.toNat (flZ f n w k).2.toNat f)) (k+1))
    (dmR t n w q (crF t k (swF k (flZ f n w k).1.toNat (flZ f n w k).2.toNat f)) k))) (some f)
section
variable {t : Int} {n w q k : Nat} {f : Nat → Nat → Int}
theorem dmR_end (h:¬(k<n∧k<w)):dmR t n w (q+1) f k=some f:=by rw [dmR,if_neg h]
theorem dmR_zero (h:k<n∧k<w) (h1:flZ f n w k=(-1,-1)):dmR t n w (q+1) f k=dmR t n w q f (k+1):=by rw [dmR,if_pos h,if_pos (by rw [h1]; decide)]
variable {i j : Nat}
theorem dmR_done (h:k<n∧k<w) (h1:flZ f n w k=((i:Int),(j:Int))) (hc:ccP t n w k (swF k i j f)):dmR t n w (q+1) f k=dmR t n w q (crF t k (swF k i j f)) (k+1):=by
 have e1:(flZ f n w k).1.toNat=i:=by rw [h1]; simp
 have e2:(flZ f n w k).2.toNat=j:=by rw [h1]; simp
 rw [dmR,if_pos h,if_neg (by rw [h1]; simp only; omega),e1,e2,if_pos hc]
theorem dmR_dirty (h:k<n∧k<w) (h1:flZ f n w k=((i:Int),(j:Int))) (hc:¬ccP t n w k (swF k i j f)):dmR t n w (q+1) f k=dmR t n w q (crF t k (swF k i j f)) k:=by
 have e1:(flZ f n w k).1.toNat=i:=by rw [h1]; simp
 have e2:(flZ f n w k).2.toNat=j:=by rw [h1]; simp
 rw [dmR,if_pos h,if_neg (by rw [h1]; simp only; omega),e1,e2,if_neg hc]
end
theorem flZ_spec (f:Nat→Nat→Int) (n w k:Nat):(flZ f n w k=(-1,-1)∧∀ a b,k≤a→a<n→k≤b→b<w→f a b=0)∨∃ i j:Nat,flZ f n w k=((i:Int),(j:Int))∧i<n∧j<w∧f i j≠0∧k<n∧k<w:=by
 rcases nzZ_spec f n w k with ⟨e,hz⟩ | ⟨a,b,e,c1,c2,c3,c4,c5⟩
 ·left
  refine ⟨?_,hz⟩
  unfold flZ
  rw [e,lsI_zero hz _ (by omega)]
 ·right
  have hQ:=lsI_Q (f:=f) (n:=n) (w:=w) (k:=k) (st:=nzZ f n w k) (by rw [e]; exact ⟨by simp only; omega,by simp only; omega,by simp only; omega,by simp only; omega,by simpa using c5⟩) (n-k) (by omega)
  obtain ⟨s1,s2,s3,s4,s5⟩:=hQ
  refine ⟨(flZ f n w k).1.toNat,(flZ f n w k).2.toNat,?_,?_,?_,s5,by omega,by omega⟩
  ·have h1:0≤(flZ f n w k).1:=s1
   have h2:0≤(flZ f n w k).2:=s3
   rw [Int.toNat_of_nonneg h1,Int.toNat_of_nonneg h2]
  ·have h1:(flZ f n w k).1<n:=s2
   omega
  ·have h1:(flZ f n w k).2<w:=s4
   omega
theorem lsJ_congrQ {f g:Nat→Nat→Int} {n w i k:Nat} (h:∀ a b,a<n→b<w→f a b=g a b) (hi:i<n) {st:Int×Int} (hst:lsQ f n w st):∀ u,k+u≤w∨u=0→lsJ f i k st u=lsJ g i k st u
 | 0,_=>rfl
 | u+1,hu=>by
  obtain ⟨s1,s2,s3,s4,s5⟩:=lsJ_Q (k:=k) hi hst u (by omega)
  have ih:=lsJ_congrQ (k:=k) h hi hst u (by omega)
  unfold lsJ
  rw [← ih]
  generalize lsJ f i k st u=s at *
  unfold lsS
  rw [← h i (k+u) hi (by omega),h _ _ (show s.1.toNat<n by omega) (show s.2.toNat<w by omega)]
theorem lsI_congrQ {f g:Nat→Nat→Int} {n w k:Nat} (h:∀ a b,a<n→b<w→f a b=g a b) {st:Int×Int} (hst:lsQ f n w st):∀ t,k+t≤n∨t=0→lsI f w k st t=lsI g w k st t
 | 0,_=>rfl
 | t+1,ht=>by
  have ih:=lsI_congrQ (k:=k) h hst t (by omega)
  unfold lsI
  rw [← ih,lsJ_congrQ (k:=k) h (by omega) (lsI_Q (k:=k) hst t (by omega)) (w-k) (by omega)]
theorem flZ_congr {f g:Nat→Nat→Int} {n w k:Nat} (h:∀ a b,a<n→b<w→f a b=g a b):flZ f n w k=flZ g n w k:=by
 have e:=nzZ_congr (k:=k) h
 unfold flZ
 rw [← e]
 rcases nzZ_spec f n w k with ⟨e1,hz⟩ | ⟨a,b,e1,c1,c2,c3,c4,c5⟩
 ·rw [e1,lsI_zero hz _ (by omega),lsI_zero (fun a b h1 h2 h3 h4=>by rw [← h a b h2 h4]; exact hz a b h1 h2 h3 h4) _ (by omega)]
 ·rw [e1]
  exact lsI_congrQ h ⟨by simp only; omega,by simp only; omega,by simp only; omega,by simp only; omega,by simpa using c5⟩ _ (by omega)
theorem dmR_mono {t:Int} {n w:Nat} {F:Nat→Nat→Int}:∀ (q:Nat) (f:Nat→Nat→Int) (k:Nat),dmR t n w q f k=some F→dmR t n w (q+1) f k=some F
 | 0,_,_,h=>by simp [dmR] at h
 | q+1,f,k,h=>by
  by_cases hk:k<n∧k<w
  rotate_left
  ·rw [dmR_end hk] at h ⊢; exact h
  rcases flZ_spec f n w k with ⟨e,_⟩ | ⟨i,j,e,_⟩
  ·rw [dmR_zero hk e] at h ⊢
   exact dmR_mono q _ _ h
  ·by_cases hc:ccP t n w k (swF k i j f)
   ·rw [dmR_done hk e hc] at h ⊢
    exact dmR_mono q _ _ h
   ·rw [dmR_dirty hk e hc] at h ⊢
    exact dmR_mono q _ _ h
theorem dmR_le {t:Int} {n w q q':Nat} {f F:Nat→Nat→Int} {k:Nat} (h:dmR t n w q f k=some F) (hq:q≤q'):dmR t n w q' f k=some F:=by
 obtain ⟨d,rfl⟩:∃ d,q'=q+d:=⟨q' - q,by omega⟩
 induction d with
 | zero=>exact h
 | succ d ih=>exact dmR_mono _ _ _ (ih (by omega))
open Classical in
noncomputable def dmV (t:Int) (n w:Nat) (f:Nat→Nat→Int):Option (Nat→Nat→Int):=if h:∃ F:Nat→Nat→Int,∃ q,dmR t n w q f 0=some F then some (Classical.choose h) else none
theorem dmV_iff {t:Int} {n w:Nat} {f F:Nat→Nat→Int}:dmV t n w f=some F↔∃ q,dmR t n w q f 0=some F:=by
 unfold dmV
 constructor
 ·intro h
  split at h
  ·rename_i hh
   simp only [Option.some.injEq] at h
   exact h ▸ Classical.choose_spec hh
  ·cases h
 ·rintro ⟨q,hq⟩
  have hh:∃ F:Nat→Nat→Int,∃ q,dmR t n w q f 0=some F:=⟨F,q,hq⟩
  rw [dif_pos hh]
  obtain ⟨q',hq'⟩:=Classical.choose_spec hh
  have h1:=dmR_le hq (Nat.le_max_left q q')
  have h2:=dmR_le hq' (Nat.le_max_right q q')
  rw [h1] at h2
  exact h2.symm
noncomputable def bbS (d:List Int) (i j:Nat):List Int:=(d.set j ((at0 d i).tdiv (Int.gcd (at0 d i) (at0 d j):Nat)*at0 d j)).set i (Int.gcd (at0 d i) (at0 d j):Nat)
noncomputable def bbJ (d:List Int) (i:Nat):Nat→List Int
 | 0=>d
 | u+1=>bbS (bbJ d i u) i (i+1+u)
noncomputable def bbI (d:List Int):Nat→List Int
 | 0=>d
 | i+1=>bbJ (bbI d i) i (d.length-(i+1))
noncomputable def bub (d:List Int):List Int:=bbI d d.length
@[simp] theorem bbS_len (d:List Int) (i j:Nat):(bbS d i j).length=d.length:=by simp [bbS]
@[simp] theorem bbJ_len (d:List Int) (i:Nat):∀ u,(bbJ d i u).length=d.length
 | 0=>rfl
 | u+1=>by rw [bbJ,bbS_len,bbJ_len d i u]
@[simp] theorem bbI_len (d:List Int):∀ i,(bbI d i).length=d.length
 | 0=>rfl
 | i+1=>by rw [bbI,bbJ_len,bbI_len d i]
def dvL (t:Int) (d:List Int):Prop:=∀ q,q<d.length→1≤at0 d q∧at0 d q∣t
theorem gcd_facts {t a b:Int} (ha:1≤a) (hb:1≤b) (hat:a∣t) (hbt:b∣t):1≤((Int.gcd a b:Nat):Int)∧((Int.gcd a b:Nat):Int)∣a∧((Int.gcd a b:Nat):Int)∣b∧1≤a.tdiv (Int.gcd a b:Nat)*b∧a.tdiv (Int.gcd a b:Nat)*b∣t∧a∣a.tdiv (Int.gcd a b:Nat)*b∧b∣a.tdiv (Int.gcd a b:Nat)*b∧((Int.gcd a b:Nat):Int)*(a.tdiv (Int.gcd a b:Nat)*b)=a*b:=by
 have g1:((Int.gcd a b:Nat):Int)∣a:=Int.gcd_dvd_left ..
 have g2:((Int.gcd a b:Nat):Int)∣b:=Int.gcd_dvd_right ..
 have g0:1≤((Int.gcd a b:Nat):Int):=by
  have:Int.gcd a b≠0:=fun h=>by
   rw [h] at g1
   have:=Int.zero_dvd.1 (by simpa using g1)
   omega
  omega
 have hl1:((Int.lcm a b:Nat):Int)∣t:=Int.coe_lcm_dvd hat hbt
 have hl2:((Int.gcd a b:Nat):Int)*((Int.lcm a b:Nat):Int)=a*b:=by
  have h:=Int.gcd_mul_lcm a b
  have h2:((Int.gcd a b*Int.lcm a b:Nat):Int)=((a.natAbs*b.natAbs:Nat):Int):=by rw [h]
  rw [Int.natCast_mul,Int.natCast_mul] at h2
  rw [h2,show ((a.natAbs:Nat):Int)=a by omega,show ((b.natAbs:Nat):Int)=b by omega]
 generalize ((Int.lcm a b:Nat):Int)=l at *
 generalize ((Int.gcd a b:Nat):Int)=g at *
 obtain ⟨x,rfl⟩:=g1
 obtain ⟨y,hy⟩:=g2
 have e:(g*x).tdiv g=x:=Int.mul_tdiv_cancel_left x (by omega)
 rw [e]
 have hx:1≤x:=by
  refine Int.not_lt.1 fun h => ?_
  have:=Int.mul_nonpos_of_nonneg_of_nonpos (show 0≤g by omega) (show x≤0 by omega)
  omega
 have hxb:1≤x*b:=by
  have:=Int.mul_le_mul hx hb (by omega) (by omega)
  omega
 refine ⟨g0,Int.dvd_mul_right _ _,⟨y,hy⟩,hxb,?_,⟨y,by rw [hy]; simp only [Int.mul_assoc,Int.mul_left_comm,Int.mul_comm]⟩,Int.dvd_mul_left _ _,by rw [Int.mul_assoc]⟩
 rw [Int.mul_assoc] at hl2
 have:l=x*b:=Int.eq_of_mul_eq_mul_left (by omega) hl2
 rw [← this]
 exact hl1
theorem bbS_at {d:List Int} {i j q:Nat} (hi:i<d.length) (hj:j<d.length) (hij:i≠j) (hq:q<d.length):at0 (bbS d i j) q=if q=i then ((Int.gcd (at0 d i) (at0 d j):Nat):Int) else if q=j then (at0 d i).tdiv (Int.gcd (at0 d i) (at0 d j):Nat)*at0 d j else at0 d q:=by
 unfold bbS
 rw [at0_set,at0_set]
 simp only [List.length_set]
 by_cases e1:q=i
 ·subst e1; simp [hi]
 ·have e1':¬i=q:=fun h=>e1 h.symm
  rw [if_neg fun h=>e1' h.1,if_neg e1]
  by_cases e2:q=j
  ·subst e2; simp [hj]
  ·have e2':¬j=q:=fun h=>e2 h.symm
   rw [if_neg fun h=>e2' h.1,if_neg e2]
theorem dvL_S {t:Int} {d:List Int} {i j:Nat} (h:dvL t d) (hi:i<d.length) (hj:j<d.length) (hij:i≠j):dvL t (bbS d i j):=fun q hq=>by
 rw [bbS_len] at hq
 rw [bbS_at hi hj hij hq]
 obtain ⟨a1,a2⟩:=h i hi
 obtain ⟨b1,b2⟩:=h j hj
 obtain ⟨g0,g1,g2,g3,g4,_⟩:=gcd_facts a1 b1 a2 b2
 split
 ·exact ⟨g0,Int.dvd_trans g1 a2⟩
 ·split
  ·exact ⟨g3,g4⟩
  ·exact h q hq
theorem dvL_J {t:Int} {d:List Int} {i:Nat} (h:dvL t d):∀ u,i+1+u≤d.length∨u=0→dvL t (bbJ d i u)
 | 0,_=>h
 | u+1,hu=>by
  unfold bbJ
  exact dvL_S (dvL_J h u (by omega)) (by rw [bbJ_len]; omega) (by rw [bbJ_len]; omega) (by omega)
theorem dvL_I {t:Int} {d:List Int} (h:dvL t d):∀ i,i≤d.length→dvL t (bbI d i)
 | 0,_=>h
 | i+1,hi=>by
  unfold bbI
  exact dvL_J (dvL_I h i (by omega)) _ (by rw [bbI_len]; omega)
noncomputable def dg0 (t:Int) (m:Nat) (f:Nat→Nat→Int):List Int:=rowF m fun k=>(Int.gcd t (f k k):Nat)
structure lsG (f:Nat→Nat→Int) (n w k i j:Nat):Prop where
 i1:k≤i
 i2:i<n
 j1:k≤j
 j2:j<w
 nz:f i j≠0
def lsH (f:Nat→Nat→Int) (n w k:Nat) (P:Nat→Nat→Prop) (st:Int×Int):Prop:=st=(-1,-1)∨∃ i j:Nat,st=((i:Int),(j:Int))∧lsG f n w k i j∧∀ a b,P a b→f a b≠0→(f i j).natAbs≤(f a b).natAbs
theorem lsJ_H {f:Nat→Nat→Int} {n w k i:Nat} {P:Nat→Nat→Prop} {st:Int×Int} (hki:k≤i) (hi:i<n) (h:lsH f n w k P st) (h0:st=(-1,-1)→∀ a b,P a b→f a b=0):∀ u,k+u≤w∨u=0 →
  lsH f n w k (fun a b=>P a b∨(a=i∧k≤b∧b<k+u)) (lsJ f i k st u)∧(lsJ f i k st u=(-1,-1)→∀ a b,P a b∨(a=i∧k≤b∧b<k+u)→f a b=0)
 | 0,_=>by
  refine ⟨?_,fun e a b hp => ?_⟩
  ·rcases h with e | ⟨x,y,e,g,hm⟩
   ·exact .inl e
   ·exact .inr ⟨x,y,e,g,fun a b hp hne=>hp.elim (fun h=>hm a b h hne) fun h=>by omega⟩
  ·rcases hp with hp | hp
   ·exact h0 e a b hp
   ·omega
 | u+1,hu=>by
  obtain ⟨h1,h2⟩:=lsJ_H hki hi h h0 u (by omega)
  unfold lsJ
  generalize lsJ f i k st u=s at *
  unfold lsS
  split
  ·rename_i hc
   refine ⟨.inr ⟨i,k+u,rfl,⟨hki,hi,by omega,by omega,hc.1⟩,fun a b hp hne => ?_⟩,fun e=>by simp only [Prod.mk.injEq] at e; omega⟩
   by_cases e:a=i∧b=k+u
   ·rw [e.1,e.2]; exact Nat.le_refl _
   ·have hp2:P a b∨(a=i∧k≤b∧b<k+u):=by
     rcases hp with hp | hp
     ·exact .inl hp
     ·exact .inr (by omega)
    rcases h1 with e1 | ⟨x,y,e1,g,hm⟩
    ·exact absurd (h2 e1 a b hp2) hne
    ·have h3:=hm a b hp2 hne
     rcases hc.2 with h4 | h4
     ·rw [e1] at h4; simp only at h4; omega
     ·rw [e1] at h4; simp only [Int.toNat_natCast] at h4; omega
  ·rename_i hc
   refine ⟨?_,fun e a b hp => ?_⟩
   ·rcases h1 with e1 | ⟨x,y,e1,g,hm⟩
    ·exact .inl e1
    ·refine .inr ⟨x,y,e1,g,fun a b hp hne => ?_⟩
     by_cases e:a=i∧b=k+u
     ·refine Nat.not_lt.1 fun h4=>hc ⟨by rw [← e.1,← e.2]; exact hne,.inr ?_⟩
      rw [e1]
      simp only [Int.toNat_natCast]
      rw [← e.1,← e.2]
      exact h4
     ·exact hm a b (by
       rcases hp with hp | hp
       ·exact .inl hp
       ·exact .inr (by omega)) hne
   ·by_cases e2:a=i∧b=k+u
    ·rw [e2.1,e2.2]
     exact Classical.byContradiction fun h5=>hc ⟨h5,.inl (by rw [e]; simp)⟩
    ·exact h2 e a b (by
      rcases hp with hp | hp
      ·exact .inl hp
      ·exact .inr (by omega))
theorem lsI_H {f:Nat→Nat→Int} {n w k:Nat} {P:Nat→Nat→Prop} {st:Int×Int} (h:lsH f n w k P st) (h0:st=(-1,-1)→∀ a b,P a b→f a b=0):∀ t,k+t≤n∨t=0 →
  lsH f n w k (fun a b=>P a b∨(k≤a∧a<k+t∧k≤b∧b<w)) (lsI f w k st t)∧(lsI f w k st t=(-1,-1)→∀ a b,P a b∨(k≤a∧a<k+t∧k≤b∧b<w)→f a b=0)
 | 0,_=>by
  refine ⟨?_,fun e a b hp => ?_⟩
  ·rcases h with e | ⟨x,y,e,g,hm⟩
   ·exact .inl e
   ·exact .inr ⟨x,y,e,g,fun a b hp hne=>hp.elim (fun h=>hm a b h hne) fun h=>by omega⟩
  ·rcases hp with hp | hp
   ·exact h0 e a b hp
   ·omega
 | t+1,ht=>by
  obtain ⟨h1,h2⟩:=lsI_H h h0 t (by omega)
  unfold lsI
  obtain ⟨h3,h4⟩:=lsJ_H (i:=k+t) (by omega) (by omega) h1 h2 (w-k) (by omega)
  have conv:∀ a b,(P a b∨(k≤a∧a<k+(t+1)∧k≤b∧b<w))→((P a b∨(k≤a∧a<k+t∧k≤b∧b<w))∨(a=k+t∧k≤b∧b<k+(w-k))):=fun a b hp=>by
   rcases hp with hp | hp
   ·exact .inl (.inl hp)
   ·by_cases e:a=k+t
    ·exact .inr (by omega)
    ·exact .inl (.inr (by omega))
  refine ⟨?_,fun e a b hp=>h4 e a b (conv a b hp)⟩
  rcases h3 with e | ⟨x,y,e,g,hm⟩
  ·exact .inl e
  ·exact .inr ⟨x,y,e,g,fun a b hp hne=>hm a b (conv a b hp) hne⟩
theorem lsZ_full (f:Nat→Nat→Int) (n w k:Nat):(lsZ f n w k=(-1,-1)∧∀ a b,k≤a→a<n→k≤b→b<w→f a b=0)∨∃ i j:Nat,lsZ f n w k=((i:Int),(j:Int))∧lsG f n w k i j∧∀ a b,k≤a→a<n→k≤b→b<w→f a b≠0→(f i j).natAbs≤(f a b).natAbs:=by
 obtain ⟨h1,h2⟩:=lsI_H (f:=f) (n:=n) (w:=w) (k:=k) (P:=fun _ _=>False) (st:=(-1,-1)) (.inl rfl) (fun _ a b h=>h.elim) (n-k) (by omega)
 rcases h1 with e | ⟨x,y,e,g,hm⟩
 ·exact .inl ⟨e,fun a b ha1 ha2 hb1 hb2=>h2 e a b (.inr (by omega))⟩
 ·exact .inr ⟨x,y,e,g,fun a b ha1 ha2 hb1 hb2=>hm a b (.inr (by omega))⟩
theorem flZ_full (f:Nat→Nat→Int) (n w k:Nat):(flZ f n w k=(-1,-1)∧∀ a b,k≤a→a<n→k≤b→b<w→f a b=0)∨∃ i j:Nat,flZ f n w k=((i:Int),(j:Int))∧lsG f n w k i j∧∀ a b,k≤a→a<n→k≤b→b<w→f a b≠0→(f i j).natAbs≤(f a b).natAbs:=by
 unfold flZ
 rcases nzZ_spec f n w k with ⟨e,hz⟩ | ⟨x,y,e,c1,c2,c3,c4,c5⟩
 ·exact .inl ⟨by rw [e,lsI_zero hz _ (by omega)],hz⟩
 ·rw [e]
  obtain ⟨h1,h2⟩:=lsI_H (f:=f) (n:=n) (w:=w) (k:=k) (P:=fun a b=>a=x∧b=y) (st:=((x:Int),(y:Int))) (.inr ⟨x,y,rfl,⟨c1,c2,c3,c4,c5⟩,fun a b h _=>by rw [h.1,h.2]; exact Nat.le_refl _⟩) (fun e=>by simp only [Prod.mk.injEq] at e; omega) (n-k) (by omega)
  rcases h1 with e | ⟨x',y',e,g,hm⟩
  ·exact .inl ⟨e,fun a b ha1 ha2 hb1 hb2=>h2 e a b (.inr (by omega))⟩
  ·exact .inr ⟨x',y',e,g,fun a b ha1 ha2 hb1 hb2=>hm a b (.inr (by omega))⟩
def zI (n w k:Nat) (f:Nat→Nat→Int):Prop:=∀ a b,a<n→b<w→(a<k∨b<k)→a≠b→f a b=0
theorem swI_low {k i a:Nat} (hi:k≤i) (ha:a<k):swI k i a=a:=by unfold swI; rw [if_neg (by omega),if_neg (by omega)]
theorem swI_high {k i a:Nat} (hi:k≤i) (ha:k≤a):k≤swI k i a:=by
 unfold swI
 split
 ·exact hi
 ·split
  ·exact Nat.le_refl k
  ·exact ha
theorem zI_sw {n w k i j:Nat} {f:Nat→Nat→Int} (h:zI n w k f) (hk:k<n) (hw:k<w) (i1:k≤i) (i2:i<n) (j1:k≤j) (j2:j<w):zI n w k (swF k i j f):=fun a b ha hb hab hne=>by
 unfold swF
 by_cases h1:a<k
 ·rw [swI_low i1 h1]
  refine h a _ ha (swI_lt hw j2 hb) (.inl h1) fun e => ?_
  by_cases h2:b<k
  ·rw [swI_low j1 h2] at e; exact hne e
  ·have:=swI_high (k:=k) j1 (a:=b) (by omega); omega
 ·have h2:b<k:=by omega
  rw [swI_low j1 h2]
  exact h _ b (swI_lt hk i2 ha) hb (.inr h2) (by have:=swI_high (k:=k) i1 (a:=a) (by omega); omega)
section
variable {n w k : Nat} {g : Nat → Nat → Int}
theorem zI_rst (h:zI n w k g):zI n w k (rstF k g):=fun a b ha hb hab hne=>by
 unfold rstF clF
 rw [if_neg (by omega)]
 unfold rwF
 rw [if_neg (by omega)]
 exact h a b ha hb hab hne
theorem rst_kk:rstF k g k k=g k k:=by
 unfold rstF clF rwF
 rw [if_neg (by omega),if_neg (by omega)]
theorem rst_low {a b:Nat} (h:a<k∨b<k):rstF k g a b=g a b:=by
 unfold rstF clF rwF
 rw [if_neg (by omega),if_neg (by omega)]
theorem zI_rst_succ (h:zI n w k g) (hc:clnP n w k g):zI n w (k+1) (rstF k g):=fun a b ha hb hab hne=>by
 by_cases h1:a<k∨b<k
 ·exact zI_rst h a b ha hb h1 hne
 ·by_cases h2:a=k
  ·subst h2
   exact hc.2 b (by omega) hb
  ·have h3:b=k:=by omega
   subst h3
   have:rstF b g a b=rwF b g a b:=by
    show clF b (rwF b g) a b=_
    unfold clF
    rw [if_neg (by omega)]
   rw [this]
   exact hc.1 a (by omega) ha
theorem dv_rwF {top t:Int} {K:Nat} (h:zI n w k g) (hk:k<n) (hw:k<w):dv top n w K t g↔dv top n w K t (rwF k g) :=
 dv_row_iff (fun a=>if k<a then -((g a k).tdiv (g k k)) else 0) hk (by simp) fun a b ha hb=>by
  unfold rwF rwV
  by_cases h1:k<a
  ·by_cases h2:k≤b
   ·rw [if_pos ⟨h1,h2⟩,if_pos h1,Int.neg_mul]; omega
   ·rw [if_neg (by omega),if_pos h1,h k b hk hb (.inr (by omega)) (by omega),Int.mul_zero,Int.add_zero]
  ·rw [if_neg (by omega),if_neg h1,Int.zero_mul,Int.add_zero]
theorem zI_rwF (h:zI n w k g):zI n w k (rwF k g):=fun a b ha hb hab hne=>by
 unfold rwF
 rw [if_neg (by omega)]
 exact h a b ha hb hab hne
theorem dv_clF {top t:Int} {K:Nat} (h:zI n w k g) (hk:k<n) (hw:k<w):dv top n w K t g↔dv top n w K t (clF k g) :=
 dv_col_iff (fun b=>if k<b then -((g k b).tdiv (g k k)) else 0) hw (by simp) fun a b ha hb=>by
  unfold clF clV
  by_cases h1:k<b
  ·by_cases h2:k≤a
   ·rw [if_pos ⟨h2,h1⟩,if_pos h1,Int.neg_mul]; omega
   ·rw [if_neg (by omega),if_pos h1,h a k ha hw (.inl (by omega)) (by omega),Int.mul_zero,Int.add_zero]
  ·rw [if_neg (by omega),if_neg h1,Int.zero_mul,Int.add_zero]
theorem dv_rst {top t:Int} {K:Nat} (h:zI n w k g) (hk:k<n) (hw:k<w):dv top n w K t g↔dv top n w K t (rstF k g):=(dv_rwF h hk hw).trans (dv_clF (zI_rwF h) hk hw)
theorem dv_addF {top t:Int} {K o:Nat} (h:zI n w k g) (hk:k<n) (hko:k<o) (ho:o<n):dv top n w K t g↔dv top n w K t (addF k o g) :=
 dv_row_iff (fun a=>if a=k then 1 else 0) ho (by rw [if_neg (by omega)]) fun a b ha hb=>by
  unfold addF
  by_cases h1:a=k
  ·by_cases h2:k≤b
   ·rw [if_pos ⟨h1,h2⟩,if_pos h1,Int.one_mul]
   ·rw [if_neg (by omega),if_pos h1,h o b ho hb (.inr (by omega)) (by omega),Int.mul_zero,Int.add_zero]
  ·rw [if_neg (by omega),if_neg h1,Int.zero_mul,Int.add_zero]
theorem zI_addF {o:Nat} (h:zI n w k g) (hko:k<o) (ho:o<n):zI n w k (addF k o g):=fun a b ha hb hab hne=>by
 unfold addF
 by_cases h1:a=k∧k≤b
 ·omega
 ·rw [if_neg h1]; exact h a b ha hb hab hne
end
def bD (d:Int) (n w k:Nat) (f:Nat→Nat→Int):Prop:=∀ a b,k≤a→a<n→k≤b→b<w→d∣f a b
theorem bD_sw {d:Int} {n w k i j:Nat} {f:Nat→Nat→Int} (h:bD d n w k f) (hk:k<n) (hw:k<w) (i1:k≤i) (i2:i<n) (j1:k≤j) (j2:j<w):bD d n w k (swF k i j f):=fun a b ha1 ha2 hb1 hb2 =>
 h _ _ (swI_high i1 ha1) (swI_lt hk i2 ha2) (swI_high j1 hb1) (swI_lt hw j2 hb2)
theorem bD_rst {d:Int} {n w k:Nat} {g:Nat→Nat→Int} (h:bD d n w k g) (hk:k<n) (hw:k<w):bD d n w k (rstF k g):=by
 have h1:bD d n w k (rwF k g):=fun a b ha1 ha2 hb1 hb2=>by
  unfold rwF rwV
  split
  ·exact Int.dvd_sub (h a b ha1 ha2 hb1 hb2) (Int.dvd_mul_of_dvd_right (h k b (Nat.le_refl k) hk hb1 hb2))
  ·exact h a b ha1 ha2 hb1 hb2
 intro a b ha1 ha2 hb1 hb2
 unfold rstF clF clV
 split
 ·exact Int.dvd_sub (h1 a b ha1 ha2 hb1 hb2) (Int.dvd_mul_of_dvd_right (h1 a k ha1 ha2 (Nat.le_refl k) hw))
 ·exact h1 a b ha1 ha2 hb1 hb2
theorem bD_addF {d:Int} {n w k o:Nat} {g:Nat→Nat→Int} (h:bD d n w k g) (hko:k<o) (ho:o<n):bD d n w k (addF k o g):=fun a b ha1 ha2 hb1 hb2=>by
 unfold addF
 split
 ·exact Int.dvd_add (h a b ha1 ha2 hb1 hb2) (h o b (by omega) ho hb1 hb2)
 ·exact h a b ha1 ha2 hb1 hb2
theorem bD_succ {d:Int} {n w k:Nat} {g:Nat→Nat→Int} (h:bD d n w k g):bD d n w (k+1) g:=fun a b ha1 ha2 hb1 hb2=>h a b (by omega) ha2 (by omega) hb2
structure stI (n w k:Nat) (f:Nat→Nat→Int) (out:List Int):Prop where
 z:zI n w k f
 l:out.length=k
 v:∀ i,i<k→at0 out i=((f i i).natAbs:Int)∧f i i≠0
 c:∀ i j,i<j→j<k→f i i∣f j j
 b:∀ i,i<k→bD (f i i) n w k f
structure smF (n w:Nat) (F:Nat→Nat→Int) (R:List Int):Prop where
 l1:R.length≤n
 l2:R.length≤w
 d:∀ a b,a<n→b<w→F a b=if a=b∧a<R.length then F a a else 0
 v:∀ i,i<R.length→at0 R i=((F i i).natAbs:Int)∧F i i≠0
 c:∀ i j,i<j→j<R.length→F i i∣F j j
theorem smR_spec {n w:Nat}:∀ (q:Nat) (f:Nat→Nat→Int) (k:Nat) (out R:List Int),k≤n→k≤w→stI n w k f out→smR n w q f k out=some R→∃ F,smF n w F R∧∀ (top:Int) (K:Nat) (t:Int),dv top n w K t f↔dv top n w K t F
 | 0,_,_,_,_,_,_,_,h=>by simp [smR] at h
 | q+1,f,k,out,R,hkn,hkw,hI,h=>by
  have fin:(∀ a b,k≤a→a<n→k≤b→b<w→f a b=0)→R=out→∃ F,smF n w F R∧∀ (top:Int) (K:Nat) (t:Int),dv top n w K t f↔dv top n w K t F:=fun hz e=>by
   subst e
   refine ⟨f,⟨by rw [hI.l]; exact hkn,by rw [hI.l]; exact hkw,fun a b ha hb => ?_,fun i hi=>hI.v i (by rw [← hI.l]; exact hi),fun i j hij hj=>hI.c i j hij (by rw [← hI.l]; exact hj)⟩,fun _ _ _=>Iff.rfl⟩
   by_cases hab:a=b∧a<R.length
   ·rw [if_pos hab,hab.1]
   ·rw [if_neg hab]
    rw [hI.l] at hab
    by_cases h1:a<k∨b<k
    ·exact hI.z a b ha hb h1 fun e=>hab ⟨e,by omega⟩
    ·exact hz a b (by omega) ha (by omega) hb
  by_cases hk:k<n∧k<w
  rotate_left
  ·rw [smR_end hk] at h
   simp only [Option.some.injEq] at h
   exact fin (fun a b h1 h2 h3 h4=>by omega) h.symm
  rcases lsZ_full f n w k with ⟨e,hz⟩ | ⟨i,j,e,⟨i1,i2,j1,j2,hnz⟩,hmin⟩
  ·rw [smR_zero hk e] at h
   simp only [Option.some.injEq] at h
   exact fin hz h.symm
  have hb:=smR_bd hk e h
  have hzg:=zI_sw hI.z hk.1 hk.2 i1 i2 j1 j2
  have hlow:∀ a,a<k→rstF k (swF k i j f) a a=f a a:=fun a ha=>by
   rw [rst_low (.inl ha)]
   unfold swF
   rw [swI_low i1 ha,swI_low j1 ha]
  have hkk:rstF k (swF k i j f) k k≠0:=by
   rw [rst_kk]
   unfold swF
   rw [swI_l,swI_l]
   exact hnz
  have hzh:=zI_rst hzg
  have hbh:∀ a,a<k→bD (f a a) n w k (rstF k (swF k i j f)):=fun a ha=>bD_rst (bD_sw (hI.b a ha) hk.1 hk.2 i1 i2 j1 j2) hk.1 hk.2
  have heq:∀ (top:Int) (K:Nat) (t:Int),dv top n w K t f↔dv top n w K t (rstF k (swF k i j f)):=fun top K t=>(dv_sw_iff hk.1 hk.2 i2 j2).trans (dv_rst hzg hk.1 hk.2)
  by_cases hc:clnP n w k (swF k i j f)
  rotate_left
  ·rw [smR_dirty hk e hb hc] at h
   obtain ⟨F,hF,hE⟩:=smR_spec q _ k out R hkn hkw ⟨hzh,hI.l,fun a ha=>by rw [hlow a ha]; exact hI.v a ha,fun a b hab hb=>by rw [hlow a (by omega),hlow b hb]; exact hI.c a b hab hb,fun a ha=>by rw [hlow a ha]; exact hbh a ha⟩ h
   exact ⟨F,hF,fun top K t=>(heq top K t).trans (hE top K t)⟩
  rcases odI_spec (rstF k (swF k i j f)) w k (n-(k+1)) (k+1) with ⟨eo,hno⟩ | ⟨o,eo,c1,c2,c3⟩
  ·have eo':odZ (rstF k (swF k i j f)) n w k = -1:=eo
   rw [smR_done hk e hb hc (by rw [eo']; omega)] at h
   have hz1:=zI_rst_succ hzg hc
   have hdk:bD (rstF k (swF k i j f) k k) n w (k+1) (rstF k (swF k i j f)):=fun a b ha1 ha2 hb1 hb2=>by
    have:=hno a ha1 (by omega)
    refine Int.dvd_of_tmod_eq_zero (Classical.byContradiction fun hh=>this ⟨b,by omega,hb2,hh⟩)
   have hst:stI n w (k+1) (rstF k (swF k i j f)) (out++[((rstF k (swF k i j f) k k).natAbs:Int)]):=by
    refine ⟨hz1,by rw [List.length_append,hI.l]; rfl,fun a ha => ?_,fun a b hab hb => ?_,fun a ha => ?_⟩
    ·by_cases ea:a=k
     ·subst ea
      refine ⟨?_,hkk⟩
      rw [at0_app,if_neg (by rw [hI.l]; omega),hI.l,Nat.sub_self]
      simp [at0]
     ·rw [at0_app,if_pos (by rw [hI.l]; omega),hlow a (by omega)]
      exact hI.v a (by omega)
    ·by_cases eb:b=k
     ·subst eb
      rw [hlow a hab]
      exact hbh a hab b b (Nat.le_refl b) hk.1 (Nat.le_refl b) hk.2
     ·rw [hlow a (by omega),hlow b (by omega)]
      exact hI.c a b hab (by omega)
    ·by_cases ea:a=k
     ·subst ea; exact hdk
     ·rw [hlow a (by omega)]
      exact bD_succ (hbh a (by omega))
   obtain ⟨F,hF,hE⟩:=smR_spec q _ (k+1) _ R hk.1 hk.2 hst h
   exact ⟨F,hF,fun top K t=>(heq top K t).trans (hE top K t)⟩
  ·have eo':odZ (rstF k (swF k i j f)) n w k=(o:Int):=eo
   rw [smR_odd hk e hb hc eo'] at h
   split at h
   rotate_left
   ·cases h
   have hon:o<n:=by omega
   have hal:∀ a,a<k→addF k o (rstF k (swF k i j f)) a a=f a a:=fun a ha=>by
    unfold addF
    rw [if_neg (by omega)]
    exact hlow a ha
   obtain ⟨F,hF,hE⟩:=smR_spec q _ k out R hkn hkw ⟨zI_addF hzh (by omega) hon,hI.l,fun a ha=>by rw [hal a ha]; exact hI.v a ha,fun a b hab hb=>by rw [hal a (by omega),hal b hb]; exact hI.c a b hab hb,fun a ha=>by rw [hal a ha]; exact bD_addF (hbh a ha) (by omega) hon⟩ h
   exact ⟨F,hF,fun top K t=>(heq top K t).trans ((dv_addF hzh hk.1 (by omega) hon).trans (hE top K t))⟩
theorem dv_shift_iff {top t:Int} {n w K:Nat} {f g:Nat→Nat→Int} (Y:Nat→Nat→Int) (h:∀ a b,a<n→b<w→g a b=f a b+top*Y a b):dv top n w K t f↔dv top n w K t g :=
 ⟨dv_shift Y h,dv_shift (fun a b => - Y a b) fun a b ha hb=>by rw [h a b ha hb,Int.mul_neg]; omega⟩
theorem mod_eq (x t:Int):x % t=x+t * -(x / t):=by
 have:=Int.emod_add_mul_ediv x t
 rw [Int.mul_neg]; omega
section
variable {t s : Int} {n w k K : Nat} {g : Nat → Nat → Int}
theorem dv_rmF (h:zI n w k g) (hk:k<n) (hw:k<w):dv t n w K s g↔dv t n w K s (rmF t k g) :=
 (dv_rwF h hk hw).trans (dv_shift_iff (fun a b=>if k<a∧k≤b then -(rwV k g a b / t) else 0) fun a b ha hb=>by
  unfold rmF rgF rmV rwF
  by_cases hc:k<a∧k≤b
  ·rw [if_pos hc,if_pos hc,if_pos hc,mod_eq]
  ·rw [if_neg hc,if_neg hc,if_neg hc,Int.mul_zero,Int.add_zero])
theorem zI_rmF (h:zI n w k g):zI n w k (rmF t k g):=fun a b ha hb hab hne=>by
 unfold rmF rgF
 rw [if_neg (by omega)]
 exact h a b ha hb hab hne
theorem dv_crF (h:zI n w k g) (hk:k<n) (hw:k<w):dv t n w K s g↔dv t n w K s (crF t k g) :=
 (dv_rmF h hk hw).trans ((dv_clF (zI_rmF h) hk hw).trans (dv_shift_iff (fun a b=>if k≤a∧k<b then -(clV k (rmF t k g) a b / t) else 0) fun a b ha hb=>by
  unfold crF cgF cmV clF
  by_cases hc:k≤a∧k<b
  ·rw [if_pos hc,if_pos hc,if_pos hc,mod_eq]
  ·rw [if_neg hc,if_neg hc,if_neg hc,Int.mul_zero,Int.add_zero]))
theorem zI_crF (h:zI n w k g):zI n w k (crF t k g):=fun a b ha hb hab hne=>by
 unfold crF cgF
 rw [if_neg (by omega)]
 exact zI_rmF h a b ha hb hab hne
theorem zI_cr_succ (h:zI n w k g) (hc:ccP t n w k g):zI n w (k+1) (crF t k g):=fun a b ha hb hab hne=>by
 by_cases h1:a<k∨b<k
 ·exact zI_crF h a b ha hb h1 hne
 ·by_cases h2:a=k
  ·subst h2
   exact hc.2 b (by omega) hb
  ·have h3:b=k:=by omega
   subst h3
   have:crF t b g a b=rmF t b g a b:=by
    unfold crF cgF
    rw [if_neg (by omega)]
   rw [this]
   exact hc.1 a (by omega) ha
end
theorem dmR_spec {t:Int} {n w:Nat} (ht:1≤t) {F:Nat→Nat→Int}:∀ (q:Nat) (f:Nat→Nat→Int) (k:Nat),k≤n→k≤w→zI n w k f→modE t n w f→dmR t n w q f k=some F →
  zI n w (min n w) F∧modE t n w F∧∀ (K:Nat) (s:Int),dv t n w K s f↔dv t n w K s F
 | 0,_,_,_,_,_,_,h=>by simp [dmR] at h
 | q+1,f,k,hkn,hkw,hz,hm,h=>by
  by_cases hk:k<n∧k<w
  rotate_left
  ·rw [dmR_end hk] at h
   simp only [Option.some.injEq] at h
   subst h
   rw [show min n w=k by omega]
   exact ⟨hz,hm,fun _ _=>Iff.rfl⟩
  rcases flZ_full f n w k with ⟨e,h0⟩ | ⟨i,j,e,⟨i1,i2,j1,j2,hnz⟩,hmin⟩
  ·rw [dmR_zero hk e] at h
   exact dmR_spec ht q f (k+1) hk.1 hk.2 (fun a b ha hb hab hne=>by
    by_cases h1:a<k∨b<k
    ·exact hz a b ha hb h1 hne
    ·exact h0 a b (by omega) ha (by omega) hb) hm h
  ·have hzg:=zI_sw hz hk.1 hk.2 i1 i2 j1 j2
   have hmg:modE t n w (swF k i j f):=fun a b ha hb=>hm _ _ (swI_lt hk.1 i2 ha) (swI_lt hk.2 j2 hb)
   have hmh:=modE_cr (k:=k) hmg ht
   have heq:∀ (K:Nat) (s:Int),dv t n w K s f↔dv t n w K s (crF t k (swF k i j f)):=fun K s=>(dv_sw_iff hk.1 hk.2 i2 j2).trans (dv_crF hzg hk.1 hk.2)
   by_cases hc:ccP t n w k (swF k i j f)
   ·rw [dmR_done hk e hc] at h
    obtain ⟨a1,a2,a3⟩:=dmR_spec ht q _ (k+1) hk.1 hk.2 (zI_cr_succ hzg hc) hmh h
    exact ⟨a1,a2,fun K s=>(heq K s).trans (a3 K s)⟩
   ·rw [dmR_dirty hk e hc] at h
    obtain ⟨a1,a2,a3⟩:=dmR_spec ht q _ k hkn hkw (zI_crF hzg) hmh h
    exact ⟨a1,a2,fun K s=>(heq K s).trans (a3 K s)⟩
theorem rem_small {x p t:Int} (hx:0≤x∧x<t) (hp:0<p∧p<t):(x-x.tdiv p*p) % t=x % p∧0≤x % p∧x % p<p:=by
 have h1:x.tdiv p=x / p:=Int.tdiv_eq_ediv_of_nonneg hx.1
 have h2:=Int.emod_add_mul_ediv x p
 have h3:=Int.emod_nonneg x (show p≠0 by omega)
 have h4:=Int.emod_lt_of_pos x hp.1
 have h5:x-x.tdiv p*p=x % p:=by rw [h1,Int.mul_comm]; omega
 rw [h5]
 exact ⟨Int.emod_eq_of_lt h3 (by omega),h3,h4⟩
theorem cc_less {t:Int} {n w k:Nat} {g:Nat→Nat→Int} (hm:modE t n w g) (hk:k<n) (hw:k<w) (hnz:g k k≠0) (hc:¬ccP t n w k g):∃ a b,k≤a∧a<n∧k≤b∧b<w∧crF t k g a b≠0∧(crF t k g a b).natAbs<(g k k).natAbs:=by
 have hp:=hm k k hk hw
 have hpp:0<g k k:=by omega
 by_cases h1:∀ a,k<a→a<n→rmF t k g a k=0
 ·have h2:¬∀ b,k<b→b<w→crF t k g k b=0:=fun h=>hc ⟨h1,h⟩
  obtain ⟨b,hb⟩:=Classical.not_forall.1 h2
  obtain ⟨hb1,hb⟩:=Classical.not_imp.1 hb
  obtain ⟨hb2,hb3⟩:=Classical.not_imp.1 hb
  refine ⟨k,b,Nat.le_refl k,hk,by omega,hb2,hb3,?_⟩
  have e1:rmF t k g k b=g k b:=by unfold rmF rgF; rw [if_neg (by omega)]
  have e2:rmF t k g k k=g k k:=by unfold rmF rgF; rw [if_neg (by omega)]
  have e3:crF t k g k b=(g k b-(g k b).tdiv (g k k)*g k k) % t:=by
   unfold crF cgF cmV clV
   rw [if_pos ⟨Nat.le_refl k,hb1⟩,e1,e2]
  obtain ⟨r1,r2,r3⟩:=rem_small (hm k b hk hb2) ⟨hpp,hp.2⟩
  rw [e3,r1]
  omega
 ·obtain ⟨a,ha⟩:=Classical.not_forall.1 h1
  obtain ⟨ha1,ha⟩:=Classical.not_imp.1 ha
  obtain ⟨ha2,ha3⟩:=Classical.not_imp.1 ha
  have e0:crF t k g a k=rmF t k g a k:=by unfold crF cgF; rw [if_neg (by omega)]
  refine ⟨a,k,by omega,ha2,Nat.le_refl k,hw,by rw [e0]; exact ha3,?_⟩
  have e3:rmF t k g a k=(g a k-(g a k).tdiv (g k k)*g k k) % t:=by
   unfold rmF rgF rmV rwV
   rw [if_pos ⟨ha1,Nat.le_refl k⟩]
  obtain ⟨r1,r2,r3⟩:=rem_small (hm a k ha2 hw) ⟨hpp,hp.2⟩
  rw [e0,e3,r1]
  omega
theorem dm_ex {t:Int} {n w:Nat} (ht:1≤t):∀ (d k:Nat),min n w-k=d→∀ f:Nat→Nat→Int,modE t n w f→∃ q F,dmR t n w q f k=some F
 | 0,k,hd,f,_=>⟨1,f,dmR_end (by omega)⟩
 | d+1,k,hd,f,hm=>by
  have hk:k<n∧k<w:=by omega
  have key:∀ (v:Nat) (f:Nat→Nat→Int),modE t n w f→(∀ i j,lsG f n w k i j→(∀ a b,k≤a→a<n→k≤b→b<w→f a b≠0→(f i j).natAbs≤(f a b).natAbs)→(f i j).natAbs≤v)→∃ q F,dmR t n w q f k=some F:=by
   intro v
   induction v with
   | zero =>
    intro f hm hv
    rcases flZ_full f n w k with ⟨e,h0⟩ | ⟨i,j,e,hG,hmin⟩
    ·obtain ⟨q,F,h⟩:=dm_ex ht d (k+1) (by omega) f hm
     exact ⟨q+1,F,by rw [dmR_zero hk e]; exact h⟩
    ·have:=hv i j hG hmin
     have:=hG.nz
     omega
   | succ v ih =>
    intro f hm hv
    rcases flZ_full f n w k with ⟨e,h0⟩ | ⟨i,j,e,hG,hmin⟩
    ·obtain ⟨q,F,h⟩:=dm_ex ht d (k+1) (by omega) f hm
     exact ⟨q+1,F,by rw [dmR_zero hk e]; exact h⟩
    ·have hmg:modE t n w (swF k i j f):=fun a b ha hb=>hm _ _ (swI_lt hk.1 hG.i2 ha) (swI_lt hk.2 hG.j2 hb)
     have hmh:=modE_cr (k:=k) hmg ht
     have hkk:swF k i j f k k=f i j:=by unfold swF; rw [swI_l,swI_l]
     by_cases hc:ccP t n w k (swF k i j f)
     ·obtain ⟨q,F,h⟩:=dm_ex ht d (k+1) (by omega) _ hmh
      exact ⟨q+1,F,by rw [dmR_done hk e hc]; exact h⟩
     ·obtain ⟨a,b,a1,a2,b1,b2,hne,hlt⟩:=cc_less hmg hk.1 hk.2 (by rw [hkk]; exact hG.nz) hc
      rw [hkk] at hlt
      obtain ⟨q,F,h⟩:=ih _ hmh fun i' j' hG' hmin'=>by
       have h1:=hmin' a b a1 a2 b1 b2 hne
       have h2:=hv i j hG hmin
       omega
      exact ⟨q+1,F,by rw [dmR_dirty hk e hc]; exact h⟩
  rcases flZ_full f n w k with ⟨e,h0⟩ | ⟨i,j,e,hG,hmin⟩
  ·exact key 0 f hm fun i j hG _=>absurd (h0 i j hG.i1 hG.i2 hG.j1 hG.j2) hG.nz
  ·exact key (f i j).natAbs f hm fun i' j' hG' hmin'=>hmin' i j hG.i1 hG.i2 hG.j1 hG.j2 hG.nz
theorem dv_of_pD {top s:Int} {n w K:Nat} {G:Nat→Nat→Int} {E:Nat→Int} (hE:∀ a b,a<n→b<w→E a∣G a b∧E a∣top) (h:pD s K E):dv top n w K s G:=fun Z R C hR hC hr hc=>by
 by_cases hn:R.Nodup
 ·refine Int.dvd_trans (h R hn hR) (dtL_rowdvd (by omega) fun a ha b hb => ?_)
  obtain ⟨h1,h2⟩:=hE a b (hr a ha) (hc b hb)
  exact Int.dvd_add h1 (Int.dvd_mul_of_dvd_left h2)
 ·rw [dtL_dup hn]
  exact Int.dvd_zero _
theorem dv_diag {t s:Int} {n w K:Nat} {F:Nat→Nat→Int} {d:Nat→Int} (hF:∀ a b,a<n→b<w→F a b=if a=b then d a else 0) (h:dv t n w K s F):∀ S:List Nat,S.Nodup→S.length=K→(∀ a∈S,a<n∧a<w)→s∣prL (fun a=>((Int.gcd t (d a):Nat):Int)) S:=by
 intro S hS hl hb
 have key:∀ (S1 S2:List Nat),(∀ z:Nat→Int,s∣prL (fun a=>d a+t*z a) (S1++S2))→(S1++S2).Nodup→∀ z:Nat→Int,s∣prL (fun a=>((Int.gcd t (d a):Nat):Int)) S1*prL (fun a=>d a+t*z a) S2:=by
  intro S1
  induction S1 with
  | nil =>
   intro S2 h _ z
   show s∣1*_
   rw [Int.one_mul]
   exact h z
  | cons x S1 ih =>
   intro S2 h hn z
   have hp:(x::S1++S2).Perm (S1++x::S2):=List.perm_middle.symm
   have hn2:(S1++x::S2).Nodup:=hp.nodup_iff.1 hn
   have h2:∀ z:Nat→Int,s∣prL (fun a=>d a+t*z a) (S1++x::S2):=fun z=>by rw [← prL_perm hp]; exact h z
   have hx:x∉S2:=fun hm=>by
    rw [List.cons_append,List.nodup_cons] at hn
    exact hn.1 (List.mem_append_right _ hm)
   have hz:∀ v:Int,s∣prL (fun a=>((Int.gcd t (d a):Nat):Int)) S1*((d x+t*v)*prL (fun a=>d a+t*z a) S2):=fun v=>by
    have:=ih (x::S2) h2 hn2 fun a=>if a=x then v else z a
    simp only [prL,if_true] at this
    have hcg:prL (fun a=>d a+t*if a=x then v else z a) S2=prL (fun a=>d a+t*z a) S2:=prL_congr fun a ha=>by
     have:a≠x:=fun e=>hx (e ▸ ha)
     simp only [if_neg this]
    rwa [hcg] at this
   have z0:=hz 0
   have z1:=hz 1
   simp only [prL]
   generalize prL (fun a=>((Int.gcd t (d a):Nat):Int)) S1=P at *
   generalize prL (fun a=>d a+t*z a) S2=Q at *
   rw [Int.mul_zero,Int.add_zero] at z0
   rw [Int.mul_one] at z1
   have e1:P*((d x+t)*Q)-P*(d x*Q)=t*(P*Q):=by
    rw [Int.add_mul,Int.mul_add,Int.mul_left_comm P t Q]; omega
   have y1:s∣t*(P*Q):=e1 ▸ Int.dvd_sub z1 z0
   have y2:s∣d x*(P*Q):=by rw [Int.mul_left_comm]; exact z0
   have:=gcd_mul_dvd y1 y2
   rwa [Int.mul_assoc]
 have:=key S [] (fun z=>by
  rw [List.append_nil]
  have h1:=h (fun a b=>if a=b then z a else 0) S S hl hl (fun a ha=>(hb a ha).1) fun a ha=>(hb a ha).2
  rwa [dtL_diag (d:=fun a=>d a+t*z a) hS fun a ha b hb2 => ?_] at h1
  show F a b+t*(if a=b then z a else 0)=_
  rw [hF a b (hb a ha).1 (hb b hb2).2]
  by_cases e:a=b
  ·rw [if_pos e,if_pos e,if_pos e]
  ·rw [if_neg e,if_neg e,if_neg e,Int.mul_zero,Int.add_zero]) (by rw [List.append_nil]; exact hS) fun _=>0
 simpa [prL] using this
theorem pD_ext {s t:Int} {m K:Nat} {E:Nat→Int} (hK:K≤m) (hE:∀ q,m≤q→E q=t) (hd:∀ q,E q∣t) (h:∀ S:List Nat,S.Nodup→S.length=K→(∀ a∈S,a<m)→s∣prL E S):pD s K E:=by
 have key:∀ (c:Nat) (R:List Nat),(R.filter fun x=>decide (m≤x)).length=c→R.Nodup→R.length=K→s∣prL E R:=by
  intro c
  induction c with
  | zero =>
   intro R hc hn hl
   refine h R hn hl fun a ha=>Nat.lt_of_not_le fun hm => ?_
   have:a∈R.filter fun x=>decide (m≤x):=List.mem_filter.2 ⟨ha,by simpa using hm⟩
   rw [List.length_eq_zero_iff.1 hc] at this
   simp at this
  | succ c ih =>
   intro R hc hn hl
   obtain ⟨a,ha⟩:∃ a,a∈R.filter fun x=>decide (m≤x):=by
    cases hf:R.filter fun x=>decide (m≤x) with
    | nil=>rw [hf] at hc; simp at hc
    | cons a l=>exact ⟨a,List.mem_cons_self⟩
   obtain ⟨haR,ham⟩:=List.mem_filter.1 ha
   have ham':m≤a:=by simpa using ham
   obtain ⟨b,hbm,hbR⟩:∃ b,b<m∧b∉R:=by
    refine Classical.byContradiction fun hno => ?_
    have hall:∀ b,b<m→b∈R:=fun b hb=>Classical.byContradiction fun hh=>hno ⟨b,hb,hh⟩
    have hsub:∀ q,q≤m→∀ R:List Nat,R.Nodup→(∀ b,b<q→b∈R)→q≤R.length:=by
     intro q
     induction q with
     | zero=>intro _ R _ _; omega
     | succ q ihq =>
      intro hq R hn hb
      have hm:=hb q (by omega)
      have h1:=ihq (by omega) (R.erase q) (hn.erase _) fun b hb2=>(List.mem_erase_of_ne (by omega)).2 (hb b (by omega))
      have h2:=List.length_erase_of_mem hm
      have h3:=List.length_pos_of_mem hm
      omega
    have h1:=hsub m (Nat.le_refl m) (R.erase a) (hn.erase _) fun b hb=>(List.mem_erase_of_ne (by omega)).2 (hall b hb)
    have h2:=List.length_erase_of_mem haR
    have h3:=List.length_pos_of_mem haR
    omega
   have p:=List.perm_cons_erase haR
   have h2:=List.length_erase_of_mem haR
   have h3:=List.length_pos_of_mem haR
   have hnew:=ih (b::R.erase a) ?_ (List.nodup_cons.2 ⟨fun hm=>hbR (List.mem_of_mem_erase hm),hn.erase _⟩) (by rw [List.length_cons]; omega)
   ·rw [prL_perm p]
    refine Int.dvd_trans hnew ?_
    show E b*_∣E a*_
    rw [hE a ham']
    exact Int.mul_dvd_mul (hd b) (Int.dvd_refl _)
   ·have hp2:=(p.filter fun x=>decide (m≤x)).length_eq
    rw [List.filter_cons,if_pos ham,List.length_cons] at hp2
    rw [List.filter_cons,if_neg (by simp; omega)]
    omega
 exact fun R hn hl=>key _ R rfl hn hl
def eS' (t:Int) (d:List Int) (q:Nat):Int:=if q<d.length then at0 d q else t
theorem pD_bbS {t s:Int} {K i j:Nat} {d:List Int} (h:dvL t d) (hij:i<j) (hj:j<d.length):pD s K (eS' t d)↔pD s K (eS' t (bbS d i j)):=by
 have hi:i<d.length:=by omega
 obtain ⟨a1,a2⟩:=h i hi
 obtain ⟨b1,b2⟩:=h j hj
 obtain ⟨g0,g1,g2,g3,g4,g5,g6,g7⟩:=gcd_facts a1 b1 a2 b2
 have ei:eS' t (bbS d i j) i=((Int.gcd (at0 d i) (at0 d j):Nat):Int):=by
  unfold eS'
  rw [bbS_len,if_pos hi,bbS_at hi hj (by omega) hi,if_pos rfl]
 have ej:eS' t (bbS d i j) j=(at0 d i).tdiv (Int.gcd (at0 d i) (at0 d j):Nat)*at0 d j:=by
  unfold eS'
  rw [bbS_len,if_pos hj,bbS_at hi hj (by omega) hj,if_neg (by omega),if_pos rfl]
 have fi:eS' t d i=at0 d i:=if_pos hi
 have fj:eS' t d j=at0 d j:=if_pos hj
 refine pD_step (i:=i) (j:=j) (by omega) (fun q h1 h2 => ?_) ?_ ?_ ?_ ?_ ?_ ?_
 ·unfold eS'
  rw [bbS_len]
  by_cases hq:q<d.length
  ·rw [if_pos hq,if_pos hq,bbS_at hi hj (by omega) hq,if_neg h1,if_neg h2]
  ·rw [if_neg hq,if_neg hq]
 ·rw [ei,fi]; exact g1
 ·rw [ei,fj]; exact g2
 ·rw [ej,fi]; exact g5
 ·rw [ej,fj]; exact g6
 ·rw [ei,ej,fi,fj]; exact g7
 ·intro X h1 h2
  rw [fi] at h1
  rw [fj] at h2
  rw [ei]
  exact gcd_mul_dvd h1 h2
theorem pD_bbJ {t s:Int} {K i:Nat} {d:List Int} (h:dvL t d):∀ u,i+1+u≤d.length∨u=0→(pD s K (eS' t d)↔pD s K (eS' t (bbJ d i u)))
 | 0,_=>Iff.rfl
 | u+1,hu=>(pD_bbJ (i:=i) h u (by omega)).trans (by
   show pD s K (eS' t (bbJ d i u))↔pD s K (eS' t (bbS (bbJ d i u) i (i+1+u)))
   exact pD_bbS (i:=i) (j:=i+1+u) (dvL_J (i:=i) h u (by omega)) (by omega) (by rw [bbJ_len]; omega))
theorem pD_bbI {t s:Int} {K:Nat} {d:List Int} (h:dvL t d):∀ i,i≤d.length→(pD s K (eS' t d)↔pD s K (eS' t (bbI d i)))
 | 0,_=>Iff.rfl
 | i+1,hi=>(pD_bbI h i (by omega)).trans (by
   show pD s K (eS' t (bbI d i))↔pD s K (eS' t (bbJ (bbI d i) i (d.length-(i+1))))
   exact pD_bbJ (i:=i) (dvL_I h i (by omega)) (d.length-(i+1)) (by rw [bbI_len]; omega))
def chD (i:Nat) (d:List Int):Prop:=∀ a b,a<i→a<b→b<d.length→at0 d a∣at0 d b
theorem chD_J {t:Int} {i:Nat} {d:List Int} (h:dvL t d) (hc:chD i d) (hi:i<d.length):∀ u,i+1+u≤d.length∨u=0→chD i (bbJ d i u)∧(∀ a,a<i→at0 (bbJ d i u) a=at0 d a)∧∀ b,i<b→b<i+1+u→at0 (bbJ d i u) i∣at0 (bbJ d i u) b
 | 0,_=>⟨hc,fun _ _=>rfl,fun b h1 h2=>by omega⟩
 | u+1,hu=>by
  obtain ⟨h1,h2,h3⟩:=chD_J h hc hi u (by omega)
  have hd:=dvL_J (i:=i) h u (by omega)
  have hl:=bbJ_len d i u
  unfold bbJ
  generalize bbJ d i u=D at *
  have hiD:i<D.length:=by omega
  have hjD:i+1+u<D.length:=by omega
  have hne:i≠i+1+u:=by omega
  obtain ⟨a1,a2⟩:=hd i hiD
  obtain ⟨b1,b2⟩:=hd _ hjD
  obtain ⟨g0,g1,g2,g3,g4,g5,g6,g7⟩:=gcd_facts a1 b1 a2 b2
  have low:∀ a,a<i→at0 (bbS D i (i+1+u)) a=at0 D a:=fun a ha=>by
   rw [bbS_at hiD hjD hne (by omega),if_neg (by omega),if_neg (by omega)]
  refine ⟨fun a b ha hab hb => ?_,fun a ha=>by rw [low a ha,h2 a ha],fun b hb1 hb2 => ?_⟩
  ·rw [bbS_len] at hb
   rw [low a ha,bbS_at hiD hjD hne hb]
   split
   ·exact Int.dvd_coe_gcd (h1 a i ha (by omega) hiD) (h1 a _ ha (by omega) hjD)
   ·split
    ·exact Int.dvd_trans (h1 a _ ha (by omega) hjD) g6
    ·exact h1 a b ha hab hb
  ·rw [bbS_at hiD hjD hne hiD,if_pos rfl,bbS_at hiD hjD hne (by omega),if_neg (by omega)]
   split
   ·exact Int.dvd_trans g1 g5
   ·exact Int.dvd_trans g1 (h3 b hb1 (by omega))
theorem chD_I {t:Int} {d:List Int} (h:dvL t d):∀ i,i≤d.length→chD i (bbI d i)
 | 0,_=>fun a b ha=>by omega
 | i+1,hi=>by
  have ih:=chD_I h i (by omega)
  have hl:=bbI_len d i
  obtain ⟨h1,h2,h3⟩:=chD_J (dvL_I h i (by omega)) ih (by omega) (d.length-(i+1)) (by omega)
  unfold bbI
  intro a b ha hab hb
  rw [bbJ_len,hl] at hb
  by_cases e:a=i
  ·rw [e]; exact h3 b (by omega) (by omega)
  ·exact h1 a b (by omega) hab (by rw [bbJ_len]; omega)
theorem chain_bub {t:Int} {d:List Int} (h:dvL t d):∀ i j,i≤j→eS' t (bub d) i∣eS' t (bub d) j:=fun i j hij=>by
 have hl:(bub d).length=d.length:=bbI_len d _
 have hc:=chD_I h d.length (Nat.le_refl _)
 have hd:=dvL_I h d.length (Nat.le_refl _)
 unfold eS'
 rw [hl]
 by_cases hj:j<d.length
 ·rw [if_pos hj,if_pos (by omega)]
  by_cases e:i=j
  ·rw [e]; exact Int.dvd_refl _
  ·exact hc i j (by omega) (by omega) (by rw [bbI_len]; exact hj)
 ·rw [if_neg hj]
  split
  ·rename_i hi
   exact (hd i (by rw [bbI_len]; exact hi)).2
  ·exact Int.dvd_refl _
theorem chio (G:Nat→Nat→Int) (s:Nat):G 0 0 ^ s*dtM (s+1) G=G 0 0*dtM s fun a b=>G 0 0*G (a+1) (b+1)-G (a+1) 0*G 0 (b+1):=by
 have key:∀ m,m≤s→dtM (s+1) (fun a b=>if 0<a∧a≤m then G 0 0*G a b-G a 0*G 0 b else G a b)=G 0 0 ^ m*dtM (s+1) G:=by
  intro m
  induction m with
  | zero =>
   intro _
   rw [Int.pow_zero,Int.one_mul]
   exact dtM_congr _ fun a b _ _=>by rw [if_neg (by omega)]
  | succ m ih =>
   intro hm
   rw [dt_lin (s+1) _ (fun a b=>if 0<a∧a≤m then G 0 0*G a b-G a 0*G 0 b else G a b) (fun a b=>if a=m+1 then G 0 b else if 0<a∧a≤m then G 0 0*G a b-G a 0*G 0 b else G a b) (m+1) (G 0 0) (-(G (m+1) 0)) (by omega) (fun a b ha => ?_) (fun a b ha => ?_) (fun b => ?_),ih (by omega)]
   ·have hz:dtM (s+1) (fun a b=>if a=m+1 then G 0 b else if 0<a∧a≤m then G 0 0*G a b-G a 0*G 0 b else G a b)=0:=dt_eq2 (p:=0) (q:=m+1) (by omega) (by omega) (by omega) fun b=>by
     rw [if_neg (by omega),if_neg (by omega),if_pos rfl]
    rw [hz,Int.mul_zero,Int.add_zero,Int.pow_succ,Int.mul_comm (G 0 0 ^ m) (G 0 0),Int.mul_assoc]
   ·by_cases h:0<a∧a≤m
    ·rw [if_pos h,if_pos (by omega)]
    ·rw [if_neg h,if_neg (by omega)]
   ·rw [if_neg ha]
    by_cases h:0<a∧a≤m
    ·rw [if_pos h,if_pos (by omega)]
    ·rw [if_neg h,if_neg (by omega)]
   ·rw [if_pos (by omega),if_neg (by omega),if_pos rfl,Int.neg_mul]; omega
 rw [← key s (Nat.le_refl s),dtM_succ,smS_one (s:=0) (s+1) (by omega) fun i h1 h2=>by
  rw [if_pos (by omega),Int.mul_comm (G 0 0),Int.sub_self,Int.zero_mul,Int.mul_zero]]
 rw [if_neg (by omega)]
 show 1*_=_
 rw [Int.one_mul]
 congr 1
 exact dtM_congr _ fun a b ha _=>by rw [skI_ge (by omega),if_pos (by omega)]
theorem chioL (G:Nat→Nat→Int) (k:Nat) (R C:List Nat) (hl:R.length≤C.length):G k k ^ R.length*dtL G (k::R) (k::C)=G k k*dtL (fun x y=>G k k*G x y-G x k*G k y) R C:=by
 have h:=chio (fun a b=>G ((k::R).getD a 0) ((k::C).getD b 0)) R.length
 unfold dtL
 rw [List.length_cons]
 exact h
theorem chio_abs {G:Nat→Nat→Int} {k:Nat} {R C:List Nat} (hl:R.length≤C.length) (hs:1≤R.length) (hp:G k k≠0):(dtL (fun x y=>G k k*G x y-G x k*G k y) R C).natAbs=(G k k).natAbs ^ (R.length-1)*(dtL G (k::R) (k::C)).natAbs:=by
 have h:=congrArg Int.natAbs (chioL G k R C hl)
 rw [Int.natAbs_mul,Int.natAbs_mul,Int.natAbs_pow] at h
 obtain ⟨s,hs'⟩:∃ s,R.length=s+1:=⟨R.length-1,by omega⟩
 rw [hs'] at h ⊢
 rw [Nat.pow_succ,Nat.mul_comm ((G k k).natAbs ^ s),Nat.mul_assoc] at h
 rw [Nat.add_sub_cancel]
 exact (Nat.eq_of_mul_eq_mul_left (by omega) h).symm
theorem dtL_scale {f g:Nat→Nat→Int} {l:Int} {R C:List Nat} (hl:R.length≤C.length) (h:∀ a∈R,∀ b∈C,g a b=l*f a b):(dtL g R C).natAbs=l.natAbs ^ R.length*(dtL f R C).natAbs:=by
 have h1:dtL g R C=dtM R.length fun a b=>(fun _=>l) a*(fun _=>1) b*f (R.getD a 0) (C.getD b 0):=dtM_congr _ fun a b ha hb=>by
  rw [h _ (gD_mem ha) _ (gD_mem (by omega)),Int.mul_one]
 rw [h1,dt_scale fun _=>0,Int.natAbs_mul,Int.natAbs_mul]
 have e1:∀ m,(prS (fun _=>l) m).natAbs=l.natAbs ^ m:=fun m=>by
  induction m with
  | zero=>rfl
  | succ m ih=>rw [prS,Int.natAbs_mul,ih,Nat.pow_succ]
 have e2:∀ m,(prS (fun _=>(1:Int)) m).natAbs=1:=fun m=>by
  induction m with
  | zero=>rfl
  | succ m ih=>rw [prS,Int.natAbs_mul,ih]; rfl
 rw [e1,e2,Nat.mul_one]
 rfl
def mB (T n w:Nat) (f:Nat→Nat→Int):Prop:=∀ R C:List Nat,R.length=C.length→R.Nodup→C.Nodup→(∀ r∈R,r<n)→(∀ c∈C,c<w)→(dtL f R C).natAbs≤T
structure pmF (n w:Nat) (f0 f:Nat→Nat→Int):Prop where
 ex:∃ p q:Nat→Nat,(∀ a,a<n→p a<n)∧(∀ b,b<w→q b<w)∧(∀ a b,p a=p b→a=b)∧(∀ a b,q a=q b→a=b)∧∀ a b,f a b=f0 (p a) (q b)
theorem swI_inj {k i a b:Nat} (h:swI k i a=swI k i b):a=b:=by
 have:=congrArg (swI k i) h
 rwa [swI_inv,swI_inv] at this
theorem pmF_sw {n w k i j:Nat} {f0 f:Nat→Nat→Int} (h:pmF n w f0 f) (hk:k<n) (hw:k<w) (hi:i<n) (hj:j<w):pmF n w f0 (swF k i j f):=by
 obtain ⟨p,q,h1,h2,h3,h4,h5⟩:=h.ex
 exact ⟨fun a=>p (swI k i a),fun b=>q (swI k j b),fun a ha=>h1 _ (swI_lt hk hi ha),fun b hb=>h2 _ (swI_lt hw hj hb),fun a b e=>swI_inj (h3 _ _ e),fun a b e=>swI_inj (h4 _ _ e),fun a b=>h5 _ _⟩
theorem pmF_min {n w:Nat} {f0 f:Nat→Nat→Int} (h:pmF n w f0 f) {R C:List Nat} (hl:R.length=C.length) (hR:R.Nodup) (hC:C.Nodup) (hr:∀ r∈R,r<n) (hc:∀ c∈C,c<w):∃ R' C':List Nat,R'.length=R.length∧C'.length=C.length∧R'.Nodup∧C'.Nodup∧(∀ r∈R',r<n)∧(∀ c∈C',c<w)∧dtL f R C=dtL f0 R' C':=by
 obtain ⟨p,q,h1,h2,h3,h4,h5⟩:=h.ex
 have e:f=fun a b=>f0 (p a) (q b):=by funext a b; exact h5 a b
 have nm:∀ (g:Nat→Nat),(∀ a b,g a=g b→a=b)→∀ l:List Nat,l.Nodup→(l.map g).Nodup:=fun g hg l hn=>by
  induction l with
  | nil=>exact List.nodup_nil
  | cons x l ih =>
   rw [List.nodup_cons] at hn
   rw [List.map_cons,List.nodup_cons]
   refine ⟨fun hm => ?_,ih hn.2⟩
   obtain ⟨y,hy,e⟩:=List.mem_map.1 hm
   exact hn.1 (hg _ _ e ▸ hy)
 refine ⟨R.map p,C.map q,by simp,by simp,nm p h3 R hR,nm q h4 C hC,fun r hm => ?_,fun c hm => ?_,?_⟩
 ·obtain ⟨a,ha,e⟩:=List.mem_map.1 hm
  exact e ▸ h1 a (hr a ha)
 ·obtain ⟨a,ha,e⟩:=List.mem_map.1 hm
  exact e ▸ h2 a (hc a ha)
 ·rw [e,dtL_map (R:=R) (C:=C) _ _ (by omega)]
structure brI (T n w:Nat) (f0:Nat→Nat→Int) (k:Nat) (f:Nat→Nat→Int) (l:Int):Prop where
 nz:l≠0
 bd:bdE (T:Int) n w f
 zr:∀ a b,k≤a→a<n→b<w→b<k→f a b=0
 vn:∀ K,mD 0 n w K f→mD 0 n w K f0
 ex:∃ g0,pmF n w f0 g0∧l.natAbs=(dtL g0 (List.range k) (List.range k)).natAbs∧∀ R C:List Nat,1≤R.length→R.length=C.length→(∀ r∈R,k≤r∧r<n)→(∀ c∈C,k≤c∧c<w)→(dtL f R C).natAbs=l.natAbs ^ (R.length-1)*(dtL g0 (List.range k++R) (List.range k++C)).natAbs
theorem dtL_one (f:Nat→Nat→Int) (a b:Nat):dtL f [a] [b]=f a b:=by
 unfold dtL
 show dtM 1 _=_
 rw [dtM_succ]
 simp [smS,altI,dtM]
theorem rng_nodup {k:Nat} {R:List Nat} (hR:R.Nodup) (h:∀ r∈R,k≤r):(List.range k++R).Nodup:=by
 rw [List.nodup_append]
 refine ⟨List.nodup_range,hR,fun a ha b hb e => ?_⟩
 have h1:=List.mem_range.1 ha
 have h2:=h b hb
 omega
theorem map_range_sw {k i:Nat} (hi:k≤i) (R:List Nat):(List.range k++R).map (swI k i)=List.range k++R.map (swI k i):=by
 rw [List.map_append]
 congr 1
 have:List.map (swI k i) (List.range k)=List.map id (List.range k):=List.map_congr_left fun a ha=>swI_low hi (List.mem_range.1 ha)
 rw [this,List.map_id]
theorem range_cons (k:Nat) (R:List Nat):List.range k++k::R=List.range (k+1)++R:=by
 rw [List.range_succ,List.append_assoc]
 rfl
theorem brI_step {T n w k i j:Nat} {f0 f:Nat→Nat→Int} {l:Int} (hT:mB T n w f0) (h:brI T n w f0 k f l) (i1:k≤i) (i2:i<n) (j1:k≤j) (j2:j<w) (hnz:f i j≠0):brI T n w f0 (k+1) (barF k l (swF k i j f)) (swF k i j f k k):=by
 have hk:k<n:=by omega
 have hw:k<w:=by omega
 obtain ⟨g0,hp0,hl0,hm0⟩:=h.ex
 have hp1:=pmF_sw hp0 hk hw i2 j2
 -- the exchange
 have hm1:∀ R C:List Nat,1≤R.length→R.length=C.length→(∀ r∈R,k≤r∧r<n)→(∀ c∈C,k≤c∧c<w)→(dtL (swF k i j f) R C).natAbs=l.natAbs ^ (R.length-1)*(dtL (swF k i j g0) (List.range k++R) (List.range k++C)).natAbs:=fun R C h1 h2 hr hc=>by
  have e1:dtL (swF k i j f) R C=dtL f (R.map (swI k i)) (C.map (swI k j)):=dtL_map (f:=f) (R:=R) (C:=C) (swI k i) (swI k j) (by omega)
  have e2:dtL (swF k i j g0) (List.range k++R) (List.range k++C)=dtL g0 (List.range k++R.map (swI k i)) (List.range k++C.map (swI k j)):=by
   rw [← map_range_sw i1,← map_range_sw j1]
   exact dtL_map (f:=g0) (R:=List.range k++R) (C:=List.range k++C) (swI k i) (swI k j) (by rw [List.length_append,List.length_append]; omega)
  rw [e1,e2,hm0 (R.map (swI k i)) (C.map (swI k j)) (by simpa using h1) (by simpa using h2) (fun r hm => ?_) (fun c hm => ?_),List.length_map]
  ·obtain ⟨a,ha,e⟩:=List.mem_map.1 hm
   exact e ▸ ⟨swI_high i1 (hr a ha).1,swI_lt hk i2 (hr a ha).2⟩
  ·obtain ⟨a,ha,e⟩:=List.mem_map.1 hm
   exact e ▸ ⟨swI_high j1 (hc a ha).1,swI_lt hw j2 (hc a ha).2⟩
 have hkk:swF k i j f k k≠0:=by unfold swF; rw [swI_l,swI_l]; exact hnz
 have hzg:∀ a b,k≤a→a<n→b<w→b<k→swF k i j f a b=0:=fun a b ha1 ha2 hb1 hb2=>by
  unfold swF
  rw [swI_low j1 hb2]
  exact h.zr _ _ (swI_high i1 ha1) (swI_lt hk i2 ha2) hb1 hb2
 have hbg:bdE (T:Int) n w (swF k i j f):=fun a b ha hb=>h.bd _ _ (swI_lt hk i2 ha) (swI_lt hw j2 hb)
 have hvg:∀ K,mD 0 n w K (swF k i j f)→mD 0 n w K f0:=fun K hg=>h.vn K fun R C hR hC hr hc=>by
  have e1:dtL f R C=dtL (swF k i j f) (R.map (swI k i)) (C.map (swI k j)):=by
   rw [← dtL_map (f:=swF k i j f) (R:=R) (C:=C) (swI k i) (swI k j) (by omega)]
   refine dtL_congr (n:=n) (w:=w) (fun a b _ _ => ?_) (by omega) hr hc
   unfold swF
   rw [swI_inv,swI_inv]
  rw [e1]
  refine hg _ _ (by simpa using hR) (by simpa using hC) (fun r hm => ?_) (fun c hm => ?_)
  ·obtain ⟨a,ha,e⟩:=List.mem_map.1 hm
   exact e ▸ swI_lt hk i2 (hr a ha)
  ·obtain ⟨a,ha,e⟩:=List.mem_map.1 hm
   exact e ▸ swI_lt hw j2 (hc a ha)
 generalize swF k i j f=g at *
 generalize swF k i j g0=g1 at *
 clear hm0 hl0 hp0
 -- the division leaves no rest
 have hex:∀ a b,k<a→a<n→k<b→b<w→g k k*g a b-g a k*g k b=l*barF k l g a b:=fun a b ha1 ha2 hb1 hb2=>by
  have h1:=chio_abs (G:=g) (k:=k) (R:=[a]) (C:=[b]) (by simp) (by simp) hkk
  rw [dtL_one] at h1
  have h2:=hm1 [k,a] [k,b] (by simp) (by simp) (fun r hm=>by
   simp only [List.mem_cons,List.not_mem_nil,or_false] at hm
   rcases hm with rfl | rfl <;> omega) (fun r hm=>by
   simp only [List.mem_cons,List.not_mem_nil,or_false] at hm
   rcases hm with rfl | rfl <;> omega)
  simp only [List.length_cons,List.length_nil,Nat.zero_add,Nat.sub_self,Nat.pow_zero,Nat.one_mul,Nat.add_sub_cancel,Nat.pow_one] at h1 h2
  have hd:l∣g k k*g a b-g a k*g k b:=by
   rw [← Int.natAbs_dvd_natAbs,h1,h2]
   exact Nat.dvd_mul_right _ _
  have e:barF k l g a b=(g k k*g a b-g a k*g k b).tdiv l:=by
   unfold barF barV
   rw [if_pos ⟨ha1,hb1⟩,Int.mul_comm (g a b)]
  rw [e]
  exact (Int.mul_tdiv_cancel' hd).symm
 have hcl:∀ R C:List Nat,1≤R.length→R.length=C.length→(∀ r∈R,k+1≤r∧r<n)→(∀ c∈C,k+1≤c∧c<w)→(dtL (barF k l g) R C).natAbs=(g k k).natAbs ^ (R.length-1)*(dtL g1 (List.range (k+1)++R) (List.range (k+1)++C)).natAbs:=fun R C h1 h2 hr hc=>by
  have s1:=dtL_scale (f:=barF k l g) (g:=fun x y=>g k k*g x y-g x k*g k y) (l:=l) (R:=R) (C:=C) (by omega) fun a ha b hb=>hex a b (by have:=(hr a ha).1; omega) (hr a ha).2 (by have:=(hc b hb).1; omega) (hc b hb).2
  rw [chio_abs (by omega) h1 hkk,hm1 (k::R) (k::C) (by simp) (by simp [h2]) (fun r hm=>by
   rcases List.mem_cons.1 hm with rfl | hm
   ·omega
   ·have:=hr r hm; omega) (fun r hm=>by
   rcases List.mem_cons.1 hm with rfl | hm
   ·omega
   ·have:=hc r hm; omega),range_cons,range_cons,List.length_cons,Nat.add_sub_cancel,Nat.mul_left_comm] at s1
  exact (Nat.eq_of_mul_eq_mul_left (Nat.pow_pos (by have:=h.nz; omega)) s1).symm
 have hpk:(g k k).natAbs=(dtL g1 (List.range (k+1)) (List.range (k+1))).natAbs:=by
  have h1:=hm1 [k] [k] (by simp) (by simp) (fun r hm=>by rw [List.mem_singleton] at hm; omega) (fun r hm=>by rw [List.mem_singleton] at hm; omega)
  rw [dtL_one] at h1
  simp only [List.length_cons,List.length_nil,Nat.zero_add,Nat.sub_self,Nat.pow_zero,Nat.one_mul] at h1
  rw [h1,List.range_succ]
 refine ⟨hkk,fun a b ha hb => ?_,fun a b ha1 ha2 hb1 hb2 => ?_,fun K hK=>hvg K ?_,g1,hp1,hpk,hcl⟩
 ·by_cases hc:k<a∧k<b
  ·have h1:=hcl [a] [b] (by simp) (by simp) (fun r hm=>by rw [List.mem_singleton] at hm; omega) (fun r hm=>by rw [List.mem_singleton] at hm; omega)
   rw [dtL_one] at h1
   simp only [List.length_cons,List.length_nil,Nat.zero_add,Nat.sub_self,Nat.pow_zero,Nat.one_mul] at h1
   obtain ⟨R',C',e1,e2,e3,e4,e5,e6,e7⟩:=pmF_min hp1 (R:=List.range (k+1)++[a]) (C:=List.range (k+1)++[b]) (by simp) (rng_nodup (by simp) (by simp; omega)) (rng_nodup (by simp) (by simp; omega)) (fun r hm=>by
    simp only [List.mem_append,List.mem_range,List.mem_singleton] at hm; omega) (fun r hm=>by
    simp only [List.mem_append,List.mem_range,List.mem_singleton] at hm; omega)
   have h2:=hT R' C' (by rw [e1,e2]; simp) e3 e4 e5 e6
   rw [e7] at h1
   omega
  ·unfold barF
   rw [if_neg hc]
   have:=hbg a b ha hb
   split
   ·omega
   ·exact this
 ·unfold barF
  rw [if_neg (by omega)]
  by_cases e:b=k
  ·rw [if_pos ⟨by omega,e⟩]
  ·rw [if_neg (by omega)]
   exact hzg a b (by omega) ha2 hb1 (by omega)
 ·intro R C hR hC hr hc
  have h1:=mD_row (fun a=>if k<a then l else 1) (fun a=>if k<a then g a k else 0) hk hK R C hR hC hr hc
  have e:∀ a b,a<n→b<w→(if k<a then l else 1)*barF k l g a b+(if k<a then g a k else 0)*barF k l g k b=(if k<a then g k k else 1)*1*g a b:=fun a b ha hb=>by
   rw [Int.mul_one,barF_top (Nat.le_refl k)]
   by_cases h1:k<a
   ·rw [if_pos h1,if_pos h1,if_pos h1]
    rcases Nat.lt_trichotomy b k with h2 | h2 | h2
    ·rw [hzg a b (by omega) ha hb h2,hzg k b (Nat.le_refl k) hk hb h2]
     have:barF k l g a b=0:=by
      unfold barF
      rw [if_neg (by omega),if_neg (by omega)]
      exact hzg a b (by omega) ha hb h2
     rw [this,Int.mul_zero,Int.mul_zero,Int.mul_zero]; rfl
    ·subst h2
     have:barF b l g a b=0:=by
      unfold barF
      rw [if_neg (by omega),if_pos ⟨h1,rfl⟩]
     rw [this,Int.mul_zero,Int.zero_add,Int.mul_comm]
    ·rw [← hex a b h1 ha h2 hb]; omega
   ·rw [if_neg h1,if_neg h1,if_neg h1,barF_top (by omega),Int.zero_mul,Int.add_zero]
  rw [dtL_congr e (by omega) hr hc] at h1
  have h2:dtL (fun a b=>(if k<a then g k k else 1)*1*g a b) R C=prS (fun i=>if k<R.getD i 0 then g k k else 1) R.length*prS (fun _=>1) R.length*dtL g R C:=dt_scale (fun _=>0) R.length (fun _=>1) (fun i=>if k<R.getD i 0 then g k k else 1) fun a b=>g (R.getD a 0) (C.getD b 0)
  rw [h2,Int.zero_dvd] at h1
  have n1:∀ (e:Nat→Int) m,(∀ i,e i≠0)→prS e m≠0:=fun e m he=>by
   induction m with
   | zero=>simp [prS]
   | succ m ih=>rw [prS]; exact Int.mul_ne_zero ih (he m)
  rcases Int.mul_eq_zero.1 h1 with h3 | h3
  ·rcases Int.mul_eq_zero.1 h3 with h4 | h4
   ·exact absurd h4 (n1 _ _ fun i=>by split; exact hkk; decide)
   ·exact absurd h4 (n1 _ _ fun i=>by decide)
  ·rw [h3]; exact Int.dvd_refl _
theorem bare_spec {T n w:Nat} {f0:Nat→Nat→Int} (hT:mB T n w f0) (hT2:T≤1073741824):∀ (q k:Nat) (f:Nat→Nat→Int) (l:Int),k≤n→k≤w→n+1-k≤q→brI T n w f0 k f l→l.natAbs≤T →
  ∃ (r:Nat) (l':Int),bareR n w q f k l=some ((r:Int),l')∧r≤n∧r≤w∧l'≠0∧l'.natAbs≤T∧mD 0 n w (r+1) f0∧∃ R C:List Nat,R.length=r∧C.length=r∧(∀ x∈R,x<n)∧(∀ x∈C,x<w)∧(dtL f0 R C).natAbs=l'.natAbs
 | 0,k,_,_,h1,_,h3,_,_=>by omega
 | q+1,k,f,l,h1,h2,h3,hI,hl=>by
  rcases nzZ_spec f n w k with ⟨e,hz⟩ | ⟨i,j,e,i1,i2,j1,j2,hnz⟩
  ·refine ⟨k,l,bareR_stop e,h1,h2,hI.nz,hl,hI.vn _ ?_,?_⟩
   ·intro R C hR hC hr hc
    by_cases hn:R.Nodup
    ·obtain ⟨m,hm,hkm⟩:=nodup_big hn (K:=k) (by omega)
     have hd:=dtL_rowdvd (R:=R) (C:=C) (f:=f) (e:=fun a=>if a<k then 1 else 0) (by omega) fun a ha b hb=>by
      by_cases hak:a<k
      ·simp only [if_pos hak]; exact Int.one_dvd _
      ·simp only [if_neg hak]
       by_cases hbk:b<k
       ·rw [hI.zr a b (by omega) (hr a ha) (hc b hb) hbk]; exact Int.dvd_refl _
       ·rw [hz a b (by omega) (hr a ha) (by omega) (hc b hb)]; exact Int.dvd_refl _
     have hp:prL (fun a=>if a<k then (1:Int) else 0) R=0:=by
      rw [prL_perm (List.perm_cons_erase hm)]
      simp only [prL]
      rw [if_neg (by omega),Int.zero_mul]
     rw [hp] at hd
     exact hd
    ·rw [dtL_dup hn]; exact Int.dvd_refl _
   ·obtain ⟨g0,hp0,hl0,_⟩:=hI.ex
    obtain ⟨R',C',e1,e2,e3,e4,e5,e6,e7⟩:=pmF_min hp0 (R:=List.range k) (C:=List.range k) rfl List.nodup_range List.nodup_range (fun r hm=>by have:=List.mem_range.1 hm; omega) (fun r hm=>by have:=List.mem_range.1 hm; omega)
    exact ⟨R',C',by rw [e1,List.length_range],by rw [e2,List.length_range],e5,e6,by rw [← e7,← hl0]⟩
  ·have hS:=brI_step hT hI i1 i2 j1 j2 hnz
   have hb:=hS.bd
   have hkk:(swF k i j f k k).natAbs≤T:=by
    have h4:=hI.bd i j i2 j2
    unfold swF
    rw [swI_l,swI_l]
    omega
   obtain ⟨r,l',hr,hrest⟩:=bare_spec hT hT2 q (k+1) _ _ (by omega) (by omega) (by omega) hS hkk
   refine ⟨r,l',?_,hrest⟩
   have e1:(nzZ f n w k).1.toNat=i:=by rw [e]; simp
   have e2:(nzZ f n w k).2.toNat=j:=by rw [e]; simp
   rw [bareR,if_neg (by rw [e]; simp only; omega),e1,e2,if_pos ⟨hI.nz,fun a b ha hb2=>by have:=hb a b ha hb2; omega⟩]
   exact hr
theorem brI_start {T n w:Nat} {f:Nat→Nat→Int} (hb:bdE (T:Int) n w f):brI T n w f 0 f 1:=by
 refine ⟨by decide,hb,fun a b _ _ _ h=>by omega,fun K h=>h,f,⟨id,id,fun a h=>h,fun b h=>h,fun a b h=>h,fun a b h=>h,fun a b=>rfl⟩,rfl,fun R C h1 h2 _ _ => ?_⟩
 rw [show (1:Int).natAbs=1 from rfl,Nat.one_pow,Nat.one_mul]
 simp
end Go.Proofs.YtkoljbncokmeaaaGreatDoor
