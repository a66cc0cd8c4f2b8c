import Derived.Test.YtkoljbncokmeaaaGreatDoorMEC
namespace Go.Proofs.YtkoljbncokmeaaaGreatDoor
open Go Go.RowKit
set_option maxRecDepth 1000000
set_option linter.unusedSimpArgs false
set_option linter.unusedVariables false
set_option maxHeartbeats 1000000
def smS (f:Nat→Int):Nat→Int
 | 0=>0
 | n+1=>smS f n+f n
theorem smS_congr {f g:Nat→Int}:∀ n,(∀ i,i<n→f i=g i)→smS f n=smS g n
 | 0,_=>rfl
 | n+1,h=>by
  unfold smS
  rw [smS_congr n fun i hi=>h i (by omega),h n (by omega)]
theorem smS_add (f g:Nat→Int):∀ n,smS (fun i=>f i+g i) n=smS f n+smS g n
 | 0=>rfl
 | n+1=>by
  unfold smS
  rw [smS_add f g n]
  omega
theorem smS_mul (a:Int) (f:Nat→Int):∀ n,smS (fun i=>a*f i) n=a*smS f n
 | 0=>by simp [smS]
 | n+1=>by
  unfold smS
  rw [smS_mul a f n,Int.mul_add]
theorem smS_zero:∀ n,smS (fun _=>0) n=0
 | 0=>rfl
 | n+1=>by unfold smS; rw [smS_zero n]; rfl
theorem smS_z {f:Nat→Int} {n:Nat} (h:∀ i,i<n→f i=0):smS f n=0:=by
 rw [smS_congr n h,smS_zero]
theorem smS_swap (f:Nat→Nat→Int) (m:Nat):∀ n,smS (fun i=>smS (f i) m) n=smS (fun j=>smS (fun i=>f i j) n) m
 | 0=>(smS_z (n:=m) (f:=fun j=>smS (fun i=>f i j) 0) fun _ _=>rfl).symm
 | n+1=>by
  show smS (fun i=>smS (f i) m) n+smS (f n) m=_
  rw [smS_swap f m n,← smS_add]
  rfl
theorem smS_nb {f g:Nat→Int} {s:Nat}:∀ n,s+1<n→(∀ i,i<n→i≠s→i≠s+1→f i=g i)→f s=g (s+1)→f (s+1)=g s→smS f n=smS g n
 | 0,h,_,_,_=>by omega
 | n+1,h,h1,h2,h3=>by
  unfold smS
  by_cases e:n=s+1
  ·subst e
   unfold smS
   rw [smS_congr s fun i hi=>h1 i (by omega) (by omega) (by omega),h2,h3]
   omega
  ·rw [smS_nb n (by omega) (fun i hi=>h1 i (by omega)) h2 h3,h1 n (by omega) (by omega) e]
theorem smS_one {f:Nat→Int} {s:Nat}:∀ n,s<n→(∀ i,i<n→i≠s→f i=0)→smS f n=f s
 | 0,h,_=>by omega
 | n+1,h,h1=>by
  unfold smS
  by_cases e:s=n
  ·subst e
   rw [smS_z fun i hi=>h1 i (by omega) (by omega)]; omega
  ·rw [smS_one n (by omega) (fun i hi=>h1 i (by omega)),h1 n (by omega) (by omega)]; omega
def skI (i a:Nat):Nat:=if a<i then a else a+1
theorem skI_lt {i a:Nat} (h:a<i):skI i a=a:=if_pos h
theorem skI_ge {i a:Nat} (h:i≤a):skI i a=a+1:=if_neg (by omega)
theorem skI_ne (i a:Nat):skI i a≠i:=by unfold skI; split <;> omega
theorem skI_bnd {i a n:Nat} (h:a<n):skI i a<n+1:=by unfold skI; split <;> omega
theorem skI_inj {i a b:Nat} (h:skI i a=skI i b):a=b:=by unfold skI at h; split at h <;> split at h <;> omega
def altI (i:Nat):Int:=if i % 2=0 then 1 else -1
theorem altI_succ (i:Nat):altI (i+1) = - altI i:=by unfold altI; split <;> split <;> omega
def dtM:Nat→(Nat→Nat→Int)→Int
 | 0,_=>1
 | n+1,M=>smS (fun i=>altI i*(M i 0*dtM n fun a b=>M (skI i a) (b+1))) (n+1)
theorem dtM_succ (n:Nat) (M:Nat→Nat→Int):dtM (n+1) M=smS (fun i=>altI i*(M i 0*dtM n fun a b=>M (skI i a) (b+1))) (n+1):=rfl
theorem dtM_congr:∀ (n:Nat) {M N:Nat→Nat→Int},(∀ a b,a<n→b<n→M a b=N a b)→dtM n M=dtM n N
 | 0,_,_,_=>rfl
 | n+1,M,N,h=>by
  rw [dtM_succ,dtM_succ]
  refine smS_congr _ fun i hi => ?_
  rw [h i 0 hi (by omega),dtM_congr n fun a b ha hb=>h _ _ (skI_bnd ha) (by omega)]
def swN (s a:Nat):Nat:=if a=s then s+1 else if a=s+1 then s else a
theorem swN_ne {s a:Nat} (h1:a≠s) (h2:a≠s+1):swN s a=a:=by unfold swN; rw [if_neg h1,if_neg h2]
theorem swN_l (s:Nat):swN s s=s+1:=if_pos rfl
theorem swN_r (s:Nat):swN s (s+1)=s:=by unfold swN; rw [if_neg (by omega),if_pos rfl]
theorem swN_sk_s (s a:Nat):swN s (skI s a)=skI (s+1) a:=by
 unfold swN skI
 repeat' split
 all_goals omega
theorem swN_sk_s1 (s a:Nat):swN s (skI (s+1) a)=skI s a:=by
 unfold swN skI
 repeat' split
 all_goals omega
theorem swN_sk_lt {s i:Nat} (h:i<s+1) (a:Nat):swN (s+1) (skI i a)=skI i (swN s a):=by
 unfold swN skI
 repeat' split
 all_goals omega
theorem swN_sk_gt {s i:Nat} (h:s+1<i) (a:Nat):swN s (skI i a)=skI i (swN s a):=by
 unfold swN skI
 repeat' split
 all_goals omega
theorem dt_swap:∀ (n:Nat) (M:Nat→Nat→Int) (s:Nat),s+1<n→dtM n (fun a b=>M (swN s a) b) = - dtM n M
 | 0,_,_,h=>by omega
 | n+1,M,s,h=>by
  have key:dtM (n+1) (fun a b=>M (swN s a) b)=smS (fun i => - (altI i*(M i 0*dtM n fun a b=>M (skI i a) (b+1)))) (n+1):=by
   rw [dtM_succ]
   refine smS_nb (s:=s) _ h (fun i hi h1 h2 => ?_) ?_ ?_
   ·rw [swN_ne h1 h2]
    have e:dtM n (fun a b=>M (swN s (skI i a)) (b+1)) = - dtM n (fun a b=>M (skI i a) (b+1)):=by
     by_cases hlt:i<s
     ·obtain ⟨s',rfl⟩:∃ s',s=s'+1:=⟨s-1,by omega⟩
      rw [← dt_swap n (fun a b=>M (skI i a) (b+1)) s' (by omega)]
      exact dtM_congr n fun a b _ _=>by rw [swN_sk_lt (by omega)]
     ·rw [← dt_swap n (fun a b=>M (skI i a) (b+1)) s (by omega)]
      exact dtM_congr n fun a b _ _=>by rw [swN_sk_gt (by omega)]
    rw [e,Int.mul_neg,Int.mul_neg]
   ·rw [swN_l,altI_succ,dtM_congr n fun a b _ _=>by rw [swN_sk_s]]
    rw [Int.neg_mul,Int.neg_neg]
   ·rw [swN_r,altI_succ,dtM_congr n fun a b _ _=>by rw [swN_sk_s1]]
    rw [Int.neg_mul]
  rw [key]
  rw [dtM_succ]
  have:(fun i => - (altI i*(M i 0*dtM n fun a b=>M (skI i a) (b+1))))=fun i => -1*(altI i*(M i 0*dtM n fun a b=>M (skI i a) (b+1))):=by
   funext i; omega
  rw [this,smS_mul]
  omega
theorem dt_lin:∀ (n:Nat) (M U V:Nat→Nat→Int) (s:Nat) (x y:Int),s<n→(∀ a b,a≠s→U a b=M a b)→(∀ a b,a≠s→V a b=M a b)→(∀ b,M s b=x*U s b+y*V s b)→dtM n M=x*dtM n U+y*dtM n V
 | 0,_,_,_,_,_,_,h,_,_,_=>by omega
 | n+1,M,U,V,s,x,y,h,hU,hV,hM=>by
  rw [dtM_succ,dtM_succ,dtM_succ]
  rw [← smS_mul,← smS_mul,← smS_add]
  refine smS_congr _ fun i hi => ?_
  by_cases e:i=s
  ·subst e
   rw [hM 0,dtM_congr n (fun a b _ _=>(hU _ (b+1) (skI_ne i a)).symm),dtM_congr n (M:=fun a b=>V (skI i a) (b+1)) (N:=fun a b=>U (skI i a) (b+1)) (fun a b _ _=>by rw [hV _ _ (skI_ne i a),hU _ _ (skI_ne i a)])]
   rw [Int.add_mul,Int.mul_add,Int.mul_assoc,Int.mul_assoc,Int.mul_left_comm (altI i) x,Int.mul_left_comm (altI i) y]
  ·rw [hU i 0 e,hV i 0 e]
   obtain ⟨s',hs,hs'⟩:∃ s',skI i s'=s∧s' < n:=by
    by_cases hlt:s<i
    ·exact ⟨s,skI_lt hlt,by omega⟩
    ·exact ⟨s-1,by rw [skI_ge (by omega)]; omega,by omega⟩
   rw [dt_lin n (fun a b=>M (skI i a) (b+1)) (fun a b=>U (skI i a) (b+1)) (fun a b=>V (skI i a) (b+1)) s' x y hs'
    (fun a b ha=>hU _ _ fun h2=>ha (skI_inj (h2.trans hs.symm))) (fun a b ha=>hV _ _ fun h2=>ha (skI_inj (h2.trans hs.symm))) (fun b=>by rw [hs]; exact hM _)]
   rw [Int.mul_add,Int.mul_add,Int.mul_left_comm (M i 0) x,Int.mul_left_comm (M i 0) y,Int.mul_left_comm (altI i) x,Int.mul_left_comm (altI i) y]
theorem dt_eq:∀ (d n:Nat) (M:Nat→Nat→Int) (p:Nat),p+d+1<n→(∀ b,M p b=M (p+d+1) b)→dtM n M=0
 | 0,n,M,p,h,he=>by
  have e:=dt_swap n M p (by omega)
  have e2:dtM n (fun a b=>M (swN p a) b)=dtM n M:=dtM_congr n fun a b _ _=>by
   by_cases h1:a=p
   ·subst h1; rw [swN_l,he]
   ·by_cases h2:a=p+1
    ·subst h2; rw [swN_r,he]
    ·rw [swN_ne h1 h2]
  omega
 | d+1,n,M,p,h,he=>by
  have e:=dt_swap n M (p+d+1) (by omega)
  have e2:=dt_eq d n (fun a b=>M (swN (p+d+1) a) b) p (by omega) (fun b=>by
   show M (swN (p+d+1) p) b=M (swN (p+d+1) (p+d+1)) b
   rw [swN_ne (by omega) (by omega),swN_l]; exact he b)
  omega
theorem dt_eq2 {n:Nat} {M:Nat→Nat→Int} {p q:Nat} (hp:p<n) (hq:q<n) (hne:p≠q) (he:∀ b,M p b=M q b):dtM n M=0:=by
 by_cases h:p<q
 ·exact dt_eq (q-p-1) n M p (by omega) (fun b=>by rw [show p+(q-p-1)+1=q by omega]; exact he b)
 ·exact dt_eq (p-q-1) n M q (by omega) (fun b=>by rw [show q+(p-q-1)+1=p by omega]; exact (he b).symm)
theorem smS_skip (f:Nat→Int):∀ (n i:Nat),i<n+1→smS (fun k=>if k=i then 0 else f k) (n+1)=smS (fun j=>f (skI i j)) n
 | 0,i,h=>by
  have:i=0:=by omega
  subst this
  rfl
 | n+1,i,h=>by
  by_cases e:i=n+1
  ·subst e
   show smS (fun k=>if k=n+1 then 0 else f k) (n+1)+(if n+1=n+1 then 0 else f (n+1))=_
   rw [if_pos rfl,Int.add_zero]
   exact smS_congr _ fun k hk=>by rw [if_neg (by omega),skI_lt hk]
  ·show smS (fun k=>if k=i then 0 else f k) (n+1)+(if n+1=i then 0 else f (n+1))=smS (fun j=>f (skI i j)) n+f (skI i n)
   rw [smS_skip f n i (by omega),if_neg (fun h=>e h.symm),skI_ge (by omega)]
def unI (i k:Nat):Nat:=if k<i then k else k-1
theorem sk_un (i j : Nat) : unI i (skI i j) = j := by unfold skI unI; repeat' split
                                                      all_goals omega
theorem sk_two {i k:Nat} (h:k≠i) (a:Nat):skI i (skI (unI i k) a)=skI k (skI (unI k i) a):=by
 unfold skI unI
 repeat' split
 all_goals omega
theorem alt_two {i k:Nat} (h:k≠i):altI i*altI (unI i k) = - (altI k*altI (unI k i)):=by
 unfold unI
 by_cases h1:k<i
 ·rw [if_pos h1,if_neg (by omega)]
  obtain ⟨i',rfl⟩:∃ i',i=i'+1:=⟨i-1,by omega⟩
  rw [altI_succ,Nat.add_sub_cancel,Int.neg_mul,Int.mul_comm]
 ·rw [if_neg h1,if_pos (by omega)]
  obtain ⟨k',rfl⟩:∃ k',k=k'+1:=⟨k-1,by omega⟩
  rw [altI_succ,Nat.add_sub_cancel,Int.neg_mul,Int.mul_comm]
  omega
def twoT (n:Nat) (M:Nat→Nat→Int) (i k:Nat):Int:=altI i*altI (unI i k)*dtM n fun a b=>M (skI i (skI (unI i k) a)) (b+2)
theorem dt_two (n:Nat) (M:Nat→Nat→Int):dtM (n+2) M=smS (fun i=>smS (fun k=>if k=i then 0 else twoT n M i k*(M i 0*M k 1)) (n+2)) (n+2):=by
 rw [dtM_succ]
 refine smS_congr _ fun i hi => ?_
 rw [smS_skip (fun k=>twoT n M i k*(M i 0*M k 1)) (n+1) i hi,dtM_succ,← smS_mul,← smS_mul]
 refine smS_congr _ fun j hj => ?_
 unfold twoT
 rw [sk_un]
 simp only [Int.mul_assoc,Int.mul_left_comm,Int.mul_comm]
theorem twoT_neg (n:Nat) (M:Nat→Nat→Int) {i k:Nat} (h:k≠i):twoT n M i k = - twoT n M k i:=by
 unfold twoT
 rw [alt_two h,dtM_congr n fun a b _ _=>by rw [sk_two h]]
 rw [Int.neg_mul]
theorem dt_cswap : ∀ (n : Nat) (M : Nat → Nat → Int) (s : Nat), s + 1 < n → dtM n (fun a b => M a (swN s b)) = - dtM n M
  | 0, _, _, h => by omega
  | 1, _, s, h => by omega
  | n + 2, M, 0, h => by
    have e1 : dtM (n + 2) (fun a b => M a (swN 0 b)) = smS (fun i => smS (fun k => if k = i then 0 else twoT n M i k * (M i 1 * M k 0)) (n + 2)) (n + 2) := by
      rw [dt_two]
      refine smS_congr _ fun i _ => smS_congr _ fun k _ => ?_
      split
      · rfl
      · have e2 : twoT n (fun a b => M a (swN 0 b)) i k = twoT n M i k := by
          unfold twoT
          have e4 : dtM n (fun a b => M (skI i (skI (unI i k) a)) (swN 0 (b + 2))) = dtM n fun a b => M (skI i (skI (unI i k) a)) (b + 2) := dtM_congr n fun a b _ _ => by rw [swN_ne (by omega) (by omega)]
          rw [e4]
        rw [e2]; rfl
    rw [e1, smS_swap, dt_two]
    have e3 : ∀ f : Nat → Nat → Int, - smS (fun i => smS (f i) (n + 2)) (n + 2) = smS (fun i => smS (fun k => - f i k) (n + 2)) (n + 2) := fun f => by
      have h1 : ∀ g : Nat → Int, ∀ m, smS (fun i => - g i) m = - smS g m := fun g m => by
        have : (fun i => - g i) = fun i => -1 * g i := by funext i; omega
        rw [this, smS_mul]; omega
      rw [← h1]
      exact smS_congr _ fun i _ => (h1 _ _).symm
    rw [e3]
    refine smS_congr _ fun i _ => smS_congr _ fun k _ => ?_
    by_cases h2 : k = i
    · rw [if_pos h2.symm, if_pos h2]; rfl
    · rw [if_neg (fun h => h2 h.symm), if_neg h2, twoT_neg n M h2, Int.neg_mul, Int.neg_neg, Int.mul_comm (M k 1)]
  | n + 2, M, s + 1, h => by
    rw [dtM_succ, dtM_succ]
    have e1 : smS (fun i => altI i * (M i 0 * dtM (n + 1) fun a b => M (skI i a) (b + 1))) (n + 2) = - smS (fun i => -1 * (altI i * (M i 0 * dtM (n + 1) fun a b => M (skI i a) (b + 1)))) (n + 2) := by rw [smS_mul]; omega
    rw [e1, Int.neg_neg]
    refine smS_congr _ fun i _ => ?_
    rw [swN_ne (by omega) (by omega)]
    have e2 : dtM (n + 1) (fun a b => M (skI i a) (swN (s + 1) (b + 1))) = - dtM (n + 1) fun a b => M (skI i a) (b + 1) := by
      rw [← dt_cswap (n + 1) (fun a b => M (skI i a) (b + 1)) s (by omega)]
      exact dtM_congr _ fun a b _ _ => by
        have : swN (s + 1) (b + 1) = swN s b + 1 := by unfold swN; repeat' split
                                                       all_goals omega
        rw [this]
    rw [e2, Int.mul_neg, Int.mul_neg]
    omega
def dtL (M:Nat→Nat→Int) (R C:List Nat):Int:=dtM R.length fun a b=>M (R.getD a 0) (C.getD b 0)
theorem getD_sw {l:List Nat} {pre:List Nat} {x y:Nat} (a:Nat):(pre++x::y::l).getD (swN pre.length a) 0=(pre++y::x::l).getD a 0:=by
 simp only [List.getD_eq_getElem?_getD]
 by_cases h1:a=pre.length
 ·subst h1
  rw [swN_l,List.getElem?_append_right (by omega),List.getElem?_append_right (by omega)]
  simp
 ·by_cases h2:a=pre.length+1
  ·subst h2
   rw [swN_r,List.getElem?_append_right (by omega),List.getElem?_append_right (by omega)]
   simp
  ·rw [swN_ne h1 h2]
   by_cases h3:a<pre.length
   ·rw [List.getElem?_append_left h3,List.getElem?_append_left h3]
   ·rw [List.getElem?_append_right (by omega),List.getElem?_append_right (by omega)]
    obtain ⟨q,hq⟩:∃ q,a-pre.length=q+2:=⟨a-pre.length-2,by omega⟩
    rw [hq]
    rfl
theorem dtL_rperm {M:Nat→Nat→Int} {C:List Nat} {R R':List Nat} (h:R.Perm R'):∀ pre:List Nat,(dtL M (pre++R) C).natAbs=(dtL M (pre++R') C).natAbs:=by
 induction h with
 | nil=>intro pre; rfl
 | cons x _ ih =>
  intro pre
  have:=ih (pre++[x])
  simpa using this
 | swap x y l =>
  intro pre
  have e:dtL M (pre++x::y::l) C = - dtL M (pre++y::x::l) C:=by
   unfold dtL
   have hl:(pre++x::y::l).length=(pre++y::x::l).length:=by simp
   rw [hl,← dt_swap _ _ pre.length (by simp)]
   exact dtM_congr _ fun a b _ _=>by rw [getD_sw]
  rw [e,Int.natAbs_neg]
 | trans _ _ ih1 ih2=>intro pre; rw [ih1,ih2]
theorem dtL_cperm {M:Nat→Nat→Int} {R:List Nat} {C C':List Nat} (h:C.Perm C'):∀ pre:List Nat,(pre++C).length=R.length→(dtL M R (pre++C)).natAbs=(dtL M R (pre++C')).natAbs:=by
 induction h with
 | nil=>intro pre _; rfl
 | cons x _ ih =>
  intro pre hp
  have:=ih (pre++[x]) (by simpa using hp)
  simpa using this
 | swap x y l =>
  intro pre hp
  have e:dtL M R (pre++x::y::l) = - dtL M R (pre++y::x::l):=by
   unfold dtL
   rw [← dt_cswap _ _ pre.length (by rw [← hp]; simp)]
   exact dtM_congr _ fun a b _ _=>by rw [getD_sw]
  rw [e,Int.natAbs_neg]
 | trans h1 _ ih1 ih2 =>
  intro pre hp
  rw [ih1 pre hp,ih2 pre (by rw [← hp]; simp [h1.length_eq])]
def prS (e:Nat→Int):Nat→Int
 | 0=>1
 | n+1=>prS e n*e n
theorem prS_congr {f g:Nat→Int}:∀ n,(∀ i,i<n→f i=g i)→prS f n=prS g n
 | 0,_=>rfl
 | n+1,h=>by unfold prS; rw [prS_congr n fun i hi=>h i (by omega),h n (by omega)]
theorem prS_skip (e:Nat→Int):∀ (n i:Nat),i<n+1→prS e (n+1)=e i*prS (fun a=>e (skI i a)) n
 | 0,i,h=>by
  have:i=0:=by omega
  subst this
  simp [prS]
 | n+1,i,h=>by
  by_cases h1:i=n+1
  ·subst h1
   show prS e (n+1)*e (n+1)=_
   rw [prS_congr (f:=fun a=>e (skI (n+1) a)) (g:=e) (n+1) fun a ha=>by rw [skI_lt (by omega)]]
   rw [Int.mul_comm]
  ·show prS e (n+1)*e (n+1)=e i*(prS (fun a=>e (skI i a)) n*e (skI i n))
   rw [prS_skip e n i (by omega),skI_ge (by omega),Int.mul_assoc]
theorem dt_scale (e:Nat→Int):∀ (n:Nat) (g:Nat→Int) (f:Nat→Int) (M:Nat→Nat→Int),dtM n (fun a b=>f a*g b*M a b)=prS f n*prS g n*dtM n M
 | 0,_,_,_=>by simp [dtM,prS]
 | n+1,g,f,M=>by
  rw [dtM_succ,dtM_succ,← smS_mul]
  refine smS_congr _ fun i hi => ?_
  rw [dt_scale e n (fun b=>g (b+1)) (fun a=>f (skI i a)) fun a b=>M (skI i a) (b+1)]
  have e1:=prS_skip f n i hi
  have e2:=prS_skip g n 0 (by omega)
  have e3:prS (fun a=>g (skI 0 a)) n=prS (fun b=>g (b+1)) n:=prS_congr n fun a _=>by rw [skI_ge (by omega)]
  rw [e1,e2,e3]
  simp only [Int.mul_assoc,Int.mul_left_comm,Int.mul_comm]
theorem prS_pm {f:Nat→Int}:∀ n,(∀ i,i<n→f i=1∨f i = -1)→prS f n=1∨prS f n = -1
 | 0,_ => .inl rfl
 | n+1,h=>by
  unfold prS
  rcases prS_pm n fun i hi=>h i (by omega) with h1 | h1 <;> rcases h n (by omega) with h2 | h2 <;> rw [h1,h2] <;> simp
theorem pm_abs {a b:Int} (h:a=1∨a = -1):(a*b).natAbs=b.natAbs:=by
 rcases h with h | h <;> subst h <;> simp
theorem dt_signs {n:Nat} {f g:Nat→Int} {M N:Nat→Nat→Int} (hf:∀ i,i<n→f i=1∨f i = -1) (hg:∀ i,i<n→g i=1∨g i = -1) (h:∀ a b,a<n→b<n→N a b=f a*g b*M a b):(dtM n N).natAbs=(dtM n M).natAbs:=by
 rw [dtM_congr n h,dt_scale (fun _=>0),Int.mul_assoc,pm_abs (prS_pm n hf),pm_abs (prS_pm n hg)]
theorem getD_erase {l:List Nat} (i a:Nat):(l.eraseIdx i).getD a 0=l.getD (skI i a) 0:=by
 simp only [List.getD_eq_getElem?_getD,List.getElem?_eraseIdx]
 unfold skI
 split <;> rfl
theorem len_erase {l:List Nat} {i:Nat} (h:i<l.length):(l.eraseIdx i).length+1=l.length:=by
 rw [List.length_eraseIdx_of_lt h]; omega
theorem dtL_cons (M:Nat→Nat→Int) (R:List Nat) (c:Nat) (C:List Nat) (h:R≠[]):dtL M R (c::C)=smS (fun i=>altI i*(M (R.getD i 0) c*dtL M (R.eraseIdx i) C)) R.length:=by
 obtain ⟨n,hn⟩:∃ n,R.length=n+1:=⟨R.length-1,by have:=List.length_pos_iff.2 h; omega⟩
 unfold dtL
 rw [hn,dtM_succ]
 refine smS_congr _ fun i hi => ?_
 have hl:(R.eraseIdx i).length=n:=by have:=len_erase (l:=R) (i:=i) (by omega); omega
 rw [hl]
 congr 2
 refine dtM_congr n fun a b _ _ => ?_
 rw [getD_erase]
 rfl
def oneM (N:Nat):Nat:=2 ^ (2 ^ N)-1
def varM:Nat→Nat→Nat
 | 0,_=>0
 | n+1,i=>if i=n then (2 ^ (2 ^ n)-1)*2 ^ (2 ^ n) else varM n i*(2 ^ (2 ^ n)+1)
def frc {α:Type} (n:Nat) (f:Nat→α):α:=match n with
 | 0=>f 0
 | k+1=>f (k+1)
theorem frc_eq {α:Type} (n:Nat) (f:Nat→α):frc n f=f n:=by cases n <;> rfl
theorem oneM_bit (N S:Nat):(oneM N).testBit S=decide (S<2 ^ N):=by
 unfold oneM; rw [Nat.testBit_two_pow_sub_one]
theorem varM_lt:∀ n i:Nat,varM n i<2 ^ (2 ^ n)
 | 0,_=>by simp [varM]
 | n+1,i=>by
  have e:2 ^ (2 ^ (n+1))=2 ^ (2 ^ n)*2 ^ (2 ^ n):=by rw [← Nat.pow_add]; congr 1; rw [Nat.pow_succ]; omega
  have hp:=Nat.two_pow_pos (2 ^ n)
  unfold varM
  split
  ·rw [e]; exact Nat.mul_lt_mul_of_pos_right (by omega) hp
  ·have:=varM_lt n i
   rw [e]
   generalize 2 ^ (2 ^ n)=q at *
   have h1:varM n i≤q-1:=by omega
   have h2:varM n i*(q+1)≤(q-1)*(q+1):=Nat.mul_le_mul_right _ h1
   obtain ⟨p,rfl⟩:∃ p,q=p+1:=⟨q-1,by omega⟩
   simp only [Nat.add_sub_cancel] at h2
   have h3:(p+1)*(p+1)=p*(p+1+1)+1:=by
    simp only [Nat.mul_add,Nat.add_mul]; omega
   omega
theorem varM_bit:∀ n i S:Nat,i<n→S<2 ^ n→(varM n i).testBit S=S.testBit i
 | 0,_,_,h,_=>by omega
 | n+1,i,S,hi,hS=>by
  have e:2 ^ (n+1)=2 ^ n+2 ^ n:=by rw [Nat.pow_succ]; omega
  unfold varM
  split
  ·rename_i h
   subst h
   have e2:(2 ^ (2 ^ i)-1)*2 ^ (2 ^ i)=2 ^ (2 ^ i)*(2 ^ (2 ^ i)-1)+0:=by rw [Nat.mul_comm]; rfl
   rw [e2,Nat.testBit_two_pow_mul_add _ (Nat.two_pow_pos _)]
   split
   ·rename_i h
    rw [Nat.testBit_lt_two_pow h]; simp
   ·rename_i h
    rw [Nat.testBit_two_pow_sub_one]
    obtain ⟨S',rfl⟩:∃ S',S=2 ^ i+S':=⟨S-2 ^ i,by omega⟩
    rw [Nat.testBit_two_pow_add_eq,Nat.testBit_lt_two_pow (by omega)]
    simp; omega
  ·rename_i h
   have e2:varM n i*(2 ^ (2 ^ n)+1)=2 ^ (2 ^ n)*varM n i+varM n i:=by rw [Nat.mul_add,Nat.mul_one,Nat.mul_comm]
   rw [e2,Nat.testBit_two_pow_mul_add _ (varM_lt n i)]
   split
   ·rename_i h2
    exact varM_bit n i S (by omega) h2
   ·rename_i h2
    obtain ⟨S',rfl⟩:∃ S',S=2 ^ n+S':=⟨S-2 ^ n,by omega⟩
    rw [Nat.add_sub_cancel_left,varM_bit n i S' (by omega) (by omega),Nat.testBit_two_pow_add_gt (by omega)]
theorem flp_bit (S i j:Nat):(S ^^^ 2 ^ i).testBit j=(if j=i then !S.testBit j else S.testBit j):=by
 rw [Nat.testBit_xor,Nat.testBit_two_pow]
 by_cases h:j=i
 ·subst h; simp
 ·have:¬i=j:=fun e=>h e.symm
  simp [h,this]
theorem flp_lt {S i n:Nat} (hS:S<2 ^ n) (hi:i<n):S ^^^ 2 ^ i<2 ^ n:=Nat.xor_lt_two_pow hS (Nat.pow_lt_pow_right (by omega) hi)
theorem flp_flp (S i:Nat):(S ^^^ 2 ^ i) ^^^ 2 ^ i=S:=by
 apply Nat.eq_of_testBit_eq
 intro j
 rw [flp_bit,flp_bit]
 split <;> simp
theorem flp_off {S i:Nat} (h:S.testBit i=false):S ^^^ 2 ^ i=S+2 ^ i:=by
 have hp:=Nat.two_pow_pos (i+1)
 have e1:S=2 ^ (i+1)*(S / 2 ^ (i+1))+S % 2 ^ (i+1):=(Nat.div_add_mod S _).symm
 have hb:S % 2 ^ (i+1)<2 ^ i:=by
  apply Nat.lt_pow_two_of_testBit
  intro j hj
  rw [Nat.testBit_mod_two_pow]
  by_cases e:j=i
  ·subst e; rw [h]; simp
  ·have:¬j<i+1:=by omega
   simp [this]
 have e2:2 ^ (i+1)=2 ^ i+2 ^ i:=by rw [Nat.pow_succ]; omega
 have e3:S+2 ^ i=2 ^ (i+1)*(S / 2 ^ (i+1))+(2 ^ i+S % 2 ^ (i+1)):=by omega
 apply Nat.eq_of_testBit_eq
 intro j
 rw [e3,Nat.testBit_two_pow_mul_add _ (by omega),flp_bit]
 by_cases hj:j<i+1
 ·rw [if_pos hj]
  have e4:S.testBit j=(S % 2 ^ (i+1)).testBit j:=by rw [Nat.testBit_mod_two_pow]; simp [hj]
  rw [e4]
  by_cases e:j=i
  ·subst e
   rw [if_pos rfl,Nat.testBit_two_pow_add_eq]
  ·rw [if_neg e,Nat.testBit_two_pow_add_gt (by omega)]
 ·rw [if_neg hj,if_neg (by omega),Nat.testBit_div_two_pow]
  congr 1; omega
theorem flp_on {S i:Nat} (h:S.testBit i=true):S=(S ^^^ 2 ^ i)+2 ^ i:=by
 have:=flp_off (S:=S ^^^ 2 ^ i) (i:=i) (by rw [flp_bit,if_pos rfl,h]; rfl)
 rw [flp_flp] at this
 exact this
theorem shl_bit {n r a R:Nat} (hr:r<n) (hR:R<2 ^ n):((a <<< 2 ^ r) &&& varM n r).testBit R=(R.testBit r && a.testBit (R ^^^ 2 ^ r)):=by
 rw [Nat.testBit_and,varM_bit n r R hr hR,Nat.testBit_shiftLeft]
 cases h:R.testBit r with
 | false=>simp
 | true =>
  have:=flp_on h
  have h1:2 ^ r≤R:=by omega
  have h2:R-2 ^ r=R ^^^ 2 ^ r:=by omega
  simp [h1,h2]
def swb (m a b Z:Nat):Nat :=
 (Z &&& ((oneM m ^^^ varM m a) ^^^ varM m b)) ||| (((Z <<< (2 ^ b-2 ^ a)) &&& (varM m b &&& (oneM m ^^^ varM m a))) ||| ((Z >>> (2 ^ b-2 ^ a)) &&& (varM m a &&& (oneM m ^^^ varM m b))))
def twF (a b f:Nat):Nat:=if f.testBit a=f.testBit b then f else (f ^^^ 2 ^ a) ^^^ 2 ^ b
def swI (a b j:Nat):Nat:=if j=a then b else if j=b then a else j
theorem swb_bit {m a b Z f:Nat} (hab:a<b) (hb:b<m) (hf:f<2 ^ m):(swb m a b Z).testBit f=Z.testBit (twF a b f):=by
 unfold swb twF
 simp only [Nat.testBit_or,Nat.testBit_and,Nat.testBit_xor,oneM_bit,varM_bit m a f (by omega) hf,varM_bit m b f hb hf,Nat.testBit_shiftLeft,Nat.testBit_shiftRight,hf,decide_true]
 have hpow:2 ^ a<2 ^ b:=Nat.pow_lt_pow_right (by omega) hab
 cases ha:f.testBit a with
 | false =>
  cases hb2:f.testBit b with
  | false=>simp
  | true =>
   have e1:=flp_off ha
   have e2:((f ^^^ 2 ^ a).testBit b)=true:=by rw [flp_bit,if_neg (by omega),hb2]
   have e3:=flp_on e2
   have h1:2 ^ b-2 ^ a≤f:=by have:=flp_on hb2; omega
   have h2:f-(2 ^ b-2 ^ a)=(f ^^^ 2 ^ a) ^^^ 2 ^ b:=by omega
   simp [h1,h2]
 | true =>
  cases hb2:f.testBit b with
  | true=>simp
  | false =>
   have e1:=flp_on ha
   have e2:((f ^^^ 2 ^ a).testBit b)=false:=by rw [flp_bit,if_neg (by omega),hb2]
   have e3:=flp_off e2
   have h2:2 ^ b-2 ^ a+f=(f ^^^ 2 ^ a) ^^^ 2 ^ b:=by omega
   simp [h2]
theorem twF_bit {a b f:Nat} (hab:a≠b) (j:Nat):(twF a b f).testBit j=f.testBit (swI a b j):=by
 unfold twF swI
 by_cases h:f.testBit a=f.testBit b
 ·rw [if_pos h]
  by_cases h1:j=a
  ·rw [if_pos h1,h1,h]
  ·rw [if_neg h1]
   by_cases h2:j=b
   ·rw [if_pos h2,h2,h]
   ·rw [if_neg h2]
 ·rw [if_neg h,flp_bit,flp_bit]
  have hx:f.testBit a = !f.testBit b:=by
   cases h1:f.testBit a <;> cases h2:f.testBit b <;> simp_all
  by_cases h1:j=a
  ·subst h1
   rw [if_neg hab,if_pos rfl,if_pos rfl,hx,Bool.not_not]
  ·rw [if_neg h1]
   by_cases h2:j=b
   ·subst h2
    rw [if_pos rfl,if_neg h1,if_pos rfl,hx]
   ·rw [if_neg h2,if_neg h1,if_neg h2]
theorem twF_lt {a b f m:Nat} (ha:a<m) (hb:b<m) (hf:f<2 ^ m):twF a b f<2 ^ m:=by
 unfold twF
 split
 ·exact hf
 ·exact flp_lt (flp_lt hf ha) hb
theorem dt_clin:∀ (n:Nat) (M U V:Nat→Nat→Int) (s:Nat) (x y:Int),s<n→(∀ a b,b≠s→U a b=M a b)→(∀ a b,b≠s→V a b=M a b)→(∀ a,M a s=x*U a s+y*V a s)→dtM n M=x*dtM n U+y*dtM n V
 | 0,_,_,_,_,_,_,h,_,_,_=>by omega
 | n+1,M,U,V,0,x,y,_,hU,hV,hM=>by
  rw [dtM_succ,dtM_succ,dtM_succ,← smS_mul,← smS_mul,← smS_add]
  refine smS_congr _ fun i _ => ?_
  rw [hM i,dtM_congr n (M:=fun a b=>U (skI i a) (b+1)) (N:=fun a b=>M (skI i a) (b+1)) (fun a b _ _=>hU _ _ (by omega)),dtM_congr n (M:=fun a b=>V (skI i a) (b+1)) (N:=fun a b=>M (skI i a) (b+1)) (fun a b _ _=>hV _ _ (by omega))]
  generalize dtM n (fun a b=>M (skI i a) (b+1))=d
  rw [Int.add_mul,Int.mul_add,Int.mul_assoc,Int.mul_assoc,Int.mul_left_comm (altI i) x,Int.mul_left_comm (altI i) y]
 | n+1,M,U,V,s+1,x,y,h,hU,hV,hM=>by
  rw [dtM_succ,dtM_succ,dtM_succ,← smS_mul,← smS_mul,← smS_add]
  refine smS_congr _ fun i _ => ?_
  rw [hU i 0 (by omega),hV i 0 (by omega)]
  rw [dt_clin n (fun a b=>M (skI i a) (b+1)) (fun a b=>U (skI i a) (b+1)) (fun a b=>V (skI i a) (b+1)) s x y (by omega) (fun a b hb=>hU _ _ (by omega)) (fun a b hb=>hV _ _ (by omega)) fun a=>hM _]
  rw [Int.mul_add,Int.mul_add,Int.mul_left_comm (M i 0) x,Int.mul_left_comm (M i 0) y,Int.mul_left_comm (altI i) x,Int.mul_left_comm (altI i) y]
def mD (t:Int) (n w K:Nat) (f:Nat→Nat→Int):Prop:=∀ R C:List Nat,R.length=K→C.length=K→(∀ r∈R,r<n)→(∀ c∈C,c<w)→t∣dtL f R C
theorem gD_mem {l:List Nat} {a:Nat} (h:a<l.length):l.getD a 0∈l:=by
 simp [List.getD_eq_getElem?_getD,h]
theorem dtL_congr {n w:Nat} {f g:Nat→Nat→Int} (h:∀ a b,a<n→b<w→f a b=g a b) {R C:List Nat} (hl:R.length≤C.length) (hr:∀ r∈R,r<n) (hc:∀ c∈C,c<w):dtL f R C=dtL g R C:=by
 unfold dtL
 exact dtM_congr _ fun a b ha hb=>h _ _ (hr _ (gD_mem ha)) (hc _ (gD_mem (by omega)))
theorem mD_congr {t:Int} {n w K:Nat} {f g:Nat→Nat→Int} (h:∀ a b,a<n→b<w→f a b=g a b) (hf:mD t n w K f):mD t n w K g:=fun R C hR hC hr hc=>by
 rw [← dtL_congr h (by omega) hr hc]
 exact hf R C hR hC hr hc
theorem mD_row {t:Int} {n w K k:Nat} {f:Nat→Nat→Int} (s c:Nat→Int) (hk:k<n) (h:mD t n w K f):mD t n w K fun a b=>s a*f a b+c a*f k b:=by
 intro R C hR hC hr hc
 have key:∀ m,m≤K→∀ R:List Nat,R.length=K→(∀ r∈R,r<n)→t∣dtM K fun a b=>if a<m then s (R.getD a 0)*f (R.getD a 0) (C.getD b 0)+c (R.getD a 0)*f k (C.getD b 0) else f (R.getD a 0) (C.getD b 0):=by
  intro m
  induction m with
  | zero =>
   intro _ R hR hr
   have:=h R C hR hC hr hc
   unfold dtL at this
   rw [hR] at this
   rw [dtM_congr K (N:=fun a b=>f (R.getD a 0) (C.getD b 0)) fun a b _ _=>by rw [if_neg (by omega)]]
   exact this
  | succ m ih =>
   intro hm R hR hr
   have i1:=ih (by omega) R hR hr
   have i2:=ih (by omega) (R.set m k) (by simpa using hR) fun r hmem=>by
    rcases List.mem_or_eq_of_mem_set hmem with h1 | h1
    ·exact hr r h1
    ·rw [h1]; exact hk
   have hset:∀ a,a≠m→(R.set m k).getD a 0=R.getD a 0:=fun a ha=>by
    simp only [List.getD_eq_getElem?_getD]
    rw [List.getElem?_set_ne (fun e=>ha e.symm)]
   have hself:(R.set m k).getD m 0=k:=by
    simp only [List.getD_eq_getElem?_getD]
    rw [List.getElem?_set_self (by omega)]
    rfl
   rw [dt_lin K _ (fun a b=>if a<m then s (R.getD a 0)*f (R.getD a 0) (C.getD b 0)+c (R.getD a 0)*f k (C.getD b 0) else f (R.getD a 0) (C.getD b 0))
    (fun a b=>if a<m then s ((R.set m k).getD a 0)*f ((R.set m k).getD a 0) (C.getD b 0)+c ((R.set m k).getD a 0)*f k (C.getD b 0) else f ((R.set m k).getD a 0) (C.getD b 0)) m (s (R.getD m 0)) (c (R.getD m 0)) (by omega) (fun a b ha => ?_) (fun a b ha => ?_) (fun b => ?_)]
   ·exact Int.dvd_add (Int.dvd_mul_of_dvd_right i1) (Int.dvd_mul_of_dvd_right i2)
   ·by_cases h1:a<m
    ·rw [if_pos h1,if_pos (by omega)]
    ·rw [if_neg h1,if_neg (by omega)]
   ·rw [hset a ha]
    by_cases h1:a<m
    ·rw [if_pos h1,if_pos (by omega)]
    ·rw [if_neg h1,if_neg (by omega)]
   ·rw [if_pos (by omega),if_neg (by omega),if_neg (by omega),hself]
 have:=key K (Nat.le_refl K) R hR hr
 unfold dtL
 rw [hR]
 rw [dtM_congr K (N:=fun a b=>s (R.getD a 0)*f (R.getD a 0) (C.getD b 0)+c (R.getD a 0)*f k (C.getD b 0)) fun a b ha _=>by rw [if_pos ha]] at this
 exact this
theorem mD_col {t:Int} {n w K k:Nat} {f:Nat→Nat→Int} (s c:Nat→Int) (hk:k<w) (h:mD t n w K f):mD t n w K fun a b=>s b*f a b+c b*f a k:=by
 intro R C hR hC hr hc
 have key:∀ m,m≤K→∀ C:List Nat,C.length=K→(∀ r∈C,r<w)→t∣dtM K fun a b=>if b<m then s (C.getD b 0)*f (R.getD a 0) (C.getD b 0)+c (C.getD b 0)*f (R.getD a 0) k else f (R.getD a 0) (C.getD b 0):=by
  intro m
  induction m with
  | zero =>
   intro _ C hC hc
   have:=h R C hR hC hr hc
   unfold dtL at this
   rw [hR] at this
   rw [dtM_congr K (N:=fun a b=>f (R.getD a 0) (C.getD b 0)) fun a b _ _=>by rw [if_neg (by omega)]]
   exact this
  | succ m ih =>
   intro hm C hC hc
   have i1:=ih (by omega) C hC hc
   have i2:=ih (by omega) (C.set m k) (by simpa using hC) fun r hmem=>by
    rcases List.mem_or_eq_of_mem_set hmem with h1 | h1
    ·exact hc r h1
    ·rw [h1]; exact hk
   have hset:∀ a,a≠m→(C.set m k).getD a 0=C.getD a 0:=fun a ha=>by
    simp only [List.getD_eq_getElem?_getD]
    rw [List.getElem?_set_ne (fun e=>ha e.symm)]
   have hself:(C.set m k).getD m 0=k:=by
    simp only [List.getD_eq_getElem?_getD]
    rw [List.getElem?_set_self (by omega)]
    rfl
   rw [dt_clin K _ (fun a b=>if b<m then s (C.getD b 0)*f (R.getD a 0) (C.getD b 0)+c (C.getD b 0)*f (R.getD a 0) k else f (R.getD a 0) (C.getD b 0))
    (fun a b=>if b<m then s ((C.set m k).getD b 0)*f (R.getD a 0) ((C.set m k).getD b 0)+c ((C.set m k).getD b 0)*f (R.getD a 0) k else f (R.getD a 0) ((C.set m k).getD b 0)) m (s (C.getD m 0)) (c (C.getD m 0)) (by omega) (fun a b ha => ?_) (fun a b ha => ?_) (fun b => ?_)]
   ·exact Int.dvd_add (Int.dvd_mul_of_dvd_right i1) (Int.dvd_mul_of_dvd_right i2)
   ·by_cases h1:b<m
    ·rw [if_pos h1,if_pos (by omega)]
    ·rw [if_neg h1,if_neg (by omega)]
   ·rw [hset b ha]
    by_cases h1:b<m
    ·rw [if_pos h1,if_pos (by omega)]
    ·rw [if_neg h1,if_neg (by omega)]
   ·rw [if_pos (by omega),if_neg (by omega),if_neg (by omega),hself]
 have:=key K (Nat.le_refl K) C hC hc
 unfold dtL
 rw [hR]
 rw [dtM_congr K (N:=fun a b=>s (C.getD b 0)*f (R.getD a 0) (C.getD b 0)+c (C.getD b 0)*f (R.getD a 0) k) fun a b _ hb=>by rw [if_pos hb]] at this
 exact this
theorem gD_map {f:Nat→Nat} {l:List Nat} {a:Nat} (h:a<l.length):(l.map f).getD a 0=f (l.getD a 0):=by
 simp [List.getD_eq_getElem?_getD,List.getElem?_map,h]
theorem dtL_map {f:Nat→Nat→Int} {R C:List Nat} (p q:Nat→Nat) (hl:R.length≤C.length):dtL (fun a b=>f (p a) (q b)) R C=dtL f (R.map p) (C.map q):=by
 unfold dtL
 rw [List.length_map]
 exact dtM_congr _ fun a b ha hb=>by rw [gD_map ha,gD_map (by omega)]
def dv (top:Int) (n w K:Nat) (t:Int) (f:Nat→Nat→Int):Prop:=∀ Z:Nat→Nat→Int,mD t n w K fun a b=>f a b+top*Z a b
theorem dv_mD {top t:Int} {n w K:Nat} {f:Nat→Nat→Int} (h:dv top n w K t f):mD t n w K f:=mD_congr (fun a b _ _=>by simp) (h fun _ _=>0)
theorem dv_shift {top t:Int} {n w K:Nat} {f g:Nat→Nat→Int} (Y:Nat→Nat→Int) (h:∀ a b,a<n→b<w→g a b=f a b+top*Y a b) (hf:dv top n w K t f):dv top n w K t g:=fun Z=>mD_congr (fun a b ha hb=>by rw [h a b ha hb,Int.mul_add]; omega) (hf fun a b=>Y a b+Z a b)
theorem dv_row {top t:Int} {n w K k:Nat} {f g:Nat→Nat→Int} (c:Nat→Int) (hk:k<n) (hck:c k=0) (h:∀ a b,a<n→b<w→g a b=f a b+c a*f k b) (hf:dv top n w K t f):dv top n w K t g:=fun Z =>
 mD_congr (fun a b ha hb=>by
  rw [h a b ha hb]
  simp only [hck,Int.one_mul,Int.mul_add,Int.mul_sub,Int.zero_mul,Int.mul_zero]
  rw [Int.mul_left_comm (c a) top]
  omega) (mD_row (fun _=>1) c hk (hf fun a b=>Z a b-c a*Z k b))
theorem dv_col {top t:Int} {n w K k:Nat} {f g:Nat→Nat→Int} (c:Nat→Int) (hk:k<w) (hck:c k=0) (h:∀ a b,a<n→b<w→g a b=f a b+c b*f a k) (hf:dv top n w K t f):dv top n w K t g:=fun Z =>
 mD_congr (fun a b ha hb=>by
  rw [h a b ha hb]
  simp only [hck,Int.one_mul,Int.mul_add,Int.mul_sub,Int.zero_mul,Int.mul_zero]
  rw [Int.mul_left_comm (c b) top]
  omega) (mD_col (fun _=>1) c hk (hf fun a b=>Z a b-c b*Z a k))
theorem dv_row_iff {top t:Int} {n w K k:Nat} {f g:Nat→Nat→Int} (c:Nat→Int) (hk:k<n) (hck:c k=0) (h:∀ a b,a<n→b<w→g a b=f a b+c a*f k b):dv top n w K t f↔dv top n w K t g :=
 ⟨dv_row c hk hck h,dv_row (fun a => - c a) hk (by simp [hck]) fun a b ha hb=>by rw [h a b ha hb,h k b hk hb,hck,Int.neg_mul]; simp; omega⟩
theorem dv_col_iff {top t:Int} {n w K k:Nat} {f g:Nat→Nat→Int} (c:Nat→Int) (hk:k<w) (hck:c k=0) (h:∀ a b,a<n→b<w→g a b=f a b+c b*f a k):dv top n w K t f↔dv top n w K t g :=
 ⟨dv_col c hk hck h,dv_col (fun a => - c a) hk (by simp [hck]) fun a b ha hb=>by rw [h a b ha hb,h a k ha hk,hck,Int.neg_mul]; simp; omega⟩
theorem getD_mem_iff {l:List Int} {n:Int}:n∈l↔∃ j,j<l.length∧at0 l j=n:=by
 constructor
 ·intro h
  obtain ⟨j,hj,e⟩:=List.getElem_of_mem h
  exact ⟨j,hj,by rw [at0_eq hj,e]⟩
 ·rintro ⟨j,hj,e⟩
  rw [at0_eq hj] at e
  exact e ▸ List.getElem_mem hj
theorem getD_mem' {l:List Int} {j:Nat} (hj:j<l.length):at0 l j∈l:=getD_mem_iff.2 ⟨j,hj,rfl⟩
def pcF:Nat→Nat→Nat
 | 0,_=>0
 | f+1,n=>n % 2+pcF f (n / 2)
def pc (n:Nat):Nat:=pcF 64 n
theorem pcF_zero (f:Nat):pcF f 0=0:=by
 induction f with
 | zero=>rfl
 | succ f ih=>simp [pcF,ih]
theorem pcF_le (f n:Nat):pcF f n≤f:=by
 induction f generalizing n with
 | zero=>simp [pcF]
 | succ f ih=>have:=ih (n / 2); simp only [pcF]; omega
theorem pc_le (n:Nat):pc n≤64:=pcF_le 64 n
def sz (s:Int):Int:=(pc s.toNat:Nat)
theorem sz_nn (s:Int):0≤sz s:=by unfold sz; omega
def isSet (n s:Int):Bool:=decide (0≤n∧n≤6∧0≤s∧s<2 ^ n.toNat)
theorem isSet_pos {n s:Int} (h:isSet n s=true):0≤s∧s<64:=by
 simp only [isSet,decide_eq_true_eq] at h
 obtain ⟨h1,h2,h3,h4⟩:=h
 have:n=0∨n=1∨n=2∨n=3∨n=4∨n=5∨n=6:=by omega
 rcases this with rfl | rfl | rfl | rfl | rfl | rfl | rfl <;> simp at h4 <;> omega
def before (a b:Int):Bool:=decide (sz a<sz b∨(sz a=sz b∧a<b))
def sc_s_l1In:SC:=(.seq (.reg [⟨some 6,none,.mov (.c (.bool false))⟩]) (.seq (.reg [⟨some 7,none,.mov (.t 0)⟩,⟨some 8,none,.mov (.t 1)⟩,⟨some 9,none,.bin false .geq (.t 7) (.t 8)⟩,⟨some 10,none,.mov (.t 9)⟩,⟨some 11,some (10,true),.mov (.t 0)⟩,⟨some 12,some (10,true),.mov (.t 2)⟩,⟨some 13,some (10,true),.bin false .leq (.t 11) (.t 12)⟩,⟨some 14,none,.pick (.t 10) (.t 13) (.c (.bool false))⟩,⟨some 6,none,.mov (.t 14)⟩]) .ret))
theorem code_s_l1In:fnCode Tryz.prog [] 39=some (15,sc_s_l1In,[(6,none)]):=by kernel_rfl
def F_s_l1In:List V→Option V:=F3 dI dI dI fun x a b=>some (.bool (decide (a≤x∧x≤b)))
theorem fn_s_l1In:FnOk Tryz.prog 39 F_s_l1In:=by
 refine fn_ok code_s_l1In mixed envNil_ok ?_
 intro args r h hb
 obtain ⟨_,_,_,x,a,b,rfl,h1,h2,h3,h4⟩:=F3_inv h
 cases dI_inv h1
 cases dI_inv h2
 cases dI_inv h3
 cases h4
 refine ⟨by simp,fun w0 U0 L0 N0 => ?_⟩
 simp -implicitDefEqProofs [sc_s_l1In]
 omega
def sc_s_IsSet:SC:=(.seq (.reg [⟨some 4,none,.mov (.c (.bool false))⟩]) (.seq (.reg [⟨some 5,none,.mov (.t 0)⟩,⟨some 6,none,.call 39 [.t 5,(.c (.int .i64 0)),(.c (.int .i64 6))]⟩,⟨some 7,none,.mov (.t 6)⟩,⟨some 8,some (7,true),.mov (.t 1)⟩,⟨some 9,some (7,true),.mov (.t 0)⟩,⟨some 10,some (7,true),.conv .u64 (.t 9)⟩,⟨some 11,some (7,true),.bin false .shl (.c (.int .i64 1)) (.t 10)⟩,⟨some 12,some (7,true),.bin false .sub (.t 11) (.c (.int .i64 1))⟩,⟨some 13,some (7,true),.call 39 [.t 8,(.c (.int .i64 0)),.t 12]⟩,⟨some 14,none,.pick (.t 7) (.t 13) (.c (.bool false))⟩,⟨some 4,none,.mov (.t 14)⟩]) .ret))
theorem code_s_IsSet:fnCode Tryz.prog [] 83=some (15,sc_s_IsSet,[(4,none)]):=by kernel_rfl
def F_s_IsSet:List V→Option V:=F2 dI dI fun n s=>some (.bool (isSet n s))
theorem fn_s_IsSet:FnOk Tryz.prog 83 F_s_IsSet:=by
 have env:=(envNil_ok (P:=Tryz.prog)).add fn_s_l1In
 refine fn_ok code_s_IsSet mixed env ?_
 intro args r h hb
 obtain ⟨_,_,n,s,rfl,h1,h2,h4⟩:=F2_inv h
 cases dI_inv h1
 cases dI_inv h2
 cases h4
 refine ⟨by simp,fun w0 U0 L0 N0 => ?_⟩
 simp -implicitDefEqProofs [sc_s_IsSet,F_s_l1In,isSet]
 refine ⟨fun h1 h2 => ?_,by omega⟩
 have:n=0∨n=1∨n=2∨n=3∨n=4∨n=5∨n=6:=by omega
 rcases this with rfl | rfl | rfl | rfl | rfl | rfl | rfl <;> simp [IntKind.wrap,IntKind.bits,IntKind.signed] <;> rw [Bool.eq_iff_iff] <;> simp <;> omega
def sc_i_IsSet:SC:=(.seq (.reg [⟨some 4,none,.mov (.c (.bool false))⟩]) (.seq (.reg [⟨some 5,none,.mov (.t 0)⟩,⟨some 6,none,.bin false .geq (.t 5) (.c (.int .i64 0))⟩,⟨some 7,none,.mov (.t 6)⟩,⟨some 8,some (7,true),.mov (.t 0)⟩,⟨some 9,some (7,true),.bin false .leq (.t 8) (.c (.int .i64 6))⟩,⟨some 10,none,.pick (.t 7) (.t 9) (.c (.bool false))⟩,⟨some 11,none,.mov (.t 10)⟩,⟨some 12,some (11,true),.mov (.t 1)⟩,⟨some 13,some (11,true),.bin false .geq (.t 12) (.c (.int .i64 0))⟩,⟨some 14,none,.pick (.t 11) (.t 13) (.c (.bool false))⟩,⟨some 15,none,.mov (.t 14)⟩,⟨some 16,some (15,true),.mov (.t 1)⟩,⟨some 17,some (15,true),.mov (.t 0)⟩,⟨some 18,some (15,true),.conv .u64 (.t 17)⟩,⟨some 19,some (15,true),.bin false .shl (.c (.int .i64 1)) (.t 18)⟩,⟨some 20,some (15,true),.bin false .lss (.t 16) (.t 19)⟩,⟨some 21,none,.pick (.t 15) (.t 20) (.c (.bool false))⟩,⟨some 4,none,.mov (.t 21)⟩]) .ret))
theorem code_i_IsSet:fnCode Tryz.prog [] 93=some (22,sc_i_IsSet,[(4,none)]):=by kernel_rfl
def F_i_IsSet:List V→Option V:=F2 dI dI fun n s=>some (.bool (isSet n s))
theorem fn_i_IsSet:FnOk Tryz.prog 93 F_i_IsSet:=by
 refine fn_ok code_i_IsSet mixed envNil_ok ?_
 intro args r h hb
 obtain ⟨_,_,n,s,rfl,h1,h2,h4⟩:=F2_inv h
 cases dI_inv h1
 cases dI_inv h2
 cases h4
 refine ⟨by simp,fun w0 U0 L0 N0 => ?_⟩
 generalize hw:(IntKind.u64.wrap n)=w
 generalize hv:isSet n s=v
 simp -implicitDefEqProofs [sc_i_IsSet,hw]
 have key:0≤n→n≤6→0≤w∧IntKind.i64.wrap (2 ^ min w.toNat IntKind.i64.bits)=2 ^ n.toNat:=by
  intro h1 h2
  have:n=0∨n=1∨n=2∨n=3∨n=4∨n=5∨n=6:=by omega
  rcases this with rfl | rfl | rfl | rfl | rfl | rfl | rfl <;> (subst hw; decide)
 subst hv
 by_cases h1:0≤n∧n≤6
 ·obtain ⟨k1,k2⟩:=key h1.1 h1.2
  rw [k2]
  simp [isSet,h1.1,h1.2,k1]
  omega
 ·have e:isSet n s=false:=by simp [isSet]; omega
  simp [e]
  omega
def sc_s_l2Size_L0:SC:=(.seq (.seq (.reg [⟨some 4,none,.mov (.t 0)⟩,⟨some 5,none,.bin false .gtr (.t 4) (.c (.int .i64 0))⟩]) (.cond (.t 5) .skip (.exit 0))) (.block 1 (.seq (.reg [⟨some 6,none,.mov (.t 3)⟩,⟨some 7,none,.mov (.t 0)⟩,⟨some 8,none,.bin false .and (.t 7) (.c (.int .i64 1))⟩,⟨some 9,none,.bin false .add (.t 6) (.t 8)⟩,⟨some 3,none,.mov (.t 9)⟩]) (.reg [⟨some 10,none,.mov (.t 0)⟩,⟨some 11,none,.bin false .shr (.t 10) (.c (.int .u64 1))⟩,⟨some 0,none,.mov (.t 11)⟩]))))
def sc_s_l2Size:SC:=(.seq (.reg [⟨some 2,none,.mov (.c (.int .i64 0))⟩]) (.seq (.reg [⟨some 3,none,.mov (.c (.int .i64 0))⟩]) (.seq (.block 0 (.loop sc_s_l2Size_L0)) (.seq (.reg [⟨some 12,none,.mov (.t 3)⟩,⟨some 2,none,.mov (.t 12)⟩]) .ret))))
theorem code_s_l2Size:fnCode Tryz.prog [] 81=some (13,sc_s_l2Size,[(2,none)]):=by kernel_rfl
noncomputable def F_s_l2Size:List V→Option V:=F1 dI fun s => @ite _ (s<9223372036854775808) (Classical.propDecidable _) (some (.int .i64 (sz s))) none
theorem fn_s_l2Size:FnOk Tryz.prog 81 F_s_l2Size:=by
 refine fn_ok code_s_l2Size mixed envNil_ok ?_
 intro args r h hb
 obtain ⟨_,s,rfl,h1,h4⟩:=F1_inv h
 cases dI_inv h1
 simp only [Option.ite_none_right_eq_some,Option.some.injEq] at h4
 obtain ⟨hs,rfl⟩:=h4
 refine ⟨by simp,fun w0 U0 L0 N0 => ?_⟩
 simp -implicitDefEqProofs [sc_s_l2Size]
 by_cases h0:0<s
 ·obtain ⟨m,rfl⟩:∃ m:Nat,s=m:=⟨s.toNat,by omega⟩
  refine loopI envNil_ok mixed (fun x:Nat×Nat×Nat=>[(0,.int .i64 (x.2.1:Int)),(3,.int .i64 (x.2.2:Int))]) (fun _=>([],0)) (fun x=>x.2.1<9223372036854775808∧x.2.2+pcF x.1 x.2.1=pc m∧x.2.1<2 ^ x.1) (fun x=>x.1) (64,m,0)
   (by simp [pc]; omega) (SubI.slots rfl (by simp)) ?_
  rintro ⟨f,k,n⟩ ⟨hk,hp,hf⟩
  simp -implicitDefEqProofs [sc_s_l2Size_L0]
  refine ⟨fun h => ?_,fun h => ?_⟩
  ·have hl:=pc_le m
   cases f with
   | zero=>simp at hf; omega
   | succ f =>
    have e1:bitop .and .i64 (k:Int) 1=((k % 2:Nat):Int):=by
     rw [show (1:Int)=((1:Nat):Int) from rfl,bits_and k 1 hk (by omega),Nat.and_one_is_mod]
    have e2:(k:Int).fdiv 2=((k / 2:Nat):Int):=by rw [Int.fdiv_eq_ediv_of_nonneg _ (by omega)]; rfl
    simp only [pcF] at hp
    simp only at hp hf hk
    refine Again.of (f,k / 2,n+k % 2) ⟨by simp only; omega,by simp only; omega,by simp only; rw [Nat.pow_succ] at hf; omega⟩ (by simp) (SubI.slots rfl ?_)
    simp [e1]
    simp (disch:=omega) [IntKind.bits,e2,wrapI]
  ·have:k=0:=by omega
   subst this
   simp only [pcF_zero] at hp
   simp [sz]
   omega
 ·refine loopI envNil_ok mixed (fun _:Unit=>[(0,.int .i64 s),(3,.int .i64 0)]) (fun _=>([],0)) (fun _=>True) (fun _=>0) () trivial (SubI.slots rfl (by simp)) ?_
  rintro ⟨⟩ _
  have e:s.toNat=0:=by omega
  simp -implicitDefEqProofs [sc_s_l2Size_L0,h0,sz,e,pc,pcF_zero]
def sc_s_l2Before:SC:=(.seq (.reg [⟨some 4,none,.mov (.c (.bool false))⟩]) (.seq (.reg [⟨some 7,none,.mov (.t 0)⟩,⟨some 8,none,.call 81 [.t 7]⟩,⟨some 5,none,.mov (.t 8)⟩]) (.seq (.reg [⟨some 9,none,.mov (.t 1)⟩,⟨some 10,none,.call 81 [.t 9]⟩,⟨some 6,none,.mov (.t 10)⟩]) (.seq (.reg [⟨some 11,none,.mov (.t 5)⟩,⟨some 12,none,.mov (.t 6)⟩,⟨some 13,none,.bin false .lss (.t 11) (.t 12)⟩,⟨some 14,none,.mov (.t 13)⟩,⟨some 15,some (14,false),.mov (.t 5)⟩,⟨some 16,some (14,false),.mov (.t 6)⟩,⟨some 17,some (14,false),.bin false .eql (.t 15) (.t 16)⟩,⟨some 18,some (14,false),.mov (.t 17)⟩,⟨some 19,some (18,true),.mov (.t 0)⟩,⟨some 20,some (18,true),.mov (.t 1)⟩,⟨some 21,some (18,true),.bin false .lss (.t 19) (.t 20)⟩,⟨some 22,some (14,false),.pick (.t 18) (.t 21) (.c (.bool false))⟩,⟨some 23,none,.pick (.t 14) (.c (.bool true)) (.t 22)⟩,⟨some 4,none,.mov (.t 23)⟩]) .ret))))
theorem code_s_l2Before:fnCode Tryz.prog [] 84=some (24,sc_s_l2Before,[(4,none)]):=by kernel_rfl
noncomputable def F_s_l2Before:List V→Option V:=F2 dI dI fun a b => @ite _ (a<9223372036854775808∧b<9223372036854775808) (Classical.propDecidable _) (some (.bool (before a b))) none
theorem fn_s_l2Before:FnOk Tryz.prog 84 F_s_l2Before:=by
 have env:=(envNil_ok (P:=Tryz.prog)).add fn_s_l2Size
 refine fn_ok code_s_l2Before mixed env ?_
 intro args r h hb
 obtain ⟨_,_,a,b,rfl,h1,h2,h4⟩:=F2_inv h
 cases dI_inv h1
 cases dI_inv h2
 simp only [Option.ite_none_right_eq_some,Option.some.injEq] at h4
 obtain ⟨⟨ha,hb⟩,rfl⟩:=h4
 refine ⟨by simp,fun w0 U0 L0 N0 => ?_⟩
 simp -implicitDefEqProofs [sc_s_l2Before,F_s_l2Size,before,ha,hb]
 refine ⟨fun h=>⟨fun h2 => ?_,fun h2=>⟨h,fun h3=>absurd h3 h2⟩⟩,fun h=>Or.inl h⟩
 simp [h2]
def sc_s_IsComplex_L2:SC:=(.seq (.seq (.reg [⟨some 40,none,.mov (.t 4)⟩,⟨some 41,none,.mov (.t 3)⟩,⟨some 42,none,.bin false .lss (.t 40) (.t 41)⟩]) (.cond (.t 42) .skip (.exit 2))) (.seq (.block 3 (.seq (.dreg [⟨⟨some 45,none,.fad 1 (.t 1)⟩,false,false⟩,⟨⟨some 46,none,.ld none .nil (.t 45)⟩,false,false⟩,⟨⟨some 47,none,.mov (.t 4)⟩,false,false⟩,⟨⟨some 48,none,.idx 1 (.t 46) (.t 47)⟩,false,false⟩,⟨⟨some 49,none,.ld none (.int .i64 0) (.t 48)⟩,false,false⟩,⟨⟨some 50,none,.fad 1 (.t 1)⟩,false,false⟩,⟨⟨some 51,none,.ld none .nil (.t 50)⟩,false,false⟩,⟨⟨some 52,none,.mov (.t 3)⟩,false,false⟩,⟨⟨some 53,none,.idx 1 (.t 51) (.t 52)⟩,false,false⟩,⟨⟨some 54,none,.ld none (.int .i64 0) (.t 53)⟩,false,false⟩,⟨⟨some 55,none,.bin false .and (.t 49) (.t 54)⟩,false,false⟩,⟨⟨some 56,none,.fad 1 (.t 1)⟩,false,false⟩,⟨⟨some 57,none,.ld none .nil (.t 56)⟩,false,false⟩,⟨⟨some 58,none,.mov (.t 4)⟩,false,false⟩,⟨⟨some 59,none,.idx 1 (.t 57) (.t 58)⟩,false,false⟩,⟨⟨some 60,none,.ld none (.int .i64 0) (.t 59)⟩,false,false⟩,⟨⟨some 61,none,.bin false .eql (.t 55) (.t 60)⟩,false,false⟩]) (.cond (.t 61) (.seq (.reg [⟨some 2,none,.mov (.c (.bool false))⟩]) .ret) .skip))) (.reg [⟨some 43,none,.mov (.t 4)⟩,⟨some 44,none,.bin false .add (.t 43) (.c (.int .i64 1))⟩,⟨some 4,none,.mov (.t 44)⟩])))
def sc_s_IsComplex_L0:SC:=(.seq (.seq (.reg [⟨some 5,none,.mov (.t 3)⟩,⟨some 6,none,.fad 1 (.t 1)⟩,⟨some 7,none,.ld none .nil (.t 6)⟩,⟨some 8,none,.len (.t 7)⟩,⟨some 9,none,.bin false .lss (.t 5) (.t 8)⟩]) (.cond (.t 9) .skip (.exit 0))) (.seq (.block 1 (.seq (.seq (.dreg [⟨⟨some 12,none,.fad 0 (.t 1)⟩,false,false⟩,⟨⟨some 13,none,.ld none (.int .i64 0) (.t 12)⟩,false,false⟩,⟨⟨some 14,none,.fad 1 (.t 1)⟩,false,false⟩,⟨⟨some 15,none,.ld none .nil (.t 14)⟩,false,false⟩,⟨⟨some 16,none,.mov (.t 3)⟩,false,false⟩,⟨⟨some 17,none,.idx 1 (.t 15) (.t 16)⟩,false,false⟩,⟨⟨some 18,none,.ld none (.int .i64 0) (.t 17)⟩,false,false⟩,⟨⟨some 19,none,.call 83 [.t 13,.t 18]⟩,false,false⟩,⟨⟨some 20,none,.un .not (.t 19)⟩,false,false⟩,⟨⟨some 21,none,.mov (.t 20)⟩,false,false⟩,⟨⟨some 22,some (21,false),.mov (.t 3)⟩,false,false⟩,⟨⟨some 23,some (21,false),.bin false .gtr (.t 22) (.c (.int .i64 0))⟩,false,false⟩,⟨⟨some 24,some (21,false),.mov (.t 23)⟩,false,false⟩,⟨⟨some 25,some (24,true),.fad 1 (.t 1)⟩,false,false⟩,⟨⟨some 26,some (24,true),.ld none .nil (.t 25)⟩,false,false⟩,⟨⟨some 27,some (24,true),.mov (.t 3)⟩,false,false⟩,⟨⟨some 28,some (24,true),.bin false .sub (.t 27) (.c (.int .i64 1))⟩,false,false⟩,⟨⟨some 29,some (24,true),.idx 1 (.t 26) (.t 28)⟩,false,false⟩,⟨⟨some 30,some (24,true),.ld none (.int .i64 0) (.t 29)⟩,false,false⟩,⟨⟨some 31,some (24,true),.fad 1 (.t 1)⟩,false,false⟩,⟨⟨some 32,some (24,true),.ld none .nil (.t 31)⟩,false,false⟩,⟨⟨some 33,some (24,true),.mov (.t 3)⟩,false,false⟩,⟨⟨some 34,some (24,true),.idx 1 (.t 32) (.t 33)⟩,false,false⟩,⟨⟨some 35,some (24,true),.ld none (.int .i64 0) (.t 34)⟩,false,false⟩,⟨⟨some 36,some (24,true),.call 84 [.t 30,.t 35]⟩,false,false⟩,⟨⟨some 37,some (24,true),.un .not (.t 36)⟩,false,false⟩,⟨⟨some 38,some (21,false),.pick (.t 24) (.t 37) (.c (.bool false))⟩,false,false⟩,⟨⟨some 39,none,.pick (.t 21) (.c (.bool true)) (.t 38)⟩,false,false⟩]) (.cond (.t 39) (.seq (.reg [⟨some 2,none,.mov (.c (.bool false))⟩]) .ret) .skip)) (.seq (.reg [⟨some 4,none,.mov (.c (.int .i64 0))⟩]) (.block 2 (.loop sc_s_IsComplex_L2))))) (.reg [⟨some 10,none,.mov (.t 3)⟩,⟨some 11,none,.bin false .add (.t 10) (.c (.int .i64 1))⟩,⟨some 3,none,.mov (.t 11)⟩])))
def sc_s_IsComplex:SC:=(.seq (.reg [⟨some 1,none,.box (.t 0)⟩,⟨some 2,none,.mov (.c (.bool false))⟩]) (.seq (.seq (.reg [⟨some 3,none,.mov (.c (.int .i64 0))⟩]) (.block 0 (.loop sc_s_IsComplex_L0))) (.seq (.reg [⟨some 62,none,.fad 0 (.t 1)⟩,⟨some 63,none,.ld none (.int .i64 0) (.t 62)⟩,⟨some 64,none,.call 39 [.t 63,(.c (.int .i64 1)),(.c (.int .i64 6))]⟩,⟨some 2,none,.mov (.t 64)⟩]) .ret)))
theorem code_s_IsComplex:fnCode Tryz.prog [] 44=some (65,sc_s_IsComplex,[(2,none)]):=by kernel_rfl
def facetOk (n:Int) (l:List Int) (k:Nat):Prop :=
 isSet n (at0 l k)=true∧(0<k→before (at0 l (k-1)) (at0 l k)=true)∧∀ i,i<k→bitop .and .i64 (at0 l i) (at0 l k)≠at0 l i
def cplx (n:Int) (l:List Int):Prop:=1≤n∧n≤6∧∀ k,k<l.length→facetOk n l k
open Classical in
noncomputable def cplxB (n:Int) (l:List Int):Bool:=decide (cplx n l)
theorem cplxB_iff {n:Int} {l:List Int}:cplxB n l=true↔cplx n l:=by simp [cplxB]
theorem cplxB_not {n:Int} {l:List Int} {k:Nat} (hk:k<l.length) (h:¬facetOk n l k):cplxB n l=false:=by
 simp only [cplxB,decide_eq_false_iff_not]
 exact fun hc=>h (hc.2.2 k hk)
noncomputable def F_s_IsComplex:List V→Option V:=F1 dC fun c=>some (.bool (cplxB c.1 c.2))
theorem fn_s_IsComplex:FnOk Tryz.prog 44 F_s_IsComplex:=by
 have env:=(((envNil_ok (P:=Tryz.prog)).add fn_s_l1In).add fn_s_l2Before).add fn_s_IsSet
 refine fn_ok code_s_IsComplex mixed env ?_
 intro args r h hb
 obtain ⟨_,⟨n,l⟩,rfl,h1,h4⟩:=F1_inv h
 cases dC_inv h1
 cases h4
 have hl:=bnd_eC (hb _ (List.mem_cons_self ..))
 simp only at hl
 generalize hv:cplxB n l=v
 refine ⟨by simp,fun w0 U0 L0 N0 => ?_⟩
 have inner:∀ (k:Nat) (Q:Post),k<l.length →
   ((∀ i,i<k→bitop .and .i64 (at0 l i) (at0 l k)≠at0 l i)→Q (.exit 2) [(1,.pt 0 0),(3,.int .i64 (k:Int))] ([(0,[.int .i64 n,.list 1 (ints l)])],1)) →
   ((¬∀ i,i<k→bitop .and .i64 (at0 l i) (at0 l k)≠at0 l i)→Q .ret [(2,.bool false)] ([(0,[.int .i64 n,.list 1 (ints l)])],1)) →
   LoopI ⟨Tryz.prog,w0,U0,L0,N0,0,65⟩ [] sc_s_IsComplex_L2 Q [(4,.int .i64 0),(1,.pt 0 0),(3,.int .i64 (k:Int))] ([(0,[.int .i64 n,.list 1 (ints l)])],1):=by
  intro k Q hk q1 q2
  refine loopQ env mixed (fun i:Nat=>[(4,.int .i64 (i:Int)),(1,.pt 0 0),(3,.int .i64 (k:Int))]) (fun _=>([(0,[.int .i64 n,.list 1 (ints l)])],1)) (fun i=>i≤k∧∀ j,j<i→bitop .and .i64 (at0 l j) (at0 l k)≠at0 l j) (fun i=>k-i) 0 (by simp) (SubI.slots rfl (by simp)) ?_
  rintro i ⟨hi,hn⟩
  simp -implicitDefEqProofs [sc_s_IsComplex_L2]
  have hsub:∀ (L:Tm) (h:Nat),i<k→bitop .and .i64 (at0 l i) (at0 l k)=at0 l i→subE L [(2,.bool false)]→SubQ 0 Q .ret L ([(0,[.int .i64 n,.list 1 (ints l)])],1) :=
   fun L _ h e hs=>SubQ.of (SubI.slots rfl hs) (q2 fun hf=>hf i h e)
  repeat' (first | omega | apply And.intro | intro _)
  ·exact hsub _ 0 ‹_› ‹_› (by simp)
  ·refine Again.of (i+1) ⟨by omega,fun j hj => ?_⟩ (by omega) (SubI.slots rfl (by simp (disch:=omega) [wrapI]))
   rcases Nat.lt_succ_iff_lt_or_eq.1 hj with h1 | rfl
   ·exact hn j h1
   ·assumption
  ·have:i=k:=by omega
   subst this
   exact SubQ.of (SubI.slots rfl (by simp)) (q1 hn)
 simp -implicitDefEqProofs [sc_s_IsComplex]
 refine loopI env mixed (fun k:Nat=>[(1,.pt 0 0),(3,.int .i64 (k:Int))]) (fun _=>([(0,[.int .i64 n,.list 1 (ints l)])],1)) (fun k=>k≤l.length∧∀ j,j<k→facetOk n l j) (fun k=>l.length-k) 0 (by simp) (SubI.slots rfl (by simp)) ?_
 rintro k ⟨hk,hn⟩
 have step:∀ (Q:Post) (L:Tm),k<l.length→isSet n (at0 l k)=true→(0<k→before (at0 l (k-1)) (at0 l k)=true)→subE L [(4,.int .i64 0),(1,.pt 0 0),(3,.int .i64 (k:Int))] →
   (facetOk n l k→Q (.exit 2) [(1,.pt 0 0),(3,.int .i64 (k:Int))] ([(0,[.int .i64 n,.list 1 (ints l)])],1))→(v=false→Q .ret [(2,.bool false)] ([(0,[.int .i64 n,.list 1 (ints l)])],1)) →
   LoopI ⟨Tryz.prog,w0,U0,L0,N0,0,65⟩ [] sc_s_IsComplex_L2 Q L ([(0,[.int .i64 n,.list 1 (ints l)])],1) :=
  fun Q L h1 h2 h3 hs q1 q2=>(inner k Q h1 (fun h=>q1 ⟨h2,h3,h⟩) (fun h=>q2 (hv ▸ cplxB_not h1 fun hf=>h hf.2.2))).sub (SubI.slots rfl hs)
 have again:facetOk n l k→k<l.length→((k+1:Nat)≤l.length∧∀ (j:Nat),j<k+1→facetOk n l j):=by
  intro hf h
  refine ⟨by omega,fun j hj => ?_⟩
  rcases Nat.lt_succ_iff_lt_or_eq.1 hj with h1 | rfl
  ·exact hn j h1
  ·exact hf
 by_cases hs:k<l.length∧isSet n (at0 l k)=true
 ·obtain ⟨hs1,hs2⟩:=hs
  have r1:at0 l k<9223372036854775808:=by have:=isSet_pos hs2; omega
  have r2:at0 l (IntKind.i64.wrap ((k:Int)-1)).toNat<9223372036854775808:=by
   rw [wrapI _ (by omega) (by omega)]
   rcases Nat.eq_zero_or_pos k with rfl | h0
   ·exact r1
   ·rw [show ((k:Int)-1).toNat=k-1 by omega]
    have:=isSet_pos (hn (k-1) (by omega)).1
    omega
  simp -implicitDefEqProofs [sc_s_IsComplex_L0,F_s_IsSet,F_s_l2Before,F_s_l1In,r1,r2,hs1,hs2]
  by_cases h0:0<k
  ·rw [wrapI _ (by omega) (by omega),show ((k:Int)-1).toNat=k-1 by omega]
   repeat' (first | omega | apply And.intro | intro _)
   ·exact hv ▸ cplxB_not hs1 fun hf=>by simp_all [hf.2.1 h0]
   ·refine step _ _ hs1 hs2 (fun _=>by assumption) (by simp) (fun hf => ?_) (fun e => ?_)
    ·simp -implicitDefEqProofs
     exact Again.of (k+1) (again hf hs1) (by omega) (SubI.slots rfl (by simp (disch:=omega) [wrapI]))
    ·simp [e]
  ·repeat' (first | omega | apply And.intro | intro _)
   refine step _ _ hs1 hs2 (fun h=>absurd h h0) (by simp) (fun hf => ?_) (fun e => ?_)
   ·simp -implicitDefEqProofs
    exact Again.of (k+1) (again hf hs1) (by omega) (SubI.slots rfl (by simp (disch:=omega) [wrapI]))
   ·simp [e]
 ·by_cases hs1:k<l.length
  ·have hs2:isSet n (at0 l k)=false:=by
    rw [← Bool.not_eq_true]
    exact fun h=>hs ⟨hs1,h⟩
   simp -implicitDefEqProofs [sc_s_IsComplex_L0,F_s_IsSet,F_s_l2Before,F_s_l1In,hs1,hs2]
   refine ⟨by omega,?_⟩
   exact hv ▸ cplxB_not hs1 fun hf=>by simp_all [hf.1]
  ·simp -implicitDefEqProofs [sc_s_IsComplex_L0,F_s_IsSet,F_s_l2Before,F_s_l1In,hs1]
   have:k=l.length:=by omega
   subst this
   rw [← hv,Bool.eq_iff_iff,cplxB_iff]
   constructor
   ·intro h
    simp only [Bool.and_eq_true,decide_eq_true_eq] at h
    exact ⟨h.1,h.2,hn⟩
   ·intro h
    simp [h.1,h.2.1]
def sc_math_bits_OnesCount64:SC:=(.seq (.reg [⟨some 2,none,.mov (.c (.int .i64 0))⟩]) (.seq (.reg [⟨some 3,none,.mov (.t 0)⟩,⟨some 4,none,.bin false .shr (.t 3) (.c (.int .u64 1))⟩,⟨some 5,none,.bin false .and (.t 4) (.c (.int .u64 6148914691236517205))⟩,⟨some 6,none,.mov (.t 0)⟩,⟨some 7,none,.bin false .and (.t 6) (.c (.int .u64 6148914691236517205))⟩,⟨some 8,none,.bin false .add (.t 5) (.t 7)⟩,⟨some 0,none,.mov (.t 8)⟩]) (.seq (.reg [⟨some 9,none,.mov (.t 0)⟩,⟨some 10,none,.bin false .shr (.t 9) (.c (.int .u64 2))⟩,⟨some 11,none,.bin false .and (.t 10) (.c (.int .u64 3689348814741910323))⟩,⟨some 12,none,.mov (.t 0)⟩,⟨some 13,none,.bin false .and (.t 12) (.c (.int .u64 3689348814741910323))⟩,⟨some 14,none,.bin false .add (.t 11) (.t 13)⟩,⟨some 0,none,.mov (.t 14)⟩]) (.seq (.reg [⟨some 15,none,.mov (.t 0)⟩,⟨some 16,none,.bin false .shr (.t 15) (.c (.int .u64 4))⟩,⟨some 17,none,.mov (.t 0)⟩,⟨some 18,none,.bin false .add (.t 16) (.t 17)⟩,⟨some 19,none,.bin false .and (.t 18) (.c (.int .u64 1085102592571150095))⟩,⟨some 0,none,.mov (.t 19)⟩]) (.seq (.reg [⟨some 20,none,.mov (.t 0)⟩,⟨some 21,none,.mov (.t 0)⟩,⟨some 22,none,.bin false .shr (.t 21) (.c (.int .u64 8))⟩,⟨some 23,none,.bin false .add (.t 20) (.t 22)⟩,⟨some 0,none,.mov (.t 23)⟩]) (.seq (.reg [⟨some 24,none,.mov (.t 0)⟩,⟨some 25,none,.mov (.t 0)⟩,⟨some 26,none,.bin false .shr (.t 25) (.c (.int .u64 16))⟩,⟨some 27,none,.bin false .add (.t 24) (.t 26)⟩,⟨some 0,none,.mov (.t 27)⟩]) (.seq (.reg [⟨some 28,none,.mov (.t 0)⟩,⟨some 29,none,.mov (.t 0)⟩,⟨some 30,none,.bin false .shr (.t 29) (.c (.int .u64 32))⟩,⟨some 31,none,.bin false .add (.t 28) (.t 30)⟩,⟨some 0,none,.mov (.t 31)⟩]) (.seq (.reg [⟨some 32,none,.mov (.t 0)⟩,⟨some 33,none,.conv .i64 (.t 32)⟩,⟨some 34,none,.bin false .and (.t 33) (.c (.int .i64 127))⟩,⟨some 2,none,.mov (.t 34)⟩]) .ret))))))))
theorem code_math_bits_OnesCount64:fnCode Tryz.prog [] 107=some (35,sc_math_bits_OnesCount64,[(2,none)]):=by kernel_rfl
def F_OnesCount64:List V→Option V
 | [.int .u64 n]=>if 0≤n∧n<64 then some (.int .i64 (sz n)) else none
 | _=>none
theorem fn_OnesCount64:FnOk Tryz.prog 107 F_OnesCount64:=by
 refine fn_ok code_math_bits_OnesCount64 mixed envNil_ok ?_
 intro args r h hb
 unfold F_OnesCount64 at h
 split at h
 ·rename_i n
  simp only [Option.ite_none_right_eq_some,Option.some.injEq] at h
  obtain ⟨⟨h1,h2⟩,rfl⟩:=h
  refine ⟨by simp,fun w0 U0 L0 N0 => ?_⟩
  simp -implicitDefEqProofs [sc_math_bits_OnesCount64]
  clear hb
  obtain ⟨m,rfl⟩:∃ m:Nat,n=m:=⟨n.toNat,by omega⟩
  have hm:m<64:=by omega
  clear h1 h2
  revert m
  decide +kernel
 ·simp at h
def sc_math_bits_OnesCount:SC:=(.seq (.reg [⟨some 2,none,.mov (.c (.int .i64 0))⟩]) (.seq (.cond (.c (.bool false)) (.seq (.reg [⟨some 3,none,.mov (.t 0)⟩,⟨some 4,none,.conv .u32 (.t 3)⟩,⟨some 5,none,.call 106 [.t 4]⟩,⟨some 2,none,.mov (.t 5)⟩]) .ret) .skip) (.seq (.reg [⟨some 6,none,.mov (.t 0)⟩,⟨some 7,none,.call 107 [.t 6]⟩,⟨some 2,none,.mov (.t 7)⟩]) .ret)))
theorem code_math_bits_OnesCount:fnCode Tryz.prog [] 95=some (8,sc_math_bits_OnesCount,[(2,none)]):=by kernel_rfl
theorem fn_OnesCount:FnOk Tryz.prog 95 F_OnesCount64:=by
 have env:=(envNil_ok (P:=Tryz.prog)).add fn_OnesCount64
 refine fn_ok code_math_bits_OnesCount mixed env ?_
 intro args r h hb
 unfold F_OnesCount64 at h
 split at h
 ·rename_i n
  simp only [Option.ite_none_right_eq_some,Option.some.injEq] at h
  obtain ⟨⟨h1,h2⟩,rfl⟩:=h
  refine ⟨by simp,fun w0 U0 L0 N0 => ?_⟩
  simp -implicitDefEqProofs [sc_math_bits_OnesCount,F_OnesCount64,h1,h2]
 ·simp at h
def sc_i_SizeOf:SC:=(.seq (.reg [⟨some 2,none,.mov (.c (.int .i64 0))⟩]) (.seq (.seq (.reg [⟨some 3,none,.mov (.t 0)⟩,⟨some 4,none,.call 93 [(.c (.int .i64 6)),.t 3]⟩,⟨some 5,none,.un .not (.t 4)⟩]) (.cond (.t 5) (.seq (.reg [⟨some 2,none,.mov (.c (.int .i64 (-1)))⟩]) .ret) .skip)) (.seq (.reg [⟨some 6,none,.mov (.t 0)⟩,⟨some 7,none,.conv .u64 (.t 6)⟩,⟨some 8,none,.call 95 [.t 7]⟩,⟨some 2,none,.mov (.t 8)⟩]) .ret)))
theorem code_i_SizeOf:fnCode Tryz.prog [] 69=some (9,sc_i_SizeOf,[(2,none)]):=by kernel_rfl
def sizeOf1 (s:Int):Int:=if 0≤s∧s<64 then sz s else -1
theorem sizeOf1_set {s:Int} (h1:0≤s) (h2:s<64):sizeOf1 s=sz s:=by simp [sizeOf1,h1,h2]
def F_i_SizeOf:List V→Option V:=F1 dI fun s=>some (.int .i64 (sizeOf1 s))
theorem fn_i_SizeOf:FnOk Tryz.prog 69 F_i_SizeOf:=by
 have env:=((envNil_ok (P:=Tryz.prog)).add fn_OnesCount).add fn_i_IsSet
 refine fn_ok code_i_SizeOf mixed env ?_
 intro args r h hb
 obtain ⟨_,s,rfl,h1,h4⟩:=F1_inv h
 cases dI_inv h1
 cases h4
 refine ⟨by simp,fun w0 U0 L0 N0 => ?_⟩
 by_cases hs:0≤s∧s<64
 ·have e:isSet 6 s=true:=by simp [isSet,hs.1,hs.2]
  have e2:IntKind.u64.wrap s=s:=wrapU s hs.1 (by omega)
  simp -implicitDefEqProofs [sc_i_SizeOf,F_i_IsSet,F_OnesCount64,e,e2,hs.1,hs.2,sizeOf1]
 ·have e:isSet 6 s=false:=by
   rw [← Bool.not_eq_true]
   exact fun h=>hs (isSet_pos h)
  simp -implicitDefEqProofs [sc_i_SizeOf,F_i_IsSet,F_OnesCount64,e,sizeOf1,hs]
def sc_i_BeforeSet:SC:=(.seq (.reg [⟨some 4,none,.mov (.c (.bool false))⟩]) (.seq (.seq (.reg [⟨some 5,none,.mov (.t 0)⟩,⟨some 6,none,.call 93 [(.c (.int .i64 6)),.t 5]⟩,⟨some 7,none,.un .not (.t 6)⟩,⟨some 8,none,.mov (.t 7)⟩,⟨some 9,some (8,false),.mov (.t 1)⟩,⟨some 10,some (8,false),.call 93 [(.c (.int .i64 6)),.t 9]⟩,⟨some 11,some (8,false),.un .not (.t 10)⟩,⟨some 12,none,.pick (.t 8) (.c (.bool true)) (.t 11)⟩]) (.cond (.t 12) (.seq (.reg [⟨some 4,none,.mov (.c (.bool false))⟩]) .ret) .skip)) (.seq (.seq (.reg [⟨some 13,none,.mov (.t 0)⟩,⟨some 14,none,.call 69 [.t 13]⟩,⟨some 15,none,.mov (.t 1)⟩,⟨some 16,none,.call 69 [.t 15]⟩,⟨some 17,none,.bin false .neq (.t 14) (.t 16)⟩]) (.cond (.t 17) (.seq (.reg [⟨some 18,none,.mov (.t 0)⟩,⟨some 19,none,.call 69 [.t 18]⟩,⟨some 20,none,.mov (.t 1)⟩,⟨some 21,none,.call 69 [.t 20]⟩,⟨some 22,none,.bin false .lss (.t 19) (.t 21)⟩,⟨some 4,none,.mov (.t 22)⟩]) .ret) .skip)) (.seq (.reg [⟨some 23,none,.mov (.t 0)⟩,⟨some 24,none,.mov (.t 1)⟩,⟨some 25,none,.bin false .lss (.t 23) (.t 24)⟩,⟨some 4,none,.mov (.t 25)⟩]) .ret))))
theorem code_i_BeforeSet:fnCode Tryz.prog [] 94=some (26,sc_i_BeforeSet,[(4,none)]):=by kernel_rfl
def F_i_BeforeSet:List V→Option V:=F2 dI dI fun a b=>some (.bool (isSet 6 a && isSet 6 b && before a b))
theorem fn_i_BeforeSet:FnOk Tryz.prog 94 F_i_BeforeSet:=by
 have env:=((envNil_ok (P:=Tryz.prog)).add fn_i_SizeOf).add fn_i_IsSet
 refine fn_ok code_i_BeforeSet mixed env ?_
 intro args r h hb
 obtain ⟨_,_,a,b,rfl,h1,h2,h4⟩:=F2_inv h
 cases dI_inv h1
 cases dI_inv h2
 cases h4
 refine ⟨by simp,fun w0 U0 L0 N0 => ?_⟩
 by_cases ha:isSet 6 a=true
 ·by_cases hc:isSet 6 b=true
  ·have e1:=sizeOf1_set (isSet_pos ha).1 (isSet_pos ha).2
   have e2:=sizeOf1_set (isSet_pos hc).1 (isSet_pos hc).2
   simp -implicitDefEqProofs [sc_i_BeforeSet,F_i_IsSet,F_i_SizeOf,ha,hc,e1,e2,before]
   refine ⟨fun h => ?_,fun h => ?_⟩
   ·simp [h]
   ·simp [h]
  ·simp only [Bool.not_eq_true] at hc
   simp -implicitDefEqProofs [sc_i_BeforeSet,F_i_IsSet,F_i_SizeOf,ha,hc]
 ·simp only [Bool.not_eq_true] at ha
  simp -implicitDefEqProofs [sc_i_BeforeSet,F_i_IsSet,F_i_SizeOf,ha]
def idxN:List Int→Int→Nat
 | [],_=>0
 | a::l,x=>if a=x then 0 else idxN l x+1
def idxOf (l:List Int) (x:Int):Int:=if x∈l then (idxN l x:Nat) else -1
def sc_i_isAntichain_L4:SC:=(.seq (.reg [⟨some 54,none,.bin false .lss (.t 53) (.t 52)⟩]) (.seq (.cond (.t 54) .skip (.exit 4)) (.seq (.block 5 (.seq (.reg [⟨some 55,none,.idx 1 (.t 51) (.t 53)⟩,⟨some 56,none,.ld none (.int .i64 0) (.t 55)⟩,⟨some 10,none,.mov (.t 56)⟩]) (.seq (.reg [⟨some 57,none,.mov (.t 8)⟩,⟨some 58,none,.mov (.t 10)⟩,⟨some 59,none,.bin false .andNot (.t 57) (.t 58)⟩,⟨some 60,none,.bin false .eql (.t 59) (.c (.int .i64 0))⟩]) (.cond (.t 60) (.seq (.reg [⟨some 4,none,.mov (.c (.bool false))⟩]) .ret) .skip)))) (.reg [⟨some 61,none,.bin false .add (.t 53) (.c (.int .i64 1))⟩,⟨some 53,none,.mov (.t 61)⟩]))))
def sc_i_isAntichain_L2:SC:=(.seq (.reg [⟨some 44,none,.bin false .lss (.t 43) (.t 42)⟩]) (.seq (.cond (.t 44) .skip (.exit 2)) (.seq (.block 3 (.seq (.reg [⟨some 45,none,.mov (.t 43)⟩,⟨some 46,none,.idx 1 (.t 41) (.t 43)⟩,⟨some 47,none,.ld none (.int .i64 0) (.t 46)⟩,⟨some 7,none,.mov (.t 45)⟩,⟨some 8,none,.mov (.t 47)⟩]) (.seq (.reg [⟨some 48,none,.mov (.t 1)⟩,⟨some 49,none,.mov (.t 7)⟩,⟨some 50,none,.bin false .add (.t 49) (.c (.int .i64 1))⟩,⟨some 51,none,.sli 1 (.t 48) (some (.t 50)) none none⟩,⟨some 52,none,.len (.t 51)⟩,⟨some 53,none,.mov (.c (.int .i64 0))⟩]) (.block 4 (.loop sc_i_isAntichain_L4))))) (.reg [⟨some 62,none,.bin false .add (.t 43) (.c (.int .i64 1))⟩,⟨some 43,none,.mov (.t 62)⟩]))))
def sc_i_isAntichain_L0:SC:=(.seq (.reg [⟨some 20,none,.bin false .lss (.t 19) (.t 18)⟩]) (.seq (.cond (.t 20) .skip (.exit 0)) (.seq (.block 1 (.seq (.reg [⟨some 21,none,.mov (.t 19)⟩,⟨some 22,none,.idx 1 (.t 17) (.t 19)⟩,⟨some 23,none,.ld none (.int .i64 0) (.t 22)⟩,⟨some 5,none,.mov (.t 21)⟩,⟨some 6,none,.mov (.t 23)⟩]) (.seq (.seq (.reg [⟨some 24,none,.mov (.t 0)⟩,⟨some 25,none,.mov (.t 6)⟩,⟨some 26,none,.call 93 [.t 24,.t 25]⟩,⟨some 27,none,.un .not (.t 26)⟩]) (.cond (.t 27) (.seq (.reg [⟨some 4,none,.mov (.c (.bool false))⟩]) .ret) .skip)) (.seq (.reg [⟨some 28,none,.mov (.t 5)⟩,⟨some 29,none,.bin false .gtr (.t 28) (.c (.int .i64 0))⟩,⟨some 30,none,.mov (.t 29)⟩,⟨some 31,some (30,true),.mov (.t 1)⟩,⟨some 32,some (30,true),.mov (.t 5)⟩,⟨some 33,some (30,true),.bin false .sub (.t 32) (.c (.int .i64 1))⟩,⟨some 34,some (30,true),.idx 1 (.t 31) (.t 33)⟩,⟨some 35,some (30,true),.ld none (.int .i64 0) (.t 34)⟩,⟨some 36,some (30,true),.mov (.t 6)⟩,⟨some 37,some (30,true),.call 94 [.t 35,.t 36]⟩,⟨some 38,some (30,true),.un .not (.t 37)⟩,⟨some 39,none,.pick (.t 30) (.t 38) (.c (.bool false))⟩]) (.cond (.t 39) (.seq (.reg [⟨some 4,none,.mov (.c (.bool false))⟩]) .ret) .skip))))) (.reg [⟨some 40,none,.bin false .add (.t 19) (.c (.int .i64 1))⟩,⟨some 19,none,.mov (.t 40)⟩]))))
def sc_i_isAntichain:SC:=(.seq (.reg [⟨some 4,none,.mov (.c (.bool false))⟩]) (.seq (.seq (.reg [⟨some 11,none,.mov (.t 0)⟩,⟨some 12,none,.bin false .lss (.t 11) (.c (.int .i64 1))⟩,⟨some 13,none,.mov (.t 12)⟩,⟨some 14,some (13,false),.mov (.t 0)⟩,⟨some 15,some (13,false),.bin false .gtr (.t 14) (.c (.int .i64 6))⟩,⟨some 16,none,.pick (.t 13) (.c (.bool true)) (.t 15)⟩]) (.cond (.t 16) (.seq (.reg [⟨some 4,none,.mov (.c (.bool false))⟩]) .ret) .skip)) (.seq (.seq (.reg [⟨some 17,none,.mov (.t 1)⟩,⟨some 18,none,.len (.t 17)⟩,⟨some 19,none,.mov (.c (.int .i64 0))⟩]) (.block 0 (.loop sc_i_isAntichain_L0))) (.seq (.seq (.reg [⟨some 41,none,.mov (.t 1)⟩,⟨some 42,none,.len (.t 41)⟩,⟨some 43,none,.mov (.c (.int .i64 0))⟩]) (.block 2 (.loop sc_i_isAntichain_L2))) (.seq (.reg [⟨some 4,none,.mov (.c (.bool true))⟩]) .ret)))))
theorem code_i_isAntichain:fnCode Tryz.prog [] 66=some (63,sc_i_isAntichain,[(4,none)]):=by kernel_rfl
theorem andNot_zero {a b:Int} (ha:0≤a∧a<64) (hb:0≤b∧b<64):bitop .andNot .i64 a b=0↔bitop .and .i64 a b=a:=by
 have key:∀ x,x<64→∀ y,y<64→(bitop .andNot .i64 ((x:Nat):Int) ((y:Nat):Int)=0↔bitop .and .i64 ((x:Nat):Int) ((y:Nat):Int)=(x:Int)):=by decide +kernel
 have:=key a.toNat (by omega) b.toNat (by omega)
 rwa [Int.toNat_of_nonneg ha.1,Int.toNat_of_nonneg hb.1] at this
theorem isSet_six {n s:Int} (h:isSet n s=true):isSet 6 s=true:=by
 have h2:=isSet_pos h
 simp [isSet,h2.1,h2.2]
def basicOk (n:Int) (l:List Int) (k:Nat):Prop:=isSet n (at0 l k)=true∧(0<k→before (at0 l (k-1)) (at0 l k)=true)
theorem cplx_of {n:Int} {l:List Int} (h1:1≤n) (h2:n≤6) (hb:∀ k,k<l.length→basicOk n l k) (ha:∀ i,i<l.length→∀ j,i<j→j<l.length→bitop .andNot .i64 (at0 l i) (at0 l j)≠0):cplxB n l=true:=by
 rw [cplxB_iff]
 refine ⟨h1,h2,fun k hk=>⟨(hb k hk).1,(hb k hk).2,fun i hi => ?_⟩⟩
 rw [Ne,← andNot_zero (isSet_pos (hb i (by omega)).1) (isSet_pos (hb k hk).1)]
 exact ha i (by omega) k hi hk
theorem cplx_not1 {n:Int} {l:List Int} {k:Nat} (hk:k<l.length) (h:¬basicOk n l k):cplxB n l=false:=cplxB_not hk fun hf=>h ⟨hf.1,hf.2.1⟩
theorem cplx_not2 {n:Int} {l:List Int} (hb:∀ k,k<l.length→basicOk n l k) {i j:Nat} (hi:i<j) (hj:j<l.length) (h:bitop .andNot .i64 (at0 l i) (at0 l j)=0):cplxB n l=false:=by
 refine cplxB_not hj fun hf=>hf.2.2 i hi ?_
 exact (andNot_zero (isSet_pos (hb i (by omega)).1) (isSet_pos (hb j hj).1)).1 h
noncomputable def F_i_isAntichain:List V→Option V:=F2 dI dL fun n l=>some (.bool (cplxB n l))
theorem fn_i_isAntichain : FnOk Tryz.prog 66 F_i_isAntichain := by
  have env := ((envNil_ok (P := Tryz.prog)).add fn_i_BeforeSet).add fn_i_IsSet
  refine fn_ok code_i_isAntichain mixed env ?_
  intro args r h hb
  obtain ⟨_, _, n, l, rfl, h1, h2, h4⟩ := F2_inv h
  cases dI_inv h1
  cases dL_inv h2
  cases h4
  have hl := bnd_ints (hb _ (List.mem_cons_of_mem _ (List.mem_cons_self ..)))
  refine ⟨by simp, fun w0 U0 L0 N0 => ?_⟩
  generalize hv : cplxB n l = v
  by_cases hn : 1 ≤ n ∧ n ≤ 6
  · have inner : ∀ (i : Nat) (Q : Post) (L : Tm), (∀ k, k < l.length → basicOk n l k) → i < l.length → subE L [(53, .int .i64 0), (52, .int .i64 ((l.length - (i + 1) : Nat) : Int)), (51, .list 1 (ints (l.drop (i + 1)))), (8, .int .i64 (at0 l i)), (1, .list 1 (ints l)), (41, .list 1 (ints l)), (42, .int .i64 l.length), (43, .int .i64 (i : Int))] →
        ((∀ j, i < j → j < l.length → bitop .andNot .i64 (at0 l i) (at0 l j) ≠ 0) → Q (.exit 4) [(1, .list 1 (ints l)), (41, .list 1 (ints l)), (42, .int .i64 l.length), (43, .int .i64 (i : Int))] ([], 0)) →
        (v = false → Q .ret [(4, .bool false)] ([], 0)) →
        LoopI ⟨Tryz.prog, w0, U0, L0, N0, 0, 63⟩ [] sc_i_isAntichain_L4 Q L ([], 0) := by
      intro i Q L hall hi hs q1 q2
      refine loopQ env mixed (fun j : Nat => [(53, .int .i64 (j : Int)), (52, .int .i64 ((l.length - (i + 1) : Nat) : Int)), (51, .list 1 (ints (l.drop (i + 1)))), (8, .int .i64 (at0 l i)), (1, .list 1 (ints l)), (41, .list 1 (ints l)), (42, .int .i64 l.length), (43, .int .i64 (i : Int))]) (fun _ => ([], 0))
        (fun j => j ≤ l.length - (i + 1) ∧ ∀ t, t < j → bitop .andNot .i64 (at0 l i) (at0 l (i + 1 + t)) ≠ 0) (fun j => l.length - (i + 1) - j) 0 (by simp) (SubI.slots rfl hs) ?_
      rintro j ⟨hj, hnot⟩
      simp -implicitDefEqProofs [sc_i_isAntichain_L4]
      repeat' (first | omega | apply And.intro | intro _)
      · refine SubQ.of (SubI.slots rfl (by simp)) (q2 ?_)
        exact hv ▸ cplx_not2 hall (i := i) (j := i + 1 + j) (by omega) (by omega) (by assumption)
      · refine Again.of (j + 1) ⟨by omega, fun t ht => ?_⟩ (by omega) (SubI.slots rfl (by simp (disch := omega) [wrapI]))
        rcases Nat.lt_succ_iff_lt_or_eq.1 ht with h1 | rfl
        · exact hnot t h1
        · assumption
      · refine SubQ.of (SubI.slots rfl (by simp)) (q1 fun t h1 h2 => ?_)
        have := hnot (t - (i + 1)) (by omega)
        rwa [show i + 1 + (t - (i + 1)) = t by omega] at this
    have second : ∀ (Q : Post) (L : Tm), (∀ k, k < l.length → basicOk n l k) → subE L [(1, .list 1 (ints l)), (41, .list 1 (ints l)), (42, .int .i64 l.length), (43, .int .i64 0)] → (v = true → Q (.exit 2) [] ([], 0)) → (v = false → Q .ret [(4, .bool false)] ([], 0)) →
        LoopI ⟨Tryz.prog, w0, U0, L0, N0, 0, 63⟩ [] sc_i_isAntichain_L2 Q L ([], 0) := by
      intro Q L hall hs q1 q2
      refine loopQ env mixed (fun i : Nat => [(1, .list 1 (ints l)), (41, .list 1 (ints l)), (42, .int .i64 l.length), (43, .int .i64 (i : Int))]) (fun _ => ([], 0))
        (fun i => i ≤ l.length ∧ ∀ t, t < i → ∀ j, t < j → j < l.length → bitop .andNot .i64 (at0 l t) (at0 l j) ≠ 0) (fun i => l.length - i) 0 (by simp) (SubI.slots rfl hs) ?_
      rintro i ⟨hi, hnot⟩
      by_cases hlt : i < l.length
      · have hw : IntKind.i64.wrap ((i : Int) + 1) = ((i + 1 : Nat) : Int) := by rw [wrapI _ (by omega) (by omega)]; omega
        simp -implicitDefEqProofs [sc_i_isAntichain_L2, hlt, hw]
        have e1 : ((l.length : Int) - ((i : Int) + 1)).toNat = l.length - (i + 1) := by omega
        repeat' (first | omega | apply And.intro | intro _)
        refine inner i _ _ hall hlt (by simp [e1, List.take_of_length_le]) (fun hq => ?_) (fun hq => ?_)
        · simp -implicitDefEqProofs
          refine Again.of (i + 1) ⟨by omega, fun t ht => ?_⟩ (by omega) (SubI.slots rfl (by simp (disch := omega) [wrapI]))
          rcases Nat.lt_succ_iff_lt_or_eq.1 ht with h1 | rfl
          · exact hnot t h1
          · exact hq
        · simp -implicitDefEqProofs
          exact SubQ.of (SubI.slots rfl (by simp)) (q2 hq)
      · simp -implicitDefEqProofs [sc_i_isAntichain_L2, hlt]
        exact SubQ.of (SubI.slots rfl (by simp)) (q1 (hv ▸ cplx_of hn.1 hn.2 hall fun t h1 => hnot t (by omega)))
    simp -implicitDefEqProofs [sc_i_isAntichain, hn.1, hn.2, show ¬ n < 1 by omega, show ¬ 6 < n by omega]
    refine loopI env mixed (fun k : Nat => [(0, .int .i64 n), (1, .list 1 (ints l)), (17, .list 1 (ints l)), (18, .int .i64 l.length), (19, .int .i64 (k : Int))]) (fun _ => ([], 0))
        (fun k => k ≤ l.length ∧ ∀ t, t < k → basicOk n l t) (fun k => l.length - k) 0 (by simp) (SubI.slots rfl (by simp)) ?_
    rintro k ⟨hk, hall⟩
    by_cases hlt : k < l.length
    · by_cases hs : isSet n (at0 l k) = true
      · have hs6 := isSet_six hs
        by_cases h0 : 0 < k
        · have hp := isSet_six (hall (k - 1) (by omega)).1
          have hw : (IntKind.i64.wrap ((k : Int) - 1)) = ((k - 1 : Nat) : Int) := by rw [wrapI _ (by omega) (by omega)]; omega
          by_cases hbf : before (at0 l (k - 1)) (at0 l k) = true
          · simp -implicitDefEqProofs [sc_i_isAntichain_L0, F_i_IsSet, F_i_BeforeSet, hlt, hs, hs6, h0, hw, hp, hbf]
            repeat' (first | omega | apply And.intro | intro _)
            refine Again.of (k + 1) ⟨by omega, fun t ht => ?_⟩ (by omega) (SubI.slots rfl (by simp (disch := omega) [wrapI]))
            rcases Nat.lt_succ_iff_lt_or_eq.1 ht with h1 | rfl
            · exact hall t h1
            · exact ⟨hs, fun _ => hbf⟩
          · have hf : v = false := hv ▸ cplx_not1 hlt fun hf => hbf (hf.2 h0)
            simp only [Bool.not_eq_true] at hbf
            simp -implicitDefEqProofs [sc_i_isAntichain_L0, F_i_IsSet, F_i_BeforeSet, hlt, hs, hs6, h0, hw, hp, hbf, hf]
            omega
        · simp -implicitDefEqProofs [sc_i_isAntichain_L0, F_i_IsSet, F_i_BeforeSet, hlt, hs, hs6, h0]
          repeat' (first | omega | apply And.intro | intro _)
          refine Again.of (k + 1) ⟨by omega, fun t ht => ?_⟩ (by omega) (SubI.slots rfl (by simp (disch := omega) [wrapI]))
          rcases Nat.lt_succ_iff_lt_or_eq.1 ht with h1 | rfl
          · exact hall t h1
          · exact ⟨hs, fun h => absurd h h0⟩
      · have hf : v = false := hv ▸ cplx_not1 hlt fun hf => hs hf.1
        simp only [Bool.not_eq_true] at hs
        simp -implicitDefEqProofs [sc_i_isAntichain_L0, F_i_IsSet, F_i_BeforeSet, hlt, hs, hf]
        omega
    · simp -implicitDefEqProofs [sc_i_isAntichain_L0, hlt]
      refine second _ _ (fun t ht => hall t (by omega)) (by simp) (fun e => ?_) (fun e => ?_)
      · simp -implicitDefEqProofs [e]
      · simp -implicitDefEqProofs [e]
  · have hf : v = false := by
      rw [← hv, ← Bool.not_eq_true, cplxB_iff]
      exact fun h => hn ⟨h.1, h.2.1⟩
    by_cases h1 : n < 1
    · simp -implicitDefEqProofs [sc_i_isAntichain, hf, h1]
    · simp -implicitDefEqProofs [sc_i_isAntichain, hf, h1, show 6 < n by omega]
def sc_i_IsComplex:SC:=(.seq (.reg [⟨some 1,none,.box (.t 0)⟩,⟨some 2,none,.mov (.c (.bool false))⟩]) (.seq (.reg [⟨some 3,none,.fad 0 (.t 1)⟩,⟨some 4,none,.ld none (.int .i64 0) (.t 3)⟩,⟨some 5,none,.fad 1 (.t 1)⟩,⟨some 6,none,.ld none .nil (.t 5)⟩,⟨some 7,none,.call 66 [.t 4,.t 6]⟩,⟨some 2,none,.mov (.t 7)⟩]) .ret))
theorem code_i_IsComplex:fnCode Tryz.prog [] 33=some (8,sc_i_IsComplex,[(2,none)]):=by kernel_rfl
theorem fn_i_IsComplex:FnOk Tryz.prog 33 F_s_IsComplex:=by
 have env:=(envNil_ok (P:=Tryz.prog)).add fn_i_isAntichain
 refine fn_ok code_i_IsComplex mixed env ?_
 intro args r h hb
 obtain ⟨_,⟨n,l⟩,rfl,h1,h4⟩:=F1_inv h
 cases dC_inv h1
 cases h4
 refine ⟨by simp,fun w0 U0 L0 N0 => ?_⟩
 simp -implicitDefEqProofs [sc_i_IsComplex,F_i_isAntichain]
theorem sub_len {l:List Int}:∀ {m:List Int},l.Nodup→(∀ x∈l,x∈m)→l.length≤m.length:=by
 induction l with
 | nil=>intro m _ _; simp
 | cons a l ih =>
  intro m hn hs
  rw [List.nodup_cons] at hn
  have ha:a∈m:=hs a (by simp)
  have:=ih (m:=m.erase a) hn.2 fun x hx=>(List.mem_erase_of_ne fun e=>hn.1 (by rw [← e]; exact hx)).2 (hs x (by simp [hx]))
  rw [List.length_erase_of_mem ha] at this
  have:0<m.length:=List.length_pos_of_mem ha
  simp only [List.length_cons]
  omega
end Go.Proofs.YtkoljbncokmeaaaGreatDoor
