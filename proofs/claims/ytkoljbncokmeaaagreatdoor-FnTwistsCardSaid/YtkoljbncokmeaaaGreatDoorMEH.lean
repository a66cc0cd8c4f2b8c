import Derived.Test.YtkoljbncokmeaaaGreatDoorMEG
import Derived.Test.YtkoljbncokmeaaaGreatDoorMED
import Derived.Test.YtkoljbncokmeaaaGreatDoorMEC
namespace Go.Proofs.YtkoljbncokmeaaaGreatDoor
open Go Go.RowKit
set_option maxRecDepth 1000000
set_option linter.unusedSimpArgs false
set_option linter.unusedVariables false
set_option maxHeartbeats 1000000
def ent (M:List (List Int)) (i j:Nat):Int:=at0 (atR M i) j
def rect (w:Nat) (M:List (List Int)):Prop:=∀ i,i<M.length→(atR M i).length=w
noncomputable def wdM (M:List (List Int)):Nat:=(atR M 0).length
def bdE (B:Int) (n w:Nat) (f:Nat→Nat→Int):Prop:=∀ i j,i<n→j<w → -B≤f i j∧f i j≤B
def matF (n w:Nat) (f:Nat→Nat→Int):List (List Int):=(List.range n).map fun i=>rowF w (f i)
@[simp] theorem matF_len (n w:Nat) (f:Nat→Nat→Int):(matF n w f).length=n:=by simp [matF]
theorem matF_at {n w i:Nat} {f:Nat→Nat→Int} (h:i<n):atR (matF n w f) i=rowF w (f i):=by
 simp [matF,atR,h]
theorem matF_ent {n w i j:Nat} {f:Nat→Nat→Int} (h:i<n) (hj:j<w):ent (matF n w f) i j=f i j:=by
 unfold ent
 rw [matF_at h,rowF_at hj]
theorem matF_congr {n w:Nat} {f g:Nat→Nat→Int} (h:∀ i j,i<n→j<w→f i j=g i j):matF n w f=matF n w g:=by
 unfold matF
 refine List.map_congr_left fun i hi=>rowF_congr fun j hj=>h i j (List.mem_range.1 hi) hj
theorem matF_self {w:Nat} {M:List (List Int)} (h:rect w M):matF M.length w (ent M)=M:=atR_ext (by simp) fun k hk=>by
 rw [matF_len] at hk
 rw [matF_at hk]
 have:=rowF_self (atR M k)
 rw [h k hk] at this
 exact this
theorem matF_set {n w i:Nat} {f:Nat→Nat→Int} (g:Nat→Int) (h:i<n):(matF n w f).set i (rowF w g)=matF n w (fun a=>if a=i then g else f a):=atR_ext (by simp) fun k hk=>by
 simp only [List.length_set,matF_len] at hk
 rw [atR_set,matF_at hk,matF_at hk,matF_len]
 by_cases e:i=k
 ·rw [if_pos ⟨e,by omega⟩,if_pos e.symm]
 ·rw [if_neg (fun h=>e h.1),if_neg (fun h=>e h.symm)]
theorem rect_matF (n w:Nat) (f:Nat→Nat→Int):rect w (matF n w f):=fun i hi=>by
 rw [matF_len] at hi
 rw [matF_at hi,rowF_len]
theorem rect_wd {w:Nat} {M:List (List Int)} (h:rect w M) (h0:0<M.length):wdM M=w:=h 0 h0
theorem wd_matF {n w:Nat} {f:Nat→Nat→Int} (h:0<n):wdM (matF n w f)=w:=rect_wd (rect_matF n w f) (by simpa using h)
open Classical in
noncomputable def lsS (f:Nat→Nat→Int) (i j:Nat) (st:Int×Int):Int×Int:=if f i j≠0∧(st.1<0∨(f i j).natAbs<(f st.1.toNat st.2.toNat).natAbs) then ((i:Int),(j:Int)) else st
noncomputable def lsJ (f:Nat→Nat→Int) (i k:Nat) (st:Int×Int):Nat→Int×Int
 | 0=>st
 | n+1=>lsS f i (k+n) (lsJ f i k st n)
noncomputable def lsI (f:Nat→Nat→Int) (w k:Nat) (st:Int×Int):Nat→Int×Int
 | 0=>st
 | n+1=>lsJ f (k+n) k (lsI f w k st n) (w-k)
noncomputable def lsZ (f:Nat→Nat→Int) (n w k:Nat):Int×Int:=lsI f w k (-1,-1) (n-k)
def lsP (f:Nat→Nat→Int) (n w:Nat) (st:Int×Int):Prop:=st=(-1,-1)∨(0≤st.1∧st.1<n∧0≤st.2∧st.2<w∧f st.1.toNat st.2.toNat≠0)
theorem lsS_P {f:Nat→Nat→Int} {n w i j:Nat} {st:Int×Int} (hi:i<n) (hj:j<w) (h:lsP f n w st):lsP f n w (lsS f i j st):=by
 unfold lsS
 split
 ·rename_i h1
  exact .inr ⟨by simp only; omega,by simp only; omega,by simp only; omega,by simp only; omega,by simpa using h1.1⟩
 ·exact h
theorem lsJ_P {f:Nat→Nat→Int} {n w i k:Nat} {st:Int×Int} (hi:i<n) (h:lsP f n w st):∀ u,k+u≤w∨u=0→lsP f n w (lsJ f i k st u)
 | 0,_=>h
 | u+1,hu=>by
  unfold lsJ
  exact lsS_P hi (by omega) (lsJ_P hi h u (by omega))
theorem lsI_P {f:Nat→Nat→Int} {n w k:Nat} {st:Int×Int} (h:lsP f n w st):∀ t,k+t≤n∨t=0→lsP f n w (lsI f w k st t)
 | 0,_=>h
 | t+1,ht=>by
  unfold lsI
  exact lsJ_P (by omega) (lsI_P h t (by omega)) _ (by omega)
theorem rowsL_dR {a:List (List Int)} {k:Nat} (h:k<a.length) (v:V):(rowsL (a.drop k))[0]?.getD v = .list 1 (ints (atR a k)):=by
 rw [← rowsL_drop,List.getElem?_drop,Nat.add_zero,rowsL,List.getElem?_map,List.getElem?_eq_getElem h]
 simp [atR,h]
theorem lsJ_succ {f:Nat→Nat→Int} {i k j:Nat} {st:Int×Int} (h:k≤j):lsJ f i k st (j+1-k)=lsS f i j (lsJ f i k st (j-k)):=by
 obtain ⟨u,rfl⟩:∃ u,j=k+u:=⟨j-k,by omega⟩
 rw [show k+u+1-k=u+1 by omega,show k+u-k=u by omega]
 rfl
theorem lsI_succ {f:Nat→Nat→Int} {w k i:Nat} {st:Int×Int} (h:k≤i):lsI f w k st (i+1-k)=lsJ f i k (lsI f w k st (i-k)) (w-k):=by
 obtain ⟨u,rfl⟩:∃ u,i=k+u:=⟨i-k,by omega⟩
 rw [show k+u+1-k=u+1 by omega,show k+u-k=u by omega]
 rfl
def sc_s_l1Max:SC:=(.seq (.reg [⟨some 4,none,.mov (.c (.int .i64 0))⟩]) (.seq (.seq (.reg [⟨some 5,none,.mov (.t 0)⟩,⟨some 6,none,.mov (.t 1)⟩,⟨some 7,none,.bin false .gtr (.t 5) (.t 6)⟩]) (.cond (.t 7) (.seq (.reg [⟨some 8,none,.mov (.t 0)⟩,⟨some 4,none,.mov (.t 8)⟩]) .ret) .skip)) (.seq (.reg [⟨some 9,none,.mov (.t 1)⟩,⟨some 4,none,.mov (.t 9)⟩]) .ret)))
theorem code_s_l1Max:fnCode Tryz.prog [] 97=some (10,sc_s_l1Max,[(4,none)]):=by kernel_rfl
noncomputable def F_s_l1Max:List V→Option V:=F2 dI dI fun a b=>some (.int .i64 (max a b))
theorem fn_s_l1Max:FnOk Tryz.prog 97 F_s_l1Max:=by
 refine fn_ok code_s_l1Max mixed envNil_ok ?_
 intro args r h hb
 obtain ⟨_,_,a,b,rfl,h1,h2,h4⟩:=F2_inv h
 cases dI_inv h1
 cases dI_inv h2
 cases h4
 clear h
 refine ⟨by simp,fun w0 U0 L0 N0 => ?_⟩
 clear hb
 by_cases hl:b<a
 ·rw [show max a b=a by omega]
  simp -implicitDefEqProofs [sc_s_l1Max,hl]
 ·rw [show max a b=b by omega]
  simp -implicitDefEqProofs [sc_s_l1Max,hl]
def sc_s_l15Abs:SC:=(.seq (.reg [⟨some 2,none,.mov (.c (.int .i64 0))⟩]) (.seq (.reg [⟨some 3,none,.mov (.t 0)⟩,⟨some 4,none,.mov (.t 0)⟩,⟨some 5,none,.un .neg (.t 4)⟩,⟨some 6,none,.call 97 [.t 3,.t 5]⟩,⟨some 2,none,.mov (.t 6)⟩]) .ret))
theorem code_s_l15Abs:fnCode Tryz.prog [] 75=some (7,sc_s_l15Abs,[(2,none)]):=by kernel_rfl
noncomputable def F_s_l15Abs:List V→Option V:=F1 dI fun a => @ite _ (-9223372036854775807≤a∧a≤9223372036854775807) (Classical.propDecidable _) (some (.int .i64 (a.natAbs:Nat))) none
theorem fn_s_l15Abs:FnOk Tryz.prog 75 F_s_l15Abs:=by
 have env:=(envNil_ok (P:=Tryz.prog)).add fn_s_l1Max
 refine fn_ok code_s_l15Abs mixed env ?_
 intro args r h hb
 obtain ⟨_,a,rfl,h1,h4⟩:=F1_inv h
 cases dI_inv h1
 simp only [Option.ite_none_right_eq_some,Option.some.injEq] at h4
 obtain ⟨⟨ha,hb2⟩,rfl⟩:=h4
 clear h
 refine ⟨by simp,fun w0 U0 L0 N0 => ?_⟩
 clear hb
 have hw:IntKind.i64.wrap (-a) = -a:=wrapI _ (by omega) (by omega)
 have hF:F_s_l1Max [.int .i64 a,.int .i64 (-a)]=some (.int .i64 ((a.natAbs:Nat):Int)):=by
  simp only [F_s_l1Max,F2_mk,dI_int,Option.bind_some]
  rw [show max a (-a)=(a.natAbs:Int) by omega]
 generalize ((a.natAbs:Nat):Int)=v at *
 simp -implicitDefEqProofs [sc_s_l15Abs,hw,hF]
def sc_s_l15Least_L2:SC:=(.seq (.seq (.reg [⟨some 18,none,.mov (.t 9)⟩,⟨some 19,none,.mov (.t 0)⟩,⟨some 20,none,.mov (.t 8)⟩,⟨some 21,none,.idx 1 (.t 19) (.t 20)⟩,⟨some 22,none,.ld none .nil (.t 21)⟩,⟨some 23,none,.len (.t 22)⟩,⟨some 24,none,.bin false .lss (.t 18) (.t 23)⟩]) (.cond (.t 24) .skip (.exit 2))) (.seq (.block 3 (.seq (.dreg [⟨⟨some 27,none,.mov (.t 0)⟩,false,false⟩,⟨⟨some 28,none,.mov (.t 8)⟩,false,false⟩,⟨⟨some 29,none,.idx 1 (.t 27) (.t 28)⟩,false,false⟩,⟨⟨some 30,none,.ld none .nil (.t 29)⟩,false,false⟩,⟨⟨some 31,none,.mov (.t 9)⟩,false,false⟩,⟨⟨some 32,none,.idx 1 (.t 30) (.t 31)⟩,false,false⟩,⟨⟨some 33,none,.ld none (.int .i64 0) (.t 32)⟩,false,false⟩,⟨⟨some 34,none,.bin false .neq (.t 33) (.c (.int .i64 0))⟩,false,false⟩,⟨⟨some 35,none,.mov (.t 34)⟩,false,false⟩,⟨⟨some 36,some (35,true),.mov (.t 6)⟩,false,false⟩,⟨⟨some 37,some (35,true),.bin false .lss (.t 36) (.c (.int .i64 0))⟩,false,false⟩,⟨⟨some 38,some (35,true),.mov (.t 37)⟩,false,false⟩,⟨⟨some 39,some (38,false),.mov (.t 0)⟩,false,false⟩,⟨⟨some 40,some (38,false),.mov (.t 8)⟩,false,false⟩,⟨⟨some 41,some (38,false),.idx 1 (.t 39) (.t 40)⟩,false,false⟩,⟨⟨some 42,some (38,false),.ld none .nil (.t 41)⟩,false,false⟩,⟨⟨some 43,some (38,false),.mov (.t 9)⟩,false,false⟩,⟨⟨some 44,some (38,false),.idx 1 (.t 42) (.t 43)⟩,false,false⟩,⟨⟨some 45,some (38,false),.ld none (.int .i64 0) (.t 44)⟩,false,false⟩,⟨⟨some 46,some (38,false),.call 75 [.t 45]⟩,false,false⟩,⟨⟨some 47,some (38,false),.mov (.t 0)⟩,false,false⟩,⟨⟨some 48,some (38,false),.mov (.t 6)⟩,false,false⟩,⟨⟨some 49,some (38,false),.idx 1 (.t 47) (.t 48)⟩,false,false⟩,⟨⟨some 50,some (38,false),.ld none .nil (.t 49)⟩,false,false⟩,⟨⟨some 51,some (38,false),.mov (.t 7)⟩,false,false⟩,⟨⟨some 52,some (38,false),.idx 1 (.t 50) (.t 51)⟩,false,false⟩,⟨⟨some 53,some (38,false),.ld none (.int .i64 0) (.t 52)⟩,false,false⟩,⟨⟨some 54,some (38,false),.call 75 [.t 53]⟩,false,false⟩,⟨⟨some 55,some (38,false),.bin false .lss (.t 46) (.t 54)⟩,false,false⟩,⟨⟨some 56,some (35,true),.pick (.t 38) (.c (.bool true)) (.t 55)⟩,false,false⟩,⟨⟨some 57,none,.pick (.t 35) (.t 56) (.c (.bool false))⟩,false,false⟩]) (.cond (.t 57) (.seq (.reg [⟨some 58,none,.mov (.t 8)⟩,⟨some 6,none,.mov (.t 58)⟩]) (.reg [⟨some 59,none,.mov (.t 9)⟩,⟨some 7,none,.mov (.t 59)⟩])) .skip))) (.reg [⟨some 25,none,.mov (.t 9)⟩,⟨some 26,none,.bin false .add (.t 25) (.c (.int .i64 1))⟩,⟨some 9,none,.mov (.t 26)⟩])))
def sc_s_l15Least_L0:SC:=(.seq (.seq (.reg [⟨some 11,none,.mov (.t 8)⟩,⟨some 12,none,.mov (.t 0)⟩,⟨some 13,none,.len (.t 12)⟩,⟨some 14,none,.bin false .lss (.t 11) (.t 13)⟩]) (.cond (.t 14) .skip (.exit 0))) (.seq (.block 1 (.seq (.reg [⟨some 17,none,.mov (.t 1)⟩,⟨some 9,none,.mov (.t 17)⟩]) (.block 2 (.loop sc_s_l15Least_L2)))) (.reg [⟨some 15,none,.mov (.t 8)⟩,⟨some 16,none,.bin false .add (.t 15) (.c (.int .i64 1))⟩,⟨some 8,none,.mov (.t 16)⟩])))
def sc_s_l15Least:SC:=(.seq (.reg [⟨some 4,none,.mov (.c (.int .i64 0))⟩,⟨some 5,none,.mov (.c (.int .i64 0))⟩]) (.seq (.reg [⟨some 6,none,.mov (.c (.int .i64 (-1)))⟩]) (.seq (.reg [⟨some 7,none,.mov (.c (.int .i64 (-1)))⟩]) (.seq (.seq (.reg [⟨some 10,none,.mov (.t 1)⟩,⟨some 8,none,.mov (.t 10)⟩]) (.block 0 (.loop sc_s_l15Least_L0))) (.seq (.reg [⟨some 60,none,.mov (.t 6)⟩,⟨some 61,none,.mov (.t 7)⟩,⟨some 4,none,.mov (.t 60)⟩,⟨some 5,none,.mov (.t 61)⟩]) .ret)))))
theorem code_s_l15Least:fnCode Tryz.prog [] 76=some (62,sc_s_l15Least,[(4,none),(5,none)]):=by kernel_rfl
noncomputable def lowB (M:List (List Int)):Prop:=rect (wdM M) M∧bdE 4611686018427387904 M.length (wdM M) (ent M)∧M.length≤64∧wdM M≤64
noncomputable def F_s_l15Least:List V→Option V:=F2 dLL dI fun M k => @ite _ (lowB M∧0≤k∧k≤64) (Classical.propDecidable _) (some (.tup [.int .i64 (lsZ (ent M) M.length (wdM M) k.toNat).1,.int .i64 (lsZ (ent M) M.length (wdM M) k.toNat).2])) none
theorem fn_s_l15Least:FnOk Tryz.prog 76 F_s_l15Least:=by
 have env:=(envNil_ok (P:=Tryz.prog)).add fn_s_l15Abs
 refine fn_ok code_s_l15Least mixed env ?_
 intro args r h hb
 obtain ⟨_,_,M,k,rfl,h1,h2,h4⟩:=F2_inv h
 cases dLL_inv h1
 cases dI_inv h2
 simp only [Option.ite_none_right_eq_some,Option.some.injEq] at h4
 obtain ⟨⟨⟨hr,hbd,hn,hw⟩,hk0,hk1⟩,rfl⟩:=h4
 clear h
 obtain ⟨k,rfl⟩:∃ q:Nat,k=q:=⟨k.toNat,by omega⟩
 rw [Int.toNat_natCast]
 refine ⟨by simp,fun w0 U0 L0 N0 => ?_⟩
 clear hb
 generalize wdM M=w at *
 unfold lsZ
 have hP:=fun t h=>lsI_P (f:=ent M) (n:=M.length) (w:=w) (k:=k) (.inl rfl:lsP (ent M) M.length w (-1,-1)) t h
 have inner:∀ (i:Nat) (st:Int×Int) (Q:Post) (T0:Tm),i<M.length→lsP (ent M) M.length w st→subE T0 [(0,.list 1 (rowsL M)),(1,.int .i64 (k:Int)),(6,.int .i64 st.1),(7,.int .i64 st.2),(8,.int .i64 (i:Int)),(9,.int .i64 (k:Int))] →
   Q (.exit 2) [(0,.list 1 (rowsL M)),(1,.int .i64 (k:Int)),(6,.int .i64 (lsJ (ent M) i k st (w-k)).1),(7,.int .i64 (lsJ (ent M) i k st (w-k)).2),(8,.int .i64 (i:Int))] ([],0) →
   LoopI ⟨Tryz.prog,w0,U0,L0,N0,0,62⟩ [] sc_s_l15Least_L2 Q T0 ([],0):=by
  intro i st Q T0 hi hst hsub q1
  have hri:=hr i hi
  refine loopQ env mixed (fun j:Nat=>[(0,.list 1 (rowsL M)),(1,.int .i64 (k:Int)),(6,.int .i64 (lsJ (ent M) i k st (j-k)).1),(7,.int .i64 (lsJ (ent M) i k st (j-k)).2),(8,.int .i64 (i:Int)),(9,.int .i64 (j:Int))]) (fun _=>([],0)) (fun j=>k≤j∧(j≤w∨j=k)) (fun j=>w-j) k ⟨Nat.le_refl k,.inr rfl⟩ (SubI.slots rfl (by simpa [lsJ] using hsub)) ?_
  rintro j ⟨hkj,hu⟩
  have hst2:=lsJ_P (k:=k) hi hst (j-k) (by omega)
  by_cases hlt:j<w
  ·have hstep:=lsJ_succ (f:=ent M) (i:=i) (st:=st) hkj
   generalize lsJ (ent M) i k st (j-k)=s at *
   have hA:∀ a b,a<M.length→b<w→F_s_l15Abs [.int .i64 (at0 (atR M a) b)]=some (.int .i64 ((ent M a b).natAbs:Nat)):=fun a b ha hb=>by
    have:=hbd a b ha hb
    unfold ent at this
    simp only [F_s_l15Abs,F1_mk,dI_int,Option.bind_some]
    rw [if_pos ⟨by omega,by omega⟩]
    rfl
   have hA1:=hA i j hi hlt
   obtain ⟨sr,sc⟩:=s
   by_cases hz:at0 (atR M i) j=0
   ·have hk:lsS (ent M) i j (sr,sc)=(sr,sc):=by unfold lsS; rw [if_neg fun h=>h.1 hz]
    rw [hk] at hstep
    simp -implicitDefEqProofs [sc_s_l15Least_L2,freeOk,hi,hri,hlt,rowsL_dR hi,hz,fz,noname,dr,nolist]
    repeat' (first | omega | apply And.intro)
    exact Again.of (j+1) (by omega) (by omega) (SubI.slots rfl (by simp (disch:=omega) [wrapI,hstep]))
   rcases hst2 with e | ⟨s1,s2,s3,s4,s5⟩
   ·simp only [Prod.mk.injEq] at e
    obtain ⟨rfl,rfl⟩:=e
    have hk:lsS (ent M) i j (-1,-1)=((i:Int),(j:Int)):=by unfold lsS; rw [if_pos ⟨hz,.inl (by simp)⟩]
    rw [hk] at hstep
    simp -implicitDefEqProofs [sc_s_l15Least_L2,freeOk,hi,hri,hlt,rowsL_dR hi,hz,fz,noname,dr,nolist]
    repeat' (first | omega | apply And.intro)
    exact Again.of (j+1) (by omega) (by omega) (SubI.slots rfl (by simp (disch:=omega) [wrapI,hstep]))
   ·simp only at s1 s2 s3 s4 s5
    obtain ⟨sr,rfl⟩:∃ q:Nat,sr=q:=⟨sr.toNat,by omega⟩
    obtain ⟨sc,rfl⟩:∃ q:Nat,sc=q:=⟨sc.toNat,by omega⟩
    have hsr:sr<M.length:=by omega
    have hsc:sc<w:=by omega
    have hrs:=hr sr hsr
    have hA2:=hA sr sc hsr hsc
    have hneg:¬((sr:Int)<0):=by omega
    by_cases hc:(ent M i j).natAbs<(ent M sr sc).natAbs
    ·have hk:lsS (ent M) i j ((sr:Int),(sc:Int))=((i:Int),(j:Int)):=by unfold lsS; rw [if_pos ⟨hz,.inr (by simpa using hc)⟩]
     rw [hk] at hstep
     have hc':((ent M i j).natAbs:Int)<((ent M sr sc).natAbs:Int):=by omega
     generalize (((ent M i j).natAbs:Nat):Int)=x1 at *
     generalize (((ent M sr sc).natAbs:Nat):Int)=x2 at *
     simp -implicitDefEqProofs [sc_s_l15Least_L2,freeOk,hi,hri,hlt,hsr,hsc,hrs,rowsL_dR hi,rowsL_dR hsr,hz,hneg,hA1,hA2,hc',fz,noname,dr,nolist]
     repeat' (first | omega | apply And.intro)
     exact Again.of (j+1) (by omega) (by omega) (SubI.slots rfl (by simp (disch:=omega) [wrapI,hstep]))
    ·have hk:lsS (ent M) i j ((sr:Int),(sc:Int))=((sr:Int),(sc:Int)):=by
      unfold lsS
      rw [if_neg fun h => ?_]
      rcases h.2 with h | h
      ·simp only at h; omega
      ·exact hc (by simpa using h)
     rw [hk] at hstep
     have hc':¬(((ent M i j).natAbs:Int)<((ent M sr sc).natAbs:Int)):=by omega
     generalize (((ent M i j).natAbs:Nat):Int)=x1 at *
     generalize (((ent M sr sc).natAbs:Nat):Int)=x2 at *
     simp -implicitDefEqProofs [sc_s_l15Least_L2,freeOk,hi,hri,hlt,hsr,hsc,hrs,rowsL_dR hi,rowsL_dR hsr,hz,hneg,hA1,hA2,hc',fz,noname,dr,nolist]
     repeat' (first | omega | apply And.intro)
     exact Again.of (j+1) (by omega) (by omega) (SubI.slots rfl (by simp (disch:=omega) [wrapI,hstep]))
  ·have hu2:lsJ (ent M) i k st (j-k)=lsJ (ent M) i k st (w-k):=by rw [show j-k=w-k by omega]
   simp -implicitDefEqProofs [sc_s_l15Least_L2,hi,hri,hlt,hu2,rowsL_dR hi]
   refine ⟨by omega,SubQ.of ?_ q1⟩
   exact SubI.slots rfl (by simp)
 simp -implicitDefEqProofs [sc_s_l15Least]
 refine loopI env mixed (fun i:Nat=>[(0,.list 1 (rowsL M)),(1,.int .i64 (k:Int)),(6,.int .i64 (lsI (ent M) w k (-1,-1) (i-k)).1),(7,.int .i64 (lsI (ent M) w k (-1,-1) (i-k)).2),(8,.int .i64 (i:Int))]) (fun _=>([],0)) (fun i=>k≤i∧(i≤M.length∨i=k)) (fun i=>M.length-i) k ⟨Nat.le_refl k,.inr rfl⟩ (SubI.slots rfl (by simp [lsI])) ?_
 rintro i ⟨hki,ht⟩
 have hPt:=hP (i-k) (by omega)
 by_cases hlt:i<M.length
 ·have hstep:=lsI_succ (f:=ent M) (w:=w) (st:=(-1,-1)) hki
  have hin:=inner i (lsI (ent M) w k (-1,-1) (i-k))
  generalize lsI (ent M) w k (-1,-1) (i-k)=s at *
  simp -implicitDefEqProofs [sc_s_l15Least_L0,hlt]
  refine hin _ _ hlt hPt (by simp) ?_
  simp -implicitDefEqProofs
  exact Again.of (i+1) (by omega) (by omega) (SubI.slots rfl (by simp (disch:=omega) [wrapI,hstep]))
 ·have ht2:lsI (ent M) w k (-1,-1) (i-k)=lsI (ent M) w k (-1,-1) (M.length-k):=by rw [show i-k=M.length-k by omega]
  simp -implicitDefEqProofs [sc_s_l15Least_L0,hlt,ht2]
theorem rowsV_matF_set {n w i:Nat} {f:Nat→Nat→Int} (g:Nat→Int) (h:i<n):(rowsV (matF n w f)).set i (.own 1 (ints (rowF w g)))=rowsV (matF n w (fun a=>if a=i then g else f a)):=by
 rw [rowsV_set,matF_set g h]
theorem rowF_swap {w k j:Nat} {g:Nat→Int} (hk:k<w) (hj:j<w):((rowF w g).set k (g j)).set j (g k)=rowF w fun b=>g (swI k j b):=by
 rw [rowF_set hk,rowF_set hj]
 refine rowF_congr fun b _ => ?_
 unfold swI
 by_cases e1:b=k
 ·subst e1
  by_cases e2:b=j
  ·subst e2; simp
  ·simp [e2]
 ·by_cases e2:b=j
  ·subst e2; simp [e1]
  ·simp [e1,e2]
def swF (k i j:Nat) (f:Nat→Nat→Int) (a b:Nat):Int:=f (swI k i a) (swI k j b)
theorem swI_lt {k j b w:Nat} (hk:k<w) (hj:j<w) (hb:b<w):swI k j b<w:=by
 unfold swI
 split
 ·exact hj
 ·split
  ·exact hk
  ·exact hb
theorem swI_l (k j:Nat):swI k j k=j:=by unfold swI; rw [if_pos rfl]
theorem swI_same (k b:Nat):swI k k b=b:=by
 unfold swI
 by_cases e:b=k
 ·rw [if_pos e,e]
 ·rw [if_neg e,if_neg e]
noncomputable def swC (k j i:Nat) (f:Nat→Nat→Int) (a b:Nat):Int:=@ite _ (a<i) (Classical.propDecidable _) (f a (swI k j b)) (f a b)
theorem swC_zero {n w k j:Nat} (f:Nat→Nat→Int):matF n w (swC k j 0 f)=matF n w f:=matF_congr fun a b _ _=>by unfold swC; rw [if_neg (by omega)]
theorem swC_full {n w k j:Nat} (f:Nat→Nat→Int):matF n w (swC k j n f)=matF n w fun a b=>f a (swI k j b):=matF_congr fun a b ha _=>by unfold swC; rw [if_pos ha]
theorem swC_row {w k j i:Nat} {f:Nat→Nat→Int}:rowF w (swC k j i f i)=rowF w (f i):=rowF_congr fun b _=>by unfold swC; rw [if_neg (by omega)]
theorem swC_step {n w k j i:Nat} {f:Nat→Nat→Int}:matF n w (fun a=>if a=i then (fun b=>f i (swI k j b)) else swC k j i f a)=matF n w (swC k j (i+1) f):=matF_congr fun a b _ _=>by
 by_cases e:a=i
 ·subst e
  rw [if_pos rfl]
  unfold swC
  rw [if_pos (by omega)]
 ·rw [if_neg e]
  unfold swC
  by_cases h:a<i
  ·rw [if_pos h,if_pos (by omega)]
  ·rw [if_neg h,if_neg (by omega)]
theorem swp_matF {n w k i:Nat} {f:Nat→Nat→Int} (hk:k<n) (hi:i<n):swp (matF n w f) k i=matF n w fun a=>f (swI k i a):=atR_ext (by simp) fun q hq=>by
 rw [swp_len,matF_len] at hq
 rw [swp_at (by simpa using hk) (by simpa using hi) (by simpa using hq),matF_at hk,matF_at hi,matF_at hq,matF_at hq]
 unfold swI
 by_cases e1:q=i
 ·subst e1
  by_cases e2:q=k
  ·subst e2; simp
  ·simp [e2]
 ·by_cases e2:q=k
  ·subst e2; simp [e1]
  ·simp [e1,e2]
theorem swp_fold {M:List (List Int)} {d a:Nat} (hda:¬d=a) (x y:V):((((((rowsV M).set a x).set d y).set a y).set d x).set d (.own 1 (ints (atR M a)))).set a (.own 1 (ints (atR M d)))=rowsV (swp M d a):=by
 unfold swp
 rw [← rowsV_set,← rowsV_set]
 apply List.ext_getElem (by simp)
 intro k h1 h2
 simp only [List.getElem_set]
 by_cases e1:a=k
 ·simp [e1]
 ·by_cases e2:d=k
  ·simp [e1,e2]
  ·simp [e1,e2]
def sc_s_l15Swap_L0:SC:=(.seq (.seq (.reg [⟨some 27,none,.mov (.t 10)⟩,⟨some 28,none,.mov (.t 0)⟩,⟨some 29,none,.len (.t 28)⟩,⟨some 30,none,.bin false .lss (.t 27) (.t 29)⟩]) (.cond (.t 30) .skip (.exit 0))) (.seq (.block 1 (.seq (.reg [⟨some 33,none,.mov (.t 0)⟩,⟨some 34,none,.mov (.t 10)⟩,⟨some 35,none,.idx 1 (.t 33) (.t 34)⟩,⟨some 36,none,.ld none .nil (.t 35)⟩,⟨some 37,none,.mov (.t 3)⟩,⟨some 38,none,.idx 1 (.t 36) (.t 37)⟩,⟨some 39,none,.ld none (.int .i64 0) (.t 38)⟩,⟨some 11,none,.mov (.t 39)⟩]) (.seq (.dreg [⟨⟨some 40,none,.mov (.t 0)⟩,false,false⟩,⟨⟨some 41,none,.mov (.t 10)⟩,false,false⟩,⟨⟨some 42,none,.idx 1 (.t 40) (.t 41)⟩,false,false⟩,⟨⟨some 43,none,.ld none .nil (.t 42)⟩,false,false⟩,⟨⟨some 44,none,.mov (.t 3)⟩,false,false⟩,⟨⟨some 45,none,.mov (.t 0)⟩,false,false⟩,⟨⟨some 46,none,.mov (.t 10)⟩,false,false⟩,⟨⟨some 47,none,.idx 1 (.t 45) (.t 46)⟩,false,false⟩,⟨⟨some 48,none,.ld none .nil (.t 47)⟩,false,false⟩,⟨⟨some 49,none,.mov (.t 1)⟩,false,false⟩,⟨⟨some 50,none,.idx 1 (.t 48) (.t 49)⟩,false,false⟩,⟨⟨some 51,none,.ld none (.int .i64 0) (.t 50)⟩,false,false⟩,⟨⟨some 52,none,.idx 1 (.t 43) (.t 44)⟩,false,false⟩,⟨⟨none,none,.st 1 (.t 52) (.t 51)⟩,true,false⟩]) (.reg [⟨some 53,none,.mov (.t 0)⟩,⟨some 54,none,.mov (.t 10)⟩,⟨some 55,none,.idx 1 (.t 53) (.t 54)⟩,⟨some 56,none,.ld none .nil (.t 55)⟩,⟨some 57,none,.mov (.t 1)⟩,⟨some 58,none,.mov (.t 11)⟩,⟨some 59,none,.idx 1 (.t 56) (.t 57)⟩,⟨none,none,.st 1 (.t 59) (.t 58)⟩])))) (.reg [⟨some 31,none,.mov (.t 10)⟩,⟨some 32,none,.bin false .add (.t 31) (.c (.int .i64 1))⟩,⟨some 10,none,.mov (.t 32)⟩])))
def sc_s_l15Swap:SC:=(.seq (.reg [⟨some 8,none,.mov (.c .nil)⟩]) (.seq (.reg [⟨some 12,none,.mov (.t 0)⟩,⟨some 13,none,.mov (.t 2)⟩,⟨some 14,none,.idx 1 (.t 12) (.t 13)⟩,⟨some 15,none,.ld none .nil (.t 14)⟩,⟨some 9,none,.mov (.t 15)⟩]) (.seq (.reg [⟨some 16,none,.mov (.t 0)⟩,⟨some 17,none,.mov (.t 2)⟩,⟨some 18,none,.mov (.t 0)⟩,⟨some 19,none,.mov (.t 1)⟩,⟨some 20,none,.idx 1 (.t 18) (.t 19)⟩,⟨some 21,none,.ld none .nil (.t 20)⟩,⟨some 22,none,.idx 1 (.t 16) (.t 17)⟩,⟨none,none,.st 1 (.t 22) (.t 21)⟩]) (.seq (.reg [⟨some 23,none,.mov (.t 0)⟩,⟨some 24,none,.mov (.t 1)⟩,⟨some 25,none,.mov (.t 9)⟩,⟨some 26,none,.idx 1 (.t 23) (.t 24)⟩,⟨none,none,.st 1 (.t 26) (.t 25)⟩]) (.seq (.seq (.reg [⟨some 10,none,.mov (.c (.int .i64 0))⟩]) (.block 0 (.loop sc_s_l15Swap_L0))) (.seq (.reg [⟨some 60,none,.mov (.t 0)⟩,⟨some 8,none,.mov (.t 60)⟩]) .ret))))))
theorem code_s_l15Swap:fnCode Tryz.prog [] 77=some (61,sc_s_l15Swap,[(8,none)]):=by kernel_rfl
noncomputable def swpR (M:List (List Int)) (k i j:Nat):List (List Int):=matF M.length (wdM M) (swF k i j (ent M))
def dimM (M:List (List Int)):Prop:=rect (wdM M) M∧M.length≤64∧wdM M≤64
noncomputable def G_s_l15Swap:List V→List V→Option (V×List V)
 | [.sl 0 1 0 m,.int .i64 k,.int .i64 i,.int .i64 j],cells=>(dRowsV cells).bind fun M => @ite _ (m=M.length∧dimM M∧0≤k∧k<M.length∧k<wdM M∧0≤i∧i<M.length∧0≤j∧j<wdM M) (Classical.propDecidable _) (some (.sl 0 1 0 m,rowsV (swpR M k.toNat i.toNat j.toNat))) none
 | _,_=>none
theorem ln_s_l15Swap:LendOk Tryz.prog 77 0 G_s_l15Swap:=by
 have env:=envNil_ok (P:=Tryz.prog)
 refine fn_lend code_s_l15Swap mixed env ?_
 intro args cells r cells' hG hb
 unfold G_s_l15Swap at hG
 split at hG
 case h_2=>simp at hG
 rename_i m k i j
 obtain ⟨M,h1,h2⟩:=Option.bind_eq_some_iff.1 hG
 have hc:=dRowsV_inv h1
 subst hc
 simp only [Option.ite_none_right_eq_some,Option.some.injEq,Prod.mk.injEq] at h2
 obtain ⟨⟨rfl,⟨hr,hn,hw⟩,hk0,hk1,hk2,hi0,hi1,hj0,hj1⟩,rfl,rfl⟩:=h2
 obtain ⟨k,rfl⟩:∃ n:Nat,k=n:=⟨k.toNat,by omega⟩
 obtain ⟨i,rfl⟩:∃ n:Nat,i=n:=⟨i.toNat,by omega⟩
 obtain ⟨j,rfl⟩:∃ n:Nat,j=n:=⟨j.toNat,by omega⟩
 simp only [Int.toNat_natCast]
 clear hG h1 hb
 unfold swpR
 have hself:=matF_self hr
 generalize wdM M=w at *
 generalize hf:ent M=f at *
 generalize hnn:M.length=n at *
 rw [← hself]
 clear hself hr hf
 have hkn:k<n:=by omega
 have hkw:k<w:=by omega
 have hin:i<n:=by omega
 have hjw:j<w:=by omega
 refine ⟨by simp,fun w0 U0 L0 N0 => ?_⟩
 have loop:∀ (g:Nat→Nat→Int) (Q:Post) (T0:Tm) (H0:Hp),SubI 1 T0 H0 [(0,.sl 0 1 0 n),(1,.int .i64 (k:Int)),(3,.int .i64 (j:Int)),(10,.int .i64 ((0:Nat):Int))] ([(0,rowsV (matF n w g))],1) →
   Q (.exit 0) [(0,.sl 0 1 0 n)] ([(0,rowsV (matF n w fun a b=>g a (swI k j b)))],1) →
   LoopI ⟨Tryz.prog,w0,U0,L0,N0,1,61⟩ [] sc_s_l15Swap_L0 Q T0 H0:=by
  intro g Q T0 H0 hsub q1
  refine loopQ env mixed (fun t:Nat=>[(0,.sl 0 1 0 n),(1,.int .i64 (k:Int)),(3,.int .i64 (j:Int)),(10,.int .i64 (t:Int))]) (fun t=>([(0,rowsV (matF n w (swC k j t g)))],1)) (fun t=>t≤n) (fun t=>n-t) 0 (by simp) (by rw [swC_zero]; exact hsub) ?_
  intro t ht
  by_cases hlt:t<n
  ·have hat:=matF_at (w:=w) (f:=swC k j t g) hlt
   rw [swC_row] at hat
   have hl:(matF n w (swC k j t g)).length=n:=matF_len _ _ _
   have hs:=rowF_swap (g:=g t) hkw hjw
   have hst:=rowsV_matF_set (w:=w) (f:=swC k j t g) (fun b=>g t (swI k j b)) hlt
   rw [swC_step] at hst
   have e1:=rowF_at (g:=g t) hkw
   have e2:=rowF_at (g:=g t) hjw
   have hrl:(rowF w (g t)).length=w:=rowF_len _ _
   have hrl2:(rowF w fun b=>g t (swI k j b)).length=w:=rowF_len _ _
   have hsr:((rowF w (g t)).set j (g t k)).set k (g t j)=rowF w fun b=>g t (swI k j b):=by
    rw [← hs]
    by_cases e:k=j
    ·subst e; rfl
    ·rw [List.set_comm _ _ (fun h=>e h.symm)]
   generalize (rowF w fun b=>g t (swI k j b))=r2 at *
   generalize rowF w (g t)=r1 at *
   generalize matF n w (swC k j t g)=Mt at *
   simp -implicitDefEqProofs [sc_s_l15Swap_L0,freeOk,hlt,hl,hat,hkw,hjw,hrl,e1,e2,hsr]
   repeat' (first | omega | apply And.intro)
   refine Again.of (t+1) (by omega) (by omega) ?_
   refine SubI.fold 0 1 t 1 w (cn:=ints r2) (co:=(rowsV Mt).set t (.sl 1 1 0 w)) (by simp) (by simp) (by simp [hl,hlt]) (by simp [hrl2]) ?_
   refine SubI.ren (fun m=>if m=0 then some 0 else none) ?_ ?_ ?_ (by simp) (by simp)
   ·simp (disch:=omega) [subT,renV,ren1,wrapI]
   ·simp [subH,renL,ren1,List.set_set,hst]
   ·intro m hm
    simp only at hm
    rw [if_neg (by omega)]
  ·have:t=n:=by omega
   subst this
   rw [← swC_full] at q1
   simp -implicitDefEqProofs [sc_s_l15Swap_L0]
   exact SubQ.of (SubI.slots rfl (by simp)) q1
 have hres:matF n w (swF k i j f)=matF n w fun a b=>(fun a b=>f (swI k i a) b) a (swI k j b):=rfl
 rw [hres]
 have hsp:=swp_matF (w:=w) (f:=f) hkn hin
 rw [show (fun a b=>f (swI k i a) b)=fun a=>f (swI k i a) from rfl]
 have hl:(matF n w f).length=n:=matF_len _ _ _
 have hai:=matF_at (w:=w) (f:=f) hin
 have hak:=matF_at (w:=w) (f:=f) hkn
 have hli:(rowF w (f i)).length=w:=rowF_len _ _
 have hlk:(rowF w (f k)).length=w:=rowF_len _ _
 have hlo:=loop fun a=>f (swI k i a)
 by_cases hik:i=k
 ·subst hik
  have hsm:matF n w (fun a=>f (swI i i a))=matF n w f:=matF_congr fun a b _ _=>by rw [swI_same]
  rw [hsm] at hlo
  have hself:=rowsV_self (M:=matF n w f) (i:=i) (by omega)
  rw [hai] at hself
  generalize rowF w (f i)=ri at *
  generalize matF n w f=M0 at *
  simp -implicitDefEqProofs [sc_s_l15Swap,hin,hl,hai,hli]
  repeat' (first | omega | apply And.intro)
  refine hlo _ _ _ ?_ ?_
  ·refine SubI.fold 0 1 i 1 w (cn:=ints ri) (co:=(rowsV M0).set i (.sl 1 1 0 w)) (by simp) (by simp) (by simp [hl,hin]) (by simp [hli]) ?_
   refine SubI.ren (fun m=>if m=0 then some 0 else none) ?_ ?_ ?_ (by simp) (by simp)
   ·simp [subT,renV,ren1]
   ·simp [subH,renL,ren1,List.set_set,hself]
   ·intro m hm
    simp only at hm
    rw [if_neg (by omega)]
  ·simp -implicitDefEqProofs
 ·have hki:¬k=i:=fun e=>hik e.symm
  have hcell:=swp_fold (M:=matF n w f) (d:=k) (a:=i) hki (.sl 1 1 0 w) (.sl 2 1 0 w)
  rw [hsp,hak,hai] at hcell
  simp -implicitDefEqProofs [sc_s_l15Swap,hin,hkn,hl,hai,hak,hli,hlk,hik,hki]
  repeat' (first | omega | apply And.intro)
  refine hlo _ _ _ ?_ ?_
  ·generalize rowF w (f i)=ri at *
   generalize rowF w (f k)=rk at *
   generalize matF n w f=M0 at *
   refine SubI.fold 0 1 k 1 w (cn:=ints ri) (co:=((((rowsV M0).set i (.sl 1 1 0 w)).set k (.sl 2 1 0 w)).set i (.sl 2 1 0 w)).set k (.sl 1 1 0 w)) (by simp) (by simp) (by simp [hl,hkn]) (by simp [hli]) ?_
   refine SubI.fold 0 2 i 1 w (cn:=ints rk) (co:=(((((rowsV M0).set i (.sl 1 1 0 w)).set k (.sl 2 1 0 w)).set i (.sl 2 1 0 w)).set k (.sl 1 1 0 w)).set k (.own 1 (ints ri))) (by simp) (by simp) (by simp [hl,hin,hik,hki]) (by simp [hlk]) ?_
   rw [hcell]
   refine SubI.ren (fun m=>if m=0 then some 0 else none) ?_ ?_ ?_ (by simp) (by simp)
   ·simp [subT,renV,ren1]
   ·simp [subH,renL,ren1]
   ·intro m hm
    simp only at hm
    rw [if_neg (by omega)]
  ·simp -implicitDefEqProofs
theorem swI_inv (k i a:Nat):swI k i (swI k i a)=a:=by
 unfold swI
 by_cases e1:a=k
 ·rw [if_pos e1]
  by_cases e2:i=k
  ·rw [if_pos e2,e2,e1]
  ·rw [if_neg e2,if_pos rfl,e1]
 ·rw [if_neg e1]
  by_cases e2:a=i
  ·rw [if_pos e2,if_pos rfl,e2]
  ·rw [if_neg e2,if_neg e1,if_neg e2]
theorem dv_sw {top t:Int} {n w K k i j:Nat} {f:Nat→Nat→Int} (hk:k<n) (hw:k<w) (hi:i<n) (hj:j<w) (h:dv top n w K t f):dv top n w K t (swF k i j f):=fun Z R C hR hC hr hc=>by
 have e:(fun a b=>swF k i j f a b+top*Z a b)=fun a b=>(fun x y=>f x y+top*Z (swI k i x) (swI k j y)) (swI k i a) (swI k j b):=by
  funext a b
  show swF k i j f a b+top*Z a b=f (swI k i a) (swI k j b)+top*Z (swI k i (swI k i a)) (swI k j (swI k j b))
  rw [swI_inv,swI_inv]
  rfl
 rw [e,dtL_map (f:=fun x y=>f x y+top*Z (swI k i x) (swI k j y)) _ _ (by omega)]
 refine h _ _ _ (by simpa using hR) (by simpa using hC) (fun r hm => ?_) (fun c hm => ?_)
 ·obtain ⟨a,ha,e⟩:=List.mem_map.1 hm
  exact e ▸ swI_lt hk hi (hr a ha)
 ·obtain ⟨a,ha,e⟩:=List.mem_map.1 hm
  exact e ▸ swI_lt hw hj (hc a ha)
theorem swF_inv (k i j:Nat) (f:Nat→Nat→Int):swF k i j (swF k i j f)=f:=by
 funext a b
 unfold swF
 rw [swI_inv,swI_inv]
theorem dv_sw_iff {top t:Int} {n w K k i j:Nat} {f:Nat→Nat→Int} (hk:k<n) (hw:k<w) (hi:i<n) (hj:j<w):dv top n w K t f↔dv top n w K t (swF k i j f) :=
 ⟨dv_sw hk hw hi hj,fun h=>by have:=dv_sw hk hw hi hj h; rwa [swF_inv] at this⟩
def prL (e:Nat→Int):List Nat→Int
 | []=>1
 | a::l=>e a*prL e l
theorem prL_perm {e:Nat→Int} {l m:List Nat} (h:l.Perm m):prL e l=prL e m:=by
 induction h with
 | nil=>rfl
 | cons x _ ih=>simp only [prL,ih]
 | swap x y l=>simp only [prL]; rw [Int.mul_left_comm]
 | trans _ _ h1 h2=>rw [h1,h2]
theorem prL_congr {e g:Nat→Int}:∀ {l:List Nat},(∀ a∈l,e a=g a)→prL e l=prL g l
 | [],_=>rfl
 | a::l,h=>by
  simp only [prL]
  rw [h a List.mem_cons_self,prL_congr fun x hx=>h x (List.mem_cons_of_mem _ hx)]
theorem prS_shift (e:Nat→Int):∀ n,prS e (n+1)=e 0*prS (fun a=>e (a+1)) n:=fun n=>by
 have h:=prS_skip e n 0 (by omega)
 rw [h]
 congr 1
theorem prS_list (e:Nat→Int):∀ l:List Nat,prS (fun i=>e (l.getD i 0)) l.length=prL e l
 | []=>rfl
 | a::l=>by
  have ih:=prS_list e l
  rw [List.length_cons,prS_shift]
  simp only [prL]
  rw [← ih]
  rfl
theorem prL_range (e:Nat→Int):∀ n,prL e (List.range n)=prS e n:=fun n=>by
 rw [← prS_list,List.length_range]
 exact prS_congr n fun i hi=>by simp [List.getD_eq_getElem?_getD,hi]
theorem dt_rowdvd {n:Nat} {M:Nat→Nat→Int} {e:Nat→Int} (h:∀ a b,a<n→b<n→e a∣M a b):prS e n∣dtM n M:=by
 have h1:=dt_scale (fun _=>0) n (fun _=>1) e fun a b=>M a b / e a
 have h2:dtM n (fun a b=>e a*1*(M a b / e a))=dtM n M:=dtM_congr n fun a b ha hb=>by
  rw [Int.mul_one]
  exact Int.mul_ediv_cancel' (h a b ha hb)
 rw [← h2,h1,Int.mul_assoc]
 exact Int.dvd_mul_right _ _
theorem dtL_rowdvd {R C:List Nat} {f:Nat→Nat→Int} {e:Nat→Int} (hl:R.length≤C.length) (h:∀ a∈R,∀ b∈C,e a∣f a b):prL e R∣dtL f R C:=by
 rw [← prS_list]
 exact dt_rowdvd fun a b ha hb=>h _ (gD_mem ha) _ (gD_mem (by omega))
theorem dt_diag (d:Nat→Int):∀ n,dtM n (fun a b=>if a=b then d a else 0)=prS d n
 | 0=>rfl
 | n+1=>by
  rw [dtM_succ,smS_one (s:=0) (n+1) (by omega) fun i _ hi=>by rw [if_neg hi,Int.zero_mul,Int.mul_zero]]
  rw [if_pos rfl,prS_shift]
  have:dtM n (fun a b=>if skI 0 a=b+1 then d (skI 0 a) else 0)=dtM n (fun a b=>if a=b then (fun a=>d (a+1)) a else 0):=dtM_congr n fun a b _ _=>by
   rw [skI_ge (by omega)]
   by_cases e:a=b
   ·rw [if_pos (by omega),if_pos e]
   ·rw [if_neg (by omega),if_neg e]
  rw [this,dt_diag]
  show 1*_=_
  rw [Int.one_mul]
theorem nodup_gD {l:List Nat} (h:l.Nodup) {a b:Nat} (ha:a<l.length) (hb:b<l.length) (e:l.getD a 0=l.getD b 0):a=b:=by
 have e1:l.getD a 0=l[a]:=by simp [List.getD_eq_getElem?_getD,ha]
 have e2:l.getD b 0=l[b]:=by simp [List.getD_eq_getElem?_getD,hb]
 rw [e1,e2] at e
 rw [List.nodup_iff_pairwise_ne,List.pairwise_iff_getElem] at h
 rcases Nat.lt_trichotomy a b with h1 | h1 | h1
 ·exact absurd e (h a b ha hb h1)
 ·exact h1
 ·exact absurd e.symm (h b a hb ha h1)
theorem dtL_diag {f:Nat→Nat→Int} {d:Nat→Int} {S:List Nat} (hS:S.Nodup) (h:∀ a∈S,∀ b∈S,f a b=if a=b then d a else 0):dtL f S S=prL d S:=by
 unfold dtL
 rw [← prS_list,← dt_diag (fun i=>d (S.getD i 0))]
 refine dtM_congr _ fun a b ha hb => ?_
 rw [h _ (gD_mem ha) _ (gD_mem hb)]
 by_cases e:a=b
 ·rw [if_pos (by rw [e]),if_pos e]
 ·rw [if_neg fun h=>e (nodup_gD hS ha hb h),if_neg e]
theorem dtL_dup {f:Nat→Nat→Int} {R C:List Nat} (h:¬R.Nodup):dtL f R C=0:=by
 have:∃ a b,a<b∧b<R.length∧R.getD a 0=R.getD b 0:=by
  refine Classical.byContradiction fun hn=>h ?_
  rw [List.nodup_iff_pairwise_ne,List.pairwise_iff_getElem]
  intro i j hi hj hij e
  refine hn ⟨i,j,hij,hj,?_⟩
  simp [List.getD_eq_getElem?_getD,hi,hj,e]
 obtain ⟨a,b,hab,hb,e⟩:=this
 unfold dtL
 exact dt_eq2 (p:=a) (q:=b) (by omega) hb (by omega) fun c=>by rw [e]
theorem nodup_small:∀ (K:Nat) (R:List Nat),R.Nodup→(∀ r∈R,r<K)→R.length≤K
 | 0,R,_,h=>by
  cases R with
  | nil=>simp
  | cons a R=>have:=h a List.mem_cons_self; omega
 | K+1,R,hR,h=>by
  by_cases hm:K∈R
  ·have:=nodup_small K (R.erase K) (hR.erase _) fun r hr=>by
    have h1:=h r (List.mem_of_mem_erase hr)
    have h2:r≠K:=fun e=>by subst e; exact (hR.not_mem_erase) hr
    omega
   have h3:=List.length_erase_of_mem hm
   omega
  ·have:=nodup_small K R hR fun r hr=>by
    have h1:=h r hr
    have h2:r≠K:=fun e=>hm (e ▸ hr)
    omega
   omega
theorem nodup_big {R:List Nat} {K:Nat} (hR:R.Nodup) (hl:K<R.length):∃ m∈R,K≤m:=by
 refine Classical.byContradiction fun hn => ?_
 have h1:∀ r∈R,r<K:=fun r hr=>Nat.lt_of_not_le fun hk=>hn ⟨r,hr,hk⟩
 have:=nodup_small K R hR h1
 omega
theorem chain_prod {e:Nat→Int} (he:∀ i j,i≤j→e i∣e j):∀ (K:Nat) (R:List Nat),R.Nodup→R.length=K→prS e K∣prL e R
 | 0,R,_,hl=>by
  rw [List.length_eq_zero_iff.1 hl]
  exact Int.dvd_refl _
 | K+1,R,hR,hl=>by
  obtain ⟨m,hm,hK⟩:=nodup_big hR (K:=K) (by omega)
  have hp:=List.perm_cons_erase hm
  rw [prL_perm hp]
  have ih:=chain_prod he K (R.erase m) (hR.erase _) (by have:=List.length_erase_of_mem hm; omega)
  show prS e K*e K∣e m*prL e (R.erase m)
  rw [Int.mul_comm]
  exact Int.mul_dvd_mul (he K m hK) ih
def pD (t:Int) (K:Nat) (e:Nat→Int):Prop:=∀ R:List Nat,R.Nodup→R.length=K→t∣prL e R
theorem pD_range {t:Int} {K:Nat} {e:Nat→Int} (h:pD t K e):t∣prS e K:=by
 have:=h (List.range K) List.nodup_range List.length_range
 rwa [prL_range] at this
theorem pD_step {t:Int} {K i j:Nat} {e g:Nat→Int} (hij:i≠j) (hg:∀ q,q≠i→q≠j→g q=e q) (h1:g i∣e i) (h2:g i∣e j) (h3:e i∣g j) (h4:e j∣g j) (h5:g i*g j=e i*e j) (h6:∀ X,t∣e i*X→t∣e j*X→t∣g i*X):pD t K e↔pD t K g:=by
 have both:∀ R:List Nat,R.Nodup→i∈R→j∈R→prL e R=prL g R:=fun R hR hi hj=>by
  have hj2:j∈R.erase i:=(List.mem_erase_of_ne (Ne.symm hij)).2 hj
  have p1:=List.perm_cons_erase hi
  have p2:=List.perm_cons_erase hj2
  rw [prL_perm p1,prL_perm (e:=g) p1]
  simp only [prL]
  rw [prL_perm p2,prL_perm (e:=g) p2]
  simp only [prL]
  rw [← Int.mul_assoc,← Int.mul_assoc,h5]
  congr 1
  refine prL_congr fun a ha=>(hg a ?_ ?_).symm
  ·have:=List.mem_of_mem_erase ha
   intro e; subst e
   exact (hR.not_mem_erase) this
  ·intro e; subst e
   exact ((hR.erase i).not_mem_erase) ha
 have one:∀ (R:List Nat) (x y:Nat),R.Nodup→x∈R→y∉R→(x=i∧y=j∨x=j∧y=i)→prL e R=e x*prL e (R.erase x)∧prL g R=g x*prL e (R.erase x)∧(y::R.erase x).Nodup∧(y::R.erase x).length=R.length∧prL e (y::R.erase x)=e y*prL e (R.erase x)∧prL g (y::R.erase x)=g y*prL e (R.erase x):=fun R x y hR hx hy hxy=>by
  have p1:=List.perm_cons_erase hx
  have hc:prL g (R.erase x)=prL e (R.erase x):=prL_congr fun a ha=>by
   have n1:a≠x:=fun e=>by subst e; exact (hR.not_mem_erase) ha
   have n2:a≠y:=fun e=>by subst e; exact hy (List.mem_of_mem_erase ha)
   rcases hxy with ⟨rfl,rfl⟩ | ⟨rfl,rfl⟩
   ·exact hg a n1 n2
   ·exact hg a n2 n1
  refine ⟨by rw [prL_perm p1]; rfl,by rw [prL_perm p1]; show g x*_=_; rw [hc],List.nodup_cons.2 ⟨fun hm=>hy (List.mem_of_mem_erase hm),hR.erase _⟩,?_,rfl,by show g y*_=_; rw [hc]⟩
  rw [List.length_cons,List.length_erase_of_mem hx]
  have:=List.length_pos_of_mem hx
  omega
 have none:∀ R:List Nat,i∉R→j∉R→prL e R=prL g R:=fun R hi hj=>prL_congr fun a ha=>(hg a (fun e=>hi (e ▸ ha)) fun e=>hj (e ▸ ha)).symm
 constructor
 ·intro h R hR hl
  by_cases hi:i∈R <;> by_cases hj:j∈R
  ·rw [← both R hR hi hj]; exact h R hR hl
  ·obtain ⟨a1,a2,a3,a4,a5,a6⟩:=one R i j hR hi hj (.inl ⟨rfl,rfl⟩)
   rw [a2]
   refine h6 _ ?_ ?_
   ·rw [← a1]; exact h R hR hl
   ·rw [← a5]; exact h _ a3 (by omega)
  ·obtain ⟨a1,a2,a3,a4,a5,a6⟩:=one R j i hR hj hi (.inr ⟨rfl,rfl⟩)
   rw [a2]
   have:=h R hR hl
   rw [a1] at this
   exact Int.dvd_trans this (Int.mul_dvd_mul h4 (Int.dvd_refl _))
  ·rw [← none R hi hj]; exact h R hR hl
 ·intro h R hR hl
  by_cases hi:i∈R <;> by_cases hj:j∈R
  ·rw [both R hR hi hj]; exact h R hR hl
  ·obtain ⟨a1,a2,a3,a4,a5,a6⟩:=one R i j hR hi hj (.inl ⟨rfl,rfl⟩)
   rw [a1]
   have:=h R hR hl
   rw [a2] at this
   exact Int.dvd_trans this (Int.mul_dvd_mul h1 (Int.dvd_refl _))
  ·obtain ⟨a1,a2,a3,a4,a5,a6⟩:=one R j i hR hj hi (.inr ⟨rfl,rfl⟩)
   rw [a1]
   have:=h _ a3 (by omega)
   rw [a6] at this
   exact Int.dvd_trans this (Int.mul_dvd_mul h2 (Int.dvd_refl _))
  ·rw [none R hi hj]; exact h R hR hl
theorem gcd_mul_dvd {t a b X:Int} (h1:t∣a*X) (h2:t∣b*X):t∣((Int.gcd a b:Nat):Int)*X:=by
 have h3:t∣((Int.gcd (X*a) (X*b):Nat):Int):=Int.dvd_coe_gcd (by rw [Int.mul_comm]; exact h1) (by rw [Int.mul_comm]; exact h2)
 rw [Int.gcd_mul_left,Int.natCast_mul] at h3
 rw [Int.mul_comm]
 rcases Int.natAbs_eq X with h | h
 ·rw [h]; exact h3
 ·rw [h,Int.neg_mul]
  exact (Int.dvd_neg).2 h3
end Go.Proofs.YtkoljbncokmeaaaGreatDoor
namespace Go.Proofs.YtkoljbncokmeaaaGreatDoor
open Go Go.RowKit
theorem fn_lend3 {P:Program} {f:FuncId} {nt:Nat} {sc:SC} {rvs:List (Nat×Option Nat)} {lends:List FuncId} (hc:fnCode P lends f=some (nt,sc,rvs)) (hm:P.follows .mixedOrders=true) {Γ:Env} (hΓ:EnvOk P Γ) {i:Nat} {G:List V→List V→Option (V×List V)}
  (h:∀ args cells r cells',G args cells=some (r,cells')→(∀ a∈args,bndN a)→args.length≤nt∧∀ w0 U0 L0 N0,CutI 1 (vc ⟨P,w0,U0,L0,N0,1,nt⟩ Γ lends sc (foldE 1 (retE 1 rvs r fun H=>hget H 0=some cells'∧cells'.all (nonm 6)=true))) (initT 0 args) ([(0,cells)],1)):LendOk P f i G:=by
 obtain ⟨fd,c,hf,hb,hname,hnt,h1,h2⟩:=fnCode_inv hc
 refine ⟨⟨fd,hf,by simp [hb],hname⟩,?_⟩
 intro args cells r cells' hG l U w cargs T hU hT hargs hrow
 have hbnd:∀ a∈args,bndN a:=by
  intro x hx
  obtain ⟨j,hj⟩:=List.getElem?_of_mem hx
  obtain ⟨c',g1,g2⟩:=hargs.get0 hj
  exact bndN_ok g2
 obtain ⟨hlen,hvc⟩:=h args cells r cells' hG hbnd
 obtain ⟨⟨l1,s1,hsub1,hv⟩⟩:=hvc w U T (fun n=>if n=0 then some l else none)
 have hw:=vc_ok (C:=⟨P,w,U,T,fun n=>if n=0 then some l else none,1,nt⟩) hΓ hm lends c sc _ _ _ h1 hv
 refine calls_of_wp hf hb ?_
 rw [hnt]
 have hcl:=hargs.len
 have hTl:=RH.lt hrow
 have hk0:Kept (fun n=>if n=0 then some l else none) (fun n=>if n=0 then some l else none) U (Un w U w T) w w:=⟨fun b hb=>⟨rfl,(hU b hb).1,(hU b hb).2,.inl hb⟩,fun _ _ h=>h,fun _ _ _ _=>SameAt.shape rfl⟩
 have hst:Ctx.St ⟨P,w,U,T,fun n=>if n=0 then some l else none,1,nt⟩ (initT 0 args) ([(0,cells)],1) { tmps:=cargs.toArray++Array.replicate (nt-cargs.toArray.size) Go.undef,defers:=[] } w:=by
  refine ⟨fun n=>if n=0 then some l else none,T,?_,rfl,?_,hrow.kept hk0 (fun _ _=>rfl),hT,fun b hb => .inl hb,KeepBut.refl _ _,fun n hn => ?_,fun _ _=>rfl,Nat.le_refl _,hTl,fun h=>absurd h (by show ¬(1=0); omega)⟩
  ·simp; omega
  ·refine init_slots ?_ []
   exact hargs.kept hk0 (by simp)
  ·have:n≠0:=fun e=>by subst e; exact absurd hn (by show ¬(1≤0); omega)
   simp [this]
 refine wp_mono (hw _ w (hsub1 _ rfl _ _ hst)) ?_
 rintro e a' w' ⟨l9,s9,hq9,hs9⟩
 obtain ⟨⟨l',s',hsub9,hq⟩⟩:=hq9
 obtain ⟨N,T2,hr⟩:=hsub9 _ rfl _ _ hs9
 have fin:(match resV l' s' rvs with
   | some vs=>mt 1 s'.1 (resOf vs) r fun H=>hget H 0=some cells'∧cells'.all (nonm 6)=true
   | none=>False)→a'.defers=[]∧∃ v,(results fd a'.tmps).run P w' = .ok v w'∧∃ c F T',Ending.returned v = .returned c∧(F++T').Nodup∧(∀ b∈F++T',b∈T∨(w.heap.size≤b∧b<w'.heap.size)) ∧
   RV (fun n=>if n=0 then some l else none) (fun b=>U b∨(w.heap.size≤b∧b<w'.heap.size∧b∉F++T')) w' r c F ∧
   RH (fun n=>if n=0 then some l else none) (fun b=>U b∨(w.heap.size≤b∧b<w'.heap.size∧b∉F++T')) w' [(0,cells')] T'∧KeepBut T w w':=by
  intro hq
  split at hq
  ·rename_i vs hvs
   obtain ⟨cs,e1,e2⟩:=resV_ok (P:=P) hr.sl hr.hp _ _ _ h2 hvs
   obtain ⟨Fp,T',H',m1,m3,⟨D,m2⟩,hg,hnm⟩:=mt_ok s'.1 T2 _ _ _ _ hq (resOf_ok e2) hr.hp
   obtain ⟨X,T1,d1,_,d3⟩:=m3.del hg
   have hN:N 0=some l:=by
    have:=hr.nl 0 (by show 0<1; omega)
    simpa using this
   have hfun:(fun n=>if n<1 then N n else none)=fun n=>if n=0 then some l else none:=by
    funext n
    by_cases e:n=0
    ·subst e; simp [hN]
    ·have:¬n<1:=by omega
     simp [e,this]
   rw [hfun] at m1
   have hX:∀ x∈X,x∈T':=fun x hx=>d3.mem_iff.2 (by simp [hx])
   have hsub:∀ x∈Fp++X,x∈T2:=fun x hx=>m2.mem_iff.1 (by
    rcases List.mem_append.1 hx with h | h
    ·simp [h]
    ·simp [hX x h])
   have hTlt:=RH.lt hr.hp
   have hkk:Kept (fun n=>if n=0 then some l else none) (fun n=>if n=0 then some l else none) (Un w U w' T2) (fun b=>U b∨(w.heap.size≤b∧b<w'.heap.size∧b∉Fp++X)) w' w':=⟨fun b hbU=>⟨rfl,by
    obtain ⟨u1,u2,u3⟩:=hbU
    rcases u3 with u3 | u3
    ·exact .inl u3
    ·exact .inr ⟨u3,u1,fun hx=>u2 (hsub b hx)⟩⟩,fun _ _ h=>h,fun _ _ _ _=>SameAt.shape rfl⟩
   have hnd:(Fp++X).Nodup:=by
    have p1:=m2.nodup_iff.2 hr.nd
    have p2:(Fp++T').Nodup:=(List.nodup_append.1 p1).1
    have p3:(Fp++(X++T1)).Nodup:=((List.Perm.append_left Fp d3).nodup_iff).1 p2
    rw [← List.append_assoc] at p3
    exact (List.nodup_append.1 p3).1
   refine ⟨hr.dfr,_,results_run e1,_,Fp,X,rfl,hnd,fun b hb => ?_,m1.kept hkk (fun _ _=>rfl),?_,hr.fr⟩
   ·rcases hr.own b (hsub b hb) with h | h
    ·exact .inl h
    ·exact .inr ⟨h,hTlt b (hsub b hb)⟩
   ·rcases d1 with ⟨q1,rfl,rfl⟩ | ⟨b,base,arr,e,cs,F,q1,q2,q3,q4,rfl⟩ | ⟨b,es,clk,D,q1,q2,rfl,q4,rfl⟩
    rotate_right
    ·rw [hN] at q1
     simp only [Option.some.injEq] at q1
     exact .consM 0 D b es clk [] [] _ (by simp [q1]) q2 q4 .nil rfl
    ·rw [hN] at q1
     simp only [Option.some.injEq] at q1
     exact .consE 0 [] [] (by simp [q1]) .nil
    ·rw [hN] at q1
     simp only [Option.some.injEq] at q1
     exact .cons 0 cells' b base arr e cs F [] [] _ (by simp [q1]) q2 q3 (q4.mapN fun v c G' hm hr'=>(nonm_ok (fun b hb=>(hkk.u b hb).2) 6 v c G' (List.all_eq_true.1 hnm v hm) hr')) .nil (by simp)
  ·exact hq.elim
 cases e with
 | normal=>exact fin hq
 | ret=>exact fin hq
 | _=>exact hq.elim
end Go.Proofs.YtkoljbncokmeaaaGreatDoor
namespace Go.Proofs.YtkoljbncokmeaaaGreatDoor
open Go Go.RowKit
set_option maxRecDepth 1000000
set_option linter.unusedSimpArgs false
set_option linter.unusedVariables false
set_option maxHeartbeats 1000000
def sc_i_swapTo_L0:SC:=(.seq (.reg [⟨some 27,none,.bin false .lss (.t 26) (.t 25)⟩]) (.seq (.cond (.t 27) .skip (.exit 0)) (.seq (.block 1 (.cut (.reg [⟨some 28,none,.idx 1 (.t 24) (.t 26)⟩,⟨some 29,none,.ld none .nil (.t 28)⟩,⟨some 9,none,.mov (.t 29)⟩]) (.dreg [⟨⟨some 30,none,.mov (.t 9)⟩,false,false⟩,⟨⟨some 31,none,.mov (.t 1)⟩,false,false⟩,⟨⟨some 32,none,.mov (.t 9)⟩,false,true⟩,⟨⟨some 33,none,.mov (.t 3)⟩,false,true⟩,⟨⟨some 34,none,.mov (.t 9)⟩,false,false⟩,⟨⟨some 35,none,.mov (.t 3)⟩,false,false⟩,⟨⟨some 36,none,.idx 1 (.t 34) (.t 35)⟩,false,false⟩,⟨⟨some 37,none,.ld none (.int .i64 0) (.t 36)⟩,false,false⟩,⟨⟨some 38,none,.mov (.t 9)⟩,false,false⟩,⟨⟨some 39,none,.mov (.t 1)⟩,false,false⟩,⟨⟨some 40,none,.idx 1 (.t 38) (.t 39)⟩,false,false⟩,⟨⟨some 41,none,.ld none (.int .i64 0) (.t 40)⟩,false,false⟩,⟨⟨some 42,none,.idx 1 (.t 30) (.t 31)⟩,false,false⟩,⟨⟨none,none,.st 1 (.t 42) (.t 37)⟩,true,false⟩,⟨⟨some 43,none,.idx 1 (.t 32) (.t 33)⟩,false,false⟩,⟨⟨none,none,.st 1 (.t 43) (.t 41)⟩,true,false⟩]))) (.reg [⟨some 44,none,.bin false .add (.t 26) (.c (.int .i64 1))⟩,⟨some 26,none,.mov (.t 44)⟩]))))
def sc_i_swapTo:SC:=(.seq (.dreg [⟨⟨some 10,none,.mov (.t 0)⟩,false,false⟩,⟨⟨some 11,none,.mov (.t 1)⟩,false,false⟩,⟨⟨some 12,none,.mov (.t 0)⟩,false,true⟩,⟨⟨some 13,none,.mov (.t 2)⟩,false,true⟩,⟨⟨some 14,none,.mov (.t 0)⟩,false,false⟩,⟨⟨some 15,none,.mov (.t 2)⟩,false,false⟩,⟨⟨some 16,none,.idx 1 (.t 14) (.t 15)⟩,false,false⟩,⟨⟨some 17,none,.ld none .nil (.t 16)⟩,false,false⟩,⟨⟨some 18,none,.mov (.t 0)⟩,false,false⟩,⟨⟨some 19,none,.mov (.t 1)⟩,false,false⟩,⟨⟨some 20,none,.idx 1 (.t 18) (.t 19)⟩,false,false⟩,⟨⟨some 21,none,.ld none .nil (.t 20)⟩,false,false⟩,⟨⟨some 22,none,.idx 1 (.t 10) (.t 11)⟩,false,false⟩,⟨⟨none,none,.st 1 (.t 22) (.t 17)⟩,true,false⟩,⟨⟨some 23,none,.idx 1 (.t 12) (.t 13)⟩,false,false⟩,⟨⟨none,none,.st 1 (.t 23) (.t 21)⟩,true,false⟩]) (.seq (.reg [⟨some 24,none,.mov (.t 0)⟩,⟨some 25,none,.len (.t 24)⟩,⟨some 26,none,.mov (.c (.int .i64 0))⟩]) (.block 0 (.loop sc_i_swapTo_L0))))
theorem code_i_swapTo:fnCode Tryz.prog [666666] 61=some (45,sc_i_swapTo,[]):=by kernel_rfl
noncomputable def G_i_swapTo:List V→List V→Option (V×List V)
 | [.sl 0 1 0 m,.int .i64 k,.int .i64 i,.int .i64 j],cells=>(dRowsV cells).bind fun M => @ite _ (m=M.length∧dimM M∧0≤k∧k<M.length∧k<wdM M∧0≤i∧i<M.length∧0≤j∧j<wdM M) (Classical.propDecidable _) (some (.tup [],rowsV (swpR M k.toNat i.toNat j.toNat))) none
 | _,_=>none
theorem ln_i_swapTo:LendOk Tryz.prog 61 0 G_i_swapTo:=by
 have env:=envNil_ok (P:=Tryz.prog)
 refine fn_lend3 code_i_swapTo mixed env ?_
 intro args cells r cells' hG hb
 unfold G_i_swapTo at hG
 split at hG
 case h_2=>simp at hG
 rename_i m k i j
 obtain ⟨M,h1,h2⟩:=Option.bind_eq_some_iff.1 hG
 have hc:=dRowsV_inv h1
 subst hc
 simp only [Option.ite_none_right_eq_some,Option.some.injEq,Prod.mk.injEq] at h2
 obtain ⟨⟨rfl,⟨hr,hn,hw⟩,hk0,hk1,hk2,hi0,hi1,hj0,hj1⟩,rfl,rfl⟩:=h2
 obtain ⟨k,rfl⟩:∃ n:Nat,k=n:=⟨k.toNat,by omega⟩
 obtain ⟨i,rfl⟩:∃ n:Nat,i=n:=⟨i.toNat,by omega⟩
 obtain ⟨j,rfl⟩:∃ n:Nat,j=n:=⟨j.toNat,by omega⟩
 simp only [Int.toNat_natCast]
 clear hG h1 hb
 unfold swpR
 have hself:=matF_self hr
 generalize wdM M=w at *
 generalize hf:ent M=f at *
 generalize hnn:M.length=n at *
 rw [← hself]
 clear hself hr hf
 have hkn:k<n:=by omega
 have hkw:k<w:=by omega
 have hin:i<n:=by omega
 have hjw:j<w:=by omega
 refine ⟨by simp,fun w0 U0 L0 N0 => ?_⟩
 have loop:∀ (g:Nat→Nat→Int) (Q:Post) (T0:Tm) (H0:Hp),SubI 1 T0 H0 [(1,.int .i64 (k:Int)),(3,.int .i64 (j:Int)),(24,.sl 0 1 0 n),(25,.int .i64 (n:Int)),(26,.int .i64 ((0:Nat):Int))] ([(0,rowsV (matF n w g))],1) →
   Q (.exit 0) [] ([(0,rowsV (matF n w fun a b=>g a (swI k j b)))],1) →
   LoopI ⟨Tryz.prog,w0,U0,L0,N0,1,45⟩ [666666] sc_i_swapTo_L0 Q T0 H0:=by
  intro g Q T0 H0 hsub q1
  refine loopQ env mixed (fun t:Nat=>[(1,.int .i64 (k:Int)),(3,.int .i64 (j:Int)),(24,.sl 0 1 0 n),(25,.int .i64 (n:Int)),(26,.int .i64 (t:Int))]) (fun t=>([(0,rowsV (matF n w (swC k j t g)))],1)) (fun t=>t≤n) (fun t=>n-t) 0 (by simp) (by rw [swC_zero]; exact hsub) ?_
  intro t ht
  by_cases hlt:t<n
  ·have hat:=matF_at (w:=w) (f:=swC k j t g) hlt
   rw [swC_row] at hat
   have hl:(matF n w (swC k j t g)).length=n:=matF_len _ _ _
   have hs:=rowF_swap (g:=g t) hkw hjw
   have hst:=rowsV_matF_set (w:=w) (f:=swC k j t g) (fun b=>g t (swI k j b)) hlt
   rw [swC_step] at hst
   have e1:=rowF_at (g:=g t) hkw
   have e2:=rowF_at (g:=g t) hjw
   have hrl:(rowF w (g t)).length=w:=rowF_len _ _
   have hrl2:(rowF w fun b=>g t (swI k j b)).length=w:=rowF_len _ _
   have hsr:((rowF w (g t)).set j (g t k)).set k (g t j)=rowF w fun b=>g t (swI k j b):=by
    rw [← hs]
    by_cases e:k=j
    ·subst e; rfl
    ·rw [List.set_comm _ _ (fun h=>e h.symm)]
   generalize (rowF w fun b=>g t (swI k j b))=r2 at *
   generalize rowF w (g t)=r1 at *
   generalize matF n w (swC k j t g)=Mt at *
   simp -implicitDefEqProofs [sc_i_swapTo_L0,freeOk,hlt,hl,hat,hkw,hjw,hrl,e1,e2,hsr]
   repeat' (first | omega | apply And.intro)
   refine CutI.of (l':=[(1,.int .i64 (k:Int)),(3,.int .i64 (j:Int)),(9,.sl 1 1 0 w),(24,.sl 0 1 0 n),(25,.int .i64 (n:Int)),(26,.int .i64 (t:Int))]) (SubI.slots rfl (by simp)) ?_
   simp -implicitDefEqProofs [freeOk,hlt,hl,hat,hkw,hjw,hrl,e1,e2,hs,hsr]
   repeat' (first | omega | apply And.intro)
   refine Again.of (t+1) (by omega) (by omega) ?_
   refine SubI.fold 0 1 t 1 w (cn:=ints r2) (co:=(rowsV Mt).set t (.sl 1 1 0 w)) (by simp) (by simp) (by simp [hl,hlt]) (by simp [hrl2]) ?_
   refine SubI.ren (fun m=>if m=0 then some 0 else none) ?_ ?_ ?_ (by simp) (by simp)
   ·simp (disch:=omega) [subT,renV,ren1,wrapI]
   ·simp [subH,renL,ren1,List.set_set,hst]
   ·intro m hm
    simp only at hm
    rw [if_neg (by omega)]
  ·have:t=n:=by omega
   subst this
   rw [← swC_full] at q1
   simp -implicitDefEqProofs [sc_i_swapTo_L0]
   exact SubQ.of (SubI.slots rfl (by simp)) q1
 have hres:matF n w (swF k i j f)=matF n w fun a b=>(fun a b=>f (swI k i a) b) a (swI k j b):=rfl
 rw [hres]
 have hsp:=swp_matF (w:=w) (f:=f) hkn hin
 rw [show (fun a b=>f (swI k i a) b)=fun a=>f (swI k i a) from rfl]
 have hl:(matF n w f).length=n:=matF_len _ _ _
 have hai:=matF_at (w:=w) (f:=f) hin
 have hak:=matF_at (w:=w) (f:=f) hkn
 have hli:(rowF w (f i)).length=w:=rowF_len _ _
 have hlk:(rowF w (f k)).length=w:=rowF_len _ _
 have hlo:=loop fun a=>f (swI k i a)
 have fin:∀ (M':List (List Int)),nonm 6 (.tup [])=true∧(rowsV M').all (nonm 6)=true:=fun M'=>⟨rfl,by simp⟩
 by_cases hik:i=k
 ·subst hik
  have hsm:matF n w (fun a=>f (swI i i a))=matF n w f:=matF_congr fun a b _ _=>by rw [swI_same]
  rw [hsm] at hlo
  have hself:=rowsV_self (M:=matF n w f) (i:=i) (by omega)
  rw [hai] at hself
  generalize rowF w (f i)=ri at *
  generalize matF n w f=M0 at *
  refine CutI.of (l':=[(0,.sl 0 1 0 n),(1,.int .i64 (i:Int)),(2,.int .i64 (i:Int)),(3,.int .i64 (j:Int))]) (s':=([(1,ints ri),(0,(rowsV M0).set i (.sl 1 1 0 w))],2)) ?_ ?_
  ·refine SubI.unfold 0 i 1 (co:=rowsV M0) (cn:=ints ri) rfl (by rw [rowsV_get (by omega),hai]) (by omega) ?_
   exact SubI.slots (by simp [hli]) (by simp [initT])
  simp -implicitDefEqProofs [sc_i_swapTo,freeOk,hin,hl,hai,hli]
  repeat' (first | omega | apply And.intro)
  refine hlo _ _ _ ?_ ?_
  ·refine SubI.fold 0 1 i 1 w (cn:=ints ri) (co:=(rowsV M0).set i (.sl 1 1 0 w)) (by simp) (by simp) (by simp [hl,hin]) (by simp [hli]) ?_
   refine SubI.ren (fun m=>if m=0 then some 0 else none) ?_ ?_ ?_ (by simp) (by simp)
   ·simp [subT,renV,ren1]
   ·simp [subH,renL,ren1,List.set_set,hself]
   ·intro m hm
    simp only at hm
    rw [if_neg (by omega)]
  ·refine CutI.of (l':=[]) (SubI.slots rfl (by simp)) ?_
   simp -implicitDefEqProofs
 ·have hki:¬k=i:=fun e=>hik e.symm
  have hcell:=swp_fold (M:=matF n w f) (d:=k) (a:=i) hki (.sl 1 1 0 w) (.sl 2 1 0 w)
  rw [hsp,hak,hai] at hcell
  generalize rowF w (f i)=ri at *
  generalize rowF w (f k)=rk at *
  generalize matF n w f=M0 at *
  refine CutI.of (l':=[(0,.sl 0 1 0 n),(1,.int .i64 (k:Int)),(2,.int .i64 (i:Int)),(3,.int .i64 (j:Int))]) (s':=([(2,ints rk),(1,ints ri),(0,((rowsV M0).set i (.sl 1 1 0 w)).set k (.sl 2 1 0 w))],3)) ?_ ?_
  ·refine SubI.unfold 0 i 1 (co:=rowsV M0) (cn:=ints ri) rfl (by rw [rowsV_get (by omega),hai]) (by omega) ?_
   refine SubI.unfold 0 k 1 (co:=(rowsV M0).set i (.sl 1 1 0 w)) (cn:=ints rk) (by simp [hli]) (by rw [List.getElem?_set_ne hik,rowsV_get (by omega),hak]) (by omega) ?_
   exact SubI.slots (by simp [hli,hlk]) (by simp [initT])
  simp -implicitDefEqProofs [sc_i_swapTo,freeOk,hin,hkn,hl,hai,hak,hli,hlk,hik,hki]
  repeat' (first | omega | apply And.intro)
  refine hlo _ _ _ ?_ ?_
  ·refine SubI.fold 0 1 k 1 w (cn:=ints ri) (co:=((((rowsV M0).set i (.sl 1 1 0 w)).set k (.sl 2 1 0 w)).set k (.sl 1 1 0 w)).set i (.sl 2 1 0 w)) (by simp) (by simp) (by simp [hl,hkn,hik,hki]) (by simp [hli]) ?_
   refine SubI.fold 0 2 i 1 w (cn:=ints rk) (co:=(((((rowsV M0).set i (.sl 1 1 0 w)).set k (.sl 2 1 0 w)).set k (.sl 1 1 0 w)).set i (.sl 2 1 0 w)).set k (.own 1 (ints ri))) (by simp) (by simp) (by simp [hl,hin,hik,hki]) (by simp [hlk]) ?_
   have hcell2:((((((rowsV M0).set i (.sl 1 1 0 w)).set k (.sl 2 1 0 w)).set k (.sl 1 1 0 w)).set i (.sl 2 1 0 w)).set k (.own 1 (ints ri))).set i (.own 1 (ints rk))=rowsV (matF n w fun a=>f (swI k i a)):=by
    rw [← hcell]
    apply List.ext_getElem (by simp)
    intro q h1 h2
    simp only [List.getElem_set]
    by_cases e1:i=q
    ·simp [e1]
    ·by_cases e2:k=q
     ·simp [e1,e2]
     ·simp [e1,e2]
   rw [hcell2]
   refine SubI.ren (fun m=>if m=0 then some 0 else none) ?_ ?_ ?_ (by simp) (by simp)
   ·simp [subT,renV,ren1]
   ·simp [subH,renL,ren1]
   ·intro m hm
    simp only at hm
    rw [if_neg (by omega)]
  ·refine CutI.of (l':=[]) (SubI.slots rfl (by simp)) ?_
   simp -implicitDefEqProofs
end Go.Proofs.YtkoljbncokmeaaaGreatDoor
