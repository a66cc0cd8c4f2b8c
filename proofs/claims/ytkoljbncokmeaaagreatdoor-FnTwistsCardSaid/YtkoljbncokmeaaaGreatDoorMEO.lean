import Derived.Test.YtkoljbncokmeaaaGreatDoorMEG
import Derived.Test.YtkoljbncokmeaaaGreatDoorMEF
import Derived.Test.YtkoljbncokmeaaaGreatDoorMEN
import Derived.Test.YtkoljbncokmeaaaGreatDoorMEK
import Derived.Test.YtkoljbncokmeaaaGreatDoorMEM
namespace Go.Proofs.YtkoljbncokmeaaaGreatDoor
open Go Go.RowKit
set_option maxRecDepth 1000000
set_option linter.unusedSimpArgs false
set_option linter.unusedVariables false
set_option maxHeartbeats 1000000
noncomputable def rnk (p:Int) (M:List (List Int)):Nat:=(redS p (modM p M) (atR M 0).length).2.length
theorem rnk_nil (p:Int):rnk p []=0:=by
 have e:modM p []=[]:=List.length_eq_zero_iff.1 (by simp)
 unfold rnk
 rw [e,redS_nil]
 rfl
theorem rnk_le {p:Int} {M:List (List Int)} (hp:fpP p) (h:∀ i,i<M.length→(atR M i).length=(atR M 0).length):rnk p M≤M.length:=by
 have:=(redI_all hp (okM_mod (p:=p) hp h) (atR M 0).length)
 have h1:=this.hp
 have h2:=this.hl
 rw [modM_len] at h2
 unfold rnk
 omega
theorem rnk_wide {p:Int} {M:List (List Int)} (h:(atR M 0).length=0):rnk p M=0:=by
 unfold rnk
 rw [h]
 rfl
noncomputable def F_i_rankOf:List V→Option V:=F2 dLL dI fun M p => @ite _ (fpP p∧recM M) (Classical.propDecidable _) (some (.int .i64 (rnk p M:Nat))) none
noncomputable def rkZ (p:Int) (q:Int→Prop) (k:Int):Int:=(rnk p (sgnM (szS q (k-1)) (szS q k)):Nat)
theorem rec_sgn (R C:List Int) (hR:R.length≤64) (hC:C.length≤64):recM (sgnM R C):=by
 have h:∀ i,i<(sgnM R C).length→(atR (sgnM R C) i).length=C.length:=fun i hi=>by
  rw [sgnM_len] at hi
  rw [sgnM_at hi]
  simp
 refine ⟨⟨by rw [sgnM_len]; exact hR,fun i hi=>by rw [h i hi]; omega⟩,fun i hi => ?_⟩
 rw [h i hi,h 0 (by omega)]
theorem rkZ_bnd {p:Int} (hp:fpP p) (q:Int→Prop) (k:Int):0≤rkZ p q k∧rkZ p q k≤64:=by
 have h:=(rec_sgn (szS q (k-1)) (szS q k) (szS_len _ _) (szS_len _ _)).2
 have h1:=rnk_le hp h
 rw [sgnM_len] at h1
 have h2:=szS_len q (k-1)
 unfold rkZ
 omega
theorem rkZ_low (p:Int) (q:Int→Prop):rkZ p q 0=0:=by
 have e:szS q (0-1)=[]:=szS_none (by omega)
 unfold rkZ
 rw [e]
 show ((rnk p []:Nat):Int)=0
 rw [rnk_nil]
 rfl
theorem rkZ_high (p:Int) (q:Int→Prop) {k:Int} (h:topZ q<k):rkZ p q k=0:=by
 have e:szS q k=[]:=szS_none (by omega)
 unfold rkZ
 rw [e]
 rw [rnk_wide]
 ·rfl
 ·by_cases h0:0<(szS q (k-1)).length
  ·rw [sgnM_at h0]; rfl
  ·have:szS q (k-1)=[]:=List.length_eq_zero_iff.1 (by omega)
   rw [this]; rfl
noncomputable def holV (p:Int) (q:Int→Prop) (k:Nat):Int:=((szS q k).length:Nat)-rkZ p q k-rkZ p q (k+1)
noncomputable def holL (p:Int) (q:Int→Prop):List Int:=rowF (topZ q+1).toNat (holV p q)
theorem holL_len (p:Int) (q:Int→Prop):(holL p q).length=(topZ q+1).toNat∧(holL p q).length≤7:=by
 have:=topZ_bnd q
 unfold holL
 rw [rowF_len]
 omega
open Classical in
noncomputable def hmL (n:Int) (l:List Int) (p:Int):List Int:=if cplx n l∧fpP p then holL p (faceS l) else []
noncomputable def F_s_HolesMod:List V→Option V:=F2 dC dI fun c p=>some (.own 1 (ints (hmL c.1 c.2 p)))
def sc_s_l13Rank:SC:=(.seq (.reg [⟨some 4,none,.mov (.c (.int .i64 0))⟩]) (.seq (.reg [⟨some 8,none,.mov (.t 0)⟩,⟨some 9,none,.mov (.t 1)⟩,⟨some 10,none,.call 89 [.t 8,.t 9]⟩,⟨some 7,none,.mov (.t 10)⟩,⟨some 11,none,.ext 0 (.t 7)⟩,⟨some 12,none,.ext 1 (.t 7)⟩,⟨some 5,none,.mov (.t 11)⟩,⟨some 6,none,.mov (.t 12)⟩]) (.seq (.reg [⟨some 13,none,.mov (.t 6)⟩,⟨some 14,none,.len (.t 13)⟩,⟨some 4,none,.mov (.t 14)⟩]) .ret)))
theorem code_s_l13Rank:fnCode Tryz.prog [] 51=some (15,sc_s_l13Rank,[(4,none)]):=by kernel_rfl
theorem fn_s_l13Rank:FnOk Tryz.prog 51 F_i_rankOf:=by
 have env:=(envNil_ok (P:=Tryz.prog)).add fn_s_l13Reduce
 refine fn_ok code_s_l13Rank mixed env ?_
 intro args r h hb
 obtain ⟨_,_,M,p,rfl,h1,h2,h4⟩:=F2_inv h
 cases dLL_inv h1
 cases dI_inv h2
 simp only [Option.ite_none_right_eq_some,Option.some.injEq] at h4
 obtain ⟨⟨hp,hrec⟩,rfl⟩:=h4
 clear h
 refine ⟨by simp,fun w0 U0 L0 N0 => ?_⟩
 clear hb
 have hF:F_s_l13Reduce [.list 1 (rowsL M),.int .i64 p]=some (.tup [.own 1 (rowsV (redS p (modM p M) (atR M 0).length).1),.own 1 (ints (redS p (modM p M) (atR M 0).length).2)]):=by
  simp only [F_s_l13Reduce,F2_mk,dLL_list,dI_int,Option.bind_some]
  rw [if_pos ⟨hp,hrec⟩]
 have hr:rnk p M=(redS p (modM p M) (atR M 0).length).2.length:=rfl
 rw [hr]
 generalize redS p (modM p M) (atR M 0).length=x at *
 simp -implicitDefEqProofs [sc_s_l13Rank,hF]
def sc_s_FaceCounts_L2:SC:=(.seq (.seq (.reg [⟨some 15,none,.mov (.t 3)⟩,⟨some 16,none,.len (.t 15)⟩,⟨some 17,none,.mov (.t 4)⟩,⟨some 18,none,.mov (.t 5)⟩,⟨some 19,none,.idx 1 (.t 17) (.t 18)⟩,⟨some 20,none,.ld none (.int .i64 0) (.t 19)⟩,⟨some 21,none,.call 81 [.t 20]⟩,⟨some 22,none,.bin false .leq (.t 16) (.t 21)⟩]) (.cond (.t 22) .skip (.exit 2))) (.block 3 (.reg [⟨some 23,none,.mov (.t 3)⟩,⟨some 24,none,.mks 1 1 [.int .i64 0] [(0,(1,(.c (.int .i64 0))))]⟩,⟨some 25,none,.app 1 8 (.t 23) (.t 24)⟩,⟨some 3,none,.mov (.t 25)⟩])))
def sc_s_FaceCounts_L0:SC:=(.seq (.seq (.reg [⟨some 9,none,.mov (.t 5)⟩,⟨some 10,none,.mov (.t 4)⟩,⟨some 11,none,.len (.t 10)⟩,⟨some 12,none,.bin false .lss (.t 9) (.t 11)⟩]) (.cond (.t 12) .skip (.exit 0))) (.seq (.block 1 (.seq (.block 2 (.loop sc_s_FaceCounts_L2)) (.dreg [⟨⟨some 26,none,.mov (.t 3)⟩,false,false⟩,⟨⟨some 27,none,.mov (.t 4)⟩,false,false⟩,⟨⟨some 28,none,.mov (.t 5)⟩,false,false⟩,⟨⟨some 29,none,.idx 1 (.t 27) (.t 28)⟩,false,false⟩,⟨⟨some 30,none,.ld none (.int .i64 0) (.t 29)⟩,false,false⟩,⟨⟨some 31,none,.call 81 [.t 30]⟩,false,false⟩,⟨⟨some 32,none,.mov (.t 3)⟩,false,false⟩,⟨⟨some 33,none,.mov (.t 4)⟩,false,false⟩,⟨⟨some 34,none,.mov (.t 5)⟩,false,false⟩,⟨⟨some 35,none,.idx 1 (.t 33) (.t 34)⟩,false,false⟩,⟨⟨some 36,none,.ld none (.int .i64 0) (.t 35)⟩,false,false⟩,⟨⟨some 37,none,.call 81 [.t 36]⟩,false,false⟩,⟨⟨some 38,none,.idx 1 (.t 32) (.t 37)⟩,false,false⟩,⟨⟨some 39,none,.ld none (.int .i64 0) (.t 38)⟩,false,false⟩,⟨⟨some 40,none,.bin false .add (.t 39) (.c (.int .i64 1))⟩,false,false⟩,⟨⟨some 41,none,.idx 1 (.t 26) (.t 31)⟩,false,false⟩,⟨⟨none,none,.st 1 (.t 41) (.t 40)⟩,true,false⟩]))) (.reg [⟨some 13,none,.mov (.t 5)⟩,⟨some 14,none,.bin false .add (.t 13) (.c (.int .i64 1))⟩,⟨some 5,none,.mov (.t 14)⟩])))
def sc_s_FaceCounts:SC:=(.seq (.reg [⟨some 1,none,.box (.t 0)⟩,⟨some 2,none,.mov (.c .nil)⟩]) (.seq (.reg [⟨some 6,none,.mks 0 1 [] []⟩,⟨some 3,none,.mov (.t 6)⟩]) (.seq (.reg [⟨some 7,none,.ld (some 2) .undef (.t 1)⟩,⟨some 8,none,.call 80 [.t 7]⟩,⟨some 4,none,.mov (.t 8)⟩]) (.seq (.seq (.reg [⟨some 5,none,.mov (.c (.int .i64 0))⟩]) (.block 0 (.loop sc_s_FaceCounts_L0))) (.seq (.reg [⟨some 42,none,.mov (.t 3)⟩,⟨some 2,none,.mov (.t 42)⟩]) .ret)))))
theorem code_s_FaceCounts:fnCode Tryz.prog [] 42=some (43,sc_s_FaceCounts,[(2,none)]):=by kernel_rfl
open Classical in
noncomputable def fctL (n:Int) (l:List Int):List Int:=if cplx n l then rowF (topZ (faceS l)+1).toNat (fun z=>((szS (faceS l) z).length:Nat)) else []
noncomputable def F_s_FaceCounts:List V→Option V:=F1 dC fun c=>some (.own 1 (ints (fctL c.1 c.2)))
theorem at0_takeq {l:List Int} {k q:Nat} (h:q<k):at0 (l.take k) q=at0 l q:=by simp [at0,List.getElem?_take,h]
theorem szRow_grow {m:Nat} {l:List Int} (h:∀ s∈l,sz s<m):szRow (m+1) l=szRow m l++[0]:=by
 unfold szRow
 rw [List.range_succ,List.map_append]
 congr 1
 simp only [List.map_cons,List.map_nil]
 congr 1
 unfold cntZ
 have:l.filter (fun s=>dec (sz s=(m:Int)))=[]:=List.filter_eq_nil_iff.2 fun s hs=>by
  have:=h s hs
  rw [dec_false (by omega)]
  simp
 rw [this]
 rfl
theorem fn_s_FaceCounts:FnOk Tryz.prog 42 F_s_FaceCounts:=by
 have env:=((envNil_ok (P:=Tryz.prog)).add fn_s_FacesOf).add fn_s_l2Size
 refine fn_ok code_s_FaceCounts mixed env ?_
 intro args r h hb
 obtain ⟨_,⟨n,l⟩,rfl,h1,h4⟩:=F1_inv h
 cases dC_inv h1
 cases h4
 clear h
 refine ⟨by simp,fun w0 U0 L0 N0 => ?_⟩
 clear hb
 simp only
 have hL:allS (facesL n l):=allS_setsOf _
 have hLl:(facesL n l).length≤64:=setsOf_len _
 have hso:(facesL n l).Pairwise fun a b=>before a b=true:=setsOf_sorted _
 have hres:∀ m:Nat,(facesL n l=[]→m=0)→(facesL n l≠[]→sz (at0 (facesL n l) ((facesL n l).length-1))+1=m)→(∀ q,q<(facesL n l).length→sz (at0 (facesL n l) q)<m)→fctL n l=szRow m (facesL n l):=by
  intro m h1 h2 h3
  unfold fctL
  by_cases hc:cplx n l
  ·rw [if_pos hc]
   have hm:(topZ (faceS l)+1).toNat=m:=by
    have hf:=facesL_of hc
    have htb:=topZ_bnd (faceS l)
    by_cases he:facesL n l=[]
    ·rw [h1 he]
     rcases topZ_hit (faceS l) with e | ⟨s,hs,hp,_⟩
     ·omega
     ·have:s∈facesL n l:=by rw [hf]; exact mem_setsOf.2 ⟨hs,hp⟩
      rw [he] at this
      simp at this
    ·have hpos:=List.length_pos_iff.2 he
     have hlast:=getD_mem' (l:=facesL n l) (j:=(facesL n l).length-1) (by omega)
     have hlast2:=hlast
     rw [hf] at hlast2
     obtain ⟨e1,e2⟩:=mem_setsOf.1 hlast2
     have h4:=topZ_ge e1 e2
     have h5:=h2 he
     rw [← hf] at h4
     rcases topZ_hit (faceS l) with e | ⟨s,hs,hp,e⟩
     ·have:=sz_nn (at0 (facesL n l) ((facesL n l).length-1))
      omega
     ·have hms:s∈facesL n l:=by rw [hf]; exact mem_setsOf.2 ⟨hs,hp⟩
      obtain ⟨q,hq,rfl⟩:=getD_mem_iff.1 hms
      have:=h3 q hq
      omega
   rw [hm]
   unfold rowF szRow
   refine List.map_congr_left fun z _ => ?_
   unfold cntZ
   rw [facesL_of hc,filt_setsOf]
   rfl
  ·rw [if_neg hc]
   have he:=facesL_not hc
   rw [h1 he,he]
   rfl
 have hFF:F_s_FacesOf [.agg [.int .i64 n,.list 1 (ints l)]]=some (.own 1 (ints (facesL n l))):=by simp [F_s_FacesOf]
 generalize facesL n l=L at *
 generalize fctL n l=F at *
 simp -implicitDefEqProofs [sc_s_FaceCounts,hFF]
 have inner:∀ (i m0 z M1:Nat) (Q:Post) (T0:Tm),M1=z+1→i<L.length→sz (at0 L i)=z→m0≤z+1→(∀ s∈L.take i,sz s<m0)→subE T0 [(3,.sl 1 1 0 m0),(4,.sl 2 1 0 L.length),(5,.int .i64 (i:Int))] →
   Q (.exit 2) [(3,.sl 1 1 0 M1),(4,.sl 2 1 0 L.length),(5,.int .i64 (i:Int))] ([(2,ints L),(1,ints (szRow M1 (L.take i))),(0,[.int .i64 n,.list 1 (ints l)])],3) →
   LoopI ⟨Tryz.prog,w0,U0,L0,N0,0,43⟩ [] sc_s_FaceCounts_L2 Q T0 ([(2,ints L),(1,ints (szRow m0 (L.take i))),(0,[.int .i64 n,.list 1 (ints l)])],3):=by
  intro i m0 z M1 Q T0 hM1 hi hz hm hlow hsub q1
  subst hM1
  have hf:=allS_at hL hi
  have h6:=sz_six hf
  have r1:at0 L i<9223372036854775808:=by have:=hf.2; omega
  refine loopQ env mixed (fun j:Nat=>[(3,.sl 1 1 0 j),(4,.sl 2 1 0 L.length),(5,.int .i64 (i:Int))]) (fun j=>([(2,ints L),(1,ints (szRow j (L.take i))),(0,[.int .i64 n,.list 1 (ints l)])],3)) (fun j=>m0≤j∧j≤z+1) (fun j=>z+1-j) m0 ⟨by omega,hm⟩ (SubI.slots (by simp) (by simpa using hsub)) ?_
  rintro j ⟨hj1,hj2⟩
  by_cases hlt:j≤z
  ·have hlt':(j:Int)≤(z:Int):=by omega
   have hgr:=szRow_grow (m:=j) (l:=L.take i) fun s hs=>by have:=hlow s hs; omega
   have hgl:=szRow_len j (L.take i)
   generalize szRow j (L.take i)=g at *
   simp -implicitDefEqProofs [sc_s_FaceCounts_L2,F_s_l2Size,hi,r1,hz,hlt,hlt',hgl]
   repeat' (first | omega | apply And.intro)
   refine Again.of (j+1) ⟨by omega,by omega⟩ (by omega) (SubI.ren (fun m=>if m=0 then some 0 else if m=1 then some 4 else if m=2 then some 2 else none) ?_ ?_ ?_ (by simp) (by simp))
   ·simp (disch:=omega) [subT,renV,ren1,wrapI]
   ·have htk:g.take j=g:=List.take_of_length_le (by omega)
    simp [subH,hgr,renL,ren1,htk]
    rw [← ints_app]
    rfl
   ·intro m hm
    simp only at hm
    rw [if_neg (by omega),if_neg (by omega),if_neg (by omega)]
  ·have:j=z+1:=by omega
   subst this
   have hlt':¬((z:Int)+1≤(z:Int)):=by omega
   simp -implicitDefEqProofs [sc_s_FaceCounts_L2,F_s_l2Size,hi,r1,hz,hlt']
   exact SubQ.of (SubI.slots rfl (by simp)) q1
 refine loopI env mixed (fun x:Nat×Nat=>[(3,.sl 1 1 0 x.2),(4,.sl 2 1 0 L.length),(5,.int .i64 (x.1:Int))]) (fun x=>([(2,ints L),(1,ints (szRow x.2 (L.take x.1))),(0,[.int .i64 n,.list 1 (ints l)])],3))
  (fun x=>x.1≤L.length∧(x.1=0→x.2=0)∧(0<x.1→sz (at0 L (x.1-1))+1=x.2)∧∀ q,q<x.1→sz (at0 L q)<x.2) (fun x=>L.length-x.1) (0,0) ⟨by simp,by simp,by simp,by simp⟩ (SubI.slots (by simp [szRow]) (by simp)) ?_
 rintro ⟨i,m⟩ ⟨hi,hm0,hm1,hq⟩
 simp only at hi hm0 hm1 hq
 by_cases hlt:i<L.length
 ·have hf:=allS_at hL hlt
  have h6:=sz_six hf
  have r1:at0 L i<9223372036854775808:=by have:=hf.2; omega
  obtain ⟨z,hz⟩:∃ z:Nat,sz (at0 L i)=z:=⟨(sz (at0 L i)).toNat,by have:=sz_nn (at0 L i); omega⟩
  have hmz:m≤z+1:=by
   by_cases h0:i=0
   ·rw [hm0 h0]; omega
   ·have h1:=hm1 (by omega)
    have h2:=before_at hso (show i-1<i by omega) hlt
    simp only [before,decide_eq_true_eq] at h2
    omega
  have hlow:∀ s∈L.take i,sz s<m:=fun s hs=>by
   obtain ⟨q,hq1,rfl⟩:=getD_mem_iff.1 hs
   rw [List.length_take] at hq1
   rw [at0_takeq (by omega)]
   exact hq q (by omega)
  have hcb:=cntZ_bnd L i z
  have hw2:IntKind.i64.wrap (cntZ (L.take i) z+1)=cntZ (L.take i) z+1:=wrapI _ (by omega) (by omega)
  have hF2:F_s_l2Size [.int .i64 (at0 L i)]=some (.int .i64 (z:Int)):=by
   simp only [F_s_l2Size,F1_mk,dI_int,Option.bind_some]
   rw [if_pos r1,hz]
  obtain ⟨M1,hM1⟩:∃ M1,M1=z+1:=⟨_,rfl⟩
  have hzM:z<M1:=by omega
  have hst:=szRow_step (m:=M1) hlt hz hzM
  have ha:=at0_szRow (m:=M1) (z:=z) (L.take i) hzM
  have hgl:=szRow_len M1 (L.take i)
  have hin:=inner i m z M1
  simp -implicitDefEqProofs [sc_s_FaceCounts_L0,hlt]
  refine hin _ _ hM1 hlt hz hmz hlow (by simp) ?_
  simp -implicitDefEqProofs [hF2,hlt,hzM,ha,hw2,hst]
  repeat' (first | omega | apply And.intro)
  refine Again.of (i+1,M1) ⟨by simp only; omega,by simp,fun _=>by simp only [Nat.add_sub_cancel]; omega,fun q h => ?_⟩ (by simp only; omega) (SubI.slots (by simp) (by simp (disch:=omega) [wrapI]))
  simp only at h ⊢
  rcases Nat.lt_succ_iff_lt_or_eq.1 h with h1 | rfl
  ·have:=hq q h1; omega
  ·omega
 ·have:i=L.length:=by omega
  subst this
  rw [hres m (fun e=>hm0 (by rw [e]; rfl)) (fun e=>hm1 (List.length_pos_iff.2 e)) hq]
  have htk:(szRow m L).take m=szRow m L:=szRow_take m L
  simp -implicitDefEqProofs [sc_s_FaceCounts_L0]
def sc_s_HolesMod_L0:SC:=(.seq (.seq (.reg [⟨some 17,none,.mov (.t 8)⟩,⟨some 18,none,.mov (.t 6)⟩,⟨some 19,none,.len (.t 18)⟩,⟨some 20,none,.bin false .lss (.t 17) (.t 19)⟩]) (.cond (.t 20) .skip (.exit 0))) (.seq (.block 1 (.seq (.reg [⟨some 9,none,.mov (.c (.int .i64 0))⟩]) (.seq (.seq (.reg [⟨some 23,none,.mov (.t 8)⟩,⟨some 24,none,.bin false .add (.t 23) (.c (.int .i64 1))⟩,⟨some 25,none,.mov (.t 6)⟩,⟨some 26,none,.len (.t 25)⟩,⟨some 27,none,.bin false .lss (.t 24) (.t 26)⟩]) (.cond (.t 27) (.reg [⟨some 28,none,.ld (some 2) .undef (.t 2)⟩,⟨some 29,none,.mov (.t 8)⟩,⟨some 30,none,.bin false .add (.t 29) (.c (.int .i64 1))⟩,⟨some 31,none,.call 25 [.t 28,.t 30]⟩,⟨some 32,none,.mov (.t 1)⟩,⟨some 33,none,.call 51 [.t 31,.t 32]⟩,⟨some 9,none,.mov (.t 33)⟩]) .skip)) (.seq (.reg [⟨some 34,none,.mov (.t 5)⟩,⟨some 35,none,.mov (.t 6)⟩,⟨some 36,none,.mov (.t 8)⟩,⟨some 37,none,.idx 1 (.t 35) (.t 36)⟩,⟨some 38,none,.ld none (.int .i64 0) (.t 37)⟩,⟨some 39,none,.mov (.t 7)⟩,⟨some 40,none,.bin false .sub (.t 38) (.t 39)⟩,⟨some 41,none,.mov (.t 9)⟩,⟨some 42,none,.bin false .sub (.t 40) (.t 41)⟩,⟨some 43,none,.mks 1 1 [.int .i64 0] [(0,(1,(.t 42)))]⟩,⟨some 44,none,.app 1 8 (.t 34) (.t 43)⟩,⟨some 5,none,.mov (.t 44)⟩]) (.reg [⟨some 45,none,.mov (.t 9)⟩,⟨some 7,none,.mov (.t 45)⟩]))))) (.reg [⟨some 21,none,.mov (.t 8)⟩,⟨some 22,none,.bin false .add (.t 21) (.c (.int .i64 1))⟩,⟨some 8,none,.mov (.t 22)⟩])))
def sc_s_HolesMod:SC:=(.seq (.reg [⟨some 2,none,.box (.t 0)⟩,⟨some 4,none,.mov (.c .nil)⟩]) (.seq (.reg [⟨some 10,none,.mks 0 1 [] []⟩,⟨some 5,none,.mov (.t 10)⟩]) (.seq (.reg [⟨some 11,none,.ld (some 2) .undef (.t 2)⟩,⟨some 12,none,.call 42 [.t 11]⟩,⟨some 6,none,.mov (.t 12)⟩]) (.seq (.seq (.reg [⟨some 13,none,.mov (.t 1)⟩,⟨some 14,none,.call 49 [.t 13]⟩,⟨some 15,none,.un .not (.t 14)⟩]) (.cond (.t 15) (.seq (.reg [⟨some 16,none,.mov (.t 5)⟩,⟨some 4,none,.mov (.t 16)⟩]) .ret) .skip)) (.seq (.reg [⟨some 7,none,.mov (.c (.int .i64 0))⟩]) (.seq (.seq (.reg [⟨some 8,none,.mov (.c (.int .i64 0))⟩]) (.block 0 (.loop sc_s_HolesMod_L0))) (.seq (.reg [⟨some 46,none,.mov (.t 5)⟩,⟨some 4,none,.mov (.t 46)⟩]) .ret)))))))
theorem code_s_HolesMod:fnCode Tryz.prog [] 22=some (47,sc_s_HolesMod,[(4,none)]):=by kernel_rfl
theorem fn_s_HolesMod:FnOk Tryz.prog 22 F_s_HolesMod:=by
 have env:=((((envNil_ok (P:=Tryz.prog)).add fn_s_FaceCounts).add fn_s_IsFieldPrime).add fn_s_l13Border).add fn_s_l13Rank
 refine fn_ok code_s_HolesMod mixed env ?_
 intro args r h hb
 obtain ⟨_,_,⟨n,l⟩,p,rfl,h1,h2,h4⟩:=F2_inv h
 cases dC_inv h1
 cases dI_inv h2
 cases h4
 clear h
 refine ⟨by simp,fun w0 U0 L0 N0 => ?_⟩
 clear hb
 simp only
 have hFF:F_s_FaceCounts [.agg [.int .i64 n,.list 1 (ints l)]]=some (.own 1 (ints (fctL n l))):=by simp [F_s_FaceCounts]
 by_cases hp:fpP p
 rotate_left
 ·have e:hmL n l p=[]:=if_neg fun h=>hp h.2
  have hd:=dec_false hp
  rw [e]
  generalize fctL n l=F at *
  simp -implicitDefEqProofs [sc_s_HolesMod,hFF,F_s_IsFieldPrime,hd]
 have hd:=dec_true hp
 have hdef:∃ m:Nat,m≤7∧(fctL n l).length=m∧(hmL n l p).length=m∧∀ k,k<m→cplx n l∧topZ (faceS l)+1=m∧at0 (fctL n l) k=((szS (faceS l) k).length:Nat)∧at0 (hmL n l p) k=holV p (faceS l) k:=by
  by_cases hc:cplx n l
  ·have htb:=topZ_bnd (faceS l)
   have e1:fctL n l=rowF (topZ (faceS l)+1).toNat (fun z=>((szS (faceS l) z).length:Nat)):=if_pos hc
   have e2:hmL n l p=holL p (faceS l):=if_pos ⟨hc,hp⟩
   refine ⟨(topZ (faceS l)+1).toNat,by omega,by rw [e1,rowF_len],by rw [e2]; exact (holL_len p _).1,fun k hk=>⟨hc,by omega,by rw [e1,rowF_at hk],?_⟩⟩
   rw [e2]
   exact rowF_at hk
  ·have e1:fctL n l=[]:=if_neg hc
   have e2:hmL n l p=[]:=if_neg fun h=>hc h.1
   exact ⟨0,by omega,by rw [e1]; rfl,by rw [e2]; rfl,fun k hk=>by omega⟩
 obtain ⟨m,hm7,hFl,hOl,hk⟩:=hdef
 generalize fctL n l=F at *
 generalize hmL n l p=O at *
 simp -implicitDefEqProofs [sc_s_HolesMod,hFF,F_s_IsFieldPrime,hd]
 refine loopI env mixed (fun k:Nat=>[(1,.int .i64 p),(2,.pt 0 0),(5,.sl 1 1 0 k),(6,.sl 2 1 0 F.length),(7,.int .i64 (rkZ p (faceS l) k)),(8,.int .i64 (k:Int))]) (fun k=>([(2,ints F),(1,ints (O.take k)),(0,[.int .i64 n,.list 1 (ints l)])],3)) (fun k=>k≤m) (fun k=>m-k) 0 (by simp) (SubI.slots (by simp) (by simp [rkZ_low])) ?_
 intro k hkm
 by_cases hlt:k<m
 ·obtain ⟨hc,ht,hf,ho⟩:=hk k hlt
  have hltF:k<F.length:=by omega
  have b1:=rkZ_bnd hp (faceS l) k
  have b2:=rkZ_bnd hp (faceS l) ((k:Int)+1)
  have b3:=szS_len (faceS l) k
  have hv:holV p (faceS l) k=((szS (faceS l) k).length:Nat)-rkZ p (faceS l) k-rkZ p (faceS l) (k+1):=rfl
  have hw1:IntKind.i64.wrap ((k:Int)+1)=(k:Int)+1:=wrapI _ (by omega) (by omega)
  have e:O.take (k+1)=O.take k++[((szS (faceS l) k).length:Nat)-rkZ p (faceS l) k-rkZ p (faceS l) (k+1)]:=by rw [take_at (by omega),ho,hv]
  have gl:(O.take k).length=k:=by simp; omega
  have hkk:((k+1:Nat):Int)=(k:Int)+1:=by omega
  have fin:∀ T:Tm,subE T [(1,.int .i64 p),(2,.pt 0 0),(5,.sl 1 1 0 (k+1)),(6,.sl 2 1 0 F.length),(7,.int .i64 (rkZ p (faceS l) ((k:Int)+1))),(8,.int .i64 ((k:Int)+1))]→True:=fun _ _=>trivial
  by_cases hnx:k+1<m
  ·have hF1:F_i_BorderMatrix [.agg [.int .i64 n,.list 1 (ints l)],.int .i64 ((k:Int)+1)]=some (.own 1 (rowsV (borM n l ((k:Int)+1)))):=by
    simp only [F_i_BorderMatrix,F2_mk,dC_agg,dI_int,Option.bind_some]
    rw [if_pos ⟨hc,by omega,by omega⟩]
   have hbm:borM n l ((k:Int)+1)=sgnM (szS (faceS l) ((k:Int)+1-1)) (szS (faceS l) ((k:Int)+1)):=by
    unfold borM
    rw [szS_fos hc,szS_fos hc]
   have hF2:F_i_rankOf [.list 1 (rowsL (borM n l ((k:Int)+1))),.int .i64 p]=some (.int .i64 (rkZ p (faceS l) ((k:Int)+1))):=by
    rw [hbm]
    simp only [F_i_rankOf,F2_mk,dLL_list,dI_int,Option.bind_some]
    rw [if_pos ⟨hp,rec_sgn _ _ (szS_len _ _) (szS_len _ _)⟩]
    rfl
   have hnI:(k:Int)+1<(F.length:Int):=by omega
   generalize borM n l ((k:Int)+1)=B at *
   generalize szS (faceS l) k=s0 at *
   generalize hr2:rkZ p (faceS l) ((k:Int)+1)=r2 at *
   generalize hr1:rkZ p (faceS l) k=r1 at *
   generalize O.take k=g at *
   have hw2:IntKind.i64.wrap ((s0.length:Int)-r1)=s0.length-r1:=wrapI _ (by omega) (by omega)
   have hw3:IntKind.i64.wrap ((s0.length:Int)-r1-r2)=s0.length-r1-r2:=wrapI _ (by omega) (by omega)
   simp -implicitDefEqProofs [sc_s_HolesMod_L0,hltF,hw1,hnI,hF1,hF2,hf,hw2,hw3,gl]
   refine ⟨by omega,?_⟩
   refine Again.of (k+1) (by omega) (by omega) (SubI.ren (fun m=>if m=0 then some 0 else if m=1 then some 5 else if m=2 then some 2 else none) ?_ ?_ ?_ (by simp) (by simp))
   ·simp [subT,renV,ren1,hr2]
   ·have htk:g.take k=g:=List.take_of_length_le (by omega)
    simp [subH,e,renL,ren1,htk]
    rw [← ints_app]
    rfl
   ·intro m hm
    simp only at hm
    rw [if_neg (by omega),if_neg (by omega),if_neg (by omega)]
  ·have hr0:rkZ p (faceS l) ((k:Int)+1)=0:=rkZ_high p _ (by omega)
   have hnI:¬((k:Int)+1<(F.length:Int)):=by omega
   rw [hr0,Int.sub_zero] at e
   generalize szS (faceS l) k=s0 at *
   generalize hr1:rkZ p (faceS l) k=r1 at *
   generalize O.take k=g at *
   have hw2:IntKind.i64.wrap ((s0.length:Int)-r1)=s0.length-r1:=wrapI _ (by omega) (by omega)
   simp -implicitDefEqProofs [sc_s_HolesMod_L0,hltF,hw1,hnI,hf,hw2,gl]
   refine ⟨by omega,?_⟩
   refine Again.of (k+1) (by omega) (by omega) (SubI.ren (fun m=>if m=0 then some 0 else if m=1 then some 4 else if m=2 then some 2 else none) ?_ ?_ ?_ (by simp) (by simp))
   ·simp [subT,renV,ren1,hr0]
   ·have htk:g.take k=g:=List.take_of_length_le (by omega)
    simp [subH,e,renL,ren1,htk]
    rw [← ints_app]
    rfl
   ·intro m hm
    simp only at hm
    rw [if_neg (by omega),if_neg (by omega),if_neg (by omega)]
 ·have:k=m:=by omega
  subst this
  have htk:O.take k=O:=List.take_of_length_le (by omega)
  have hltF:¬k<F.length:=by omega
  simp -implicitDefEqProofs [sc_s_HolesMod_L0,hltF,hFl,htk]
  try omega
theorem sms_len {M:List (List Int)} {R:List Int} (h:smsV M=some R):R.length≤M.length∧R.length≤wdM M:=by
 unfold smsV at h
 by_cases hc:M≠[]∧smiM M
 ·rw [if_pos hc] at h
  obtain ⟨q,hq⟩:=smV_iff.1 h
  obtain ⟨F,hF,_⟩:=smR_spec q (ent M) 0 [] R (Nat.zero_le _) (Nat.zero_le _) ⟨fun a b _ _ h=>by omega,rfl,fun i hi=>by omega,fun i j _ hj=>by omega,fun i hi=>by omega⟩ hq
  exact ⟨hF.l1,hF.l2⟩
 ·rw [if_neg hc] at h
  simp only [Option.some.injEq] at h
  subst h
  simp
theorem bsm_sz {q:Int→Prop} {k:Nat} (hk:1≤k∧k≤6):smsV (sgnM (szS q ((k:Int)-1)) (szS q k))=some (bsm (szS q ((k:Int)-1)) (szS q k))∧smiV (sgnM (szS q ((k:Int)-1)) (szS q k))=some (bsm (szS q ((k:Int)-1)) (szS q k)) :=
 bor_smith hk (setsOf_nodup _) (setsOf_nodup _) (fun r hr=>by obtain ⟨a,_,b⟩:=mem_szS.1 hr; exact ⟨a,b⟩) (fun r hr=>by obtain ⟨a,_,b⟩:=mem_szS.1 hr; exact ⟨a,b⟩)
noncomputable def rkS (q:Int→Prop) (k:Int):Int:=((bsm (szS q (k-1)) (szS q k)).length:Nat)
theorem bsm_nil (C:List Int):bsm [] C=[]:=by
 unfold bsm
 have:smsV (sgnM [] C)=some []:=by
  unfold smsV
  rw [if_neg fun h=>h.1 rfl]
 rw [this]; rfl
theorem bsm_len (R C:List Int):(bsm R C).length≤R.length∧(bsm R C).length≤C.length:=by
 by_cases h0:R=[]
 ·rw [h0,bsm_nil]; simp
 have hpos:=List.length_pos_iff.2 h0
 unfold bsm
 cases h:smsV (sgnM R C) with
 | none=>simp
 | some S =>
  have h1:=sms_len h
  rw [sgnM_len] at h1
  have h2:wdM (sgnM R C)=C.length:=by
   unfold wdM
   rw [sgnM_at hpos]
   simp
  rw [h2] at h1
  exact h1
theorem rkS_bnd (q:Int→Prop) (k:Int):0≤rkS q k∧rkS q k≤64:=by
 have h1:=(bsm_len (szS q (k-1)) (szS q k)).1
 have h2:=szS_len q (k-1)
 unfold rkS
 omega
theorem rkS_low (q:Int→Prop):rkS q 0=0:=by
 have e:szS q (0-1)=[]:=szS_none (by omega)
 unfold rkS
 rw [e,bsm_nil]
 rfl
theorem rkS_high (q:Int→Prop) {k:Int} (h:topZ q<k):rkS q k=0:=by
 have e:szS q k=[]:=szS_none (by omega)
 have h1:=(bsm_len (szS q (k-1)) (szS q k)).2
 rw [e] at h1
 unfold rkS
 rw [e]
 simp at h1
 rw [h1]
 rfl
noncomputable def frV (q:Int→Prop) (k:Nat):Int:=((szS q k).length:Nat)-rkS q k-rkS q (k+1)
noncomputable def frZ (q:Int→Prop):List Int:=rowF (topZ q+1).toNat (frV q)
open Classical in
noncomputable def frL (n:Int) (l:List Int):List Int:=if cplx n l then frZ (faceS l) else []
noncomputable def F_s_FreeHoles:List V→Option V:=F1 dC fun c=>some (.own 1 (ints (frL c.1 c.2)))
open Classical in
noncomputable def twL (n:Int) (l:List Int) (k:Int):List Int:=if cplx n l∧0≤k∧k≤5 then (bsm (szS (faceS l) k) (szS (faceS l) (k+1))).filter fun d=>decide (1<d) else []
noncomputable def F_s_TwistsOf:List V→Option V:=F2 dC dI fun c k=>some (.own 1 (ints (twL c.1 c.2 k)))
theorem filt_take {S:List Int} {j:Nat} (h:j<S.length) (p:Int→Bool):(S.take (j+1)).filter p=(S.take j).filter p++(if p (at0 S j)=true then [at0 S j] else []):=by
 rw [List.take_succ_eq_append_getElem h,List.filter_append,at0_eq h]
 cases hp:p S[j] <;> simp [hp]
theorem filt_le {S:List Int} (j:Nat) (p:Int→Bool):((S.take j).filter p).length≤S.length:=by
 have h1:=List.length_filter_le p (S.take j)
 rw [List.length_take] at h1
 omega
def canP (n:Int) (l:List Int):Prop:=∃ k:Nat,k<6∧twL n l k≠[]
noncomputable def F_s_CanTwist:List V→Option V:=F1 dC fun c=>some (.bool (dec (canP c.1 c.2)))
theorem nodup_mapG {α β:Type} {f:α→β} {l:List α} (h:∀ a∈l,∀ b∈l,f a=f b→a=b) (hn:l.Nodup):(l.map f).Nodup:=by
 induction l with
 | nil=>exact List.nodup_nil
 | cons a l ih =>
  rw [List.map_cons,List.nodup_cons]
  obtain ⟨h1,h2⟩:=List.nodup_cons.1 hn
  refine ⟨fun hm => ?_,ih (fun x hx y hy=>h x (List.mem_cons_of_mem a hx) y (List.mem_cons_of_mem a hy)) h2⟩
  obtain ⟨b,hb,e⟩:=List.mem_map.1 hm
  have:=h b (List.mem_cons_of_mem a hb) a List.mem_cons_self e
  exact h1 (this ▸ hb)
theorem subN_len {L R:List Nat} (hR:R.Nodup) (h:∀ r∈R,r∈L):R.length≤L.length:=by
 have h1:=nodup_small L.length (R.map fun r=>L.idxOf r) (nm_inj (fun a ha b hb e=>idx_inj (h a ha) (h b hb) e) hR) (fun r hm=>by
  obtain ⟨a,ha,e⟩:=List.mem_map.1 hm
  rw [← e]
  exact List.idxOf_lt_length_iff.2 (h a ha))
 rwa [List.length_map] at h1
theorem ffN_len:∀ j:Nat,j<7→(ffN j).length≤20:=by decide +kernel
def dnN (y:Nat):List Nat:=(List.range 64).filter fun x=>(x &&& y == x) && (pcF 6 y == pcF 6 x+1)
theorem dnN_len:∀ y:Nat,y<64→(dnN y).length≤6:=by decide +kernel
open Classical in
theorem colN_eq (f:Nat→Nat→Int) (j:Nat):∀ n,colN f j n=((List.range n).filter fun i=>decide (f i j≠0)).length
 | 0=>rfl
 | n+1=>by
  rw [List.range_succ,List.filter_append,List.length_append,← colN_eq f j n]
  show colN f j n + @ite _ (f n j=0) (Classical.propDecidable _) 0 1=_
  by_cases h:f n j=0
  ·rw [if_pos h]
   simp [h]
  ·rw [if_neg h]
   simp [h]
section
variable {k : Nat} {R C : List Int}
theorem szl_len (hk:k≤6) (hR:R.Nodup) (h1:∀ r∈R,isS r∧sz r=(k:Int)):R.length≤20:=by
 have hm:∀ r∈R.map Int.toNat,r∈ffN k:=fun r hr=>by
  obtain ⟨a,ha,e⟩:=List.mem_map.1 hr
  obtain ⟨g1,g2⟩:=h1 a ha
  have e2:a=((a.toNat:Nat):Int):=by have:=g1.1; omega
  rw [← e]
  refine mem_ffN.2 ⟨by have:=g1.2; omega,?_⟩
  rw [e2,sz_nat (by have:=g1.2; omega)] at g2
  omega
 have hn:(R.map Int.toNat).Nodup:=nodup_mapG (f:=Int.toNat) (l:=R) (fun a ha b hb e=>by
  have:=(h1 a ha).1.1
  have:=(h1 b hb).1.1
  omega) hR
 have h2:=subN_len hn hm
 rw [List.length_map] at h2
 have:=ffN_len k (by omega)
 omega
theorem bor_col (hR:R.Nodup) (h1:∀ r∈R,isS r∧sz r=(k:Int)-1) (h2:∀ s∈C,isS s∧sz s=k) {j:Nat} (hj:j<C.length):colN (ent (sgnM R C)) j R.length≤6:=by
 rw [colN_eq]
 obtain ⟨g1,g2⟩:=h2 _ (getD_mem' hj)
 have ey:at0 C j=(((at0 C j).toNat:Nat):Int):=by have:=g1.1; omega
 have hy:(at0 C j).toNat<64:=by have:=g1.2; omega
 refine Nat.le_trans ?_ (dnN_len (at0 C j).toNat hy)
 have h3:=subN_len (L:=dnN (at0 C j).toNat) (R:=((List.range R.length).filter fun i=>decide (ent (sgnM R C) i j≠0)).map fun i=>(at0 R i).toNat) ?_ ?_
 ·rwa [List.length_map] at h3
 ·refine nodup_map (fun a ha b hb e => ?_) (List.Nodup.sublist List.filter_sublist List.nodup_range)
  have ha2:=List.mem_range.1 (List.mem_filter.1 ha).1
  have hb2:=List.mem_range.1 (List.mem_filter.1 hb).1
  have p1:=(h1 _ (getD_mem' ha2)).1.1
  have p2:=(h1 _ (getD_mem' hb2)).1.1
  exact at0_inj hR ha2 hb2 (by omega)
 ·intro r hr
  obtain ⟨i,hi,e⟩:=List.mem_map.1 hr
  obtain ⟨hi1,hi2⟩:=List.mem_filter.1 hi
  have hi3:=List.mem_range.1 hi1
  have hne:ent (sgnM R C) i j≠0:=by simpa using hi2
  rw [bor_ent hi3 hj] at hne
  obtain ⟨p1,p2⟩:=h1 _ (getD_mem' hi3)
  have ex:at0 R i=(((at0 R i).toNat:Nat):Int):=by have:=p1.1; omega
  have hx:(at0 R i).toNat<64:=by have:=p1.2; omega
  rw [← e]
  unfold dnN
  rw [List.mem_filter,List.mem_range,Bool.and_eq_true,beq_iff_eq,beq_iff_eq]
  refine ⟨hx,?_,?_⟩
  ·refine Classical.byContradiction fun hh=>hne ?_
   rw [ex,ey]
   refine sgnZ_no fun hs=>hh ((subS_natI hx hy).1 hs)
  ·rw [ex,sz_nat hx] at p2
   rw [ey,sz_nat hy] at g2
   omega
theorem bor_smi (hk:1≤k∧k≤6) (hR:R.Nodup) (hC:C.Nodup) (h1:∀ r∈R,isS r∧sz r=(k:Int)-1) (h2:∀ s∈C,isS s∧sz s=k) (h0:0<R.length):smiM (sgnM R C):=by
 have hw:wdM (sgnM R C)=C.length:=by
  unfold wdM
  rw [sgnM_at h0]
  simp
 have l1:=szl_len (k:=k-1) (by omega) hR fun r hr=>⟨(h1 r hr).1,by rw [(h1 r hr).2]; omega⟩
 have l2:=szl_len (k:=k) (by omega) hC h2
 refine ⟨⟨?_,?_,fun _ => ?_,fun i j hi hj => ?_⟩,fun j hj => ?_⟩
 ·rw [sgnM_len]; omega
 ·rw [hw]
  intro i hi
  rw [sgnM_len] at hi
  rw [sgnM_at hi]
  simp
 ·rw [hw]; omega
 ·rw [sgnM_len] at hi
  rw [hw] at hj
  rw [bor_ent hi hj]
  exact sgnZ_bnd _ _
 ·rw [hw] at hj
  rw [sgnM_len]
  exact bor_col hR h1 h2 hj
end
theorem redS_lt (p:Int) (M:List (List Int)) (j:Nat):(∀ q,q<(redS p M j).2.length→0≤at0 (redS p M j).2 q∧at0 (redS p M j).2 q<j)∧∀ a b,a<b→b<(redS p M j).2.length→at0 (redS p M j).2 a<at0 (redS p M j).2 b:=by
 induction j with
 | zero=>exact ⟨fun q hq=>by simp [redS] at hq,fun a b _ hb=>by simp [redS] at hb⟩
 | succ j ih =>
  rw [redS]
  generalize redS p M j=x at *
  obtain ⟨N,P⟩:=x
  obtain ⟨h1,h2⟩:=ih
  simp only at h1 h2
  by_cases hc:P.length<N.length∧fndZ N j (N.length-P.length) P.length<N.length
  ·rw [redC_yes rfl hc.1 hc.2]
   simp only [List.length_append,List.length_singleton]
   have e:∀ q,q<P.length+1→at0 (P++[(j:Int)]) q=if q<P.length then at0 P q else (j:Int):=fun q hq=>by
    rw [at0_app]
    split
    ·rfl
    ·rw [show q-P.length=0 by omega]; rfl
   constructor
   ·intro q hq
    rw [e q hq]
    split
    ·have:=h1 q (by assumption)
     omega
    ·omega
   ·intro a b hab hb
    rw [e a (by omega),e b hb,if_pos (by omega)]
    split
    ·exact h2 a b hab (by assumption)
    ·exact (h1 a (by omega)).2
  ·rw [redC_no hc]
   exact ⟨fun q hq=>by have:=h1 q hq; simp only at this ⊢; omega,h2⟩
theorem rv_smul (w:Nat) (r:List Int) (a:Int) (x:Nat→Int):rv w r (fun k=>a*x k)=a*rv w r x:=by
 unfold rv
 rw [← sumN_mul]
 exact sumN_congr fun k _=>Int.mul_left_comm _ _ _
theorem rv_sum (w m:Nat) (r:List Int) (x:Nat→Nat→Int):rv w r (fun k=>sumN m fun j=>x j k)=sumN m fun j=>rv w r (x j):=by
 unfold rv
 rw [sumN_swap]
 exact sumN_congr fun k _=>(sumN_mul _ _ _).symm
theorem sol_mod {p:Int} {w:Nat} {M:List (List Int)} (hM:∀ i,i<M.length→(atR M i).length=w) (y:Nat→Int):sol p w (modM p M) y↔sol p w M y:=by
 have key:∀ i,i<M.length→p∣rv w (atR (modM p M) i) y-rv w (atR M i) y:=fun i hi=>by
  unfold rv
  refine sumN_cong fun k hk => ?_
  rw [modM_at hi,rowF_at (by rw [hM i hi]; exact hk),← Int.sub_mul]
  exact Int.dvd_mul_of_dvd_left (mod_sub _ _)
 constructor
 ·intro h i hi
  exact (dvd_cong (key i hi)).1 (h i (by rw [modM_len]; exact hi))
 ·intro h i hi
  rw [modM_len] at hi
  exact (dvd_cong (key i hi)).2 (h i hi)
theorem cnt_mem {n:Nat}:∀ {U:List Int},U.Nodup→(∀ x∈U,0≤x∧x<(n:Int))→(sumN n fun u=>bI ((u:Int)∈U))=U.length
 | [],_,_=>sumN_zero fun k _=>bI_no (by simp)
 | a::U,hn,hS=>by
  rw [List.nodup_cons] at hn
  have ih:=cnt_mem hn.2 fun x hx=>hS x (List.mem_cons_of_mem _ hx)
  have ha:=hS a (List.mem_cons_self ..)
  obtain ⟨x,rfl⟩:=Int.eq_ofNat_of_zero_le ha.1
  have e:(sumN n fun u=>bI ((u:Int)∈(x:Int)::U))=sumN n fun u=>bI ((u:Int)=(x:Int))*1+bI ((u:Int)∈U):=sumN_congr fun u hu=>by
   by_cases h:(u:Int)=(x:Int)
   ·rw [bI_yes h,bI_yes (by rw [h]; exact List.mem_cons_self ..),bI_no (by rw [h]; exact hn.1)]; omega
   ·rw [bI_no h]
    by_cases h2:(u:Int)∈U
    ·rw [bI_yes h2,bI_yes (List.mem_cons_of_mem _ h2)]; omega
    ·rw [bI_no h2,bI_no (fun hh=>(List.mem_cons.1 hh).elim h h2)]; omega
  have h1:=sumN_one (w:=fun _=>1) (a:=x) n
  rw [if_pos (by omega)] at h1
  rw [e,sumN_add,ih,h1,List.length_cons]
  omega
noncomputable def rX (p:Int) (w:Nat) (M:List (List Int)):List (List Int)×List Int:=redS p (modM p M) w
noncomputable def pvJ (p:Int) (w:Nat) (M:List (List Int)) (q:Nat):Nat:=(at0 (rX p w M).2 q).toNat
def pvP (p:Int) (w:Nat) (M:List (List Int)) (k:Nat):Prop:=(k:Int)∈(rX p w M).2
noncomputable def rkM (p:Int) (w:Nat) (M:List (List Int)):Nat:=(rX p w M).2.length
section lin
variable {p : Int} {w : Nat} {M : List (List Int)} (hp : fpP p) (hM : ∀ i,i < M.length → (atR M i).length = w)
include hp hM
theorem rX_rr:rrI p w (modM p M) w (rX p w M):=rrI_all hp (okM_mod hp hM) w (Nat.le_refl _)
theorem rX_sol (y:Nat→Int):sol p w (rX p w M).1 y↔sol p w M y:=((rX_rr hp hM).sl y).trans (sol_mod hM y)
omit hM hp in
theorem pvJ_eq {q:Nat} (hq:q<rkM p w M):(pvJ p w M q:Int)=at0 (rX p w M).2 q:=by
 have:=(redS_lt p (modM p M) w).1 q hq
 unfold pvJ
 exact Int.toNat_of_nonneg this.1
omit hM hp in
theorem pvJ_lt {q:Nat} (hq:q<rkM p w M):pvJ p w M q<w:=by
 have:=(redS_lt p (modM p M) w).1 q hq
 have h2:=pvJ_eq hq
 unfold rX at h2
 omega
omit hM hp in
theorem pvJ_inj {a b:Nat} (ha:a<rkM p w M) (hb:b<rkM p w M) (h:pvJ p w M a=pvJ p w M b):a=b:=by
 have h1:=pvJ_eq ha
 have h2:=pvJ_eq hb
 have h3:=(redS_lt p (modM p M) w).2
 rcases Nat.lt_trichotomy a b with hl | hl | hl
 ·have:=h3 a b hl hb
  unfold rX at h1 h2
  omega
 ·exact hl
 ·have:=h3 b a hl ha
  unfold rX at h1 h2
  omega
omit hM hp in
theorem pvP_iff {k:Nat}:pvP p w M k↔∃ q,q<rkM p w M∧pvJ p w M q=k:=by
 unfold pvP
 rw [getD_mem_iff]
 constructor
 ·rintro ⟨q,hq,e⟩
  exact ⟨q,hq,by have:=pvJ_eq hq; omega⟩
 ·rintro ⟨q,hq,e⟩
  exact ⟨q,hq,by have:=pvJ_eq hq; omega⟩
omit hM hp in
theorem pv_nodup:(rX p w M).2.Nodup:=by
 have h3:=(redS_lt p (modM p M) w).2
 refine List.Pairwise.imp (R:=fun a b=>a<b) (fun h=>by omega) ?_
 rw [List.pairwise_iff_getElem]
 intro i j hi hj hij
 have:=h3 i j hij hj
 rw [← at0_eq hi,← at0_eq hj]
 exact this
noncomputable def npL (p:Int) (w:Nat) (M:List (List Int)):List Nat:=(List.range w).filter fun c=>dec (¬pvP p w M c)
omit hM hp in
theorem npL_len:((npL p w M).length:Int)=(w:Int)-(rkM p w M:Nat):=by
 unfold npL
 rw [sumN_filter]
 have e:(sumN w fun u=>bI (dec (¬pvP p w M u)=true))+(sumN w fun u=>bI ((u:Int)∈(rX p w M).2))=sumN w fun _=>1:=by
  rw [← sumN_add]
  refine sumN_congr fun u _ => ?_
  by_cases h:pvP p w M u
  ·rw [bI_no (by rw [dec_iff]; exact fun hh=>hh h),bI_yes (show (u:Int)∈(rX p w M).2 from h)]; rfl
  ·rw [bI_yes (by rw [dec_iff]; exact h),bI_no (show ¬(u:Int)∈(rX p w M).2 from h)]; rfl
 have e1:∀ m:Nat,(sumN m fun _=>1)=(m:Int):=fun m=>by
  induction m with
  | zero=>rfl
  | succ m ih=>rw [sumN,ih]; omega
 rw [e1,cnt_mem pv_nodup fun x hx=>by
  obtain ⟨q,hq,rfl⟩:=getD_mem_iff.1 hx
  have:=(redS_lt p (modM p M) w).1 q hq
  exact ⟨this.1,this.2⟩] at e
 unfold rkM
 omega
theorem sol_zero {v:Nat→Int} (hv:sol p w M v) (h:∀ c,c<w→¬pvP p w M c→p∣v c):∀ k,k<w→p∣v k:=by
 intro k hk
 have hr:=rX_rr hp hM
 by_cases hpk:pvP p w M k
 ·obtain ⟨q,hq,rfl⟩:=pvP_iff.1 hpk
  have hs:=(rX_sol hp hM v).2 hv
  have hql:q<(rX p w M).1.length:=Nat.lt_of_lt_of_le hq hr.base.hp
  have h1:=hs q hql
  unfold rv at h1
  obtain ⟨w',hw⟩:∃ w',w=w'+1:=⟨w-1,by omega⟩
  have e:sumN w (fun j=>at0 (atR (rX p w M).1 q) j*v j)=at0 (atR (rX p w M).1 q) (pvJ p w M q)*v (pvJ p w M q)+sumN w' fun j=>at0 (atR (rX p w M).1 q) (skipN (pvJ p w M q) j)*v (skipN (pvJ p w M q) j):=by
   have:=sumN_skip (fun j=>at0 (atR (rX p w M).1 q) j*v j) w' (pvJ p w M q) (by omega)
   rw [← this,← hw]
  rw [e] at h1
  have h2:p∣sumN w' fun j=>at0 (atR (rX p w M).1 q) (skipN (pvJ p w M q) j)*v (skipN (pvJ p w M q) j):=sumN_dvd fun j hj=>by
   have hs2:skipN (pvJ p w M q) j<w∧skipN (pvJ p w M q) j≠pvJ p w M q:=by unfold skipN; split <;> omega
   by_cases hpj:pvP p w M (skipN (pvJ p w M q) j)
   ·obtain ⟨q2,hq2,e2⟩:=pvP_iff.1 hpj
    have hz:=hr.zer q2 hq2 q hql (fun e3=>hs2.2 (by rw [← e2,e3]))
    have e4:(at0 (rX p w M).2 q2).toNat=pvJ p w M q2:=rfl
    rw [e4,e2] at hz
    rw [hz,Int.zero_mul]
    exact Int.dvd_zero p
   ·exact Int.dvd_mul_of_dvd_right (h _ hs2.1 hpj)
  have h3:=(Int.dvd_add_left h2).1 h1
  have h4:=hr.one q hq
  have e4:(at0 (rX p w M).2 q).toNat=pvJ p w M q:=rfl
  rw [e4] at h4
  rwa [h4,Int.one_mul] at h3
 ·exact h k hk hpk
end lin
section lin2
variable {p : Int} {f w : Nat} {M N : List (List Int)} (hp : fpP p) (hM : ∀ i,i < M.length → (atR M i).length = f) (hN : ∀ i,i < N.length → (atR N i).length = w) (hf : N.length = f)
include hp hM hN hf
end lin2
def sgF (x y:Nat):Int:=if x &&& y == x then 1-2*((pcF 6 (y &&& (y-x-1)) % 2:Nat):Int) else 0
def ddK (x y:Nat):Nat→Int
 | 0=>0
 | u+1=>ddK x y u+(if pcF 6 u == pcF 6 x+1 then sgF x u*sgF u y else 0)
theorem dd_key:∀ x:Nat,x<64→∀ y:Nat,y<64→(pcF 6 y != pcF 6 x+2 || ddK x y 64 == 0)=true:=by decide +kernel
theorem ddK_sum (x y:Nat):∀ m,ddK x y m=sumN m fun u=>if pcF 6 u == pcF 6 x+1 then sgF x u*sgF u y else 0
 | 0=>rfl
 | m+1=>by rw [ddK,ddK_sum x y m,sumN]
theorem sub_lt_key:∀ x:Nat,x<64→∀ y:Nat,y<64→(x &&& y != x || decide (x≤y))=true:=by decide +kernel
theorem sgnZ_nat {x y:Nat} (hx:x<64) (hy:y<64) (hz:pcF 6 y=pcF 6 x+1):sgnZ (x:Int) (y:Int)=sgF x y:=by
 by_cases h:x &&& y=x
 ·have hs:subS (x:Int) (y:Int):=(subS_natI hx hy).2 h
  have hle:x≤y:=by
   have:=sub_lt_key x hx y hy
   simp [h] at this
   exact this
  have hne:x≠y:=fun e=>by rw [e] at hz; omega
  have e1:bnot (y:Int) (x:Int)=((y-x:Nat):Int):=by
   rw [bnot_nat y x hy hx,Nat.and_comm,h]
  have e2:((y-x:Nat):Int)-1=((y-x-1:Nat):Int):=by omega
  have hb:y &&& (y-x-1)<64:=Nat.lt_of_le_of_lt Nat.and_le_left hy
  rw [sgnZ_yes hs,e1,e2,band_nat y (y-x-1) hy (by omega),sz_nat hb]
  unfold sgF
  rw [if_pos (by simp [h])]
  omega
 ·have hs:¬subS (x:Int) (y:Int):=fun hh=>h ((subS_natI hx hy).1 hh)
  rw [sgnZ_no hs]
  unfold sgF
  rw [if_neg (by simpa using h)]
theorem dd_zero {q:Int→Prop} (hq:∀ s t,isS s→isS t→subS s t→q t→q s) {r s:Int} (hr:isS r) (hs:isS s) (hqs:q s) (hz:sz s=sz r+2):sumL (szS q (sz r+1)) (fun u=>sgnZ r u*sgnZ u s)=0:=by
 obtain ⟨x,hx,rfl⟩:=isS_nat0 hr
 obtain ⟨y,hy,rfl⟩:=isS_nat0 hs
 rw [sz_nat hx,sz_nat hy] at hz
 have hz2:pcF 6 y=pcF 6 x+2:=by omega
 have hU:=sumL_mem (fun u=>sgnZ (x:Int) u*sgnZ u (y:Int)) (U:=szS q (sz (x:Int)+1)) (setsOf_nodup _) (allS_setsOf _)
 rw [← hU]
 have hk:=dd_key x hx y hy
 simp only [hz2,bne_self_eq_false,Bool.false_or,beq_iff_eq] at hk
 rw [ddK_sum] at hk
 rw [← hk]
 refine sumN_congr fun u hu => ?_
 have hus:isS (u:Int):=⟨by omega,by omega⟩
 by_cases hsz:pcF 6 u=pcF 6 x+1
 ·have h1:sgnZ (x:Int) (u:Int)=sgF x u:=sgnZ_nat hx hu hsz
  have h2:sgnZ (u:Int) (y:Int)=sgF u y:=sgnZ_nat hu hy (by omega)
  rw [if_pos (by simp [hsz]),h1,h2]
  by_cases hqu:q (u:Int)
  ·rw [bI_yes (mem_szS.2 ⟨hus,hqu,by rw [sz_nat hu,sz_nat hx]; omega⟩),Int.one_mul]
  ·have h3:sgF u y=0:=by
    rw [← h2]
    exact sgnZ_no fun hh=>hqu (hq _ _ hus hs hh hqs)
   rw [h3]
   simp
 ·rw [if_neg (by simpa using hsz),bI_no fun hh=>hsz (by
   have:=(mem_szS.1 hh).2.2
   rw [sz_nat hu,sz_nat hx] at this
   omega),Int.zero_mul]
theorem sgn_row {R C:List Int} {i j:Nat} (hi:i<R.length) (hj:j<C.length):at0 (atR (sgnM R C) i) j=sgnZ (at0 R i) (at0 C j):=by
 rw [sgnM_at hi]
 simp [at0,hj]
theorem rv_sgn {R C:List Int} {i:Nat} (hi:i<R.length) (X:Int→Int) (x:Nat→Int) (hx:∀ j,j<C.length→x j=X (at0 C j)):rv C.length (atR (sgnM R C) i) x=sumL C fun u=>sgnZ (at0 R i) u*X u:=by
 unfold rv sumL
 refine sumN_congr fun j hj => ?_
 rw [sgn_row hi hj,hx j hj]
theorem rkZ_W {p:Int} {q:Int→Prop} {k:Int} (h:0<(szS q (k-1)).length):rkZ p q k=(rkW p (szS q k).length (modM p (sgnM (szS q (k-1)) (szS q k))):Nat):=by
 unfold rkZ rnk rkW
 rw [sgnM_at h]
 simp
theorem rkZ_M {p:Int} {q:Int→Prop} (z:Int):rkZ p q z=(rkM p (szS q z).length (sgnM (szS q (z-1)) (szS q z)):Nat):=by
 by_cases h:0<(szS q (z-1)).length
 ·rw [rkZ_W h]; rfl
 ·have e:szS q (z-1)=[]:=List.length_eq_zero_iff.1 (by omega)
  have e2:sgnM (szS q (z-1)) (szS q z)=[]:=by rw [e]; rfl
  unfold rkZ rkM rX
  rw [e2,rnk_nil]
  have e3:modM p []=[]:=List.length_eq_zero_iff.1 (by simp)
  rw [e3,redS_nil]
  rfl
theorem rk_sum {p:Int} {f w:Nat} {M N:List (List Int)} (hp:fpP p) (hM:∀ i,i<M.length→(atR M i).length=f) (hN:∀ i,i<N.length→(atR N i).length=w) (hf:N.length=f) (hc:∀ j,j<w→sol p f M fun i=>at0 (atR N i) j):rkM p f M+rkM p w N≤f:=by
 refine Nat.le_of_not_lt fun hlt => ?_
 have hlen:=npL_len (p:=p) (w:=f) (M:=M)
 obtain ⟨x,⟨j0,hj0,hx0⟩,hx⟩:=homog (field_fp hp) (npL p f M).length (rkM p w N) (fun i j=>at0 (atR N ((npL p f M)[i]?.getD 0)) (pvJ p w N j)) (by omega)
 have hsol:sol p f M fun i=>sumN (rkM p w N) fun j=>x j*at0 (atR N i) (pvJ p w N j):=fun i hi=>by
  rw [rv_sum]
  refine sumN_dvd fun j hj => ?_
  rw [rv_smul]
  exact Int.dvd_mul_of_dvd_right (hc _ (pvJ_lt hj) i hi)
 have heq:∀ i:Nat,(sumN (rkM p w N) fun j=>x j*at0 (atR N i) (pvJ p w N j))=sumN (rkM p w N) fun j=>at0 (atR N i) (pvJ p w N j)*x j:=fun i=>sumN_congr fun j _=>Int.mul_comm _ _
 have hall:=sol_zero hp hM hsol fun c hcf hnp=>by
  have hm:c∈npL p f M:=by
   unfold npL
   rw [List.mem_filter,List.mem_range,dec_iff]
   exact ⟨hcf,hnp⟩
  obtain ⟨t,ht,e⟩:=List.getElem_of_mem hm
  have h1:=hx t ht
  rw [List.getElem?_eq_getElem ht,Option.getD_some,e] at h1
  rw [heq c]
  exact h1
 have hker:sol p w N fun k=>sumN (rkM p w N) fun j=>bI (pvJ p w N j=k)*x j:=fun i hi=>by
  rw [rv_pick _ (pvJ p w N) (fun j hj=>pvJ_lt hj) x,← heq i]
  exact hall i (by omega)
 have hz2:=sol_zero hp hN hker fun c _ hnp=>by
  refine sumN_dvd fun j hj => ?_
  rw [bI_no fun e=>hnp (pvP_iff.2 ⟨j,hj,e⟩),Int.zero_mul]
  exact Int.dvd_zero p
 have h3:=hz2 _ (pvJ_lt hj0)
 have e:(sumN (rkM p w N) fun j=>bI (pvJ p w N j=pvJ p w N j0)*x j)=x j0:=by
  have:(sumN (rkM p w N) fun j=>bI (pvJ p w N j=pvJ p w N j0)*x j)=sumN (rkM p w N) fun t=>bI ((t:Int)=(j0:Int))*(fun u:Int=>x u.toNat) (t:Int):=sumN_congr fun t ht=>by
   simp only [Int.toNat_natCast]
   congr 1
   exact bI_congr ⟨fun e=>by rw [pvJ_inj ht hj0 e],fun e=>by rw [show t=j0 by omega]⟩
  rw [this,sumN_one (w:=fun u:Int=>x u.toNat) (a:=j0),if_pos hj0]
  simp
 rw [e] at h3
 exact hx0 h3
section exf
variable {p : Int} {q : Int → Prop} (hp : fpP p) (hq : ∀ s t,isS s → isS t → subS s t → q t → q s)
omit hp hq in
theorem sgnM_rows {R C:List Int}:∀ i,i<(sgnM R C).length→(atR (sgnM R C) i).length=C.length:=fun i hi=>by
 rw [sgnM_len] at hi
 rw [sgnM_at hi]
 simp
include hq in
theorem dd_rows {k:Int} {r s:Int} (hr:r∈szS q (k-1)) (hs:s∈szS q (k+1)):sumL (szS q k) (fun u=>sgnZ r u*sgnZ u s)=0:=by
 obtain ⟨a,b,c⟩:=mem_szS.1 hr
 obtain ⟨a2,b2,c2⟩:=mem_szS.1 hs
 have:=dd_zero hq a a2 b2 (by omega)
 rwa [show sz r+1=k by omega] at this
include hq in
theorem dd_sol (k:Int):∀ j,j<(szS q (k+1)).length→sol p (szS q k).length (sgnM (szS q (k-1)) (szS q k)) fun i=>at0 (atR (sgnM (szS q k) (szS q (k+1))) i) j:=fun j hj i hi=>by
 rw [sgnM_len] at hi
 rw [rv_sgn hi (fun u=>sgnZ u (at0 (szS q (k+1)) j)) _ fun t ht=>sgn_row ht hj,dd_rows hq (getD_mem' hi) (getD_mem' hj)]
 exact Int.dvd_zero p
include hp hq in
theorem hol_nn (k:Nat):0≤holV p q k:=by
 have hle:=rk_sum (M:=sgnM (szS q ((k:Int)-1)) (szS q k)) (N:=sgnM (szS q k) (szS q ((k:Int)+1))) hp sgnM_rows sgnM_rows (sgnM_len _ _) (dd_sol hq k)
 have e:holV p q k=((szS q k).length:Int)-(rkM p (szS q k).length (sgnM (szS q ((k:Int)-1)) (szS q k)):Nat)-(rkM p (szS q ((k:Int)+1)).length (sgnM (szS q k) (szS q ((k:Int)+1))):Nat):=by
  unfold holV
  rw [rkZ_M,rkZ_M,show (k:Int)+1-1=k by omega]
 omega
end exf
theorem smS_cong {p:Int} {f g:Nat→Int}:∀ n,(∀ i,i<n→p∣f i-g i)→p∣smS f n-smS g n
 | 0,_=>⟨0,by simp [smS]⟩
 | n+1,h=>by
  have h1:=smS_cong n fun i hi=>h i (by omega)
  have h2:=h n (by omega)
  show p∣(smS f n+f n)-(smS g n+g n)
  have e:(smS f n+f n)-(smS g n+g n)=(smS f n-smS g n)+(f n-g n):=by omega
  rw [e]
  exact Int.dvd_add h1 h2
theorem mul_cong {p a b c d:Int} (h1:p∣a-b) (h2:p∣c-d):p∣a*c-b*d:=by
 have e:a*c-b*d=(a-b)*c+b*(c-d):=by rw [Int.sub_mul,Int.mul_sub]; omega
 rw [e]
 exact Int.dvd_add (Int.dvd_mul_of_dvd_left h1) (Int.dvd_mul_of_dvd_right h2)
theorem dtM_cong {p:Int}:∀ (n:Nat) {M N:Nat→Nat→Int},(∀ a b,a<n→b<n→p∣M a b-N a b)→p∣dtM n M-dtM n N
 | 0,M,N,_=>by
  rw [show dtM 0 M=dtM 0 N from rfl,Int.sub_self]
  exact Int.dvd_zero p
 | n+1,M,N,h=>by
  rw [dtM_succ,dtM_succ]
  refine smS_cong _ fun i hi => ?_
  rw [← Int.mul_sub]
  refine Int.dvd_mul_of_dvd_right ?_
  exact mul_cong (h i 0 hi (by omega)) (dtM_cong n fun a b ha hb=>h _ _ (skI_bnd ha) (by omega))
theorem mD_cong {p:Int} {n w K:Nat} {f g:Nat→Nat→Int} (h:∀ a b,a<n→b<w→p∣f a b-g a b) (hf:mD p n w K f):mD p n w K g:=fun R C hR hC hr hc=>by
 have h1:=hf R C hR hC hr hc
 have h2:p∣dtL f R C-dtL g R C:=by
  unfold dtL
  exact dtM_cong _ fun a b ha hb=>h _ _ (hr _ (gD_mem ha)) (hc _ (gD_mem (by omega)))
 exact (dvd_cong h2).1 h1
theorem cong_symm {p a b:Int} (h:p∣a-b):p∣b-a:=by
 have e:b-a = -(a-b):=by omega
 rw [e]
 exact Int.dvd_neg.2 h
theorem dv_self {p:Int} {n w K:Nat} {f:Nat→Nat→Int}:dv p n w K p f↔mD p n w K f :=
 ⟨dv_mD,fun h Z=>mD_cong (fun a b _ _=>by
  have e:f a b-(f a b+p*Z a b)=p*(- Z a b):=by rw [Int.mul_neg]; omega
  rw [e]
  exact Int.dvd_mul_right p _) h⟩
theorem mD_swr {t:Int} {n w K d a:Nat} {f:Nat→Nat→Int} (hd:d<n) (ha:a<n) (h:mD t n w K f):mD t n w K fun i b=>f (if i=d then a else if i=a then d else i) b:=fun R C hR hC hr hc=>by
 rw [dtL_map (f:=f) (fun i=>if i=d then a else if i=a then d else i) (fun b=>b) (by omega)]
 refine h _ _ (by rw [List.length_map]; exact hR) (by rw [List.length_map]; exact hC) (fun r hm => ?_) fun c hm => ?_
 ·obtain ⟨x,hx,rfl⟩:=List.mem_map.1 hm
  have:=hr x hx
  by_cases e1:x=d
  ·rw [if_pos e1]; exact ha
  ·rw [if_neg e1]
   by_cases e2:x=a
   ·rw [if_pos e2]; exact hd
   ·rw [if_neg e2]; exact this
 ·obtain ⟨x,hx,rfl⟩:=List.mem_map.1 hm
  exact hc x hx
section
variable {p : Int} {w d a j : Nat} {M : List (List Int)}
theorem mD_piv (hp:fpP p) (hM:okM p w M) (hd:d<M.length) (ha:a<M.length) (hj:j<w) (hn:at0 (atR M a) j≠0) {K:Nat}:mD p M.length w K (ent M)↔mD p M.length w K (ent (pivM p M d a j)):=by
 obtain ⟨l1,l2⟩:=hM a ha
 have hna:¬p∣at0 (atR M a) j:=fun h=>hn (small_dvd (l2 j hj).1 (l2 j hj).2 h)
 have hu:=inv_unit hp hna
 obtain ⟨v,hv⟩:∃ v,at0 (atR M a) j=v:=⟨_,rfl⟩
 obtain ⟨u,hui⟩:∃ u,invZ v p=u:=⟨_,rfl⟩
 rw [hv,hui] at hu
 -- the swapped matrix
 obtain ⟨g,hg⟩:∃ g:Nat→Nat→Int,(fun i b=>ent M (if i=d then a else if i=a then d else i) b)=g:=⟨_,rfl⟩
 have hgd:∀ b,g d b=ent M a b:=fun b=>by rw [← hg]; show ent M (if d=d then a else _) b=_; rw [if_pos rfl]
 have hgi:∀ i b,i≠d→g i b=at0 (if i=a then atR M d else atR M i) b:=fun i b hi=>by
  rw [← hg]
  show ent M (if i=d then a else if i=a then d else i) b=_
  rw [if_neg hi]
  by_cases e:i=a
  ·rw [if_pos e,if_pos e]; rfl
  ·rw [if_neg e,if_neg e]; rfl
 have hback:(fun i b=>g (if i=d then a else if i=a then d else i) b)=ent M:=by
  funext i b
  rw [← hg]
  show ent M _ b=ent M i b
  congr 1
  by_cases e1:i=d
  ·rw [if_pos e1]
   by_cases e2:a=d
   ·rw [if_pos e2,e1,e2]
   ·rw [if_neg e2,if_pos rfl,e1]
  ·rw [if_neg e1]
   by_cases e2:i=a
   ·rw [if_pos e2,if_pos rfl,e2]
   ·rw [if_neg e2,if_neg e1,if_neg e2]
 have hsw:mD p M.length w K (ent M)↔mD p M.length w K g:=⟨fun h=>by rw [← hg]; exact mD_swr hd ha h,fun h=>by rw [← hback]; exact mD_swr hd ha h⟩
 rw [hsw]
 -- the entries of the new matrix
 have ed:∀ b,b<w→p∣ent (pivM p M d a j) d b-u*g d b:=fun b hb=>by
  show p∣at0 (atR (pivM p M d a j) d) b-_
  rw [piv_d hp hM hd ha,scl_at (by rw [l1]; exact hb),hv,hui,hgd,Int.mul_comm u]
  exact mod_sub _ _
 have ei:∀ i b,i<M.length→b<w→i≠d→p∣ent (pivM p M d a j) i b-(g i b-g i j*ent (pivM p M d a j) d b):=fun i b hi hb hid=>by
  show p∣at0 (atR (pivM p M d a j) i) b-(g i b-g i j*at0 (atR (pivM p M d a j) d) b)
  have hl:b<(if i=a then atR M d else atR M i).length:=by
   split
   ·rw [(hM d hd).1]; exact hb
   ·rw [(hM i hi).1]; exact hb
  rw [piv_i hp hM hd ha hi hid,elim_at hl,piv_d hp hM hd ha,← hgi i b hid,← hgi i j hid]
  exact mod_sub _ _
 constructor
 ·intro h
  have h1:=mD_row (fun i=>if i=d then u else 1) (fun i=>if i=d then 0 else -(g i j)*u) hd h
  refine mD_cong (fun i b hi hb => ?_) h1
  by_cases e:i=d
  ·subst e
   simp only [if_true]
   rw [Int.zero_mul,Int.add_zero]
   exact cong_symm (ed b hb)
  ·simp only [if_neg e]
   rw [Int.one_mul]
   refine cong_symm ?_
   have h2:=ei i b hi hb e
   have h3:p∣g i j*(ent (pivM p M d a j) d b-u*g d b):=Int.dvd_mul_of_dvd_right (ed b hb)
   have e4:ent (pivM p M d a j) i b-(g i b + -(g i j)*u*g d b)=(ent (pivM p M d a j) i b-(g i b-g i j*ent (pivM p M d a j) d b))-g i j*(ent (pivM p M d a j) d b-u*g d b):=by
    rw [Int.mul_sub,Int.neg_mul,Int.neg_mul,Int.mul_assoc]; omega
   rw [e4]
   exact Int.dvd_sub h2 h3
 ·intro h
  have h1:=mD_row (fun i=>if i=d then v else 1) (fun i=>if i=d then 0 else g i j) hd h
  refine mD_cong (fun i b hi hb => ?_) h1
  by_cases e:i=d
  ·subst e
   simp only [if_true]
   rw [Int.zero_mul,Int.add_zero]
   have h2:p∣v*(ent (pivM p M i a j) i b-u*g i b):=Int.dvd_mul_of_dvd_right (ed b hb)
   have h3:p∣(v*u-1)*g i b:=Int.dvd_mul_of_dvd_left hu
   have e4:v*ent (pivM p M i a j) i b-g i b=v*(ent (pivM p M i a j) i b-u*g i b)+(v*u-1)*g i b:=by
    rw [Int.mul_sub,Int.sub_mul,Int.mul_assoc]; omega
   rw [e4]
   exact Int.dvd_add h2 h3
  ·simp only [if_neg e]
   rw [Int.one_mul]
   have h2:=ei i b hi hb e
   have e4:ent (pivM p M d a j) i b+g i j*ent (pivM p M d a j) d b-g i b=ent (pivM p M d a j) i b-(g i b-g i j*ent (pivM p M d a j) d b):=by omega
   rw [e4]
   exact h2
end
theorem mD_redC {p:Int} {w:Nat} {M0:List (List Int)} {j:Nat} {x:List (List Int)×List Int} (hp:fpP p) (hj:j<w) (h:rrI p w M0 j x) {K:Nat}:mD p x.1.length w K (ent x.1)↔mD p x.1.length w K (ent (redC p j x).1):=by
 obtain ⟨M,P⟩:=x
 obtain ⟨f1,f2⟩:=fndZ_hit2 (M:=M) (j:=j) (M.length-P.length) P.length
 by_cases hc:P.length<M.length∧fndZ M j (M.length-P.length) P.length<M.length
 ·rw [redC_yes (p:=p) (M:=M) (P:=P) rfl hc.1 hc.2]
  exact mD_piv hp h.base.ok hc.1 hc.2 hj (f2 (by omega))
 ·rw [redC_no hc]
theorem mD_redS {p:Int} {w:Nat} {M:List (List Int)} (hp:fpP p) (hM:okM p w M) {K:Nat}:∀ j,j≤w→(mD p M.length w K (ent M)↔mD p M.length w K (ent (redS p M j).1))
 | 0,_=>Iff.rfl
 | j+1,hj=>by
  have h:=rrI_all hp hM j (by omega)
  have hl:(redS p M j).1.length=M.length:=h.base.hl
  have:=mD_redC hp (show j<w by omega) h (K:=K)
  rw [hl] at this
  exact (mD_redS hp hM j (by omega)).trans this
theorem prL_mem {p:Int} {e:Nat→Int} {m:Nat}:∀ {l:List Nat},m∈l→p∣e m→p∣prL e l
 | [],h,_=>by cases h
 | a::l,h,hm=>by
  show p∣e a*prL e l
  rcases List.mem_cons.1 h with rfl | h
  ·exact Int.dvd_mul_of_dvd_left hm
  ·exact Int.dvd_mul_of_dvd_right (prL_mem h hm)
theorem mD_high {p:Int} {n w u K:Nat} {f:Nat→Nat→Int} (hK:u<K) (h:∀ a b,u≤a→a<n→b<w→p∣f a b):mD p n w K f:=fun R C hR hC hr hc=>by
 by_cases hn:R.Nodup
 ·obtain ⟨m,hm,hum⟩:=nodup_big hn (show u<R.length by omega)
  refine Int.dvd_trans (prL_mem (e:=fun a=>if u≤a then p else 1) hm ?_) (dtL_rowdvd (by omega) fun a ha b hb => ?_)
  ·show p∣if u≤m then p else 1
   rw [if_pos hum]
   exact Int.dvd_refl p
  ·show (if u≤a then p else 1)∣f a b
   by_cases e:u≤a
   ·rw [if_pos e]; exact h a b e (hr a ha) (hc b hb)
   ·rw [if_neg e]; exact Int.one_dvd _
 ·rw [dtL_dup hn]
  exact Int.dvd_zero p
theorem mD_low {p:Int} {n w u K:Nat} {f:Nat→Nat→Int} (hp:fpP p) (hK:K≤u) (hu:u≤n) (J:Nat→Nat) (hJ:∀ b,b<u→J b<w) (hd:∀ a,a<u→¬p∣f a (J a)) (hz:∀ a b,a<u→b<u→a≠b→f a (J b)=0):¬mD p n w K f:=fun h=>by
 have h1:=h (List.range K) ((List.range K).map J) (by simp) (by simp) (fun r hr=>by have:=List.mem_range.1 hr; omega) fun c hc=>by
  obtain ⟨x,hx,rfl⟩:=List.mem_map.1 hc
  exact hJ x (by have:=List.mem_range.1 hx; omega)
 have e:dtL f (List.range K) ((List.range K).map J)=prS (fun a=>f a (J a)) K:=by
  rw [← dt_diag]
  unfold dtL
  rw [List.length_range]
  refine dtM_congr _ fun a b ha hb => ?_
  rw [gD_map (by simpa using hb)]
  have g:∀ x,x<K→(List.range K).getD x 0=x:=fun x hx=>by simp [List.getD_eq_getElem?_getD,hx]
  rw [g a ha,g b hb]
  by_cases e:a=b
  ·rw [if_pos e,e]
  ·rw [if_neg e]; exact hz a b (by omega) (by omega) e
 rw [e] at h1
 have key:∀ m,m≤K→¬p∣prS (fun a=>f a (J a)) m:=by
  intro m
  induction m with
  | zero=>intro _ hh; exact (field_fp hp).1 hh
  | succ m ih =>
   intro hm hh
   refine ih (by omega) ?_
   have h2:p∣f m (J m)*prS (fun a=>f a (J a)) m:=by
    have e3:prS (fun a=>f a (J a)) (m+1)=prS (fun a=>f a (J a)) m*f m (J m)∨prS (fun a=>f a (J a)) (m+1)=f m (J m)*prS (fun a=>f a (J a)) m:=by
     first
      | exact .inl rfl
      | exact .inr rfl
    rcases e3 with e3 | e3
    ·rw [e3,Int.mul_comm] at hh; exact hh
    ·rw [e3] at hh; exact hh
   exact unit_dvd ((field_fp hp).2 _ (hd m (by omega))) h2
 exact key K (Nat.le_refl K) h1
theorem mD_rank {p:Int} {w:Nat} {M:List (List Int)} (hp:fpP p) (hM:∀ i,i<M.length→(atR M i).length=w) (K:Nat):mD p M.length w K (ent M)↔(redS p (modM p M) w).2.length<K:=by
 have hok:=okM_mod (p:=p) hp hM
 have h1:mD p M.length w K (ent M)↔mD p M.length w K (ent (modM p M)):=by
  have hc:∀ a b,a<M.length→b<w→p∣ent (modM p M) a b-ent M a b:=fun a b ha hb=>by
   unfold ent
   rw [modM_at ha,rowF_at (by rw [hM a ha]; exact hb)]
   exact mod_sub _ _
  exact ⟨mD_cong fun a b ha hb=>cong_symm (hc a b ha hb),mD_cong hc⟩
 have h2:=mD_redS hp hok (K:=K) w (Nat.le_refl w)
 rw [modM_len] at h2
 rw [h1,h2]
 have hr:=rrI_all hp hok w (Nat.le_refl w)
 have hl:(redS p (modM p M) w).1.length=M.length:=by rw [hr.base.hl,modM_len]
 constructor
 ·intro h
  refine Nat.lt_of_not_le fun hK => ?_
  refine mD_low hp hK (by rw [← hl]; exact hr.base.hp) (fun q=>(at0 (redS p (modM p M) w).2 q).toNat) (fun b hb => ?_) (fun a ha => ?_) (fun a b ha hb hne => ?_) h
  ·have:=hr.base.hj b hb
   show (at0 (redS p (modM p M) w).2 b).toNat<w
   omega
  ·show ¬p∣at0 (atR (redS p (modM p M) w).1 a) (at0 (redS p (modM p M) w).2 a).toNat
   rw [hr.one a ha]
   exact (field_fp hp).1
  ·show at0 (atR (redS p (modM p M) w).1 a) (at0 (redS p (modM p M) w).2 b).toNat=0
   have:=hr.base.hp
   exact hr.zer b hb a (by omega) hne
 ·intro hK
  refine mD_high hK fun a b ha han hb => ?_
  show p∣at0 (atR (redS p (modM p M) w).1 a) b
  rw [hr.low a ha (by omega) b hb]
  exact Int.dvd_zero p
def cntU (p:Int) (R:List Int):Nat:=(R.filter fun d=>decide (¬p∣d)).length
theorem cntU_chain {p:Int}:∀ (R:List Int),(∀ i j,i<j→j<R.length→p∣at0 R i→p∣at0 R j)→∀ i,i<R.length→(p∣at0 R i↔cntU p R≤i)
 | [],_,i,hi=>by simp at hi
 | a::R,h,i,hi=>by
  have hs:∀ k,at0 (a::R) (k+1)=at0 R k:=fun k=>by simp [at0]
  have h0:at0 (a::R) 0=a:=by simp [at0]
  have ih:=cntU_chain R fun i j hij hj hd=>by
   have:=h (i+1) (j+1) (by omega) (by simp; omega)
   rw [hs,hs] at this
   exact this hd
  by_cases ha:p∣a
  ·have hall:∀ k,k<R.length→p∣at0 R k:=fun k hk=>by
    have:=h 0 (k+1) (by omega) (by simp; omega)
    rw [h0,hs] at this
    exact this ha
   have hz:cntU p (a::R)=0:=by
    unfold cntU
    rw [List.length_eq_zero_iff,List.filter_eq_nil_iff]
    intro x hx
    obtain ⟨k,hk,rfl⟩:=List.getElem_of_mem hx
    have:p∣(a::R)[k]:=by
     cases k with
     | zero=>exact ha
     | succ k =>
      have h2:=hall k (by simp at hk; omega)
      rw [at0_eq (by simp at hk; omega)] at h2
      exact h2
    simp [this]
   rw [hz]
   refine ⟨fun _=>Nat.zero_le _,fun _ => ?_⟩
   cases i with
   | zero=>rw [h0]; exact ha
   | succ i=>rw [hs]; exact hall i (by simp at hi; omega)
  ·have hz:cntU p (a::R)=cntU p R+1:=by
    unfold cntU
    rw [List.filter_cons,if_pos (by simpa using ha)]
    rfl
   rw [hz]
   cases i with
   | zero=>rw [h0]; exact ⟨fun h=>absurd h ha,fun h=>by omega⟩
   | succ i =>
    rw [hs,ih i (by simp at hi; omega)]
    omega
theorem cntU_le (p:Int) (R:List Int):cntU p R≤R.length:=List.length_filter_le _ _
theorem mD_diag {p:Int} {n w:Nat} {F:Nat→Nat→Int} {R:List Int} (hp:fpP p) (h:smF n w F R) (K:Nat):mD p n w K F↔cntU p R<K:=by
 have hdv:∀ i,i<R.length→(p∣at0 R i↔p∣F i i):=fun i hi=>by
  rw [(h.v i hi).1]
  exact Int.dvd_natAbs
 have hch:=cntU_chain (p:=p) R fun i j hij hj hd=>by
  rw [hdv j hj]
  exact Int.dvd_trans ((hdv i (by omega)).1 hd) (h.c i j hij hj)
 have hle:=cntU_le p R
 have l1:=h.l1
 have l2:=h.l2
 constructor
 ·intro hm
  refine Nat.lt_of_not_le fun hK => ?_
  refine mD_low hp hK (by omega) (fun b=>b) (fun b hb=>by omega) (fun a ha => ?_) (fun a b ha hb hne => ?_) hm
  ·rw [← hdv a (by omega),hch a (by omega)]
   omega
  ·rw [h.d a b (by omega) (by omega),if_neg fun e=>hne e.1]
 ·intro hK
  refine mD_high hK fun a b ha han hb => ?_
  rw [h.d a b han hb]
  by_cases e:a=b∧a<R.length
  ·rw [if_pos e,← hdv a e.2,hch a e.2]
   exact ha
  ·rw [if_neg e]
   exact Int.dvd_zero p
theorem rnk_smith {p:Int} {M:List (List Int)} {R:List Int} (hp:fpP p) (hM:∀ i,i<M.length→(atR M i).length=(atR M 0).length) (h:smV M.length (wdM M) (ent M)=some R):rnk p M=cntU p R:=by
 obtain ⟨q,hq⟩:=smV_iff.1 h
 obtain ⟨F,hF,he⟩:=smR_spec q (ent M) 0 [] R (Nat.zero_le _) (Nat.zero_le _) ⟨fun a b _ _ h=>by omega,rfl,fun i hi=>by omega,fun i j _ hj=>by omega,fun i hi=>by omega⟩ hq
 have key:∀ K,(rnk p M<K↔cntU p R<K):=fun K=>by
  have h1:=he p K p
  rw [dv_self,dv_self] at h1
  have h2:=mD_rank hp hM K
  exact (h2.symm.trans h1).trans (mD_diag hp hF K)
 have k1:=key (cntU p R+1)
 have k2:=key (rnk p M+1)
 omega
theorem dup_front:∀ {l:List Nat},¬l.Nodup→∃ c l',l.Perm (c::c::l')
 | [],h=>absurd List.nodup_nil h
 | a::l,h=>by
  by_cases ha:a∈l
  ·exact ⟨a,l.erase a,(List.perm_cons_erase ha).cons a⟩
  ·have hl:¬l.Nodup:=fun hl=>h (List.nodup_cons.2 ⟨ha,hl⟩)
   obtain ⟨c,l',hp⟩:=dup_front hl
   refine ⟨c,a::l',(hp.cons a).trans ?_⟩
   exact (List.Perm.swap c a (c::l')).trans ((List.Perm.swap c a l').cons c)
theorem dtL_cdup {f:Nat→Nat→Int} {R C:List Nat} (hl:R.length=C.length) (h:¬C.Nodup):dtL f R C=0:=by
 obtain ⟨c,l',hp⟩:=dup_front h
 have h1:=dtL_cperm (M:=f) (R:=R) hp [] (by simpa using hl.symm)
 simp only [List.nil_append] at h1
 have hlen:R.length=l'.length+2:=by rw [hl,hp.length_eq]; rfl
 have h2:dtL f R (c::c::l')=0:=by
  have hs:=dt_cswap R.length (fun a b=>f (R.getD a 0) ((c::c::l').getD b 0)) 0 (by omega)
  have e:(fun a b=>(fun a b=>f (R.getD a 0) ((c::c::l').getD b 0)) a (swN 0 b))=fun a b=>f (R.getD a 0) ((c::c::l').getD b 0):=by
   funext a b
   show f (R.getD a 0) ((c::c::l').getD (swN 0 b) 0)=_
   rcases b with _ | _ | b
   ·rfl
   ·rfl
   ·rw [swN_ne (by omega) (by omega)]
  have hs2:dtM R.length (fun a b=>f (R.getD a 0) ((c::c::l').getD b 0)) = - dtM R.length (fun a b=>f (R.getD a 0) ((c::c::l').getD b 0)):=Eq.trans (congrArg (dtM R.length) e.symm) hs
  unfold dtL
  omega
 rw [h2] at h1
 omega
theorem smith_le {n w T:Nat} {f F:Nat→Nat→Int} {R:List Int} (hB:mB T n w f) (hF:smF n w F R) (he:∀ (top:Int) (K:Nat) (t:Int),dv top n w K t f↔dv top n w K t F) {i:Nat} (hi:i<R.length):(at0 R i).natAbs≤T:=by
 refine Nat.le_of_not_lt fun hlt => ?_
 have l1:=hF.l1
 have l2:=hF.l2
 have h0:∀ (t:Int) (K:Nat) (g:Nat→Nat→Int),dv 0 n w K t g↔mD t n w K g:=fun t K g=>⟨dv_mD,fun h Z=>mD_congr (fun a b _ _=>by simp) h⟩
 -- the divisor divides all minors of i+1 rows,so they are 0
 have h1:mD (F i i) n w (i+1) F:=by
  intro A C hA hC hr hc
  by_cases hn:A.Nodup
  ·obtain ⟨m,hm,him⟩:=nodup_big hn (show i<A.length by omega)
   refine Int.dvd_trans (prL_mem (e:=fun a=>if i≤a then F i i else 1) hm ?_) (dtL_rowdvd (by omega) fun a ha b hb => ?_)
   ·show F i i∣if i≤m then F i i else 1
    rw [if_pos him]
    exact Int.dvd_refl _
   ·show (if i≤a then F i i else 1)∣F a b
    by_cases e:i≤a
    ·rw [if_pos e,hF.d a b (hr a ha) (hc b hb)]
     by_cases e2:a=b∧a<R.length
     ·rw [if_pos e2]
      by_cases e3:i=a
      ·rw [e3]; exact Int.dvd_refl _
      ·exact hF.c i a (by omega) e2.2
     ·rw [if_neg e2]; exact Int.dvd_zero _
    ·rw [if_neg e]; exact Int.one_dvd _
  ·rw [dtL_dup hn]
   exact Int.dvd_zero _
 have h2:=(h0 _ _ _).1 ((he 0 (i+1) (F i i)).2 ((h0 _ _ _).2 h1))
 have h3:mD 0 n w (i+1) f:=fun A C hA hC hr hc=>by
  have hz:dtL f A C=0:=by
   by_cases hn:A.Nodup
   ·by_cases hn2:C.Nodup
    ·have hb:=hB A C (by omega) hn hn2 hr hc
     obtain ⟨q,hq⟩:=h2 A C hA hC hr hc
     have hv:=(hF.v i hi).1
     rw [hv,Int.natAbs_natCast] at hlt
     by_cases hq0:q=0
     ·rw [hq,hq0,Int.mul_zero]
     ·exfalso
      rw [hq,Int.natAbs_mul] at hb
      have:1≤q.natAbs:=by omega
      have:=Nat.le_mul_of_pos_right (F i i).natAbs this
      omega
    ·exact dtL_cdup (by omega) hn2
   ·exact dtL_dup hn
  rw [hz]
  exact Int.dvd_zero 0
 have h4:=(h0 _ _ _).1 ((he 0 (i+1) 0).1 ((h0 _ _ _).2 h3)) (List.range (i+1)) (List.range (i+1)) (by simp) (by simp) (fun r hr=>by have:=List.mem_range.1 hr; omega) fun c hc=>by have:=List.mem_range.1 hc; omega
 have e:dtL F (List.range (i+1)) (List.range (i+1))=prS (fun a=>F a a) (i+1):=by
  rw [dtL_diag (d:=fun a=>F a a) List.nodup_range fun a ha b hb => ?_]
  ·exact prL_range _ _
  ·have:=List.mem_range.1 ha
   have:=List.mem_range.1 hb
   rw [hF.d a b (by omega) (by omega)]
   by_cases e:a=b
   ·rw [if_pos ⟨e,by omega⟩,if_pos e]
   ·rw [if_neg fun h=>e h.1,if_neg e]
 rw [e,Int.zero_dvd] at h4
 have key:∀ m,m≤i+1→prS (fun a=>F a a) m≠0:=by
  intro m
  induction m with
  | zero=>intro _ hh; exact absurd hh (by simp [prS])
  | succ m ih =>
   intro hm hh
   have h5:=ih (by omega)
   have h6:=(hF.v m (by omega)).2
   simp only [prS] at hh
   rcases Int.mul_eq_zero.1 hh with h7 | h7
   ·first
     | exact h5 h7
     | exact h6 h7
   ·first
     | exact h6 h7
     | exact h5 h7
 exact key _ (Nat.le_refl _) h4
theorem bsm_spec {q:Int→Prop} {k:Nat} (hk:1≤k∧k≤6):(∀ d∈bsm (szS q ((k:Int)-1)) (szS q k),d=1∨d=2)∧∀ p,fpP p→rkZ p q k=cntU p (bsm (szS q ((k:Int)-1)) (szS q k)):=by
 have hs:=(bsm_sz (q:=q) hk).1
 by_cases h0:szS q ((k:Int)-1)=[]
 ·rw [h0,bsm_nil]
  refine ⟨by simp,fun p hp => ?_⟩
  unfold rkZ
  rw [h0]
  show ((rnk p []:Nat):Int)=_
  rw [rnk_nil]
  rfl
 have hpos:=List.length_pos_iff.2 h0
 obtain ⟨M,hM⟩:∃ M,sgnM (szS q ((k:Int)-1)) (szS q k)=M:=⟨_,rfl⟩
 obtain ⟨R,hR⟩:∃ R,bsm (szS q ((k:Int)-1)) (szS q k)=R:=⟨_,rfl⟩
 have hrow:∀ i,i<M.length→(atR M i).length=(atR M 0).length:=fun i hi=>by
  rw [← hM] at hi ⊢
  rw [sgnM_rows i hi,sgnM_rows 0 (by omega)]
 have hmB:mB 2 M.length (wdM M) (ent M):=by
  have h1:=bor_mB (k:=k) hk (R:=szS q ((k:Int)-1)) (C:=szS q k) (setsOf_nodup _) (setsOf_nodup _) (fun r hr=>by obtain ⟨a,_,b⟩:=mem_szS.1 hr; exact ⟨a,b⟩) (fun r hr=>by obtain ⟨a,_,b⟩:=mem_szS.1 hr; exact ⟨a,b⟩)
  have e1:M.length=(szS q ((k:Int)-1)).length:=by rw [← hM,sgnM_len]
  have e2:wdM M=(szS q k).length:=by
   unfold wdM
   rw [← hM,sgnM_at hpos]
   simp
  rw [e1,e2,← hM]
  exact h1
 rw [hM,hR] at hs
 have hcase:R=[]∨smV M.length (wdM M) (ent M)=some R:=by
  unfold smsV at hs
  by_cases hc:M≠[]∧smiM M
  ·rw [if_pos hc] at hs; exact .inr hs
  ·rw [if_neg hc] at hs
   exact .inl (Option.some.inj hs).symm
 obtain ⟨S,hS,hSi⟩:=smith2 hmB
 have hnn:M≠[]:=fun e=>by
  have:M.length=0:=by rw [e]; rfl
  rw [← hM,sgnM_len] at this
  omega
 have hsm:smV M.length (wdM M) (ent M)=some R:=by
  unfold smsV at hs
  by_cases hc:M≠[]∧smiM M
  ·rw [if_pos hc] at hs; exact hs
  ·refine absurd ⟨hnn,?_⟩ hc
   rw [← hM]
   exact bor_smi hk (setsOf_nodup _) (setsOf_nodup _) (fun r hr=>by obtain ⟨a,_,b⟩:=mem_szS.1 hr; exact ⟨a,b⟩) (fun r hr=>by obtain ⟨a,_,b⟩:=mem_szS.1 hr; exact ⟨a,b⟩) hpos
 rw [hR]
 obtain ⟨qq,hq⟩:=smV_iff.1 hsm
 obtain ⟨F,hF,he⟩:=smR_spec qq (ent M) 0 [] R (Nat.zero_le _) (Nat.zero_le _) ⟨fun a b _ _ h=>by omega,rfl,fun i hi=>by omega,fun i j _ hj=>by omega,fun i hi=>by omega⟩ hq
 refine ⟨fun d hd => ?_,fun p hp => ?_⟩
 ·obtain ⟨i,hi,e⟩:=List.getElem_of_mem hd
  have h1:=smith_le hmB hF he hi
  have h2:=hF.v i hi
  rw [at0_eq hi,e] at h1 h2
  omega
 ·unfold rkZ
  rw [hM,rnk_smith hp hrow hsm]
theorem cntU_all {R:List Int} (h:∀ d∈R,d=1∨d=2):cntU 3 R=R.length:=by
 unfold cntU
 rw [List.filter_eq_self.2 fun d hd=>by
  rcases h d hd with rfl | rfl
  ·decide
  ·decide]
theorem rkS_three (q:Int→Prop) {k:Nat} (hk:k≤7):rkS q k=rkZ 3 q k:=by
 by_cases h0:k=0
 ·subst h0
  exact (rkS_low q).trans (rkZ_low 3 q).symm
 ·by_cases h7:k=7
  ·subst h7
   have:=(topZ_bnd q).2
   rw [rkS_high q (by omega),rkZ_high 3 q (by omega)]
  ·obtain ⟨h1,h2⟩:=bsm_spec (q:=q) (k:=k) ⟨by omega,by omega⟩
   unfold rkS
   rw [h2 3 (by right; left; rfl),cntU_all h1]
theorem frV_nn {q:Int→Prop} (hq:∀ s t,isS s→isS t→subS s t→q t→q s) {k:Nat} (hk:k≤6):0≤frV q k∧frV q k≤20:=by
 have h1:frV q k=holV 3 q k:=by
  unfold frV holV
  rw [rkS_three q (show k≤7 by omega)]
  have:=rkS_three q (show k+1≤7 by omega)
  rw [show ((k+1:Nat):Int)=(k:Int)+1 by omega] at this
  rw [this]
 have h2:=hol_nn (p:=3) (q:=q) (by right; left; rfl) hq k
 have h3:=szl_len (k:=k) hk (R:=szS q k) (setsOf_nodup _) fun r hr=>by obtain ⟨a,_,b⟩:=mem_szS.1 hr; exact ⟨a,b⟩
 have h4:=(rkS_bnd q k).1
 have h5:=(rkS_bnd q (k+1)).1
 refine ⟨by omega,?_⟩
 unfold frV
 omega
theorem sms_chain {M:List (List Int)} {R:List Int} (h:smsV M=some R):(∀ i,i<R.length→1≤at0 R i)∧∀ i j,i<j→j<R.length→at0 R i∣at0 R j:=by
 by_cases hc:M≠[]∧smiM M
 ·unfold smsV at h
  rw [if_pos hc] at h
  obtain ⟨q,hq⟩:=smV_iff.1 h
  obtain ⟨F,hF,_⟩:=smR_spec q (ent M) 0 [] R (Nat.zero_le _) (Nat.zero_le _) ⟨fun a b _ _ h=>by omega,rfl,fun i hi=>by omega,fun i j _ hj=>by omega,fun i hi=>by omega⟩ hq
  refine ⟨fun i hi => ?_,fun i j hij hj => ?_⟩
  ·have:=hF.v i hi
   omega
  ·rw [(hF.v i (by omega)).1,(hF.v j hj).1]
   have:=hF.c i j hij hj
   rw [← Int.natAbs_dvd_natAbs] at this
   exact Int.ofNat_dvd.2 this
 ·unfold smsV at h
  rw [if_neg hc] at h
  simp only [Option.some.injEq] at h
  subst h
  exact ⟨fun i hi=>by simp at hi,fun i j _ hj=>by simp at hj⟩
theorem sms_rank {M:List (List Int)} {R:List Int} (h:smsV M=some R) (h0:R≠[]):M≠[]∧smiM M∧∀ p,fpP p→rnk p M=cntU p R:=by
 by_cases hc:M≠[]∧smiM M
 ·refine ⟨hc.1,hc.2,fun p hp => ?_⟩
  unfold smsV at h
  rw [if_pos hc] at h
  have hr:=hc.2.1.2.1
  have hpos:0<M.length:=List.length_pos_iff.2 hc.1
  exact rnk_smith hp (fun i hi=>by rw [hr i hi,hr 0 hpos]) h
 ·unfold smsV at h
  rw [if_neg hc] at h
  exact absurd (Option.some.inj h).symm h0
def cntP2 (p:Int) (R:List Int):Nat:=(R.filter fun d=>decide (p∣d)).length
theorem cnt_two (p:Int) (R:List Int):cntU p R+cntP2 p R=R.length:=by
 unfold cntU cntP2
 induction R with
 | nil=>rfl
 | cons a R ih =>
  rw [List.filter_cons,List.filter_cons]
  by_cases h:p∣a
  ·rw [if_neg (by simpa using h),if_pos (by simpa using h),List.length_cons,List.length_cons]; omega
  ·rw [if_pos (by simpa using h),if_neg (by simpa using h),List.length_cons,List.length_cons]; omega
theorem cntP2_tw {p:Int} (hp:fpP p) (R:List Int) (h:∀ d∈R,d=1∨d=2):cntP2 p (R.filter fun d=>decide (1<d))=cntP2 p R:=by
 unfold cntP2
 rw [List.filter_filter]
 congr 1
 refine List.filter_congr fun d hd => ?_
 rcases h d hd with rfl | rfl
 ·have:¬p∣1:=(field_fp hp).1
  simp [this]
 ·simp
theorem tw_cnt {n:Int} {l:List Int} (hc:cplx n l) {p:Int} (hp:fpP p) {k:Nat} (hk:k≤7):rkS (faceS l) k-rkZ p (faceS l) k=(cntP2 p (twL n l ((k:Int)-1)):Nat):=by
 by_cases h0:1≤k∧k≤6
 ·obtain ⟨h1,h2⟩:=bsm_spec (q:=faceS l) (k:=k) h0
  have e:twL n l ((k:Int)-1)=(bsm (szS (faceS l) ((k:Int)-1)) (szS (faceS l) ((k:Int)-1+1))).filter fun d=>decide (1<d):=if_pos ⟨hc,by omega,by omega⟩
  rw [show (k:Int)-1+1=k by omega] at e
  rw [e,cntP2_tw hp _ h1,h2 p hp]
  unfold rkS
  have:=cnt_two p (bsm (szS (faceS l) ((k:Int)-1)) (szS (faceS l) k))
  omega
 ·have e:twL n l ((k:Int)-1)=[]:=if_neg fun h=>by omega
  rw [e]
  have hz:(cntP2 p []:Nat)=0:=rfl
  rw [hz]
  by_cases h1:k=0
  ·subst h1
   have a1:=rkS_low (faceS l)
   have a2:=rkZ_low p (faceS l)
   simp only [Int.natCast_zero] at *
   omega
  ·have h7:k=7:=by omega
   subst h7
   have:=(topZ_bnd (faceS l)).2
   rw [rkS_high _ (by omega),rkZ_high p _ (by omega)]
   rfl
theorem hol_free {n:Int} {l:List Int} (hc:cplx n l) {p:Int} (hp:fpP p) {i:Nat} (hi:i<(frL n l).length):(hmL n l p).length=(frL n l).length∧at0 (hmL n l p) i=at0 (frL n l) i+(cntP2 p (twL n l i):Nat)+(cntP2 p (twL n l ((i:Int)-1)):Nat):=by
 have e1:frL n l=frZ (faceS l):=if_pos hc
 have e2:hmL n l p=holL p (faceS l):=if_pos ⟨hc,hp⟩
 have htb:=topZ_bnd (faceS l)
 have hlen:(frL n l).length=(topZ (faceS l)+1).toNat:=by rw [e1]; unfold frZ; rw [rowF_len]
 rw [hlen] at hi
 refine ⟨by rw [hlen,e2]; unfold holL; rw [rowF_len],?_⟩
 have f1:at0 (frL n l) i=frV (faceS l) i:=by rw [e1]; exact rowF_at hi
 have f2:at0 (hmL n l p) i=holV p (faceS l) i:=by rw [e2]; exact rowF_at hi
 have t1:=tw_cnt hc hp (k:=i) (by omega)
 have t2:=tw_cnt hc hp (k:=i+1) (by omega)
 rw [show ((i+1:Nat):Int)=(i:Int)+1 by omega,show (i:Int)+1-1=i by omega] at t2
 rw [f1,f2]
 unfold frV holV
 omega
end Go.Proofs.YtkoljbncokmeaaaGreatDoor
