import Derived.Test.YtkoljbncokmeaaaGreatDoorMEE
namespace Go.Proofs.YtkoljbncokmeaaaGreatDoor
open Go Go.RowKit
set_option maxRecDepth 1000000
set_option linter.unusedSimpArgs false
set_option linter.unusedVariables false
set_option maxHeartbeats 1000000
def sc_s_FacesOfSize_L0:SC:=(.seq (.seq (.reg [⟨some 11,none,.mov (.t 7)⟩,⟨some 12,none,.mov (.t 6)⟩,⟨some 13,none,.len (.t 12)⟩,⟨some 14,none,.bin false .lss (.t 11) (.t 13)⟩]) (.cond (.t 14) .skip (.exit 0))) (.seq (.block 1 (.seq (.reg [⟨some 17,none,.mov (.t 6)⟩,⟨some 18,none,.mov (.t 7)⟩,⟨some 19,none,.idx 1 (.t 17) (.t 18)⟩,⟨some 20,none,.ld none (.int .i64 0) (.t 19)⟩,⟨some 21,none,.call 81 [.t 20]⟩,⟨some 22,none,.mov (.t 1)⟩,⟨some 23,none,.bin false .eql (.t 21) (.t 22)⟩]) (.cond (.t 23) (.reg [⟨some 24,none,.mov (.t 5)⟩,⟨some 25,none,.mov (.t 6)⟩,⟨some 26,none,.mov (.t 7)⟩,⟨some 27,none,.idx 1 (.t 25) (.t 26)⟩,⟨some 28,none,.ld none (.int .i64 0) (.t 27)⟩,⟨some 29,none,.mks 1 1 [.int .i64 0] [(0,(1,(.t 28)))]⟩,⟨some 30,none,.app 1 8 (.t 24) (.t 29)⟩,⟨some 5,none,.mov (.t 30)⟩]) .skip))) (.reg [⟨some 15,none,.mov (.t 7)⟩,⟨some 16,none,.bin false .add (.t 15) (.c (.int .i64 1))⟩,⟨some 7,none,.mov (.t 16)⟩])))
def sc_s_FacesOfSize:SC:=(.seq (.reg [⟨some 2,none,.box (.t 0)⟩,⟨some 4,none,.mov (.c .nil)⟩]) (.seq (.reg [⟨some 8,none,.mks 0 1 [] []⟩,⟨some 5,none,.mov (.t 8)⟩]) (.seq (.reg [⟨some 9,none,.ld (some 2) .undef (.t 2)⟩,⟨some 10,none,.call 80 [.t 9]⟩,⟨some 6,none,.mov (.t 10)⟩]) (.seq (.seq (.reg [⟨some 7,none,.mov (.c (.int .i64 0))⟩]) (.block 0 (.loop sc_s_FacesOfSize_L0))) (.seq (.reg [⟨some 31,none,.mov (.t 5)⟩,⟨some 4,none,.mov (.t 31)⟩]) .ret)))))
theorem code_s_FacesOfSize:fnCode Tryz.prog [] 52=some (32,sc_s_FacesOfSize,[(4,none)]):=by kernel_rfl
noncomputable def fosL (n:Int) (l:List Int) (k:Int):List Int:=setsOf fun s=>cplx n l∧faceS l s∧sz s=k
theorem fosL_not {n:Int} {l:List Int} {k:Int} (h:¬cplx n l):fosL n l k=[]:=setsOf_nil.2 fun _ _ a=>h a.1
theorem fosL_of {n:Int} {l:List Int} {k:Int} (h:cplx n l):fosL n l k=setsOf fun s=>faceS l s∧sz s=k:=setsOf_congr fun s _=>⟨fun a=>a.2,fun a=>⟨h,a⟩⟩
theorem fosL_filt (n:Int) (l:List Int) (k:Int):fosL n l k=(facesL n l).filter fun s=>dec (sz s=k):=by
 by_cases hc:cplx n l
 ·rw [facesL_of hc,fosL_of hc,filt_setsOf]
 ·rw [facesL_not hc,fosL_not hc]
  rfl
noncomputable def F_s_FacesOfSize:List V→Option V:=F2 dC dI fun c k=>some (.own 1 (ints (fosL c.1 c.2 k)))
theorem fn_s_FacesOfSize:FnOk Tryz.prog 52 F_s_FacesOfSize:=by
 have env:=((envNil_ok (P:=Tryz.prog)).add fn_s_l2Size).add fn_s_FacesOf
 refine fn_ok code_s_FacesOfSize mixed env ?_
 intro args r h hb
 obtain ⟨_,_,⟨n,l⟩,z,rfl,h1,h2,h4⟩:=F2_inv h
 cases dC_inv h1
 cases dI_inv h2
 cases h4
 clear h
 refine ⟨by simp,fun w0 U0 L0 N0 => ?_⟩
 clear hb
 simp -implicitDefEqProofs [sc_s_FacesOfSize,F_s_FacesOf]
 have hL:allS (facesL n l):=allS_setsOf _
 have hLl:(facesL n l).length≤64:=setsOf_len _
 rw [fosL_filt]
 generalize facesL n l=L at *
 generalize hq:(fun s=>dec (sz s=z))=q
 refine loopI env mixed (fun k:Nat=>[(1,.int .i64 z),(5,.sl 1 1 0 ((L.take k).filter q).length),(6,.sl 2 1 0 L.length),(7,.int .i64 (k:Int))]) (fun k=>([(2,ints L),(1,ints ((L.take k).filter q)),(0,[.int .i64 n,.list 1 (ints l)])],3)) (fun k=>k≤L.length) (fun k=>L.length-k) 0 (by simp) (SubI.slots (by simp) (by simp)) ?_
 intro k hk
 have gl:=filt_len L k q
 by_cases hlt:k<L.length
 ·have hf:=allS_at hL hlt
  have r1:at0 L k<9223372036854775808:=by have:=hf.2; omega
  by_cases h1:sz (at0 L k)=z
  ·have e:=filt_pos hlt (q:=q) (by rw [← hq]; exact dec_true h1)
   generalize (L.take k).filter q=g at *
   simp -implicitDefEqProofs [sc_s_FacesOfSize_L0,F_s_l2Size,hlt,r1,h1]
   repeat' (first | omega | apply And.intro)
   refine Again.of (k+1) (by omega) (by omega) (SubI.ren (fun m=>if m=0 then some 0 else if m=1 then some 4 else if m=2 then some 2 else none) ?_ ?_ ?_ (by simp) (by simp))
   ·simp only [e]
    simp (disch:=omega) [subT,renV,ren1,wrapI]
   ·simp only [e]
    simp [subH,renL,ren1]
    rw [← ints_app]
    rfl
   ·intro m hm
    simp only at hm
    rw [if_neg (by omega),if_neg (by omega),if_neg (by omega)]
  ·have e:=filt_neg hlt (q:=q) (by rw [← hq]; exact dec_false h1)
   generalize (L.take k).filter q=g at *
   simp -implicitDefEqProofs [sc_s_FacesOfSize_L0,F_s_l2Size,hlt,r1,h1]
   repeat' (first | omega | apply And.intro)
   exact Again.of (k+1) (by omega) (by omega) (SubI.slots (by simp only [e]) (by simp only [e]; simp (disch:=omega) [wrapI]))
 ·have:k=L.length:=by omega
  subst this
  simp -implicitDefEqProofs [sc_s_FacesOfSize_L0]
noncomputable def bySz (p:Int→Prop) (m k:Nat):List (List Int):=(List.range m).map fun (z:Nat)=>upS (fun s=>p s∧sz s=(z:Int)) k
@[simp] theorem bySz_len (p:Int→Prop) (m k:Nat):(bySz p m k).length=m:=by simp [bySz]
theorem bySz_at {p:Int→Prop} {m k z:Nat} (h:z<m):atR (bySz p m k) z=upS (fun s=>p s∧sz s=(z:Int)) k:=by
 rw [atR_eq (by simpa using h)]
 simp [bySz]
theorem bySz_none (p:Int→Prop) (m:Nat):bySz p m 0=List.replicate m []:=by
 apply List.ext_getElem (by simp)
 intro j h1 h2
 simp [bySz,upS]
theorem bySz_skip {p:Int→Prop} {m k:Nat} (h:¬p (k:Int)):bySz p m (k+1)=bySz p m k:=by
 unfold bySz
 refine List.map_congr_left fun z _ => ?_
 rw [upS_neg fun h2=>h h2.1]
theorem bySz_step {p:Int→Prop} {m k z:Nat} (hp:p (k:Int)) (hz:sz (k:Int)=(z:Int)):(bySz p m k).set z (upS (fun s=>p s∧sz s=(z:Int)) k++[(k:Int)])=bySz p m (k+1):=by
 apply List.ext_getElem (by simp)
 intro j h1 h2
 rw [List.getElem_set]
 simp only [bySz,List.getElem_map,List.getElem_range]
 by_cases e:z=j
 ·subst e
  rw [if_pos rfl,upS_pos ⟨hp,hz⟩]
 ·rw [if_neg e,upS_neg fun h2=>e (by have:=h2.2; omega)]
theorem upS_sets (p:Int→Prop) (z:Int):upS (fun s=>p s∧sz s=z) 64=setsOf fun s=>p s∧sz s=z:=by
 refine sorted_ext ?_ (setsOf_sorted _) fun x=>by rw [mem_upS64,mem_setsOf]
 refine upS_sorted.imp_of_mem ?_
 intro a b ha hb hab
 have h1:=(mem_upS64.1 ha).2.2
 have h2:=(mem_upS64.1 hb).2.2
 simp only [before,decide_eq_true_eq]
 omega
theorem bySz_sets {p:Int→Prop} {m z:Nat} (h:z<m):atR (bySz p m 64) z=setsOf fun s=>p s∧sz s=(z:Int):=by rw [bySz_at h,upS_sets]
noncomputable def bySR (p:Int→Prop):List (List Int):=bySz p (topZ p+1).toNat 64
theorem bySR_congr {p q:Int→Prop} (h:∀ s,isS s→(p s↔q s)):bySR p=bySR q:=by
 unfold bySR bySz
 rw [topZ_congr h]
 refine List.map_congr_left fun z _ => ?_
 exact upS_congr (Nat.le_refl _) fun s hs=>by rw [h s hs]
noncomputable def bySG (f:Int):Option V:=@ite _ (0≤f∧f<18446744073709551616) (Classical.propDecidable _) (some (.own 1 (rowsV (bySR (bitP f))))) none
theorem bySG_fam (p:Int→Prop):bySG (fam p)=some (.own 1 (rowsV (bySR p))):=by
 unfold bySG
 rw [if_pos ⟨fam_nn p,fam_lt p⟩,bySR_congr fun s hs=>bitP_fam hs]
noncomputable def F_i_bySize:List V→Option V:=F1 dU bySG
def sc_i_bySize_L0:SC:=(.seq (.seq (.reg [⟨some 10,none,.mov (.t 4)⟩,⟨some 11,none,.bin false .lss (.t 10) (.c (.int .i64 64))⟩]) (.cond (.t 11) .skip (.exit 0))) (.seq (.block 1 (.seq (.reg [⟨some 14,none,.mov (.t 0)⟩,⟨some 15,none,.mov (.t 4)⟩,⟨some 16,none,.call 68 [.t 14,.t 15]⟩]) (.cond (.t 16) (.seq (.reg [⟨some 17,none,.mov (.t 4)⟩,⟨some 18,none,.call 69 [.t 17]⟩,⟨some 5,none,.mov (.t 18)⟩]) (.reg [⟨some 19,none,.mov (.t 3)⟩,⟨some 20,none,.mov (.t 5)⟩,⟨some 21,none,.mov (.t 3)⟩,⟨some 22,none,.mov (.t 5)⟩,⟨some 23,none,.idx 1 (.t 21) (.t 22)⟩,⟨some 24,none,.ld none .nil (.t 23)⟩,⟨some 25,none,.mov (.t 4)⟩,⟨some 26,none,.mks 1 1 [.int .i64 0] [(0,(1,(.t 25)))]⟩,⟨some 27,none,.app 1 8 (.t 24) (.t 26)⟩,⟨some 28,none,.idx 1 (.t 19) (.t 20)⟩,⟨none,none,.st 1 (.t 28) (.t 27)⟩])) .skip))) (.reg [⟨some 12,none,.mov (.t 4)⟩,⟨some 13,none,.bin false .add (.t 12) (.c (.int .i64 1))⟩,⟨some 4,none,.mov (.t 13)⟩])))
def sc_i_bySize:SC:=(.seq (.reg [⟨some 2,none,.mov (.c .nil)⟩]) (.seq (.reg [⟨some 6,none,.mov (.t 0)⟩,⟨some 7,none,.call 67 [.t 6]⟩,⟨some 8,none,.bin false .add (.t 7) (.c (.int .i64 1))⟩,⟨some 9,none,.mk 1 24 [.nil] (.t 8) (.t 8)⟩,⟨some 3,none,.mov (.t 9)⟩]) (.seq (.seq (.reg [⟨some 4,none,.mov (.c (.int .i64 0))⟩]) (.block 0 (.loop sc_i_bySize_L0))) (.seq (.reg [⟨some 29,none,.mov (.t 3)⟩,⟨some 2,none,.mov (.t 29)⟩]) .ret))))
theorem code_i_bySize:fnCode Tryz.prog [] 34=some (30,sc_i_bySize,[(2,none)]):=by kernel_rfl
theorem fn_i_bySize:FnOk Tryz.prog 34 F_i_bySize:=by
 have env:=(((envNil_ok (P:=Tryz.prog)).add fn_i_topSize).add fn_i_hasSet).add fn_i_SizeOf
 refine fn_ok code_i_bySize mixed env ?_
 intro args r h hb
 obtain ⟨_,f,rfl,h1,h4⟩:=F1_inv h
 cases dU_inv h1
 clear h
 simp only [bySG,Option.ite_none_right_eq_some,Option.some.injEq] at h4
 obtain ⟨⟨hf1,hf2⟩,rfl⟩:=h4
 have hf:=fam_bitP hf1 hf2
 generalize bitP f=p at *
 subst hf
 refine ⟨by simp,fun w0 U0 L0 N0 => ?_⟩
 clear hb
 have hg:=topG_fam p
 have htb:=topZ_bnd p
 have htg:∀ s,isS s→p s→sz s≤topZ p:=fun s hs hp=>topZ_ge hs hp
 unfold bySR
 obtain ⟨m,hm⟩:∃ m:Nat,topZ p+1=m:=⟨(topZ p+1).toNat,by omega⟩
 have hm2:(topZ p+1).toNat=m:=by omega
 rw [hm2]
 have hw:IntKind.i64.wrap (topZ p+1)=m:=by rw [wrapI _ (by omega) (by omega),hm]
 simp -implicitDefEqProofs [sc_i_bySize,F_i_topSize,hg,hw]
 repeat' (first | omega | apply And.intro)
 refine loopI env mixed (fun k:Nat=>[(0,.int .u64 (fam p)),(3,.sl 0 1 0 m),(4,.int .i64 (k:Int))]) (fun k=>([(0,rowsV (bySz p m k))],1)) (fun k=>k≤64) (fun k=>64-k) 0 (by simp) (SubI.nilAll 0 1 (by simp; rfl) (by simp) (SubI.slots (by simp [bySz_none,rowsV]) (by simp))) ?_
 intro k hk
 by_cases hlt:k<64
 ·have hlt':(k:Int)<64:=by omega
  have hkS:=inS k hlt
  have hgs:=hasG_fam (p:=p) hkS
  by_cases hp:p (k:Int)
  ·rw [dec_true hp] at hgs
   have r1:=sizeOf1_set hkS.1 hkS.2
   obtain ⟨z,hz⟩:∃ z:Nat,sz (k:Int)=z:=⟨(sz (k:Int)).toNat,by have:=sz_nn (k:Int); omega⟩
   have hle:=htg _ hkS hp
   have hzm:z<m:=by omega
   rw [hz] at r1
   have hst:=bySz_step (m:=m) hp hz
   have hat:=bySz_at (p:=p) (k:=k) hzm
   have hul:=upS_len (fun s=>p s∧sz s=(z:Int)) k
   generalize upS (fun s=>p s∧sz s=(z:Int)) k=R at *
   have hg2:=rowsV_getD (m:=bySz p m k) (i:=z) .nil (by simpa using hzm)
   rw [hat] at hg2
   simp -implicitDefEqProofs [sc_i_bySize_L0,F_i_hasSet,F_i_SizeOf,hlt',hgs,r1,hzm,hat]
   have e3:ints R++[V.int .i64 (k:Int)]=ints (R++[(k:Int)]):=by rw [← ints_app]; rfl
   rw [e3]
   refine ⟨by omega,by omega,Again.of (k+1) (by omega) (by omega) ?_⟩
   refine SubI.fold 0 3 z 1 (R.length+1) (cn:=ints (R++[(k:Int)])) (co:=(rowsV (bySz p m k)).set z (.sl 3 1 0 (R.length+1))) (by simp) (by simp) (by simp [hzm]) (by simp) ?_
   refine SubI.ren (fun m=>if m=0 then some 0 else none) ?_ ?_ ?_ (by simp) (by simp)
   ·simp (disch:=omega) [subT,renV,ren1,wrapI]
   ·simp [subH,hst]
   ·intro m hm
    simp only at hm
    rw [if_neg (by omega)]
  ·rw [dec_false hp] at hgs
   have e:=bySz_skip (m:=m) hp
   simp -implicitDefEqProofs [sc_i_bySize_L0,F_i_hasSet,hlt',hgs]
   repeat' (first | omega | apply And.intro)
   exact Again.of (k+1) (by omega) (by omega) (SubI.slots (by simp [e]) (by simp (disch:=omega) [wrapI]))
 ·have:k=64:=by omega
  subst this
  have ht:(bySz p m 64).take m=bySz p m 64:=List.take_of_length_le (by simp)
  simp -implicitDefEqProofs [sc_i_bySize_L0,ht]
noncomputable def cntZ (l:List Int) (z:Nat):Int:=((l.filter fun s=>dec (sz s=(z:Int))).length:Nat)
noncomputable def szRow (m:Nat) (l:List Int):List Int:=(List.range m).map fun z=>cntZ l z
@[simp] theorem szRow_take (m:Nat) (l:List Int):(szRow m l).take m=szRow m l:=List.take_of_length_le (by simp [szRow])
@[simp] theorem szRow_len (m:Nat) (l:List Int):(szRow m l).length=m:=by simp [szRow]
theorem at0_szRow {m z:Nat} (l:List Int) (h:z<m):at0 (szRow m l) z=cntZ l z:=by simp [szRow,at0,h]
theorem cntZ_bnd (l:List Int) (k z:Nat):0≤cntZ (l.take k) z∧cntZ (l.take k) z≤k:=by
 unfold cntZ
 have h2:(l.take k).length≤k:=by simp; omega
 have h3:=List.length_filter_le (fun s=>dec (sz s=(z:Int))) (l.take k)
 omega
theorem szRow_step {m:Nat} {l:List Int} {k z:Nat} (h:k<l.length) (hz:sz (at0 l k)=(z:Int)) (hm:z<m):(szRow m (l.take k)).set z (cntZ (l.take k) z+1)=szRow m (l.take (k+1)):=by
 apply at0_ext (by simp)
 intro j hj
 simp only [List.length_set,szRow_len] at hj
 rw [at0_set,at0_szRow _ hj,at0_szRow _ hj]
 by_cases e:z=j
 ·subst e
  rw [if_pos ⟨rfl,by simpa using hj⟩]
  unfold cntZ
  rw [filt_pos h (dec_true hz),List.length_append]
  simp
 ·rw [if_neg fun h=>e h.1]
  unfold cntZ
  rw [filt_neg h (dec_false fun h2=>e (by omega))]
noncomputable def szS (q:Int→Prop) (z:Int):List Int:=setsOf fun s=>q s∧sz s=z
theorem mem_szS {q:Int→Prop} {z s:Int}:s∈szS q z↔isS s∧q s∧sz s=z:=mem_setsOf
theorem szS_len (q:Int→Prop) (z:Int):(szS q z).length≤64:=setsOf_len _
theorem szS_ok (q:Int→Prop) (z:Int):∀ r∈szS q (z-1),∀ s∈szS q z,isS r∧isS s∧sz s=sz r+1:=fun r hr s hs=>by
 obtain ⟨a,_,b⟩:=mem_szS.1 hr
 obtain ⟨c,_,d⟩:=mem_szS.1 hs
 exact ⟨a,c,by omega⟩
theorem szS_fos {n:Int} {l:List Int} (hc:cplx n l) (z:Int):fosL n l z=szS (faceS l) z:=fosL_of hc
theorem szS_by {q:Int→Prop} {m z:Nat} (h:z<m):atR (bySz q m 64) z=szS q z:=bySz_sets h
theorem szS_none {q:Int→Prop} {z:Int} (h:¬(0≤z∧z≤topZ q)):szS q z=[]:=setsOf_nil.2 fun s hs hp=>h (by
 have h1:=topZ_ge hs hp.1
 have h2:=sz_nn s
 have h3:=hp.2
 omega)
def sc_i_FacesOfSize:SC:=(.seq (.reg [⟨some 2,none,.box (.t 0)⟩,⟨some 4,none,.mov (.c .nil)⟩]) (.seq (.seq (.reg [⟨some 6,none,.ld (some 2) .undef (.t 2)⟩,⟨some 7,none,.call 33 [.t 6]⟩,⟨some 8,none,.un .not (.t 7)⟩]) (.cond (.t 8) (.seq (.reg [⟨some 4,none,.mov (.c .nil)⟩]) .ret) .skip)) (.seq (.reg [⟨some 9,none,.ld (some 2) .undef (.t 2)⟩,⟨some 10,none,.call 35 [.t 9]⟩,⟨some 11,none,.call 34 [.t 10]⟩,⟨some 5,none,.mov (.t 11)⟩]) (.seq (.seq (.reg [⟨some 12,none,.mov (.t 1)⟩,⟨some 13,none,.bin false .lss (.t 12) (.c (.int .i64 0))⟩,⟨some 14,none,.mov (.t 13)⟩,⟨some 15,some (14,false),.mov (.t 1)⟩,⟨some 16,some (14,false),.mov (.t 5)⟩,⟨some 17,some (14,false),.len (.t 16)⟩,⟨some 18,some (14,false),.bin false .geq (.t 15) (.t 17)⟩,⟨some 19,none,.pick (.t 14) (.c (.bool true)) (.t 18)⟩]) (.cond (.t 19) (.seq (.reg [⟨some 4,none,.mov (.c .nil)⟩]) .ret) .skip)) (.seq (.reg [⟨some 20,none,.mov (.t 5)⟩,⟨some 21,none,.mov (.t 1)⟩,⟨some 22,none,.idx 1 (.t 20) (.t 21)⟩,⟨some 23,none,.ld none .nil (.t 22)⟩,⟨some 4,none,.mov (.t 23)⟩]) .ret)))))
theorem code_i_FacesOfSize:fnCode Tryz.prog [] 82=some (24,sc_i_FacesOfSize,[(4,none)]):=by kernel_rfl
theorem fos_none {n:Int} {l:List Int} {k:Int} (hc:cplx n l) (h:¬(0≤k∧k<topZ (faceS l)+1)):fosL n l k=[]:=by
 rw [fosL_of hc]
 refine setsOf_nil.2 fun s hs hp=>h ?_
 have h1:=topZ_ge hs hp.1
 have h2:=sz_nn s
 have h3:=hp.2
 omega
theorem fn_i_FacesOfSize:FnOk Tryz.prog 82 F_s_FacesOfSize:=by
 have env:=(((envNil_ok (P:=Tryz.prog)).add fn_i_IsComplex).add fn_i_facesIn).add fn_i_bySize
 refine fn_ok code_i_FacesOfSize mixed env ?_
 intro args r h hb
 obtain ⟨_,_,⟨n,l⟩,z,rfl,h1,h2,h4⟩:=F2_inv h
 cases dC_inv h1
 cases dI_inv h2
 cases h4
 clear h
 refine ⟨by simp,fun w0 U0 L0 N0 => ?_⟩
 clear hb
 cases e0:cplxB n l with
 | false =>
  have hc:¬cplx n l:=fun h=>by simp [cplxB_iff.2 h] at e0
  rw [fosL_not hc]
  simp -implicitDefEqProofs [sc_i_FacesOfSize,F_s_IsComplex,e0]
 | true =>
 have hc:=cplxB_iff.1 e0
 have hS:=cplx_isS hc
 have hg:=bySG_fam (faceS l)
 have htb:=topZ_bnd (faceS l)
 have hlen:((bySR (faceS l)).length:Int)=topZ (faceS l)+1:=by unfold bySR; rw [bySz_len]; omega
 by_cases h0:z<0
 ·rw [fos_none hc (by omega)]
  simp -implicitDefEqProofs [sc_i_FacesOfSize,F_s_IsComplex,F_i_facesIn,F_i_bySize,e0,hS,hg,h0]
 by_cases h2:((bySR (faceS l)).length:Int)≤z
 ·rw [fos_none hc (by omega)]
  simp -implicitDefEqProofs [sc_i_FacesOfSize,F_s_IsComplex,F_i_facesIn,F_i_bySize,e0,hS,hg,h0,h2]
 obtain ⟨k,rfl⟩:∃ k:Nat,z=k:=⟨z.toNat,by omega⟩
 have hk:k<(bySR (faceS l)).length:=by omega
 have hat:atR (bySR (faceS l)) k=fosL n l k:=by
  rw [fosL_of hc]
  unfold bySR at hk ⊢
  rw [bySz_len] at hk
  exact bySz_sets hk
 generalize fosL n l k=R at *
 generalize bySR (faceS l)=B at *
 simp -implicitDefEqProofs [sc_i_FacesOfSize,F_s_IsComplex,F_i_facesIn,F_i_bySize,e0,hS,hg,h0,h2,hk,hat]
def sc_s_l1Bit:SC:=(.seq (.reg [⟨some 2,none,.mov (.c (.int .i64 0))⟩]) (.seq (.seq (.reg [⟨some 3,none,.mov (.t 0)⟩]) (.cond (.t 3) (.seq (.reg [⟨some 2,none,.mov (.c (.int .i64 1))⟩]) .ret) .skip)) (.seq (.reg [⟨some 2,none,.mov (.c (.int .i64 0))⟩]) .ret)))
theorem code_s_l1Bit:fnCode Tryz.prog [] 38=some (4,sc_s_l1Bit,[(2,none)]):=by kernel_rfl
def F_s_l1Bit:List V→Option V:=F1 dB fun b=>some (.int .i64 (if b=true then 1 else 0))
theorem fn_s_l1Bit:FnOk Tryz.prog 38 F_s_l1Bit:=by
 refine fn_ok code_s_l1Bit mixed envNil_ok ?_
 intro args r h hb
 obtain ⟨_,b,rfl,h1,h4⟩:=F1_inv h
 cases dB_inv h1
 cases h4
 refine ⟨by simp,fun w0 U0 L0 N0 => ?_⟩
 cases b <;> simp -implicitDefEqProofs [sc_s_l1Bit]
def sc_s_IsFieldPrime:SC:=(.seq (.reg [⟨some 2,none,.mov (.c (.bool false))⟩]) (.seq (.reg [⟨some 3,none,.mov (.t 0)⟩,⟨some 4,none,.bin false .eql (.t 3) (.c (.int .i64 2))⟩,⟨some 5,none,.mov (.t 4)⟩,⟨some 6,some (5,false),.mov (.t 0)⟩,⟨some 7,some (5,false),.bin false .eql (.t 6) (.c (.int .i64 3))⟩,⟨some 8,none,.pick (.t 5) (.c (.bool true)) (.t 7)⟩,⟨some 9,none,.mov (.t 8)⟩,⟨some 10,some (9,false),.mov (.t 0)⟩,⟨some 11,some (9,false),.bin false .eql (.t 10) (.c (.int .i64 5))⟩,⟨some 12,none,.pick (.t 9) (.c (.bool true)) (.t 11)⟩,⟨some 2,none,.mov (.t 12)⟩]) .ret))
theorem code_s_IsFieldPrime:fnCode Tryz.prog [] 49=some (13,sc_s_IsFieldPrime,[(2,none)]):=by kernel_rfl
def fpP (p:Int):Prop:=p=2∨p=3∨p=5
noncomputable def F_s_IsFieldPrime:List V→Option V:=F1 dI fun p=>some (.bool (dec (fpP p)))
theorem fn_s_IsFieldPrime:FnOk Tryz.prog 49 F_s_IsFieldPrime:=by
 refine fn_ok code_s_IsFieldPrime mixed envNil_ok ?_
 intro args r h hb
 obtain ⟨_,p,rfl,h1,h4⟩:=F1_inv h
 cases dI_inv h1
 cases h4
 refine ⟨by simp,fun w0 U0 L0 N0 => ?_⟩
 by_cases h2:p=2
 ·subst h2
  have hd:=dec_true (show fpP 2 from .inl rfl)
  simp -implicitDefEqProofs [sc_s_IsFieldPrime,hd]
 by_cases h3:p=3
 ·subst h3
  have hd:=dec_true (show fpP 3 from .inr (.inl rfl))
  simp -implicitDefEqProofs [sc_s_IsFieldPrime,hd]
 by_cases h5:p=5
 ·subst h5
  have hd:=dec_true (show fpP 5 from .inr (.inr rfl))
  simp -implicitDefEqProofs [sc_s_IsFieldPrime,hd]
 have hd:dec (fpP p)=false:=dec_false fun h=>h.elim h2 fun h=>h.elim h3 h5
 simp -implicitDefEqProofs [sc_s_IsFieldPrime,h2,h3,h5,hd]
def rowF (m:Nat) (g:Nat→Int):List Int:=(List.range m).map g
@[simp] theorem rowF_len (m:Nat) (g:Nat→Int):(rowF m g).length=m:=by simp [rowF]
theorem rowF_at {m j:Nat} {g:Nat→Int} (h:j<m):at0 (rowF m g) j=g j:=by simp [rowF,at0,h]
theorem rowF_congr {m:Nat} {g h:Nat→Int} (e:∀ j,j<m→g j=h j):rowF m g=rowF m h:=List.map_congr_left fun j hj=>e j (List.mem_range.1 hj)
theorem rowF_set {m j:Nat} {g:Nat→Int} (h:j<m) (v:Int):(rowF m g).set j v=rowF m fun i=>if i=j then v else g i:=by
 apply at0_ext (by simp)
 intro i hi
 simp only [List.length_set,rowF_len] at hi
 rw [at0_set,rowF_at hi,rowF_at hi]
 by_cases e:j=i
 ·subst e
  rw [if_pos ⟨rfl,by simpa using hi⟩,if_pos rfl]
 ·rw [if_neg fun h=>e h.1,if_neg fun h=>e h.symm]
theorem rowF_map (L:List Int) (f:Int→Int):rowF L.length (fun j=>f (at0 L j))=L.map f:=by
 apply List.ext_getElem (by simp)
 intro j h1 h2
 simp only [rowF_len] at h1
 simp [rowF,at0_eq h1]
theorem rowF_zero (m:Nat):List.replicate m 0=rowF m fun _=>0:=by
 apply List.ext_getElem (by simp)
 intro j h1 h2
 simp [rowF]
end Go.Proofs.YtkoljbncokmeaaaGreatDoor
