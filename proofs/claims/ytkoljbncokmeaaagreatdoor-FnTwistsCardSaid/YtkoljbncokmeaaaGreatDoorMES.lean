import Derived.Test.YtkoljbncokmeaaaGreatDoorMEO
import Derived.Test.YtkoljbncokmeaaaGreatDoorMEG
import Derived.Test.YtkoljbncokmeaaaGreatDoorMEF
import Derived.Test.YtkoljbncokmeaaaGreatDoorMER
import Derived.Test.YtkoljbncokmeaaaGreatDoorMEL
import Derived.Test.YtkoljbncokmeaaaGreatDoorMED
import Derived.Test.YtkoljbncokmeaaaGreatDoorMEC
import Derived.Test.YtkoljbncokmeaaaGreatDoorMEE
import Derived.Test.YtkoljbncokmeaaaGreatDoorMEQ
namespace Go.Proofs.YtkoljbncokmeaaaGreatDoor
open Go Go.RowKit
set_option maxRecDepth 1000000
set_option linter.unusedSimpArgs false
set_option linter.unusedVariables false
set_option maxHeartbeats 1000000
def sc_i_FreeHoles_L2:SC:=(.seq (.reg [⟨some 42,none,.bin false .lss (.t 41) (.t 40)⟩]) (.seq (.cond (.t 42) .skip (.exit 2)) (.seq (.block 3 (.cut (.reg [⟨some 43,none,.mov (.t 41)⟩,⟨some 7,none,.mov (.t 43)⟩]) (.dreg [⟨⟨some 44,none,.mov (.t 6)⟩,false,true⟩,⟨⟨some 45,none,.mov (.t 3)⟩,false,false⟩,⟨⟨some 46,none,.mov (.t 7)⟩,false,false⟩,⟨⟨some 47,none,.idx 1 (.t 45) (.t 46)⟩,false,false⟩,⟨⟨some 48,none,.ld none .nil (.t 47)⟩,false,false⟩,⟨⟨some 49,none,.len (.t 48)⟩,false,false⟩,⟨⟨some 50,none,.mov (.t 4)⟩,false,false⟩,⟨⟨some 51,none,.mov (.t 7)⟩,false,false⟩,⟨⟨some 52,none,.idx 1 (.t 50) (.t 51)⟩,false,false⟩,⟨⟨some 53,none,.ld none (.int .i64 0) (.t 52)⟩,false,false⟩,⟨⟨some 54,none,.bin false .sub (.t 49) (.t 53)⟩,false,false⟩,⟨⟨some 55,none,.mov (.t 4)⟩,false,false⟩,⟨⟨some 56,none,.mov (.t 7)⟩,false,false⟩,⟨⟨some 57,none,.bin false .add (.t 56) (.c (.int .i64 1))⟩,false,false⟩,⟨⟨some 58,none,.idx 1 (.t 55) (.t 57)⟩,false,false⟩,⟨⟨some 59,none,.ld none (.int .i64 0) (.t 58)⟩,false,false⟩,⟨⟨some 60,none,.bin false .sub (.t 54) (.t 59)⟩,false,false⟩,⟨⟨some 61,none,.mks 1 1 [.int .i64 0] [(0,(1,(.t 60)))]⟩,true,false⟩,⟨⟨some 62,none,.app 1 8 (.t 44) (.t 61)⟩,true,false⟩,⟨⟨some 6,none,.mov (.t 62)⟩,false,false⟩]))) (.reg [⟨some 63,none,.bin false .add (.t 41) (.c (.int .i64 1))⟩,⟨some 41,none,.mov (.t 63)⟩]))))
def sc_i_FreeHoles_L0:SC:=(.cut (.seq (.reg [⟨some 18,none,.mov (.t 5)⟩,⟨some 19,none,.mov (.t 3)⟩,⟨some 20,none,.len (.t 19)⟩,⟨some 21,none,.bin false .lss (.t 18) (.t 20)⟩]) (.cond (.t 21) .skip (.exit 0))) (.seq (.block 1 (.dreg [⟨⟨some 24,none,.mov (.t 4)⟩,false,false⟩,⟨⟨some 25,none,.mov (.t 5)⟩,false,false⟩,⟨⟨some 26,none,.mov (.t 3)⟩,false,false⟩,⟨⟨some 27,none,.mov (.t 5)⟩,false,false⟩,⟨⟨some 28,none,.bin false .sub (.t 27) (.c (.int .i64 1))⟩,false,false⟩,⟨⟨some 29,none,.idx 1 (.t 26) (.t 28)⟩,false,false⟩,⟨⟨some 30,none,.ld none .nil (.t 29)⟩,false,false⟩,⟨⟨some 31,none,.mov (.t 3)⟩,false,false⟩,⟨⟨some 32,none,.mov (.t 5)⟩,false,false⟩,⟨⟨some 33,none,.idx 1 (.t 31) (.t 32)⟩,false,false⟩,⟨⟨some 34,none,.ld none .nil (.t 33)⟩,false,false⟩,⟨⟨some 35,none,.call 36 [.t 30,.t 34]⟩,false,false⟩,⟨⟨some 36,none,.call 6 [.t 35]⟩,false,false⟩,⟨⟨some 37,none,.len (.t 36)⟩,false,false⟩,⟨⟨some 38,none,.idx 1 (.t 24) (.t 25)⟩,false,false⟩,⟨⟨none,none,.st 1 (.t 38) (.t 37)⟩,true,false⟩])) (.reg [⟨some 22,none,.mov (.t 5)⟩,⟨some 23,none,.bin false .add (.t 22) (.c (.int .i64 1))⟩,⟨some 5,none,.mov (.t 23)⟩])))
def sc_i_FreeHoles:SC:=(.seq (.reg [⟨some 1,none,.box (.t 0)⟩,⟨some 2,none,.mov (.c .nil)⟩]) (.seq (.seq (.reg [⟨some 8,none,.ld (some 2) .undef (.t 1)⟩,⟨some 9,none,.call 33 [.t 8]⟩,⟨some 10,none,.un .not (.t 9)⟩]) (.cond (.t 10) (.seq (.reg [⟨some 2,none,.mov (.c .nil)⟩]) .ret) .skip)) (.seq (.reg [⟨some 11,none,.ld (some 2) .undef (.t 1)⟩,⟨some 12,none,.call 35 [.t 11]⟩,⟨some 13,none,.call 34 [.t 12]⟩,⟨some 3,none,.mov (.t 13)⟩]) (.seq (.reg [⟨some 14,none,.mov (.t 3)⟩,⟨some 15,none,.len (.t 14)⟩,⟨some 16,none,.bin false .add (.t 15) (.c (.int .i64 1))⟩,⟨some 17,none,.mk 1 8 [.int .i64 0] (.t 16) (.t 16)⟩,⟨some 4,none,.mov (.t 17)⟩]) (.seq (.seq (.reg [⟨some 5,none,.mov (.c (.int .i64 1))⟩]) (.block 0 (.loop sc_i_FreeHoles_L0))) (.seq (.reg [⟨some 6,none,.mov (.c .nil)⟩]) (.seq (.seq (.reg [⟨some 39,none,.mov (.t 3)⟩,⟨some 40,none,.len (.t 39)⟩,⟨some 41,none,.mov (.c (.int .i64 0))⟩]) (.block 2 (.loop sc_i_FreeHoles_L2))) (.seq (.reg [⟨some 64,none,.mov (.t 6)⟩,⟨some 2,none,.mov (.t 64)⟩]) .ret))))))))
theorem code_i_FreeHoles:fnCode Tryz.prog [666666,555555] 8=some (65,sc_i_FreeHoles,[(2,none)]):=by kernel_rfl
noncomputable def rkT (q:Int→Prop) (m k:Nat):List Int:=rowF (m+1) fun i => @ite _ (i<k) (Classical.propDecidable _) (rkS q i) 0
theorem rkT_set {q:Int→Prop} {m k:Nat} (h:k<m+1):(rkT q m k).set k (rkS q k)=rkT q m (k+1):=by
 unfold rkT
 rw [rowF_set h]
 refine rowF_congr fun i hi => ?_
 by_cases e:i=k
 ·rw [if_pos e,if_pos (by omega),e]
 ·rw [if_neg e]
  by_cases h3:i<k
  ·rw [if_pos h3,if_pos (by omega)]
  ·rw [if_neg h3,if_neg (by omega)]
@[simp] theorem rkT_len (q:Int→Prop) (m k:Nat):(rkT q m k).length=m+1:=by simp [rkT]
theorem rkT_one (q:Int→Prop) (m:Nat):rkT q m 1=List.replicate (m+1) 0:=by
 rw [rowF_zero]
 refine rowF_congr fun i _ => ?_
 by_cases h:i<1
 ·have:i=0:=by omega
  subst this
  rw [if_pos h]
  exact rkS_low q
 ·rw [if_neg h]
theorem rkT_at {q:Int→Prop} {m k i:Nat} (ht:topZ q+1=m) (hk:m≤k) (h:i<m+1):at0 (rkT q m k) i=rkS q i:=by
 unfold rkT
 rw [rowF_at h]
 by_cases h1:i<k
 ·rw [if_pos h1]
 ·rw [if_neg h1,rkS_high q (by omega)]
theorem fn_i_FreeHoles:FnOk Tryz.prog 8 F_s_FreeHoles:=by
 have env:=((((envNil_ok (P:=Tryz.prog)).add fn_i_IsComplex).add fn_i_facesIn).add fn_i_bySize).add fn_i_borderOf |>.add fn_i_SmithOf
 refine fn_ok code_i_FreeHoles mixed env ?_
 intro args r h hb
 obtain ⟨_,⟨n,l⟩,rfl,h1,h4⟩:=F1_inv h
 cases dC_inv h1
 cases h4
 clear h
 refine ⟨by simp,fun w0 U0 L0 N0 => ?_⟩
 clear hb
 simp only
 cases e0:cplxB n l with
 | false =>
  have e:frL n l=[]:=if_neg fun h=>by simp [cplxB_iff.2 h] at e0
  rw [e]
  simp -implicitDefEqProofs [sc_i_FreeHoles,F_s_IsComplex,e0]
 | true =>
 have hc:=cplxB_iff.1 e0
 have hS:=cplx_isS hc
 have e:frL n l=frZ (faceS l):=if_pos hc
 rw [e]
 obtain ⟨q,hq⟩:∃ q,q=faceS l:=⟨_,rfl⟩
 rw [← hq]
 have hg:=bySG_fam q
 have htb:=topZ_bnd q
 obtain ⟨m,hm⟩:∃ m:Nat,topZ q+1=m:=⟨(topZ q+1).toNat,by omega⟩
 have hBl:(bySR q).length=m:=by unfold bySR; rw [bySz_len]; omega
 have hBa:∀ i,i<m→atR (bySR q) i=szS q i:=fun i hi=>by
  unfold bySR
  exact szS_by (by omega)
 have hres:frZ q=rowF m (frV q):=by
  unfold frZ
  rw [show (topZ q+1).toNat=m by omega]
 rw [hres]
 have hrl0:(rowF m (frV q)).length=m:=rowF_len _ _
 have hra:=fun (i:Nat) (hi:i<m)=>rowF_at (g:=frV q) hi
 generalize rowF m (frV q)=O at *
 generalize bySR q=B at *
 have hm7:m≤7:=by omega
 have hw0:IntKind.i64.wrap ((m:Int)+1)=((m+1:Nat):Int):=by rw [wrapI _ (by omega) (by omega)]; omega
 have hF0:F_i_facesIn [.agg [.int .i64 n,.list 1 (ints l)]]=some (.int .u64 (fam q)):=by
  simp only [F_i_facesIn,F1_mk,dC_agg,Option.bind_some]
  rw [if_pos hS]
  exact hq ▸ rfl
 simp -implicitDefEqProofs [sc_i_FreeHoles,F_s_IsComplex,e0,hF0,F_i_bySize,hg,hBl,hw0]
 repeat' (first | omega | apply And.intro)
 refine loopI env mixed (fun k:Nat=>[(3,.sl 0 1 0 m),(4,.sl 1 1 0 (m+1)),(5,.int .i64 (k:Int))]) (fun k=>([(1,ints (rkT q m k)),(0,rowsV B)],2)) (fun k=>1≤k∧(k≤m∨k=1)) (fun k=>m-k) 1 ⟨by omega,.inr rfl⟩ (SubI.ren (fun m=>if m=0 then some 1 else if m=1 then some 2 else none) (by simp [subT,renV,ren1]) (by simp [subH,renL,ren1,rkT_one]) (fun m hm=>by simp only at hm; rw [if_neg (by omega),if_neg (by omega)]) (by simp) (by simp)) ?_
 rintro k ⟨hk1,hk2⟩
 by_cases hlt:k<m
 ·have hw1:IntKind.i64.wrap ((k:Int)-1)=((k-1:Nat):Int):=by rw [wrapI _ (by omega) (by omega)]; omega
  have hk1m:k-1<m:=by omega
  have ha1:=hBa k hlt
  have ha2:=hBa (k-1) hk1m
  rw [show ((k-1:Nat):Int)=(k:Int)-1 by omega] at ha2
  have hl1:=szS_len q k
  have hl2:=szS_len q ((k:Int)-1)
  have hF1:F_i_borderOf [.list 1 (ints (szS q ((k:Int)-1))),.list 1 (ints (szS q k))]=some (.own 1 (rowsV (sgnM (szS q ((k:Int)-1)) (szS q k)))):=by
   simp only [F_i_borderOf,F2_mk,dL_list,Option.bind_some]
   rw [if_pos ⟨szS_ok q k,hl2,hl1⟩]
  have hF2:F_i_SmithOf [.list 1 (rowsL (sgnM (szS q ((k:Int)-1)) (szS q k)))]=some (.own 1 (ints (bsm (szS q ((k:Int)-1)) (szS q k)))):=by
   have h1:=(bsm_sz (q:=q) (k:=k) ⟨by omega,by omega⟩).2
   simp only [F_i_SmithOf,F1_mk,dLL_list,Option.bind_some]
   rw [h1]
   rfl
  have hset:=rkT_set (q:=q) (m:=m) (k:=k) (by omega)
  have hrk:rkS q k=((bsm (szS q ((k:Int)-1)) (szS q k)).length:Nat):=rfl
  rw [hrk] at hset
  have hrl:=rkT_len q m k
  have hne:k-1≠k:=by omega
  have hne2:k≠k-1:=by omega
  have hs1:=rowsV_self (M:=B) (i:=k) (by omega)
  have hs2:=rowsV_self (M:=B) (i:=k-1) (by omega)
  rw [ha1] at hs1
  rw [ha2] at hs2
  generalize hg1:rkT q m (k+1)=g1 at *
  generalize rkT q m k=g at *
  generalize bsm (szS q ((k:Int)-1)) (szS q k)=S at *
  generalize szS q ((k:Int)-1)=r1 at *
  generalize szS q k=r2 at *
  have hcell:((((rowsV B).set (k-1) (.sl 2 1 0 r1.length)).set k (.sl 3 1 0 r2.length)).set k (.own 1 (ints r2))).set (k-1) (.own 1 (ints r1))=rowsV B:=by
   rw [List.set_set,List.set_comm _ _ hne2,List.set_set,hs2,hs1]
  simp -implicitDefEqProofs [sc_i_FreeHoles_L0,hlt]
  refine CutI.of (l':=[(3,.sl 0 1 0 m),(4,.sl 1 1 0 (m+1)),(5,.int .i64 (k:Int))]) (s':=([(3,ints r2),(2,ints r1),(1,ints g),(0,((rowsV B).set (k-1) (.sl 2 1 0 r1.length)).set k (.sl 3 1 0 r2.length))],4)) ?_ ?_
  ·refine SubI.unfold 0 (k-1) 1 (co:=rowsV B) (cn:=ints r1) rfl (by rw [rowsV_get (by omega),ha2]) (by omega) ?_
   refine SubI.unfold 0 k 1 (co:=(rowsV B).set (k-1) (.sl 2 1 0 ((ints r1).length / 1))) (cn:=ints r2) rfl (by rw [List.getElem?_set_ne hne,rowsV_get (by omega),ha1]) (by omega) ?_
   exact SubI.slots (by simp) (by simp)
  simp -implicitDefEqProofs [freeOk,hlt,hk1m,hw1,hBl,hne,hne2,hF1,hF2,hrl,hset]
  repeat' (first | omega | apply And.intro)
  refine Again.of (k+1) ⟨by omega,.inl (by omega)⟩ (by omega) ?_
  refine SubI.fold 0 3 k 1 r2.length (cn:=ints r2) (co:=((rowsV B).set (k-1) (.sl 2 1 0 r1.length)).set k (.sl 3 1 0 r2.length)) (by simp) (by simp) (by simp [hBl,hlt]) (by simp) ?_
  refine SubI.fold 0 2 (k-1) 1 r1.length (cn:=ints r1) (co:=(((rowsV B).set (k-1) (.sl 2 1 0 r1.length)).set k (.sl 3 1 0 r2.length)).set k (.own 1 (ints r2))) (by simp) (by simp) (by simp [hBl,hk1m,hne,hne2]) (by simp) ?_
  rw [hcell]
  refine SubI.ren (fun m=>if m=0 then some 0 else if m=1 then some 1 else none) ?_ ?_ ?_ (by simp) (by simp)
  ·simp (disch:=omega) [subT,renV,ren1,wrapI]
  ·simp [subH,renL,ren1,hg1]
  ·intro m hm
   simp only at hm
   rw [if_neg (by omega),if_neg (by omega)]
 ·have hat:=fun (i:Nat) (hi:i<m+1)=>rkT_at (q:=q) (k:=k) hm (by omega) hi
  have hrl:=rkT_len q m k
  generalize rkT q m k=g at *
  simp -implicitDefEqProofs [sc_i_FreeHoles_L0,hlt]
  repeat' (first | omega | apply And.intro)
  refine loopQ env mixed (fun i:Nat=>[(3,.sl 0 1 0 m),(4,.sl 1 1 0 (m+1)),(6,.sl 2 1 0 i),(40,.int .i64 (m:Int)),(41,.int .i64 (i:Int))]) (fun i=>([(2,ints (O.take i)),(1,ints g),(0,rowsV B)],3)) (fun i=>i≤m) (fun i=>m-i) 0 (by simp) (SubI.nilN 6 1 (by simp) (SubI.slots (by simp) (by simp))) ?_
  intro i hi
  by_cases hlt2:i<m
  ·have ha1:=hBa i hlt2
   have hl1:=szS_len q i
   have hs1:=rowsV_self (M:=B) (i:=i) (by omega)
   have h1:=hat i (by omega)
   have h2:=hat (i+1) (by omega)
   have b1:=rkS_bnd q i
   have b2:=rkS_bnd q ((i+1:Nat):Int)
   have hv:frV q i=((szS q i).length:Nat)-rkS q i-rkS q ((i+1:Nat):Int):=by
    unfold frV
    rw [show ((i+1:Nat):Int)=(i:Int)+1 by omega]
   have ez:O.take (i+1)=O.take i++[((szS q i).length:Nat)-rkS q i-rkS q ((i+1:Nat):Int)]:=by rw [take_at (by omega),hra i hlt2,hv]
   have gl:(O.take i).length=i:=by simp; omega
   rw [ha1] at hs1
   have hw1:IntKind.i64.wrap ((i:Int)+1)=((i+1:Nat):Int):=by rw [wrapI _ (by omega) (by omega)]; omega
   generalize hz1:O.take (i+1)=z1 at *
   generalize O.take i=z at *
   generalize szS q i=r1 at *
   generalize rkS q i=k1 at *
   generalize rkS q ((i+1:Nat):Int)=k2 at *
   have hw2:IntKind.i64.wrap ((r1.length:Int)-k1)=r1.length-k1:=wrapI _ (by omega) (by omega)
   have hw3:IntKind.i64.wrap ((r1.length:Int)-k1-k2)=r1.length-k1-k2:=wrapI _ (by omega) (by omega)
   have hlt3:i+1<m+1:=by omega
   have hlt4:i<m+1:=by omega
   have htk:z.take i=z:=List.take_of_length_le (by omega)
   simp -implicitDefEqProofs [sc_i_FreeHoles_L2,hlt2]
   refine CutI.of (l':=[(3,.sl 0 1 0 m),(4,.sl 1 1 0 (m+1)),(6,.sl 2 1 0 i),(7,.int .i64 (i:Int)),(40,.int .i64 (m:Int)),(41,.int .i64 (i:Int))]) (s':=([(3,ints r1),(2,ints z),(1,ints g),(0,(rowsV B).set i (.sl 3 1 0 r1.length))],4)) ?_ ?_
   ·refine SubI.unfold 0 i 1 (co:=rowsV B) (cn:=ints r1) rfl (by rw [rowsV_get (by omega),ha1]) (by omega) ?_
    exact SubI.slots (by simp) (by simp)
   simp -implicitDefEqProofs [freeOk,hlt2,hlt3,hlt4,hBl,hrl,gl,h1,h2,hw1,hw2,hw3,htk]
   repeat' (first | omega | apply And.intro)
   refine Again.of (i+1) (by omega) (by omega) ?_
   refine SubI.fold 0 3 i 1 r1.length (cn:=ints r1) (co:=(rowsV B).set i (.sl 3 1 0 r1.length)) (by simp) (by simp) (by simp [hBl,hlt2]) (by simp) ?_
   rw [List.set_set,hs1]
   refine SubI.ren (fun m=>if m=0 then some 0 else if m=1 then some 1 else if m=2 then some 5 else none) ?_ ?_ ?_ (by simp) (by simp)
   ·simp (disch:=omega) [subT,renV,ren1,wrapI]
   ·simp [subH,renL,ren1,hz1,ez]
    rw [← ints_app]
    rfl
   ·intro m hm
    simp only at hm
    rw [if_neg (by omega),if_neg (by omega),if_neg (by omega)]
  ·have:i=m:=by omega
   subst this
   have htk:O.take i=O:=List.take_of_length_le (by omega)
   rw [htk]
   simp -implicitDefEqProofs [sc_i_FreeHoles_L2,hrl0]
   refine SubQ.of (l1:=[(6,.sl 2 1 0 i)]) (s1:=([(2,ints O),(1,ints g),(0,rowsV B)],3)) (SubI.slots rfl (by simp)) ?_
   simp -implicitDefEqProofs [hrl0,htk]
def sc_i_HolesText_L2:SC:=(.seq (.reg [⟨some 33,none,.bin false .lss (.t 32) (.t 31)⟩]) (.seq (.cond (.t 33) .skip (.exit 2)) (.seq (.block 3 (.seq (.reg [⟨some 34,none,.idx 1 (.t 30) (.t 32)⟩,⟨some 35,none,.ld none (.int .i64 0) (.t 34)⟩,⟨some 8,none,.mov (.t 35)⟩]) (.reg [⟨some 36,none,.mov (.t 6)⟩,⟨some 37,none,.mov (.t 8)⟩,⟨some 38,none,.call 45 [.t 37]⟩,⟨some 39,none,(.bin false .add (.c (.str ⟨⟨[47]⟩⟩)) (.t 38))⟩,⟨some 40,none,.bin false .add (.t 36) (.t 39)⟩,⟨some 6,none,.mov (.t 40)⟩]))) (.reg [⟨some 41,none,.bin false .add (.t 32) (.c (.int .i64 1))⟩,⟨some 32,none,.mov (.t 41)⟩]))))
def sc_i_HolesText_L0:SC:=(.seq (.seq (.reg [⟨some 17,none,.mov (.t 5)⟩,⟨some 18,none,.mov (.t 3)⟩,⟨some 19,none,.len (.t 18)⟩,⟨some 20,none,.bin false .lss (.t 17) (.t 19)⟩]) (.cond (.t 20) .skip (.exit 0))) (.seq (.block 1 (.seq (.reg [⟨some 23,none,.mov (.t 3)⟩,⟨some 24,none,.mov (.t 5)⟩,⟨some 25,none,.idx 1 (.t 23) (.t 24)⟩,⟨some 26,none,.ld none (.int .i64 0) (.t 25)⟩,⟨some 27,none,.call 45 [.t 26]⟩,⟨some 6,none,.mov (.t 27)⟩]) (.seq (.seq (.reg [⟨some 28,none,.ld (some 2) .undef (.t 1)⟩,⟨some 29,none,.mov (.t 5)⟩,⟨some 30,none,.call 14 [.t 28,.t 29]⟩,⟨some 31,none,.len (.t 30)⟩,⟨some 32,none,.mov (.c (.int .i64 0))⟩]) (.block 2 (.loop sc_i_HolesText_L2))) (.reg [⟨some 42,none,.mov (.t 4)⟩,⟨some 43,none,.mov (.t 6)⟩,⟨some 44,none,(.mks 1 1 [(.str ⟨⟨[]⟩⟩)] [(0,(1,(.t 43)))])⟩,⟨some 45,none,.app 1 16 (.t 42) (.t 44)⟩,⟨some 4,none,.mov (.t 45)⟩])))) (.reg [⟨some 21,none,.mov (.t 5)⟩,⟨some 22,none,.bin false .add (.t 21) (.c (.int .i64 1))⟩,⟨some 5,none,.mov (.t 22)⟩])))
def sc_i_HolesText:SC:=(.seq (.reg [⟨some 1,none,.box (.t 0)⟩,⟨some 2,none,(.mov (.c (.str ⟨⟨[]⟩⟩)))⟩]) (.seq (.seq (.reg [⟨some 9,none,.ld (some 2) .undef (.t 1)⟩,⟨some 10,none,.call 33 [.t 9]⟩,⟨some 11,none,.un .not (.t 10)⟩]) (.cond (.t 11) (.seq (.reg [⟨some 2,none,(.mov (.c (.str ⟨⟨[]⟩⟩)))⟩]) .ret) .skip)) (.seq (.reg [⟨some 12,none,.ld (some 2) .undef (.t 1)⟩,⟨some 13,none,.call 8 [.t 12]⟩,⟨some 3,none,.mov (.t 13)⟩]) (.seq (.seq (.reg [⟨some 14,none,.mov (.t 3)⟩,⟨some 15,none,.len (.t 14)⟩,⟨some 16,none,.bin false .leq (.t 15) (.c (.int .i64 1))⟩]) (.cond (.t 16) (.seq (.reg [⟨some 2,none,(.mov (.c (.str ⟨⟨[45]⟩⟩)))⟩]) .ret) .skip)) (.seq (.reg [⟨some 4,none,.mov (.c .nil)⟩]) (.seq (.seq (.reg [⟨some 5,none,.mov (.c (.int .i64 1))⟩]) (.block 0 (.loop sc_i_HolesText_L0))) (.seq (.reg [⟨some 46,none,.mov (.t 4)⟩,⟨some 47,none,(.call 46 [.t 46,(.c (.str ⟨⟨[32]⟩⟩))])⟩,⟨some 2,none,.mov (.t 47)⟩]) .ret)))))))
theorem code_i_HolesText:fnCode Tryz.prog [] 16=some (48,sc_i_HolesText,[(2,none)]):=by kernel_rfl
theorem fn_i_HolesText:FnOk Tryz.prog 16 F_s_HolesText:=by
 have env:=(((((envNil_ok (P:=Tryz.prog)).add fn_i_IsComplex).add fn_i_FreeHoles).add fn_i_TwistsOf).add fn_i_FormatInt).add fn_strings_Join
 refine fn_ok code_i_HolesText mixed env ?_
 intro args r h hb
 obtain ⟨_,⟨n,l⟩,rfl,h1,h4⟩:=F1_inv h
 cases dC_inv h1
 cases h4
 clear h
 refine ⟨by simp,fun w0 U0 L0 N0 => ?_⟩
 clear hb
 simp only
 cases e0:cplxB n l with
 | false =>
  have e:htS n l=⟨⟨[]⟩⟩:=if_neg fun h=>by simp [cplxB_iff.2 h] at e0
  rw [e]
  simp -implicitDefEqProofs [sc_i_HolesText,F_s_IsComplex,e0]
 | true =>
 have hc:=cplxB_iff.1 e0
 obtain ⟨hlen,hfr,htw,hpt,hjn⟩:=ht_inv hc
 have hF1:F_s_FreeHoles [.agg [.int .i64 n,.list 1 (ints l)]]=some (.own 1 (ints (frL n l))):=by simp [F_s_FreeHoles]
 have hT:htS n l=if (frL n l).length≤1 then ⟨⟨[45]⟩⟩ else jnS (psS n l ((frL n l).length-1)) ⟨⟨[32]⟩⟩:=if_pos hc
 have hps:∀ i,psS n l (i+1)=psS n l i++[txS (decS (at0 (frL n l) (i+1))) (twL n l ((i:Int)+1)) (twL n l ((i:Int)+1)).length]:=fun i=>by
  rw [psS_succ]
  unfold ptS
  rw [show ((i+1:Nat):Int)=(i:Int)+1 by omega]
 generalize frL n l=O at *
 by_cases hle:O.length≤1
 ·have hleI:(O.length:Int)≤1:=by omega
  rw [if_pos hle] at hT
  simp -implicitDefEqProofs [sc_i_HolesText,F_s_IsComplex,e0,hF1,hT,hle,hleI]
 have hleI:¬(O.length:Int)≤1:=by omega
 rw [if_neg hle] at hT
 simp -implicitDefEqProofs [sc_i_HolesText,F_s_IsComplex,e0,hF1,hle,hleI]
 refine loopI env mixed (fun i:Nat=>[(1,.pt 0 0),(2,.str ⟨⟨[]⟩⟩),(3,.sl 1 1 0 O.length),(4,.sl 2 1 0 i),(5,.int .i64 ((i:Int)+1))]) (fun i=>([(2,strs (psS n l i)),(1,ints O),(0,[.int .i64 n,.list 1 (ints l)])],3)) (fun i=>i+1≤O.length) (fun i=>O.length-i) 0 (by omega) (SubI.nilN 4 1 (by simp) (SubI.slots (by simp [psS,strs]) (by simp))) ?_
 intro i hi
 have hpl:=psS_len n l i
 by_cases hlt:i+1<O.length
 ·have hltI:(i:Int)+1<(O.length:Int):=by omega
  obtain ⟨f0,f1⟩:=hfr (i+1) hlt
  obtain ⟨t64,ht⟩:=htw (i+1)
  have hp:=hps i
  have hp2:=hpt (i+1) hlt
  rw [show ((i+1:Nat):Int)=(i:Int)+1 by omega] at t64 ht
  have hF2:F_i_FormatInt [.int .i64 (at0 O (i+1))]=some (.str (decS (at0 O (i+1)))):=if_pos ⟨f0,f1⟩
  have hF3:F_s_TwistsOf [.agg [.int .i64 n,.list 1 (ints l)],.int .i64 ((i:Int)+1)]=some (.own 1 (ints (twL n l ((i:Int)+1)))):=by simp [F_s_TwistsOf]
  have ht0:=decS_size f0 f1
  have htx:=txS_size (t:=decS (at0 O (i+1))) ht
  have hw1:IntKind.i64.wrap ((i:Int)+1)=(i:Int)+1:=wrapI _ (by omega) (by omega)
  have hw2:IntKind.i64.wrap ((i:Int)+1+1)=(i:Int)+1+1:=wrapI _ (by omega) (by omega)
  generalize decS (at0 O (i+1))=t0 at *
  generalize twL n l ((i:Int)+1)=S at *
  generalize psS n l i=g at *
  have htk:g.take i=g:=List.take_of_length_le (by omega)
  simp -implicitDefEqProofs [sc_i_HolesText_L0,hltI,hlt,hF2,hF3]
  refine ⟨by omega,?_⟩
  refine loopQ env mixed (fun j:Nat=>[(1,.pt 0 0),(2,.str ⟨⟨[]⟩⟩),(3,.sl 1 1 0 O.length),(4,.sl 2 1 0 i),(5,.int .i64 ((i:Int)+1)),(6,.str (txS t0 S j)),(30,.sl 3 1 0 S.length),(31,.int .i64 (S.length:Int)),(32,.int .i64 (j:Int))]) (fun j=>([(3,ints S),(2,strs g),(1,ints O),(0,[.int .i64 n,.list 1 (ints l)])],4)) (fun j=>j≤S.length) (fun j=>S.length-j) 0 (by simp) (SubI.slots (by simp) (by simp [txS])) ?_
  intro j hj
  by_cases hjl:j<S.length
  ·have hjI:(j:Int)<(S.length:Int):=by omega
   have hF4:F_i_FormatInt [.int .i64 (at0 S j)]=some (.str (decS (at0 S j))):=if_pos (ht j hjl)
   have hd2:=decS_size (ht j hjl).1 (ht j hjl).2
   have hx1:=htx j (by omega)
   have hw3:IntKind.i64.wrap ((j:Int)+1)=(j:Int)+1:=wrapI _ (by omega) (by omega)
   have hst:txS t0 S (j+1)=txS t0 S j++(⟨⟨[47]⟩⟩++decS (at0 S j)):=rfl
   have hs1:(⟨⟨[47]⟩⟩:ByteArray).size=1:=rfl
   generalize hxx:txS t0 S (j+1)=x2 at *
   generalize txS t0 S j=x at *
   generalize hdd:decS (at0 S j)=dd at *
   have hz1:(⟨⟨[47]⟩⟩:ByteArray).size+dd.size≤9223372036854775807:=by omega
   have hz2:x.size+((⟨⟨[47]⟩⟩:ByteArray)++dd).size≤9223372036854775807:=by rw [ba_size]; omega
   simp -implicitDefEqProofs [sc_i_HolesText_L2,hjl,hjI,hF4,hz1,hz2,hw3]
   repeat' (first | omega | apply And.intro)
   exact Again.of (j+1) (by omega) (by omega) (SubI.slots (by simp) (by simp [hxx,hst]))
  ·have:j=S.length:=by omega
   subst this
   have hx1:=htx S.length (Nat.le_refl _)
   simp -implicitDefEqProofs [sc_i_HolesText_L2,hjl]
   refine SubQ.of (l1:=[(1,.pt 0 0),(2,.str ⟨⟨[]⟩⟩),(3,.sl 1 1 0 O.length),(4,.sl 2 1 0 i),(5,.int .i64 ((i:Int)+1)),(6,.str (txS t0 S S.length))]) (SubI.slots rfl (by simp)) ?_
   generalize txS t0 S S.length=x at *
   simp -implicitDefEqProofs [htk,hw2,hpl]
   repeat' (first | omega | apply And.intro)
   refine Again.of (i+1) (by omega) (by omega) (SubI.ren (fun m=>if m=0 then some 0 else if m=1 then some 1 else if m=2 then some 5 else none) ?_ ?_ ?_ (by simp) (by simp))
   ·simp [subT,renV,ren1]
   ·simp [subH,hp,renL,ren1]
    exact strs_snoc g x
   ·intro m hm
    simp only at hm
    rw [if_neg (by omega),if_neg (by omega),if_neg (by omega)]
 ·have hltI:¬(i:Int)+1<(O.length:Int):=by omega
  have hi2:i=O.length-1:=by omega
  rw [← hi2] at hT
  have hF5:F_strings_Join [.list 1 (strs (psS n l i)),.str ⟨⟨[32]⟩⟩]=some (.str (jnS (psS n l i) ⟨⟨[32]⟩⟩)):=by
   have:=hjn i (by omega)
   simp only [F_strings_Join,F2_mk,dS_list,dSt,Option.bind_some]
   rw [if_pos ⟨by omega,this⟩]
  have htk:(psS n l i).take i=psS n l i:=List.take_of_length_le (by omega)
  simp -implicitDefEqProofs [sc_i_HolesText_L0,hlt,hltI,hT,htk,hF5,hpl]
def sc_s_CanTwist_L0:SC:=(.seq (.seq (.reg [⟨some 4,none,.mov (.t 3)⟩,⟨some 5,none,.bin false .lss (.t 4) (.c (.int .i64 6))⟩]) (.cond (.t 5) .skip (.exit 0))) (.seq (.block 1 (.seq (.reg [⟨some 8,none,.ld (some 2) .undef (.t 1)⟩,⟨some 9,none,.mov (.t 3)⟩,⟨some 10,none,.call 15 [.t 8,.t 9]⟩,⟨some 11,none,.len (.t 10)⟩,⟨some 12,none,.bin false .gtr (.t 11) (.c (.int .i64 0))⟩]) (.cond (.t 12) (.seq (.reg [⟨some 2,none,.mov (.c (.bool true))⟩]) .ret) .skip))) (.reg [⟨some 6,none,.mov (.t 3)⟩,⟨some 7,none,.bin false .add (.t 6) (.c (.int .i64 1))⟩,⟨some 3,none,.mov (.t 7)⟩])))
def sc_s_CanTwist:SC:=(.seq (.reg [⟨some 1,none,.box (.t 0)⟩,⟨some 2,none,.mov (.c (.bool false))⟩]) (.seq (.seq (.reg [⟨some 3,none,.mov (.c (.int .i64 0))⟩]) (.block 0 (.loop sc_s_CanTwist_L0))) (.seq (.reg [⟨some 2,none,.mov (.c (.bool false))⟩]) .ret)))
theorem code_s_CanTwist:fnCode Tryz.prog [] 19=some (13,sc_s_CanTwist,[(2,none)]):=by kernel_rfl
theorem fn_s_CanTwist:FnOk Tryz.prog 19 F_s_CanTwist:=by
 have env:=(envNil_ok (P:=Tryz.prog)).add fn_s_TwistsOf
 refine fn_ok code_s_CanTwist mixed env ?_
 intro args r h hb
 obtain ⟨_,⟨n,l⟩,rfl,h1,h4⟩:=F1_inv h
 cases dC_inv h1
 cases h4
 clear h
 refine ⟨by simp,fun w0 U0 L0 N0 => ?_⟩
 clear hb
 simp only
 have hF:∀ k:Nat,F_s_TwistsOf [.agg [.int .i64 n,.list 1 (ints l)],.int .i64 (k:Int)]=some (.own 1 (ints (twL n l k))):=fun k=>by simp [F_s_TwistsOf]
 generalize hv:dec (canP n l)=v
 simp -implicitDefEqProofs [sc_s_CanTwist]
 refine loopI env mixed (fun k:Nat=>[(1,.pt 0 0),(3,.int .i64 (k:Int))]) (fun _=>([(0,[.int .i64 n,.list 1 (ints l)])],1)) (fun k=>k≤6∧∀ j,j<k→twL n l (j:Nat)=[]) (fun k=>6-k) 0 (by simp) (SubI.slots (by simp) (by simp)) ?_
 rintro k ⟨hk,hI⟩
 by_cases hlt:k<6
 ·have hlt':(k:Int)<6:=by omega
  have hFk:=hF k
  by_cases h0:twL n l (k:Nat)=[]
  ·rw [h0] at hFk
   simp -implicitDefEqProofs [sc_s_CanTwist_L0,hlt',hFk]
   refine Again.of (k+1) ⟨by omega,fun j hj => ?_⟩ (by omega) (SubI.ren (fun m=>if m=0 then some 0 else none) (by simp (disch:=omega) [subT,renV,ren1,wrapI]) (by simp [subH,renL,ren1]) (fun m hm=>by simp only at hm; rw [if_neg (by omega)]) (by simp) (by simp))
   rcases Nat.lt_succ_iff_lt_or_eq.1 hj with h | rfl
   ·exact hI j h
   ·exact h0
  ·have hv1:v=true:=hv ▸ dec_true ⟨k,hlt,h0⟩
   have hp:=List.length_pos_iff.2 h0
   have hp':0<((twL n l (k:Nat)).length:Int):=by omega
   generalize twL n l (k:Nat)=S at *
   simp -implicitDefEqProofs [sc_s_CanTwist_L0,hlt',hFk,hp,hp',hv1]
 ·have hlt':¬(k:Int)<6:=by omega
  have hv1:v=false:=hv ▸ dec_false fun ⟨j,hj,hne⟩=>hne (hI j (by omega))
  simp -implicitDefEqProofs [sc_s_CanTwist_L0,hlt',hv1]
def sc_i_CanTwist_L0:SC:=(.seq (.seq (.reg [⟨some 4,none,.mov (.t 3)⟩,⟨some 5,none,.bin false .lss (.t 4) (.c (.int .i64 6))⟩]) (.cond (.t 5) .skip (.exit 0))) (.seq (.block 1 (.seq (.reg [⟨some 8,none,.ld (some 2) .undef (.t 1)⟩,⟨some 9,none,.mov (.t 3)⟩,⟨some 10,none,.call 14 [.t 8,.t 9]⟩,⟨some 11,none,.len (.t 10)⟩,⟨some 12,none,.bin false .gtr (.t 11) (.c (.int .i64 0))⟩]) (.cond (.t 12) (.seq (.reg [⟨some 2,none,.mov (.c (.bool true))⟩]) .ret) .skip))) (.reg [⟨some 6,none,.mov (.t 3)⟩,⟨some 7,none,.bin false .add (.t 6) (.c (.int .i64 1))⟩,⟨some 3,none,.mov (.t 7)⟩])))
def sc_i_CanTwist:SC:=(.seq (.reg [⟨some 1,none,.box (.t 0)⟩,⟨some 2,none,.mov (.c (.bool false))⟩]) (.seq (.seq (.reg [⟨some 3,none,.mov (.c (.int .i64 0))⟩]) (.block 0 (.loop sc_i_CanTwist_L0))) (.seq (.reg [⟨some 2,none,.mov (.c (.bool false))⟩]) .ret)))
theorem code_i_CanTwist:fnCode Tryz.prog [] 18=some (13,sc_i_CanTwist,[(2,none)]):=by kernel_rfl
theorem fn_i_CanTwist:FnOk Tryz.prog 18 F_s_CanTwist:=by
 have env:=(envNil_ok (P:=Tryz.prog)).add fn_i_TwistsOf
 refine fn_ok code_i_CanTwist mixed env ?_
 intro args r h hb
 obtain ⟨_,⟨n,l⟩,rfl,h1,h4⟩:=F1_inv h
 cases dC_inv h1
 cases h4
 clear h
 refine ⟨by simp,fun w0 U0 L0 N0 => ?_⟩
 clear hb
 simp only
 have hF:∀ k:Nat,F_s_TwistsOf [.agg [.int .i64 n,.list 1 (ints l)],.int .i64 (k:Int)]=some (.own 1 (ints (twL n l k))):=fun k=>by simp [F_s_TwistsOf]
 generalize hv:dec (canP n l)=v
 simp -implicitDefEqProofs [sc_i_CanTwist]
 refine loopI env mixed (fun k:Nat=>[(1,.pt 0 0),(3,.int .i64 (k:Int))]) (fun _=>([(0,[.int .i64 n,.list 1 (ints l)])],1)) (fun k=>k≤6∧∀ j,j<k→twL n l (j:Nat)=[]) (fun k=>6-k) 0 (by simp) (SubI.slots (by simp) (by simp)) ?_
 rintro k ⟨hk,hI⟩
 by_cases hlt:k<6
 ·have hlt':(k:Int)<6:=by omega
  have hFk:=hF k
  by_cases h0:twL n l (k:Nat)=[]
  ·rw [h0] at hFk
   simp -implicitDefEqProofs [sc_i_CanTwist_L0,hlt',hFk]
   refine Again.of (k+1) ⟨by omega,fun j hj => ?_⟩ (by omega) (SubI.ren (fun m=>if m=0 then some 0 else none) (by simp (disch:=omega) [subT,renV,ren1,wrapI]) (by simp [subH,renL,ren1]) (fun m hm=>by simp only at hm; rw [if_neg (by omega)]) (by simp) (by simp))
   rcases Nat.lt_succ_iff_lt_or_eq.1 hj with h | rfl
   ·exact hI j h
   ·exact h0
  ·have hv1:v=true:=hv ▸ dec_true ⟨k,hlt,h0⟩
   have hp:=List.length_pos_iff.2 h0
   have hp':0<((twL n l (k:Nat)).length:Int):=by omega
   generalize twL n l (k:Nat)=S at *
   simp -implicitDefEqProofs [sc_i_CanTwist_L0,hlt',hFk,hp,hp',hv1]
 ·have hlt':¬(k:Int)<6:=by omega
  have hv1:v=false:=hv ▸ dec_false fun ⟨j,hj,hne⟩=>hne (hI j (by omega))
  simp -implicitDefEqProofs [sc_i_CanTwist_L0,hlt',hv1]
def sc_s_l13Fits_L2:SC:=(.seq (.seq (.reg [⟨some 29,none,.mov (.t 4)⟩,⟨some 30,none,.mov (.t 0)⟩,⟨some 31,none,.mov (.t 3)⟩,⟨some 32,none,.idx 1 (.t 30) (.t 31)⟩,⟨some 33,none,.ld none .nil (.t 32)⟩,⟨some 34,none,.len (.t 33)⟩,⟨some 35,none,.bin false .lss (.t 29) (.t 34)⟩]) (.cond (.t 35) .skip (.exit 2))) (.seq (.block 3 (.seq (.reg [⟨some 38,none,.mov (.t 0)⟩,⟨some 39,none,.mov (.t 3)⟩,⟨some 40,none,.idx 1 (.t 38) (.t 39)⟩,⟨some 41,none,.ld none .nil (.t 40)⟩,⟨some 42,none,.mov (.t 4)⟩,⟨some 43,none,.idx 1 (.t 41) (.t 42)⟩,⟨some 44,none,.ld none (.int .i64 0) (.t 43)⟩,⟨some 45,none,.call 39 [.t 44,(.c (.int .i64 (-1000))),(.c (.int .i64 1000))]⟩,⟨some 46,none,.un .not (.t 45)⟩]) (.cond (.t 46) (.seq (.reg [⟨some 2,none,.mov (.c (.bool false))⟩]) .ret) .skip))) (.reg [⟨some 36,none,.mov (.t 4)⟩,⟨some 37,none,.bin false .add (.t 36) (.c (.int .i64 1))⟩,⟨some 4,none,.mov (.t 37)⟩])))
def sc_s_l13Fits_L0:SC:=(.seq (.seq (.reg [⟨some 5,none,.mov (.t 3)⟩,⟨some 6,none,.mov (.t 0)⟩,⟨some 7,none,.len (.t 6)⟩,⟨some 8,none,.bin false .lss (.t 5) (.t 7)⟩]) (.cond (.t 8) .skip (.exit 0))) (.seq (.block 1 (.seq (.seq (.dreg [⟨⟨some 11,none,.mov (.t 0)⟩,false,false⟩,⟨⟨some 12,none,.mov (.t 3)⟩,false,false⟩,⟨⟨some 13,none,.idx 1 (.t 11) (.t 12)⟩,false,false⟩,⟨⟨some 14,none,.ld none .nil (.t 13)⟩,false,false⟩,⟨⟨some 15,none,.len (.t 14)⟩,false,false⟩,⟨⟨some 16,none,.mov (.t 0)⟩,false,false⟩,⟨⟨some 17,none,.idx 1 (.t 16) (.c (.int .i64 0))⟩,false,false⟩,⟨⟨some 18,none,.ld none .nil (.t 17)⟩,false,false⟩,⟨⟨some 19,none,.len (.t 18)⟩,false,false⟩,⟨⟨some 20,none,.bin false .neq (.t 15) (.t 19)⟩,false,false⟩,⟨⟨some 21,none,.mov (.t 20)⟩,false,false⟩,⟨⟨some 22,some (21,false),.mov (.t 0)⟩,false,false⟩,⟨⟨some 23,some (21,false),.mov (.t 3)⟩,false,false⟩,⟨⟨some 24,some (21,false),.idx 1 (.t 22) (.t 23)⟩,false,false⟩,⟨⟨some 25,some (21,false),.ld none .nil (.t 24)⟩,false,false⟩,⟨⟨some 26,some (21,false),.len (.t 25)⟩,false,false⟩,⟨⟨some 27,some (21,false),.bin false .gtr (.t 26) (.c (.int .i64 30))⟩,false,false⟩,⟨⟨some 28,none,.pick (.t 21) (.c (.bool true)) (.t 27)⟩,false,false⟩]) (.cond (.t 28) (.seq (.reg [⟨some 2,none,.mov (.c (.bool false))⟩]) .ret) .skip)) (.seq (.reg [⟨some 4,none,.mov (.c (.int .i64 0))⟩]) (.block 2 (.loop sc_s_l13Fits_L2))))) (.reg [⟨some 9,none,.mov (.t 3)⟩,⟨some 10,none,.bin false .add (.t 9) (.c (.int .i64 1))⟩,⟨some 3,none,.mov (.t 10)⟩])))
def sc_s_l13Fits:SC:=(.seq (.reg [⟨some 2,none,.mov (.c (.bool false))⟩]) (.seq (.seq (.reg [⟨some 3,none,.mov (.c (.int .i64 0))⟩]) (.block 0 (.loop sc_s_l13Fits_L0))) (.seq (.reg [⟨some 47,none,.mov (.t 0)⟩,⟨some 48,none,.len (.t 47)⟩,⟨some 49,none,.bin false .leq (.t 48) (.c (.int .i64 30))⟩,⟨some 2,none,.mov (.t 49)⟩]) .ret)))
theorem code_s_l13Fits:fnCode Tryz.prog [] 50=some (50,sc_s_l13Fits,[(2,none)]):=by kernel_rfl
noncomputable def F_s_l13Fits:List V→Option V:=F1 dLL fun M => @ite _ (0<M.length∧smlM 20 1 M) (Classical.propDecidable _) (some (.bool true)) none
theorem fn_s_l13Fits:FnOk Tryz.prog 50 F_s_l13Fits:=by
 have env:=(envNil_ok (P:=Tryz.prog)).add fn_s_l1In
 refine fn_ok code_s_l13Fits mixed env ?_
 intro args r h hb
 obtain ⟨_,M,rfl,h1,h4⟩:=F1_inv h
 cases dLL_inv h1
 simp only [Option.ite_none_right_eq_some,Option.some.injEq] at h4
 obtain ⟨⟨hpos,hr⟩,rfl⟩:=h4
 clear h h1
 refine ⟨by simp,fun w0 U0 L0 N0 => ?_⟩
 clear hb
 have hd0:(rowsL M)[0]?.getD .nil = .list 1 (ints (atR M 0)):=by
  have:=rowsL_drop0 hpos .nil
  rwa [List.drop_zero] at this
 have hn20:=hr.1
 have hw20:=hr.2.2.1 hpos
 simp -implicitDefEqProofs [sc_s_l13Fits]
 refine loopI env mixed (fun i:Nat=>[(0,.list 1 (rowsL M)),(3,.int .i64 (i:Int))]) (fun _=>([],0)) (fun i=>i≤M.length) (fun i=>M.length-i) 0 (by simp) (SubI.slots rfl (by simp)) ?_
 intro i hi
 by_cases hlt:i<M.length
 ·have hri0:(atR M i).length=(atR M 0).length:=hr.2.1 i hlt
  have hw':¬(30<((atR M 0).length:Int)):=by unfold wdM at hw20; omega
  simp -implicitDefEqProofs [sc_s_l13Fits_L0,freeOk,hlt,hpos,hd0,rowsL_dR hlt,hri0,hw',fz,noname,dr,nolist]
  repeat' (first | omega | apply And.intro)
  refine loopQ env mixed (fun j:Nat=>[(0,.list 1 (rowsL M)),(3,.int .i64 (i:Int)),(4,.int .i64 (j:Int))]) (fun _=>([],0)) (fun j=>j≤(atR M 0).length) (fun j=>(atR M 0).length-j) 0 (by simp) (SubI.slots rfl (by simp)) ?_
  intro j hj
  by_cases hlt2:j<(atR M 0).length
  ·have hent:=hr.2.2.2 i j hlt hlt2
   have hIn:F_s_l1In [.int .i64 (at0 (atR M i) j),.int .i64 (-1000),.int .i64 1000]=some (.bool true):=by
    unfold ent at hent
    have ha : -1000≤at0 (atR M i) j:=by omega
    have hb:at0 (atR M i) j≤1000:=by omega
    simp [F_s_l1In,ha,hb]
   simp -implicitDefEqProofs [sc_s_l13Fits_L2,hlt,hri0,hlt2,rowsL_dR hlt,hIn]
   repeat' (first | omega | apply And.intro)
   exact Again.of (j+1) (by omega) (by omega) (SubI.slots rfl (by simp (disch:=omega) [wrapI]))
  ·simp -implicitDefEqProofs [sc_s_l13Fits_L2,hlt,hri0,hlt2,rowsL_dR hlt]
   repeat' (first | omega | apply And.intro)
   refine SubQ.of (l1:=[(0,.list 1 (rowsL M)),(3,.int .i64 (i:Int))]) (SubI.slots rfl (by simp)) ?_
   simp -implicitDefEqProofs
   exact Again.of (i+1) (by omega) (by omega) (SubI.slots rfl (by simp (disch:=omega) [wrapI]))
 ·have h30:(M.length:Int)≤30:=by omega
  have h30n:M.length≤30:=by omega
  simp -implicitDefEqProofs [sc_s_l13Fits_L0,hlt,h30,h30n]
def sc_s_RankMod:SC:=(.seq (.reg [⟨some 4,none,.mov (.c (.int .i64 0))⟩]) (.seq (.seq (.reg [⟨some 5,none,.mov (.t 1)⟩,⟨some 6,none,.call 49 [.t 5]⟩,⟨some 7,none,.un .not (.t 6)⟩,⟨some 8,none,.mov (.t 7)⟩,⟨some 9,some (8,false),.mov (.t 0)⟩,⟨some 10,some (8,false),.call 50 [.t 9]⟩,⟨some 11,some (8,false),.un .not (.t 10)⟩,⟨some 12,none,.pick (.t 8) (.c (.bool true)) (.t 11)⟩]) (.cond (.t 12) (.seq (.reg [⟨some 4,none,.mov (.c (.int .i64 (-1)))⟩]) .ret) .skip)) (.seq (.reg [⟨some 13,none,.mov (.t 0)⟩,⟨some 14,none,.mov (.t 1)⟩,⟨some 15,none,.call 51 [.t 13,.t 14]⟩,⟨some 4,none,.mov (.t 15)⟩]) .ret)))
theorem code_s_RankMod:fnCode Tryz.prog [] 20=some (16,sc_s_RankMod,[(4,none)]):=by kernel_rfl
noncomputable def F_s_RankMod:List V→Option V:=F2 dLL dI fun M p => @ite _ (fpP p∧0<M.length∧smlM 20 1 M) (Classical.propDecidable _) (some (.int .i64 (rnk p M:Nat))) none
theorem fn_s_RankMod:FnOk Tryz.prog 20 F_s_RankMod:=by
 have env:=(((envNil_ok (P:=Tryz.prog)).add fn_s_IsFieldPrime).add fn_s_l13Fits).add fn_s_l13Rank
 refine fn_ok code_s_RankMod mixed env ?_
 intro args r h hb
 obtain ⟨_,_,M,p,rfl,h1,h2,h4⟩:=F2_inv h
 cases dLL_inv h1
 cases dI_inv h2
 simp only [Option.ite_none_right_eq_some,Option.some.injEq] at h4
 obtain ⟨⟨hp,hpos,hr⟩,rfl⟩:=h4
 clear h h1 h2 hb
 refine ⟨by simp,fun w0 U0 L0 N0 => ?_⟩
 have f1:F_s_IsFieldPrime [.int .i64 p]=some (.bool true):=by
  simp only [F_s_IsFieldPrime,F1_mk,dI_int,Option.bind_some]
  rw [dec_true hp]
 have f2:F_s_l13Fits [.list 1 (rowsL M)]=some (.bool true):=by
  simp only [F_s_l13Fits,F1_mk,dLL_list,Option.bind_some]
  rw [if_pos ⟨hpos,hr⟩]
 have hrec:recM M:=by
  have hn20:=hr.1
  have hw20:=hr.2.2.1 hpos
  refine ⟨⟨by omega,fun i hi => ?_⟩,fun i hi=>hr.2.1 i hi⟩
  have:(atR M i).length=wdM M:=hr.2.1 i hi
  omega
 have f3:F_i_rankOf [.list 1 (rowsL M),.int .i64 p]=some (.int .i64 (rnk p M:Nat)):=by
  simp only [F_i_rankOf,F2_mk,dLL_list,dI_int,Option.bind_some]
  rw [if_pos ⟨hp,hrec⟩]
 simp -implicitDefEqProofs [sc_s_RankMod,f1,f2,f3]
def sc_l_big:SC:=(.seq (.reg [⟨some 2,none,.mov (.c (.bool false))⟩]) (.seq (.reg [⟨some 3,none,.mov (.t 0)⟩,⟨some 4,none,.len (.t 3)⟩,⟨some 5,none,.bin false .gtr (.t 4) (.c (.int .i64 1048576))⟩,⟨some 2,none,.mov (.t 5)⟩]) .ret))
theorem code_l_big:fnCode Tryz.prog [] 4=some (6,sc_l_big,[(2,none)]):=by kernel_rfl
def F_l_big:List V→Option V
 | [.list 1 cells]=>some (.bool (decide (1048576<cells.length)))
 | _=>none
theorem fn_l_big:FnOk Tryz.prog 4 F_l_big:=by
 refine fn_ok code_l_big mixed envNil_ok ?_
 intro args r h hb
 unfold F_l_big at h
 split at h
 case h_2=>simp at h
 rename_i cells
 simp only [Option.some.injEq] at h
 subst h
 refine ⟨by simp,fun w0 U0 L0 N0 => ?_⟩
 clear hb
 by_cases hl:1048576<cells.length
 ·have hl':(1048576:Int)<cells.length:=by omega
  simp -implicitDefEqProofs [sc_l_big,hl,hl']
  try omega
 ·have hl':¬((1048576:Int)<cells.length):=by omega
  simp -implicitDefEqProofs [sc_l_big,hl,hl']
  try omega
def sc_l_sameInts_L0:SC:=(.seq (.seq (.reg [⟨some 11,none,.mov (.t 5)⟩,⟨some 12,none,.mov (.t 0)⟩,⟨some 13,none,.len (.t 12)⟩,⟨some 14,none,.bin false .lss (.t 11) (.t 13)⟩]) (.cond (.t 14) .skip (.exit 0))) (.seq (.block 1 (.seq (.dreg [⟨⟨some 17,none,.mov (.t 0)⟩,false,false⟩,⟨⟨some 18,none,.mov (.t 5)⟩,false,false⟩,⟨⟨some 19,none,.idx 1 (.t 17) (.t 18)⟩,false,false⟩,⟨⟨some 20,none,.ld none (.int .i64 0) (.t 19)⟩,false,false⟩,⟨⟨some 21,none,.mov (.t 1)⟩,false,false⟩,⟨⟨some 22,none,.mov (.t 5)⟩,false,false⟩,⟨⟨some 23,none,.idx 1 (.t 21) (.t 22)⟩,false,false⟩,⟨⟨some 24,none,.ld none (.int .i64 0) (.t 23)⟩,false,false⟩,⟨⟨some 25,none,.bin false .neq (.t 20) (.t 24)⟩,false,false⟩]) (.cond (.t 25) (.seq (.reg [⟨some 4,none,.mov (.c (.bool false))⟩]) .ret) .skip))) (.reg [⟨some 15,none,.mov (.t 5)⟩,⟨some 16,none,.bin false .add (.t 15) (.c (.int .i64 1))⟩,⟨some 5,none,.mov (.t 16)⟩])))
def sc_l_sameInts:SC:=(.seq (.reg [⟨some 4,none,.mov (.c (.bool false))⟩]) (.seq (.seq (.reg [⟨some 6,none,.mov (.t 0)⟩,⟨some 7,none,.len (.t 6)⟩,⟨some 8,none,.mov (.t 1)⟩,⟨some 9,none,.len (.t 8)⟩,⟨some 10,none,.bin false .neq (.t 7) (.t 9)⟩]) (.cond (.t 10) (.seq (.reg [⟨some 4,none,.mov (.c (.bool false))⟩]) .ret) .skip)) (.seq (.seq (.reg [⟨some 5,none,.mov (.c (.int .i64 0))⟩]) (.block 0 (.loop sc_l_sameInts_L0))) (.seq (.reg [⟨some 4,none,.mov (.c (.bool true))⟩]) .ret))))
theorem code_l_sameInts:fnCode Tryz.prog [] 11=some (26,sc_l_sameInts,[(4,none)]):=by kernel_rfl
noncomputable def F_l_sameInts:List V→Option V:=F2 dL dL fun a b=>some (.bool (dec (a=b)))
theorem fn_l_sameInts:FnOk Tryz.prog 11 F_l_sameInts:=by
 refine fn_ok code_l_sameInts mixed envNil_ok ?_
 intro args r h hb
 obtain ⟨_,_,a,b,rfl,h1,h2,h4⟩:=F2_inv h
 cases dL_inv h1
 cases dL_inv h2
 cases h4
 clear h
 have hla:=bnd_ints (hb (.list 1 (ints a)) (by simp))
 refine ⟨by simp,fun w0 U0 L0 N0 => ?_⟩
 clear hb
 generalize hv:dec (a=b)=v
 by_cases hl:a.length=b.length
 rotate_left
 ·have hv1:v=false:=hv ▸ dec_false fun h=>hl (by rw [h])
  have hl':¬((a.length:Int)=b.length):=by omega
  simp -implicitDefEqProofs [sc_l_sameInts,hl',hv1]
 simp -implicitDefEqProofs [sc_l_sameInts,hl]
 refine loopI envNil_ok mixed (fun k:Nat=>[(0,.list 1 (ints a)),(1,.list 1 (ints b)),(5,.int .i64 (k:Int))]) (fun _=>([],0)) (fun k=>k≤a.length∧∀ j,j<k→at0 a j=at0 b j) (fun k=>a.length-k) 0 (by simp) (SubI.slots rfl (by simp)) ?_
 rintro k ⟨hk,hI⟩
 by_cases hlt:k<a.length
 ·have hlt2:k<b.length:=by omega
  by_cases he:at0 a k=at0 b k
  ·simp -implicitDefEqProofs [sc_l_sameInts_L0,freeOk,hlt,hlt2,he]
   repeat' (first | omega | apply And.intro)
   refine Again.of (k+1) ⟨by omega,fun j hj => ?_⟩ (by omega) (SubI.slots rfl (by simp (disch:=omega) [wrapI]))
   rcases Nat.lt_succ_iff_lt_or_eq.1 hj with h1 | rfl
   ·exact hI j h1
   ·exact he
  ·have hv1:v=false:=hv ▸ dec_false fun h=>he (by rw [h])
   simp -implicitDefEqProofs [sc_l_sameInts_L0,freeOk,hlt,hlt2,he,hv1]
   try omega
 ·have hv1:v=true:=hv ▸ dec_true (by
   refine List.ext_getElem hl fun j h1 h2 => ?_
   have:=hI j (by omega)
   rwa [at0_eq h1,at0_eq h2] at this)
  have hka:k=a.length:=by omega
  subst hka
  simp -implicitDefEqProofs [sc_l_sameInts_L0,hl,hv1]
def sc_l_FnTwists_L10:SC:=(.seq (.seq (.reg [⟨some 163,none,.mov (.t 20)⟩,⟨some 164,none,.mov (.t 19)⟩,⟨some 165,none,.len (.t 164)⟩,⟨some 166,none,.bin false .lss (.t 163) (.t 165)⟩]) (.cond (.t 166) .skip (.exit 10))) (.seq (.block 11 (.seq (.reg [⟨some 169,none,.mov (.t 19)⟩,⟨some 170,none,.mov (.t 20)⟩,⟨some 171,none,.idx 1 (.t 169) (.t 170)⟩,⟨some 172,none,.ld none (.int .i64 0) (.t 171)⟩,⟨some 173,none,.mov (.t 17)⟩,⟨some 174,none,.bin false .rem (.t 172) (.t 173)⟩,⟨some 175,none,.bin false .eql (.t 174) (.c (.int .i64 0))⟩]) (.cond (.t 175) (.reg [⟨some 176,none,.mov (.t 18)⟩,⟨some 177,none,.bin false .add (.t 176) (.c (.int .i64 1))⟩,⟨some 18,none,.mov (.t 177)⟩]) .skip))) (.reg [⟨some 167,none,.mov (.t 20)⟩,⟨some 168,none,.bin false .add (.t 167) (.c (.int .i64 1))⟩,⟨some 20,none,.mov (.t 168)⟩])))
def sc_l_FnTwists_L8:SC:=(.seq (.seq (.reg [⟨some 141,none,.mov (.t 16)⟩,⟨some 142,none,.bin false .lss (.t 141) (.c (.int .i64 3))⟩]) (.cond (.t 142) .skip (.exit 8))) (.seq (.block 9 (.seq (.reg [⟨some 145,none,.lit 1 [.int .i64 2,.int .i64 3,.int .i64 5]⟩,⟨some 146,none,.mov (.t 16)⟩,⟨some 147,none,.idx 1 (.t 145) (.t 146)⟩,⟨some 148,none,.ld none (.int .i64 0) (.t 147)⟩,⟨some 17,none,.mov (.t 148)⟩]) (.cut (.reg [⟨some 149,none,.mov (.t 6)⟩,⟨some 150,none,.mov (.t 15)⟩,⟨some 151,none,.idx 1 (.t 149) (.t 150)⟩,⟨some 152,none,.ld none (.int .i64 0) (.t 151)⟩,⟨some 18,none,.mov (.t 152)⟩]) (.cut (.treg (.fst ⟨some 155,none,.mov (.t 15)⟩ true (.fst ⟨some 159,none,.mov (.t 15)⟩ true (.fst ⟨some 160,none,.bin false .sub (.t 159) (.c (.int .i64 1))⟩ true (.alt ⟨some 153,none,.mks 0 1 [] []⟩ true (.fst ⟨some 154,none,.ld (some 2) .undef (.t 5)⟩ false (.fst ⟨some 156,none,.call 14 [.t 154,.t 155]⟩ false (.alt ⟨some 157,none,.app 1 8 (.t 153) (.t 156)⟩ true (.fst ⟨some 158,none,.ld (some 2) .undef (.t 5)⟩ false (.fst ⟨some 161,none,.call 14 [.t 158,.t 160]⟩ false (.alt ⟨some 162,none,.app 1 8 (.t 157) (.t 161)⟩ true (.fst ⟨some 19,none,.mov (.t 162)⟩ false .done) .stop))) (.alt ⟨some 158,none,.ld (some 2) .undef (.t 5)⟩ false (.alt ⟨some 157,none,.app 1 8 (.t 153) (.t 156)⟩ true (.fst ⟨some 161,none,.call 14 [.t 158,.t 160]⟩ false (.alt ⟨some 162,none,.app 1 8 (.t 157) (.t 161)⟩ true (.fst ⟨some 19,none,.mov (.t 162)⟩ false .done) .stop)) .stop) .stop)))) (.alt ⟨some 154,none,.ld (some 2) .undef (.t 5)⟩ false (.fst ⟨some 156,none,.call 14 [.t 154,.t 155]⟩ true (.alt ⟨some 153,none,.mks 0 1 [] []⟩ true (.alt ⟨some 157,none,.app 1 8 (.t 153) (.t 156)⟩ true (.fst ⟨some 158,none,.ld (some 2) .undef (.t 5)⟩ false (.fst ⟨some 161,none,.call 14 [.t 158,.t 160]⟩ false (.alt ⟨some 162,none,.app 1 8 (.t 157) (.t 161)⟩ true (.fst ⟨some 19,none,.mov (.t 162)⟩ false .done) .stop))) (.alt ⟨some 158,none,.ld (some 2) .undef (.t 5)⟩ false (.alt ⟨some 157,none,.app 1 8 (.t 153) (.t 156)⟩ true (.fst ⟨some 161,none,.call 14 [.t 158,.t 160]⟩ false (.alt ⟨some 162,none,.app 1 8 (.t 157) (.t 161)⟩ true (.fst ⟨some 19,none,.mov (.t 162)⟩ false .done) .stop)) .stop) .stop)) (.alt ⟨some 158,none,.ld (some 2) .undef (.t 5)⟩ false (.alt ⟨some 153,none,.mks 0 1 [] []⟩ true (.alt ⟨some 157,none,.app 1 8 (.t 153) (.t 156)⟩ true (.fst ⟨some 161,none,.call 14 [.t 158,.t 160]⟩ false (.alt ⟨some 162,none,.app 1 8 (.t 157) (.t 161)⟩ true (.fst ⟨some 19,none,.mov (.t 162)⟩ false .done) .stop)) .stop) .stop) .stop))) (.alt ⟨some 158,none,.ld (some 2) .undef (.t 5)⟩ false (.alt ⟨some 153,none,.mks 0 1 [] []⟩ true (.fst ⟨some 154,none,.ld (some 2) .undef (.t 5)⟩ false (.fst ⟨some 156,none,.call 14 [.t 154,.t 155]⟩ false (.alt ⟨some 157,none,.app 1 8 (.t 153) (.t 156)⟩ true (.fst ⟨some 161,none,.call 14 [.t 158,.t 160]⟩ false (.alt ⟨some 162,none,.app 1 8 (.t 157) (.t 161)⟩ true (.fst ⟨some 19,none,.mov (.t 162)⟩ false .done) .stop)) .stop))) (.alt ⟨some 154,none,.ld (some 2) .undef (.t 5)⟩ false (.fst ⟨some 156,none,.call 14 [.t 154,.t 155]⟩ true (.alt ⟨some 153,none,.mks 0 1 [] []⟩ true (.alt ⟨some 157,none,.app 1 8 (.t 153) (.t 156)⟩ true (.fst ⟨some 161,none,.call 14 [.t 158,.t 160]⟩ false (.alt ⟨some 162,none,.app 1 8 (.t 157) (.t 161)⟩ true (.fst ⟨some 19,none,.mov (.t 162)⟩ false .done) .stop)) .stop) .stop)) .stop)) .stop))))))) (.seq (.seq (.reg [⟨some 20,none,.mov (.c (.int .i64 0))⟩]) (.block 10 (.loop sc_l_FnTwists_L10))) (.seq (.reg [⟨some 178,none,.ld (some 2) .undef (.t 5)⟩,⟨some 179,none,.mov (.t 17)⟩,⟨some 180,none,.call 22 [.t 178,.t 179]⟩,⟨some 181,none,.mov (.t 15)⟩,⟨some 182,none,.call 21 [.t 180,.t 181]⟩,⟨some 183,none,.mov (.t 18)⟩,⟨some 184,none,.bin false .neq (.t 182) (.t 183)⟩]) (.cond (.t 184) (.seq (.reg [⟨some 2,none,.mov (.c (.bool false))⟩]) .ret) .skip))))))) (.reg [⟨some 143,none,.mov (.t 16)⟩,⟨some 144,none,.bin false .add (.t 143) (.c (.int .i64 1))⟩,⟨some 16,none,.mov (.t 144)⟩])))
def sc_l_FnTwists_L6:SC:=(.seq (.seq (.reg [⟨some 135,none,.mov (.t 15)⟩,⟨some 136,none,.mov (.t 6)⟩,⟨some 137,none,.len (.t 136)⟩,⟨some 138,none,.bin false .lss (.t 135) (.t 137)⟩]) (.cond (.t 138) .skip (.exit 6))) (.seq (.block 7 (.seq (.reg [⟨some 16,none,.mov (.c (.int .i64 0))⟩]) (.block 8 (.loop sc_l_FnTwists_L8)))) (.reg [⟨some 139,none,.mov (.t 15)⟩,⟨some 140,none,.bin false .add (.t 139) (.c (.int .i64 1))⟩,⟨some 15,none,.mov (.t 140)⟩])))
def sc_l_FnTwists_L4:SC:=(.seq (.seq (.reg [⟨some 115,none,.mov (.t 14)⟩,⟨some 116,none,.mov (.t 4)⟩,⟨some 117,none,.len (.t 116)⟩,⟨some 118,none,.bin false .lss (.t 115) (.t 117)⟩]) (.cond (.t 118) .skip (.exit 4))) (.seq (.block 5 (.seq (.reg [⟨some 121,none,.mov (.t 4)⟩,⟨some 122,none,.mov (.t 14)⟩,⟨some 123,none,.idx 1 (.t 121) (.t 122)⟩,⟨some 124,none,.ld none (.int .i64 0) (.t 123)⟩,⟨some 125,none,.mov (.t 12)⟩,⟨some 126,none,.bin false .rem (.t 124) (.t 125)⟩,⟨some 127,none,.bin false .neq (.t 126) (.c (.int .i64 0))⟩]) (.cond (.t 127) (.reg [⟨some 128,none,.mov (.t 13)⟩,⟨some 129,none,.bin false .add (.t 128) (.c (.int .i64 1))⟩,⟨some 13,none,.mov (.t 129)⟩]) .skip))) (.reg [⟨some 119,none,.mov (.t 14)⟩,⟨some 120,none,.bin false .add (.t 119) (.c (.int .i64 1))⟩,⟨some 14,none,.mov (.t 120)⟩])))
def sc_l_FnTwists_L2:SC:=(.seq (.seq (.reg [⟨some 102,none,.mov (.t 11)⟩,⟨some 103,none,.bin false .lss (.t 102) (.c (.int .i64 3))⟩,⟨some 104,none,.mov (.t 103)⟩,⟨some 105,some (104,true),.mov (.t 4)⟩,⟨some 106,some (104,true),.len (.t 105)⟩,⟨some 107,some (104,true),.bin false .gtr (.t 106) (.c (.int .i64 0))⟩,⟨some 108,none,.pick (.t 104) (.t 107) (.c (.bool false))⟩]) (.cond (.t 108) .skip (.exit 2))) (.seq (.block 3 (.seq (.reg [⟨some 111,none,.lit 1 [.int .i64 2,.int .i64 3,.int .i64 5]⟩,⟨some 112,none,.mov (.t 11)⟩,⟨some 113,none,.idx 1 (.t 111) (.t 112)⟩,⟨some 114,none,.ld none (.int .i64 0) (.t 113)⟩,⟨some 12,none,.mov (.t 114)⟩]) (.seq (.reg [⟨some 13,none,.mov (.c (.int .i64 0))⟩]) (.seq (.seq (.reg [⟨some 14,none,.mov (.c (.int .i64 0))⟩]) (.block 4 (.loop sc_l_FnTwists_L4))) (.seq (.reg [⟨some 130,none,.mov (.t 3)⟩,⟨some 131,none,.mov (.t 12)⟩,⟨some 132,none,.call 20 [.t 130,.t 131]⟩,⟨some 133,none,.mov (.t 13)⟩,⟨some 134,none,.bin false .neq (.t 132) (.t 133)⟩]) (.cond (.t 134) (.seq (.reg [⟨some 2,none,.mov (.c (.bool false))⟩]) .ret) .skip)))))) (.reg [⟨some 109,none,.mov (.t 11)⟩,⟨some 110,none,.bin false .add (.t 109) (.c (.int .i64 1))⟩,⟨some 11,none,.mov (.t 110)⟩])))
def sc_l_FnTwists_L0:SC:=(.seq (.seq (.reg [⟨some 74,none,.mov (.t 10)⟩,⟨some 75,none,.mov (.t 4)⟩,⟨some 76,none,.len (.t 75)⟩,⟨some 77,none,.bin false .lss (.t 74) (.t 76)⟩]) (.cond (.t 77) .skip (.exit 0))) (.seq (.block 1 (.seq (.dreg [⟨⟨some 80,none,.mov (.t 4)⟩,false,false⟩,⟨⟨some 81,none,.mov (.t 10)⟩,false,false⟩,⟨⟨some 82,none,.idx 1 (.t 80) (.t 81)⟩,false,false⟩,⟨⟨some 83,none,.ld none (.int .i64 0) (.t 82)⟩,false,false⟩,⟨⟨some 84,none,.bin false .lss (.t 83) (.c (.int .i64 1))⟩,false,false⟩,⟨⟨some 85,none,.mov (.t 84)⟩,false,false⟩,⟨⟨some 86,some (85,false),.mov (.t 10)⟩,false,false⟩,⟨⟨some 87,some (85,false),.bin false .gtr (.t 86) (.c (.int .i64 0))⟩,false,false⟩,⟨⟨some 88,some (85,false),.mov (.t 87)⟩,false,false⟩,⟨⟨some 89,some (88,true),.mov (.t 4)⟩,false,false⟩,⟨⟨some 90,some (88,true),.mov (.t 10)⟩,false,false⟩,⟨⟨some 91,some (88,true),.idx 1 (.t 89) (.t 90)⟩,false,false⟩,⟨⟨some 92,some (88,true),.ld none (.int .i64 0) (.t 91)⟩,false,false⟩,⟨⟨some 93,some (88,true),.mov (.t 4)⟩,false,false⟩,⟨⟨some 94,some (88,true),.mov (.t 10)⟩,false,false⟩,⟨⟨some 95,some (88,true),.bin false .sub (.t 94) (.c (.int .i64 1))⟩,false,false⟩,⟨⟨some 96,some (88,true),.idx 1 (.t 93) (.t 95)⟩,false,false⟩,⟨⟨some 97,some (88,true),.ld none (.int .i64 0) (.t 96)⟩,false,false⟩,⟨⟨some 98,some (88,true),.bin false .rem (.t 92) (.t 97)⟩,false,false⟩,⟨⟨some 99,some (88,true),.bin false .neq (.t 98) (.c (.int .i64 0))⟩,false,false⟩,⟨⟨some 100,some (85,false),.pick (.t 88) (.t 99) (.c (.bool false))⟩,false,false⟩,⟨⟨some 101,none,.pick (.t 85) (.c (.bool true)) (.t 100)⟩,false,false⟩]) (.cond (.t 101) (.seq (.reg [⟨some 2,none,.mov (.c (.bool false))⟩]) .ret) .skip))) (.reg [⟨some 78,none,.mov (.t 10)⟩,⟨some 79,none,.bin false .add (.t 78) (.c (.int .i64 1))⟩,⟨some 10,none,.mov (.t 79)⟩])))
def sc_l_FnTwists:SC:=(.seq (.reg [⟨some 2,none,.mov (.c (.bool false))⟩]) (.seq (.seq (.reg [⟨some 21,none,.mov (.t 0)⟩,⟨some 22,none,.call 4 [.t 21]⟩]) (.cond (.t 22) (.seq (.reg [⟨some 2,none,.mov (.c (.bool true))⟩]) .ret) .skip)) (.seq (.reg [⟨some 23,none,.mov (.t 0)⟩,⟨some 24,none,.call 5 [.t 23]⟩,⟨some 3,none,.mov (.t 24)⟩]) (.seq (.reg [⟨some 25,none,.mov (.t 3)⟩,⟨some 26,none,.call 6 [.t 25]⟩,⟨some 4,none,.mov (.t 26)⟩]) (.seq (.reg [⟨some 27,none,.mov (.t 0)⟩,⟨some 28,none,.call 7 [.t 27]⟩,⟨some 5,none,.new [.int .i64 0,.nil]⟩,⟨none,none,.st 2 (.t 5) (.t 28)⟩]) (.seq (.reg [⟨some 29,none,.ld (some 2) .undef (.t 5)⟩,⟨some 30,none,.call 8 [.t 29]⟩,⟨some 6,none,.mov (.t 30)⟩]) (.seq (.reg [⟨some 32,none,.mov (.t 0)⟩,⟨some 33,none,.call 9 [.t 32]⟩,⟨some 31,none,.mov (.t 33)⟩,⟨some 34,none,.ext 0 (.t 31)⟩,⟨some 35,none,.ext 1 (.t 31)⟩,⟨some 7,none,.new [.int .i64 0,.nil]⟩,⟨none,none,.st 2 (.t 7) (.t 34)⟩,⟨some 8,none,.mov (.t 35)⟩]) (.cut (.reg [⟨some 36,none,.mov (.t 0)⟩,⟨some 37,none,.call 10 [.t 36]⟩,⟨some 9,none,.new [.int .i64 0,.nil]⟩,⟨none,none,.st 2 (.t 9) (.t 37)⟩]) (.cut (.seq (.dreg [⟨⟨some 38,none,.mov (.t 4)⟩,false,false⟩,⟨⟨some 39,none,.mov (.t 3)⟩,false,false⟩,⟨⟨some 40,none,.call 12 [.t 39]⟩,false,false⟩,⟨⟨some 41,none,.call 11 [.t 38,.t 40]⟩,false,false⟩,⟨⟨some 42,none,.un .not (.t 41)⟩,false,false⟩,⟨⟨some 43,none,.mov (.t 42)⟩,false,false⟩,⟨⟨some 44,some (43,false),.mov (.t 6)⟩,false,false⟩,⟨⟨some 45,some (43,false),.ld (some 2) .undef (.t 5)⟩,false,false⟩,⟨⟨some 46,some (43,false),.call 13 [.t 45]⟩,false,false⟩,⟨⟨some 47,some (43,false),.call 11 [.t 44,.t 46]⟩,false,false⟩,⟨⟨some 48,some (43,false),.un .not (.t 47)⟩,false,false⟩,⟨⟨some 49,none,.pick (.t 43) (.c (.bool true)) (.t 48)⟩,false,false⟩,⟨⟨some 50,none,.mov (.t 49)⟩,false,false⟩,⟨⟨some 51,some (50,false),.ld (some 2) .undef (.t 7)⟩,false,false⟩,⟨⟨some 52,some (50,false),.mov (.t 8)⟩,false,false⟩,⟨⟨some 53,some (50,false),.call 14 [.t 51,.t 52]⟩,false,false⟩,⟨⟨some 54,some (50,false),.ld (some 2) .undef (.t 7)⟩,false,false⟩,⟨⟨some 55,some (50,false),.mov (.t 8)⟩,false,false⟩,⟨⟨some 56,some (50,false),.call 15 [.t 54,.t 55]⟩,false,false⟩,⟨⟨some 57,some (50,false),.call 11 [.t 53,.t 56]⟩,false,false⟩,⟨⟨some 58,some (50,false),.un .not (.t 57)⟩,false,false⟩,⟨⟨some 59,none,.pick (.t 50) (.c (.bool true)) (.t 58)⟩,false,false⟩,⟨⟨some 60,none,.mov (.t 59)⟩,false,false⟩,⟨⟨some 61,some (60,false),.ld (some 2) .undef (.t 5)⟩,false,false⟩,⟨⟨some 62,some (60,false),.call 16 [.t 61]⟩,false,false⟩,⟨⟨some 63,some (60,false),.ld (some 2) .undef (.t 5)⟩,false,false⟩,⟨⟨some 64,some (60,false),.call 17 [.t 63]⟩,false,false⟩,⟨⟨some 65,some (60,false),.bin false .neq (.t 62) (.t 64)⟩,false,false⟩,⟨⟨some 66,none,.pick (.t 60) (.c (.bool true)) (.t 65)⟩,false,false⟩,⟨⟨some 67,none,.mov (.t 66)⟩,false,false⟩,⟨⟨some 68,some (67,false),.ld (some 2) .undef (.t 9)⟩,false,false⟩,⟨⟨some 69,some (67,false),.call 18 [.t 68]⟩,false,false⟩,⟨⟨some 70,some (67,false),.ld (some 2) .undef (.t 9)⟩,false,false⟩,⟨⟨some 71,some (67,false),.call 19 [.t 70]⟩,false,false⟩,⟨⟨some 72,some (67,false),.bin true .neq (.t 69) (.t 71)⟩,false,false⟩,⟨⟨some 73,none,.pick (.t 67) (.c (.bool true)) (.t 72)⟩,false,false⟩]) (.cond (.t 73) (.seq (.reg [⟨some 2,none,.mov (.c (.bool false))⟩]) .ret) .skip)) (.cut (.seq (.reg [⟨some 10,none,.mov (.c (.int .i64 0))⟩]) (.block 0 (.loop sc_l_FnTwists_L0))) (.cut (.seq (.reg [⟨some 11,none,.mov (.c (.int .i64 0))⟩]) (.block 2 (.loop sc_l_FnTwists_L2))) (.seq (.seq (.reg [⟨some 15,none,.mov (.c (.int .i64 0))⟩]) (.block 6 (.loop sc_l_FnTwists_L6))) (.seq (.reg [⟨some 2,none,.mov (.c (.bool true))⟩]) .ret)))))))))))))
theorem code_l_FnTwists:fnCode Tryz.prog [666666,777777,1000010,1000011,1000015,1000020] 3=some (185,sc_l_FnTwists,[(2,none)]):=by kernel_rfl
open Classical in
noncomputable def F_l_FnTwists:List V→Option V
 | [.list 1 cells]=>if ∃ b,(∀ x∈b,0≤x∧x<256)∧cells=u8s b then some (.bool true) else none
 | _=>none
theorem lit3_at {j:Nat} (h:j < [V.int .i64 2,V.int .i64 3,V.int .i64 5].length):[V.int .i64 2,V.int .i64 3,V.int .i64 5][j]'h = .int .i64 (pr3 j):=by
 rcases (show j=0∨j=1∨j=2 by simp at h; omega) with rfl | rfl | rfl <;> rfl
set_option maxHeartbeats 20000000
theorem fn_l_FnTwists:FnOk Tryz.prog 3 F_l_FnTwists:=by
 have env:=(((((((((((((((((((envNil_ok (P:=Tryz.prog)).add fn_l_big).add fn_l_sameInts).add fn_l_at22).add fn_s_DrawSmithOf).add fn_s_DrawFreeHoles).add fn_s_DrawTwistsOf).add fn_s_DrawCanTwist).add fn_s_SmithOf).add fn_i_SmithOf).add fn_s_FreeHoles).add fn_i_FreeHoles).add fn_s_TwistsOf).add fn_i_TwistsOf).add fn_s_HolesText).add fn_i_HolesText).add fn_s_CanTwist).add fn_i_CanTwist).add fn_s_RankMod).add fn_s_HolesMod
 refine fn_ok code_l_FnTwists mixed env ?_
 intro args r h hb
 unfold F_l_FnTwists at h
 split at h
 case h_2=>simp at h
 rename_i cells
 simp only [Option.ite_none_right_eq_some,Option.some.injEq] at h
 obtain ⟨⟨b,hbr,rfl⟩,rfl⟩:=h
 clear hb
 refine ⟨by simp,fun w0 U0 L0 N0 => ?_⟩
 have hBig:F_l_big [.list 1 (u8s b)]=some (.bool (decide (1048576<b.length))):=by simp only [F_l_big,u8s_len]
 by_cases hlong:1048576<b.length
 ·rw [decide_eq_true hlong] at hBig
  simp -implicitDefEqProofs [sc_l_FnTwists,hBig]
 rw [decide_eq_false hlong] at hBig
 have hw:wfb b:=⟨hbr,by omega⟩
 have hD1:F_s_DrawSmithOf [.list 1 (u8s b)]=some (.own 1 (rowsV (dsM (newCur b)))):=by
  simp only [F_s_DrawSmithOf,F1_mk,dBy_list hw,Option.bind_some]
 have hD2:F_s_DrawFreeHoles [.list 1 (u8s b)]=some (.agg [.int .i64 (bentN (newCur b)).1.1,.own 1 (ints (bentN (newCur b)).1.2)]):=by
  simp only [F_s_DrawFreeHoles,F1_mk,dBy_list hw,Option.bind_some]
 have hD3:F_s_DrawTwistsOf [.list 1 (u8s b)]=some (.tup [.agg [.int .i64 (twDX (newCur b)).1,.own 1 (ints (twDX (newCur b)).2)],.int .i64 (twDK (newCur b))]):=by
  simp only [F_s_DrawTwistsOf,F1_mk,dBy_list hw,Option.bind_some]
 have hD4:F_s_DrawCanTwist [.list 1 (u8s b)]=some (.agg [.int .i64 (twDX (newCur b)).1,.own 1 (ints (twDX (newCur b)).2)]):=by
  simp only [F_s_DrawCanTwist,F1_mk,dBy_list hw,Option.bind_some]
 obtain ⟨R,hR1,hR2⟩:=dsM_smith (newCur b)
 generalize dsM (newCur b)=M at *
 generalize (bentN (newCur b)).1=c1 at *
 generalize twDX (newCur b)=c2 at *
 generalize twDK (newCur b)=kk at *
 obtain ⟨n,l⟩:=c1
 obtain ⟨n2,l2⟩:=c2
 simp only at hD1 hD2 hD3 hD4
 clear hw hbr
 obtain ⟨m1,m2,m3,m4⟩:=tw_main hR1
 obtain ⟨t1,t2⟩:=tw_holes n l
 have hS1:F_s_SmithOf [.list 1 (rowsL M)]=some (.own 1 (ints R)):=by
  simp only [F_s_SmithOf,F1_mk,dLL_list,Option.bind_some,hR1,Option.map_some]
 have hS2:F_i_SmithOf [.list 1 (rowsL M)]=some (.own 1 (ints R)):=by
  simp only [F_i_SmithOf,F1_mk,dLL_list,Option.bind_some,hR2,Option.map_some]
 have hF:F_s_FreeHoles [.agg [.int .i64 n,.list 1 (ints l)]]=some (.own 1 (ints (frL n l))):=by
  simp only [F_s_FreeHoles,F1_mk,dC_agg,Option.bind_some]
 have hT:∀ k,F_s_TwistsOf [.agg [.int .i64 n,.list 1 (ints l)],.int .i64 k]=some (.own 1 (ints (twL n l k))):=fun k=>by
  simp only [F_s_TwistsOf,F2_mk,dC_agg,dI_int,Option.bind_some]
 have hT2:F_s_TwistsOf [.agg [.int .i64 n2,.list 1 (ints l2)],.int .i64 kk]=some (.own 1 (ints (twL n2 l2 kk))):=by
  simp only [F_s_TwistsOf,F2_mk,dC_agg,dI_int,Option.bind_some]
 have hH:F_s_HolesText [.agg [.int .i64 n,.list 1 (ints l)]]=some (.str (htS n l)):=by
  simp only [F_s_HolesText,F1_mk,dC_agg,Option.bind_some]
 have hC:F_s_CanTwist [.agg [.int .i64 n2,.list 1 (ints l2)]]=some (.bool (dec (canP n2 l2))):=by
  simp only [F_s_CanTwist,F1_mk,dC_agg,Option.bind_some]
 have hHM:∀ p,F_s_HolesMod [.agg [.int .i64 n,.list 1 (ints l)],.int .i64 p]=some (.own 1 (ints (hmL n l p))):=fun p=>by
  simp only [F_s_HolesMod,F2_mk,dC_agg,dI_int,Option.bind_some]
 have hAt:∀ (a:List Int) (i:Nat),F_l_at22 [.list 1 (ints a),.int .i64 (i:Int)]=some (.int .i64 (atZ a i)):=fun a i=>by
  simp only [F_l_at22,F2_mk,dL_list,dI_int,Option.bind_some]
 have hI:∀ a:List Int,F_l_sameInts [.list 1 (ints a),.list 1 (ints a)]=some (.bool true):=fun a=>by
  simp only [F_l_sameInts,F2_mk,dL_list,Option.bind_some]
  rw [show dec True=true from dec_iff.2 trivial]
 have hRM:0<R.length→∀ j,j<3→F_s_RankMod [.list 1 (rowsL M),.int .i64 (pr3 j)]=some (.int .i64 (cuN (pr3 j) R R.length:Nat)):=fun h0 j hj=>by
  obtain ⟨q1,q2,q3⟩:=m4 h0
  simp only [F_s_RankMod,F2_mk,dLL_list,dI_int,Option.bind_some]
  rw [if_pos ⟨pr3_fp hj,q1,q2⟩,q3 _ (pr3_fp hj),cuN_all]
 clear hR1 hR2 m4
 generalize htS n l=tx at *
 generalize dec (canP n2 l2)=cb at *
 generalize twL n2 l2 kk=T2 at *
 simp -implicitDefEqProofs [sc_l_FnTwists,freeOk,hBig,hD1,hD2,hD3,hD4,hS2,hF]
 generalize frL n l=O at *
 refine CutI.of (l':=[(3,.sl 0 1 0 M.length),(4,.sl 1 1 0 R.length),(5,.pt 3 0),(6,.sl 4 1 0 O.length),(7,.pt 6 0),(8,.int .i64 kk),(9,.pt 8 0)]) (SubI.slots rfl (by simp)) ?_
 clear hD1 hD2 hD3 hD4 hBig hS2
 simp -implicitDefEqProofs [freeOk,hS1,hF,hT2,hH,hC,hI]
 refine CutI.of (l':=[(3,.sl 0 1 0 M.length),(4,.sl 1 1 0 R.length),(5,.pt 3 0),(6,.sl 4 1 0 O.length)]) (s':=([(4,ints O),(3,[.int .i64 n,.sl 2 1 0 l.length]),(2,ints l),(1,ints R),(0,rowsV M)],5)) (SubI.ren (fun m=>if m<5 then some m else none) ?_ ?_ ?_ (by simp) (by simp)) ?_
 ·simp [renV,ren1]
 ·simp [renL,ren1]
 ·intro m hm
  simp only at hm
  rw [if_neg (by omega)]
 clear hS1 hF hT2 hH hC hI
 simp -implicitDefEqProofs []
 refine loopI env mixed (fun i:Nat=>[(3,.sl 0 1 0 M.length),(4,.sl 1 1 0 R.length),(5,.pt 3 0),(6,.sl 4 1 0 O.length),(10,.int .i64 (i:Int))]) (fun _=>([(4,ints O),(3,[.int .i64 n,.sl 2 1 0 l.length]),(2,ints l),(1,ints R),(0,rowsV M)],5)) (fun i=>i≤R.length) (fun i=>R.length-i) 0 (by simp) (SubI.slots rfl (by simp)) ?_
 intro i hi
 have hwi:IntKind.i64.wrap ((i:Int)+1)=(i:Int)+1:=wrapI _ (by omega) (by omega)
 by_cases hlt:i<R.length
 ·have h1:=m2 i hlt
  have h2:¬at0 R i<1:=by omega
  rcases i with _ | i
  ·simp -implicitDefEqProofs [sc_l_FnTwists_L0,freeOk,hlt,h2]
   exact Again.of 1 (by omega) (by omega) (SubI.slots rfl (by simp (disch:=omega) [wrapI]))
  ·have h3:=m3 i hlt
   have h4:=m2 i (by omega)
   have h5:¬at0 R i=0:=by omega
   have hlt2:i<R.length:=by omega
   have hltI:(i:Int)+1<(R.length:Int):=by omega
   have hw2:IntKind.i64.wrap (i:Int)=(i:Int):=wrapI _ (by omega) (by omega)
   have hp:(0:Int)<(i:Int)+1:=by omega
   have hw3:IntKind.i64.wrap ((i:Int)+1+1)=(i:Int)+1+1:=wrapI _ (by omega) (by omega)
   simp -implicitDefEqProofs [sc_l_FnTwists_L0,freeOk,hlt,hltI,hlt2,h2,h3,h5,hw2,hp,hw3]
   repeat' (first | omega | apply And.intro)
   exact Again.of (i+2) (by omega) (by omega) (SubI.slots rfl (by simp; omega))
 clear m2 m3
 simp -implicitDefEqProofs [sc_l_FnTwists_L0,freeOk,hlt]
 refine CutI.of (l':=[(3,.sl 0 1 0 M.length),(4,.sl 1 1 0 R.length),(5,.pt 3 0),(6,.sl 4 1 0 O.length)]) (s':=([(4,ints O),(3,[.int .i64 n,.sl 2 1 0 l.length]),(2,ints l),(1,ints R),(0,rowsV M)],5)) (SubI.slots rfl (by simp)) ?_
 simp -implicitDefEqProofs []
 clear hlt hwi hi
 refine loopI env mixed (fun j:Nat=>[(3,.sl 0 1 0 M.length),(4,.sl 1 1 0 R.length),(5,.pt 3 0),(6,.sl 4 1 0 O.length),(11,.int .i64 (j:Int))]) (fun _=>([(4,ints O),(3,[.int .i64 n,.sl 2 1 0 l.length]),(2,ints l),(1,ints R),(0,rowsV M)],5)) (fun j=>j≤3) (fun j=>3-j) 0 (by simp) (SubI.slots rfl (by simp)) ?_
 intro j hj
 by_cases hgo:j<3∧0<R.length
 ·obtain ⟨hlt,h0⟩:=hgo
  have hltI:(j:Int)<3:=by omega
  have h0I:(0:Int)<(R.length:Int):=by omega
  have hp:=pr3_fp hlt
  obtain ⟨hp2,hp5⟩:=fp_bnd hp
  have hp0:¬pr3 j=0:=by omega
  have hwj:IntKind.i64.wrap ((j:Int)+1)=(j:Int)+1:=wrapI _ (by omega) (by omega)
  have hrm:=hRM h0 j hlt
  have hle:=cuN_le (pr3 j) R
  simp -implicitDefEqProofs [sc_l_FnTwists_L2,freeOk,hlt,h0,hltI,h0I,lit3_at]
  generalize pr3 j=p at *
  refine ⟨by omega,?_⟩
  refine loopQ env mixed (fun i:Nat=>[(3,.sl 0 1 0 M.length),(4,.sl 1 1 0 R.length),(5,.pt 3 0),(6,.sl 4 1 0 O.length),(11,.int .i64 (j:Int)),(12,.int .i64 p),(13,.int .i64 (cuN p R i:Nat)),(14,.int .i64 (i:Int))]) (fun _=>([(4,ints O),(3,[.int .i64 n,.sl 2 1 0 l.length]),(2,ints l),(1,ints R),(0,rowsV M)],5)) (fun i=>i≤R.length) (fun i=>R.length-i) 0 (by simp) (SubI.slots rfl (by simp [cuN_zero])) ?_
  intro i hi
  have hle2:=hle i
  have hwi:IntKind.i64.wrap ((i:Int)+1)=(i:Int)+1:=wrapI _ (by omega) (by omega)
  have hwn:IntKind.i64.wrap ((cuN p R i:Nat)+1)=((cuN p R i:Nat):Int)+1:=wrapI _ (by omega) (by omega)
  by_cases hl2:i<R.length
  ·by_cases hz:(at0 R i).tmod p=0
   ·have e:=cuN_no hl2 hz
    simp -implicitDefEqProofs [sc_l_FnTwists_L4,freeOk,hl2,hz,hp0,hwi]
    repeat' (first | omega | apply And.intro)
    exact Again.of (i+1) (by omega) (by omega) (SubI.slots rfl (by simp [e]))
   ·have e:=cuN_yes hl2 hz
    simp -implicitDefEqProofs [sc_l_FnTwists_L4,freeOk,hl2,hz,hp0,hwi,hwn]
    repeat' (first | omega | apply And.intro)
    exact Again.of (i+1) (by omega) (by omega) (SubI.slots rfl (by simp [e]))
  ·have:i=R.length:=by omega
   subst this
   simp -implicitDefEqProofs [sc_l_FnTwists_L4]
   refine SubQ.of (l1:=[(3,.sl 0 1 0 M.length),(4,.sl 1 1 0 R.length),(5,.pt 3 0),(6,.sl 4 1 0 O.length),(11,.int .i64 (j:Int)),(12,.int .i64 p),(13,.int .i64 (cuN p R R.length:Nat))]) (SubI.slots rfl (by simp)) ?_
   simp -implicitDefEqProofs [hrm,hwj]
   exact Again.of (j+1) (by omega) (by omega) (SubI.slots rfl (by simp))
 have hcas:(j:Int)<3∧¬(0:Int)<(R.length:Int)∨¬(j:Int)<3:=by omega
 rcases hcas with ⟨hlt,h0I⟩ | hlt
 case' inl =>
  have h0:¬0<R.length:=by omega
  simp -implicitDefEqProofs [sc_l_FnTwists_L2,freeOk,hlt,h0,h0I]
 case' inr =>
  have hltN:¬j<3:=by omega
  simp -implicitDefEqProofs [sc_l_FnTwists_L2,freeOk,hlt,hltN]
 all_goals
  refine CutI.of (l':=[(5,.pt 0 0),(6,.sl 1 1 0 O.length)]) (s':=([(1,ints O),(0,[.int .i64 n,.list 1 (ints l)])],2)) (SubI.frzC 3 2 1 1 l.length (cn:=ints l) (co:=[.int .i64 n,.sl 2 1 0 l.length]) rfl rfl rfl (by simp) (nums_ints l) (SubI.ren (k0:=0) (fun m=>if m=0 then some 3 else if m=1 then some 4 else none) ?_ ?_ ?_ (by simp) (by simp))) ?_
  ·simp [renV,ren1]
  ·simp [renL,ren1]
  ·intro m hm
   simp only at hm
   rw [if_neg (by omega),if_neg (by omega)]
  clear hRM hlt hgo hj
  simp -implicitDefEqProofs []
  refine loopI env mixed (fun i:Nat=>[(5,.pt 0 0),(6,.sl 1 1 0 O.length),(15,.int .i64 (i:Int))]) (fun _=>([(1,ints O),(0,[.int .i64 n,.list 1 (ints l)])],2)) (fun i=>i≤O.length) (fun i=>O.length-i) 0 (by simp) (SubI.slots rfl (by simp)) ?_
  intro i hi
  by_cases hlo:i<O.length
  ·obtain ⟨⟨f0,f1⟩,f2,f3⟩:=t2 i hlo
   have hwi:IntKind.i64.wrap ((i:Int)+1)=(i:Int)+1:=wrapI _ (by omega) (by omega)
   have hwm:IntKind.i64.wrap ((i:Int)-1)=(i:Int)-1:=wrapI _ (by omega) (by omega)
   have hT0:=hT i
   have hT1:=hT ((i:Int)-1)
   simp -implicitDefEqProofs [sc_l_FnTwists_L6,freeOk,hlo]
   refine loopQ env mixed (fun j:Nat=>[(5,.pt 0 0),(6,.sl 1 1 0 O.length),(15,.int .i64 (i:Int)),(16,.int .i64 (j:Int))]) (fun _=>([(1,ints O),(0,[.int .i64 n,.list 1 (ints l)])],2)) (fun j=>j≤3) (fun j=>3-j) 0 (by simp) (SubI.slots rfl (by simp)) ?_
   intro j hj
   by_cases hlt:j<3
   ·have hltI:(j:Int)<3:=by omega
    have hp:=pr3_fp hlt
    obtain ⟨hp2,hp5⟩:=fp_bnd hp
    have hp0:¬pr3 j=0:=by omega
    have hwj:IntKind.i64.wrap ((j:Int)+1)=(j:Int)+1:=wrapI _ (by omega) (by omega)
    have hA:=f3 _ hp
    have hM:=hHM (pr3 j)
    simp -implicitDefEqProofs [sc_l_FnTwists_L8,freeOk,hlt,hltI,hlo,lit3_at]
    generalize pr3 j=p at *
    refine ⟨by omega,?_⟩
    refine CutI.of (l':=[(5,.pt 0 0),(6,.sl 1 1 0 O.length),(15,.int .i64 (i:Int)),(16,.int .i64 (j:Int)),(17,.int .i64 p),(18,.int .i64 (at0 O i))]) (s':=([(1,ints O),(0,[.int .i64 n,.list 1 (ints l)])],2)) (SubI.slots rfl (by simp)) ?_
    simp -implicitDefEqProofs [freeOk,hT0,hT1,hwm]
    rw [List.length_append] at f2
    have hNl:(twL n l i).length+(twL n l ((i:Int)-1)).length=(twL n l i++twL n l ((i:Int)-1)).length:=by rw [List.length_append]
    repeat' (first | omega | apply And.intro)
    all_goals
     rw [hNl] at f2
     generalize twL n l i++twL n l ((i:Int)-1)=N at *
     refine CutI.of (l':=[(5,.pt 0 0),(6,.sl 1 1 0 O.length),(15,.int .i64 (i:Int)),(16,.int .i64 (j:Int)),(17,.int .i64 p),(18,.int .i64 (at0 O i)),(19,.sl 2 1 0 N.length)]) (s':=([(2,ints N),(1,ints O),(0,[.int .i64 n,.list 1 (ints l)])],3)) (SubI.ren (k0:=0) (fun m=>if m=0 then some 0 else if m=1 then some 1 else if m=2 then some 4 else none) ?_ ?_ ?_ (by simp) (by simp)) ?_
     ·simp [renV,ren1,hNl]
     ·simp [renL,ren1]
     ·intro m hm
      simp only at hm
      rw [if_neg (by omega),if_neg (by omega),if_neg (by omega)]
     have hle:=cdN_le p N
     have hAl:at0 O i+(cdN p N N.length:Nat)=atZ (hmL n l p) i:=by rw [hA,cdN_all]
     have hAt2:=hAt (hmL n l p) i
     rw [← hAl] at hAt2
     clear hA hNl
     simp -implicitDefEqProofs []
     refine loopQ env mixed (fun t:Nat=>[(5,.pt 0 0),(6,.sl 1 1 0 O.length),(15,.int .i64 (i:Int)),(16,.int .i64 (j:Int)),(17,.int .i64 p),(18,.int .i64 (at0 O i+(cdN p N t:Nat))),(19,.sl 2 1 0 N.length),(20,.int .i64 (t:Int))]) (fun _=>([(2,ints N),(1,ints O),(0,[.int .i64 n,.list 1 (ints l)])],3)) (fun t=>t≤N.length) (fun t=>N.length-t) 0 (by simp) (SubI.slots rfl (by simp [cdN_zero])) ?_
     intro t ht
     have hle2:=hle t
     have hwt:IntKind.i64.wrap ((t:Int)+1)=(t:Int)+1:=wrapI _ (by omega) (by omega)
     have hwn:IntKind.i64.wrap (at0 O i+(cdN p N t:Nat)+1)=at0 O i+(cdN p N t:Nat)+1:=wrapI _ (by omega) (by omega)
     by_cases hl2:t<N.length
     ·by_cases hz:(at0 N t).tmod p=0
      ·have e:=cdN_yes hl2 hz
       simp -implicitDefEqProofs [sc_l_FnTwists_L10,freeOk,hl2,hz,hp0,hwt,hwn]
       repeat' (first | omega | apply And.intro)
       exact Again.of (t+1) (by omega) (by omega) (SubI.slots rfl (by simp [e]; omega))
      ·have e:=cdN_no hl2 hz
       simp -implicitDefEqProofs [sc_l_FnTwists_L10,freeOk,hl2,hz,hp0,hwt]
       repeat' (first | omega | apply And.intro)
       exact Again.of (t+1) (by omega) (by omega) (SubI.slots rfl (by simp [e]))
     ·have:t=N.length:=by omega
      subst this
      simp -implicitDefEqProofs [sc_l_FnTwists_L10]
      refine SubQ.of (l1:=[(5,.pt 0 0),(6,.sl 1 1 0 O.length),(15,.int .i64 (i:Int)),(16,.int .i64 (j:Int)),(17,.int .i64 p),(18,.int .i64 (at0 O i+(cdN p N N.length:Nat)))]) (SubI.slots rfl (by simp)) ?_
      simp -implicitDefEqProofs [hM,hAt2,hwj]
      refine Again.of (j+1) (by omega) (by omega) (SubI.ren (k0:=0) (fun m=>if m=0 then some 0 else if m=1 then some 1 else none) ?_ ?_ ?_ (by simp) (by simp))
      ·simp [subT,renV,ren1]
      ·simp [subH,renL,ren1]
      ·intro m hm
       simp only at hm
       rw [if_neg (by omega),if_neg (by omega)]
   ·have hltI:¬(j:Int)<3:=by omega
    simp -implicitDefEqProofs [sc_l_FnTwists_L8,freeOk,hlt,hltI]
    refine SubQ.of (l1:=[(5,.pt 0 0),(6,.sl 1 1 0 O.length),(15,.int .i64 (i:Int))]) (SubI.slots rfl (by simp)) ?_
    simp -implicitDefEqProofs [hwi]
    exact Again.of (i+1) (by omega) (by omega) (SubI.slots rfl (by simp))
  ·simp -implicitDefEqProofs [sc_l_FnTwists_L6,freeOk,hlo]
end Go.Proofs.YtkoljbncokmeaaaGreatDoor
namespace Go.Proofs.YtkoljbncokmeaaaGreatDoor
open Go.ChangeShapes Go.WideShapes Go.ChangeAt Go.RowKit
set_option maxRecDepth 1000000
set_option linter.unusedSimpArgs false
set_option linter.unusedVariables false
section
variable {H : Type} {enc : TypeId × Value → H} {P : Program} {w : World} {base : Nat} {held : Bool} {N : Nm} {U : Nat → Prop}
theorem wf_u8 {n:Int} (h:(Lit.int .u8 n).wf=true):0≤n∧n<256:=by
 have h1:IntKind.u8.min=0:=rfl
 have h2:IntKind.u8.max=255:=rfl
 simp only [Lit.wf,Bool.and_eq_true,decide_eq_true_eq] at h
 omega
theorem rvs_u8s:∀ (l:List Int),RVs N U w (u8s l) (l.map (Value.int .u8)) []:=by
 intro l
 induction l with
 | nil=>exact .nil
 | cons a l ih=>exact .cons _ _ _ _ [] [] _ (.int _ _) ih rfl
theorem rd_bytes1 (hU:∀ b,b<w.heap.size→U b) {t e:TypeId} {fuel:Nat} {cs:List Value} {x:DataW H×List MemPlace} (ht:P.underlying t=some (.slice e)) (he:P.underlying e=some (.int .u8)) (hc:P.cellsOf e=1)
  (h:DataW.trod enc P w base (fun _=>true) held fuel t cs=some x):∃ v l,cs=[v]∧v.cells = #[v]∧(∀ n∈l,0≤n∧n<256)∧RV N U w (.list 1 (u8s l)) v []:=by
 rcases open_ints ht he hc h with ⟨rfl,_⟩ | ⟨a,len,cap,zs,rfl,_,hl,hm,hz,_,hcell,hw⟩
 ·exact ⟨_,[],rfl,rfl,by simp,.listE 1 none 0⟩
 ·simp only [if_true] at hz
  rcases Nat.eq_zero_or_pos len with rfl | h0
  ·exact ⟨_,[],rfl,rfl,by simp,.listE 1 (some a) cap⟩
  ·obtain ⟨b,o,sp⟩:=a
   have h1:=hcell 0 (by omega)
   have hs:sp=none:=by simpa [Addr.add] using World.cell?_spot h1
   subst hs
   rw [add_plain] at h1
   refine ⟨_,zs.take len,rfl,rfl,fun n hn=>wf_u8 (hw n (List.mem_of_mem_take hn)),?_⟩
   refine .list 1 _ b o len cap ((zs.take len).map (Value.int .u8)) (hU b (cell_lt h1)) (by simp; omega) hl (by omega) (by omega) ?_ (rvs_u8s _)
   intro j c hj
   simp only [List.getElem?_map,Option.map_eq_some_iff] at hj
   obtain ⟨y,hy,rfl⟩:=hj
   have hjl:j<len:=by
    have:=(List.getElem?_eq_some_iff.1 hy).1
    simp at this
    omega
   have:=hcell j (by omega)
   rw [add_plain] at this
   rw [this]
   rw [List.getElem?_take_of_lt hjl] at hy
   simp [List.getD,hy]
theorem rd_bytes (hU:∀ b,b<w.heap.size→U b) {t e:TypeId} {v:Value} {d:DataW H} {p:List MemPlace} {r:Reach} {b0:Nat} (ht:P.underlying t=some (.slice e)) (he:P.underlying e=some (.int .u8)) (hc:P.cellsOf e=1)
  (hval:Value.okWide P w r b0 t v) (h:DataW.Trod enc P w base (fun _=>true) held t v d p):∃ l,(∀ n∈l,0≤n∧n<256)∧RV N U w (.list 1 (u8s l)) v []:=by
 obtain ⟨a0,len,cap,rfl⟩:=okWide_slice ht hval
 obtain ⟨fuel,hf⟩:=h
 obtain ⟨v',l,h1,h2,h3,h4⟩:=rd_bytes1 (N:=N) hU ht he hc hf
 have e:v' = .slice a0 len cap:=by
  have:(Value.slice a0 len cap).cells.toList=[Value.slice a0 len cap]:=rfl
  rw [this] at h1
  injection h1 with h1 _
  exact h1.symm
 subst e
 exact ⟨l,h3,h4⟩
end
end Go.Proofs.YtkoljbncokmeaaaGreatDoor
