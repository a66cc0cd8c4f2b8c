import Derived.Test.YtkoljbncokmeaaaGreatDoorMEJ
import Derived.Test.YtkoljbncokmeaaaGreatDoorMEK
import Derived.Test.YtkoljbncokmeaaaGreatDoorMEH
namespace Go.Proofs.YtkoljbncokmeaaaGreatDoor
open Go Go.RowKit
set_option maxRecDepth 1000000
set_option linter.unusedSimpArgs false
set_option linter.unusedVariables false
set_option maxHeartbeats 1000000
def sc_s_l15Smith_L6:SC:=(.cut (.seq (.reg [⟨some 73,none,.mov (.t 12)⟩,⟨some 74,none,.mov (.t 3)⟩,⟨some 75,none,.mov (.t 6)⟩,⟨some 76,none,.idx 1 (.t 74) (.t 75)⟩,⟨some 77,none,.ld none .nil (.t 76)⟩,⟨some 78,none,.len (.t 77)⟩,⟨some 79,none,.bin false .lss (.t 73) (.t 78)⟩]) (.cond (.t 79) .skip (.exit 6))) (.seq (.block 7 (.dreg [⟨⟨some 82,none,.mov (.t 3)⟩,false,false⟩,⟨⟨some 83,none,.mov (.t 6)⟩,false,false⟩,⟨⟨some 84,none,.idx 1 (.t 82) (.t 83)⟩,false,false⟩,⟨⟨some 85,none,.ld none .nil (.t 84)⟩,false,false⟩,⟨⟨some 86,none,.mov (.t 12)⟩,false,false⟩,⟨⟨some 87,none,.mov (.t 3)⟩,false,false⟩,⟨⟨some 88,none,.mov (.t 6)⟩,false,false⟩,⟨⟨some 89,none,.idx 1 (.t 87) (.t 88)⟩,false,false⟩,⟨⟨some 90,none,.ld none .nil (.t 89)⟩,false,false⟩,⟨⟨some 91,none,.mov (.t 12)⟩,false,false⟩,⟨⟨some 92,none,.idx 1 (.t 90) (.t 91)⟩,false,false⟩,⟨⟨some 93,none,.ld none (.int .i64 0) (.t 92)⟩,false,false⟩,⟨⟨some 94,none,.mov (.t 3)⟩,false,false⟩,⟨⟨some 95,none,.mov (.t 11)⟩,false,false⟩,⟨⟨some 96,none,.idx 1 (.t 94) (.t 95)⟩,false,false⟩,⟨⟨some 97,none,.ld none .nil (.t 96)⟩,false,false⟩,⟨⟨some 98,none,.mov (.t 12)⟩,false,false⟩,⟨⟨some 99,none,.idx 1 (.t 97) (.t 98)⟩,false,false⟩,⟨⟨some 100,none,.ld none (.int .i64 0) (.t 99)⟩,false,false⟩,⟨⟨some 101,none,.bin false .add (.t 93) (.t 100)⟩,false,false⟩,⟨⟨some 102,none,.idx 1 (.t 85) (.t 86)⟩,false,false⟩,⟨⟨none,none,.st 1 (.t 102) (.t 101)⟩,true,false⟩])) (.reg [⟨some 80,none,.mov (.t 12)⟩,⟨some 81,none,.bin false .add (.t 80) (.c (.int .i64 1))⟩,⟨some 12,none,.mov (.t 81)⟩])))
def sc_s_l15Smith_L4:SC:=(.block 5 (.seq (.reg [⟨some 45,none,.mov (.t 3)⟩,⟨some 46,none,.mov (.t 6)⟩,⟨some 47,none,.call 76 [.t 45,.t 46]⟩,⟨some 44,none,.mov (.t 47)⟩,⟨some 48,none,.ext 0 (.t 44)⟩,⟨some 49,none,.ext 1 (.t 44)⟩,⟨some 7,none,.mov (.t 48)⟩,⟨some 8,none,.mov (.t 49)⟩]) (.seq (.seq (.reg [⟨some 50,none,.mov (.t 7)⟩,⟨some 51,none,.bin false .lss (.t 50) (.c (.int .i64 0))⟩]) (.cond (.t 51) (.seq (.reg [⟨some 52,none,.mov (.t 5)⟩,⟨some 2,none,.mov (.t 52)⟩]) .ret) .skip)) (.seq (.reg [⟨some 53,none,.mov (.t 3)⟩,⟨some 54,none,.mov (.t 6)⟩,⟨some 55,none,.mov (.t 7)⟩,⟨some 56,none,.mov (.t 8)⟩,⟨some 57,none,.call 77 [.t 53,.t 54,.t 55,.t 56]⟩,⟨some 3,none,.mov (.t 57)⟩]) (.seq (.reg [⟨some 59,none,.mov (.t 3)⟩,⟨some 60,none,.mov (.t 6)⟩,⟨some 61,none,.call 78 [.t 59,.t 60]⟩,⟨some 58,none,.mov (.t 61)⟩,⟨some 62,none,.ext 0 (.t 58)⟩,⟨some 63,none,.ext 1 (.t 58)⟩,⟨some 9,none,.mov (.t 62)⟩,⟨some 10,none,.mov (.t 63)⟩]) (.seq (.reg [⟨some 64,none,.mov (.t 9)⟩,⟨some 3,none,.mov (.t 64)⟩]) (.seq (.seq (.reg [⟨some 65,none,.mov (.t 10)⟩,⟨some 66,none,.un .not (.t 65)⟩]) (.cond (.t 66) (.exit 5) .skip)) (.seq (.reg [⟨some 67,none,.mov (.t 3)⟩,⟨some 68,none,.mov (.t 6)⟩,⟨some 69,none,.call 79 [.t 67,.t 68]⟩,⟨some 11,none,.mov (.t 69)⟩]) (.seq (.seq (.reg [⟨some 70,none,.mov (.t 11)⟩,⟨some 71,none,.bin false .lss (.t 70) (.c (.int .i64 0))⟩]) (.cond (.t 71) (.exit 4) .skip)) (.seq (.reg [⟨some 72,none,.mov (.t 6)⟩,⟨some 12,none,.mov (.t 72)⟩]) (.block 6 (.loop sc_s_l15Smith_L6))))))))))))
def sc_s_l15Smith_L2:SC:=(.seq (.seq (.reg [⟨some 30,none,.mov (.t 6)⟩,⟨some 31,none,.mov (.t 3)⟩,⟨some 32,none,.len (.t 31)⟩,⟨some 33,none,.bin false .lss (.t 30) (.t 32)⟩,⟨some 34,none,.mov (.t 33)⟩,⟨some 35,some (34,true),.mov (.t 6)⟩,⟨some 36,some (34,true),.mov (.t 3)⟩,⟨some 37,some (34,true),.idx 1 (.t 36) (.c (.int .i64 0))⟩,⟨some 38,some (34,true),.ld none .nil (.t 37)⟩,⟨some 39,some (34,true),.len (.t 38)⟩,⟨some 40,some (34,true),.bin false .lss (.t 35) (.t 39)⟩,⟨some 41,none,.pick (.t 34) (.t 40) (.c (.bool false))⟩]) (.cond (.t 41) .skip (.exit 2))) (.seq (.block 3 (.seq (.block 4 (.loop sc_s_l15Smith_L4)) (.reg [⟨some 103,none,.mov (.t 5)⟩,⟨some 104,none,.mov (.t 3)⟩,⟨some 105,none,.mov (.t 6)⟩,⟨some 106,none,.idx 1 (.t 104) (.t 105)⟩,⟨some 107,none,.ld none .nil (.t 106)⟩,⟨some 108,none,.mov (.t 6)⟩,⟨some 109,none,.idx 1 (.t 107) (.t 108)⟩,⟨some 110,none,.ld none (.int .i64 0) (.t 109)⟩,⟨some 111,none,.call 75 [.t 110]⟩,⟨some 112,none,.mks 1 1 [.int .i64 0] [(0,(1,(.t 111)))]⟩,⟨some 113,none,.app 1 8 (.t 103) (.t 112)⟩,⟨some 5,none,.mov (.t 113)⟩]))) (.reg [⟨some 42,none,.mov (.t 6)⟩,⟨some 43,none,.bin false .add (.t 42) (.c (.int .i64 1))⟩,⟨some 6,none,.mov (.t 43)⟩])))
def sc_s_l15Smith_L0:SC:=(.seq (.seq (.reg [⟨some 14,none,.mov (.t 4)⟩,⟨some 15,none,.mov (.t 0)⟩,⟨some 16,none,.len (.t 15)⟩,⟨some 17,none,.bin false .lss (.t 14) (.t 16)⟩]) (.cond (.t 17) .skip (.exit 0))) (.seq (.block 1 (.reg [⟨some 20,none,.mov (.t 3)⟩,⟨some 21,none,.mks 0 1 [] []⟩,⟨some 22,none,.mov (.t 0)⟩,⟨some 23,none,.mov (.t 4)⟩,⟨some 24,none,.idx 1 (.t 22) (.t 23)⟩,⟨some 25,none,.ld none .nil (.t 24)⟩,⟨some 26,none,.app 1 8 (.t 21) (.t 25)⟩,⟨some 27,none,.mks 1 1 [.nil] [(0,(1,(.t 26)))]⟩,⟨some 28,none,.app 1 24 (.t 20) (.t 27)⟩,⟨some 3,none,.mov (.t 28)⟩])) (.reg [⟨some 18,none,.mov (.t 4)⟩,⟨some 19,none,.bin false .add (.t 18) (.c (.int .i64 1))⟩,⟨some 4,none,.mov (.t 19)⟩])))
def sc_s_l15Smith:SC:=(.seq (.reg [⟨some 2,none,.mov (.c .nil)⟩]) (.seq (.reg [⟨some 13,none,.mks 0 1 [] []⟩,⟨some 3,none,.mov (.t 13)⟩]) (.seq (.seq (.reg [⟨some 4,none,.mov (.c (.int .i64 0))⟩]) (.block 0 (.loop sc_s_l15Smith_L0))) (.seq (.reg [⟨some 29,none,.mks 0 1 [] []⟩,⟨some 5,none,.mov (.t 29)⟩]) (.seq (.seq (.reg [⟨some 6,none,.mov (.c (.int .i64 0))⟩]) (.block 2 (.loop sc_s_l15Smith_L2))) (.seq (.reg [⟨some 114,none,.mov (.t 5)⟩,⟨some 2,none,.mov (.t 114)⟩]) .ret))))))
theorem code_s_l15Smith:fnCode Tryz.prog [666666,555555] 41=some (115,sc_s_l15Smith,[(2,none)]):=by kernel_rfl
theorem decC {p q:Prop} (h:p↔q):dec p=dec q:=by
 by_cases hp:p
 ·rw [dec_true hp,dec_true (h.1 hp)]
 ·rw [dec_false hp,dec_false fun hq=>hp (h.2 hq)]
noncomputable def F_s_l15Smith:List V→Option V:=F1 dLL fun M => @ite _ (dimM M∧bdE 1073741824 M.length (wdM M) (ent M)) (Classical.propDecidable _) ((smV M.length (wdM M) (ent M)).map fun R => .own 1 (ints R)) none
theorem fn_s_l15Smith:FnOk Tryz.prog 41 F_s_l15Smith:=by
 have env:=(((((envNil_ok (P:=Tryz.prog)).add fn_s_l15Least).add fn_s_l15Abs).add fn_s_l15Odd).addl ln_s_l15Swap).addl ln_s_l15Rest
 refine fn_ok code_s_l15Smith mixed env ?_
 intro args r h hb
 obtain ⟨_,M,rfl,h1,h4⟩:=F1_inv h
 cases dLL_inv h1
 simp only [Option.ite_none_right_eq_some,Option.map_eq_some_iff] at h4
 obtain ⟨⟨⟨hr,hn,hw⟩,hbd⟩,R,hR,rfl⟩:=h4
 obtain ⟨q0,hR⟩:=smV_iff.1 hR
 clear h h1 hb
 have hself:=matF_self hr
 have hw0:M.length=0→wdM M=0:=fun h0=>by rw [List.length_eq_zero_iff.1 h0]; rfl
 have hlr:∀ i,i<M.length→(atR M i).length=wdM M:=hr
 clear hr
 generalize wdM M=w at *
 generalize hf:ent M=f0 at *
 refine ⟨by simp,fun w0 U0 L0 N0 => ?_⟩
 -- a row is added
 have addL:∀ (h:Nat→Nat→Int) (k o:Nat) (out:List Int) (Q:Post) (T0:Tm) (H0:Hp),k<M.length→k<w→o<M.length→k<o→bdE 1073741824 M.length w h →
   SubI 0 T0 H0 [(3,.sl 0 1 0 M.length),(5,.sl 1 1 0 out.length),(6,.int .i64 (k:Int)),(11,.int .i64 (o:Int)),(12,.int .i64 (k:Int))] ([(1,ints out),(0,rowsV (matF M.length w h))],2) →
   Q (.exit 6) [(3,.sl 0 1 0 M.length),(5,.sl 1 1 0 out.length),(6,.int .i64 (k:Int))] ([(1,ints out),(0,rowsV (matF M.length w (addF k o h)))],2) →
   LoopI ⟨Tryz.prog,w0,U0,L0,N0,0,115⟩ [666666,555555] sc_s_l15Smith_L6 Q T0 H0:=by
  intro h k o out Q T0 H0 hkn hkw hon hko hbh hsub q1
  generalize hnn:M.length=n at *
  have hok:¬o=k:=by omega
  have hko':¬k=o:=by omega
  have hml:=matF_len n w h
  have hak:=matF_at (w:=w) (f:=h) hkn
  have hao:=matF_at (w:=w) (f:=h) hon
  have hlk:(rowF w (h k)).length=w:=rowF_len _ _
  have hlo:(rowF w (h o)).length=w:=rowF_len _ _
  have htw:=rowsV_two (M:=matF n w h) (i:=k) (k:=o) hko' (by omega) (rowW w k (h k) (fun b=>h k b+h o b) w) (.sl 2 1 0 w) (.sl 3 1 0 w)
  rw [addF_set hkn,hao] at htw
  have hqd:∀ j,(fun b=>h k b+h o b) j=h k j+h o j:=fun j=>rfl
  have hst:=rowW_start (w:=w) (k:=k) (old:=h k) (new:=fun b=>h k b+h o b)
  generalize (fun b=>h k b+h o b)=nb at *
  generalize matF n w h=Mh at *
  refine loopQ env mixed (fun j:Nat=>[(3,.sl 0 1 0 n),(5,.sl 1 1 0 out.length),(6,.int .i64 (k:Int)),(11,.int .i64 (o:Int)),(12,.int .i64 (j:Int))]) (fun j=>([(3,ints (rowF w (h o))),(2,ints (rowW w k (h k) nb j)),(1,ints out),(0,((rowsV Mh).set k (.sl 2 1 0 w)).set o (.sl 3 1 0 w))],4)) (fun j=>k≤j∧j≤w) (fun j=>w-j) k ⟨Nat.le_refl k,by omega⟩ ?_ ?_
  ·refine ⟨hsub.h.trans ?_⟩
   refine (SubI.unfold 0 k 1 (co:=rowsV Mh) (cn:=ints (rowF w (h k))) rfl (by rw [rowsV_get (by omega),hak]) (by omega) ?_).h
   refine SubI.unfold 0 o 1 (co:=(rowsV Mh).set k (.sl 2 1 0 w)) (cn:=ints (rowF w (h o))) (by simp [hlk]) (by rw [List.getElem?_set_ne hko',rowsV_get (by omega),hao]) (by omega) ?_
   exact SubI.slots (by rw [hst]; simp [hlk,hlo]) (by simp)
  rintro j ⟨hkj,hjw⟩
  have hrl:=rowW_len w k (h k) nb j
  by_cases hlt:j<w
  ·have e1:=rowW_at (k:=k) (old:=h k) (new:=nb) hlt
   have e2:=rowF_at (g:=h o) hlt
   have e3:=rowW_set (old:=h k) (new:=nb) hkj hlt
   have b1:=hbh k j hkn hlt
   have b2:=hbh o j hon hlt
   have w1:IntKind.i64.wrap (h k j+h o j)=nb j:=by rw [hqd,wrapI _ (by omega) (by omega)]
   generalize rowW w k (h k) nb j=g at *
   generalize rowF w (h o)=ro at *
   simp -implicitDefEqProofs [sc_s_l15Smith_L6,hkn,hon,hok,hko',hml,hlt,hrl]
   repeat' (first | omega | apply And.intro)
   refine CutI.of (l':=[(3,.sl 0 1 0 n),(5,.sl 1 1 0 out.length),(6,.int .i64 (k:Int)),(11,.int .i64 (o:Int)),(12,.int .i64 (j:Int))]) (SubI.slots rfl (by simp)) ?_
   simp -implicitDefEqProofs [freeOk,hkn,hon,hok,hko',hml,hlt,hrl,hlo,e1,e2,w1,e3]
   repeat' (first | omega | apply And.intro)
   exact Again.of (j+1) (by omega) (by omega) (SubI.slots (by simp) (by simp (disch:=omega) [wrapI]))
  ·have:j=w:=by omega
   subst this
   generalize rowW j k (h k) nb j=g at *
   generalize rowF j (h o)=ro at *
   simp -implicitDefEqProofs [sc_s_l15Smith_L6,hkn,hon,hok,hko',hml,hrl]
   refine SubQ.of ?_ q1
   refine SubI.fold 0 2 k 1 j (cn:=ints g) (co:=((rowsV Mh).set k (.sl 2 1 0 j)).set o (.sl 3 1 0 j)) (by simp) (by simp) (by simp [hml,hkn,hok,hko']) (by simp [hrl]) ?_
   refine SubI.fold 0 3 o 1 j (cn:=ints ro) (co:=(((rowsV Mh).set k (.sl 2 1 0 j)).set o (.sl 3 1 0 j)).set k (.own 1 (ints g))) (by simp) (by simp) (by simp [hml,hon,hok,hko']) (by simp [hlo]) ?_
   rw [htw]
   refine SubI.ren (fun m=>if m=0 then some 0 else if m=1 then some 1 else none) ?_ ?_ ?_ (by simp) (by simp)
   ·simp [subT,renV,ren1]
   ·simp [subH,renL,ren1]
   ·intro m hm
    simp only at hm
    rw [if_neg (by omega),if_neg (by omega)]
 have main:∀ (Q:Post) (T0:Tm) (H0:Hp),SubI 0 T0 H0 [(3,.sl 0 1 0 M.length),(5,.sl 1 1 0 0),(6,.int .i64 0)] ([(1,[]),(0,rowsV (matF M.length w f0))],2) →
   (∀ H,Q .ret [(2,.sl 1 1 0 R.length)] ([(1,ints R),(0,H)],2))→(∀ H,Q (.exit 2) [(5,.sl 1 1 0 R.length)] ([(1,ints R),(0,H)],2)) →
   LoopI ⟨Tryz.prog,w0,U0,L0,N0,0,115⟩ [666666,555555] sc_s_l15Smith_L2 Q T0 H0:=by
  intro Q T0 H0 hsub q1 q2
  generalize hnn:M.length=n at *
  refine loopQ env mixed (fun x:Nat×(Nat→Nat→Int)×List Int×Nat=>[(3,.sl 0 1 0 n),(5,.sl 1 1 0 x.2.2.1.length),(6,.int .i64 (x.1:Int))]) (fun x=>([(1,ints x.2.2.1),(0,rowsV (matF n w x.2.1))],2)) (fun x=>x.1≤n∧bdE 1073741824 n w x.2.1∧x.2.2.1.length≤x.1∧smR n w x.2.2.2 x.2.1 x.1 x.2.2.1=some R) (fun x=>n+1-x.1) (0,f0,[],q0) ⟨by simp only; omega,hbd,by simp,hR⟩ (by simpa using hsub) ?_
  rintro ⟨k,f,out,q⟩ ⟨hkn,hbf,hol,hI⟩
  simp only at hkn hbf hol hI ⊢
  have hml:=matF_len n w f
  obtain ⟨q,rfl⟩:∃ p,q=p+1:=⟨q-1,by
   cases q with
   | zero=>simp [smR] at hI
   | succ q=>rfl⟩
  by_cases hkn2:k<n
  rotate_left
  ·rw [smR_end fun h=>hkn2 h.1] at hI
   simp only [Option.some.injEq] at hI
   subst hI
   have:k=n:=by omega
   subst this
   simp -implicitDefEqProofs [sc_s_l15Smith_L2,hml]
   refine SubQ.of ?_ (q2 (rowsV (matF k w f)))
   exact SubI.slots rfl (by simp)
  have hn0:0<n:=by omega
  have ha0:=matF_at (w:=w) (f:=f) hn0
  have hl0:(rowF w (f 0)).length=w:=rowF_len _ _
  have hself0:=rowsV_self (M:=matF n w f) (i:=0) (by omega)
  rw [ha0] at hself0
  by_cases hkw:k<w
  rotate_left
  ·rw [smR_end fun h=>hkw h.2] at hI
   simp only [Option.some.injEq] at hI
   subst hI
   generalize rowF w (f 0)=r0 at *
   generalize matF n w f=Mf at *
   simp -implicitDefEqProofs [sc_s_l15Smith_L2,hml,hkn2,hn0,ha0,hl0,hkw]
   refine SubQ.of ?_ (q2 (rowsV Mf))
   refine SubI.fold 0 2 0 1 w (cn:=ints r0) (co:=(rowsV Mf).set 0 (.sl 2 1 0 w)) (by simp) (by simp) (by simp [hml,hn0]) (by simp [hl0]) ?_
   rw [List.set_set,hself0]
   refine SubI.ren (fun m=>if m=0 then some 0 else if m=1 then some 1 else none) ?_ ?_ ?_ (by simp) (by simp)
   ·simp [subT,renV,ren1]
   ·simp [subH,renL,ren1]
   ·intro m hm
    simp only at hm
    rw [if_neg (by omega),if_neg (by omega)]
  have hkk:k<n∧k<w:=⟨hkn2,hkw⟩
  generalize hr0:rowF w (f 0)=r0 at *
  generalize hMf:matF n w f=Mf at *
  simp -implicitDefEqProofs [sc_s_l15Smith_L2,hml,hkn2,hn0,ha0,hl0,hkw]
  refine loopQ env mixed (fun x:(Nat→Nat→Int)×Nat=>[(3,.sl 0 1 0 n),(5,.sl 1 1 0 out.length),(6,.int .i64 (k:Int))]) (fun x=>([(1,ints out),(0,rowsV (matF n w x.1))],2)) (fun x=>bdE 1073741824 n w x.1∧smR n w x.2 x.1 k out=some R) (fun x=>x.2) (f,q+1) ⟨hbf,hI⟩ ?_ ?_
  ·refine SubI.fold 0 2 0 1 w (cn:=ints r0) (co:=(rowsV Mf).set 0 (.sl 2 1 0 w)) (by simp) (by simp) (by simp [hml,hn0]) (by simp [hl0]) ?_
   rw [List.set_set,hself0]
   refine SubI.ren (fun m=>if m=0 then some 0 else if m=1 then some 1 else none) ?_ ?_ ?_ (by simp) (by simp)
   ·simp [subT,renV,ren1]
   ·simp [subH,renL,ren1,hMf]
   ·intro m hm
    simp only at hm
    rw [if_neg (by omega),if_neg (by omega)]
  clear hI ha0 hl0 hself0 hr0 hml hMf hbf r0 Mf
  rintro ⟨f,q⟩ ⟨hbf,hI⟩
  simp only at hbf hI ⊢
  obtain ⟨q,rfl⟩:∃ p,q=p+1:=⟨q-1,by
   cases q with
   | zero=>simp [smR] at hI
   | succ q=>rfl⟩
  have hml:=matF_len n w f
  have he:∀ (g:Nat→Nat→Int) a b,a<n→b<w→ent (matF n w g) a b=g a b:=fun g a b ha hb=>matF_ent ha hb
  have hlow:=lowB_matF (f:=f) hw0 hn hw hbf
  have hLS:F_s_l15Least [.list 1 (rowsL (matF n w f)),.int .i64 (k:Int)]=some (.tup [.int .i64 (lsZ f n w k).1,.int .i64 (lsZ f n w k).2]):=by
   simp only [F_s_l15Least,F2_mk,dLL_list,dI_int,Option.bind_some]
   rw [if_pos ⟨hlow,by omega,by omega⟩,Int.toNat_natCast,wdM_matF hw0,matF_len,lsZ_congr (he f)]
  have htk:(matF n w f).take n=matF n w f:=List.take_of_length_le (by rw [hml]; omega)
  rcases lsI_P (f:=f) (n:=n) (w:=w) (k:=k) (.inl rfl) (n-k) (by omega) with e | ⟨s1,s2,s3,s4,s5⟩
  ·have e':lsZ f n w k=(-1,-1):=e
   rw [e'] at hLS
   rw [smR_zero hkk e'] at hI
   simp only [Option.some.injEq] at hI
   subst hI
   simp only at hLS
   generalize matF n w f=Mf at *
   simp -implicitDefEqProofs [sc_s_l15Smith_L4,hml,htk,hLS]
   refine SubQ.of (l1:=[(2,.sl 1 1 0 out.length)]) (s1:=([(1,ints out),(0,rowsV Mf)],2)) (SubI.slots rfl (by simp)) ?_
   simp -implicitDefEqProofs
   refine SubQ.of ?_ (q1 (rowsV Mf))
   exact SubI.slots rfl (by simp)
  obtain ⟨i,j,e⟩:∃ i j:Nat,lsZ f n w k=((i:Int),(j:Int)):=by
   refine ⟨(lsZ f n w k).1.toNat,(lsZ f n w k).2.toNat,?_⟩
   have h1:0≤(lsZ f n w k).1:=s1
   have h2:0≤(lsZ f n w k).2:=s3
   rw [Int.toNat_of_nonneg h1,Int.toNat_of_nonneg h2]
  have e2:lsI f w k (-1,-1) (n-k)=((i:Int),(j:Int)):=e
  rw [e2] at s1 s2 s3 s4 s5
  simp only [Int.toNat_natCast] at s1 s2 s3 s4 s5
  have hin:i<n:=by omega
  have hjw:j<w:=by omega
  rw [e] at hLS
  simp only at hLS
  have hni:¬((i:Int)<0):=by omega
  obtain ⟨bb1,bb2⟩:=smR_bd hkk e hI
  have hbg:=bdE_sw hkn2 hkw hin hjw hbf
  have hnz:swF k i j f k k≠0:=by
   unfold swF
   rw [swI_l,swI_l]
   exact s5
  have hG1:G_s_l15Swap [.sl 0 1 0 n,.int .i64 (k:Int),.int .i64 (i:Int),.int .i64 (j:Int)] (rowsV (matF n w f))=some (.sl 0 1 0 n,rowsV (matF n w (swF k i j f))):=by
   simp only [G_s_l15Swap,dRowsV_rowsV,Option.bind_some]
   have hwd:=wdM_matF (f:=f) hw0
   rw [if_pos ⟨by rw [hml],dimM_matF hw0 hn hw,by omega,by rw [hml]; omega,by rw [hwd]; omega,by omega,by rw [hml]; omega,by omega,by rw [hwd]; omega⟩]
   simp only [Int.toNat_natCast]
   rw [swpR_matF hkn2 hkw hin hjw]
  have hml1:=matF_len n w (swF k i j f)
  have hG2:G_s_l15Rest [.sl 0 1 0 n,.int .i64 (k:Int)] (rowsV (matF n w (swF k i j f)))=some (.tup [.sl 0 1 0 n,.bool (dec (clnP n w k (swF k i j f)))],rowsV (matF n w (rstF k (swF k i j f)))):=by
   simp only [G_s_l15Rest,dRowsV_rowsV,Option.bind_some]
   rw [if_pos ⟨by rw [hml1],by omega,by rw [Int.toNat_natCast]; exact rstO_matF hn hw hkn2 hkw hnz hbg bb1 bb2⟩]
   simp only [Int.toNat_natCast]
   unfold rstR
   rw [wdM_matF hw0,matF_len]
   have h1:dec (clnP n w k (ent (matF n w (swF k i j f))))=dec (clnP n w k (swF k i j f)):=decC (clnP_congr (he _) hkn2 hkw)
   rw [h1,matF_congr fun a b ha hb=>rstF_congr (he _) hkn2 hkw a b ha hb]
  have hml2:=matF_len n w (rstF k (swF k i j f))
  by_cases hc:clnP n w k (swF k i j f)
  rotate_left
  ·rw [smR_dirty hkk e ⟨bb1,bb2⟩ hc] at hI
   rw [dec_false hc] at hG2
   generalize hh:rstF k (swF k i j f)=h at *
   generalize hM2:matF n w h=M2 at *
   generalize matF n w (swF k i j f)=M1 at *
   generalize matF n w f=Mf at *
   simp -implicitDefEqProofs [sc_s_l15Smith_L4,ren0,hml,htk,hLS,hni,hG1,hG2]
   repeat' (first | omega | exact rfl | apply And.intro)
   refine Again.of (h,q) ⟨bb2,hI⟩ (by simp only; omega) (SubI.slots (by simp [hM2]) (by simp))
  rw [dec_true hc] at hG2
  have hlow2:=lowB_matF (f:=rstF k (swF k i j f)) hw0 hn hw bb2
  have hrk:rstF k (swF k i j f) k k=swF k i j f k k:=by
   unfold rstF clF rwF
   rw [if_neg (by omega),if_neg (by omega)]
  have hOD:F_s_l15Odd [.list 1 (rowsL (matF n w (rstF k (swF k i j f)))),.int .i64 (k:Int)]=some (.int .i64 (odZ (rstF k (swF k i j f)) n w k)):=by
   simp only [F_s_l15Odd,F2_mk,dLL_list,dI_int,Option.bind_some]
   rw [if_pos ⟨hlow2,by omega,by rw [hml2]; omega,by rw [wdM_matF hw0]; omega,by rw [Int.toNat_natCast,he _ k k hkn2 hkw,hrk]; exact hnz⟩,Int.toNat_natCast,wdM_matF hw0,matF_len,odZ_congr (he _) hkn2 hkw]
  have htk2:(matF n w (rstF k (swF k i j f))).take n=matF n w (rstF k (swF k i j f)):=List.take_of_length_le (by rw [hml2]; omega)
  have hak:=matF_at (w:=w) (f:=rstF k (swF k i j f)) hkn2
  have hlk:(rowF w (rstF k (swF k i j f) k)).length=w:=rowF_len _ _
  have hek:=rowF_at (g:=rstF k (swF k i j f) k) hkw
  have hself2:=rowsV_self (M:=matF n w (rstF k (swF k i j f))) (i:=k) (by omega)
  rw [hak] at hself2
  have hbk:=bb2 k k hkn2 hkw
  rcases odI_spec (rstF k (swF k i j f)) w k (n-(k+1)) (k+1) with ⟨eo,_⟩ | ⟨o,eo,c1,c2,c3⟩
  ·have eo':odZ (rstF k (swF k i j f)) n w k = -1:=eo
   rw [smR_done hkk e ⟨bb1,bb2⟩ hc (by rw [eo']; omega)] at hI
   rw [eo'] at hOD
   have hAb:F_s_l15Abs [.int .i64 (rstF k (swF k i j f) k k)]=some (.int .i64 (((rstF k (swF k i j f) k k).natAbs:Nat):Int)):=by
    simp only [F_s_l15Abs,F1_mk,dI_int,Option.bind_some]
    rw [if_pos ⟨by omega,by omega⟩]
   generalize ((rstF k (swF k i j f) k k).natAbs:Int)=d at *
   generalize hh:rstF k (swF k i j f)=h at *
   generalize rowF w (h k)=rk at *
   generalize hM2:matF n w h=M2 at *
   generalize matF n w (swF k i j f)=M1 at *
   generalize matF n w f=Mf at *
   simp -implicitDefEqProofs [sc_s_l15Smith_L4,ren0,hml,htk,hml2,htk2,hLS,hni,hG1,hG2,hOD]
   repeat' (first | omega | exact rfl | apply And.intro)
   refine SubQ.of (l1:=[(3,.sl 0 1 0 n),(5,.sl 1 1 0 out.length),(6,.int .i64 (k:Int))]) (s1:=([(1,ints out),(0,rowsV M2)],2)) ?_ ?_
   ·exact SubI.slots (by simp) (by simp)
   simp -implicitDefEqProofs [hkn2,hml2,hak,hlk,hkw,hek,hAb]
   refine ⟨by omega,?_⟩
   refine Again.of (k+1,h,out++[d],q) ⟨by simp only; omega,bb2,by simp only [List.length_append,List.length_singleton]; omega,hI⟩ (by simp only; omega) ?_
   refine SubI.fold 0 2 k 1 w (cn:=ints rk) (co:=(rowsV M2).set k (.sl 2 1 0 w)) (by simp) (by simp) (by simp [hml2,hkn2]) (by simp [hlk]) ?_
   rw [List.set_set,hself2]
   refine SubI.ren (fun m=>if m=0 then some 0 else if m=1 then some 4 else none) ?_ ?_ ?_ (by simp) (by simp)
   ·simp (disch:=omega) [subT,renV,ren1,wrapI]
   ·simp [subH,renL,ren1,hM2]
    rw [← ints_app]
    rfl
   ·intro m hm
    simp only at hm
    rw [if_neg (by omega),if_neg (by omega)]
  ·have eo':odZ (rstF k (swF k i j f)) n w k=(o:Int):=eo
   rw [smR_odd hkk e ⟨bb1,bb2⟩ hc eo'] at hI
   split at hI
   rotate_left
   ·cases hI
   rename_i hba
   rw [eo'] at hOD
   have hon:o<n:=by omega
   have hno:¬((o:Int)<0):=by omega
   have had:=addL (rstF k (swF k i j f)) k o out
   generalize hh:rstF k (swF k i j f)=h at *
   generalize hM2:matF n w h=M2 at *
   generalize matF n w (swF k i j f)=M1 at *
   generalize matF n w f=Mf at *
   simp -implicitDefEqProofs [sc_s_l15Smith_L4,ren0,hml,htk,hml2,htk2,hLS,hni,hG1,hG2,hOD,hno]
   repeat' (first | omega | exact rfl | apply And.intro)
   refine had _ _ _ hkn2 hkw hon (by omega) bb2 (SubI.slots (by simp) (by simp)) ?_
   simp -implicitDefEqProofs
   refine Again.of (addF k o h,q) ⟨hba,hI⟩ (by simp only; omega) (SubI.slots (by simp) (by simp))
 simp -implicitDefEqProofs [sc_s_l15Smith]
 rw [hself] at main
 refine loopQ env mixed (fun i:Nat=>[(0,.list 1 (rowsL M)),(3,.sl 0 1 0 i),(4,.int .i64 (i:Int))]) (fun i=>([(0,rowsV (M.take i))],1)) (fun i=>i≤M.length) (fun i=>M.length-i) 0 (by simp) (SubI.slots (by simp [rowsV]) (by simp)) ?_
 intro i hi
 by_cases hlt:i<M.length
 ·have hsn:=rowsV_snoc hlt
  have gl:(rowsV (M.take i)).length=i:=by simp; omega
  have htt:(M.take i).take i=M.take i:=List.take_of_length_le (by simp; omega)
  simp -implicitDefEqProofs [sc_s_l15Smith_L0,hlt,rowsL_dR hlt,gl,htt]
  have hrl:(atR M i).length≤64:=by rw [hlr i hlt]; exact hw
  refine ⟨by omega,by omega,by omega,?_⟩
  refine Again.of (i+1) (by omega) (by omega) ?_
  refine SubI.fold 4 2 i 1 (atR M i).length (cn:=ints (atR M i)) (co:=rowsV (M.take i)++[.sl 2 1 0 (atR M i).length]) (by simp) (by simp) (by rw [List.getElem?_append_right (by omega),gl,Nat.sub_self]; rfl) (by simp) ?_
  rw [hsn]
  refine SubI.ren (fun m=>if m=0 then some 4 else none) ?_ ?_ ?_ (by simp) (by simp)
  ·simp (disch:=omega) [subT,renV,ren1,wrapI]
  ·simp [subH,renL,ren1]
  ·intro m hm
   simp only at hm
   rw [if_neg (by omega)]
 ·have:i=M.length:=by omega
  subst this
  rw [List.take_length]
  simp -implicitDefEqProofs [sc_s_l15Smith_L0]
  refine SubQ.of (l1:=[(3,.sl 0 1 0 M.length)]) (s1:=([(0,rowsV M)],1)) (SubI.slots rfl (by simp)) ?_
  simp -implicitDefEqProofs
  refine main _ _ _ (SubI.slots rfl (by simp)) ?_ ?_
  ·intro H
   simp -implicitDefEqProofs
  ·intro H
   simp -implicitDefEqProofs
def sc_i_divisorsMod_L8:SC:=(.seq (.seq (.reg [⟨some 76,none,.mov (.t 15)⟩,⟨some 77,none,.mov (.t 8)⟩,⟨some 78,none,.bin false .lss (.t 76) (.t 77)⟩]) (.cond (.t 78) .skip (.exit 8))) (.seq (.block 9 (.seq (.dreg [⟨⟨some 81,none,.mov (.t 12)⟩,false,false⟩,⟨⟨some 82,none,.mov (.t 14)⟩,false,false⟩,⟨⟨some 83,none,.idx 1 (.t 81) (.t 82)⟩,false,false⟩,⟨⟨some 84,none,.ld none (.int .i64 0) (.t 83)⟩,false,false⟩,⟨⟨some 85,none,.mov (.t 12)⟩,false,false⟩,⟨⟨some 86,none,.mov (.t 15)⟩,false,false⟩,⟨⟨some 87,none,.idx 1 (.t 85) (.t 86)⟩,false,false⟩,⟨⟨some 88,none,.ld none (.int .i64 0) (.t 87)⟩,false,false⟩,⟨⟨some 89,none,.call 65 [.t 84,.t 88]⟩,false,false⟩,⟨⟨some 16,none,.mov (.t 89)⟩,false,false⟩]) (.seq (.dreg [⟨⟨some 90,none,.mov (.t 12)⟩,false,false⟩,⟨⟨some 91,none,.mov (.t 15)⟩,false,false⟩,⟨⟨some 92,none,.mov (.t 12)⟩,false,false⟩,⟨⟨some 93,none,.mov (.t 14)⟩,false,false⟩,⟨⟨some 94,none,.idx 1 (.t 92) (.t 93)⟩,false,false⟩,⟨⟨some 95,none,.ld none (.int .i64 0) (.t 94)⟩,false,false⟩,⟨⟨some 96,none,.mov (.t 16)⟩,false,false⟩,⟨⟨some 97,none,.bin false .quo (.t 95) (.t 96)⟩,false,false⟩,⟨⟨some 98,none,.mov (.t 12)⟩,false,false⟩,⟨⟨some 99,none,.mov (.t 15)⟩,false,false⟩,⟨⟨some 100,none,.idx 1 (.t 98) (.t 99)⟩,false,false⟩,⟨⟨some 101,none,.ld none (.int .i64 0) (.t 100)⟩,false,false⟩,⟨⟨some 102,none,.bin false .mul (.t 97) (.t 101)⟩,false,false⟩,⟨⟨some 103,none,.idx 1 (.t 90) (.t 91)⟩,false,false⟩,⟨⟨none,none,.st 1 (.t 103) (.t 102)⟩,true,false⟩]) (.reg [⟨some 104,none,.mov (.t 12)⟩,⟨some 105,none,.mov (.t 14)⟩,⟨some 106,none,.mov (.t 16)⟩,⟨some 107,none,.idx 1 (.t 104) (.t 105)⟩,⟨none,none,.st 1 (.t 107) (.t 106)⟩])))) (.reg [⟨some 79,none,.mov (.t 15)⟩,⟨some 80,none,.bin false .add (.t 79) (.c (.int .i64 1))⟩,⟨some 15,none,.mov (.t 80)⟩])))
def sc_i_divisorsMod_L6:SC:=(.seq (.reg [⟨some 72,none,.bin false .lss (.t 71) (.t 70)⟩]) (.seq (.cond (.t 72) .skip (.exit 6)) (.seq (.block 7 (.seq (.reg [⟨some 73,none,.mov (.t 71)⟩,⟨some 14,none,.mov (.t 73)⟩]) (.seq (.reg [⟨some 74,none,.mov (.t 14)⟩,⟨some 75,none,.bin false .add (.t 74) (.c (.int .i64 1))⟩,⟨some 15,none,.mov (.t 75)⟩]) (.block 8 (.loop sc_i_divisorsMod_L8))))) (.reg [⟨some 108,none,.bin false .add (.t 71) (.c (.int .i64 1))⟩,⟨some 71,none,.mov (.t 108)⟩]))))
def sc_i_divisorsMod_L4:SC:=(.seq (.reg [⟨some 54,none,.bin false .lss (.t 53) (.t 52)⟩]) (.seq (.cond (.t 54) .skip (.exit 4)) (.seq (.block 5 (.seq (.reg [⟨some 55,none,.mov (.t 53)⟩,⟨some 13,none,.mov (.t 55)⟩]) (.reg [⟨some 56,none,.mov (.t 12)⟩,⟨some 57,none,.mov (.t 13)⟩,⟨some 58,none,.mov (.t 2)⟩,⟨some 59,none,.mov (.t 7)⟩,⟨some 60,none,.mov (.t 13)⟩,⟨some 61,none,.idx 1 (.t 59) (.t 60)⟩,⟨some 62,none,.ld none .nil (.t 61)⟩,⟨some 63,none,.mov (.t 13)⟩,⟨some 64,none,.idx 1 (.t 62) (.t 63)⟩,⟨some 65,none,.ld none (.int .i64 0) (.t 64)⟩,⟨some 66,none,.call 65 [.t 58,.t 65]⟩,⟨some 67,none,.idx 1 (.t 56) (.t 57)⟩,⟨none,none,.st 1 (.t 67) (.t 66)⟩]))) (.reg [⟨some 68,none,.bin false .add (.t 53) (.c (.int .i64 1))⟩,⟨some 53,none,.mov (.t 68)⟩]))))
def sc_i_divisorsMod_L2:SC:=(.block 3 (.seq (.reg [⟨some 33,none,.mov (.t 7)⟩,⟨some 34,none,.mov (.t 9)⟩,⟨some 35,none,.call 63 [.t 33,.t 34]⟩,⟨some 32,none,.mov (.t 35)⟩,⟨some 36,none,.ext 0 (.t 32)⟩,⟨some 37,none,.ext 1 (.t 32)⟩,⟨some 10,none,.mov (.t 36)⟩,⟨some 11,none,.mov (.t 37)⟩]) (.seq (.seq (.reg [⟨some 38,none,.mov (.t 10)⟩,⟨some 39,none,.bin false .lss (.t 38) (.c (.int .i64 0))⟩]) (.cond (.t 39) (.exit 2) .skip)) (.seq (.reg [⟨some 40,none,.mov (.t 7)⟩,⟨some 41,none,.mov (.t 9)⟩,⟨some 42,none,.mov (.t 10)⟩,⟨some 43,none,.mov (.t 11)⟩,⟨some 44,none,.call 61 [.t 40,.t 41,.t 42,.t 43]⟩]) (.seq (.reg [⟨some 45,none,.mov (.t 7)⟩,⟨some 46,none,.mov (.t 9)⟩,⟨some 47,none,.mov (.t 2)⟩,⟨some 48,none,.call 64 [.t 45,.t 46,.t 47]⟩]) (.cond (.t 48) (.exit 2) .skip))))))
def sc_i_divisorsMod_L0:SC:=(.seq (.seq (.reg [⟨some 27,none,.mov (.t 9)⟩,⟨some 28,none,.mov (.t 8)⟩,⟨some 29,none,.bin false .lss (.t 27) (.t 28)⟩]) (.cond (.t 29) .skip (.exit 0))) (.seq (.block 1 (.block 2 (.loop sc_i_divisorsMod_L2))) (.reg [⟨some 30,none,.mov (.t 9)⟩,⟨some 31,none,.bin false .add (.t 30) (.c (.int .i64 1))⟩,⟨some 9,none,.mov (.t 31)⟩])))
def sc_i_divisorsMod:SC:=(.seq (.reg [⟨some 6,none,.mov (.c .nil)⟩]) (.seq (.reg [⟨some 17,none,.mov (.t 0)⟩,⟨some 18,none,.mov (.t 2)⟩,⟨some 19,none,.call 62 [.t 17,.t 18]⟩,⟨some 7,none,.mov (.t 19)⟩]) (.seq (.reg [⟨some 20,none,.mov (.t 7)⟩,⟨some 21,none,.len (.t 20)⟩,⟨some 22,none,.mov (.t 7)⟩,⟨some 23,none,.idx 1 (.t 22) (.c (.int .i64 0))⟩,⟨some 24,none,.ld none .nil (.t 23)⟩,⟨some 25,none,.len (.t 24)⟩,⟨some 26,none,.mm false (.t 21) (.t 25)⟩,⟨some 8,none,.mov (.t 26)⟩]) (.seq (.seq (.reg [⟨some 9,none,.mov (.c (.int .i64 0))⟩]) (.block 0 (.loop sc_i_divisorsMod_L0))) (.seq (.reg [⟨some 49,none,.mov (.t 8)⟩,⟨some 50,none,.mk 1 8 [.int .i64 0] (.t 49) (.t 49)⟩,⟨some 12,none,.mov (.t 50)⟩]) (.seq (.seq (.reg [⟨some 51,none,.mov (.t 12)⟩,⟨some 52,none,.len (.t 51)⟩,⟨some 53,none,.mov (.c (.int .i64 0))⟩]) (.block 4 (.loop sc_i_divisorsMod_L4))) (.seq (.seq (.reg [⟨some 69,none,.mov (.t 12)⟩,⟨some 70,none,.len (.t 69)⟩,⟨some 71,none,.mov (.c (.int .i64 0))⟩]) (.block 6 (.loop sc_i_divisorsMod_L6))) (.seq (.reg [⟨some 109,none,.mov (.t 12)⟩,⟨some 110,none,.mov (.t 1)⟩,⟨some 111,none,.mov (.t 1)⟩,⟨some 112,none,.sli 1 (.t 109) none (some (.t 110)) (some (.t 111))⟩,⟨some 6,none,.mov (.t 112)⟩]) .ret))))))))
theorem code_i_divisorsMod:fnCode Tryz.prog [] 31=some (113,sc_i_divisorsMod,[(6,none)]):=by kernel_rfl
noncomputable def F_i_divisorsMod:List V→Option V:=F3 dLL dI dI fun M r t => @ite _ (dimM M∧0<M.length∧bdE 1073741824 M.length (wdM M) (ent M)∧1≤t∧t≤1073741824∧0≤r∧r≤(min M.length (wdM M):Nat)) (Classical.propDecidable _)
 ((dmV t M.length (wdM M) fun a b=>ent M a b % t).map fun F => .own 1 (ints ((bub (dg0 t (min M.length (wdM M)) F)).take r.toNat))) none
theorem fn_i_divisorsMod:FnOk Tryz.prog 31 F_i_divisorsMod:=by
 have env:=(((((envNil_ok (P:=Tryz.prog)).add fn_i_modMatrixT).add fn_i_findLeast).add fn_i_divisorOf).addl ln_i_swapTo).addl ln_i_clearCross
 refine fn_ok code_i_divisorsMod mixed env ?_
 intro args r0 h hb
 obtain ⟨_,_,_,M,r,t,rfl,h1,h2,h3,h4⟩:=F3_inv h
 cases dLL_inv h1
 cases dI_inv h2
 cases dI_inv h3
 simp only [Option.ite_none_right_eq_some,Option.map_eq_some_iff] at h4
 obtain ⟨⟨hdim,hpos,hbd,ht1,ht2,hr0,hrm⟩,F,hF,rfl⟩:=h4
 obtain ⟨q0,hF⟩:=dmV_iff.1 hF
 clear h h1 h2 h3 hb
 have hMM:F_i_modMatrixT [.list 1 (rowsL M),.int .i64 t]=some (.own 1 (rowsV (matF M.length (wdM M) fun a b=>ent M a b % t))):=by
  simp only [F_i_modMatrixT,F2_mk,dLL_list,dI_int,Option.bind_some]
  rw [if_pos ⟨ht1,ht2,hdim,hbd⟩,modM_matF hdim.1]
 have hm0:modE t M.length (wdM M) fun a b=>ent M a b % t:=fun i j _ _=>⟨Int.emod_nonneg _ (by omega),Int.emod_lt_of_pos _ (by omega)⟩
 obtain ⟨hr,hn,hw⟩:=hdim
 generalize (fun a b=>ent M a b % t)=f0 at *
 have hw0:M.length=0→wdM M=0:=fun h=>by omega
 clear hr hbd
 generalize wdM M=w at *
 generalize hnn:M.length=n at *
 obtain ⟨r,rfl⟩:∃ q:Nat,r=q:=⟨r.toNat,by omega⟩
 rw [Int.toNat_natCast]
 generalize hm:min n w=m at *
 refine ⟨by simp,fun w0 U0 L0 N0 => ?_⟩
 -- the elimination
 have elim:∀ (Q:Post) (T0:Tm) (H0:Hp),SubI 0 T0 H0 [(1,.int .i64 (r:Int)),(2,.int .i64 t),(7,.sl 0 1 0 n),(8,.int .i64 (m:Int)),(9,.int .i64 0)] ([(0,rowsV (matF n w f0))],1) →
   (modE t n w F→Q (.exit 0) [(1,.int .i64 (r:Int)),(2,.int .i64 t),(7,.sl 0 1 0 n),(8,.int .i64 (m:Int))] ([(0,rowsV (matF n w F))],1)) →
   LoopI ⟨Tryz.prog,w0,U0,L0,N0,0,113⟩ [] sc_i_divisorsMod_L0 Q T0 H0:=by
  intro Q T0 H0 hsub q1
  refine loopQ env mixed (fun x:Nat×(Nat→Nat→Int)×Nat=>[(1,.int .i64 (r:Int)),(2,.int .i64 t),(7,.sl 0 1 0 n),(8,.int .i64 (m:Int)),(9,.int .i64 (x.1:Int))]) (fun x=>([(0,rowsV (matF n w x.2.1))],1)) (fun x=>x.1≤m∧modE t n w x.2.1∧dmR t n w x.2.2 x.2.1 x.1=some F) (fun x=>m-x.1) (0,f0,q0) ⟨by simp only; omega,hm0,hF⟩ (by simpa using hsub) ?_
  rintro ⟨k,f,q⟩ ⟨hkm,hmf,hI⟩
  simp only at hkm hmf hI ⊢
  by_cases hlt:k<m
  rotate_left
  ·obtain ⟨q,rfl⟩:∃ p,q=p+1:=⟨q-1,by
    cases q with
    | zero=>simp [dmR] at hI
    | succ q=>rfl⟩
   rw [dmR_end (by omega)] at hI
   simp only [Option.some.injEq] at hI
   subst hI
   have q2:=q1 hmf
   simp -implicitDefEqProofs [sc_i_divisorsMod_L0,hlt]
   refine SubQ.of ?_ q2
   exact SubI.slots rfl (by simp)
  have hkn:k<n:=by omega
  have hkw:k<w:=by omega
  simp -implicitDefEqProofs [sc_i_divisorsMod_L0,hlt]
  refine loopQ env mixed (fun x:(Nat→Nat→Int)×Nat=>[(1,.int .i64 (r:Int)),(2,.int .i64 t),(7,.sl 0 1 0 n),(8,.int .i64 (m:Int)),(9,.int .i64 (k:Int))]) (fun x=>([(0,rowsV (matF n w x.1))],1)) (fun x=>modE t n w x.1∧dmR t n w x.2 x.1 k=some F) (fun x=>x.2) (f,q) ⟨hmf,hI⟩ (SubI.slots rfl (by simp)) ?_
  clear hI hmf
  rintro ⟨f,q⟩ ⟨hmf,hI⟩
  simp only at hmf hI ⊢
  obtain ⟨q,rfl⟩:∃ p,q=p+1:=⟨q-1,by
   cases q with
   | zero=>simp [dmR] at hI
   | succ q=>rfl⟩
  have hml:=matF_len n w f
  have he:∀ (g:Nat→Nat→Int) a b,a<n→b<w→ent (matF n w g) a b=g a b:=fun g a b ha hb=>matF_ent ha hb
  have hlow:=lowB_matF (f:=f) hw0 hn hw (modE_bd hmf ht2)
  have hnon:nonN (matF n w f):=fun i j hi hj=>by
   rw [matF_len] at hi
   rw [wdM_matF hw0] at hj
   rw [he f i j hi hj]
   exact (hmf i j hi hj).1
  have hLS:F_i_findLeast [.list 1 (rowsL (matF n w f)),.int .i64 (k:Int)]=some (.tup [.int .i64 (flZ f n w k).1,.int .i64 (flZ f n w k).2]):=by
   simp only [F_i_findLeast,F2_mk,dLL_list,dI_int,Option.bind_some]
   rw [if_pos ⟨hlow,hnon,by omega,by omega⟩,Int.toNat_natCast,wdM_matF hw0,matF_len,flZ_congr (he f)]
  have htk:(matF n w f).take n=matF n w f:=List.take_of_length_le (by rw [hml]; omega)
  rcases flZ_spec f n w k with ⟨e,_⟩ | ⟨i,j,e,hin,hjw,hnz0,_,_⟩
  ·rw [dmR_zero ⟨hkn,hkw⟩ e] at hI
   rw [e] at hLS
   simp only at hLS
   generalize hMf:matF n w f=Mf at *
   simp -implicitDefEqProofs [sc_i_divisorsMod_L2,hml,htk,hLS]
   refine SubQ.of (l1:=[(1,.int .i64 (r:Int)),(2,.int .i64 t),(7,.sl 0 1 0 n),(8,.int .i64 (m:Int)),(9,.int .i64 (k:Int))]) (s1:=([(0,rowsV Mf)],1)) (SubI.slots rfl (by simp)) ?_
   simp -implicitDefEqProofs
   exact Again.of (k+1,f,q) ⟨by simp only; omega,hmf,hI⟩ (by simp only; omega) (SubI.slots (by simp [hMf]) (by simp (disch:=omega) [wrapI]))
  rw [e] at hLS
  simp only at hLS
  have hni:¬((i:Int)<0):=by omega
  have hmg:modE t n w (swF k i j f):=fun a b ha hb=>hmf _ _ (swI_lt hkn hin ha) (swI_lt hkw hjw hb)
  have hnz:swF k i j f k k≠0:=by
   unfold swF
   rw [swI_l,swI_l]
   exact hnz0
  have hG1:G_i_swapTo [.sl 0 1 0 n,.int .i64 (k:Int),.int .i64 (i:Int),.int .i64 (j:Int)] (rowsV (matF n w f))=some (.tup [],rowsV (matF n w (swF k i j f))):=by
   simp only [G_i_swapTo,dRowsV_rowsV,Option.bind_some]
   have hwd:=wdM_matF (f:=f) hw0
   rw [if_pos ⟨by rw [hml],dimM_matF hw0 hn hw,by omega,by rw [hml]; omega,by rw [hwd]; omega,by omega,by rw [hml]; omega,by omega,by rw [hwd]; omega⟩]
   simp only [Int.toNat_natCast]
   rw [swpR_matF hkn hkw hin hjw]
  have hml1:=matF_len n w (swF k i j f)
  have hrm':∀ a b,a<n→b<w→rmF t k (ent (matF n w (swF k i j f))) a b=rmF t k (swF k i j f) a b:=fun a b ha hb=>by
   unfold rmF rgF rmV rwV
   rw [he _ a b ha hb,he _ a k ha hkw,he _ k k hkn hkw,he _ k b hkn hb]
  have hcr':∀ a b,a<n→b<w→crF t k (ent (matF n w (swF k i j f))) a b=crF t k (swF k i j f) a b:=fun a b ha hb=>by
   unfold crF cgF cmV clV
   rw [hrm' a b ha hb,hrm' a k ha hkw,hrm' k k hkn hkw,hrm' k b hkn hb]
  have hcp:ccP t n w k (ent (matF n w (swF k i j f)))↔ccP t n w k (swF k i j f):=by
   constructor
   ·rintro ⟨g1,g2⟩
    exact ⟨fun a ha hb=>by rw [← hrm' a k hb hkw]; exact g1 a ha hb,fun b hb hc=>by rw [← hcr' k b hkn hc]; exact g2 b hb hc⟩
   ·rintro ⟨g1,g2⟩
    exact ⟨fun a ha hb=>by rw [hrm' a k hb hkw]; exact g1 a ha hb,fun b hb hc=>by rw [hcr' k b hkn hc]; exact g2 b hb hc⟩
  have hG2:G_i_clearCross [.sl 0 1 0 n,.int .i64 (k:Int),.int .i64 t] (rowsV (matF n w (swF k i j f)))=some (.bool (dec (ccP t n w k (swF k i j f))),rowsV (matF n w (crF t k (swF k i j f)))):=by
   simp only [G_i_clearCross,dRowsV_rowsV,Option.bind_some]
   have hwd:=wdM_matF (f:=swF k i j f) hw0
   rw [if_pos ⟨by rw [hml1],by omega,⟨dimM_matF hw0 hn hw,by rw [hml1,Int.toNat_natCast]; exact hkn,by rw [hwd,Int.toNat_natCast]; exact hkw,by rw [Int.toNat_natCast,he _ k k hkn hkw]; exact hnz,ht1,ht2,by
    rw [hwd,hml1]
    intro a b ha hb
    rw [he _ a b ha hb]
    exact hmg a b ha hb⟩⟩]
   simp only [Int.toNat_natCast]
   rw [hwd,hml1,decC hcp,matF_congr hcr']
  have hmh:modE t n w (crF t k (swF k i j f)):=modE_cr hmg ht1
  have hml2:=matF_len n w (crF t k (swF k i j f))
  by_cases hc:ccP t n w k (swF k i j f)
  ·rw [dmR_done ⟨hkn,hkw⟩ e hc] at hI
   rw [dec_true hc] at hG2
   generalize hh:crF t k (swF k i j f)=h at *
   generalize hM2:matF n w h=M2 at *
   generalize matF n w (swF k i j f)=M1 at *
   generalize matF n w f=Mf at *
   simp -implicitDefEqProofs [sc_i_divisorsMod_L2,ren0,hml,htk,hLS,hni,hG1,hG2]
   refine SubQ.of (l1:=[(1,.int .i64 (r:Int)),(2,.int .i64 t),(7,.sl 0 1 0 n),(8,.int .i64 (m:Int)),(9,.int .i64 (k:Int))]) (s1:=([(0,rowsV M2)],1)) (SubI.slots rfl (by simp)) ?_
   simp -implicitDefEqProofs
   exact Again.of (k+1,h,q) ⟨by simp only; omega,hmh,hI⟩ (by simp only; omega) (SubI.slots (by simp [hM2]) (by simp (disch:=omega) [wrapI]))
  ·rw [dmR_dirty ⟨hkn,hkw⟩ e hc] at hI
   rw [dec_false hc] at hG2
   generalize hh:crF t k (swF k i j f)=h at *
   generalize hM2:matF n w h=M2 at *
   generalize matF n w (swF k i j f)=M1 at *
   generalize matF n w f=Mf at *
   simp -implicitDefEqProofs [sc_i_divisorsMod_L2,ren0,hml,htk,hLS,hni,hG1,hG2]
   exact Again.of (h,q) ⟨hmh,hI⟩ (by simp only; omega) (SubI.slots (by simp [hM2]) (by simp))
 -- the divisors
 have divs:∀ (Q:Post) (T0:Tm) (H0:Hp),modE t n w F→SubI 0 T0 H0 [(1,.int .i64 (r:Int)),(2,.int .i64 t),(7,.sl 0 1 0 n),(8,.int .i64 (m:Int)),(12,.sl 1 1 0 m),(52,.int .i64 (m:Int)),(53,.int .i64 0)] ([(1,List.replicate m (.int .i64 0)),(0,rowsV (matF n w F))],2) →
   Q (.exit 4) [(1,.int .i64 (r:Int)),(8,.int .i64 (m:Int)),(12,.sl 1 1 0 m)] ([(1,ints (dg0 t m F)),(0,rowsV (matF n w F))],2) →
   LoopI ⟨Tryz.prog,w0,U0,L0,N0,0,113⟩ [] sc_i_divisorsMod_L4 Q T0 H0:=by
  intro Q T0 H0 hmF hsub q1
  have hml:=matF_len n w F
  have hz:List.replicate m (V.int .i64 0)=ints (zK m (fun k=>((Int.gcd t (F k k):Nat):Int)) 0):=by
   rw [zK_zero]; simp
  rw [hz] at hsub
  have hfull:zK m (fun k=>((Int.gcd t (F k k):Nat):Int)) m=dg0 t m F:=zK_full m _
  rw [← hfull] at q1
  refine loopQ env mixed (fun k:Nat=>[(1,.int .i64 (r:Int)),(2,.int .i64 t),(7,.sl 0 1 0 n),(8,.int .i64 (m:Int)),(12,.sl 1 1 0 m),(52,.int .i64 (m:Int)),(53,.int .i64 (k:Int))]) (fun k=>([(1,ints (zK m (fun k=>((Int.gcd t (F k k):Nat):Int)) k)),(0,rowsV (matF n w F))],2)) (fun k=>k≤m) (fun k=>m-k) 0 (by simp) (by simpa using hsub) ?_
  intro k hk
  have hgl:=zK_len m (fun k=>((Int.gcd t (F k k):Nat):Int)) k
  by_cases hlt:k<m
  ·have hkn:k<n:=by omega
   have hkw:k<w:=by omega
   have hset:(zK m (fun k=>((Int.gcd t (F k k):Nat):Int)) k).set k ((Int.gcd t (F k k):Nat):Int)=zK m (fun k=>((Int.gcd t (F k k):Nat):Int)) (k+1):=zK_set (g:=fun k=>((Int.gcd t (F k k):Nat):Int)) hlt
   have hak:=matF_at (w:=w) (f:=F) hkn
   have hlk:(rowF w (F k)).length=w:=rowF_len _ _
   have hek:=rowF_at (g:=F k) hkw
   have hself:=rowsV_self (M:=matF n w F) (i:=k) (by omega)
   rw [hak] at hself
   have hb:=hmF k k hkn hkw
   have hD:F_i_divisorOf [.int .i64 t,.int .i64 (F k k)]=some (.int .i64 ((Int.gcd t (F k k):Nat):Int)):=by
    simp only [F_i_divisorOf,F2_mk,dI_int,Option.bind_some]
    rw [if_pos ⟨by omega,by omega,by omega,by omega⟩]
   generalize hg1:zK m (fun k=>((Int.gcd t (F k k):Nat):Int)) (k+1)=d1 at *
   generalize zK m (fun k=>((Int.gcd t (F k k):Nat):Int)) k=d at *
   generalize ((Int.gcd t (F k k):Nat):Int)=v at *
   generalize rowF w (F k)=rk at *
   generalize matF n w F=MF at *
   simp -implicitDefEqProofs [sc_i_divisorsMod_L4,hlt,hkn,hkw,hml,hak,hlk,hek,hD,hgl,hset]
   repeat' (first | omega | apply And.intro)
   refine Again.of (k+1) (by omega) (by omega) ?_
   refine SubI.fold 0 2 k 1 w (cn:=ints rk) (co:=(rowsV MF).set k (.sl 2 1 0 w)) (by simp) (by simp) (by simp [hml,hkn]) (by simp [hlk]) ?_
   rw [List.set_set,hself]
   refine SubI.ren (fun m=>if m=0 then some 0 else if m=1 then some 1 else none) ?_ ?_ ?_ (by simp) (by simp)
   ·simp (disch:=omega) [subT,renV,ren1,wrapI]
   ·simp [subH,renL,ren1,hg1]
   ·intro m hm
    simp only at hm
    rw [if_neg (by omega),if_neg (by omega)]
  ·have:k=m:=by omega
   subst this
   simp -implicitDefEqProofs [sc_i_divisorsMod_L4]
   refine SubQ.of ?_ q1
   exact SubI.slots rfl (by simp)
 -- the order
 have ordr:∀ (d0:List Int) (H1:List V) (Q:Post) (T0:Tm) (H0:Hp),d0.length=m→dvL t d0→SubI 0 T0 H0 [(1,.int .i64 (r:Int)),(8,.int .i64 (m:Int)),(12,.sl 1 1 0 m),(70,.int .i64 (m:Int)),(71,.int .i64 0)] ([(1,ints d0),(0,H1)],2) →
   Q (.exit 6) [(1,.int .i64 (r:Int)),(12,.sl 1 1 0 m)] ([(1,ints (bub d0)),(0,H1)],2) →
   LoopI ⟨Tryz.prog,w0,U0,L0,N0,0,113⟩ [] sc_i_divisorsMod_L6 Q T0 H0:=by
  intro d0 H1 Q T0 H0 hdl hdv hsub q1
  unfold bub at q1
  rw [hdl] at q1
  refine loopQ env mixed (fun i:Nat=>[(1,.int .i64 (r:Int)),(8,.int .i64 (m:Int)),(12,.sl 1 1 0 m),(70,.int .i64 (m:Int)),(71,.int .i64 (i:Int))]) (fun i=>([(1,ints (bbI d0 i)),(0,H1)],2)) (fun i=>i≤m) (fun i=>m-i) 0 (by simp) (by simpa [bbI] using hsub) ?_
  intro i hi
  by_cases hlt:i<m
  ·have hdi:=dvL_I hdv i (by omega)
   have hli:(bbI d0 i).length=m:=by rw [bbI_len,hdl]
   have hnext:bbI d0 (i+1)=bbJ (bbI d0 i) i (m-(i+1)):=by rw [bbI,hdl]
   generalize bbI d0 i=di at *
   have hw1:IntKind.i64.wrap ((i:Int)+1)=((i+1:Nat):Int):=by rw [wrapI _ (by omega) (by omega)]; rfl
   simp -implicitDefEqProofs [sc_i_divisorsMod_L6,hlt,hw1]
   refine loopQ env mixed (fun j:Nat=>[(1,.int .i64 (r:Int)),(8,.int .i64 (m:Int)),(12,.sl 1 1 0 m),(14,.int .i64 (i:Int)),(15,.int .i64 (j:Int)),(70,.int .i64 (m:Int)),(71,.int .i64 (i:Int))]) (fun j=>([(1,ints (bbJ di i (j-(i+1)))),(0,H1)],2)) (fun j=>i+1≤j∧j≤m) (fun j=>m-j) (i+1) ⟨Nat.le_refl _,by omega⟩ (SubI.slots (by simp [bbJ]) (by simp)) ?_
   rintro j ⟨hij,hjm⟩
   have hlj:(bbJ di i (j-(i+1))).length=m:=by rw [bbJ_len,hli]
   by_cases hlt2:j<m
   ·have hdj:=dvL_J (i:=i) hdi (j-(i+1)) (by omega)
    have hstep:bbJ di i (j+1-(i+1))=bbS (bbJ di i (j-(i+1))) i j:=by
     rw [show j+1-(i+1)=(j-(i+1))+1 by omega,bbJ,show i+1+(j-(i+1))=j by omega]
    generalize hd2:bbJ di i (j+1-(i+1))=d2 at *
    generalize bbJ di i (j-(i+1))=d at *
    obtain ⟨a1,a2⟩:=hdj i (by omega)
    obtain ⟨b1,b2⟩:=hdj j (by omega)
    have a3:=Int.le_of_dvd (by omega) a2
    have b3:=Int.le_of_dvd (by omega) b2
    obtain ⟨g0,g1,g2,g3,g4,_⟩:=gcd_facts a1 b1 a2 b2
    have g5:=Int.le_of_dvd (by omega) g4
    have g6:=Int.le_of_dvd (by omega) g1
    have hD:F_i_divisorOf [.int .i64 (at0 d i),.int .i64 (at0 d j)]=some (.int .i64 ((Int.gcd (at0 d i) (at0 d j):Nat):Int)):=by
     simp only [F_i_divisorOf,F2_mk,dI_int,Option.bind_some]
     rw [if_pos ⟨by omega,by omega,by omega,by omega⟩]
    unfold bbS at hstep
    have hij2:¬i=j:=by omega
    have hji2:¬j=i:=by omega
    generalize hgg:((Int.gcd (at0 d i) (at0 d j):Nat):Int)=g at *
    have hgz:¬g=0:=by omega
    have hq1:=tdivB (a:=at0 d i) (b:=g) (B:=1073741824) ⟨by omega,by omega⟩
    have hw2:IntKind.i64.wrap ((at0 d i).tdiv g)=(at0 d i).tdiv g:=wrapI _ (by omega) (by omega)
    have hw3:IntKind.i64.wrap ((at0 d i).tdiv g*at0 d j)=(at0 d i).tdiv g*at0 d j:=wrapI _ (by omega) (by omega)
    simp -implicitDefEqProofs [sc_i_divisorsMod_L8,freeOk,hlt,hlt2,hlj,hD,hgz,hw2,hw3]
    repeat' (first | omega | apply And.intro)
    exact Again.of (j+1) (by omega) (by omega) (SubI.slots (by simp only [hd2]; simp [hstep]) (by simp (disch:=omega) [wrapI]))
   ·have:j=m:=by omega
    subst this
    simp -implicitDefEqProofs [sc_i_divisorsMod_L8]
    refine SubQ.of (l1:=[(1,.int .i64 (r:Int)),(8,.int .i64 (j:Int)),(12,.sl 1 1 0 j),(70,.int .i64 (j:Int)),(71,.int .i64 (i:Int))]) (SubI.slots rfl (by simp)) ?_
    simp -implicitDefEqProofs
    exact Again.of (i+1) (by omega) (by omega) (SubI.slots (by simp [hnext]) (by simp (disch:=omega) [wrapI]))
  ·have:i=m:=by omega
   subst this
   simp -implicitDefEqProofs [sc_i_divisorsMod_L6]
   refine SubQ.of ?_ q1
   exact SubI.slots rfl (by simp)
 have hml:=matF_len n w f0
 have ha0:=matF_at (w:=w) (f:=f0) hpos
 have hl0:(rowF w (f0 0)).length=w:=rowF_len _ _
 have hself0:=rowsV_self (M:=matF n w f0) (i:=0) (by omega)
 rw [ha0] at hself0
 have hmin:min (n:Int) (w:Int)=(m:Int):=by omega
 have hdv:dvL t (dg0 t m F):=fun q hq=>by
  unfold dg0 at *
  rw [rowF_len] at hq
  rw [rowF_at hq]
  have g1:((Int.gcd t (F q q):Nat):Int)∣t:=Int.gcd_dvd_left ..
  refine ⟨?_,g1⟩
  have:Int.gcd t (F q q)≠0:=fun h=>by
   rw [h] at g1
   have:=Int.zero_dvd.1 (by simpa using g1)
   omega
  omega
 have hdl:(dg0 t m F).length=m:=rowF_len _ _
 have hbl:(bub (dg0 t m F)).length=m:=by unfold bub; rw [bbI_len,hdl]
 have hor:=ordr (dg0 t m F) (rowsV (matF n w F))
 generalize bub (dg0 t m F)=B at *
 generalize dg0 t m F=D at *
 generalize rowF w (f0 0)=r0 at *
 generalize matF n w F=MF at *
 generalize matF n w f0=M0 at *
 simp -implicitDefEqProofs [sc_i_divisorsMod,hMM,hml,hpos,ha0,hl0,hmin]
 refine elim _ _ _ ?_ ?_
 ·refine SubI.fold 0 1 0 1 w (cn:=ints r0) (co:=(rowsV M0).set 0 (.sl 1 1 0 w)) (by simp) (by simp) (by simp [hml,hpos]) (by simp [hl0]) ?_
  rw [List.set_set,hself0]
  refine SubI.ren (fun m=>if m=0 then some 0 else none) ?_ ?_ ?_ (by simp) (by simp)
  ·simp [subT,renV,ren1]
  ·simp [subH,renL,ren1]
  ·intro m hm
   simp only at hm
   rw [if_neg (by omega)]
 intro hmF
 simp -implicitDefEqProofs
 refine ⟨by omega,?_⟩
 refine divs _ _ _ hmF (SubI.slots (by simp) (by simp)) ?_
 simp -implicitDefEqProofs
 refine hor _ _ _ hdl hdv (SubI.slots (by simp) (by simp)) ?_
 simp -implicitDefEqProofs [hbl]
 omega
def sc_i_sameLengths_L0:SC:=(.seq (.reg [⟨some 8,none,.bin false .lss (.t 7) (.t 6)⟩]) (.seq (.cond (.t 8) .skip (.exit 0)) (.seq (.block 1 (.seq (.reg [⟨some 9,none,.idx 1 (.t 5) (.t 7)⟩,⟨some 10,none,.ld none .nil (.t 9)⟩,⟨some 4,none,.mov (.t 10)⟩]) (.seq (.reg [⟨some 11,none,.mov (.t 4)⟩,⟨some 12,none,.len (.t 11)⟩,⟨some 13,none,.mov (.t 0)⟩,⟨some 14,none,.idx 1 (.t 13) (.c (.int .i64 0))⟩,⟨some 15,none,.ld none .nil (.t 14)⟩,⟨some 16,none,.len (.t 15)⟩,⟨some 17,none,.bin false .neq (.t 12) (.t 16)⟩]) (.cond (.t 17) (.seq (.reg [⟨some 2,none,.mov (.c (.bool false))⟩]) .ret) .skip)))) (.reg [⟨some 18,none,.bin false .add (.t 7) (.c (.int .i64 1))⟩,⟨some 7,none,.mov (.t 18)⟩]))))
def sc_i_sameLengths:SC:=(.seq (.reg [⟨some 2,none,.mov (.c (.bool false))⟩]) (.seq (.seq (.reg [⟨some 5,none,.mov (.t 0)⟩,⟨some 6,none,.len (.t 5)⟩,⟨some 7,none,.mov (.c (.int .i64 0))⟩]) (.block 0 (.loop sc_i_sameLengths_L0))) (.seq (.reg [⟨some 2,none,.mov (.c (.bool true))⟩]) .ret)))
theorem code_i_sameLengths:fnCode Tryz.prog [] 91=some (19,sc_i_sameLengths,[(2,none)]):=by kernel_rfl
noncomputable def F_i_sameLengths:List V→Option V:=F1 dLL fun M=>some (.bool (dec (rect (wdM M) M)))
theorem fn_i_sameLengths:FnOk Tryz.prog 91 F_i_sameLengths:=by
 refine fn_ok code_i_sameLengths mixed envNil_ok ?_
 intro args r h hb
 obtain ⟨_,M,rfl,h1,h4⟩:=F1_inv h
 cases dLL_inv h1
 cases h4
 clear h h1
 have hla:M.length≤9223372036854775807:=by simpa using (hb (.list 1 (rowsL M)) (by simp)).1
 refine ⟨by simp,fun w0 U0 L0 N0 => ?_⟩
 clear hb
 generalize hv:dec (rect (wdM M) M)=v
 simp -implicitDefEqProofs [sc_i_sameLengths]
 refine loopI envNil_ok mixed (fun k:Nat=>[(0,.list 1 (rowsL M)),(5,.list 1 (rowsL M)),(6,.int .i64 (M.length:Int)),(7,.int .i64 (k:Int))]) (fun _=>([],0)) (fun k=>k≤M.length∧∀ j,j<k→(atR M j).length=wdM M) (fun k=>M.length-k) 0 (by simp) (SubI.slots rfl (by simp)) ?_
 rintro k ⟨hk,hI⟩
 by_cases hlt:k<M.length
 ·have h0:0<M.length:=by omega
  have hd0:(rowsL M)[0]?.getD .nil = .list 1 (ints (atR M 0)):=by
   have:=rowsL_drop0 h0 .nil
   rwa [List.drop_zero] at this
  by_cases he:(atR M k).length=wdM M
  ·unfold wdM at he
   simp -implicitDefEqProofs [sc_i_sameLengths_L0,hlt,h0,hd0,rowsL_dR hlt,he]
   repeat' (first | omega | apply And.intro)
   refine Again.of (k+1) ⟨by omega,fun j hj => ?_⟩ (by omega) (SubI.slots rfl (by simp (disch:=omega) [wrapI]))
   rcases Nat.lt_succ_iff_lt_or_eq.1 hj with h1 | rfl
   ·exact hI j h1
   ·exact he
  ·have hv1:v=false:=hv ▸ dec_false fun h=>he (h k hlt)
   unfold wdM at he
   have he':¬(((atR M k).length:Int)=((atR M 0).length:Int)):=by omega
   simp -implicitDefEqProofs [sc_i_sameLengths_L0,hlt,h0,hd0,rowsL_dR hlt,he,he',hv1]
   repeat' (first | omega | apply And.intro)
 ·have hv1:v=true:=hv ▸ dec_true fun j hj=>hI j (by omega)
  simp -implicitDefEqProofs [sc_i_sameLengths_L0,hlt,hv1]
def sc_i_isSmallMatrix_L2:SC:=(.seq (.reg [⟨some 40,none,.bin false .lss (.t 39) (.t 38)⟩]) (.seq (.cond (.t 40) .skip (.exit 2)) (.seq (.block 3 (.seq (.reg [⟨some 41,none,.idx 1 (.t 37) (.t 39)⟩,⟨some 42,none,.ld none (.int .i64 0) (.t 41)⟩,⟨some 10,none,.mov (.t 42)⟩]) (.seq (.reg [⟨some 43,none,.mov (.t 10)⟩,⟨some 44,none,.mov (.t 2)⟩,⟨some 45,none,.un .neg (.t 44)⟩,⟨some 46,none,.bin false .lss (.t 43) (.t 45)⟩,⟨some 47,none,.mov (.t 46)⟩,⟨some 48,some (47,false),.mov (.t 10)⟩,⟨some 49,some (47,false),.mov (.t 2)⟩,⟨some 50,some (47,false),.bin false .gtr (.t 48) (.t 49)⟩,⟨some 51,none,.pick (.t 47) (.c (.bool true)) (.t 50)⟩]) (.cond (.t 51) (.seq (.reg [⟨some 6,none,.mov (.c (.bool false))⟩]) .ret) .skip)))) (.reg [⟨some 52,none,.bin false .add (.t 39) (.c (.int .i64 1))⟩,⟨some 39,none,.mov (.t 52)⟩]))))
def sc_i_isSmallMatrix_L0:SC:=(.seq (.reg [⟨some 34,none,.bin false .lss (.t 33) (.t 32)⟩]) (.seq (.cond (.t 34) .skip (.exit 0)) (.seq (.block 1 (.seq (.reg [⟨some 35,none,.idx 1 (.t 31) (.t 33)⟩,⟨some 36,none,.ld none .nil (.t 35)⟩,⟨some 8,none,.mov (.t 36)⟩]) (.seq (.reg [⟨some 37,none,.mov (.t 8)⟩,⟨some 38,none,.len (.t 37)⟩,⟨some 39,none,.mov (.c (.int .i64 0))⟩]) (.block 2 (.loop sc_i_isSmallMatrix_L2))))) (.reg [⟨some 53,none,.bin false .add (.t 33) (.c (.int .i64 1))⟩,⟨some 33,none,.mov (.t 53)⟩]))))
def sc_i_isSmallMatrix:SC:=(.seq (.reg [⟨some 6,none,.mov (.c (.bool false))⟩]) (.seq (.seq (.reg [⟨some 11,none,.mov (.t 0)⟩,⟨some 12,none,.len (.t 11)⟩,⟨some 13,none,.mov (.t 1)⟩,⟨some 14,none,.bin false .gtr (.t 12) (.t 13)⟩,⟨some 15,none,.mov (.t 14)⟩,⟨some 16,some (15,false),.mov (.t 0)⟩,⟨some 17,some (15,false),.call 91 [.t 16]⟩,⟨some 18,some (15,false),.un .not (.t 17)⟩,⟨some 19,none,.pick (.t 15) (.c (.bool true)) (.t 18)⟩]) (.cond (.t 19) (.seq (.reg [⟨some 6,none,.mov (.c (.bool false))⟩]) .ret) .skip)) (.seq (.seq (.reg [⟨some 20,none,.mov (.t 0)⟩,⟨some 21,none,.len (.t 20)⟩,⟨some 22,none,.bin false .gtr (.t 21) (.c (.int .i64 0))⟩,⟨some 23,none,.mov (.t 22)⟩,⟨some 24,some (23,true),.mov (.t 0)⟩,⟨some 25,some (23,true),.idx 1 (.t 24) (.c (.int .i64 0))⟩,⟨some 26,some (23,true),.ld none .nil (.t 25)⟩,⟨some 27,some (23,true),.len (.t 26)⟩,⟨some 28,some (23,true),.mov (.t 1)⟩,⟨some 29,some (23,true),.bin false .gtr (.t 27) (.t 28)⟩,⟨some 30,none,.pick (.t 23) (.t 29) (.c (.bool false))⟩]) (.cond (.t 30) (.seq (.reg [⟨some 6,none,.mov (.c (.bool false))⟩]) .ret) .skip)) (.seq (.seq (.reg [⟨some 31,none,.mov (.t 0)⟩,⟨some 32,none,.len (.t 31)⟩,⟨some 33,none,.mov (.c (.int .i64 0))⟩]) (.block 0 (.loop sc_i_isSmallMatrix_L0))) (.seq (.reg [⟨some 6,none,.mov (.c (.bool true))⟩]) .ret)))))
theorem code_i_isSmallMatrix:fnCode Tryz.prog [] 59=some (54,sc_i_isSmallMatrix,[(6,none)]):=by kernel_rfl
def smlM (m l:Int) (M:List (List Int)):Prop:=(M.length:Int)≤m∧rect (wdM M) M∧(0<M.length→(wdM M:Int)≤m)∧∀ i j,i<M.length→j<wdM M → -l≤ent M i j∧ent M i j≤l
noncomputable def F_i_isSmallMatrix:List V→Option V:=F3 dLL dI dI fun M m l => @ite _ (0≤l∧l≤1000∧m≤1000) (Classical.propDecidable _) (some (.bool (dec (smlM m l M)))) none
theorem fn_i_isSmallMatrix:FnOk Tryz.prog 59 F_i_isSmallMatrix:=by
 have env:=(envNil_ok (P:=Tryz.prog)).add fn_i_sameLengths
 refine fn_ok code_i_isSmallMatrix mixed env ?_
 intro args r h hb
 obtain ⟨_,_,_,M,m,l,rfl,h1,h2,h3,h4⟩:=F3_inv h
 cases dLL_inv h1
 cases dI_inv h2
 cases dI_inv h3
 simp only [Option.ite_none_right_eq_some,Option.some.injEq] at h4
 obtain ⟨⟨hl0,hl1,hm1⟩,rfl⟩:=h4
 clear h h1 h2 h3
 refine ⟨by simp,fun w0 U0 L0 N0 => ?_⟩
 clear hb
 generalize hv:dec (smlM m l M)=v
 by_cases hml:m<(M.length:Int)
 ·have hv1:v=false:=hv ▸ dec_false fun h=>by have:=h.1; omega
  simp -implicitDefEqProofs [sc_i_isSmallMatrix,hml,hv1]
 have hS:F_i_sameLengths [.list 1 (rowsL M)]=some (.bool (dec (rect (wdM M) M))):=by simp only [F_i_sameLengths,F1_mk,dLL_list,Option.bind_some]
 by_cases hr:rect (wdM M) M
 rotate_left
 ·rw [dec_false hr] at hS
  have hv1:v=false:=hv ▸ dec_false fun h=>hr h.2.1
  simp -implicitDefEqProofs [sc_i_isSmallMatrix,hml,hS,hv1]
 rw [dec_true hr] at hS
 by_cases h0:M.length=0
 ·have:M=[]:=List.length_eq_zero_iff.1 h0
  subst this
  have hm0:0≤m:=by simpa using hml
  have hml':¬(m<0):=by omega
  have hS':F_i_sameLengths [.list 1 []]=some (.bool true):=hS
  have hv1:v=true:=hv ▸ dec_true ⟨by simpa using hm0,hr,fun h=>absurd h (by simp),fun i j hi=>absurd hi (by simp)⟩
  simp -implicitDefEqProofs [sc_i_isSmallMatrix,hm0,hml',hS',hv1]
  refine loopI env mixed (fun _:Unit=>[(2,.int .i64 l),(31,.list 1 (rowsL [])),(32,.int .i64 0),(33,.int .i64 0)]) (fun _=>([],0)) (fun _=>True) (fun _=>0) () trivial (SubI.slots rfl (by simp)) ?_
  intro _ _
  simp -implicitDefEqProofs [sc_i_isSmallMatrix_L0]
 have hpos:0<M.length:=by omega
 have hd0:(rowsL M)[0]?.getD .nil = .list 1 (ints (atR M 0)):=by
  have:=rowsL_drop0 hpos .nil
  rwa [List.drop_zero] at this
 have hw0:(atR M 0).length=wdM M:=rfl
 by_cases hwm:m<(wdM M:Int)
 ·have hv1:v=false:=hv ▸ dec_false fun h=>by have:=h.2.2.1 hpos; omega
  simp -implicitDefEqProofs [sc_i_isSmallMatrix,hml,hS,hv1,hpos,hd0,hw0,hwm]
  try omega
 have hneg:IntKind.i64.wrap (-l) = -l:=wrapI _ (by omega) (by omega)
 simp -implicitDefEqProofs [sc_i_isSmallMatrix,hml,hS,hpos,hd0,hw0,hwm]
 refine loopI env mixed (fun i:Nat=>[(2,.int .i64 l),(31,.list 1 (rowsL M)),(32,.int .i64 (M.length:Int)),(33,.int .i64 (i:Int))]) (fun _=>([],0)) (fun i=>i≤M.length∧∀ a,a<i→∀ j,j<wdM M → -l≤ent M a j∧ent M a j≤l) (fun i=>M.length-i) 0 (by simp) (SubI.slots rfl (by simp)) ?_
 rintro i ⟨hi,hI⟩
 by_cases hlt:i<M.length
 ·have hri:=hr i hlt
  simp -implicitDefEqProofs [sc_i_isSmallMatrix_L0,hlt,rowsL_dR hlt,hri]
  repeat' (first | omega | apply And.intro)
  refine loopQ env mixed (fun j:Nat=>[(2,.int .i64 l),(31,.list 1 (rowsL M)),(32,.int .i64 (M.length:Int)),(33,.int .i64 (i:Int)),(37,.list 1 (ints (atR M i))),(38,.int .i64 (wdM M:Nat)),(39,.int .i64 (j:Int))]) (fun _=>([],0)) (fun j=>j≤wdM M∧∀ b,b<j → -l≤ent M i b∧ent M i b≤l) (fun j=>wdM M-j) 0 (by simp) (SubI.slots rfl (by simp [hri])) ?_
  rintro j ⟨hj,hJ⟩
  by_cases hlt2:j<wdM M
  ·have he:at0 (atR M i) j=ent M i j:=rfl
   by_cases c1:ent M i j < -l
   ·have hv1:v=false:=hv ▸ dec_false fun h=>by have:=(h.2.2.2 i j hlt hlt2).1; omega
    simp -implicitDefEqProofs [sc_i_isSmallMatrix_L2,hlt2,hri,he,hneg,c1,hv1]
    refine ⟨by omega,?_⟩
    refine SubQ.of (l1:=[(6,.bool false)]) (SubI.slots rfl (by simp)) ?_
    simp -implicitDefEqProofs
   by_cases c2:l<ent M i j
   ·have hv1:v=false:=hv ▸ dec_false fun h=>by have:=(h.2.2.2 i j hlt hlt2).2; omega
    simp -implicitDefEqProofs [sc_i_isSmallMatrix_L2,hlt2,hri,he,hneg,c1,c2,hv1]
    refine ⟨by omega,?_⟩
    refine SubQ.of (l1:=[(6,.bool false)]) (SubI.slots rfl (by simp)) ?_
    simp -implicitDefEqProofs
   simp -implicitDefEqProofs [sc_i_isSmallMatrix_L2,hlt2,hri,he,hneg,c1,c2]
   repeat' (first | omega | apply And.intro)
   refine Again.of (j+1) ⟨by omega,fun b hb => ?_⟩ (by omega) (SubI.slots rfl (by simp (disch:=omega) [wrapI]))
   rcases Nat.lt_succ_iff_lt_or_eq.1 hb with h1 | rfl
   ·exact hJ b h1
   ·exact ⟨by omega,by omega⟩
  ·simp -implicitDefEqProofs [sc_i_isSmallMatrix_L2,hlt2]
   refine SubQ.of (l1:=[(2,.int .i64 l),(31,.list 1 (rowsL M)),(32,.int .i64 (M.length:Int)),(33,.int .i64 (i:Int))]) (SubI.slots rfl (by simp)) ?_
   simp -implicitDefEqProofs
   refine Again.of (i+1) ⟨by omega,fun a ha j hj => ?_⟩ (by omega) (SubI.slots rfl (by simp (disch:=omega) [wrapI]))
   rcases Nat.lt_succ_iff_lt_or_eq.1 ha with h1 | rfl
   ·exact hI a h1 j hj
   ·exact hJ j (by omega)
 ·have hv1:v=true:=hv ▸ dec_true ⟨by omega,hr,fun _=>by omega,fun a j ha hj=>hI a (by omega) j hj⟩
  simp -implicitDefEqProofs [sc_i_isSmallMatrix_L0,hlt,hv1]
def sc_i_fitsSmith_L2:SC:=(.seq (.reg [⟨some 22,none,.bin false .lss (.t 21) (.t 20)⟩]) (.seq (.cond (.t 22) .skip (.exit 2)) (.seq (.block 3 (.seq (.reg [⟨some 23,none,.mov (.t 21)⟩,⟨some 5,none,.mov (.t 23)⟩]) (.seq (.reg [⟨some 24,none,.mov (.t 0)⟩,⟨some 25,none,.mov (.t 5)⟩,⟨some 26,none,.idx 1 (.t 24) (.t 25)⟩,⟨some 27,none,.ld none .nil (.t 26)⟩,⟨some 28,none,.mov (.t 3)⟩,⟨some 29,none,.idx 1 (.t 27) (.t 28)⟩,⟨some 30,none,.ld none (.int .i64 0) (.t 29)⟩,⟨some 31,none,.bin false .neq (.t 30) (.c (.int .i64 0))⟩]) (.cond (.t 31) (.reg [⟨some 32,none,.mov (.t 4)⟩,⟨some 33,none,.bin false .add (.t 32) (.c (.int .i64 1))⟩,⟨some 4,none,.mov (.t 33)⟩]) .skip)))) (.reg [⟨some 34,none,.bin false .add (.t 21) (.c (.int .i64 1))⟩,⟨some 21,none,.mov (.t 34)⟩]))))
def sc_i_fitsSmith_L0:SC:=(.seq (.reg [⟨some 17,none,.bin false .lss (.t 16) (.t 15)⟩]) (.seq (.cond (.t 17) .skip (.exit 0)) (.seq (.block 1 (.seq (.reg [⟨some 18,none,.mov (.t 16)⟩,⟨some 3,none,.mov (.t 18)⟩]) (.seq (.reg [⟨some 4,none,.mov (.c (.int .i64 0))⟩]) (.seq (.seq (.reg [⟨some 19,none,.mov (.t 0)⟩,⟨some 20,none,.len (.t 19)⟩,⟨some 21,none,.mov (.c (.int .i64 0))⟩]) (.block 2 (.loop sc_i_fitsSmith_L2))) (.seq (.reg [⟨some 35,none,.mov (.t 4)⟩,⟨some 36,none,.bin false .gtr (.t 35) (.c (.int .i64 6))⟩]) (.cond (.t 36) (.seq (.reg [⟨some 2,none,.mov (.c (.bool false))⟩]) .ret) .skip)))))) (.reg [⟨some 37,none,.bin false .add (.t 16) (.c (.int .i64 1))⟩,⟨some 16,none,.mov (.t 37)⟩]))))
def sc_i_fitsSmith:SC:=(.seq (.reg [⟨some 2,none,.mov (.c (.bool false))⟩]) (.seq (.seq (.reg [⟨some 6,none,.mov (.t 0)⟩,⟨some 7,none,.call 59 [.t 6,(.c (.int .i64 20)),(.c (.int .i64 1))]⟩,⟨some 8,none,.un .not (.t 7)⟩]) (.cond (.t 8) (.seq (.reg [⟨some 2,none,.mov (.c (.bool false))⟩]) .ret) .skip)) (.seq (.seq (.reg [⟨some 9,none,.mov (.t 0)⟩,⟨some 10,none,.len (.t 9)⟩,⟨some 11,none,.bin false .eql (.t 10) (.c (.int .i64 0))⟩]) (.cond (.t 11) (.seq (.reg [⟨some 2,none,.mov (.c (.bool true))⟩]) .ret) .skip)) (.seq (.seq (.reg [⟨some 12,none,.mov (.t 0)⟩,⟨some 13,none,.idx 1 (.t 12) (.c (.int .i64 0))⟩,⟨some 14,none,.ld none .nil (.t 13)⟩,⟨some 15,none,.len (.t 14)⟩,⟨some 16,none,.mov (.c (.int .i64 0))⟩]) (.block 0 (.loop sc_i_fitsSmith_L0))) (.seq (.reg [⟨some 2,none,.mov (.c (.bool true))⟩]) .ret)))))
theorem code_i_fitsSmith:fnCode Tryz.prog [] 29=some (38,sc_i_fitsSmith,[(2,none)]):=by kernel_rfl
noncomputable def colN (f:Nat→Nat→Int) (j:Nat):Nat→Nat
 | 0=>0
 | n+1=>colN f j n + @ite _ (f n j=0) (Classical.propDecidable _) 0 1
theorem colN_le (f:Nat→Nat→Int) (j:Nat):∀ n,colN f j n≤n
 | 0=>Nat.le_refl _
 | n+1=>by have:=colN_le f j n; unfold colN; split <;> omega
def smiM (M:List (List Int)):Prop:=smlM 20 1 M∧∀ j,j<wdM M→colN (ent M) j M.length≤6
noncomputable def F_i_fitsSmith:List V→Option V:=F1 dLL fun M=>some (.bool (dec (M=[]∨smiM M)))
theorem fn_i_fitsSmith:FnOk Tryz.prog 29 F_i_fitsSmith:=by
 have env:=(envNil_ok (P:=Tryz.prog)).add fn_i_isSmallMatrix
 refine fn_ok code_i_fitsSmith mixed env ?_
 intro args r h hb
 obtain ⟨_,M,rfl,h1,h4⟩:=F1_inv h
 cases dLL_inv h1
 cases h4
 clear h h1
 refine ⟨by simp,fun w0 U0 L0 N0 => ?_⟩
 clear hb
 generalize hv:dec (M=[]∨smiM M)=v
 have hS:F_i_isSmallMatrix [.list 1 (rowsL M),.int .i64 20,.int .i64 1]=some (.bool (dec (smlM 20 1 M))):=by
  simp only [F_i_isSmallMatrix,F3_mk,dLL_list,dI_int,Option.bind_some]
  rw [if_pos ⟨by omega,by omega,by omega⟩]
 by_cases h0:M=[]
 ·have hs:smlM 20 1 []:=⟨by simp,fun i hi=>by simp at hi,fun h=>by simp at h,fun i j hi=>by simp at hi⟩
  rw [h0,dec_true hs] at hS
  subst h0
  have hS':F_i_isSmallMatrix [.list 1 [],.int .i64 20,.int .i64 1]=some (.bool true):=hS
  have hv1:v=true:=hv ▸ dec_true (.inl rfl)
  simp -implicitDefEqProofs [sc_i_fitsSmith,hS',hv1]
 have hpos:=List.length_pos_iff.2 h0
 by_cases hr:smlM 20 1 M
 rotate_left
 ·rw [dec_false hr] at hS
  have hv1:v=false:=hv ▸ dec_false fun h=>h.elim h0 fun h=>hr h.1
  simp -implicitDefEqProofs [sc_i_fitsSmith,hS,hv1]
 rw [dec_true hr] at hS
 have hd0:(rowsL M)[0]?.getD .nil = .list 1 (ints (atR M 0)):=by
  have:=rowsL_drop0 hpos .nil
  rwa [List.drop_zero] at this
 have hw0:(atR M 0).length=wdM M:=rfl
 have hne:¬((M.length:Int)=0):=by omega
 have hn20:=hr.1
 have hw20:=hr.2.2.1 hpos
 simp -implicitDefEqProofs [sc_i_fitsSmith,hS,hne,h0,hpos,hd0,hw0]
 refine loopI env mixed (fun j:Nat=>[(0,.list 1 (rowsL M)),(15,.int .i64 (wdM M:Nat)),(16,.int .i64 (j:Int))]) (fun _=>([],0)) (fun j=>j≤wdM M∧∀ b,b<j→colN (ent M) b M.length≤6) (fun j=>wdM M-j) 0 (by simp) (SubI.slots rfl (by simp)) ?_
 rintro j ⟨hj,hJ⟩
 by_cases hlt:j<wdM M
 ·simp -implicitDefEqProofs [sc_i_fitsSmith_L0,hlt]
  refine loopQ env mixed (fun i:Nat=>[(0,.list 1 (rowsL M)),(3,.int .i64 (j:Int)),(4,.int .i64 (colN (ent M) j i:Nat)),(15,.int .i64 (wdM M:Nat)),(16,.int .i64 (j:Int)),(20,.int .i64 (M.length:Int)),(21,.int .i64 (i:Int))]) (fun _=>([],0)) (fun i=>i≤M.length) (fun i=>M.length-i) 0 (by simp) (SubI.slots rfl (by simp [colN])) ?_
  intro i hi
  have hcb:=colN_le (ent M) j i
  by_cases hlt2:i<M.length
  ·have hri:=hr.2.1 i hlt2
   by_cases hz:at0 (atR M i) j=0
   ·have hc:colN (ent M) j (i+1)=colN (ent M) j i:=by
     rw [colN,if_pos (show ent M i j=0 from hz)]; omega
    simp -implicitDefEqProofs [sc_i_fitsSmith_L2,hlt2,hlt,hri,rowsL_dR hlt2,hz]
    repeat' (first | omega | apply And.intro)
    exact Again.of (i+1) (by omega) (by omega) (SubI.slots rfl (by simp (disch:=omega) [wrapI,hc]))
   ·have hc:colN (ent M) j (i+1)=colN (ent M) j i+1:=by
     rw [colN,if_neg (show ¬ent M i j=0 from hz)]
    simp -implicitDefEqProofs [sc_i_fitsSmith_L2,hlt2,hlt,hri,rowsL_dR hlt2,hz]
    repeat' (first | omega | apply And.intro)
    exact Again.of (i+1) (by omega) (by omega) (SubI.slots rfl (by simp (disch:=omega) [wrapI,hc]))
  ·have:i=M.length:=by omega
   subst this
   by_cases hc6:colN (ent M) j M.length≤6
   ·have hc':¬(6<((colN (ent M) j M.length:Nat):Int)):=by omega
    simp -implicitDefEqProofs [sc_i_fitsSmith_L2,hlt2]
    refine SubQ.of (l1:=[(0,.list 1 (rowsL M)),(3,.int .i64 (j:Int)),(4,.int .i64 (colN (ent M) j M.length:Nat)),(15,.int .i64 (wdM M:Nat)),(16,.int .i64 (j:Int))]) (SubI.slots rfl (by simp)) ?_
    simp -implicitDefEqProofs [hc']
    refine Again.of (j+1) ⟨by omega,fun b hb => ?_⟩ (by omega) (SubI.slots rfl (by simp (disch:=omega) [wrapI]))
    rcases Nat.lt_succ_iff_lt_or_eq.1 hb with h1 | rfl
    ·exact hJ b h1
    ·exact hc6
   ·have hc':6<((colN (ent M) j M.length:Nat):Int):=by omega
    have hv1:v=false:=hv ▸ dec_false fun h=>h.elim h0 fun h=>hc6 (h.2 j hlt)
    simp -implicitDefEqProofs [sc_i_fitsSmith_L2,hlt2]
    refine SubQ.of (l1:=[(0,.list 1 (rowsL M)),(3,.int .i64 (j:Int)),(4,.int .i64 (colN (ent M) j M.length:Nat)),(15,.int .i64 (wdM M:Nat)),(16,.int .i64 (j:Int))]) (SubI.slots rfl (by simp)) ?_
    simp -implicitDefEqProofs [hc',hv1]
 ·have hv1:v=true:=hv ▸ dec_true (.inr ⟨hr,fun b hb=>hJ b (by omega)⟩)
  simp -implicitDefEqProofs [sc_i_fitsSmith_L0,hlt,hv1]
def sc_s_l15Thin_L2:SC:=(.seq (.seq (.reg [⟨some 14,none,.mov (.t 5)⟩,⟨some 15,none,.mov (.t 0)⟩,⟨some 16,none,.len (.t 15)⟩,⟨some 17,none,.bin false .lss (.t 14) (.t 16)⟩]) (.cond (.t 17) .skip (.exit 2))) (.seq (.block 3 (.reg [⟨some 20,none,.mov (.t 4)⟩,⟨some 21,none,.mov (.t 0)⟩,⟨some 22,none,.mov (.t 5)⟩,⟨some 23,none,.idx 1 (.t 21) (.t 22)⟩,⟨some 24,none,.ld none .nil (.t 23)⟩,⟨some 25,none,.mov (.t 3)⟩,⟨some 26,none,.idx 1 (.t 24) (.t 25)⟩,⟨some 27,none,.ld none (.int .i64 0) (.t 26)⟩,⟨some 28,none,.call 75 [.t 27]⟩,⟨some 29,none,.bin false .add (.t 20) (.t 28)⟩,⟨some 4,none,.mov (.t 29)⟩])) (.reg [⟨some 18,none,.mov (.t 5)⟩,⟨some 19,none,.bin false .add (.t 18) (.c (.int .i64 1))⟩,⟨some 5,none,.mov (.t 19)⟩])))
def sc_s_l15Thin_L0:SC:=(.seq (.seq (.reg [⟨some 6,none,.mov (.t 3)⟩,⟨some 7,none,.mov (.t 0)⟩,⟨some 8,none,.idx 1 (.t 7) (.c (.int .i64 0))⟩,⟨some 9,none,.ld none .nil (.t 8)⟩,⟨some 10,none,.len (.t 9)⟩,⟨some 11,none,.bin false .lss (.t 6) (.t 10)⟩]) (.cond (.t 11) .skip (.exit 0))) (.seq (.block 1 (.seq (.reg [⟨some 4,none,.mov (.c (.int .i64 0))⟩]) (.seq (.seq (.reg [⟨some 5,none,.mov (.c (.int .i64 0))⟩]) (.block 2 (.loop sc_s_l15Thin_L2))) (.seq (.reg [⟨some 30,none,.mov (.t 4)⟩,⟨some 31,none,.bin false .gtr (.t 30) (.c (.int .i64 6))⟩]) (.cond (.t 31) (.seq (.reg [⟨some 2,none,.mov (.c (.bool false))⟩]) .ret) .skip))))) (.reg [⟨some 12,none,.mov (.t 3)⟩,⟨some 13,none,.bin false .add (.t 12) (.c (.int .i64 1))⟩,⟨some 3,none,.mov (.t 13)⟩])))
def sc_s_l15Thin:SC:=(.seq (.reg [⟨some 2,none,.mov (.c (.bool false))⟩]) (.seq (.seq (.reg [⟨some 3,none,.mov (.c (.int .i64 0))⟩]) (.block 0 (.loop sc_s_l15Thin_L0))) (.seq (.reg [⟨some 2,none,.mov (.c (.bool true))⟩]) .ret)))
theorem code_s_l15Thin:fnCode Tryz.prog [] 40=some (32,sc_s_l15Thin,[(2,none)]):=by kernel_rfl
noncomputable def F_s_l15Thin:List V→Option V:=F1 dLL fun M => @ite _ (0<M.length∧smlM 20 1 M) (Classical.propDecidable _) (some (.bool (dec (smiM M)))) none
theorem fn_s_l15Thin:FnOk Tryz.prog 40 F_s_l15Thin:=by
 have env:=(envNil_ok (P:=Tryz.prog)).add fn_s_l15Abs
 refine fn_ok code_s_l15Thin mixed env ?_
 intro args r h hb
 obtain ⟨_,M,rfl,h1,h4⟩:=F1_inv h
 cases dLL_inv h1
 simp only [Option.ite_none_right_eq_some,Option.some.injEq] at h4
 obtain ⟨⟨hpos,hr⟩,rfl⟩:=h4
 clear h h1
 refine ⟨by simp,fun w0 U0 L0 N0 => ?_⟩
 clear hb
 generalize hv:dec (smiM M)=v
 have hd0:(rowsL M)[0]?.getD .nil = .list 1 (ints (atR M 0)):=by
  have:=rowsL_drop0 hpos .nil
  rwa [List.drop_zero] at this
 have hw0:(atR M 0).length=wdM M:=rfl
 have hn20:=hr.1
 have hw20:=hr.2.2.1 hpos
 simp -implicitDefEqProofs [sc_s_l15Thin]
 refine loopI env mixed (fun j:Nat=>[(0,.list 1 (rowsL M)),(3,.int .i64 (j:Int))]) (fun _=>([],0)) (fun j=>j≤wdM M∧∀ b,b<j→colN (ent M) b M.length≤6) (fun j=>wdM M-j) 0 (by simp) (SubI.slots rfl (by simp)) ?_
 rintro j ⟨hj,hJ⟩
 by_cases hlt:j<wdM M
 ·simp -implicitDefEqProofs [sc_s_l15Thin_L0,hlt,hpos,hd0,hw0]
  refine loopQ env mixed (fun i:Nat=>[(0,.list 1 (rowsL M)),(3,.int .i64 (j:Int)),(4,.int .i64 (colN (ent M) j i:Nat)),(5,.int .i64 (i:Int))]) (fun _=>([],0)) (fun i=>i≤M.length) (fun i=>M.length-i) 0 (by simp) (SubI.slots rfl (by simp [colN])) ?_
  intro i hi
  have hcb:=colN_le (ent M) j i
  by_cases hlt2:i<M.length
  ·have hri:=hr.2.1 i hlt2
   obtain ⟨b1,b2⟩:=hr.2.2.2 i j hlt2 hlt
   have hc:((colN (ent M) j (i+1):Nat):Int)=(colN (ent M) j i:Nat)+((at0 (atR M i) j).natAbs:Nat):=by
    unfold ent at b1 b2
    rw [colN]
    by_cases hz:at0 (atR M i) j=0
    ·rw [if_pos (show ent M i j=0 from hz)]; omega
    ·rw [if_neg (show ¬ent M i j=0 from hz)]; omega
   have hA:F_s_l15Abs [.int .i64 (at0 (atR M i) j)]=some (.int .i64 (((at0 (atR M i) j).natAbs:Nat):Int)):=by
    unfold ent at b1 b2
    simp only [F_s_l15Abs,F1_mk,dI_int,Option.bind_some]
    rw [if_pos ⟨by omega,by omega⟩]
   have hab:(((at0 (atR M i) j).natAbs:Nat):Int)≤1:=by unfold ent at b1 b2; omega
   have hab0:0≤(((at0 (atR M i) j).natAbs:Nat):Int):=by omega
   generalize (((at0 (atR M i) j).natAbs:Nat):Int)=z at *
   simp -implicitDefEqProofs [sc_s_l15Thin_L2,hlt2,hlt,hri,rowsL_dR hlt2,hA]
   repeat' (first | omega | apply And.intro)
   exact Again.of (i+1) (by omega) (by omega) (SubI.slots rfl (by simp (disch:=omega) [wrapI,hc]))
  ·have:i=M.length:=by omega
   subst this
   by_cases hc6:colN (ent M) j M.length≤6
   ·have hc':¬(6<((colN (ent M) j M.length:Nat):Int)):=by omega
    simp -implicitDefEqProofs [sc_s_l15Thin_L2,hlt2]
    refine SubQ.of (l1:=[(0,.list 1 (rowsL M)),(3,.int .i64 (j:Int)),(4,.int .i64 (colN (ent M) j M.length:Nat))]) (SubI.slots rfl (by simp)) ?_
    simp -implicitDefEqProofs [hc']
    refine Again.of (j+1) ⟨by omega,fun b hb => ?_⟩ (by omega) (SubI.slots rfl (by simp (disch:=omega) [wrapI]))
    rcases Nat.lt_succ_iff_lt_or_eq.1 hb with h1 | rfl
    ·exact hJ b h1
    ·exact hc6
   ·have hc':6<((colN (ent M) j M.length:Nat):Int):=by omega
    have hv1:v=false:=hv ▸ dec_false fun h=>hc6 (h.2 j hlt)
    simp -implicitDefEqProofs [sc_s_l15Thin_L2,hlt2]
    refine SubQ.of (l1:=[(0,.list 1 (rowsL M)),(3,.int .i64 (j:Int)),(4,.int .i64 (colN (ent M) j M.length:Nat))]) (SubI.slots rfl (by simp)) ?_
    simp -implicitDefEqProofs [hc',hv1]
 ·have hv1:v=true:=hv ▸ dec_true ⟨hr,fun b hb=>hJ b (by omega)⟩
  simp -implicitDefEqProofs [sc_s_l15Thin_L0,hlt,hv1,hpos,hd0,hw0]
end Go.Proofs.YtkoljbncokmeaaaGreatDoor
