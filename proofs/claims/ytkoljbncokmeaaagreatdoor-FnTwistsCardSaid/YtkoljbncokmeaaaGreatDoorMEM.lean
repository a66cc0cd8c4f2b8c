import Derived.Test.YtkoljbncokmeaaaGreatDoorMEL
import Derived.Test.YtkoljbncokmeaaaGreatDoorMEK
import Derived.Test.YtkoljbncokmeaaaGreatDoorMED
namespace Go.Proofs.YtkoljbncokmeaaaGreatDoor
open Go Go.RowKit
set_option maxRecDepth 1000000
set_option linter.unusedSimpArgs false
set_option linter.unusedVariables false
set_option maxHeartbeats 1000000
def sc_i_SmithOf:SC:=(.seq (.reg [⟨some 2,none,.mov (.c .nil)⟩]) (.seq (.seq (.reg [⟨some 5,none,.mov (.t 0)⟩,⟨some 6,none,.call 29 [.t 5]⟩,⟨some 7,none,.un .not (.t 6)⟩]) (.cond (.t 7) (.seq (.reg [⟨some 2,none,.mov (.c .nil)⟩]) .ret) .skip)) (.seq (.reg [⟨some 9,none,.mov (.t 0)⟩,⟨some 10,none,.call 30 [.t 9]⟩,⟨some 8,none,.mov (.t 10)⟩,⟨some 11,none,.ext 0 (.t 8)⟩,⟨some 12,none,.ext 1 (.t 8)⟩,⟨some 3,none,.mov (.t 11)⟩,⟨some 4,none,.mov (.t 12)⟩]) (.seq (.seq (.reg [⟨some 13,none,.mov (.t 3)⟩,⟨some 14,none,.bin false .eql (.t 13) (.c (.int .i64 0))⟩]) (.cond (.t 14) (.seq (.reg [⟨some 2,none,.mov (.c .nil)⟩]) .ret) .skip)) (.seq (.reg [⟨some 15,none,.mov (.t 0)⟩,⟨some 16,none,.mov (.t 3)⟩,⟨some 17,none,.mov (.t 4)⟩,⟨some 18,none,.call 31 [.t 15,.t 16,.t 17]⟩,⟨some 2,none,.mov (.t 18)⟩]) .ret)))))
theorem code_i_SmithOf:fnCode Tryz.prog [] 6=some (19,sc_i_SmithOf,[(2,none)]):=by kernel_rfl
open Classical in
noncomputable def smiW (M:List (List Int)) (x:Int×Int):Option (List Int) :=
 if x.1=0 then some [] else if 1≤x.1∧x.1≤(min M.length (wdM M):Nat)∧x.2≠0∧x.2.natAbs≤1073741824 then (dmV (x.2.natAbs:Nat) M.length (wdM M) fun a b=>ent M a b % (x.2.natAbs:Nat)).map fun F=>(bub (dg0 (x.2.natAbs:Nat) (min M.length (wdM M)) F)).take x.1.toNat else none
open Classical in
noncomputable def smiV (M:List (List Int)):Option (List Int):=if M=[]∨smiM M then (bareR M.length (wdM M) (M.length+1) (ent M) 0 1).bind (smiW M) else some []
theorem smiM_dim {M:List (List Int)} (h:smiM M):dimM M∧bdE 1073741824 M.length (wdM M) (ent M):=by
 obtain ⟨⟨h1,h2,h3,h4⟩,_⟩:=h
 refine ⟨⟨h2,by omega,?_⟩,fun i j hi hj=>by have:=h4 i j hi hj; omega⟩
 by_cases h0:0<M.length
 ·have:=h3 h0; omega
 ·have:M=[]:=List.length_eq_zero_iff.1 (by omega)
  rw [this]
  show ([]:List Int).length≤64
  simp
theorem nil_dim:dimM ([]:List (List Int))∧bdE 1073741824 ([]:List (List Int)).length (wdM []) (ent []):=⟨⟨fun i hi=>by simp at hi,by simp,by show ([]:List Int).length≤64; simp⟩,fun i j hi=>by simp at hi⟩
noncomputable def F_i_SmithOf:List V→Option V:=F1 dLL fun M=>(smiV M).map fun R => .own 1 (ints R)
theorem fn_i_SmithOf:FnOk Tryz.prog 6 F_i_SmithOf:=by
 have env:=(((envNil_ok (P:=Tryz.prog)).add fn_i_fitsSmith).add fn_i_rankAndMinor).add fn_i_divisorsMod
 refine fn_ok code_i_SmithOf mixed env ?_
 intro args r0 h hb
 obtain ⟨_,M,rfl,h1,h4⟩:=F1_inv h
 cases dLL_inv h1
 simp only [Option.map_eq_some_iff] at h4
 obtain ⟨R,hR,rfl⟩:=h4
 clear h h1 hb
 refine ⟨by simp,fun w0 U0 L0 N0 => ?_⟩
 have hF1:F_i_fitsSmith [.list 1 (rowsL M)]=some (.bool (dec (M=[]∨smiM M))):=by simp only [F_i_fitsSmith,F1_mk,dLL_list,Option.bind_some]
 unfold smiV at hR
 by_cases hc:M=[]∨smiM M
 rotate_left
 ·rw [if_neg hc] at hR
  simp only [Option.some.injEq] at hR
  subst hR
  rw [dec_false hc] at hF1
  simp -implicitDefEqProofs [sc_i_SmithOf,hF1]
 rw [if_pos hc] at hR
 rw [dec_true hc] at hF1
 have hd:dimM M∧bdE 1073741824 M.length (wdM M) (ent M):=by
  rcases hc with h | h
  ·rw [h]; exact nil_dim
  ·exact smiM_dim h
 obtain ⟨⟨rk,l⟩,hB,hW⟩:=Option.bind_eq_some_iff.1 hR
 have hF2:F_i_rankAndMinor [.list 1 (rowsL M)]=some (.tup [.int .i64 rk,.int .i64 (l.natAbs:Nat)]):=by
  simp only [F_i_rankAndMinor,F1_mk,dLL_list,Option.bind_some]
  rw [if_pos hd,hB]
  rfl
 unfold smiW at hW
 simp only at hW
 by_cases h0:rk=0
 ·rw [if_pos h0] at hW
  simp only [Option.some.injEq] at hW
  subst hW
  subst h0
  generalize ((l.natAbs:Nat):Int)=t at *
  simp -implicitDefEqProofs [sc_i_SmithOf,hF1,hF2]
 rw [if_neg h0] at hW
 split at hW
 rotate_left
 ·cases hW
 rename_i hcc
 obtain ⟨c1,c2,c3,c4⟩:=hcc
 obtain ⟨F,hF,hFR⟩:=Option.map_eq_some_iff.1 hW
 have hpos:0<M.length:=by
  refine Nat.pos_of_ne_zero fun h => ?_
  rw [h] at c2
  omega
 have hF3:F_i_divisorsMod [.list 1 (rowsL M),.int .i64 rk,.int .i64 (l.natAbs:Nat)]=some (.own 1 (ints R)):=by
  simp only [F_i_divisorsMod,F3_mk,dLL_list,dI_int,Option.bind_some]
  rw [if_pos ⟨hd.1,hpos,hd.2,by omega,by omega,by omega,c2⟩,hF]
  show some (V.own 1 (ints _))=_
  rw [hFR]
 generalize ((l.natAbs:Nat):Int)=t at *
 simp -implicitDefEqProofs [sc_i_SmithOf,hF1,hF2,h0,hF3]
def sc_s_SmithOf_L2:SC:=(.seq (.seq (.reg [⟨some 30,none,.mov (.t 4)⟩,⟨some 31,none,.mov (.t 0)⟩,⟨some 32,none,.mov (.t 3)⟩,⟨some 33,none,.idx 1 (.t 31) (.t 32)⟩,⟨some 34,none,.ld none .nil (.t 33)⟩,⟨some 35,none,.len (.t 34)⟩,⟨some 36,none,.bin false .lss (.t 30) (.t 35)⟩]) (.cond (.t 36) .skip (.exit 2))) (.seq (.block 3 (.seq (.reg [⟨some 39,none,.mov (.t 0)⟩,⟨some 40,none,.mov (.t 3)⟩,⟨some 41,none,.idx 1 (.t 39) (.t 40)⟩,⟨some 42,none,.ld none .nil (.t 41)⟩,⟨some 43,none,.mov (.t 4)⟩,⟨some 44,none,.idx 1 (.t 42) (.t 43)⟩,⟨some 45,none,.ld none (.int .i64 0) (.t 44)⟩,⟨some 46,none,.call 39 [.t 45,(.c (.int .i64 (-1))),(.c (.int .i64 1))]⟩,⟨some 47,none,.un .not (.t 46)⟩]) (.cond (.t 47) (.seq (.reg [⟨some 48,none,.mks 0 1 [] []⟩,⟨some 2,none,.mov (.t 48)⟩]) .ret) .skip))) (.reg [⟨some 37,none,.mov (.t 4)⟩,⟨some 38,none,.bin false .add (.t 37) (.c (.int .i64 1))⟩,⟨some 4,none,.mov (.t 38)⟩])))
def sc_s_SmithOf_L0:SC:=(.seq (.seq (.reg [⟨some 5,none,.mov (.t 3)⟩,⟨some 6,none,.mov (.t 0)⟩,⟨some 7,none,.len (.t 6)⟩,⟨some 8,none,.bin false .lss (.t 5) (.t 7)⟩]) (.cond (.t 8) .skip (.exit 0))) (.seq (.block 1 (.seq (.seq (.dreg [⟨⟨some 11,none,.mov (.t 0)⟩,false,false⟩,⟨⟨some 12,none,.mov (.t 3)⟩,false,false⟩,⟨⟨some 13,none,.idx 1 (.t 11) (.t 12)⟩,false,false⟩,⟨⟨some 14,none,.ld none .nil (.t 13)⟩,false,false⟩,⟨⟨some 15,none,.len (.t 14)⟩,false,false⟩,⟨⟨some 16,none,.mov (.t 0)⟩,false,false⟩,⟨⟨some 17,none,.idx 1 (.t 16) (.c (.int .i64 0))⟩,false,false⟩,⟨⟨some 18,none,.ld none .nil (.t 17)⟩,false,false⟩,⟨⟨some 19,none,.len (.t 18)⟩,false,false⟩,⟨⟨some 20,none,.bin false .neq (.t 15) (.t 19)⟩,false,false⟩,⟨⟨some 21,none,.mov (.t 20)⟩,false,false⟩,⟨⟨some 22,some (21,false),.mov (.t 0)⟩,false,false⟩,⟨⟨some 23,some (21,false),.mov (.t 3)⟩,false,false⟩,⟨⟨some 24,some (21,false),.idx 1 (.t 22) (.t 23)⟩,false,false⟩,⟨⟨some 25,some (21,false),.ld none .nil (.t 24)⟩,false,false⟩,⟨⟨some 26,some (21,false),.len (.t 25)⟩,false,false⟩,⟨⟨some 27,some (21,false),.bin false .gtr (.t 26) (.c (.int .i64 20))⟩,false,false⟩,⟨⟨some 28,none,.pick (.t 21) (.c (.bool true)) (.t 27)⟩,false,false⟩]) (.cond (.t 28) (.seq (.reg [⟨some 29,none,.mks 0 1 [] []⟩,⟨some 2,none,.mov (.t 29)⟩]) .ret) .skip)) (.seq (.reg [⟨some 4,none,.mov (.c (.int .i64 0))⟩]) (.block 2 (.loop sc_s_SmithOf_L2))))) (.reg [⟨some 9,none,.mov (.t 3)⟩,⟨some 10,none,.bin false .add (.t 9) (.c (.int .i64 1))⟩,⟨some 3,none,.mov (.t 10)⟩])))
def sc_s_SmithOf:SC:=(.seq (.reg [⟨some 2,none,.mov (.c .nil)⟩]) (.seq (.seq (.reg [⟨some 3,none,.mov (.c (.int .i64 0))⟩]) (.block 0 (.loop sc_s_SmithOf_L0))) (.seq (.seq (.reg [⟨some 49,none,.mov (.t 0)⟩,⟨some 50,none,.len (.t 49)⟩,⟨some 51,none,.bin false .gtr (.t 50) (.c (.int .i64 20))⟩,⟨some 52,none,.mov (.t 51)⟩,⟨some 53,some (52,false),.mov (.t 0)⟩,⟨some 54,some (52,false),.len (.t 53)⟩,⟨some 55,some (52,false),.bin false .eql (.t 54) (.c (.int .i64 0))⟩,⟨some 56,none,.pick (.t 52) (.c (.bool true)) (.t 55)⟩,⟨some 57,none,.mov (.t 56)⟩,⟨some 58,some (57,false),.mov (.t 0)⟩,⟨some 59,some (57,false),.call 40 [.t 58]⟩,⟨some 60,some (57,false),.un .not (.t 59)⟩,⟨some 61,none,.pick (.t 57) (.c (.bool true)) (.t 60)⟩]) (.cond (.t 61) (.seq (.reg [⟨some 62,none,.mks 0 1 [] []⟩,⟨some 2,none,.mov (.t 62)⟩]) .ret) .skip)) (.seq (.reg [⟨some 63,none,.mov (.t 0)⟩,⟨some 64,none,.call 41 [.t 63]⟩,⟨some 2,none,.mov (.t 64)⟩]) .ret))))
theorem code_s_SmithOf:fnCode Tryz.prog [] 12=some (65,sc_s_SmithOf,[(2,none)]):=by kernel_rfl
open Classical in
noncomputable def smsV (M:List (List Int)):Option (List Int):=if M≠[]∧smiM M then smV M.length (wdM M) (ent M) else some []
noncomputable def F_s_SmithOf:List V→Option V:=F1 dLL fun M=>(smsV M).map fun R => .own 1 (ints R)
theorem fn_s_SmithOf:FnOk Tryz.prog 12 F_s_SmithOf:=by
 have env:=(((envNil_ok (P:=Tryz.prog)).add fn_s_l1In).add fn_s_l15Thin).add fn_s_l15Smith
 refine fn_ok code_s_SmithOf mixed env ?_
 intro args r0 h hb
 obtain ⟨_,M,rfl,h1,h4⟩:=F1_inv h
 cases dLL_inv h1
 simp only [Option.map_eq_some_iff] at h4
 obtain ⟨R,hR,rfl⟩:=h4
 clear h h1
 have hla:M.length≤9223372036854775807:=by simpa using (hb (.list 1 (rowsL M)) (by simp)).1
 clear hb
 refine ⟨by simp,fun w0 U0 L0 N0 => ?_⟩
 have hno:¬smlM 20 1 M→R=[]:=fun h=>by
  unfold smsV at hR
  rw [if_neg fun hh=>h hh.2.1] at hR
  simpa using hR.symm
 simp -implicitDefEqProofs [sc_s_SmithOf]
 refine loopI env mixed (fun i:Nat=>[(0,.list 1 (rowsL M)),(3,.int .i64 (i:Int))]) (fun _=>([],0)) (fun i=>i≤M.length∧∀ a,a<i→(atR M a).length=wdM M∧wdM M≤20∧∀ j,j<wdM M → -1≤ent M a j∧ent M a j≤1) (fun i=>M.length-i) 0 (by simp) (SubI.slots rfl (by simp)) ?_
 rintro i ⟨hi,hI⟩
 by_cases hlt:i<M.length
 ·have hpos:0<M.length:=by omega
  have hd0:(rowsL M)[0]?.getD .nil = .list 1 (ints (atR M 0)):=by
   have:=rowsL_drop0 hpos .nil
   rwa [List.drop_zero] at this
  by_cases hri:(atR M i).length=wdM M
  rotate_left
  ·have hv:=hno fun h=>hri (h.2.1 i hlt)
   subst hv
   have hri':¬(((atR M i).length:Int)=((atR M 0).length:Int)):=by
    unfold wdM at hri
    omega
   have hri2:¬((atR M i).length=(atR M 0).length):=hri
   simp -implicitDefEqProofs [sc_s_SmithOf_L0,freeOk,hlt,hpos,hd0,rowsL_dR hlt,hri',hri2,fz,noname,dr,nolist]
   try omega
  by_cases hw20:wdM M≤20
  rotate_left
  ·have hv:=hno fun h=>by have:=h.2.2.1 hpos; omega
   subst hv
   have hw':20<((atR M 0).length:Int):=by unfold wdM at hw20; omega
   unfold wdM at hri
   simp -implicitDefEqProofs [sc_s_SmithOf_L0,freeOk,hlt,hpos,hd0,rowsL_dR hlt,hri,hw',fz,noname,dr,nolist]
   try omega
  have hw':¬(20<((atR M 0).length:Int)):=by unfold wdM at hw20; omega
  have hri0:(atR M i).length=(atR M 0).length:=hri
  simp -implicitDefEqProofs [sc_s_SmithOf_L0,freeOk,hlt,hpos,hd0,rowsL_dR hlt,hri0,hw',fz,noname,dr,nolist]
  repeat' (first | omega | apply And.intro)
  refine loopQ env mixed (fun j:Nat=>[(0,.list 1 (rowsL M)),(3,.int .i64 (i:Int)),(4,.int .i64 (j:Int))]) (fun _=>([],0)) (fun j=>j≤wdM M∧∀ b,b<j → -1≤ent M i b∧ent M i b≤1) (fun j=>wdM M-j) 0 (by simp) (SubI.slots rfl (by simp)) ?_
  rintro j ⟨hj,hJ⟩
  by_cases hlt2:j<wdM M
  ·have hIn:F_s_l1In [.int .i64 (at0 (atR M i) j),.int .i64 (-1),.int .i64 1]=some (.bool (decide (-1≤ent M i j∧ent M i j≤1))):=by
    unfold ent
    by_cases ha : -1≤at0 (atR M i) j <;> by_cases hb:at0 (atR M i) j≤1 <;> simp [F_s_l1In,ha,hb]
   by_cases hc : -1≤ent M i j∧ent M i j≤1
   ·rw [decide_eq_true hc] at hIn
    simp -implicitDefEqProofs [sc_s_SmithOf_L2,hlt,hri,hlt2,rowsL_dR hlt,hIn]
    repeat' (first | omega | apply And.intro)
    refine Again.of (j+1) ⟨by omega,fun b hb => ?_⟩ (by omega) (SubI.slots rfl (by simp (disch:=omega) [wrapI]))
    rcases Nat.lt_succ_iff_lt_or_eq.1 hb with h1 | rfl
    ·exact hJ b h1
    ·exact hc
   ·rw [decide_eq_false hc] at hIn
    have hv:=hno fun h=>hc (h.2.2.2 i j hlt hlt2)
    subst hv
    simp -implicitDefEqProofs [sc_s_SmithOf_L2,hlt,hri,hlt2,rowsL_dR hlt,hIn]
    repeat' (first | omega | apply And.intro)
    refine SubQ.of (l1:=[(2,.sl 0 1 0 0)]) (s1:=([(0,[])],1)) (SubI.slots rfl (by simp)) ?_
    simp -implicitDefEqProofs
  ·simp -implicitDefEqProofs [sc_s_SmithOf_L2,hlt,hri,hlt2,rowsL_dR hlt]
   repeat' (first | omega | apply And.intro)
   refine SubQ.of (l1:=[(0,.list 1 (rowsL M)),(3,.int .i64 (i:Int))]) (SubI.slots rfl (by simp)) ?_
   simp -implicitDefEqProofs
   refine Again.of (i+1) ⟨by omega,fun a ha => ?_⟩ (by omega) (SubI.slots rfl (by simp (disch:=omega) [wrapI]))
   rcases Nat.lt_succ_iff_lt_or_eq.1 ha with h1 | rfl
   ·exact hI a h1
   ·exact ⟨hri,hw20,fun j hj=>hJ j (by omega)⟩
 ·have:i=M.length:=by omega
  subst this
  by_cases h20:M.length≤20
  rotate_left
  ·have hv:=hno fun h=>by have:=h.1; omega
   subst hv
   have h20':20<(M.length:Int):=by omega
   simp -implicitDefEqProofs [sc_s_SmithOf_L0,h20']
  have h20':¬(20<(M.length:Int)):=by omega
  by_cases h0:M=[]
  ·subst h0
   have hv:R=[]:=by
    unfold smsV at hR
    rw [if_neg fun hh=>hh.1 rfl] at hR
    simpa using hR.symm
   subst hv
   simp -implicitDefEqProofs [sc_s_SmithOf_L0]
  have hpos:=List.length_pos_iff.2 h0
  have hne:¬((M.length:Int)=0):=by omega
  have hsm:smlM 20 1 M:=⟨by omega,fun a ha=>(hI a ha).1,fun _=>by have:=(hI 0 hpos).2.1; omega,fun a j ha hj=>(hI a ha).2.2 j hj⟩
  have hT:F_s_l15Thin [.list 1 (rowsL M)]=some (.bool (dec (smiM M))):=by
   simp only [F_s_l15Thin,F1_mk,dLL_list,Option.bind_some]
   rw [if_pos ⟨hpos,hsm⟩]
  unfold smsV at hR
  by_cases hc:smiM M
  ·rw [if_pos ⟨h0,hc⟩] at hR
   rw [dec_true hc] at hT
   have hS:F_s_l15Smith [.list 1 (rowsL M)]=some (.own 1 (ints R)):=by
    simp only [F_s_l15Smith,F1_mk,dLL_list,Option.bind_some]
    rw [if_pos (smiM_dim hc),hR]
    rfl
   simp -implicitDefEqProofs [sc_s_SmithOf_L0,h20',hne,h0,hT,hS]
  ·rw [if_neg fun hh=>hc hh.2] at hR
   simp only [Option.some.injEq] at hR
   subst hR
   rw [dec_false hc] at hT
   simp -implicitDefEqProofs [sc_s_SmithOf_L0,h20',hne,h0,hT]
theorem dv0_iff {n w K:Nat} {t:Int} {f:Nat→Nat→Int}:dv 0 n w K t f↔mD t n w K f :=
 ⟨dv_mD,fun h Z=>mD_congr (fun a b _ _=>by simp) h⟩
theorem prS_dvd {e:Nat→Int}:∀ {r i:Nat},i<r→e i∣prS e r
 | 0,_,h=>by omega
 | r+1,i,h=>by
  by_cases hi:i=r
  ·rw [hi]; exact Int.dvd_mul_left _ _
  ·exact Int.dvd_trans (prS_dvd (by omega)) (Int.dvd_mul_right _ _)
theorem prS_ne {e:Nat→Int}:∀ {r:Nat},(∀ i,i<r→e i≠0)→prS e r≠0
 | 0,_=>by simp [prS]
 | r+1,h=>by
  show prS e r*e r≠0
  exact Int.mul_ne_zero (prS_ne fun i hi=>h i (by omega)) (h r (by omega))
theorem smith_eq {T n w:Nat} {f:Nat→Nat→Int} {R:List Int} (hT:mB T n w f) (hT1:1≤T) (hT2:T≤1073741824) (hb:bdE (T:Int) n w f) (h:smV n w f=some R) :
  ∃ l:Int,bareR n w (n+1) f 0 1=some ((R.length:Int),l)∧l≠0∧l.natAbs≤1073741824∧R.length≤min n w∧∃ F,dmV (l.natAbs:Nat) n w (fun a b=>f a b % (l.natAbs:Nat))=some F∧(bub (dg0 (l.natAbs:Nat) (min n w) F)).take R.length=R:=by
 obtain ⟨q,hq⟩:=smV_iff.1 h
 obtain ⟨Fs,hF,hE⟩:=smR_spec q f 0 [] R (Nat.zero_le _) (Nat.zero_le _) ⟨fun a b _ _ h=>by omega,rfl,fun i hi=>by omega,fun i j _ hj=>by omega,fun i hi=>by omega⟩ hq
 obtain ⟨r,l,hB,hrn,hrw,hl0,hlT,hvan,Rm,Cm,hRl,hCl,hRb,hCb,hmin⟩:=bare_spec hT hT2 (n+1) 0 f 1 (Nat.zero_le _) (Nat.zero_le _) (by omega) (brI_start hb) hT1
 have E0d:∀ a b,a<n→b<w→(fun a=>if a<R.length then Fs a a else 0) a∣Fs a b∧(fun a=>if a<R.length then Fs a a else 0) a∣0:=fun a b ha hb2=>by
  refine ⟨?_,Int.dvd_zero _⟩
  rw [hF.d a b ha hb2]
  by_cases h1:a=b∧a<R.length
  ·rw [if_pos h1]; simp only [if_pos h1.2]; exact Int.dvd_refl _
  ·rw [if_neg h1]; exact Int.dvd_zero _
 have hr:r=R.length:=by
  rcases Nat.lt_trichotomy r R.length with h1 | h1 | h1
  ·exfalso
   have h2:=(hE 0 (r+1) 0).1 (dv0_iff.2 hvan)
   have h3:=dv_mD h2 (List.range (r+1)) (List.range (r+1)) List.length_range List.length_range (fun a ha=>by have:=List.mem_range.1 ha; have:=hF.l1; omega) (fun a ha=>by have:=List.mem_range.1 ha; have:=hF.l2; omega)
   rw [dtL_diag (d:=fun a=>Fs a a) List.nodup_range (fun a ha b hb2=>by
    have h4:=List.mem_range.1 ha
    have h5:=List.mem_range.1 hb2
    have h6:=hF.l1
    have h7:=hF.l2
    rw [hF.d a b (by omega) (by omega)]
    by_cases e:a=b
    ·rw [if_pos ⟨e,by omega⟩,if_pos e]
    ·rw [if_neg fun h=>e h.1,if_neg e]),prL_range] at h3
   exact prS_ne (fun i hi=>(hF.v i (by omega)).2) (Int.zero_dvd.1 h3)
  ·exact h1
  ·exfalso
   have h2:pD 0 r fun a=>if a<R.length then Fs a a else 0:=fun S hS hSl=>by
    obtain ⟨m,hm,hkm⟩:=nodup_big hS (K:=R.length) (by omega)
    rw [prL_perm (List.perm_cons_erase hm)]
    simp only [prL]
    rw [if_neg (by omega),Int.zero_mul]
    exact Int.dvd_refl _
   have h3:=dv0_iff.1 ((hE 0 r 0).2 (dv_of_pD E0d h2)) Rm Cm hRl hCl hRb hCb
   rw [Int.zero_dvd.1 h3] at hmin
   simp at hmin
   omega
 subst hr
 have ht1:(1:Int)≤(l.natAbs:Nat):=by omega
 generalize htt:((l.natAbs:Nat):Int)=t at *
 have hdt:∀ i,i<R.length→Fs i i∣t:=by
  have hch:∀ i j,i≤j→(fun a=>if a<R.length then Fs a a else 0) i∣(fun a=>if a<R.length then Fs a a else 0) j:=fun i j hij=>by
   by_cases hj:j<R.length
   ·simp only [if_pos hj,if_pos (show i<R.length by omega)]
    by_cases e:i=j
    ·rw [e]; exact Int.dvd_refl _
    ·exact hF.c i j (by omega) hj
   ·simp only [if_neg hj]; exact Int.dvd_zero _
  have h1:=dv0_iff.1 ((hE 0 R.length _).2 (dv_of_pD E0d (chain_prod hch R.length))) Rm Cm hRl hCl hRb hCb
  have h2:prS (fun a=>if a<R.length then Fs a a else 0) R.length∣t:=by
   rw [← htt,← hmin]
   exact Int.dvd_natAbs.2 h1
  intro i hi
  have h3:=Int.dvd_trans (prS_dvd hi) h2
  simpa only [if_pos hi] using h3
 refine ⟨l,hB,hl0,by omega,by omega,?_⟩
 simp only [htt]
 have hmf:modE t n w fun a b=>f a b % t:=fun i j _ _=>⟨Int.emod_nonneg _ (by omega),Int.emod_lt_of_pos _ (by omega)⟩
 obtain ⟨qd,F,hdm⟩:=dm_ex ht1 _ 0 rfl _ hmf
 refine ⟨F,dmV_iff.2 ⟨qd,hdm⟩,?_⟩
 obtain ⟨hzF,hmF,hEF⟩:=dmR_spec ht1 qd _ 0 (Nat.zero_le _) (Nat.zero_le _) (fun a b _ _ h=>by omega) hmf hdm
 have hEq:∀ (K:Nat) (s:Int),dv t n w K s Fs↔dv t n w K s F:=fun K s=>(hE t K s).symm.trans ((dv_shift_iff (fun a b => -(f a b / t)) fun a b _ _=>mod_eq _ _).trans (hEF K s))
 have hdv:dvL t (dg0 t (min n w) F):=fun q hq=>by
  unfold dg0 at *
  rw [rowF_len] at hq
  rw [rowF_at hq]
  have g1:((Int.gcd t (F q q):Nat):Int)∣t:=Int.gcd_dvd_left ..
  refine ⟨?_,g1⟩
  have:Int.gcd t (F q q)≠0:=fun h=>by
   rw [h] at g1
   have:=Int.zero_dvd.1 (by simpa using g1)
   omega
  omega
 have hdl:(dg0 t (min n w) F).length=min n w:=rowF_len _ _
 have hbl:(bub (dg0 t (min n w) F)).length=min n w:=by unfold bub; rw [bbI_len,hdl]
 have hEv:∀ q,q<min n w→eS' t (dg0 t (min n w) F) q=((Int.gcd t (F q q):Nat):Int):=fun q hq=>by
  unfold eS'
  rw [hdl,if_pos hq]
  unfold dg0
  rw [rowF_at hq]
 have hEt:∀ q,min n w≤q→eS' t (dg0 t (min n w) F) q=t:=fun q hq=>by
  unfold eS'
  rw [hdl,if_neg (by omega)]
 have hEd:∀ q,eS' t (dg0 t (min n w) F) q∣t:=fun q=>by
  by_cases hq:q<min n w
  ·rw [hEv q hq]; exact Int.gcd_dvd_left ..
  ·rw [hEt q (by omega)]; exact Int.dvd_refl _
 have hFd:∀ a b,a<n→b<w→F a b=if a=b then (fun a=>F a a) a else 0:=fun a b ha hb2=>by
  by_cases e:a=b
  ·rw [if_pos e,e]
  ·rw [if_neg e]; exact hzF a b ha hb2 (by omega) e
 have hEF2:∀ a b,a<n→b<w→eS' t (dg0 t (min n w) F) a∣F a b∧eS' t (dg0 t (min n w) F) a∣t:=fun a b ha hb2=>by
  refine ⟨?_,hEd a⟩
  by_cases e:a=b
  ·subst e
   rw [hEv a (by omega)]
   exact Int.gcd_dvd_right ..
  ·rw [hFd a b ha hb2,if_neg e]; exact Int.dvd_zero _
 have hD:∀ a b,a<n→b<w→(fun q=>if q<R.length then Fs q q else t) a∣Fs a b∧(fun q=>if q<R.length then Fs q q else t) a∣t:=fun a b ha hb2=>by
  by_cases h1:a<R.length
  ·simp only [if_pos h1]
   refine ⟨?_,hdt a h1⟩
   rw [hF.d a b ha hb2]
   split
   ·exact Int.dvd_refl _
   ·exact Int.dvd_zero _
  ·simp only [if_neg h1]
   refine ⟨?_,Int.dvd_refl _⟩
   rw [hF.d a b ha hb2,if_neg fun h=>h1 h.2]
   exact Int.dvd_zero _
 have hDc:∀ i j,i≤j→(fun q=>if q<R.length then Fs q q else t) i∣(fun q=>if q<R.length then Fs q q else t) j:=fun i j hij=>by
  by_cases hj:j<R.length
  ·simp only [if_pos hj,if_pos (show i<R.length by omega)]
   by_cases e:i=j
   ·rw [e]; exact Int.dvd_refl _
   ·exact hF.c i j (by omega) hj
  ·simp only [if_neg hj]
   split
   ·rename_i hi; exact hdt i hi
   ·exact Int.dvd_refl _
 have hpd:∀ (K:Nat) (s:Int),pD s K (eS' t (dg0 t (min n w) F))↔pD s K (eS' t (bub (dg0 t (min n w) F))):=fun K s=>pD_bbI hdv _ (Nat.le_refl _)
 have hUc:=chain_bub hdv
 have hU1:∀ q,1≤eS' t (bub (dg0 t (min n w) F)) q:=fun q=>by
  unfold eS'
  split
  ·rename_i hq
   exact ((dvL_I hdv _ (Nat.le_refl _)) q hq).1
  ·exact ht1
 generalize hU:eS' t (bub (dg0 t (min n w) F))=U at *
 have key:∀ K,K≤R.length→(prS (fun q=>if q<R.length then Fs q q else t) K).natAbs=(prS U K).natAbs:=fun K hK=>by
  refine Nat.dvd_antisymm (Int.natAbs_dvd_natAbs.2 ?_) (Int.natAbs_dvd_natAbs.2 ?_)
  ·have h1:=(hEq K _).1 (dv_of_pD hD (chain_prod hDc K))
   have h2:=dv_diag hFd h1
   refine pD_range ((hpd K _).1 (pD_ext (t:=t) (m:=min n w) (by omega) hEt hEd fun S hS hSl hSb => ?_))
   rw [prL_congr fun a ha=>hEv a (hSb a ha)]
   exact h2 S hS hSl fun a ha=>by have:=hSb a ha; omega
  ·have h1:=(hEq K _).2 (dv_of_pD hEF2 ((hpd K _).2 (chain_prod hUc K)))
   have h2:=dv_mD h1 (List.range K) (List.range K) List.length_range List.length_range (fun a ha=>by have:=List.mem_range.1 ha; omega) (fun a ha=>by have:=List.mem_range.1 ha; omega)
   rwa [dtL_diag (d:=fun q=>if q<R.length then Fs q q else t) List.nodup_range (fun a ha b hb2=>by
    have h4:=List.mem_range.1 ha
    have h5:=List.mem_range.1 hb2
    rw [hF.d a b (by omega) (by omega)]
    by_cases e:a=b
    ·rw [if_pos ⟨e,by omega⟩,if_pos e,if_pos (by omega)]
    ·rw [if_neg fun h=>e h.1,if_neg e]),prL_range] at h2
 have hval:∀ i,i<R.length→at0 R i=U i:=fun i hi=>by
  have k1:=key i (by omega)
  have k2:=key (i+1) hi
  unfold prS at k2
  rw [Int.natAbs_mul,Int.natAbs_mul,k1] at k2
  have hne:prS U i≠0:=prS_ne fun j _=>by have:=hU1 j; omega
  have k3:=Nat.eq_of_mul_eq_mul_left (by omega) k2
  rw [if_pos hi] at k3
  rw [(hF.v i hi).1,k3]
  have:=hU1 i
  omega
 refine at0_ext (by rw [List.length_take,hbl]; omega) fun i hi => ?_
 rw [List.length_take,hbl] at hi
 have hi2:i<R.length:=by omega
 rw [hval i hi2,← hU]
 unfold eS'
 rw [hbl,if_pos (by omega)]
 simp [at0,List.getElem?_take,hi2]
theorem smi_sms {T:Nat} {M:List (List Int)} {R:List Int} (hT:mB T M.length (wdM M) (ent M)) (hT1:1≤T) (hT2:T≤1073741824) (h:smsV M=some R):smiV M=some R:=by
 unfold smsV at h
 unfold smiV
 by_cases h0:M=[]
 ·subst h0
  rw [if_neg fun hh=>hh.1 rfl] at h
  simp only [Option.some.injEq] at h
  subst h
  rw [if_pos (.inl rfl)]
  have hz:nzZ (ent []) ([]:List (List Int)).length (wdM []) 0=(-1,-1):=rfl
  rw [show ([]:List (List Int)).length+1=0+1 from rfl,bareR_stop hz,Option.bind_some]
  unfold smiW
  dsimp only
  rw [if_pos (by rfl)]
 by_cases hc:smiM M
 rotate_left
 ·rw [if_neg fun hh=>hc hh.2] at h
  rw [if_neg fun hh=>hh.elim h0 hc]
  exact h
 rw [if_pos ⟨h0,hc⟩] at h
 rw [if_pos (.inr hc)]
 have hb:bdE (T:Int) M.length (wdM M) (ent M):=fun i j hi hj=>by
  have:=hc.1.2.2.2 i j hi hj
  omega
 obtain ⟨l,hB,hl0,hl1,hRl,F,hF,hR⟩:=smith_eq hT hT1 hT2 hb h
 rw [hB,Option.bind_some]
 unfold smiW
 dsimp only
 by_cases hz:(R.length:Int)=0
 ·rw [if_pos hz]
  have:R=[]:=List.length_eq_zero_iff.1 (by omega)
  rw [this]
 ·rw [if_neg hz,if_pos ⟨by omega,by omega,hl0,hl1⟩,hF]
  rw [Int.toNat_natCast]
  exact congrArg some hR
theorem range_low {k:Nat} {R:List Nat} (hR:R.Nodup) (h:∀ r∈R,k+1≤r):(k::R).Nodup:=List.nodup_cons.2 ⟨fun hm=>by have:=h k hm; omega,hR⟩
theorem sm_run2 {n w:Nat}:∀ (q:Nat) (f:Nat→Nat→Int) (k:Nat) (out:List Int),k≤n→k≤w→min n w-k+1≤q→zI n w k f→bdE 2 n w f →
  (∀ R C:List Nat,R.length=C.length→R.Nodup→C.Nodup→(∀ r∈R,k≤r∧r<n)→(∀ c∈C,k≤c∧c<w)→(dtL f R C).natAbs≤2)→∃ R,smR n w q f k out=some R
 | 0,_,_,_,_,_,h,_,_,_=>by omega
 | q+1,f,k,out,hkn,hkw,hq,hz,hb,hm=>by
  by_cases hk:k<n∧k<w
  rotate_left
  ·exact ⟨out,smR_end hk⟩
  rcases lsZ_full f n w k with ⟨e,_⟩ | ⟨i,j,e,⟨i1,i2,j1,j2,hnz⟩,hmin⟩
  ·exact ⟨out,smR_zero hk e⟩
  have hzg:=zI_sw hz hk.1 hk.2 i1 i2 j1 j2
  have hbg:bdE 2 n w (swF k i j f):=fun a b ha hb2=>hb _ _ (swI_lt hk.1 i2 ha) (swI_lt hk.2 j2 hb2)
  have hmg:∀ R C:List Nat,R.length=C.length→R.Nodup→C.Nodup→(∀ r∈R,k≤r∧r<n)→(∀ c∈C,k≤c∧c<w)→(dtL (swF k i j f) R C).natAbs≤2:=fun R C hl hR hC hr hc=>by
   have e1:dtL (swF k i j f) R C=dtL f (R.map (swI k i)) (C.map (swI k j)):=dtL_map (f:=f) (R:=R) (C:=C) (swI k i) (swI k j) (by omega)
   have nm:∀ (x:Nat) (l:List Nat),l.Nodup→(l.map (swI k x)).Nodup:=fun x l hn=>by
    induction l with
    | nil=>exact List.nodup_nil
    | cons y l ih =>
     rw [List.nodup_cons] at hn
     rw [List.map_cons,List.nodup_cons]
     refine ⟨fun hm => ?_,ih hn.2⟩
     obtain ⟨z,hz,e⟩:=List.mem_map.1 hm
     exact hn.1 (swI_inj e ▸ hz)
   rw [e1]
   refine hm _ _ (by simpa using hl) (nm i R hR) (nm j C hC) (fun r hm => ?_) (fun c hm => ?_)
   ·obtain ⟨a,ha,e⟩:=List.mem_map.1 hm
    exact e ▸ ⟨swI_high i1 (hr a ha).1,swI_lt hk.1 i2 (hr a ha).2⟩
   ·obtain ⟨a,ha,e⟩:=List.mem_map.1 hm
    exact e ▸ ⟨swI_high j1 (hc a ha).1,swI_lt hk.2 j2 (hc a ha).2⟩
  have hkk:swF k i j f k k=f i j:=by unfold swF; rw [swI_l,swI_l]
  have hming:∀ a b,k≤a→a<n→k≤b→b<w→swF k i j f a b≠0→(swF k i j f k k).natAbs≤(swF k i j f a b).natAbs:=fun a b ha1 ha2 hb1 hb2 hne=>by
   rw [hkk]
   exact hmin _ _ (swI_high i1 ha1) (swI_lt hk.1 i2 ha2) (swI_high j1 hb1) (swI_lt hk.2 j2 hb2) hne
  have hp0:swF k i j f k k≠0:=by rw [hkk]; exact hnz
  -- facts about the exchanged matrix
  suffices hs:∃ h,rstF k (swF k i j f)=h∧bdE 1073741824 n w (rwF k (swF k i j f))∧bdE 2 n w h∧clnP n w k (swF k i j f)∧(∀ a b,k<a→a<n→k<b→b<w→h k k∣h a b)∧(∀ R C:List Nat,R.length=C.length→R.Nodup→C.Nodup→(∀ r∈R,k+1≤r∧r<n)→(∀ c∈C,k+1≤c∧c<w)→(dtL h R C).natAbs≤2) by
   obtain ⟨h,eh,b1,b2,hc,hod,hmh⟩:=hs
   have hzh:=zI_rst_succ hzg hc
   rw [eh] at hzh
   have hb2':bdE 1073741824 n w (rstF k (swF k i j f)):=fun a b ha hb2=>by rw [eh]; have:=b2 a b ha hb2; omega
   have ho:odZ (rstF k (swF k i j f)) n w k<0:=by
    rcases odI_spec (rstF k (swF k i j f)) w k (n-(k+1)) (k+1) with ⟨eo,_⟩ | ⟨o,eo,c1,c2,⟨x,x1,x2,x3⟩⟩
    ·have:odZ (rstF k (swF k i j f)) n w k = -1:=eo
     omega
    ·rw [eh] at x3
     exact absurd (Int.tmod_eq_zero_of_dvd (hod o x (by omega) (by omega) x1 x2)) x3
   rw [smR_done hk e ⟨b1,hb2'⟩ hc ho,eh]
   exact sm_run2 q h (k+1) _ hk.1 hk.2 (by omega) hzh b2 hmh
  generalize swF k i j f=g at *
  clear hm hmin hz hb hnz hkk
  have hpb:=hbg k k hk.1 hk.2
  -- the corner divides its row and its column
  have hdc:∀ a,k≤a→a<n→g k k∣g a k:=fun a ha1 ha2=>by
   by_cases h0:g a k=0
   ·rw [h0]; exact Int.dvd_zero _
   ·have h1:=hming a k ha1 ha2 (Nat.le_refl k) hk.2 h0
    have h2:=hbg a k ha2 hk.2
    rw [← Int.natAbs_dvd_natAbs]
    have h3:(g k k).natAbs=1∨(g k k).natAbs=(g a k).natAbs:=by omega
    rcases h3 with h3 | h3
    ·rw [h3]; exact Nat.one_dvd _
    ·rw [h3]; exact Nat.dvd_refl _
  have hdr:∀ b,k≤b→b<w→g k k∣g k b:=fun b hb1 hb2=>by
   by_cases h0:g k b=0
   ·rw [h0]; exact Int.dvd_zero _
   ·have h1:=hming k b (Nat.le_refl k) hk.1 hb1 hb2 h0
    have h2:=hbg k b hk.1 hb2
    rw [← Int.natAbs_dvd_natAbs]
    have h3:(g k k).natAbs=1∨(g k k).natAbs=(g k b).natAbs:=by omega
    rcases h3 with h3 | h3
    ·rw [h3]; exact Nat.one_dvd _
    ·rw [h3]; exact Nat.dvd_refl _
  have hqa:∀ a,k≤a→a<n→(g a k).tdiv (g k k)*g k k=g a k:=fun a ha1 ha2=>Int.tdiv_mul_cancel (hdc a ha1 ha2)
  have hqb:∀ b,k≤b→b<w→(g k b).tdiv (g k k)*g k k=g k b:=fun b hb1 hb2=>Int.tdiv_mul_cancel (hdr b hb1 hb2)
  have r1:∀ a,k<a→a<n→rwF k g a k=0:=fun a ha1 ha2=>by
   unfold rwF rwV
   rw [if_pos ⟨ha1,Nat.le_refl k⟩,hqa a (by omega) ha2]; omega
  have r2:∀ b,rwF k g k b=g k b:=fun b=>rwF_top
  have r3:∀ a b,k<a→a<n→k<b→b<w→g k k*rwF k g a b=g k k*g a b-g a k*g k b:=fun a b ha1 ha2 hb1 hb2=>by
   unfold rwF rwV
   rw [if_pos ⟨ha1,by omega⟩,Int.mul_sub,← Int.mul_assoc,Int.mul_comm (g k k) ((g a k).tdiv (g k k)),hqa a (by omega) ha2]
  have t1:∀ b,k<b→b<w→rstF k g k b=0:=fun b hb1 hb2=>by
   show clF k (rwF k g) k b=0
   unfold clF clV
   rw [if_pos ⟨Nat.le_refl k,hb1⟩,r2,r2,hqb b (by omega) hb2]; omega
  have t2:∀ a b,k<a→a<n→rstF k g a b=rwF k g a b:=fun a b ha1 ha2=>by
   show clF k (rwF k g) a b=_
   unfold clF clV
   by_cases hb1:k≤a∧k<b
   ·rw [if_pos hb1,r1 a ha1 ha2,Int.mul_zero,Int.sub_zero]
   ·rw [if_neg hb1]
  have t3:rstF k g k k=g k k:=rst_kk
  have hmin2:∀ R C:List Nat,R.length=C.length→R.Nodup→C.Nodup→(∀ r∈R,k+1≤r∧r<n)→(∀ c∈C,k+1≤c∧c<w)→1≤R.length→(g k k).natAbs*(dtL (rstF k g) R C).natAbs≤2:=fun R C hl hR hC hr hc h1=>by
   have s1:=dtL_scale (f:=rstF k g) (g:=fun x y=>g k k*g x y-g x k*g k y) (l:=g k k) (R:=R) (C:=C) (by omega) fun a ha b hb=>by
    have ha1:=hr a ha
    have hb1:=hc b hb
    rw [t2 a b (by omega) ha1.2]
    exact (r3 a b (by omega) ha1.2 (by omega) hb1.2).symm
   rw [chio_abs (by omega) h1 hp0] at s1
   have s2:=hmg (k::R) (k::C) (by simp [hl]) (range_low hR fun r hr2=>(hr r hr2).1) (range_low hC fun c hc2=>(hc c hc2).1) (fun r hm=>by
    rcases List.mem_cons.1 hm with rfl | hm
    ·omega
    ·have:=hr r hm; omega) (fun r hm=>by
    rcases List.mem_cons.1 hm with rfl | hm
    ·omega
    ·have:=hc r hm; omega)
   obtain ⟨s,hs⟩:∃ s,R.length=s+1:=⟨R.length-1,by omega⟩
   rw [hs,Nat.add_sub_cancel,Nat.pow_succ,Nat.mul_assoc] at s1
   have s3:=Nat.eq_of_mul_eq_mul_left (Nat.pow_pos (by omega)) s1
   omega
  have t4:∀ a b,k<a→a<n→k<b→b<w→(g k k).natAbs*(rstF k g a b).natAbs≤2:=fun a b ha1 ha2 hb1 hb2=>by
   have:=hmin2 [a] [b] rfl (by simp) (by simp) (by simp; omega) (by simp; omega) (by simp)
   rwa [dtL_one] at this
  refine ⟨rstF k g,rfl,fun a b ha hb2 => ?_,fun a b ha hb2 => ?_,⟨r1,t1⟩,fun a b ha1 ha2 hb1 hb2 => ?_,fun R C hl hR hC hr hc => ?_⟩
  ·have hab:=hbg a b ha hb2
   by_cases h1:k<a∧k<b
   ·have h2:=t4 a b h1.1 ha h1.2 hb2
    rw [t2 a b h1.1 ha] at h2
    have h3:1≤(g k k).natAbs:=by omega
    have h4:(rwF k g a b).natAbs≤(g k k).natAbs*(rwF k g a b).natAbs:=Nat.le_mul_of_pos_left _ h3
    omega
   ·by_cases h2:k<a∧b=k
    ·rw [h2.2,r1 a h2.1 ha]; omega
    ·have:rwF k g a b=g a b:=by unfold rwF; rw [if_neg (by omega)]
     rw [this]; omega
  ·have hab:=hbg a b ha hb2
   by_cases h1:k<a∧k<b
   ·have h2:=t4 a b h1.1 ha h1.2 hb2
    have h3:1≤(g k k).natAbs:=by omega
    have h4:(rstF k g a b).natAbs≤(g k k).natAbs*(rstF k g a b).natAbs:=Nat.le_mul_of_pos_left _ h3
    omega
   ·by_cases h2:k<a∧b=k
    ·rw [h2.2,t2 a k h2.1 ha,r1 a h2.1 ha]; omega
    ·by_cases h3:a=k∧k<b
     ·rw [h3.1,t1 b h3.2 hb2]; omega
     ·have:rstF k g a b=g a b:=by
       unfold rstF clF rwF
       rw [if_neg (by omega),if_neg (by omega)]
      rw [this]; omega
  ·rw [t3]
   have h2:=t4 a b ha1 ha2 hb1 hb2
   by_cases h1:(g k k).natAbs=1
   ·rw [← Int.natAbs_dvd_natAbs,h1]; exact Nat.one_dvd _
   ·have hp2:(g k k).natAbs=2:=by omega
    have ev:∀ x y,k≤x→x<n→k≤y→y<w→∃ z,g x y=2*z:=fun x y hx1 hx2 hy1 hy2=>by
     by_cases h0:g x y=0
     ·exact ⟨0,by omega⟩
     ·have:=hming x y hx1 hx2 hy1 hy2 h0
      have:=hbg x y hx2 hy2
      have:g x y=2∨g x y = -2:=by omega
      rcases this with h | h
      ·exact ⟨1,by omega⟩
      ·exact ⟨-1,by omega⟩
    obtain ⟨z1,e1⟩:=ev a b (by omega) ha2 (by omega) hb2
    obtain ⟨z2,e2⟩:=ev a k (by omega) ha2 (Nat.le_refl k) hk.2
    obtain ⟨z3,e3⟩:=ev k b (Nat.le_refl k) hk.1 (by omega) hb2
    obtain ⟨z4,e4⟩:=ev k k (Nat.le_refl k) hk.1 (Nat.le_refl k) hk.2
    have h5:=r3 a b ha1 ha2 hb1 hb2
    rw [← t2 a b ha1 ha2,e1,e2,e3,e4] at h5
    have h6:2*z4*rstF k g a b=4*(z4*z1-z2*z3):=by
     rw [h5,Int.mul_sub]
     have a1:2*z4*(2*z1)=4*(z4*z1):=by rw [Int.mul_assoc,Int.mul_left_comm z4 2 z1]; omega
     have a2:2*z2*(2*z3)=4*(z2*z3):=by rw [Int.mul_assoc,Int.mul_left_comm z2 2 z3]; omega
     rw [a1,a2]
    have h7:(2*z4*rstF k g a b).natAbs≤2:=by rw [Int.natAbs_mul,← e4]; exact h2
    have h8:2*z4*rstF k g a b=0:=by
     generalize z4*z1-z2*z3=y at h6
     omega
    have h9:rstF k g a b=0:=by
     rcases Int.mul_eq_zero.1 h8 with h | h
     ·omega
     ·exact h
    rw [h9]; exact Int.dvd_zero _
  ·by_cases h1:1≤R.length
   ·have h2:=hmin2 R C hl hR hC hr hc h1
    have h3:1≤(g k k).natAbs:=by omega
    have h4:(dtL (rstF k g) R C).natAbs≤(g k k).natAbs*(dtL (rstF k g) R C).natAbs:=Nat.le_mul_of_pos_left _ h3
    omega
   ·have h2:R=[]:=List.length_eq_zero_iff.1 (by omega)
    subst h2
    show (1:Int).natAbs≤2
    decide
theorem smith2 {M:List (List Int)} (h:mB 2 M.length (wdM M) (ent M)):∃ R,smsV M=some R∧smiV M=some R:=by
 have hs:∃ R,smsV M=some R:=by
  unfold smsV
  by_cases hc:M≠[]∧smiM M
  ·rw [if_pos hc]
   obtain ⟨R,hR⟩:=sm_run2 (min M.length (wdM M)+1) (ent M) 0 [] (Nat.zero_le _) (Nat.zero_le _) (by omega) (fun a b _ _ h=>by omega) (fun a b ha hb=>by have:=hc.2.1.2.2.2 a b ha hb; omega) (fun R C hl hR hC hr hc=>h R C hl hR hC (fun r hr2=>(hr r hr2).2) fun c hc2=>(hc c hc2).2)
   exact ⟨R,smV_iff.2 ⟨_,hR⟩⟩
  ·rw [if_neg hc]; exact ⟨[],rfl⟩
 obtain ⟨R,hR⟩:=hs
 exact ⟨R,hR,smi_sms h (by omega) (by omega) hR⟩
def ndE (B n w:Nat) (f:Nat→Nat→Int):Prop:=∀ a b,a<n→b<w→(f a b).natAbs≤B
theorem bd_mul {a b:Int} {B:Nat} (h1:a.natAbs≤B) (h2:b.natAbs≤B):(a*b).natAbs≤B*B:=by
 rw [Int.natAbs_mul]
 exact Nat.mul_le_mul h1 h2
theorem tdiv_bd (a b:Int):(a.tdiv b).natAbs≤a.natAbs:=by
 rw [Int.natAbs_tdiv]
 exact Nat.div_le_self _ _
theorem sm_div {n w k i j B:Nat} {f:Nat→Nat→Int} (hk:k<n∧k<w) (e:lsZ f n w k=((i:Int),(j:Int))) (hg:lsG f n w k i j) (hz:zI n w k f) (hB:B≤10000) (hb:ndE B n w f)
  (hd:∀ a b,k≤a→a<n→k≤b→b<w→f i j∣f a b) :
  ∃ h,(∀ q out,smR n w (q+1) f k out=smR n w q h (k+1) (out++[((f i j).natAbs:Int)]))∧zI n w (k+1) h∧ndE (B+B*B) n w h ∧
   ∀ R C:List Nat,R.length=C.length→R.Nodup→C.Nodup→(∀ r∈R,k+1≤r∧r<n)→(∀ c∈C,k+1≤c∧c<w)→1≤R.length →
    ∃ R' C':List Nat,R'.length=R.length+1∧C'.length=R.length+1∧R'.Nodup∧C'.Nodup∧(∀ r∈R',k≤r∧r<n)∧(∀ c∈C',k≤c∧c<w)∧(f i j).natAbs*(dtL h R C).natAbs=(dtL f R' C').natAbs:=by
 obtain ⟨i1,i2,j1,j2,hnz⟩:=hg
 have hzg:=zI_sw hz hk.1 hk.2 i1 i2 j1 j2
 have hbg:ndE B n w (swF k i j f):=fun a b ha hb2=>hb _ _ (swI_lt hk.1 i2 ha) (swI_lt hk.2 j2 hb2)
 have hmg:∀ R C:List Nat,R.length=C.length→R.Nodup→C.Nodup→(∀ r∈R,k≤r∧r<n)→(∀ c∈C,k≤c∧c<w)→∃ R' C':List Nat,R'.length=R.length∧C'.length=R.length∧R'.Nodup∧C'.Nodup∧(∀ r∈R',k≤r∧r<n)∧(∀ c∈C',k≤c∧c<w)∧dtL (swF k i j f) R C=dtL f R' C':=fun R C hl hR hC hr hc=>by
  have e1:dtL (swF k i j f) R C=dtL f (R.map (swI k i)) (C.map (swI k j)):=dtL_map (f:=f) (R:=R) (C:=C) (swI k i) (swI k j) (by omega)
  have nm:∀ (x:Nat) (l:List Nat),l.Nodup→(l.map (swI k x)).Nodup:=fun x l hn=>by
   induction l with
   | nil=>exact List.nodup_nil
   | cons y l ih =>
    rw [List.nodup_cons] at hn
    rw [List.map_cons,List.nodup_cons]
    refine ⟨fun hm => ?_,ih hn.2⟩
    obtain ⟨z,hz,e⟩:=List.mem_map.1 hm
    exact hn.1 (swI_inj e ▸ hz)
  refine ⟨_,_,by simp,by simp [hl],nm i R hR,nm j C hC,fun r hm => ?_,fun c hm => ?_,e1⟩
  ·obtain ⟨a,ha,e⟩:=List.mem_map.1 hm
   exact e ▸ ⟨swI_high i1 (hr a ha).1,swI_lt hk.1 i2 (hr a ha).2⟩
  ·obtain ⟨a,ha,e⟩:=List.mem_map.1 hm
   exact e ▸ ⟨swI_high j1 (hc a ha).1,swI_lt hk.2 j2 (hc a ha).2⟩
 have hkk:swF k i j f k k=f i j:=by unfold swF; rw [swI_l,swI_l]
 have hdg:∀ a b,k≤a→a<n→k≤b→b<w→swF k i j f k k∣swF k i j f a b:=fun a b ha1 ha2 hb1 hb2=>by
  rw [hkk]
  exact hd _ _ (swI_high i1 ha1) (swI_lt hk.1 i2 ha2) (swI_high j1 hb1) (swI_lt hk.2 j2 hb2)
 have hp0:swF k i j f k k≠0:=by rw [hkk]; exact hnz
 suffices hs:∃ h,rstF k (swF k i j f)=h∧ndE (B+B*B) n w (rwF k (swF k i j f))∧ndE (B+B*B) n w h∧clnP n w k (swF k i j f)∧(∀ a b,k<a→a<n→k<b→b<w→h k k∣h a b)∧h k k=swF k i j f k k ∧
   ∀ R C:List Nat,R.length=C.length→R.Nodup→C.Nodup→(∀ r∈R,k+1≤r∧r<n)→(∀ c∈C,k+1≤c∧c<w)→1≤R.length→(swF k i j f k k).natAbs*(dtL h R C).natAbs=(dtL (swF k i j f) (k::R) (k::C)).natAbs by
  obtain ⟨h,eh,b1,b2,hc,hod,hh,hmh⟩:=hs
  have hzh:=zI_rst_succ hzg hc
  rw [eh] at hzh
  have hBB:B*B≤10000*10000:=Nat.mul_le_mul hB hB
  have b1':bdE 1073741824 n w (rwF k (swF k i j f)):=fun a b ha hb2=>by have:=b1 a b ha hb2; omega
  have b2':bdE 1073741824 n w (rstF k (swF k i j f)):=fun a b ha hb2=>by rw [eh]; have:=b2 a b ha hb2; omega
  have ho:odZ (rstF k (swF k i j f)) n w k<0:=by
   rcases odI_spec (rstF k (swF k i j f)) w k (n-(k+1)) (k+1) with ⟨eo,_⟩ | ⟨o,eo,c1,c2,⟨x,x1,x2,x3⟩⟩
   ·have:odZ (rstF k (swF k i j f)) n w k = -1:=eo
    omega
   ·rw [eh] at x3
    exact absurd (Int.tmod_eq_zero_of_dvd (hod o x (by omega) (by omega) x1 x2)) x3
  refine ⟨h,fun q out => ?_,hzh,b2,fun R C hl hR hC hr hc h1 => ?_⟩
  ·rw [smR_done hk e ⟨b1',b2'⟩ hc ho,eh,hh,hkk]
  ·have s1:=hmh R C hl hR hC hr hc h1
   obtain ⟨R',C',m1,m2,m3,m4,m5,m6,m7⟩:=hmg (k::R) (k::C) (by simp [hl]) (range_low hR fun r hr2=>(hr r hr2).1) (range_low hC fun c hc2=>(hc c hc2).1) (fun r hm=>by
    rcases List.mem_cons.1 hm with rfl | hm
    ·omega
    ·have:=hr r hm; omega) (fun r hm=>by
    rcases List.mem_cons.1 hm with rfl | hm
    ·omega
    ·have:=hc r hm; omega)
   refine ⟨R',C',by rw [m1]; rfl,by rw [m2]; rfl,m3,m4,m5,m6,?_⟩
   rw [← m7,← hkk]
   exact s1
 generalize swF k i j f=g at *
 clear hmg hb hz hnz hkk hd
 have hdc:∀ a,k≤a→a<n→g k k∣g a k:=fun a ha1 ha2=>hdg a k ha1 ha2 (Nat.le_refl k) hk.2
 have hdr:∀ b,k≤b→b<w→g k k∣g k b:=fun b hb1 hb2=>hdg k b (Nat.le_refl k) hk.1 hb1 hb2
 have hqa:∀ a,k≤a→a<n→(g a k).tdiv (g k k)*g k k=g a k:=fun a ha1 ha2=>Int.tdiv_mul_cancel (hdc a ha1 ha2)
 have hqb:∀ b,k≤b→b<w→(g k b).tdiv (g k k)*g k k=g k b:=fun b hb1 hb2=>Int.tdiv_mul_cancel (hdr b hb1 hb2)
 have r1:∀ a,k<a→a<n→rwF k g a k=0:=fun a ha1 ha2=>by
  unfold rwF rwV
  rw [if_pos ⟨ha1,Nat.le_refl k⟩,hqa a (by omega) ha2]; omega
 have r2:∀ b,rwF k g k b=g k b:=fun b=>rwF_top
 have r3:∀ a b,k<a→a<n→k<b→b<w→g k k*rwF k g a b=g k k*g a b-g a k*g k b:=fun a b ha1 ha2 hb1 hb2=>by
  unfold rwF rwV
  rw [if_pos ⟨ha1,by omega⟩,Int.mul_sub,← Int.mul_assoc,Int.mul_comm (g k k) ((g a k).tdiv (g k k)),hqa a (by omega) ha2]
 have r4:∀ a b,a<n→b<w→(rwF k g a b).natAbs≤B+B*B:=fun a b ha hb=>by
  have h1:=hbg a b ha hb
  unfold rwF rwV
  split
  ·rename_i hc
   have h2:=bd_mul (Nat.le_trans (tdiv_bd (g a k) (g k k)) (hbg a k ha hk.2)) (hbg k b hk.1 hb)
   omega
  ·omega
 have t1:∀ b,k<b→b<w→rstF k g k b=0:=fun b hb1 hb2=>by
  show clF k (rwF k g) k b=0
  unfold clF clV
  rw [if_pos ⟨Nat.le_refl k,hb1⟩,r2,r2,hqb b (by omega) hb2]; omega
 have t2:∀ a b,k<a→a<n→rstF k g a b=rwF k g a b:=fun a b ha1 ha2=>by
  show clF k (rwF k g) a b=_
  unfold clF clV
  by_cases hb1:k≤a∧k<b
  ·rw [if_pos hb1,r1 a ha1 ha2,Int.mul_zero,Int.sub_zero]
  ·rw [if_neg hb1]
 have t3:rstF k g k k=g k k:=rst_kk
 refine ⟨rstF k g,rfl,r4,fun a b ha hb2 => ?_,⟨r1,t1⟩,fun a b ha1 ha2 hb1 hb2 => ?_,t3,fun R C hl hR hC hr hc h1 => ?_⟩
 ·by_cases h1:k<a
  ·rw [t2 a b h1 ha]
   exact r4 a b ha hb2
  ·by_cases h3:a=k∧k<b
   ·rw [h3.1,t1 b h3.2 hb2]; simp
   ·have:rstF k g a b=g a b:=by
     unfold rstF clF rwF
     rw [if_neg (by omega),if_neg (by omega)]
    rw [this]
    have:=hbg a b ha hb2
    omega
 ·rw [t3,t2 a b ha1 ha2]
  unfold rwF rwV
  rw [if_pos ⟨ha1,by omega⟩]
  exact Int.dvd_sub (hdg a b (by omega) ha2 (by omega) hb2) (Int.dvd_mul_of_dvd_right (hdr b (by omega) hb2))
 ·have s1:=dtL_scale (f:=rstF k g) (g:=fun x y=>g k k*g x y-g x k*g k y) (l:=g k k) (R:=R) (C:=C) (by omega) fun a ha b hb=>by
   have ha1:=hr a ha
   have hb1:=hc b hb
   rw [t2 a b (by omega) ha1.2]
   exact (r3 a b (by omega) ha1.2 (by omega) hb1.2).symm
  rw [chio_abs (by omega) h1 hp0] at s1
  obtain ⟨s,hs⟩:∃ s,R.length=s+1:=⟨R.length-1,by omega⟩
  rw [hs,Nat.add_sub_cancel,Nat.pow_succ,Nat.mul_assoc] at s1
  exact (Nat.eq_of_mul_eq_mul_left (Nat.pow_pos (by omega)) s1).symm
def dtQ (k:Nat) (f:Nat→Nat→Int):Int:=f k k*f (k+1) (k+1)-f k (k+1)*f (k+1) k
def detC (n w k:Nat) (f:Nat→Nat→Int):Prop:=k+1<n→k+1<w→(dtQ k f).natAbs≤24
theorem dtQ_sw {k i j:Nat} {f:Nat→Nat→Int} (hi:i=k∨i=k+1) (hj:j=k∨j=k+1):(dtQ k (swF k i j f)).natAbs=(dtQ k f).natAbs:=by
 have e0:∀ x,x=k∨x=k+1→swI k x k=x:=fun x _=>swI_l k x
 have e1:∀ x,x=k→swI k x (k+1)=k+1:=fun x h=>by unfold swI; rw [if_neg (by omega),if_neg (by omega)]
 have e2:∀ x,x=k+1→swI k x (k+1)=k:=fun x h=>by unfold swI; rw [if_neg (by omega),if_pos (by omega)]
 unfold dtQ swF
 rw [e0 i hi,e0 j hj]
 generalize ha:f k k=a
 generalize hb:f k (k+1)=b
 generalize hc:f (k+1) k=c
 generalize hd:f (k+1) (k+1)=d
 rcases hi with hi | hi <;> rcases hj with hj | hj
 ·rw [e1 i hi,e1 j hj,hi,hj,ha,hb,hc,hd]
 ·rw [e1 i hi,e2 j hj,hi,hj,ha,hb,hc,hd,← Int.natAbs_neg,Int.neg_sub]
 ·rw [e2 i hi,e1 j hj,hi,hj,ha,hb,hc,hd,Int.mul_comm c b,Int.mul_comm d a,← Int.natAbs_neg,Int.neg_sub]
 ·rw [e2 i hi,e2 j hj,hi,hj,ha,hb,hc,hd,Int.mul_comm d a,Int.mul_comm c b]
theorem tmod_sub (a b:Int):a-a.tdiv b*b=a.tmod b:=by
 have:=Int.tmod_add_tdiv_mul a b
 omega
theorem tmod_lt {a b:Int} {p:Nat} (h:b.natAbs=p+1):(a.tmod b).natAbs≤p:=by
 rw [Int.natAbs_tmod,h]
 have:=Nat.mod_lt a.natAbs (show 0<p+1 by omega)
 omega
theorem det_step (p b c d q q':Int):p*((d-q*b)-q'*(c-q*p))-(b-q'*p)*(c-q*p)=p*d-b*c:=by
 simp only [Int.mul_sub,Int.sub_mul]
 have e1:p*(q'*c)=q'*p*c:=by rw [← Int.mul_assoc,Int.mul_comm p q']
 have e2:p*(q'*(q*p))=q'*p*(q*p):=by rw [← Int.mul_assoc,Int.mul_comm p q']
 have e3:p*(q*b)=b*(q*p):=by rw [← Int.mul_assoc,Int.mul_comm (p*q) b,Int.mul_comm p q]
 omega
structure passO (n w k:Nat) (p:Nat) (x:Int) (g h:Nat→Nat→Int):Prop where
 b1:bdE 1073741824 n w (rwF k g)
 b2:bdE 1073741824 n w h
 z:zI n w k h
 nd:ndE 40 n w h
 dt:detC n w k h
 kk:h k k=x
 r1:k+1<n→rwF k g (k+1) k=h (k+1) k∧(h (k+1) k).natAbs≤p
 c1:k+1<w→h k (k+1)=(g k (k+1)).tmod x∧(h k (k+1)).natAbs≤p
theorem sm_pass {n w k i j p:Nat} {f:Nat→Nat→Int} (hk:k<n∧k<w) (hn:n≤k+2) (hw:w≤k+2) (hg:lsG f n w k i j) (hp:(f i j).natAbs=p+1) (hp16:p+1≤16) (hz:zI n w k f) (hb:ndE 40 n w f) (hd:detC n w k f) :
  passO n w k p (f i j) (swF k i j f) (rstF k (swF k i j f)):=by
 obtain ⟨i1,i2,j1,j2,hnz⟩:=hg
 have hzg:=zI_sw hz hk.1 hk.2 i1 i2 j1 j2
 have hbg:ndE 40 n w (swF k i j f):=fun a b ha hb2=>hb _ _ (swI_lt hk.1 i2 ha) (swI_lt hk.2 j2 hb2)
 have hdg:detC n w k (swF k i j f):=fun h1 h2=>by
  rw [dtQ_sw (by omega) (by omega)]
  exact hd h1 h2
 have hkk:swF k i j f k k=f i j:=by unfold swF; rw [swI_l,swI_l]
 rw [← hkk] at hp hnz ⊢
 generalize swF k i j f=g at *
 clear hb hz hd hkk
 have r2:∀ b,rwF k g k b=g k b:=fun b=>rwF_top
 have r4:∀ a b,a<n→b<w→(rwF k g a b).natAbs≤1640:=fun a b ha hb=>by
  have h1:=hbg a b ha hb
  unfold rwF rwV
  split
  ·have h2:=bd_mul (Nat.le_trans (tdiv_bd (g a k) (g k k)) (hbg a k ha hk.2)) (hbg k b hk.1 hb)
   omega
  ·omega
 have s4:∀ a b,a<n→b<w→(rstF k g a b).natAbs≤2000000000 / 2:=fun a b ha hb=>by
  have h1:=r4 a b ha hb
  show (clF k (rwF k g) a b).natAbs≤_
  unfold clF clV
  split
  ·have h2:=bd_mul (Nat.le_trans (tdiv_bd (rwF k g k b) (rwF k g k k)) (r4 k b hk.1 hb)) (r4 a k ha hk.2)
   omega
  ·omega
 have hkk:rstF k g k k=g k k:=rst_kk
 have hR:k+1<n→rwF k g (k+1) k=(g (k+1) k).tmod (g k k):=fun h=>by
  unfold rwF rwV
  rw [if_pos ⟨by omega,Nat.le_refl k⟩]
  exact tmod_sub _ _
 have hR2:k+1<n→rwF k g (k+1) (k+1)=g (k+1) (k+1)-(g (k+1) k).tdiv (g k k)*g k (k+1):=fun h=>by
  unfold rwF rwV
  rw [if_pos ⟨by omega,by omega⟩]
 have hH1:rstF k g (k+1) k=rwF k g (k+1) k:=by
  show clF k (rwF k g) (k+1) k=_
  unfold clF
  rw [if_neg (by omega)]
 have hH2:rstF k g k (k+1)=(g k (k+1)).tmod (g k k):=by
  show clF k (rwF k g) k (k+1)=_
  unfold clF clV
  rw [if_pos ⟨Nat.le_refl k,by omega⟩,r2,r2]
  exact tmod_sub _ _
 have hH3:rstF k g (k+1) (k+1)=rwF k g (k+1) (k+1)-(g k (k+1)).tdiv (g k k)*rwF k g (k+1) k:=by
  show clF k (rwF k g) (k+1) (k+1)=_
  unfold clF clV
  rw [if_pos ⟨by omega,by omega⟩,r2,r2]
 have hdet:k+1<n→k+1<w→dtQ k (rstF k g)=dtQ k g:=fun h1 h2=>by
  unfold dtQ
  rw [hkk,hH1,hH2,hH3,hR h1,hR2 h1,← tmod_sub (g (k+1) k),← tmod_sub (g k (k+1))]
  exact det_step _ _ _ _ _ _
 have hr1:k+1<n→(rstF k g (k+1) k).natAbs≤p:=fun h=>by
  rw [hH1,hR h]
  exact tmod_lt hp
 have hc1:(rstF k g k (k+1)).natAbs≤p:=by
  rw [hH2]
  exact tmod_lt hp
 have h11:k+1<n→k+1<w→(rstF k g (k+1) (k+1)).natAbs≤40:=fun h1 h2=>by
  have e:=hdg h1 h2
  rw [← hdet h1 h2] at e
  unfold dtQ at e
  rw [hkk] at e
  have e2:=bd_mul hc1 (hr1 h1)
  have e3:(g k k*rstF k g (k+1) (k+1)).natAbs=(p+1)*(rstF k g (k+1) (k+1)).natAbs:=by rw [Int.natAbs_mul,hp]
  have e4:(g k k*rstF k g (k+1) (k+1)).natAbs≤24+p*p:=by omega
  rw [e3] at e4
  refine Nat.le_of_not_lt fun hlt => ?_
  have e5:(p+1)*41≤(p+1)*(rstF k g (k+1) (k+1)).natAbs:=Nat.mul_le_mul_left _ hlt
  have e6:p*p≤15*p:=Nat.mul_le_mul_right _ (by omega)
  omega
 refine ⟨fun a b ha hb => ?_,fun a b ha hb => ?_,zI_rst hzg,fun a b ha hb => ?_,fun h1 h2 => ?_,hkk,fun h=>⟨hH1.symm,hr1 h⟩,fun h=>⟨hH2,hc1⟩⟩
 ·have:=r4 a b ha hb; omega
 ·have:=s4 a b ha hb; omega
 ·by_cases hlow:a<k∨b<k
  ·rw [rst_low hlow]; exact hbg a b ha hb
  ·by_cases ea:a=k
   ·subst ea
    by_cases eb:b=a
    ·subst eb; rw [hkk,hp]; omega
    ·have:b=a+1:=by omega
     subst this
     omega
   ·have:a=k+1:=by omega
    subst this
    by_cases eb:b=k
    ·subst eb
     have:=hr1 ha
     omega
    ·have:b=k+1:=by omega
     subst this
     exact h11 ha hb
 ·rw [hdet h1 h2]; exact hdg h1 h2
theorem sm_one {n w k:Nat} {f:Nat→Nat→Int} (out:List Int) (hn:n≤k+1) (hw:w≤k+1) (hz:zI n w k f) (hb:ndE 40 n w f):∃ q R,smR n w q f k out=some R:=by
 by_cases hk:k<n∧k<w
 rotate_left
 ·exact ⟨1,out,smR_end hk⟩
 rcases lsZ_full f n w k with ⟨e,_⟩ | ⟨i,j,e,hg,hmin⟩
 ·exact ⟨1,out,smR_zero hk e⟩
 have hi:i=k:=by have:=hg.i1; have:=hg.i2; omega
 have hj:j=k:=by have:=hg.j1; have:=hg.j2; omega
 obtain ⟨h,h1,_⟩:=sm_div hk e hg hz (B:=40) (by omega) hb fun a b ha1 ha2 hb1 hb2=>by
  rw [show a=i by omega,show b=j by omega]
  exact Int.dvd_refl _
 exact ⟨2,_,(h1 1 out).trans (smR_end (by omega))⟩
theorem sm_two {n w k:Nat} (hk:k<n∧k<w) (hn:n≤k+2) (hw:w≤k+2):∀ (p:Nat) (f:Nat→Nat→Int) (out:List Int),p≤16→zI n w k f→ndE 40 n w f→detC n w k f →
  (∃ a b,k≤a∧a<n∧k≤b∧b<w∧f a b≠0∧(f a b).natAbs≤p)→∃ q R,smR n w q f k out=some R
 | 0,f,out,_,_,_,_,⟨a,b,_,_,_,_,h1,h2⟩=>absurd h2 (by omega)
 | p+1,f,out,hp,hz,hb,hd,⟨a,b,ha1,ha2,hb1,hb2,hab,hle⟩=>by
  rcases lsZ_full f n w k with ⟨e,_⟩ | ⟨i,j,e,hg,hmin⟩
  ·exact ⟨1,out,smR_zero hk e⟩
  have hm:=hmin a b ha1 ha2 hb1 hb2 hab
  by_cases hsm:(f i j).natAbs≤p
  ·exact sm_two hk hn hw p f out (by omega) hz hb hd ⟨i,j,hg.i1,hg.i2,hg.j1,hg.j2,hg.nz,hsm⟩
  have hfp:(f i j).natAbs=p+1:=by omega
  have P:=sm_pass hk hn hw hg hfp hp hz hb hd
  by_cases hc:clnP n w k (swF k i j f)
  rotate_left
  ·have hnz:(k+1<n∧rstF k (swF k i j f) (k+1) k≠0)∨(k+1<w∧rstF k (swF k i j f) k (k+1)≠0):=by
    refine Classical.byContradiction fun hno=>hc ⟨fun x hx1 hx2 => ?_,fun x hx1 hx2 => ?_⟩
    ·have hx:x=k+1:=by omega
     subst hx
     rw [(P.r1 hx2).1]
     exact Classical.byContradiction fun h0=>hno (.inl ⟨hx2,h0⟩)
    ·have hx:x=k+1:=by omega
     subst hx
     exact Classical.byContradiction fun h0=>hno (.inr ⟨hx2,h0⟩)
   have hex:∃ a b,k≤a∧a<n∧k≤b∧b<w∧rstF k (swF k i j f) a b≠0∧(rstF k (swF k i j f) a b).natAbs≤p:=by
    rcases hnz with ⟨h1,h2⟩ | ⟨h1,h2⟩
    ·exact ⟨k+1,k,by omega,h1,Nat.le_refl k,hk.2,h2,(P.r1 h1).2⟩
    ·exact ⟨k,k+1,Nat.le_refl k,hk.1,by omega,h1,h2,(P.c1 h1).2⟩
   obtain ⟨q,R,hq⟩:=sm_two hk hn hw p _ out (by omega) P.z P.nd P.dt hex
   exact ⟨q+1,R,(smR_dirty hk e ⟨P.b1,P.b2⟩ hc).trans hq⟩
  have hzs:=zI_rst_succ (zI_sw hz hk.1 hk.2 hg.i1 hg.i2 hg.j1 hg.j2) hc
  by_cases ho:odZ (rstF k (swF k i j f)) n w k<0
  ·obtain ⟨q,R,hq⟩:=sm_one (out++[((rstF k (swF k i j f) k k).natAbs:Int)]) (by omega) (by omega) hzs P.nd
   exact ⟨q+1,R,(smR_done hk e ⟨P.b1,P.b2⟩ hc ho).trans hq⟩
  -- a number that the corner does not divide
  rcases odI_spec (rstF k (swF k i j f)) w k (n-(k+1)) (k+1) with ⟨eo,_⟩ | ⟨o,eo,c1,c2,⟨x,x1,x2,x3⟩⟩
  ·exact absurd (show odZ (rstF k (swF k i j f)) n w k<0 by unfold odZ; omega) ho
  have ho1:o=k+1:=by omega
  have hx1:x=k+1:=by omega
  subst ho1
  subst hx1
  have hn1:k+1<n:=by omega
  have eo':odZ (rstF k (swF k i j f)) n w k=((k+1:Nat):Int):=eo
  have hc1:rstF k (swF k i j f) (k+1) k=0:=by rw [← (P.r1 hn1).1]; exact hc.1 _ (by omega) hn1
  have hb1':rstF k (swF k i j f) k (k+1)=0:=hc.2 _ (by omega) x2
  obtain ⟨h,eh⟩:∃ h,rstF k (swF k i j f)=h:=⟨_,rfl⟩
  have hgo:=fun q=>smR_odd (q:=q) (out:=out) hk e ⟨P.b1,P.b2⟩ hc eo'
  have Pnd:=P.nd
  have Pdt:=P.dt
  have Pkk:=P.kk
  have Pz:=P.z
  rw [eh] at hc1 hb1' x3 hgo Pnd Pdt Pkk Pz
  have F1:addF k (k+1) h k k=f i j:=by unfold addF; rw [if_pos ⟨rfl,Nat.le_refl k⟩,hc1,Pkk]; omega
  have F2:addF k (k+1) h k (k+1)=h (k+1) (k+1):=by unfold addF; rw [if_pos ⟨rfl,by omega⟩,hb1']; omega
  have F3:addF k (k+1) h (k+1) k=0:=by unfold addF; rw [if_neg (by omega),hc1]
  have F4:addF k (k+1) h (k+1) (k+1)=h (k+1) (k+1):=by unfold addF; rw [if_neg (by omega)]
  have F5:∀ a b,a<k∨b<k→addF k (k+1) h a b=h a b:=fun a b hab=>by unfold addF; rw [if_neg (by omega)]
  have Fz:zI n w k (addF k (k+1) h):=zI_addF Pz (by omega) hn1
  have h11:=Pnd (k+1) (k+1) hn1 x2
  have Fnd:ndE 40 n w (addF k (k+1) h):=fun a b ha hb=>by
   by_cases hlow:a<k∨b<k
   ·rw [F5 a b hlow]; exact Pnd a b ha hb
   ·have hak:a=k∨a=k+1:=by omega
    have hbk:b=k∨b=k+1:=by omega
    rcases hak with ea | ea <;> rcases hbk with eb | eb <;> rw [ea,eb]
    ·rw [F1,hfp]; omega
    ·rw [F2]; exact h11
    ·rw [F3]; decide
    ·rw [F4]; exact h11
  have Fdt:detC n w k (addF k (k+1) h):=fun g1 g2=>by
   have:=Pdt g1 g2
   unfold dtQ at this ⊢
   rw [F1,F2,F3,F4,Int.mul_zero]
   rw [Pkk,hc1,Int.mul_zero] at this
   exact this
  have Fbd:bdE 1073741824 n w (addF k (k+1) h):=fun a b ha hb=>by have:=Fnd a b ha hb; omega
  have hne:h (k+1) (k+1)≠0:=fun h0=>x3 (by rw [h0]; simp)
  suffices hs:∃ q R,smR n w q (addF k (k+1) h) k out=some R by
   obtain ⟨q,R,hq⟩:=hs
   refine ⟨q+1,R,?_⟩
   rw [hgo,if_pos Fbd]
   exact hq
  by_cases hsm2:(h (k+1) (k+1)).natAbs≤p
  ·exact sm_two hk hn hw p _ out (by omega) Fz Fnd Fdt ⟨k+1,k+1,by omega,hn1,by omega,x2,by rw [F4]; exact hne,by rw [F4]; exact hsm2⟩
  obtain ⟨F,eF⟩:∃ F,addF k (k+1) h=F:=⟨_,rfl⟩
  rw [eF] at F1 F2 F3 F4 Fz Fnd Fdt ⊢
  rcases lsZ_full F n w k with ⟨e2,hall⟩ | ⟨i2,j2,e2,hg2,hmin2⟩
  ·exact ⟨1,out,smR_zero hk e2⟩
  have hm2:=hmin2 k k (Nat.le_refl k) hk.1 (Nat.le_refl k) hk.2 (by rw [F1]; exact hg.nz)
  rw [F1,hfp] at hm2
  have hnd11:(h (k+1) (k+1)).natAbs≠p+1:=fun h0=>x3 (Int.tmod_eq_zero_of_dvd (by
   rw [Pkk,← Int.natAbs_dvd_natAbs,hfp,h0]
   exact Nat.dvd_refl _))
  have hij:i2=k∧j2=k:=by
   have h1:=hg2.i1
   have h2:=hg2.i2
   have h3:=hg2.j1
   have h4:=hg2.j2
   have h5:=hg2.nz
   have hik:i2=k∨i2=k+1:=by omega
   have hjk:j2=k∨j2=k+1:=by omega
   rcases hik with ea | ea <;> rcases hjk with eb | eb
   ·exact ⟨ea,eb⟩
   ·rw [ea,eb,F2] at hm2; omega
   ·rw [ea,eb,F3] at h5; exact absurd rfl h5
   ·rw [ea,eb,F4] at hm2; omega
  obtain ⟨e3,e4⟩:=hij
  rw [e3,e4] at e2 hg2
  have hsw:swF k k k F=F:=by
   have hs:∀ y,swI k k y=y:=fun y=>by
    unfold swI
    by_cases h0:y=k
    ·rw [if_pos h0,h0]
    ·rw [if_neg h0,if_neg h0]
   funext a b
   unfold swF
   rw [hs,hs]
  have P2:=sm_pass hk hn hw hg2 (by rw [F1]; exact hfp) hp Fz Fnd Fdt
  rw [hsw] at P2
  have hnc:(F k (k+1)).tmod (F k k)≠0:=by
   rw [F1,F2,← Pkk]
   exact x3
  have hnz2:rstF k F k (k+1)≠0:=by
   rw [(P2.c1 x2).1]
   exact hnc
  have hc2:¬clnP n w k F:=fun hcl=>hnz2 (hcl.2 _ (by omega) x2)
  obtain ⟨q,R,hq⟩:=sm_two hk hn hw p _ out (by omega) P2.z P2.nd P2.dt ⟨k,k+1,Nat.le_refl k,hk.1,by omega,x2,hnz2,(P2.c1 x2).2⟩
  refine ⟨q+1,R,?_⟩
  have hd2:=smR_dirty (q:=q) (out:=out) hk e2 (by rw [hsw]; exact ⟨P2.b1,P2.b2⟩) (by rw [hsw]; exact hc2)
  rw [hsw] at hd2
  exact hd2.trans hq
def fcN:Nat→Nat
 | 0=>1
 | n+1=>(n+1)*fcN n
theorem smS_bd {f:Nat→Int} {B:Nat}:∀ n,(∀ i,i<n→(f i).natAbs≤B)→(smS f n).natAbs≤n*B
 | 0,_=>by simp [smS]
 | n+1,h=>by
  have h1:=smS_bd n fun i hi=>h i (by omega)
  have h2:=h n (by omega)
  show (smS f n+f n).natAbs≤_
  rw [Nat.succ_mul]
  omega
theorem altI_abs (i:Nat):(altI i).natAbs=1:=by unfold altI; split <;> rfl
theorem dtM_bd:∀ (n:Nat) {M:Nat→Nat→Int},(∀ a b,a<n→b<n→(M a b).natAbs≤1)→(dtM n M).natAbs≤fcN n
 | 0,M,_=>by
  show (1:Int).natAbs≤1
  decide
 | n+1,M,h=>by
  rw [dtM_succ]
  refine smS_bd (B:=fcN n) _ fun i hi => ?_
  rw [Int.natAbs_mul,Int.natAbs_mul,altI_abs,Nat.one_mul]
  have h1:=h i 0 hi (by omega)
  have h2:=dtM_bd n (M:=fun a b=>M (skI i a) (b+1)) fun a b ha hb=>h _ _ (skI_bnd ha) (by omega)
  have h3:=Nat.mul_le_mul h1 h2
  omega
theorem dtL_bd {n w:Nat} {f:Nat→Nat→Int} (h:ndE 1 n w f) {R C:List Nat} (hl:R.length=C.length) (hr:∀ r∈R,r<n) (hc:∀ c∈C,c<w):(dtL f R C).natAbs≤fcN R.length:=by
 unfold dtL
 exact dtM_bd _ fun a b ha hb=>h _ _ (hr _ (gD_mem ha)) (hc _ (gD_mem (by omega)))
theorem dtL_two (f:Nat→Nat→Int) (k:Nat):dtL f [k,k+1] [k,k+1]=dtQ k f:=by
 rw [dtL_cons _ _ _ _ (by simp)]
 show (0+altI 0*(f k k*dtL f [k+1] [k+1]))+altI 1*(f (k+1) k*dtL f [k] [k+1])=_
 rw [dtL_one,dtL_one]
 unfold dtQ
 rw [show altI 0=1 from rfl,show altI 1 = -1 from rfl,Int.mul_comm (f (k+1) k)]
 omega
theorem len_two {n:Nat} {R:List Nat} (hR:R.Nodup) (h:∀ r∈R,r<n):R.length≤n:=nodup_small n R hR h
theorem sm_small {n w:Nat} {f:Nat→Nat→Int} (hn:n≤4) (hw:w≤4) (hf:ndE 1 n w f):∃ q R,smR n w q f 0 []=some R:=by
 by_cases hk:0<n∧0<w
 rotate_left
 ·exact ⟨1,[],smR_end hk⟩
 rcases lsZ_full f n w 0 with ⟨e,_⟩ | ⟨i,j,e,hg,hmin⟩
 ·exact ⟨1,[],smR_zero hk e⟩
 have hp:=hf i j hg.i2 hg.j2
 have hp1:(f i j).natAbs=1:=by have:=hg.nz; omega
 obtain ⟨h,s1,hz,hb,hmn⟩:=sm_div hk e hg (fun a b _ _ h=>by omega) (B:=1) (by omega) hf fun a b _ _ _ _=>by
  rw [← Int.natAbs_dvd_natAbs,hp1]
  exact Nat.one_dvd _
 have hmn3:∀ R C:List Nat,R.length=C.length→R.Nodup→C.Nodup→(∀ r∈R,1≤r∧r<n)→(∀ c∈C,1≤c∧c<w)→R.length=3→(dtL h R C).natAbs≤24:=fun R C hl hR hC hr hc h3=>by
  obtain ⟨R',C',m1,m2,m3,m4,m5,m6,m7⟩:=hmn R C hl hR hC (fun r hm=>by have:=hr r hm; omega) (fun c hm=>by have:=hc c hm; omega) (by omega)
  rw [hp1,Nat.one_mul] at m7
  rw [m7]
  have:=dtL_bd hf (R:=R') (C:=C') (by omega) (fun r hm=>(m5 r hm).2) fun c hm=>(m6 c hm).2
  rw [m1,h3] at this
  exact this
 suffices hs:∀ out,∃ q R,smR n w q h 1 out=some R by
  obtain ⟨q,R,hq⟩:=hs ([]++[((f i j).natAbs:Int)])
  exact ⟨q+1,R,(s1 q []).trans hq⟩
 intro out
 clear s1 hmn hp hp1 hmin e hg
 by_cases hk1:1<n∧1<w
 rotate_left
 ·exact ⟨1,out,smR_end hk1⟩
 rcases lsZ_full h n w 1 with ⟨e,_⟩ | ⟨i,j,e,hg,hmin⟩
 ·exact ⟨1,out,smR_zero hk1 e⟩
 have hb2:ndE 2 n w h:=fun a b ha hb'=>hb a b ha hb'
 obtain ⟨h2,s2,hz2,hb3,hmn2⟩:=sm_div hk1 e hg hz (B:=2) (by omega) hb2 fun a b ha1 ha2 hb1 hb2'=>by
  by_cases h0:h a b=0
  ·rw [h0]; exact Int.dvd_zero _
  ·have h1:=hmin a b ha1 ha2 hb1 hb2' h0
   have h3:=hb2 a b ha2 hb2'
   have h4:=hg.nz
   rw [← Int.natAbs_dvd_natAbs]
   have h5:(h i j).natAbs=1∨(h i j).natAbs=(h a b).natAbs:=by omega
   rcases h5 with h5 | h5
   ·rw [h5]; exact Nat.one_dvd _
   ·rw [h5]; exact Nat.dvd_refl _
 suffices hs:∀ out,∃ q R,smR n w q h2 2 out=some R by
  obtain ⟨q,R,hq⟩:=hs (out++[((h i j).natAbs:Int)])
  exact ⟨q+1,R,(s2 q out).trans hq⟩
 intro out2
 by_cases hk2:2<n∧2<w
 rotate_left
 ·exact ⟨1,out2,smR_end hk2⟩
 have hb6:ndE 6 n w h2:=fun a b ha hb'=>hb3 a b ha hb'
 rcases lsZ_full h2 n w 2 with ⟨e2,_⟩ | ⟨i2,j2,e2,hg2,hmin2⟩
 ·exact ⟨1,out2,smR_zero hk2 e2⟩
 refine sm_two hk2 (by omega) (by omega) 6 h2 out2 (by omega) hz2 (fun a b ha hb'=>by have:=hb6 a b ha hb'; omega) (fun g1 g2 => ?_) ⟨i2,j2,hg2.i1,hg2.i2,hg2.j1,hg2.j2,hg2.nz,hb6 _ _ hg2.i2 hg2.j2⟩
 obtain ⟨R',C',m1,m2,m3,m4,m5,m6,m7⟩:=hmn2 [2,2+1] [2,2+1] rfl (by simp) (by simp) (by simp; omega) (by simp; omega) (by simp)
 rw [dtL_two] at m7
 have h24:=hmn3 R' C' (by omega) m3 m4 m5 m6 m1
 have h1:1≤(h i j).natAbs:=by have:=hg.nz; omega
 have h5:(dtQ 2 h2).natAbs≤(h i j).natAbs*(dtQ 2 h2).natAbs:=Nat.le_mul_of_pos_left _ h1
 omega
theorem fcN_le {n:Nat} (h:n≤4):fcN n≤24:=by
 have:∀ n:Nat,n<5→fcN n≤24:=by decide
 exact this n (by omega)
theorem smith4 {M:List (List Int)} (hn:M.length≤4) (hw:wdM M≤4):∃ R,smsV M=some R∧smiV M=some R:=by
 by_cases hc:M≠[]∧smiM M
 ·have h1:ndE 1 M.length (wdM M) (ent M):=fun a b ha hb=>by have:=hc.2.1.2.2.2 a b ha hb; omega
  obtain ⟨q,R,hq⟩:=sm_small hn hw h1
  have hs:smsV M=some R:=by
   unfold smsV
   rw [if_pos hc]
   exact smV_iff.2 ⟨_,hq⟩
  refine ⟨R,hs,smi_sms (T:=24) (fun A C hl hA hC ha hcc => ?_) (by omega) (by omega) hs⟩
  have:=dtL_bd h1 hl ha hcc
  have h4:=len_two hA ha
  have:=fcN_le (n:=A.length) (by omega)
  omega
 ·have hs:smsV M=some []:=by
   unfold smsV
   rw [if_neg hc]
  refine ⟨[],hs,?_⟩
  by_cases h0:M=[]
  ·refine smi_sms (T:=1) (fun A C hl hA hC ha hcc => ?_) (by omega) (by omega) hs
   have hA0:A=[]:=by
    cases A with
    | nil=>rfl
    | cons a l =>
     have:=ha a List.mem_cons_self
     rw [h0] at this
     exact absurd this (Nat.not_lt_zero _)
   rw [hA0]
   show (1:Int).natAbs≤1
   decide
  ·unfold smiV
   rw [if_neg fun h=>hc ⟨h0,h.resolve_left h0⟩]
def rws (n R:Nat):List Nat:=(List.range n).filter fun r=>R.testBit r
theorem rws_succ (n R:Nat):rws (n+1) R=rws n R++(if R.testBit n=true then [n] else []):=by
 unfold rws
 rw [List.range_succ,List.filter_append]
 cases h:R.testBit n <;> simp [h]
theorem mem_rws {n R r:Nat}:r∈rws n R↔r<n∧R.testBit r=true:=by
 unfold rws; simp [List.mem_filter]
theorem rws_nodup (n R:Nat):(rws n R).Nodup:=List.Nodup.sublist List.filter_sublist List.nodup_range
theorem smS_succ (f:Nat→Int) (n:Nat):smS f (n+1)=smS f n+f n:=rfl
theorem erIdx:∀ {l:List Nat},l.Nodup→∀ {i:Nat} (h:i<l.length),l.eraseIdx i=l.filter fun r => !decide (r=l[i])
 | [],_,_,h=>by simp at h
 | x::l,hn,0,h=>by
  rw [List.nodup_cons] at hn
  simp only [List.eraseIdx_cons_zero,List.getElem_cons_zero,List.filter_cons,decide_true,Bool.not_true,Bool.false_eq_true,if_false]
  exact (List.filter_eq_self.2 fun y hy=>by
   have:y≠x:=fun e=>hn.1 (e ▸ hy)
   simp [this]).symm
 | x::l,hn,i+1,h=>by
  rw [List.nodup_cons] at hn
  have hx:x≠l[i]'(by simpa using h):=fun e=>hn.1 (e ▸ List.getElem_mem _)
  simp only [List.eraseIdx_cons_succ,List.getElem_cons_succ,List.filter_cons]
  rw [erIdx hn.2 (by simpa using h)]
  simp [hx]
theorem smS_rws (g:Nat→Nat→Int) (R:Nat):∀ n,smS (fun i=>g i ((rws n R).getD i 0)) (rws n R).length=smS (fun r=>if R.testBit r=true then g (rws r R).length r else 0) n
 | 0=>rfl
 | n+1=>by
  have ih:=smS_rws g R n
  rw [smS_succ,← ih,rws_succ]
  by_cases h:R.testBit n=true
  ·rw [if_pos h,if_pos h,List.length_append,List.length_singleton,smS_succ]
   rw [smS_congr (g:=fun i=>g i ((rws n R).getD i 0)) _ fun i hi => ?_]
   ·simp [List.getD_eq_getElem?_getD]
   ·simp [List.getD_eq_getElem?_getD,List.getElem?_append_left hi]
  ·rw [if_neg h,if_neg h,List.append_nil,Int.add_zero]
theorem erase_rws {n R:Nat} {i:Nat} (hi:i<(rws n R).length):(rws n R).eraseIdx i=rws n (R ^^^ 2 ^ ((rws n R).getD i 0)):=by
 have e:(rws n R).getD i 0=(rws n R)[i]:=by simp [List.getD_eq_getElem?_getD,hi]
 rw [e,erIdx (rws_nodup n R) hi]
 have hm:(rws n R)[i]∈rws n R:=List.getElem_mem hi
 obtain ⟨hx,hb⟩:=mem_rws.1 hm
 generalize (rws n R)[i]=x at *
 unfold rws
 rw [List.filter_filter]
 refine List.filter_congr fun r hr => ?_
 rw [flp_bit]
 by_cases h:r=x
 ·subst h; simp [hb]
 ·simp [h]
def eS (b:Bool):Int:=if b then -1 else 1
def enC:List (Nat×Bool)→Nat→Int
 | [],_=>0
 | x::l,a=>(if x.1=a then eS x.2 else 0)+enC l a
theorem enC_cons (x:Nat×Bool) (l:List (Nat×Bool)) (a:Nat):enC (x::l) a=(if x.1=a then eS x.2 else 0)+enC l a:=rfl
def eM (E:List (List (Nat×Bool))) (a b:Nat):Int:=enC (E.getD b []) a
def pOdd (R:Nat):Nat→Bool
 | 0=>false
 | r+1=>pOdd R r ^^ R.testBit r
theorem pOdd_alt (R:Nat):∀ r,altI (rws r R).length=eS (pOdd R r)
 | 0=>rfl
 | r+1=>by
  rw [rws_succ,List.length_append]
  unfold pOdd
  have ih:=pOdd_alt R r
  cases h:R.testBit r with
  | false=>simpa using ih
  | true =>
   simp only [if_true,List.length_singleton,altI_succ,ih]
   cases pOdd R r <;> rfl
def wdL (W:Nat→Int) (R:Nat):List (Nat×Bool)→Int
 | []=>0
 | x::l=>(if R.testBit x.1=true then eS (pOdd R x.1 ^^ x.2)*W (R ^^^ 2 ^ x.1) else 0)+wdL W R l
def wd (E:List (List (Nat×Bool))):List Nat→Nat→Int
 | [],R=>if R=0 then 1 else 0
 | c::C,R=>wdL (wd E C) R (E.getD c [])
theorem eS_xor (a b:Bool):eS (a ^^ b)=eS a*eS b:=by cases a <;> cases b <;> rfl
theorem wdL_sum (W:Nat→Int) (R n:Nat):∀ l:List (Nat×Bool),(∀ x∈l,x.1<n)→smS (fun r=>if R.testBit r=true then eS (pOdd R r)*(enC l r*W (R ^^^ 2 ^ r)) else 0) n=wdL W R l
 | [],_=>by
  rw [smS_z fun r _=>by simp [enC]]
  rfl
 | x::l,h=>by
  have ih:=wdL_sum W R n l fun y hy=>h y (List.mem_cons_of_mem _ hy)
  unfold wdL
  rw [← ih,← smS_one (s:=x.1) (f:=fun r=>if r=x.1 then (if R.testBit r=true then eS (pOdd R r ^^ x.2)*W (R ^^^ 2 ^ r) else 0) else 0) n (h x List.mem_cons_self) (fun i _ hne=>if_neg hne) |>.trans (if_pos rfl),← smS_add]
  refine smS_congr _ fun r _ => ?_
  rw [enC_cons]
  by_cases hb:R.testBit r=true
  ·simp only [hb,if_true]
   by_cases e:r=x.1
   ·subst e
    rw [if_pos rfl,if_pos rfl,eS_xor,Int.add_mul,Int.mul_add,Int.mul_assoc]
   ·rw [if_neg e,if_neg fun h=>e h.symm,Int.zero_add,Int.zero_add]
  ·simp [hb]
theorem wd_dt (E:List (List (Nat×Bool))) {n:Nat} (hE:∀ c,∀ x∈E.getD c [],x.1<n):∀ (C:List Nat) (R:Nat),R<2 ^ n→(rws n R).length=C.length→wd E C R=dtL (eM E) (rws n R) C
 | [],R,hR,h=>by
  have h0:rws n R=[]:=List.length_eq_zero_iff.1 h
  have:R=0:=by
   apply Nat.eq_of_testBit_eq
   intro i
   rw [Nat.zero_testBit]
   cases hb:R.testBit i with
   | false=>rfl
   | true =>
    by_cases hi:i<n
    ·have:i∈rws n R:=mem_rws.2 ⟨hi,hb⟩
     rw [h0] at this; simp at this
    ·have:=Nat.testBit_lt_two_pow (Nat.lt_of_lt_of_le hR (Nat.pow_le_pow_right (by omega) (Nat.le_of_not_lt hi)))
     rw [hb] at this; cases this
  subst this
  rw [h0]; rfl
 | c::C,R,hR,h=>by
  have hne:rws n R≠[]:=fun e=>by rw [e] at h; simp at h
  rw [dtL_cons _ _ _ _ hne]
  have e1:=smS_rws (fun i r=>altI i*(eM E r c*dtL (eM E) (rws n (R ^^^ 2 ^ r)) C)) R n
  rw [smS_congr (g:=fun i=>altI i*(eM E ((rws n R).getD i 0) c*dtL (eM E) (rws n (R ^^^ 2 ^ ((rws n R).getD i 0))) C)) _ fun i hi=>by rw [erase_rws hi],e1]
  unfold wd
  rw [← wdL_sum (wd E C) R n _ (hE c)]
  refine smS_congr _ fun r hr => ?_
  by_cases hb:R.testBit r=true
  ·rw [if_pos hb,if_pos hb,pOdd_alt]
   have hl:(rws n (R ^^^ 2 ^ r)).length=C.length:=by
    have hm:r∈rws n R:=mem_rws.2 ⟨hr,hb⟩
    obtain ⟨i,hi,ei⟩:=List.getElem_of_mem hm
    have e2:=erase_rws (n:=n) (R:=R) hi
    have e3:(rws n R).getD i 0=r:=by simp [List.getD_eq_getElem?_getD,hi,ei]
    rw [e3] at e2
    rw [← e2]
    have:=len_erase hi
    simp only [List.length_cons] at h
    omega
   rw [wd_dt E hE C _ (flp_lt hR hr) hl]
   rfl
  ·rw [if_neg hb,if_neg hb]
def b2i (b:Bool):Int:=if b then 1 else 0
def pl3 (a b s:Bool):Int:=b2i a+2*b2i b-4*b2i s
def pl4 (a b c d:Bool):Int:=b2i a+2*b2i b+4*b2i c+8*b2i d
def adA (A0 x0 g:Nat):Nat:=(A0 ^^^ x0) ^^^ g
def adC (A0 x0 g:Nat):Nat:=(A0 &&& x0) ||| (g &&& (A0 ^^^ x0))
def bdA (A0 x0 g:Bool):Bool:=(A0 ^^ x0) ^^ g
def bdC (A0 x0 g:Bool):Bool:=(A0 && x0) || (g && (A0 ^^ x0))
theorem adA_bit (A x g R:Nat):(adA A x g).testBit R=bdA (A.testBit R) (x.testBit R) (g.testBit R):=by
 unfold adA bdA; rw [Nat.testBit_xor,Nat.testBit_xor]
theorem adC_bit (A x g R:Nat):(adC A x g).testBit R=bdC (A.testBit R) (x.testBit R) (g.testBit R):=by
 unfold adC bdC; rw [Nat.testBit_or,Nat.testBit_and,Nat.testBit_and,Nat.testBit_xor]
theorem add_bits:∀ A0 A1 A2 A3 x0 x1 x2 g:Bool,
  (pl4 (bdA A0 (x0 ^^ g) g) (bdA A1 (x1 ^^ g) (bdC A0 (x0 ^^ g) g)) (bdA A2 (x2 ^^ g) (bdC A1 (x1 ^^ g) (bdC A0 (x0 ^^ g) g))) (bdA A3 (x2 ^^ g) (bdC A2 (x2 ^^ g) (bdC A1 (x1 ^^ g) (bdC A0 (x0 ^^ g) g))))
   - (pl4 A0 A1 A2 A3+eS g*pl3 x0 x1 x2)) % 16=0:=by decide
def tmS {α:Type} (sh X g a b s A0 A1 A2 A3:Nat) (k:Nat→Nat→Nat→Nat→α):α :=
 frc (((a <<< sh) &&& X) ^^^ g) fun x0=>frc (((b <<< sh) &&& X) ^^^ g) fun x1=>frc (((s <<< sh) &&& X) ^^^ g) fun x2 =>
 frc (adC A0 x0 g) fun c0=>frc (adC A1 x1 c0) fun c1=>frc (adC A2 x2 c1) fun c2 =>
 frc (adA A0 x0 g) fun S0=>frc (adA A1 x1 c0) fun S1=>frc (adA A2 x2 c1) fun S2=>frc (adA A3 x2 c2) fun S3=>k S0 S1 S2 S3
def clmS {α:Type} (Ms:List (Nat×Nat×Nat×Nat)) (a b s:Nat):List (Nat×Bool)→Nat→Nat→Nat→Nat→(Nat→Nat→Nat→Nat→α)→α
 | [],A0,A1,A2,A3,k=>k A0 A1 A2 A3
 | x::l,A0,A1,A2,A3,k=>match Ms.getD x.1 (0,0,0,0) with
  | (sh,X,g0,g1)=>tmS sh X (cond x.2 g1 g0) a b s A0 A1 A2 A3 fun B0 B1 B2 B3=>clmS Ms a b s l B0 B1 B2 B3 k
def at4 (A0 A1 A2 A3 R:Nat):Int:=pl4 (A0.testBit R) (A1.testBit R) (A2.testBit R) (A3.testBit R)
def at3 (a b s R:Nat):Int:=pl3 (a.testBit R) (b.testBit R) (s.testBit R)
structure MsOk (n:Nat) (Ms:List (Nat×Nat×Nat×Nat)):Prop where
 sh:∀ r,r<n→(Ms.getD r (0,0,0,0)).1=2 ^ r
 xx:∀ r,r<n→(Ms.getD r (0,0,0,0)).2.1=varM n r
 g0:∀ r,r<n→∀ R,R<2 ^ n→(Ms.getD r (0,0,0,0)).2.2.1.testBit R=pOdd R r
 g1:∀ r,r<n→∀ R,R<2 ^ n→(Ms.getD r (0,0,0,0)).2.2.2.testBit R = !pOdd R r
theorem tm_ok {α:Type} {n:Nat} {Ms:List (Nat×Nat×Nat×Nat)} (hM:MsOk n Ms) {r:Nat} (hr:r<n) (e:Bool) {a b s A0 A1 A2 A3:Nat} {k:Nat→Nat→Nat→Nat→α} {Q:α→Prop}
  (h:∀ B0 B1 B2 B3,(∀ R,R<2 ^ n→(at4 B0 B1 B2 B3 R-(at4 A0 A1 A2 A3 R+(if R.testBit r=true then eS (pOdd R r ^^ e)*at3 a b s (R ^^^ 2 ^ r) else 0))) % 16=0)→Q (k B0 B1 B2 B3)) :
  Q (match Ms.getD r (0,0,0,0) with | (sh,X,g0,g1)=>tmS sh X (cond e g1 g0) a b s A0 A1 A2 A3 k):=by
 have h1:=hM.sh r hr
 have h2:=hM.xx r hr
 have h3:=hM.g0 r hr
 have h4:=hM.g1 r hr
 generalize Ms.getD r (0,0,0,0)=t at h1 h2 h3 h4 ⊢
 obtain ⟨sh,X,g0,g1⟩:=t
 simp only at h1 h2 h3 h4
 subst h1 h2
 show Q (tmS _ _ _ _ _ _ _ _ _ _ _)
 obtain ⟨g,hg,hg2⟩:∃ g,(cond e g1 g0)=g∧∀ R,R<2 ^ n→g.testBit R=(pOdd R r ^^ e):=by
  cases e with
  | false=>exact ⟨g0,rfl,fun R hR=>by rw [h3 R hR]; simp⟩
  | true=>exact ⟨g1,rfl,fun R hR=>by rw [h4 R hR]; simp⟩
 rw [hg]
 unfold tmS
 simp only [frc_eq]
 refine h _ _ _ _ fun R hR => ?_
 unfold at4 at3
 simp only [adA_bit,adC_bit,Nat.testBit_xor (x:=_ &&& _),shl_bit hr hR,hg2 R hR]
 cases hb:R.testBit r with
 | true =>
  simp only [Bool.true_and,if_true]
  exact add_bits _ _ _ _ _ _ _ _
 | false =>
  have:=add_bits (A0.testBit R) (A1.testBit R) (A2.testBit R) (A3.testBit R) false false false (pOdd R r ^^ e)
  simp only [Bool.false_and,Bool.false_eq_true,if_false,Int.add_zero]
  have hz:pl3 false false false=0:=rfl
  rw [hz,Int.mul_zero,Int.add_zero] at this
  exact this
theorem cl_ok {α:Type} {n:Nat} {Ms:List (Nat×Nat×Nat×Nat)} (hM:MsOk n Ms) {a b s:Nat} {Q:α→Prop}:∀ (l:List (Nat×Bool)),(∀ x∈l,x.1<n)→∀ (A0 A1 A2 A3:Nat) (k:Nat→Nat→Nat→Nat→α),
  (∀ B0 B1 B2 B3,(∀ R,R<2 ^ n→(at4 B0 B1 B2 B3 R-(at4 A0 A1 A2 A3 R+wdL (at3 a b s) R l)) % 16=0)→Q (k B0 B1 B2 B3))→Q (clmS Ms a b s l A0 A1 A2 A3 k)
 | [],_,A0,A1,A2,A3,k,h=>h A0 A1 A2 A3 fun R _=>by simp [wdL]
 | x::l,hl,A0,A1,A2,A3,k,h=>by
  show Q (match Ms.getD x.1 (0,0,0,0) with | (sh,X,g0,g1)=>tmS sh X (cond x.2 g1 g0) a b s A0 A1 A2 A3 fun B0 B1 B2 B3=>clmS Ms a b s l B0 B1 B2 B3 k)
  refine tm_ok hM (hl x List.mem_cons_self) x.2 fun B0 B1 B2 B3 hB => ?_
  refine cl_ok hM l (fun y hy=>hl y (List.mem_cons_of_mem _ hy)) B0 B1 B2 B3 k fun D0 D1 D2 D3 hD=>h D0 D1 D2 D3 fun R hR => ?_
  have h1:=hB R hR
  have h2:=hD R hR
  show (at4 D0 D1 D2 D3 R-(at4 A0 A1 A2 A3 R+((if R.testBit x.1=true then eS (pOdd R x.1 ^^ x.2)*at3 a b s (R ^^^ 2 ^ x.1) else 0)+wdL (at3 a b s) R l))) % 16=0
  omega
theorem wdL_bnd {W:Nat→Int} {n:Nat} (hW:∀ R,R<2 ^ n → -2≤W R∧W R≤2) {R:Nat} (hR:R<2 ^ n):∀ l:List (Nat×Bool),(∀ x∈l,x.1<n) → -(2*(l.length:Int))≤wdL W R l∧wdL W R l≤2*(l.length:Int)
 | [],_=>by simp [wdL]
 | x::l,hl=>by
  have ih:=wdL_bnd hW hR l fun y hy=>hl y (List.mem_cons_of_mem _ hy)
  have h:=hW (R ^^^ 2 ^ x.1) (flp_lt hR (hl x List.mem_cons_self))
  show -(2*((x::l).length:Int))≤(if R.testBit x.1=true then eS (pOdd R x.1 ^^ x.2)*W (R ^^^ 2 ^ x.1) else 0)+wdL W R l∧(if R.testBit x.1=true then eS (pOdd R x.1 ^^ x.2)*W (R ^^^ 2 ^ x.1) else 0)+wdL W R l≤_
  simp only [List.length_cons]
  generalize wdL W R l=t at *
  split
  ·unfold eS
   split <;> omega
  ·omega
theorem wdL_congr {W V:Nat→Int} {n:Nat} {R:Nat} (hR:R<2 ^ n) (h:∀ R,R<2 ^ n→W R=V R):∀ l:List (Nat×Bool),(∀ x∈l,x.1<n)→wdL W R l=wdL V R l
 | [],_=>rfl
 | x::l,hl=>by
  show (if R.testBit x.1=true then eS (pOdd R x.1 ^^ x.2)*W (R ^^^ 2 ^ x.1) else 0)+wdL W R l=(if R.testBit x.1=true then eS (pOdd R x.1 ^^ x.2)*V (R ^^^ 2 ^ x.1) else 0)+wdL V R l
  rw [wdL_congr hR h l fun y hy=>hl y (List.mem_cons_of_mem _ hy),h _ (flp_lt hR (hl x List.mem_cons_self))]
theorem pl_small:∀ A0 A1 A2 A3:Bool,(A2=A3)→(((A0 && A1) || A3)=A3)→((A3 && A1)=A3)→(∃ v:Int,-2≤v∧v≤2∧pl3 A0 A1 A3=v∧(pl4 A0 A1 A2 A3-v) % 16=0):=by
 intro A0 A1 A2 A3 h1 h2 h3
 subst h1
 refine ⟨pl3 A0 A1 A2,?_⟩
 cases A0 <;> cases A1 <;> cases A2 <;> simp_all [pl3,pl4,b2i]
end Go.Proofs.YtkoljbncokmeaaaGreatDoor
