import Derived.Test.YtkoljbncokmeaaaGreatDoorMEQ
import Derived.Test.YtkoljbncokmeaaaGreatDoorMEF
import Derived.Test.YtkoljbncokmeaaaGreatDoorMEP
import Derived.Test.YtkoljbncokmeaaaGreatDoorMEO
import Derived.Test.YtkoljbncokmeaaaGreatDoorMEG
import Derived.Test.YtkoljbncokmeaaaGreatDoorMED
namespace Go.Proofs.YtkoljbncokmeaaaGreatDoor
open Go Go.RowKit
set_option maxRecDepth 1000000
set_option linter.unusedSimpArgs false
set_option linter.unusedVariables false
set_option maxHeartbeats 1000000
def sc_s_DrawFreeHoles:SC:=(.seq (.reg [⟨some 2,none,.new [.int .i64 0,.nil]⟩]) (.seq (.reg [⟨some 3,none,.mov (.t 0)⟩,⟨some 4,none,.call 23 [.t 3]⟩,⟨some 5,none,.call 32 [.t 4]⟩,⟨none,none,.st 2 (.t 2) (.t 5)⟩]) .ret))
theorem code_s_DrawFreeHoles:fnCode Tryz.prog [] 7=some (6,sc_s_DrawFreeHoles,[(2,(some 2))]):=by kernel_rfl
noncomputable def F_s_DrawFreeHoles:List V→Option V:=F1 dBy fun b=>some (.agg [.int .i64 (bentN (newCur b)).1.1,.own 1 (ints (bentN (newCur b)).1.2)])
theorem fn_s_DrawFreeHoles:FnOk Tryz.prog 7 F_s_DrawFreeHoles:=by
 have env:=((envNil_ok (P:=Tryz.prog)).add fn_s_l1New).addl ln_s_l3Bent
 refine fn_ok code_s_DrawFreeHoles mixed env ?_
 intro args r h hb
 obtain ⟨_,b,rfl,h1,h4⟩:=F1_inv h
 obtain ⟨hw,rfl⟩:=dBy_inv h1
 cases h4
 clear h hb h1
 refine ⟨by simp,fun w0 U0 L0 N0 => ?_⟩
 have hN:F_s_l1New [.list 1 (u8s b)]=some (.opt (curC (newCur b))):=by
  simp only [F_s_l1New,F1_mk,dBy_list hw,Option.bind_some]
 have g0:=G_bent (newCur_wf hw)
 generalize bentN (newCur b)=x at *
 generalize newCur b=c0 at *
 simp -implicitDefEqProofs [sc_s_DrawFreeHoles,ren0,hN,g0]
def sc_s_DrawTwistsOf:SC:=(.seq (.reg [⟨some 2,none,.new [.int .i64 0,.nil]⟩,⟨some 3,none,.mov (.c (.int .i64 0))⟩]) (.seq (.reg [⟨some 6,none,.mov (.t 0)⟩,⟨some 7,none,.call 23 [.t 6]⟩,⟨some 4,none,.mov (.t 7)⟩]) (.seq (.reg [⟨some 8,none,.mov (.t 4)⟩,⟨some 9,none,.call 32 [.t 8]⟩,⟨some 5,none,.new [.int .i64 0,.nil]⟩,⟨none,none,.st 2 (.t 5) (.t 9)⟩]) (.seq (.seq (.reg [⟨some 10,none,.mov (.t 4)⟩,⟨some 11,none,.call 24 [.t 10,(.c (.int .i64 3))]⟩]) (.cond (.t 11) (.reg [⟨some 13,none,(.call 37 [(.c (.str ⟨⟨[54,58,97,99,100,44,98,99,100,44,97,98,101,44,97,99,101,44,98,100,101,44,97,98,102,44,98,99,102,44,97,100,102,44,99,101,102,44,100,101,102]⟩⟩))])⟩,⟨some 12,none,.mov (.t 13)⟩,⟨some 14,none,.ext 0 (.t 12)⟩,⟨some 15,none,.ext 1 (.t 12)⟩,⟨none,none,.st 2 (.t 5) (.t 14)⟩]) .skip)) (.seq (.treg (.fst ⟨some 17,none,.mov (.t 4)⟩ false (.fst ⟨some 19,none,.mov (.t 4)⟩ true (.alt ⟨some 16,none,.ld (some 2) .undef (.t 5)⟩ false (.alt ⟨some 18,none,.call 27 [.t 17,(.c (.int .i64 6))]⟩ true (.alt ⟨some 20,none,.call 24 [.t 19,(.c (.int .i64 12))]⟩ true (.fst ⟨some 21,none,.call 38 [.t 20]⟩ false (.fst ⟨some 22,none,.bin false .sub (.t 18) (.t 21)⟩ true (.alt ⟨none,none,.st 2 (.t 2) (.t 16)⟩ true (.fst ⟨some 3,none,.mov (.t 22)⟩ false .done) .stop))) .stop) .stop) (.alt ⟨some 18,none,.call 27 [.t 17,(.c (.int .i64 6))]⟩ true (.alt ⟨some 16,none,.ld (some 2) .undef (.t 5)⟩ false (.alt ⟨some 20,none,.call 24 [.t 19,(.c (.int .i64 12))]⟩ true (.fst ⟨some 21,none,.call 38 [.t 20]⟩ false (.fst ⟨some 22,none,.bin false .sub (.t 18) (.t 21)⟩ true (.alt ⟨none,none,.st 2 (.t 2) (.t 16)⟩ true (.fst ⟨some 3,none,.mov (.t 22)⟩ false .done) .stop))) .stop) (.alt ⟨some 20,none,.call 24 [.t 19,(.c (.int .i64 12))]⟩ true (.fst ⟨some 16,none,.ld (some 2) .undef (.t 5)⟩ false (.fst ⟨some 21,none,.call 38 [.t 20]⟩ false (.fst ⟨some 22,none,.bin false .sub (.t 18) (.t 21)⟩ true (.alt ⟨none,none,.st 2 (.t 2) (.t 16)⟩ true (.fst ⟨some 3,none,.mov (.t 22)⟩ false .done) .stop)))) .stop)) .stop))))) .ret)))))
theorem code_s_DrawTwistsOf:fnCode Tryz.prog [27,24] 9=some (23,sc_s_DrawTwistsOf,[(2,(some 2)),(3,none)]):=by kernel_rfl
def twTxt:ByteArray:=⟨⟨[54,58,97,99,100,44,98,99,100,44,97,98,101,44,97,99,101,44,98,100,101,44,97,98,102,44,98,99,102,44,97,100,102,44,99,101,102,44,100,101,102]⟩⟩
theorem twTxt_ok:∃ x:Int×List Int,pcP twTxt x.1 x.2:=txt_ok 1 (by decide)
noncomputable def twDX (c:Cur):Int×List Int:=if onceN (bentN c).2 3=true then pcV twTxt else (bentN c).1
noncomputable def twDK (c:Cur):Int:=(belowN (belowN (bentN c).2 3).2 6).1-(if onceN (belowN (belowN (bentN c).2 3).2 6).2 12=true then 1 else 0)
theorem twDK_rng (c:Cur) : -1≤twDK c∧twDK c≤5:=by
 have:=belowN_rng (belowN (bentN c).2 3).2 (n:=6) (by omega)
 unfold twDK
 split <;> omega
noncomputable def F_s_DrawTwistsOf:List V→Option V:=F1 dBy fun b=>some (.tup [.agg [.int .i64 (twDX (newCur b)).1,.own 1 (ints (twDX (newCur b)).2)],.int .i64 (twDK (newCur b))])
theorem fn_s_DrawTwistsOf:FnOk Tryz.prog 9 F_s_DrawTwistsOf:=by
 have env:=((((((envNil_ok (P:=Tryz.prog)).add fn_s_l1New).add fn_s_l1Bit).add fn_s_ParseComplex).addl ln_s_l1Below).addl ln_s_l1Once).addl ln_s_l3Bent
 refine fn_ok code_s_DrawTwistsOf mixed env ?_
 intro args r h hb
 obtain ⟨_,b,rfl,h1,h4⟩:=F1_inv h
 obtain ⟨hw,rfl⟩:=dBy_inv h1
 cases h4
 clear h hb h1
 refine ⟨by simp,fun w0 U0 L0 N0 => ?_⟩
 have hN:F_s_l1New [.list 1 (u8s b)]=some (.opt (curC (newCur b))):=by
  simp only [F_s_l1New,F1_mk,dBy_list hw,Option.bind_some]
 have v0:=newCur_wf hw
 have g0:=G_bent v0
 have v1:=bentN_wf v0
 have eX:twDX (newCur b)=if onceN (bentN (newCur b)).2 3=true then pcV twTxt else (bentN (newCur b)).1:=rfl
 have eK:twDK (newCur b)=(belowN (belowN (bentN (newCur b)).2 3).2 6).1-(if onceN (belowN (belowN (bentN (newCur b)).2 3).2 6).2 12=true then 1 else 0):=rfl
 have rK:=twDK_rng (newCur b)
 have hP:F_s_ParseComplex [.str twTxt]=some (.tup [.agg [.int .i64 (pcV twTxt).1,.own 1 (ints (pcV twTxt).2)],.bool true]):=by
  simp only [F_s_ParseComplex,F1_mk,dT_str,Option.bind_some]
  rw [if_pos twTxt_ok]
 generalize twDX (newCur b)=X at *
 generalize twDK (newCur b)=K at *
 generalize bentN (newCur b)=x at *
 generalize newCur b=c0 at *
 obtain ⟨⟨n,l⟩,c⟩:=x
 simp only at g0 v1 eX eK
 have g1:=G_once v1 3
 have v2:=belowN_wf v1 3
 generalize (belowN c 3).2=c2 at *
 have g2:=G_below v2 6
 have v3:=belowN_wf v2 6
 generalize hk6:belowN c2 6=k6 at *
 obtain ⟨k,c3⟩:=k6
 simp only at g2 v3 eK
 have g3:=G_once v3 12
 have hB:∀ o:Bool,F_s_l1Bit [.bool o]=some (.int .i64 (if o=true then 1 else 0)):=fun o=>by
  simp only [F_s_l1Bit,F1_mk,dB_bool,Option.bind_some]
 have hB2:=hB (onceN c3 12)
 have hwb:IntKind.i64.wrap (k-(if onceN c3 12=true then 1 else 0))=K:=by
  rw [← eK]
  exact wrapI _ (by omega) (by omega)
 have htx:(⟨⟨[54,58,97,99,100,44,98,99,100,44,97,98,101,44,97,99,101,44,98,100,101,44,97,98,102,44,98,99,102,44,97,100,102,44,99,101,102,44,100,101,102]⟩⟩:ByteArray)=twTxt:=rfl
 generalize (if onceN c3 12=true then (1:Int) else 0)=t at *
 generalize onceN c3 12=o12 at *
 generalize pcV twTxt=y at *
 cases ho:onceN c 3 with
 | true =>
  rw [ho] at g1 eX
  rw [if_pos rfl] at eX
  subst eX
  simp -implicitDefEqProofs [sc_s_DrawTwistsOf,freeOk,ren0,hN,g0,g1,g2,g3,hB2,hwb,htx,hP]
 | false =>
  rw [ho] at g1 eX
  rw [if_neg (by simp)] at eX
  subst eX
  simp -implicitDefEqProofs [sc_s_DrawTwistsOf,freeOk,ren0,hN,g0,g1,g2,g3,hB2,hwb]
def sc_s_DrawCanTwist:SC:=(.seq (.reg [⟨some 2,none,.new [.int .i64 0,.nil]⟩]) (.seq (.reg [⟨some 6,none,.mov (.t 0)⟩,⟨some 7,none,.call 9 [.t 6]⟩,⟨some 5,none,.mov (.t 7)⟩,⟨some 8,none,.ext 0 (.t 5)⟩,⟨some 9,none,.ext 1 (.t 5)⟩,⟨some 3,none,.new [.int .i64 0,.nil]⟩,⟨none,none,.st 2 (.t 3) (.t 8)⟩,⟨some 4,none,.mov (.t 9)⟩]) (.seq (.reg [⟨some 10,none,.ld (some 2) .undef (.t 3)⟩,⟨none,none,.st 2 (.t 2) (.t 10)⟩]) .ret)))
theorem code_s_DrawCanTwist:fnCode Tryz.prog [] 10=some (11,sc_s_DrawCanTwist,[(2,(some 2))]):=by kernel_rfl
noncomputable def F_s_DrawCanTwist:List V→Option V:=F1 dBy fun b=>some (.agg [.int .i64 (twDX (newCur b)).1,.own 1 (ints (twDX (newCur b)).2)])
theorem fn_s_DrawCanTwist:FnOk Tryz.prog 10 F_s_DrawCanTwist:=by
 have env:=(envNil_ok (P:=Tryz.prog)).add fn_s_DrawTwistsOf
 refine fn_ok code_s_DrawCanTwist mixed env ?_
 intro args r h hb
 obtain ⟨_,b,rfl,h1,h4⟩:=F1_inv h
 obtain ⟨hw,rfl⟩:=dBy_inv h1
 cases h4
 clear h hb h1
 refine ⟨by simp,fun w0 U0 L0 N0 => ?_⟩
 have hN:F_s_DrawTwistsOf [.list 1 (u8s b)]=some (.tup [.agg [.int .i64 (twDX (newCur b)).1,.own 1 (ints (twDX (newCur b)).2)],.int .i64 (twDK (newCur b))]):=by
  simp only [F_s_DrawTwistsOf,F1_mk,dBy_list hw,Option.bind_some]
 generalize twDX (newCur b)=X at *
 generalize twDK (newCur b)=K at *
 obtain ⟨n,l⟩:=X
 simp -implicitDefEqProofs [sc_s_DrawCanTwist,ren0,hN]
def sc_s_DrawSmithOf_L2:SC:=(.seq (.seq (.reg [⟨some 32,none,.mov (.t 9)⟩,⟨some 33,none,.mov (.t 6)⟩,⟨some 34,none,.bin false .lss (.t 32) (.t 33)⟩]) (.cond (.t 34) .skip (.exit 2))) (.seq (.block 3 (.reg [⟨some 37,none,.mov (.t 8)⟩,⟨some 38,none,.mov (.t 3)⟩,⟨some 39,none,.call 27 [.t 38,(.c (.int .i64 3))]⟩,⟨some 40,none,.bin false .sub (.t 39) (.c (.int .i64 1))⟩,⟨some 41,none,.mks 1 1 [.int .i64 0] [(0,(1,(.t 40)))]⟩,⟨some 42,none,.app 1 8 (.t 37) (.t 41)⟩,⟨some 8,none,.mov (.t 42)⟩])) (.reg [⟨some 35,none,.mov (.t 9)⟩,⟨some 36,none,.bin false .add (.t 35) (.c (.int .i64 1))⟩,⟨some 9,none,.mov (.t 36)⟩])))
def sc_s_DrawSmithOf_L0:SC:=(.seq (.seq (.reg [⟨some 26,none,.mov (.t 7)⟩,⟨some 27,none,.mov (.t 5)⟩,⟨some 28,none,.bin false .lss (.t 26) (.t 27)⟩]) (.cond (.t 28) .skip (.exit 0))) (.seq (.block 1 (.seq (.reg [⟨some 31,none,.mks 0 1 [] []⟩,⟨some 8,none,.mov (.t 31)⟩]) (.seq (.seq (.reg [⟨some 9,none,.mov (.c (.int .i64 0))⟩]) (.block 2 (.loop sc_s_DrawSmithOf_L2))) (.reg [⟨some 43,none,.mov (.t 4)⟩,⟨some 44,none,.mov (.t 8)⟩,⟨some 45,none,.mks 1 1 [.nil] [(0,(1,(.t 44)))]⟩,⟨some 46,none,.app 1 24 (.t 43) (.t 45)⟩,⟨some 4,none,.mov (.t 46)⟩])))) (.reg [⟨some 29,none,.mov (.t 7)⟩,⟨some 30,none,.bin false .add (.t 29) (.c (.int .i64 1))⟩,⟨some 7,none,.mov (.t 30)⟩])))
def sc_s_DrawSmithOf:SC:=(.seq (.reg [⟨some 2,none,.mov (.c .nil)⟩]) (.seq (.reg [⟨some 10,none,.mov (.t 0)⟩,⟨some 11,none,.call 23 [.t 10]⟩,⟨some 3,none,.mov (.t 11)⟩]) (.seq (.seq (.reg [⟨some 12,none,.mov (.t 3)⟩,⟨some 13,none,.call 24 [.t 12,(.c (.int .i64 3))]⟩]) (.cond (.t 13) (.seq (.reg [⟨some 14,none,.mov (.t 3)⟩,⟨some 15,none,.call 26 [.t 14]⟩,⟨some 16,none,.mov (.t 3)⟩,⟨some 17,none,.call 27 [.t 16,(.c (.int .i64 3))]⟩,⟨some 18,none,.bin false .add (.c (.int .i64 1)) (.t 17)⟩,⟨some 19,none,.call 25 [.t 15,.t 18]⟩,⟨some 2,none,.mov (.t 19)⟩]) .ret) .skip)) (.seq (.reg [⟨some 20,none,.mks 0 1 [] []⟩,⟨some 4,none,.mov (.t 20)⟩]) (.seq (.reg [⟨some 21,none,.mov (.t 3)⟩,⟨some 22,none,.call 27 [.t 21,(.c (.int .i64 5))]⟩,⟨some 5,none,.mov (.t 22)⟩]) (.seq (.reg [⟨some 23,none,.mov (.t 3)⟩,⟨some 24,none,.call 27 [.t 23,(.c (.int .i64 4))]⟩,⟨some 25,none,.bin false .add (.c (.int .i64 1)) (.t 24)⟩,⟨some 6,none,.mov (.t 25)⟩]) (.cut (.seq (.reg [⟨some 7,none,.mov (.c (.int .i64 0))⟩]) (.block 0 (.loop sc_s_DrawSmithOf_L0))) (.cut (.seq (.reg [⟨some 47,none,.mov (.t 5)⟩,⟨some 48,none,.bin false .gtr (.t 47) (.c (.int .i64 0))⟩,⟨some 49,none,.mov (.t 48)⟩,⟨some 50,some (49,true),.mov (.t 3)⟩,⟨some 51,some (49,true),.call 24 [.t 50,(.c (.int .i64 12))]⟩,⟨some 52,none,.pick (.t 49) (.t 51) (.c (.bool false))⟩]) (.cond (.t 52) (.treg (.fst ⟨some 53,none,.mov (.t 4)⟩ true (.fst ⟨some 54,none,.idx 1 (.t 53) (.c (.int .i64 0))⟩ true (.fst ⟨some 56,none,.mov (.t 3)⟩ true (.alt ⟨some 55,none,.ld none .nil (.t 54)⟩ false (.alt ⟨some 57,none,.lit 1 [.int .i64 2,(.int .i64 (-2))]⟩ true (.alt ⟨some 58,none,.call 28 [.t 56,.t 57]⟩ true (.fst ⟨some 59,none,.idx 1 (.t 55) (.c (.int .i64 0))⟩ false (.alt ⟨none,none,.st 1 (.t 59) (.t 58)⟩ true .done .stop)) .stop) .stop) (.alt ⟨some 57,none,.lit 1 [.int .i64 2,(.int .i64 (-2))]⟩ true (.alt ⟨some 55,none,.ld none .nil (.t 54)⟩ false (.alt ⟨some 58,none,.call 28 [.t 56,.t 57]⟩ true (.fst ⟨some 59,none,.idx 1 (.t 55) (.c (.int .i64 0))⟩ false (.alt ⟨none,none,.st 1 (.t 59) (.t 58)⟩ true .done .stop)) .stop) (.alt ⟨some 58,none,.call 28 [.t 56,.t 57]⟩ true (.fst ⟨some 55,none,.ld none .nil (.t 54)⟩ false (.fst ⟨some 59,none,.idx 1 (.t 55) (.c (.int .i64 0))⟩ false (.alt ⟨none,none,.st 1 (.t 59) (.t 58)⟩ true .done .stop))) .stop)) .stop)))))) .skip)) (.seq (.reg [⟨some 60,none,.mov (.t 4)⟩,⟨some 2,none,.mov (.t 60)⟩]) .ret)))))))))
theorem code_s_DrawSmithOf:fnCode Tryz.prog [26,27,24,28,1000060,1000047] 5=some (61,sc_s_DrawSmithOf,[(2,none)]):=by kernel_rfl
noncomputable def rwI (c:Cur):Nat→List Int×Cur
 | 0=>([],c)
 | j+1=>((rwI c j).1++[(belowN (rwI c j).2 3).1-1],(belowN (rwI c j).2 3).2)
noncomputable def mxI (m:Nat) (c:Cur):Nat→List (List Int)×Cur
 | 0=>([],c)
 | i+1=>((mxI m c i).1++[(rwI (mxI m c i).2 m).1],(rwI (mxI m c i).2 m).2)
theorem rwI_wf {c:Cur} (h:wfC c):∀ j,wfC (rwI c j).2
 | 0=>h
 | j+1=>belowN_wf (rwI_wf h j) 3
theorem mxI_wf {m:Nat} {c:Cur} (h:wfC c):∀ i,wfC (mxI m c i).2
 | 0=>h
 | i+1=>rwI_wf (mxI_wf h i) m
theorem rwI_len (c:Cur):∀ j,(rwI c j).1.length=j
 | 0=>rfl
 | j+1=>by
  show ((rwI c j).1++[(belowN (rwI c j).2 3).1-1]).length=j+1
  rw [List.length_append,rwI_len c j]; rfl
theorem mxI_len (m:Nat) (c:Cur):∀ i,(mxI m c i).1.length=i
 | 0=>rfl
 | i+1=>by
  show ((mxI m c i).1++[(rwI (mxI m c i).2 m).1]).length=i+1
  rw [List.length_append,mxI_len m c i]; rfl
theorem rwI_rng (c:Cur):∀ j,∀ x∈(rwI c j).1,-1≤x∧x≤1
 | 0,x,h=>by cases h
 | j+1,x,h=>by
  rcases List.mem_append.1 (show x∈(rwI c j).1++[(belowN (rwI c j).2 3).1-1] from h) with h | h
  ·exact rwI_rng c j x h
  ·have:=belowN_rng (rwI c j).2 (n:=3) (by omega)
   rw [List.mem_singleton.1 h]
   omega
theorem mxI_rows (m:Nat) (c:Cur):∀ i,∀ r∈(mxI m c i).1,r.length=m∧∀ x∈r,-1≤x∧x≤1
 | 0,r,h=>by cases h
 | i+1,r,h=>by
  rcases List.mem_append.1 (show r∈(mxI m c i).1++[(rwI (mxI m c i).2 m).1] from h) with h | h
  ·exact mxI_rows m c i r h
  ·rw [List.mem_singleton.1 h]
   exact ⟨rwI_len _ _,rwI_rng _ _⟩
theorem mxI_take (m:Nat) (c:Cur) (i:Nat):∀ d,(mxI m c (i+d)).1.take i=(mxI m c i).1
 | 0=>List.take_of_length_le (by rw [Nat.add_zero,mxI_len]; exact Nat.le_refl _)
 | d+1=>by
  show ((mxI m c (i+d)).1++[(rwI (mxI m c (i+d)).2 m).1]).take i=_
  rw [List.take_append_of_le_length (by rw [mxI_len]; omega)]
  exact mxI_take m c i d
theorem mxI_at (m:Nat) (c:Cur) {i n:Nat} (h:i<n):atR (mxI m c n).1 i=(rwI (mxI m c i).2 m).1:=by
 obtain ⟨d,rfl⟩:∃ d,n=i+1+d:=⟨n-(i+1),by omega⟩
 have h1:=mxI_take m c (i+1) d
 have h2:atR (mxI m c (i+1+d)).1 i=atR ((mxI m c (i+1+d)).1.take (i+1)) i:=by
  simp [atR,List.getElem?_take]
 rw [h2,h1]
 show atR ((mxI m c i).1++[(rwI (mxI m c i).2 m).1]) i=_
 have hl:=mxI_len m c i
 simp [atR,List.getElem?_append_right,hl]
noncomputable def mx2 (M:List (List Int)) (v:Int):List (List Int):=M.set 0 ((atR M 0).set 0 v)
noncomputable def dsM (c:Cur):List (List Int) :=
 if onceN c 3=true then borM (drawN (belowN c 3).2).1.1 (drawN (belowN c 3).2).1.2 (1+(belowN (drawN (belowN c 3).2).2 3).1)
 else
  let n:=(belowN (belowN c 3).2 5).1.toNat
  let m:=(1+(belowN (belowN (belowN c 3).2 5).2 4).1).toNat
  let x:=mxI m (belowN (belowN (belowN c 3).2 5).2 4).2 n
  if 0<n∧onceN x.2 12=true then mx2 x.1 (pickN (belowN x.2 12).2 [2,-2]) else x.1
theorem dsM_yes {c:Cur} (h:onceN c 3=true):dsM c=borM (drawN (belowN c 3).2).1.1 (drawN (belowN c 3).2).1.2 (1+(belowN (drawN (belowN c 3).2).2 3).1):=if_pos h
theorem dsM_no {c c1 c2 c3:Cur} {n m:Nat} (h:onceN c 3=false) (h1:(belowN c 3).2=c1) (h2:belowN c1 5=((n:Int),c2)) (h3:belowN c2 4=((m:Int),c3)) :
  dsM c=if 0<n∧onceN (mxI (m+1) c3 n).2 12=true then mx2 (mxI (m+1) c3 n).1 (pickN (belowN (mxI (m+1) c3 n).2 12).2 [2,-2]) else (mxI (m+1) c3 n).1:=by
 have e:(1+(m:Int)).toNat=m+1:=by omega
 unfold dsM
 rw [if_neg (by rw [h]; simp),h1]
 simp only [h2,h3,e,Int.toNat_natCast]
noncomputable def F_s_DrawSmithOf:List V→Option V:=F1 dBy fun b=>some (.own 1 (rowsV (dsM (newCur b))))
theorem fn_s_DrawSmithOf:FnOk Tryz.prog 5 F_s_DrawSmithOf:=by
 have env:=((((((envNil_ok (P:=Tryz.prog)).add fn_s_l1New).add fn_s_l13BorderZ).addl ln_s_l1Below).addl ln_s_l1Once).addl ln_s_l1PickInt).addl ln_s_l3Draw
 refine fn_ok code_s_DrawSmithOf mixed env ?_
 intro args r h hb
 obtain ⟨_,b,rfl,h1,h4⟩:=F1_inv h
 obtain ⟨hw,rfl⟩:=dBy_inv h1
 cases h4
 clear h hb h1
 refine ⟨by simp,fun w0 U0 L0 N0 => ?_⟩
 have hN:F_s_l1New [.list 1 (u8s b)]=some (.opt (curC (newCur b))):=by
  simp only [F_s_l1New,F1_mk,dBy_list hw,Option.bind_some]
 have v0:=newCur_wf hw
 generalize newCur b=c0 at *
 have g0:=G_once v0 3
 have v1:=belowN_wf v0 3
 have hY:=dsM_yes (c:=c0)
 have hNo:=@dsM_no c0
 generalize dsM c0=D at *
 generalize (belowN c0 3).2=c1 at *
 cases ho:onceN c0 3 with
 | true =>
  rw [ho] at g0
  have hD:=hY ho
  have g1:=G_draw v1
  have v2:=drawN_wf v1
  have g2:=G_below v2 3
  have r3:=belowN_rng (drawN c1).2 (n:=3) (by omega)
  have hB:F_s_l13BorderZ [.agg [.int .i64 (drawN c1).1.1,.list 1 (ints (drawN c1).1.2)],.int .i64 (1+(belowN (drawN c1).2 3).1)]=some (.own 1 (rowsV (borM (drawN c1).1.1 (drawN c1).1.2 (1+(belowN (drawN c1).2 3).1)))):=by
   simp only [F_s_l13BorderZ,F2_mk,dC_agg,dI_int,Option.bind_some]
   rw [if_pos ⟨by omega,by omega⟩]
  have hwr:IntKind.i64.wrap (1+(belowN (drawN c1).2 3).1)=1+(belowN (drawN c1).2 3).1:=wrapI _ (by omega) (by omega)
  subst hD
  generalize borM (drawN c1).1.1 (drawN c1).1.2 (1+(belowN (drawN c1).2 3).1)=B at *
  generalize belowN (drawN c1).2 3=k at *
  generalize drawN c1=d at *
  simp -implicitDefEqProofs [sc_s_DrawSmithOf,freeOk,ren0,hN,g0,g1,g2,hwr,hB]
 | false =>
  rw [ho] at g0
  have g1:=G_below v1 5
  have v2:=belowN_wf v1 5
  have r1:=belowN_rng c1 (n:=5) (by omega)
  obtain ⟨n5,e5⟩:∃ x,belowN c1 5=x:=⟨_,rfl⟩
  rw [e5] at g1 v2 r1
  obtain ⟨n',c2⟩:=n5
  simp only at g1 v2 r1
  obtain ⟨n,rfl⟩:=Int.eq_ofNat_of_zero_le r1.1
  have g2:=G_below v2 4
  have v3:=belowN_wf v2 4
  have r2:=belowN_rng c2 (n:=4) (by omega)
  obtain ⟨m4,e4⟩:∃ x,belowN c2 4=x:=⟨_,rfl⟩
  rw [e4] at g2 v3 r2
  obtain ⟨m',c3⟩:=m4
  simp only at g2 v3 r2
  obtain ⟨m,rfl⟩:=Int.eq_ofNat_of_zero_le r2.1
  have hD:=hNo ho rfl e5 e4
  have hwm:IntKind.i64.wrap (1+(m:Int))=1+(m:Int):=wrapI _ (by omega) (by omega)
  have hM:=fun i=>mxI_take (m+1) c3 i
  obtain ⟨M,eM⟩:∃ M,(mxI (m+1) c3 n).1=M:=⟨_,rfl⟩
  have hMl:M.length=n:=by rw [← eM]; exact mxI_len _ _ _
  simp -implicitDefEqProofs [sc_s_DrawSmithOf,freeOk,ren0,hN,g0,g1,g2,hwm]
  refine loopI env mixed (fun i:Nat=>[(3,.pt 0 0),(4,.sl 1 1 0 i),(5,.int .i64 (n:Int)),(6,.int .i64 (1+(m:Int))),(7,.int .i64 (i:Int))]) (fun i=>([(1,rowsV (M.take i)),(0,curC (mxI (m+1) c3 i).2)],2)) (fun i=>i≤n) (fun i=>n-i) 0 (by simp) (SubI.slots (by simp [mxI]) (by simp)) ?_
  intro i hi
  have hti:M.take i=(mxI (m+1) c3 i).1:=by
   obtain ⟨d,rfl⟩:∃ d,n=i+d:=⟨n-i,by omega⟩
   rw [← eM]; exact hM i d
  have vi:=mxI_wf (m:=m+1) v3 i
  by_cases hlt:i<n
  ·have hiM:i<M.length:=by omega
   have hrow:atR M i=(rwI (mxI (m+1) c3 i).2 (m+1)).1:=by rw [← eM]; exact mxI_at _ _ hlt
   have hnx:(mxI (m+1) c3 (i+1)).2=(rwI (mxI (m+1) c3 i).2 (m+1)).2:=rfl
   generalize hcn:(mxI (m+1) c3 (i+1)).2=cn at *
   generalize (mxI (m+1) c3 i).2=ci at *
   simp -implicitDefEqProofs [sc_s_DrawSmithOf_L0,hlt]
   refine loopQ env mixed (fun j:Nat=>[(3,.pt 0 0),(4,.sl 1 1 0 i),(5,.int .i64 (n:Int)),(6,.int .i64 (1+(m:Int))),(7,.int .i64 (i:Int)),(8,.sl 2 1 0 j),(9,.int .i64 (j:Int))]) (fun j=>([(2,ints (rwI ci j).1),(1,rowsV (M.take i)),(0,curC (rwI ci j).2)],3)) (fun j=>j≤m+1) (fun j=>m+1-j) 0 (by simp) (SubI.slots (by simp [rwI]) (by simp)) ?_
   intro j hj
   have vj:=rwI_wf vi j
   have lj:=rwI_len ci j
   by_cases hjl:j<m+1
   ·have hjI:(j:Int)<1+(m:Int):=by omega
    have g3:=G_below vj 3
    have r3:=belowN_rng (rwI ci j).2 (n:=3) (by omega)
    have hs1:(rwI ci (j+1)).1=(rwI ci j).1++[(belowN (rwI ci j).2 3).1-1]:=rfl
    have hs2:(rwI ci (j+1)).2=(belowN (rwI ci j).2 3).2:=rfl
    have hwk:IntKind.i64.wrap ((belowN (rwI ci j).2 3).1-1)=(belowN (rwI ci j).2 3).1-1:=wrapI _ (by omega) (by omega)
    have hwj:IntKind.i64.wrap ((j:Int)+1)=(j:Int)+1:=wrapI _ (by omega) (by omega)
    generalize belowN (rwI ci j).2 3=k at *
    generalize (rwI ci j).2=cj at *
    generalize (rwI ci j).1=g at *
    have htk:g.take j=g:=List.take_of_length_le (by omega)
    simp -implicitDefEqProofs [sc_s_DrawSmithOf_L2,freeOk,ren0,hjI,hjl,g3,hwk,hwj,lj]
    repeat' (first | omega | apply And.intro)
    refine Again.of (j+1) (by omega) (by omega) (SubI.ren (fun m=>if m=0 then some 0 else if m=1 then some 1 else if m=2 then some 4 else none) ?_ ?_ ?_ (by simp) (by simp))
    ·simp [subT,renV,ren1]
    ·simp [subH,hs1,hs2,renL,ren1,htk]
     rw [← ints_app]
     rfl
    ·intro m hm
     simp only at hm
     rw [if_neg (by omega),if_neg (by omega),if_neg (by omega)]
   ·have hje:j=m+1:=by omega
    subst hje
    have hsn:=rowsV_snoc hiM (.sl 2 1 0 (m+1))
    have gl:(rowsV (M.take i)).length=i:=by simp; omega
    have htt:(M.take i).take i=M.take i:=List.take_of_length_le (by simp; omega)
    have hal:(atR M i).length=m+1:=by rw [hrow]; exact lj
    rw [← hrow,← hnx]
    have hwi:IntKind.i64.wrap ((i:Int)+1)=(i:Int)+1:=wrapI _ (by omega) (by omega)
    have hjN:¬((m+1:Nat):Int)<1+(m:Int):=by omega
    have hle:(1:Int)+(m:Int)≤((m+1:Nat):Int):=by omega
    have hjN2:¬(m:Int)+1<1+(m:Int):=by omega
    have hle2:(1:Int)+(m:Int)≤(m:Int)+1:=by omega
    simp -implicitDefEqProofs [sc_s_DrawSmithOf_L2,hjN,hle,hjN2,hle2]
    refine SubQ.of (l1:=[(3,.pt 0 0),(4,.sl 1 1 0 i),(5,.int .i64 (n:Int)),(6,.int .i64 (1+(m:Int))),(7,.int .i64 (i:Int)),(8,.sl 2 1 0 (m+1))]) (SubI.slots rfl (by simp)) ?_
    simp -implicitDefEqProofs [gl,hwi]
    rw [htt]
    repeat' (first | omega | apply And.intro)
    refine Again.of (i+1) (by omega) (by omega) ?_
    refine SubI.fold 4 2 i 1 (m+1) (cn:=ints (atR M i)) (co:=rowsV (M.take i)++[.sl 2 1 0 (m+1)]) (by simp) (by simp) (by rw [List.getElem?_append_right (by omega),gl,Nat.sub_self]; rfl) (by simp [hal]) ?_
    rw [hsn]
    refine SubI.ren (fun m=>if m=0 then some 0 else if m=1 then some 4 else none) ?_ ?_ ?_ (by simp) (by simp)
    ·simp (disch:=omega) [subT,renV,ren1,wrapI]
    ·simp [subH,renL,ren1,hcn]
    ·intro m hm
     simp only at hm
     rw [if_neg (by omega),if_neg (by omega)]
  ·have hin:i=n:=by omega
   subst hin
   have htk:M.take i=M:=List.take_of_length_le (by omega)
   rw [htk]
   rw [← hti,htk] at hD
   have g4:=G_once vi 12
   have v4:=belowN_wf vi 12
   generalize (mxI (m+1) c3 i).2=ci at *
   by_cases hn0:0<i
   ·have hn0I:(0:Int)<(i:Int):=by omega
    cases ho2:onceN ci 12 with
    | false =>
     rw [ho2] at g4 hD
     rw [if_neg (by simp)] at hD
     subst hD
     simp -implicitDefEqProofs [sc_s_DrawSmithOf_L0]
     refine CutI.of (l':=[(3,.pt 0 0),(4,.sl 1 1 0 i),(5,.int .i64 (i:Int))]) (SubI.slots rfl (by simp)) ?_
     simp -implicitDefEqProofs [freeOk,ren0,hn0,hn0I,g4]
     refine CutI.of (l':=[(4,.sl 1 1 0 i)]) (SubI.slots rfl (by simp)) ?_
     simp -implicitDefEqProofs
     exact ⟨by omega,by rw [htk]⟩
    | true =>
     rw [ho2] at g4 hD
     rw [if_pos ⟨hn0,rfl⟩] at hD
     have g5:=G_pickI v4 (l:=[2,-2]) ⟨by simp,by simp⟩
     have hlit:ints [2,-2]=[(.int .i64 2),(.int .i64 (-2))]:=rfl
     rw [hlit] at g5
     have hpos:0<M.length:=by omega
     have hd0:(rowsV M)[0]?.getD .nil = .own 1 (ints (atR M 0)):=by
      cases M with
      | nil=>simp at hpos
      | cons a r=>rfl
     have hrl:(atR M 0).length=m+1:=by
      have h1:atR M 0∈M:=by rw [atR_eq hpos]; exact List.getElem_mem _
      exact (mxI_rows (m+1) c3 i (atR M 0) (by rw [eM]; exact h1)).1
     generalize pickN (belowN ci 12).2 [2,-2]=v at *
     have hset:((rowsV M).set 0 (.sl 2 1 0 (m+1))).set 0 (.own 1 (ints ((atR M 0).set 0 v)))=rowsV (mx2 M v):=by
      rw [List.set_set]
      unfold mx2
      exact rowsV_set M 0 ((atR M 0).set 0 v)
     have hg0:(rowsV M)[0]?=some (.own 1 (ints (atR M 0))):=rowsV_get hpos
     have hs0:((rowsV M).set 0 (.sl 2 1 0 (m+1)))[0]?.getD .nil = .sl 2 1 0 (m+1):=by
      rw [List.getElem?_set_self (by simpa using hpos)]
      rfl
     simp -implicitDefEqProofs [sc_s_DrawSmithOf_L0]
     refine CutI.of (l':=[(3,.pt 0 0),(4,.sl 1 1 0 i),(5,.int .i64 (i:Int))]) (s':=([(2,ints (atR M 0)),(1,(rowsV M).set 0 (.sl 2 1 0 (m+1))),(0,curC ci)],3)) ?_ ?_
     ·refine SubI.unfold 1 0 1 (co:=rowsV M) (cn:=ints (atR M 0)) (by simp) hg0 (by omega) ?_
      exact SubI.slots (by simp [hrl]) (by simp)
     simp -implicitDefEqProofs [freeOk,ren0,hn0,hn0I,g4,g5,hs0,hpos,hrl,hMl]
     subst hD
     have hl2:(mx2 M v).length=i:=by unfold mx2; rw [List.length_set]; exact hMl
     have ht2:(mx2 M v).take i=mx2 M v:=List.take_of_length_le (by omega)
     repeat' apply And.intro
     all_goals
      refine CutI.of (l':=[(4,.sl 1 1 0 i)]) (s':=([(1,rowsV (mx2 M v)),(0,curC (belowN (belowN ci 12).2 2).2)],3)) ?_ ?_
      ·refine SubI.fold 1 2 0 1 (m+1) (cn:=ints ((atR M 0).set 0 v)) (co:=(rowsV M).set 0 (.sl 2 1 0 (m+1))) (by simp) (by simp) (by rw [List.getElem?_set_self (by simpa using hpos)]) (by simp [hrl]) ?_
       rw [hset]
       exact SubI.slots (by simp) (by simp)
      ·simp -implicitDefEqProofs
       exact ⟨by omega,by rw [ht2]⟩
   ·have hn0I:¬(0:Int)<(i:Int):=by omega
    rw [if_neg fun h=>hn0 h.1] at hD
    subst hD
    simp -implicitDefEqProofs [sc_s_DrawSmithOf_L0]
    refine CutI.of (l':=[(3,.pt 0 0),(4,.sl 1 1 0 i),(5,.int .i64 (i:Int))]) (SubI.slots rfl (by simp)) ?_
    simp -implicitDefEqProofs [freeOk,ren0,hn0,hn0I]
    refine CutI.of (l':=[(4,.sl 1 1 0 i)]) (SubI.slots rfl (by simp)) ?_
    simp -implicitDefEqProofs
    exact ⟨by omega,by rw [htk]⟩
theorem bor_any (n:Int) (l:List Int) {k:Int} (hk:1≤k∧k≤6):∃ R,smsV (borM n l k)=some R∧smiV (borM n l k)=some R:=by
 by_cases hc:cplx n l
 ·have hbm:borM n l k=sgnM (szS (faceS l) (k-1)) (szS (faceS l) k):=by
   unfold borM
   rw [szS_fos hc,szS_fos hc]
  have h:=bsm_sz (q:=faceS l) (k:=k.toNat) ⟨by omega,by omega⟩
  rw [show ((k.toNat:Nat):Int)=k by omega] at h
  rw [hbm]
  exact ⟨_,h⟩
 ·have e:borM n l k=[]:=by
   unfold borM
   have e0:∀ z,fosL n l z=[]:=fun z=>setsOf_nil.2 fun s _ hp=>hc hp.1
   rw [e0,e0]
   rfl
  rw [e]
  exact smith4 (M:=[]) (by simp) (by show (0:Nat)≤4; omega)
theorem mx_wd {M:List (List Int)} {m:Nat} (h:∀ r∈M,r.length=m):wdM M≤m:=by
 unfold wdM
 by_cases h0:0<M.length
 ·rw [h (atR M 0) (by rw [atR_eq h0]; exact List.getElem_mem _)]; exact Nat.le_refl _
 ·have:M=[]:=List.length_eq_zero_iff.1 (by omega)
  subst this
  exact Nat.zero_le _
theorem dsM_smith (c:Cur):∃ R,smsV (dsM c)=some R∧smiV (dsM c)=some R:=by
 cases ho:onceN c 3 with
 | true =>
  rw [dsM_yes ho]
  have:=belowN_rng (drawN (belowN c 3).2).2 (n:=3) (by omega)
  exact bor_any _ _ ⟨by omega,by omega⟩
 | false =>
  have r1:=belowN_rng (belowN c 3).2 (n:=5) (by omega)
  obtain ⟨x5,e5⟩:∃ x,belowN (belowN c 3).2 5=x:=⟨_,rfl⟩
  rw [e5] at r1
  obtain ⟨n',c2⟩:=x5
  simp only at r1
  obtain ⟨n,rfl⟩:=Int.eq_ofNat_of_zero_le r1.1
  have r2:=belowN_rng c2 (n:=4) (by omega)
  obtain ⟨x4,e4⟩:∃ x,belowN c2 4=x:=⟨_,rfl⟩
  rw [e4] at r2
  obtain ⟨m',c3⟩:=x4
  simp only at r2
  obtain ⟨m,rfl⟩:=Int.eq_ofNat_of_zero_le r2.1
  rw [dsM_no ho rfl e5 e4]
  have hl:=mxI_len (m+1) c3 n
  have hr:=mxI_rows (m+1) c3 n
  have hw:=mx_wd (m:=m+1) fun r h=>(hr r h).1
  split
  ·rename_i h
   refine smith4 (by unfold mx2; rw [List.length_set]; omega) ?_
   refine Nat.le_trans (mx_wd (m:=m+1) fun r hm => ?_) (by omega)
   unfold mx2 at hm
   rcases List.mem_or_eq_of_mem_set hm with h1 | h1
   ·exact (hr r h1).1
   ·rw [h1,List.length_set]
    have h0:0<(mxI (m+1) c3 n).1.length:=by omega
    exact (hr _ (by rw [atR_eq h0]; exact List.getElem_mem _)).1
  ·exact smith4 (by omega) (by omega)
def sc_s_Join_L0:SC:=(.seq (.seq (.reg [⟨some 8,none,.mov (.t 6)⟩,⟨some 9,none,.mov (.t 0)⟩,⟨some 10,none,.len (.t 9)⟩,⟨some 11,none,.bin false .lss (.t 8) (.t 10)⟩]) (.cond (.t 11) .skip (.exit 0))) (.seq (.block 1 (.seq (.seq (.reg [⟨some 14,none,.mov (.t 6)⟩,⟨some 15,none,.bin false .gtr (.t 14) (.c (.int .i64 0))⟩]) (.cond (.t 15) (.reg [⟨some 16,none,.mov (.t 5)⟩,⟨some 17,none,.mov (.t 1)⟩,⟨some 18,none,.app 1 1 (.t 16) (.t 17)⟩,⟨some 5,none,.mov (.t 18)⟩]) .skip)) (.reg [⟨some 19,none,.mov (.t 5)⟩,⟨some 20,none,.mov (.t 0)⟩,⟨some 21,none,.mov (.t 6)⟩,⟨some 22,none,.idx 1 (.t 20) (.t 21)⟩,⟨some 23,none,(.ld none (.str ⟨⟨[]⟩⟩) (.t 22))⟩,⟨some 24,none,.app 1 1 (.t 19) (.t 23)⟩,⟨some 5,none,.mov (.t 24)⟩]))) (.reg [⟨some 12,none,.mov (.t 6)⟩,⟨some 13,none,.bin false .add (.t 12) (.c (.int .i64 1))⟩,⟨some 6,none,.mov (.t 13)⟩])))
def sc_s_Join:SC:=(.seq (.reg [⟨some 4,none,(.mov (.c (.str ⟨⟨[]⟩⟩)))⟩]) (.seq (.reg [⟨some 7,none,.mks 0 1 [] []⟩,⟨some 5,none,.mov (.t 7)⟩]) (.seq (.seq (.reg [⟨some 6,none,.mov (.c (.int .i64 0))⟩]) (.block 0 (.loop sc_s_Join_L0))) (.seq (.reg [⟨some 25,none,.mov (.t 5)⟩,⟨some 26,none,.bts (.t 25)⟩,⟨some 4,none,.mov (.t 26)⟩]) .ret))))
theorem code_s_Join:fnCode Tryz.prog [] 48=some (27,sc_s_Join,[(4,none)]):=by kernel_rfl
theorem ba_ext {a b:ByteArray} (h:a.data.toList=b.data.toList):a=b:=ByteArray.ext (Array.ext' h)
theorem ba_app (a b:ByteArray):(a++b).data.toList=a.data.toList++b.data.toList:=by simp
theorem jnS_data (m:List ByteArray) (s:ByteArray):(jnS m s).data.toList=Go.Lib.join (m.map (·.data.toList)) s.data.toList:=rfl
theorem jnS_nil (s:ByteArray):jnS [] s=⟨#[]⟩:=rfl
theorem joinT_snoc (sep:List UInt8) (r:List (List UInt8)) (x:List UInt8):Go.Lib.joinTail sep (r++[x])=Go.Lib.joinTail sep r++(sep++x):=by
 simp [Go.Lib.joinTail]
theorem jnS_one (x s:ByteArray):jnS [x] s=x:=ba_ext (by rw [jnS_data]; exact Go.Lib.join_one _ _)
theorem jnS_snoc {m:List ByteArray} (hm:m≠[]) (x s:ByteArray):jnS (m++[x]) s=jnS m s++s++x:=by
 apply ba_ext
 rw [ba_app,ba_app,jnS_data,jnS_data]
 cases m with
 | nil=>exact absurd rfl hm
 | cons a r =>
  rw [List.cons_append,List.map_cons,List.map_cons,Go.Lib.join_cons,Go.Lib.join_cons,List.map_append]
  simp only [List.map_cons,List.map_nil]
  rw [joinT_snoc]
  simp
theorem ba_size (a b:ByteArray):(a++b).size=a.size+b.size:=ByteArray.size_append
theorem take_snocS {m:List ByteArray} {i:Nat} (h:i<m.length):m.take (i+1)=m.take i++[atS m i]:=by
 rw [List.take_succ_eq_append_getElem h]
 simp [atS,h]
theorem jn_step {m:List ByteArray} {i:Nat} (h:i<m.length) (s:ByteArray):jnS (m.take (i+1)) s=(if i=0 then jnS (m.take i) s else jnS (m.take i) s++s)++atS m i:=by
 rw [take_snocS h]
 by_cases h0:i=0
 ·subst h0
  rw [if_pos rfl,List.take_zero,List.nil_append,jnS_one,jnS_nil]
  exact ba_ext (by rw [ba_app]; rfl)
 ·rw [if_neg h0]
  exact jnS_snoc (fun e=>by
   have:=congrArg List.length e
   rw [List.length_take,List.length_nil] at this
   omega) _ _
theorem jn_mono {m:List ByteArray} (s:ByteArray):∀ d i,i+d=m.length→(jnS (m.take i) s).size≤(jnS m s).size
 | 0,i,h=>by rw [List.take_of_length_le (by omega)]; exact Nat.le_refl _
 | d+1,i,h=>by
  have h1:=jn_mono (m:=m) s d (i+1) (by omega)
  have h2:i<m.length:=by omega
  rw [jn_step h2,ba_size] at h1
  by_cases h0:i=0
  ·rw [if_pos h0] at h1; omega
  ·rw [if_neg h0,ba_size] at h1; omega
theorem btV_nil:btV ⟨#[]⟩=[]:=rfl
theorem ba_size0:(⟨#[]⟩:ByteArray).size=0:=rfl
noncomputable def F_s_Join:List V→Option V:=F2 dS dSt fun m s => @ite _ (m.length≤64∧(jnS m s).size≤1000000) (Classical.propDecidable _) (some (.str (jnS m s))) none
theorem fn_s_Join:FnOk Tryz.prog 48 F_s_Join:=by
 refine fn_ok code_s_Join mixed envNil_ok ?_
 intro args r h hb
 obtain ⟨_,_,m,sep,rfl,h1,h2,h4⟩:=F2_inv h
 cases dS_inv h1
 cases dSt_inv h2
 simp only [Option.ite_none_right_eq_some,Option.some.injEq] at h4
 obtain ⟨⟨n0,n1⟩,rfl⟩:=h4
 clear h h1 h2 hb
 refine ⟨by simp,fun w0 U0 L0 N0 => ?_⟩
 have hres:=bt_back (jnS m sep)
 rw [List.map_map] at hres
 have w1:IntKind.i64.wrap 1=1:=wrapI _ (by omega) (by omega)
 simp -implicitDefEqProofs [sc_s_Join]
 refine loopI envNil_ok mixed (fun i:Nat=>[(0,.list 1 (strs m)),(1,.str sep),(5,.sl 0 1 0 (jnS (m.take i) sep).size),(6,.int .i64 (i:Int))]) (fun i=>([(0,btV (jnS (m.take i) sep))],1)) (fun i=>i≤m.length) (fun i=>m.length-i) 0 (by simp) (SubI.slots (by simp [jnS_nil,btV_nil]) (by simp [jnS_nil,ba_size0,-ByteArray.size_eq_zero_iff])) ?_
 intro i hi
 by_cases hlt:i<m.length
 ·have hltI:(i:Int)<(m.length:Int):=by omega
  have hw1:IntKind.i64.wrap ((i:Int)+1)=(i:Int)+1:=wrapI _ (by omega) (by omega)
  have hst:=jn_step hlt sep
  have hmo:=jn_mono (m:=m) sep (m.length-(i+1)) (i+1) (by omega)
  have hmo0:=jn_mono (m:=m) sep (m.length-i) i (by omega)
  rw [hst,ba_size] at hmo
  generalize hj2:jnS (m.take (i+1)) sep=j2 at *
  generalize hj:jnS (m.take i) sep=j at *
  generalize hx:atS m i=x at *
  have wj:=btV_whole j
  by_cases h0:i=0
  ·rw [if_pos h0] at hmo hst
   subst h0
   simp -implicitDefEqProofs [sc_s_Join_L0,hltI,hw1,hlt,hx,wj]
   refine ⟨by omega,?_⟩
   refine Again.of 1 (by omega) (by omega) (SubI.ren (fun m=>if m=0 then some 1 else none) ?_ ?_ ?_ (by simp) (by simp))
   ·rw [show (0:Nat)+1=1 from rfl] at hj2
    simp [subT,renV,ren1,hj2,hst,ba_size,w1]
   ·rw [show (0:Nat)+1=1 from rfl] at hj2
    simp [subH,renL,ren1,hj2,hst]
   ·intro m hm
    simp only at hm
    rw [if_neg (by omega)]
  ·rw [if_neg h0] at hmo hst
   rw [ba_size] at hmo
   have h0I:0<i:=by omega
   have ws:=btV_whole (j++sep)
   rw [ba_size] at ws
   simp -implicitDefEqProofs [sc_s_Join_L0,hltI,hw1,hlt,hx,wj,h0I,ws]
   repeat' (first | omega | apply And.intro)
   refine Again.of (i+1) (by omega) (by omega) (SubI.ren (fun m=>if m=0 then some 2 else none) ?_ ?_ ?_ (by simp) (by simp))
   ·simp [subT,renV,ren1,hj2,hst,ba_size]
   ·simp [subH,renL,ren1,hj2,hst]
   ·intro m hm
    simp only at hm
    rw [if_neg (by omega)]
 ·have:i=m.length:=by omega
  subst this
  have htk:m.take m.length=m:=List.take_length
  have wj:=btV_whole (jnS m sep)
  simp -implicitDefEqProofs [sc_s_Join_L0,htk,wj,ubL_bt,hres]
def sc_s_FreeHoles_L0:SC:=(.seq (.seq (.reg [⟨some 11,none,.mov (.t 6)⟩,⟨some 12,none,.mov (.t 4)⟩,⟨some 13,none,.len (.t 12)⟩,⟨some 14,none,.bin false .lss (.t 11) (.t 13)⟩]) (.cond (.t 14) .skip (.exit 0))) (.seq (.block 1 (.seq (.reg [⟨some 7,none,.mov (.c (.int .i64 0))⟩]) (.seq (.seq (.reg [⟨some 17,none,.mov (.t 6)⟩,⟨some 18,none,.bin false .add (.t 17) (.c (.int .i64 1))⟩,⟨some 19,none,.mov (.t 4)⟩,⟨some 20,none,.len (.t 19)⟩,⟨some 21,none,.bin false .lss (.t 18) (.t 20)⟩]) (.cond (.t 21) (.reg [⟨some 22,none,.ld (some 2) .undef (.t 1)⟩,⟨some 23,none,.mov (.t 6)⟩,⟨some 24,none,.bin false .add (.t 23) (.c (.int .i64 1))⟩,⟨some 25,none,.call 25 [.t 22,.t 24]⟩,⟨some 26,none,.call 12 [.t 25]⟩,⟨some 27,none,.len (.t 26)⟩,⟨some 7,none,.mov (.t 27)⟩]) .skip)) (.seq (.reg [⟨some 28,none,.mov (.t 3)⟩,⟨some 29,none,.mov (.t 4)⟩,⟨some 30,none,.mov (.t 6)⟩,⟨some 31,none,.idx 1 (.t 29) (.t 30)⟩,⟨some 32,none,.ld none (.int .i64 0) (.t 31)⟩,⟨some 33,none,.mov (.t 5)⟩,⟨some 34,none,.bin false .sub (.t 32) (.t 33)⟩,⟨some 35,none,.mov (.t 7)⟩,⟨some 36,none,.bin false .sub (.t 34) (.t 35)⟩,⟨some 37,none,.mks 1 1 [.int .i64 0] [(0,(1,(.t 36)))]⟩,⟨some 38,none,.app 1 8 (.t 28) (.t 37)⟩,⟨some 3,none,.mov (.t 38)⟩]) (.reg [⟨some 39,none,.mov (.t 7)⟩,⟨some 5,none,.mov (.t 39)⟩]))))) (.reg [⟨some 15,none,.mov (.t 6)⟩,⟨some 16,none,.bin false .add (.t 15) (.c (.int .i64 1))⟩,⟨some 6,none,.mov (.t 16)⟩])))
def sc_s_FreeHoles:SC:=(.seq (.reg [⟨some 1,none,.box (.t 0)⟩,⟨some 2,none,.mov (.c .nil)⟩]) (.seq (.reg [⟨some 8,none,.mks 0 1 [] []⟩,⟨some 3,none,.mov (.t 8)⟩]) (.seq (.reg [⟨some 9,none,.ld (some 2) .undef (.t 1)⟩,⟨some 10,none,.call 42 [.t 9]⟩,⟨some 4,none,.mov (.t 10)⟩]) (.seq (.reg [⟨some 5,none,.mov (.c (.int .i64 0))⟩]) (.seq (.seq (.reg [⟨some 6,none,.mov (.c (.int .i64 0))⟩]) (.block 0 (.loop sc_s_FreeHoles_L0))) (.seq (.reg [⟨some 40,none,.mov (.t 3)⟩,⟨some 2,none,.mov (.t 40)⟩]) .ret))))))
theorem code_s_FreeHoles:fnCode Tryz.prog [] 13=some (41,sc_s_FreeHoles,[(2,none)]):=by kernel_rfl
theorem fn_s_FreeHoles:FnOk Tryz.prog 13 F_s_FreeHoles:=by
 have env:=(((envNil_ok (P:=Tryz.prog)).add fn_s_FaceCounts).add fn_s_l13Border).add fn_s_SmithOf
 refine fn_ok code_s_FreeHoles mixed env ?_
 intro args r h hb
 obtain ⟨_,⟨n,l⟩,rfl,h1,h4⟩:=F1_inv h
 cases dC_inv h1
 cases h4
 clear h
 refine ⟨by simp,fun w0 U0 L0 N0 => ?_⟩
 clear hb
 simp only
 have hFF:F_s_FaceCounts [.agg [.int .i64 n,.list 1 (ints l)]]=some (.own 1 (ints (fctL n l))):=by simp [F_s_FaceCounts]
 have hdef:∃ m:Nat,m≤7∧(fctL n l).length=m∧(frL n l).length=m∧∀ k,k<m→cplx n l∧topZ (faceS l)+1=m∧at0 (fctL n l) k=((szS (faceS l) k).length:Nat)∧at0 (frL n l) k=frV (faceS l) k:=by
  by_cases hc:cplx n l
  ·have htb:=topZ_bnd (faceS l)
   have e1:fctL n l=rowF (topZ (faceS l)+1).toNat (fun z=>((szS (faceS l) z).length:Nat)):=if_pos hc
   have e2:frL n l=frZ (faceS l):=if_pos hc
   refine ⟨(topZ (faceS l)+1).toNat,by omega,by rw [e1,rowF_len],by rw [e2]; unfold frZ; rw [rowF_len],fun k hk=>⟨hc,by omega,by rw [e1,rowF_at hk],?_⟩⟩
   rw [e2]
   exact rowF_at hk
  ·have e1:fctL n l=[]:=if_neg hc
   have e2:frL n l=[]:=if_neg hc
   exact ⟨0,by omega,by rw [e1]; rfl,by rw [e2]; rfl,fun k hk=>by omega⟩
 obtain ⟨m,hm7,hFl,hOl,hk⟩:=hdef
 generalize fctL n l=F at *
 generalize frL n l=O at *
 simp -implicitDefEqProofs [sc_s_FreeHoles,hFF]
 refine loopI env mixed (fun k:Nat=>[(1,.pt 0 0),(3,.sl 1 1 0 k),(4,.sl 2 1 0 F.length),(5,.int .i64 (rkS (faceS l) k)),(6,.int .i64 (k:Int))]) (fun k=>([(2,ints F),(1,ints (O.take k)),(0,[.int .i64 n,.list 1 (ints l)])],3)) (fun k=>k≤m) (fun k=>m-k) 0 (by simp) (SubI.slots (by simp) (by simp [rkS_low])) ?_
 intro k hkm
 by_cases hlt:k<m
 ·obtain ⟨hc,ht,hf,ho⟩:=hk k hlt
  have hltF:k<F.length:=by omega
  have b1:=rkS_bnd (faceS l) k
  have b2:=rkS_bnd (faceS l) ((k:Int)+1)
  have b3:=szS_len (faceS l) k
  have hv:frV (faceS l) k=((szS (faceS l) k).length:Nat)-rkS (faceS l) k-rkS (faceS l) (k+1):=rfl
  have hw1:IntKind.i64.wrap ((k:Int)+1)=(k:Int)+1:=wrapI _ (by omega) (by omega)
  have e:O.take (k+1)=O.take k++[((szS (faceS l) k).length:Nat)-rkS (faceS l) k-rkS (faceS l) (k+1)]:=by rw [take_at (by omega),ho,hv]
  have gl:(O.take k).length=k:=by simp; omega
  by_cases hnx:k+1<m
  ·have hF1:F_i_BorderMatrix [.agg [.int .i64 n,.list 1 (ints l)],.int .i64 ((k:Int)+1)]=some (.own 1 (rowsV (borM n l ((k:Int)+1)))):=by
    simp only [F_i_BorderMatrix,F2_mk,dC_agg,dI_int,Option.bind_some]
    rw [if_pos ⟨hc,by omega,by omega⟩]
   have hbm:borM n l ((k:Int)+1)=sgnM (szS (faceS l) ((k:Int)+1-1)) (szS (faceS l) ((k:Int)+1)):=by
    unfold borM
    rw [szS_fos hc,szS_fos hc]
   have hF2:F_s_SmithOf [.list 1 (rowsL (borM n l ((k:Int)+1)))]=some (.own 1 (ints (bsm (szS (faceS l) ((k:Int)+1-1)) (szS (faceS l) ((k:Int)+1))))):=by
    have h1:=(bsm_sz (q:=faceS l) (k:=k+1) ⟨by omega,by omega⟩).1
    rw [show ((k+1:Nat):Int)=(k:Int)+1 by omega] at h1
    rw [hbm]
    simp only [F_s_SmithOf,F1_mk,dLL_list,Option.bind_some]
    rw [h1]
    rfl
   have hnI:(k:Int)+1<(F.length:Int):=by omega
   have hrr:rkS (faceS l) ((k:Int)+1)=((bsm (szS (faceS l) ((k:Int)+1-1)) (szS (faceS l) ((k:Int)+1))).length:Nat):=rfl
   generalize borM n l ((k:Int)+1)=B at *
   generalize bsm (szS (faceS l) ((k:Int)+1-1)) (szS (faceS l) ((k:Int)+1))=S at *
   generalize szS (faceS l) k=s0 at *
   generalize hr2:rkS (faceS l) ((k:Int)+1)=r2 at *
   generalize hr1:rkS (faceS l) k=r1 at *
   subst hrr
   generalize O.take k=g at *
   have hw2:IntKind.i64.wrap ((s0.length:Int)-r1)=s0.length-r1:=wrapI _ (by omega) (by omega)
   have hw3:IntKind.i64.wrap ((s0.length:Int)-r1-S.length)=s0.length-r1-S.length:=wrapI _ (by omega) (by omega)
   simp -implicitDefEqProofs [sc_s_FreeHoles_L0,hltF,hw1,hnI,hF1,hF2,hf,hw2,hw3,gl]
   refine ⟨by omega,?_⟩
   refine Again.of (k+1) (by omega) (by omega) (SubI.ren (fun m=>if m=0 then some 0 else if m=1 then some 6 else if m=2 then some 2 else none) ?_ ?_ ?_ (by simp) (by simp))
   ·simp [subT,renV,ren1,hr2]
   ·have htk:g.take k=g:=List.take_of_length_le (by omega)
    simp [subH,e,renL,ren1,htk]
    rw [← ints_app]
    rfl
   ·intro m hm
    simp only at hm
    rw [if_neg (by omega),if_neg (by omega),if_neg (by omega)]
  ·have hr0:rkS (faceS l) ((k:Int)+1)=0:=rkS_high _ (by omega)
   have hnI:¬((k:Int)+1<(F.length:Int)):=by omega
   rw [hr0,Int.sub_zero] at e
   generalize szS (faceS l) k=s0 at *
   generalize hr1:rkS (faceS l) k=r1 at *
   generalize O.take k=g at *
   have hw2:IntKind.i64.wrap ((s0.length:Int)-r1)=s0.length-r1:=wrapI _ (by omega) (by omega)
   simp -implicitDefEqProofs [sc_s_FreeHoles_L0,hltF,hw1,hnI,hf,hw2,gl]
   refine ⟨by omega,?_⟩
   refine Again.of (k+1) (by omega) (by omega) (SubI.ren (fun m=>if m=0 then some 0 else if m=1 then some 4 else if m=2 then some 2 else none) ?_ ?_ ?_ (by simp) (by simp))
   ·simp [subT,renV,ren1,hr0]
   ·have htk:g.take k=g:=List.take_of_length_le (by omega)
    simp [subH,e,renL,ren1,htk]
    rw [← ints_app]
    rfl
   ·intro m hm
    simp only at hm
    rw [if_neg (by omega),if_neg (by omega),if_neg (by omega)]
 ·have:k=m:=by omega
  subst this
  have htk:O.take k=O:=List.take_of_length_le (by omega)
  have hltF:¬k<F.length:=by omega
  simp -implicitDefEqProofs [sc_s_FreeHoles_L0,hltF,hFl,htk]
  try omega
def sc_s_TwistsOf_L0:SC:=(.seq (.seq (.reg [⟨some 23,none,.mov (.t 7)⟩,⟨some 24,none,.mov (.t 6)⟩,⟨some 25,none,.len (.t 24)⟩,⟨some 26,none,.bin false .lss (.t 23) (.t 25)⟩]) (.cond (.t 26) .skip (.exit 0))) (.seq (.block 1 (.seq (.reg [⟨some 29,none,.mov (.t 6)⟩,⟨some 30,none,.mov (.t 7)⟩,⟨some 31,none,.idx 1 (.t 29) (.t 30)⟩,⟨some 32,none,.ld none (.int .i64 0) (.t 31)⟩,⟨some 33,none,.bin false .gtr (.t 32) (.c (.int .i64 1))⟩]) (.cond (.t 33) (.reg [⟨some 34,none,.mov (.t 5)⟩,⟨some 35,none,.mov (.t 6)⟩,⟨some 36,none,.mov (.t 7)⟩,⟨some 37,none,.idx 1 (.t 35) (.t 36)⟩,⟨some 38,none,.ld none (.int .i64 0) (.t 37)⟩,⟨some 39,none,.mks 1 1 [.int .i64 0] [(0,(1,(.t 38)))]⟩,⟨some 40,none,.app 1 8 (.t 34) (.t 39)⟩,⟨some 5,none,.mov (.t 40)⟩]) .skip))) (.reg [⟨some 27,none,.mov (.t 7)⟩,⟨some 28,none,.bin false .add (.t 27) (.c (.int .i64 1))⟩,⟨some 7,none,.mov (.t 28)⟩])))
def sc_s_TwistsOf:SC:=(.seq (.reg [⟨some 2,none,.box (.t 0)⟩,⟨some 4,none,.mov (.c .nil)⟩]) (.seq (.reg [⟨some 8,none,.mks 0 1 [] []⟩,⟨some 5,none,.mov (.t 8)⟩]) (.seq (.seq (.reg [⟨some 9,none,.ld (some 2) .undef (.t 2)⟩,⟨some 10,none,.call 44 [.t 9]⟩,⟨some 11,none,.un .not (.t 10)⟩,⟨some 12,none,.mov (.t 11)⟩,⟨some 13,some (12,false),.mov (.t 1)⟩,⟨some 14,some (12,false),.call 39 [.t 13,(.c (.int .i64 0)),(.c (.int .i64 5))]⟩,⟨some 15,some (12,false),.un .not (.t 14)⟩,⟨some 16,none,.pick (.t 12) (.c (.bool true)) (.t 15)⟩]) (.cond (.t 16) (.seq (.reg [⟨some 17,none,.mov (.t 5)⟩,⟨some 4,none,.mov (.t 17)⟩]) .ret) .skip)) (.seq (.reg [⟨some 18,none,.ld (some 2) .undef (.t 2)⟩,⟨some 19,none,.mov (.t 1)⟩,⟨some 20,none,.bin false .add (.t 19) (.c (.int .i64 1))⟩,⟨some 21,none,.call 25 [.t 18,.t 20]⟩,⟨some 22,none,.call 12 [.t 21]⟩,⟨some 6,none,.mov (.t 22)⟩]) (.seq (.seq (.reg [⟨some 7,none,.mov (.c (.int .i64 0))⟩]) (.block 0 (.loop sc_s_TwistsOf_L0))) (.seq (.reg [⟨some 41,none,.mov (.t 5)⟩,⟨some 4,none,.mov (.t 41)⟩]) .ret))))))
theorem code_s_TwistsOf:fnCode Tryz.prog [] 15=some (42,sc_s_TwistsOf,[(4,none)]):=by kernel_rfl
theorem fn_s_TwistsOf:FnOk Tryz.prog 15 F_s_TwistsOf:=by
 have env:=((((envNil_ok (P:=Tryz.prog)).add fn_s_IsComplex).add fn_s_l1In).add fn_s_l13Border).add fn_s_SmithOf
 refine fn_ok code_s_TwistsOf mixed env ?_
 intro args r h hb
 obtain ⟨_,_,⟨n,l⟩,k,rfl,h1,h2,h4⟩:=F2_inv h
 cases dC_inv h1
 cases dI_inv h2
 cases h4
 clear h
 refine ⟨by simp,fun w0 U0 L0 N0 => ?_⟩
 clear hb
 simp only
 cases e0:cplxB n l with
 | false =>
  have e:twL n l k=[]:=if_neg fun h=>by simp [cplxB_iff.2 h.1] at e0
  rw [e]
  simp -implicitDefEqProofs [sc_s_TwistsOf,F_s_IsComplex,e0]
 | true =>
 have hc:=cplxB_iff.1 e0
 by_cases g1:0≤k∧k≤5
 rotate_left
 ·have e:twL n l k=[]:=if_neg fun h=>g1 h.2
  have g2:F_s_l1In [.int .i64 k,.int .i64 0,.int .i64 5]=some (.bool false):=by
   rw [← decide_eq_false g1]
   simp [F_s_l1In]
  rw [e]
  simp -implicitDefEqProofs [sc_s_TwistsOf,F_s_IsComplex,e0,g2]
 have g2:F_s_l1In [.int .i64 k,.int .i64 0,.int .i64 5]=some (.bool true):=by
  rw [← decide_eq_true g1]
  simp [F_s_l1In]
 have hw1:IntKind.i64.wrap (k+1)=k+1:=wrapI _ (by omega) (by omega)
 have hF1:F_i_BorderMatrix [.agg [.int .i64 n,.list 1 (ints l)],.int .i64 (k+1)]=some (.own 1 (rowsV (borM n l (k+1)))):=by
  simp only [F_i_BorderMatrix,F2_mk,dC_agg,dI_int,Option.bind_some]
  rw [if_pos ⟨hc,by omega,by omega⟩]
 have hbm:borM n l (k+1)=sgnM (szS (faceS l) k) (szS (faceS l) (k+1)):=by
  unfold borM
  rw [szS_fos hc,szS_fos hc,show k+1-1=k by omega]
 have hF2:F_s_SmithOf [.list 1 (rowsL (borM n l (k+1)))]=some (.own 1 (ints (bsm (szS (faceS l) k) (szS (faceS l) (k+1))))):=by
  have h1:=(bsm_sz (q:=faceS l) (k:=k.toNat+1) ⟨by omega,by omega⟩).1
  rw [show ((k.toNat+1:Nat):Int)=k+1 by omega,show k+1-1=k by omega] at h1
  rw [hbm]
  simp only [F_s_SmithOf,F1_mk,dLL_list,Option.bind_some]
  rw [h1]
  rfl
 have hT:twL n l k=(bsm (szS (faceS l) k) (szS (faceS l) (k+1))).filter fun d=>decide (1<d):=if_pos ⟨hc,g1⟩
 have hbl:(bsm (szS (faceS l) k) (szS (faceS l) (k+1))).length≤64:=by
  have:=(bsm_len (szS (faceS l) k) (szS (faceS l) (k+1))).1
  have:=szS_len (faceS l) k
  omega
 rw [hT]
 generalize bsm (szS (faceS l) k) (szS (faceS l) (k+1))=S at *
 generalize borM n l (k+1)=B at *
 simp -implicitDefEqProofs [sc_s_TwistsOf,F_s_IsComplex,e0,g2,hw1,hF1,hF2]
 refine loopI env mixed (fun j:Nat=>[(5,.sl 1 1 0 ((S.take j).filter fun d=>decide (1<d)).length),(6,.sl 0 1 0 S.length),(7,.int .i64 (j:Int))]) (fun j=>([(1,ints ((S.take j).filter fun d=>decide (1<d))),(0,ints S)],2)) (fun j=>j≤S.length) (fun j=>S.length-j) 0 (by simp) (SubI.ren (fun m=>if m=0 then some 3 else if m=1 then some 1 else none) (by simp [subT,renV,ren1]) (by simp [subH,renL,ren1]) (fun m hm=>by simp only at hm; rw [if_neg (by omega),if_neg (by omega)]) (by simp) (by simp)) ?_
 intro j hj
 by_cases hlt:j<S.length
 ·have ft:=filt_take hlt fun d=>decide (1<d)
  have fl:=filt_le (S:=S) j fun d=>decide (1<d)
  by_cases h1:1<at0 S j
  ·rw [if_pos (by simpa using h1)] at ft
   generalize hg:(S.take j).filter (fun d=>decide (1<d))=g at *
   have htk:g.take g.length=g:=List.take_length
   simp -implicitDefEqProofs [sc_s_TwistsOf_L0,hlt,h1]
   refine ⟨by omega,?_⟩
   refine Again.of (j+1) (by omega) (by omega) (SubI.ren (fun m=>if m=0 then some 0 else if m=1 then some 3 else none) ?_ ?_ ?_ (by simp) (by simp))
   ·simp (disch:=omega) [subT,renV,ren1,wrapI,ft]
   ·simp [subH,renL,ren1,ft]
    rw [← ints_app]
    rfl
   ·intro m hm
    simp only at hm
    rw [if_neg (by omega),if_neg (by omega)]
  ·rw [if_neg (by simpa using h1),List.append_nil] at ft
   generalize hg:(S.take j).filter (fun d=>decide (1<d))=g at *
   simp -implicitDefEqProofs [sc_s_TwistsOf_L0,hlt,h1]
   exact Again.of (j+1) (by omega) (by omega) (SubI.slots (by simp [ft]) (by simp (disch:=omega) [wrapI,ft]))
 ·have:j=S.length:=by omega
  subst this
  rw [List.take_length]
  simp -implicitDefEqProofs [sc_s_TwistsOf_L0]
noncomputable def txS (t:ByteArray) (tw:List Int):Nat→ByteArray
 | 0=>t
 | i+1=>txS t tw i++(⟨⟨[47]⟩⟩++decS (at0 tw i))
theorem decS_size {n:Int} (h0:0≤n) (h:n<100):(decS n).size≤2:=by
 by_cases h1:n<10
 ·rw [decS_one h0 h1]
  show 1≤2
  omega
 ·rw [decS_two (by omega) h,ba_size]
  show 1+1≤2
  omega
theorem txS_size {t:ByteArray} {tw:List Int} (h:∀ i,i<tw.length→0≤at0 tw i∧at0 tw i<100):∀ i,i≤tw.length→(txS t tw i).size≤t.size+3*i
 | 0,_=>Nat.le_refl _
 | i+1,hi=>by
  have h1:=txS_size (t:=t) h i (by omega)
  have h2:=decS_size (h i (by omega)).1 (h i (by omega)).2
  show (txS t tw i++(⟨⟨[47]⟩⟩++decS (at0 tw i))).size≤_
  rw [ba_size,ba_size]
  have h3:(⟨⟨[47]⟩⟩:ByteArray).size=1:=rfl
  omega
noncomputable def ptS (n:Int) (l:List Int) (k:Nat):ByteArray:=txS (decS (at0 (frL n l) k)) (twL n l k) (twL n l k).length
noncomputable def psS (n:Int) (l:List Int) (i:Nat):List ByteArray:=(List.range i).map fun j=>ptS n l (j+1)
theorem psS_len (n:Int) (l:List Int) (i:Nat):(psS n l i).length=i:=by simp [psS]
theorem psS_succ (n:Int) (l:List Int) (i:Nat):psS n l (i+1)=psS n l i++[ptS n l (i+1)]:=by simp [psS,List.range_succ]
theorem jnS_size {m:List ByteArray} {B:Nat} (s:ByteArray) (h:∀ i,i<m.length→(atS m i).size≤B):∀ i,i≤m.length→(jnS (m.take i) s).size≤i*(B+s.size)
 | 0,_=>by
  rw [List.take_zero,jnS_nil,ba_size0]
  omega
 | i+1,hi=>by
  have h1:=jnS_size s h i (by omega)
  have h2:=h i (by omega)
  rw [jn_step (by omega),ba_size,Nat.succ_mul]
  by_cases h0:i=0
  ·rw [if_pos h0]; omega
  ·rw [if_neg h0,ba_size]; omega
open Classical in
noncomputable def htS (n:Int) (l:List Int):ByteArray:=if cplx n l then (if (frL n l).length≤1 then ⟨⟨[45]⟩⟩ else jnS (psS n l ((frL n l).length-1)) ⟨⟨[32]⟩⟩) else ⟨⟨[]⟩⟩
noncomputable def F_s_HolesText:List V→Option V:=F1 dC fun c=>some (.str (htS c.1 c.2))
structure htI (n:Int) (l:List Int):Prop where
 len:(frL n l).length≤7
 fr:∀ k,k<(frL n l).length→0≤at0 (frL n l) k∧at0 (frL n l) k<100
 tw:∀ k:Nat,(twL n l k).length≤64∧∀ i,i<(twL n l k).length→0≤at0 (twL n l k) i∧at0 (twL n l k) i<100
 pt:∀ k,k<(frL n l).length→(ptS n l k).size≤200
 jn:∀ i,i+1≤(frL n l).length→(jnS (psS n l i) ⟨⟨[32]⟩⟩).size≤1000000
theorem ht_inv {n:Int} {l:List Int} (hc:cplx n l):htI n l:=by
 have htb:=topZ_bnd (faceS l)
 have e2:frL n l=frZ (faceS l):=if_pos hc
 have hlen:(frL n l).length=(topZ (faceS l)+1).toNat:=by rw [e2]; unfold frZ; rw [rowF_len]
 have hq:∀ s t,isS s→isS t→subS s t→faceS l t→faceS l s:=fun s t hs ht h hf=>faceS_sub (cplx_isS hc) hs ht h hf
 have hfr:∀ k,k<(frL n l).length→0≤at0 (frL n l) k∧at0 (frL n l) k<100:=fun k hk=>by
  have e:at0 (frL n l) k=frV (faceS l) k:=by
   rw [e2]
   exact rowF_at (by omega)
  have:=frV_nn hq (k:=k) (by omega)
  omega
 have htw:∀ k:Nat,(twL n l k).length≤64∧∀ i,i<(twL n l k).length→0≤at0 (twL n l k) i∧at0 (twL n l k) i<100:=fun k=>by
  by_cases hk:k≤5
  ·have e:twL n l k=(bsm (szS (faceS l) k) (szS (faceS l) ((k:Int)+1))).filter fun d=>decide (1<d):=if_pos ⟨hc,by omega,by omega⟩
   have hs:=(bsm_spec (q:=faceS l) (k:=k+1) ⟨by omega,by omega⟩).1
   rw [show ((k+1:Nat):Int)=(k:Int)+1 by omega,show (k:Int)+1-1=k by omega] at hs
   have hl:=(bsm_len (szS (faceS l) k) (szS (faceS l) ((k:Int)+1))).1
   have hl2:=szS_len (faceS l) k
   have hl3:=List.length_filter_le (fun d:Int=>decide (1<d)) (bsm (szS (faceS l) k) (szS (faceS l) ((k:Int)+1)))
   rw [e]
   refine ⟨by omega,fun i hi => ?_⟩
   have hm:=getD_mem' hi
   have:=hs _ (List.mem_filter.1 hm).1
   omega
  ·have e:twL n l k=[]:=if_neg fun h=>by have:=h.2.2; omega
   rw [e]
   exact ⟨by simp,fun i hi=>by simp at hi⟩
 have hpt:∀ k,k<(frL n l).length→(ptS n l k).size≤200:=fun k hk=>by
  have h1:=decS_size (hfr k hk).1 (hfr k hk).2
  have h2:=txS_size (t:=decS (at0 (frL n l) k)) (htw k).2 _ (Nat.le_refl _)
  have h3:=(htw k).1
  unfold ptS
  omega
 refine ⟨by omega,hfr,htw,hpt,fun i hi => ?_⟩
 have h1:=jnS_size (m:=psS n l i) (B:=200) ⟨⟨[32]⟩⟩ (fun j hj=>by
  rw [psS_len] at hj
  have e:atS (psS n l i) j=ptS n l (j+1):=by simp [atS,psS,hj]
  rw [e]
  exact hpt _ (by omega)) (psS n l i).length (Nat.le_refl _)
 rw [List.take_length,psS_len] at h1
 have h3:(⟨⟨[32]⟩⟩:ByteArray).size=1:=rfl
 rw [h3] at h1
 omega
theorem strs_snoc (m:List ByteArray) (x:ByteArray):strs (m++[x])=strs m++[.str x]:=by simp [strs]
def sc_s_HolesText_L2:SC:=(.seq (.seq (.reg [⟨some 29,none,.mov (.t 8)⟩,⟨some 30,none,.mov (.t 7)⟩,⟨some 31,none,.len (.t 30)⟩,⟨some 32,none,.bin false .lss (.t 29) (.t 31)⟩]) (.cond (.t 32) .skip (.exit 2))) (.seq (.block 3 (.reg [⟨some 35,none,.mov (.t 6)⟩,⟨some 36,none,(.bin false .add (.t 35) (.c (.str ⟨⟨[47]⟩⟩)))⟩,⟨some 37,none,.mov (.t 7)⟩,⟨some 38,none,.mov (.t 8)⟩,⟨some 39,none,.idx 1 (.t 37) (.t 38)⟩,⟨some 40,none,.ld none (.int .i64 0) (.t 39)⟩,⟨some 41,none,.call 47 [.t 40]⟩,⟨some 42,none,.bin false .add (.t 36) (.t 41)⟩,⟨some 6,none,.mov (.t 42)⟩])) (.reg [⟨some 33,none,.mov (.t 8)⟩,⟨some 34,none,.bin false .add (.t 33) (.c (.int .i64 1))⟩,⟨some 8,none,.mov (.t 34)⟩])))
def sc_s_HolesText_L0:SC:=(.seq (.seq (.reg [⟨some 15,none,.mov (.t 5)⟩,⟨some 16,none,.mov (.t 3)⟩,⟨some 17,none,.len (.t 16)⟩,⟨some 18,none,.bin false .lss (.t 15) (.t 17)⟩]) (.cond (.t 18) .skip (.exit 0))) (.seq (.block 1 (.seq (.reg [⟨some 21,none,.mov (.t 3)⟩,⟨some 22,none,.mov (.t 5)⟩,⟨some 23,none,.idx 1 (.t 21) (.t 22)⟩,⟨some 24,none,.ld none (.int .i64 0) (.t 23)⟩,⟨some 25,none,.call 47 [.t 24]⟩,⟨some 6,none,.mov (.t 25)⟩]) (.seq (.reg [⟨some 26,none,.ld (some 2) .undef (.t 1)⟩,⟨some 27,none,.mov (.t 5)⟩,⟨some 28,none,.call 15 [.t 26,.t 27]⟩,⟨some 7,none,.mov (.t 28)⟩]) (.seq (.seq (.reg [⟨some 8,none,.mov (.c (.int .i64 0))⟩]) (.block 2 (.loop sc_s_HolesText_L2))) (.reg [⟨some 43,none,.mov (.t 4)⟩,⟨some 44,none,.mov (.t 6)⟩,⟨some 45,none,(.mks 1 1 [(.str ⟨⟨[]⟩⟩)] [(0,(1,(.t 44)))])⟩,⟨some 46,none,.app 1 16 (.t 43) (.t 45)⟩,⟨some 4,none,.mov (.t 46)⟩]))))) (.reg [⟨some 19,none,.mov (.t 5)⟩,⟨some 20,none,.bin false .add (.t 19) (.c (.int .i64 1))⟩,⟨some 5,none,.mov (.t 20)⟩])))
def sc_s_HolesText:SC:=(.seq (.reg [⟨some 1,none,.box (.t 0)⟩,⟨some 2,none,(.mov (.c (.str ⟨⟨[]⟩⟩)))⟩]) (.seq (.seq (.reg [⟨some 9,none,.ld (some 2) .undef (.t 1)⟩,⟨some 10,none,.call 44 [.t 9]⟩,⟨some 11,none,.un .not (.t 10)⟩]) (.cond (.t 11) (.seq (.reg [⟨some 2,none,(.mov (.c (.str ⟨⟨[]⟩⟩)))⟩]) .ret) .skip)) (.seq (.reg [⟨some 12,none,.ld (some 2) .undef (.t 1)⟩,⟨some 13,none,.call 13 [.t 12]⟩,⟨some 3,none,.mov (.t 13)⟩]) (.seq (.reg [⟨some 14,none,.mks 0 1 [] []⟩,⟨some 4,none,.mov (.t 14)⟩]) (.seq (.seq (.reg [⟨some 5,none,.mov (.c (.int .i64 1))⟩]) (.block 0 (.loop sc_s_HolesText_L0))) (.seq (.seq (.reg [⟨some 47,none,.mov (.t 4)⟩,⟨some 48,none,.len (.t 47)⟩,⟨some 49,none,.bin false .eql (.t 48) (.c (.int .i64 0))⟩]) (.cond (.t 49) (.seq (.reg [⟨some 2,none,(.mov (.c (.str ⟨⟨[45]⟩⟩)))⟩]) .ret) .skip)) (.seq (.reg [⟨some 50,none,.mov (.t 4)⟩,⟨some 51,none,(.call 48 [.t 50,(.c (.str ⟨⟨[32]⟩⟩))])⟩,⟨some 2,none,.mov (.t 51)⟩]) .ret)))))))
theorem code_s_HolesText:fnCode Tryz.prog [] 17=some (52,sc_s_HolesText,[(2,none)]):=by kernel_rfl
theorem fn_s_HolesText:FnOk Tryz.prog 17 F_s_HolesText:=by
 have env:=(((((envNil_ok (P:=Tryz.prog)).add fn_s_IsComplex).add fn_s_FreeHoles).add fn_s_TwistsOf).add fn_s_FormatInt).add fn_s_Join
 refine fn_ok code_s_HolesText mixed env ?_
 intro args r h hb
 obtain ⟨_,⟨n,l⟩,rfl,h1,h4⟩:=F1_inv h
 cases dC_inv h1
 cases h4
 clear h
 refine ⟨by simp,fun w0 U0 L0 N0 => ?_⟩
 clear hb
 simp only
 cases e0:cplxB n l with
 | false =>
  have e:htS n l=⟨⟨[]⟩⟩:=if_neg fun h=>by simp [cplxB_iff.2 h] at e0
  rw [e]
  simp -implicitDefEqProofs [sc_s_HolesText,F_s_IsComplex,e0]
 | true =>
 have hc:=cplxB_iff.1 e0
 obtain ⟨hlen,hfr,htw,hpt,hjn⟩:=ht_inv hc
 have hF1:F_s_FreeHoles [.agg [.int .i64 n,.list 1 (ints l)]]=some (.own 1 (ints (frL n l))):=by simp [F_s_FreeHoles]
 have hT:htS n l=if (frL n l).length≤1 then ⟨⟨[45]⟩⟩ else jnS (psS n l ((frL n l).length-1)) ⟨⟨[32]⟩⟩:=if_pos hc
 have hps:∀ i,psS n l (i+1)=psS n l i++[txS (decS (at0 (frL n l) (i+1))) (twL n l ((i:Int)+1)) (twL n l ((i:Int)+1)).length]:=fun i=>by
  rw [psS_succ]
  unfold ptS
  rw [show ((i+1:Nat):Int)=(i:Int)+1 by omega]
 generalize frL n l=O at *
 simp -implicitDefEqProofs [sc_s_HolesText,F_s_IsComplex,e0,hF1]
 refine loopI env mixed (fun i:Nat=>[(1,.pt 0 0),(2,.str ⟨⟨[]⟩⟩),(3,.sl 1 1 0 O.length),(4,.sl 2 1 0 i),(5,.int .i64 ((i:Int)+1))]) (fun i=>([(2,strs (psS n l i)),(1,ints O),(0,[.int .i64 n,.list 1 (ints l)])],3)) (fun i=>i=0∨i+1≤O.length) (fun i=>O.length-i) 0 (by simp) (SubI.slots (by simp [psS,strs]) (by simp)) ?_
 intro i hi
 have hpl:=psS_len n l i
 by_cases hlt:i+1<O.length
 ·have hltI:(i:Int)+1<(O.length:Int):=by omega
  obtain ⟨f0,f1⟩:=hfr (i+1) hlt
  obtain ⟨t64,ht⟩:=htw (i+1)
  have hp:=hps i
  have hp2:=hpt (i+1) hlt
  rw [show ((i+1:Nat):Int)=(i:Int)+1 by omega] at t64 ht
  have hF2:F_s_FormatInt [.int .i64 (at0 O (i+1))]=some (.str (decS (at0 O (i+1)))):=if_pos ⟨f0,f1⟩
  have hF3:F_s_TwistsOf [.agg [.int .i64 n,.list 1 (ints l)],.int .i64 ((i:Int)+1)]=some (.own 1 (ints (twL n l ((i:Int)+1)))):=by simp [F_s_TwistsOf]
  have ht0:=decS_size f0 f1
  have htx:=txS_size (t:=decS (at0 O (i+1))) ht
  have hw1:IntKind.i64.wrap ((i:Int)+1)=(i:Int)+1:=wrapI _ (by omega) (by omega)
  have hw2:IntKind.i64.wrap ((i:Int)+1+1)=(i:Int)+1+1:=wrapI _ (by omega) (by omega)
  have hat:(ints O).getD (i+1) (.int .i64 0) = .int .i64 (at0 O (i+1)):=by simp [at0,ints]
  generalize decS (at0 O (i+1))=t0 at *
  generalize twL n l ((i:Int)+1)=S at *
  generalize psS n l i=g at *
  have htk:g.take i=g:=List.take_of_length_le (by omega)
  simp -implicitDefEqProofs [sc_s_HolesText_L0,hltI,hlt,hF2,hF3]
  refine ⟨by omega,?_⟩
  refine loopQ env mixed (fun j:Nat=>[(1,.pt 0 0),(2,.str ⟨⟨[]⟩⟩),(3,.sl 1 1 0 O.length),(4,.sl 2 1 0 i),(5,.int .i64 ((i:Int)+1)),(6,.str (txS t0 S j)),(7,.sl 3 1 0 S.length),(8,.int .i64 (j:Int))]) (fun j=>([(3,ints S),(2,strs g),(1,ints O),(0,[.int .i64 n,.list 1 (ints l)])],4)) (fun j=>j≤S.length) (fun j=>S.length-j) 0 (by simp) (SubI.slots (by simp) (by simp [txS])) ?_
  intro j hj
  by_cases hjl:j<S.length
  ·have hjI:(j:Int)<(S.length:Int):=by omega
   have hF4:F_s_FormatInt [.int .i64 (at0 S j)]=some (.str (decS (at0 S j))):=if_pos (ht j hjl)
   have hd2:=decS_size (ht j hjl).1 (ht j hjl).2
   have hx1:=htx j (by omega)
   have hw3:IntKind.i64.wrap ((j:Int)+1)=(j:Int)+1:=wrapI _ (by omega) (by omega)
   have hst:txS t0 S (j+1)=txS t0 S j++⟨⟨[47]⟩⟩++decS (at0 S j):=by
    show txS t0 S j++(⟨⟨[47]⟩⟩++decS (at0 S j))=_
    exact ba_ext (by rw [ba_app,ba_app,ba_app,ba_app,List.append_assoc])
   have hs1:(⟨⟨[47]⟩⟩:ByteArray).size=1:=rfl
   generalize hxx:txS t0 S (j+1)=x2 at *
   generalize txS t0 S j=x at *
   generalize hdd:decS (at0 S j)=dd at *
   have hz1:x.size+(⟨⟨[47]⟩⟩:ByteArray).size≤9223372036854775807:=by omega
   have hz2:(x++(⟨⟨[47]⟩⟩:ByteArray)).size+dd.size≤9223372036854775807:=by rw [ba_size]; omega
   simp -implicitDefEqProofs [sc_s_HolesText_L2,hjl,hjI,hF4,hz1,hz2,hw3]
   repeat' (first | omega | apply And.intro)
   exact Again.of (j+1) (by omega) (by omega) (SubI.slots (by simp) (by simp [hxx,hst]))
  ·have:j=S.length:=by omega
   subst this
   have hx1:=htx S.length (Nat.le_refl _)
   simp -implicitDefEqProofs [sc_s_HolesText_L2,hjl]
   refine SubQ.of (l1:=[(1,.pt 0 0),(2,.str ⟨⟨[]⟩⟩),(3,.sl 1 1 0 O.length),(4,.sl 2 1 0 i),(5,.int .i64 ((i:Int)+1)),(6,.str (txS t0 S S.length))]) (SubI.slots rfl (by simp)) ?_
   generalize txS t0 S S.length=x at *
   simp -implicitDefEqProofs [htk,hw2,hpl]
   repeat' (first | omega | apply And.intro)
   refine Again.of (i+1) (by omega) (by omega) (SubI.ren (fun m=>if m=0 then some 0 else if m=1 then some 1 else if m=2 then some 5 else none) ?_ ?_ ?_ (by simp) (by simp))
   ·simp [subT,renV,ren1]
   ·simp [subH,hp,renL,ren1]
    exact strs_snoc g x
   ·intro m hm
    simp only at hm
    rw [if_neg (by omega),if_neg (by omega),if_neg (by omega)]
 ·have hltI:¬(i:Int)+1<(O.length:Int):=by omega
  by_cases h0:i=0
  ·subst h0
   rw [if_pos (by omega)] at hT
   have hle:O.length≤1:=by omega
   have hleI:(O.length:Int)≤1:=by omega
   simp -implicitDefEqProofs [sc_s_HolesText_L0,hlt,hltI,hT,hle,hleI]
  ·have hi2:i=O.length-1:=by omega
   rw [if_neg (by omega),← hi2] at hT
   have hF5:F_s_Join [.list 1 (strs (psS n l i)),.str ⟨⟨[32]⟩⟩]=some (.str (jnS (psS n l i) ⟨⟨[32]⟩⟩)):=by
    have:=hjn i (by omega)
    simp only [F_s_Join,F2_mk,dS_list,dSt,Option.bind_some]
    rw [if_pos ⟨by omega,this⟩]
   have htk:(psS n l i).take i=psS n l i:=List.take_of_length_le (by omega)
   have h0I:¬(i:Int)=0:=by omega
   simp -implicitDefEqProofs [sc_s_HolesText_L0,hlt,hltI,hT,htk,hF5,h0,h0I,hpl]
def sc_l_at22:SC:=(.seq (.reg [⟨some 4,none,.mov (.c (.int .i64 0))⟩]) (.seq (.seq (.reg [⟨some 5,none,.mov (.t 1)⟩,⟨some 6,none,.bin false .lss (.t 5) (.c (.int .i64 0))⟩,⟨some 7,none,.mov (.t 6)⟩,⟨some 8,some (7,false),.mov (.t 1)⟩,⟨some 9,some (7,false),.mov (.t 0)⟩,⟨some 10,some (7,false),.len (.t 9)⟩,⟨some 11,some (7,false),.bin false .geq (.t 8) (.t 10)⟩,⟨some 12,none,.pick (.t 7) (.c (.bool true)) (.t 11)⟩]) (.cond (.t 12) (.seq (.reg [⟨some 4,none,.mov (.c (.int .i64 0))⟩]) .ret) .skip)) (.seq (.reg [⟨some 13,none,.mov (.t 0)⟩,⟨some 14,none,.mov (.t 1)⟩,⟨some 15,none,.idx 1 (.t 13) (.t 14)⟩,⟨some 16,none,.ld none (.int .i64 0) (.t 15)⟩,⟨some 4,none,.mov (.t 16)⟩]) .ret)))
theorem code_l_at22:fnCode Tryz.prog [] 21=some (17,sc_l_at22,[(4,none)]):=by kernel_rfl
noncomputable def atZ (l:List Int) (i:Int):Int:=@ite _ (i<0) (Classical.propDecidable _) 0 (at0 l i.toNat)
noncomputable def F_l_at22:List V→Option V:=F2 dL dI fun l i=>some (.int .i64 (atZ l i))
theorem atZ_nat (l:List Int) (k:Nat):atZ l (k:Int)=at0 l k:=by
 unfold atZ
 rw [if_neg (by omega),Int.toNat_natCast]
theorem at0_none {l:List Int} {k:Nat} (h:l.length≤k):at0 l k=0:=by simp [at0,List.getElem?_eq_none h]
theorem fn_l_at22:FnOk Tryz.prog 21 F_l_at22:=by
 refine fn_ok code_l_at22 mixed envNil_ok ?_
 intro args r h hb
 obtain ⟨_,_,l,i,rfl,h1,h2,h4⟩:=F2_inv h
 cases dL_inv h1
 cases dI_inv h2
 cases h4
 clear h
 refine ⟨by simp,fun w0 U0 L0 N0 => ?_⟩
 clear hb
 by_cases h0:i<0
 ·have e:atZ l i=0:=if_pos h0
  rw [e]
  simp -implicitDefEqProofs [sc_l_at22,h0]
 obtain ⟨k,rfl⟩:=Int.eq_ofNat_of_zero_le (show 0≤i by omega)
 rw [atZ_nat]
 by_cases h1:l.length≤k
 ·rw [at0_none h1]
  have h2:(l.length:Int)≤(k:Int):=by omega
  simp -implicitDefEqProofs [sc_l_at22,h1,h2]
  try omega
 ·have h2:¬(l.length:Int)≤(k:Int):=by omega
  have h3:k<l.length:=by omega
  simp -implicitDefEqProofs [sc_l_at22,h1,h2,h3]
  try omega
def pr3 (j:Nat):Int:=at0 [2,3,5] j
theorem pr3_fp {j:Nat} (h:j<3):fpP (pr3 j):=by
 rcases (show j=0∨j=1∨j=2 by omega) with rfl | rfl | rfl
 ·exact .inl rfl
 ·exact .inr (.inl rfl)
 ·exact .inr (.inr rfl)
theorem fp_bnd {p:Int} (h:fpP p):2≤p∧p≤5:=by rcases h with rfl | rfl | rfl <;> omega
def cuN (p:Int) (R:List Int) (j:Nat):Nat:=((R.take j).filter fun d=>decide (¬p∣d)).length
def cdN (p:Int) (R:List Int) (j:Nat):Nat:=((R.take j).filter fun d=>decide (p∣d)).length
theorem cuN_zero (p:Int) (R:List Int):cuN p R 0=0:=rfl
theorem cdN_zero (p:Int) (R:List Int):cdN p R 0=0:=rfl
theorem cuN_yes {p:Int} {R:List Int} {j:Nat} (hj:j<R.length) (h:¬(at0 R j).tmod p=0):cuN p R (j+1)=cuN p R j+1:=by
 have h2:¬p∣at0 R j:=fun hd=>h (Int.tmod_eq_zero_of_dvd hd)
 unfold cuN
 rw [filt_take hj,if_pos (by simpa using h2),List.length_append]
 rfl
theorem cuN_no {p:Int} {R:List Int} {j:Nat} (hj:j<R.length) (h:(at0 R j).tmod p=0):cuN p R (j+1)=cuN p R j:=by
 have h2:p∣at0 R j:=Int.dvd_of_tmod_eq_zero h
 unfold cuN
 rw [filt_take hj,if_neg (by simpa using h2),List.append_nil]
theorem cdN_yes {p:Int} {R:List Int} {j:Nat} (hj:j<R.length) (h:(at0 R j).tmod p=0):cdN p R (j+1)=cdN p R j+1:=by
 have h2:p∣at0 R j:=Int.dvd_of_tmod_eq_zero h
 unfold cdN
 rw [filt_take hj,if_pos (by simpa using h2),List.length_append]
 rfl
theorem cdN_no {p:Int} {R:List Int} {j:Nat} (hj:j<R.length) (h:¬(at0 R j).tmod p=0):cdN p R (j+1)=cdN p R j:=by
 have h2:¬p∣at0 R j:=fun hd=>h (Int.tmod_eq_zero_of_dvd hd)
 unfold cdN
 rw [filt_take hj,if_neg (by simpa using h2),List.append_nil]
theorem cuN_all (p:Int) (R:List Int):cuN p R R.length=cntU p R:=by
 unfold cuN cntU
 rw [List.take_length]
theorem cdN_all (p:Int) (R:List Int):cdN p R R.length=cntP2 p R:=by
 unfold cdN cntP2
 rw [List.take_length]
theorem cuN_le (p:Int) (R:List Int) (j:Nat):cuN p R j≤R.length:=filt_le j _
theorem cdN_le (p:Int) (R:List Int) (j:Nat):cdN p R j≤R.length:=filt_le j _
theorem cntP2_app (p:Int) (A B:List Int):cntP2 p (A++B)=cntP2 p A+cntP2 p B:=by
 unfold cntP2
 rw [List.filter_append,List.length_append]
theorem tw_main {M:List (List Int)} {R:List Int} (h:smsV M=some R):R.length≤20∧(∀ i,i<R.length→1≤at0 R i)∧(∀ i,i+1<R.length→(at0 R (i+1)).tmod (at0 R i)=0) ∧
  (0<R.length→0<M.length∧smlM 20 1 M∧∀ p,fpP p→rnk p M=cntU p R):=by
 obtain ⟨c1,c2⟩:=sms_chain h
 refine ⟨?_,c1,fun i hi=>Int.tmod_eq_zero_of_dvd (c2 i (i+1) (by omega) hi),fun h0 => ?_⟩
 ·by_cases e:R=[]
  ·rw [e]; simp
  ·obtain ⟨_,h2,_⟩:=sms_rank h e
   have:=(sms_len h).1
   have:=h2.1.1
   omega
 ·obtain ⟨h1,h2,h3⟩:=sms_rank h (List.length_pos_iff.1 h0)
  exact ⟨List.length_pos_iff.2 h1,h2.1,h3⟩
theorem tw_holes (n:Int) (l:List Int):(frL n l).length≤64∧∀ i:Nat,i<(frL n l).length→(0≤at0 (frL n l) i∧at0 (frL n l) i<100)∧(twL n l i++twL n l ((i:Int)-1)).length≤128 ∧
  ∀ p,fpP p→atZ (hmL n l p) i=at0 (frL n l) i+(cntP2 p (twL n l i++twL n l ((i:Int)-1)):Nat):=by
 by_cases hc:cplx n l
 ·obtain ⟨hlen,hfr,htw,_,_⟩:=ht_inv hc
  refine ⟨by omega,fun i hi=>⟨hfr i hi,?_,fun p hp => ?_⟩⟩
  ·have h1:=(htw i).1
   have h2:(twL n l ((i:Int)-1)).length≤64:=by
    cases i with
    | zero =>
     have e:twL n l (((0:Nat):Int)-1)=[]:=if_neg fun h=>by have:=h.2.1; omega
     rw [e]; simp
    | succ i =>
     have:=(htw i).1
     rw [show ((i+1:Nat):Int)-1=i by omega]
     exact this
   rw [List.length_append]
   omega
  ·obtain ⟨_,h2⟩:=hol_free hc hp hi
   rw [atZ_nat,h2,cntP2_app]
   omega
 ·have e:frL n l=[]:=if_neg hc
  rw [e]
  exact ⟨by simp,fun i hi=>by simp at hi⟩
def sc_i_TwistsOf_L0:SC:=(.seq (.reg [⟨some 26,none,.bin false .lss (.t 25) (.t 24)⟩]) (.seq (.cond (.t 26) .skip (.exit 0)) (.seq (.block 1 (.seq (.reg [⟨some 27,none,.idx 1 (.t 23) (.t 25)⟩,⟨some 28,none,.ld none (.int .i64 0) (.t 27)⟩,⟨some 7,none,.mov (.t 28)⟩]) (.seq (.reg [⟨some 29,none,.mov (.t 7)⟩,⟨some 30,none,.bin false .gtr (.t 29) (.c (.int .i64 1))⟩]) (.cond (.t 30) (.reg [⟨some 31,none,.mov (.t 5)⟩,⟨some 32,none,.mov (.t 7)⟩,⟨some 33,none,.mks 1 1 [.int .i64 0] [(0,(1,(.t 32)))]⟩,⟨some 34,none,.app 1 8 (.t 31) (.t 33)⟩,⟨some 5,none,.mov (.t 34)⟩]) .skip)))) (.reg [⟨some 35,none,.bin false .add (.t 25) (.c (.int .i64 1))⟩,⟨some 25,none,.mov (.t 35)⟩]))))
def sc_i_TwistsOf:SC:=(.seq (.reg [⟨some 2,none,.box (.t 0)⟩,⟨some 4,none,.mov (.c .nil)⟩]) (.seq (.seq (.reg [⟨some 8,none,.ld (some 2) .undef (.t 2)⟩,⟨some 9,none,.call 33 [.t 8]⟩,⟨some 10,none,.un .not (.t 9)⟩,⟨some 11,none,.mov (.t 10)⟩,⟨some 12,some (11,false),.mov (.t 1)⟩,⟨some 13,some (11,false),.bin false .lss (.t 12) (.c (.int .i64 0))⟩,⟨some 14,none,.pick (.t 11) (.c (.bool true)) (.t 13)⟩,⟨some 15,none,.mov (.t 14)⟩,⟨some 16,some (15,false),.mov (.t 1)⟩,⟨some 17,some (15,false),.bin false .gtr (.t 16) (.c (.int .i64 5))⟩,⟨some 18,none,.pick (.t 15) (.c (.bool true)) (.t 17)⟩]) (.cond (.t 18) (.seq (.reg [⟨some 4,none,.mov (.c .nil)⟩]) .ret) .skip)) (.seq (.reg [⟨some 5,none,.mov (.c .nil)⟩]) (.seq (.seq (.reg [⟨some 19,none,.ld (some 2) .undef (.t 2)⟩,⟨some 20,none,.mov (.t 1)⟩,⟨some 21,none,.bin false .add (.t 20) (.c (.int .i64 1))⟩,⟨some 22,none,.call 43 [.t 19,.t 21]⟩,⟨some 23,none,.call 6 [.t 22]⟩,⟨some 24,none,.len (.t 23)⟩,⟨some 25,none,.mov (.c (.int .i64 0))⟩]) (.block 0 (.loop sc_i_TwistsOf_L0))) (.seq (.reg [⟨some 36,none,.mov (.t 5)⟩,⟨some 4,none,.mov (.t 36)⟩]) .ret)))))
theorem code_i_TwistsOf:fnCode Tryz.prog [] 14=some (37,sc_i_TwistsOf,[(4,none)]):=by kernel_rfl
theorem fn_i_TwistsOf:FnOk Tryz.prog 14 F_s_TwistsOf:=by
 have env:=(((envNil_ok (P:=Tryz.prog)).add fn_i_IsComplex).add fn_i_BorderMatrix).add fn_i_SmithOf
 refine fn_ok code_i_TwistsOf mixed env ?_
 intro args r h hb
 obtain ⟨_,_,⟨n,l⟩,k,rfl,h1,h2,h4⟩:=F2_inv h
 cases dC_inv h1
 cases dI_inv h2
 cases h4
 clear h
 refine ⟨by simp,fun w0 U0 L0 N0 => ?_⟩
 clear hb
 simp only
 cases e0:cplxB n l with
 | false =>
  have e:twL n l k=[]:=if_neg fun h=>by simp [cplxB_iff.2 h.1] at e0
  rw [e]
  simp -implicitDefEqProofs [sc_i_TwistsOf,F_s_IsComplex,e0]
 | true =>
 have hc:=cplxB_iff.1 e0
 by_cases g1:0≤k∧k≤5
 rotate_left
 ·have e:twL n l k=[]:=if_neg fun h=>g1 h.2
  rw [e]
  by_cases g2:k<0
  ·simp -implicitDefEqProofs [sc_i_TwistsOf,F_s_IsComplex,e0,g2]
  ·have g3:5<k:=by omega
   simp -implicitDefEqProofs [sc_i_TwistsOf,F_s_IsComplex,e0,g2,g3]
 have g2:¬k<0:=by omega
 have g3:¬5<k:=by omega
 have hw1:IntKind.i64.wrap (k+1)=k+1:=wrapI _ (by omega) (by omega)
 have hF1:F_i_BorderMatrix [.agg [.int .i64 n,.list 1 (ints l)],.int .i64 (k+1)]=some (.own 1 (rowsV (borM n l (k+1)))):=by
  simp only [F_i_BorderMatrix,F2_mk,dC_agg,dI_int,Option.bind_some]
  rw [if_pos ⟨hc,by omega,by omega⟩]
 have hbm:borM n l (k+1)=sgnM (szS (faceS l) k) (szS (faceS l) (k+1)):=by
  unfold borM
  rw [szS_fos hc,szS_fos hc,show k+1-1=k by omega]
 have hF2:F_i_SmithOf [.list 1 (rowsL (borM n l (k+1)))]=some (.own 1 (ints (bsm (szS (faceS l) k) (szS (faceS l) (k+1))))):=by
  have h1:=(bsm_sz (q:=faceS l) (k:=k.toNat+1) ⟨by omega,by omega⟩).2
  rw [show ((k.toNat+1:Nat):Int)=k+1 by omega,show k+1-1=k by omega] at h1
  rw [hbm]
  simp only [F_i_SmithOf,F1_mk,dLL_list,Option.bind_some]
  rw [h1]
  rfl
 have hT:twL n l k=(bsm (szS (faceS l) k) (szS (faceS l) (k+1))).filter fun d=>decide (1<d):=if_pos ⟨hc,g1⟩
 have hbl:(bsm (szS (faceS l) k) (szS (faceS l) (k+1))).length≤64:=by
  have:=(bsm_len (szS (faceS l) k) (szS (faceS l) (k+1))).1
  have:=szS_len (faceS l) k
  omega
 rw [hT]
 generalize bsm (szS (faceS l) k) (szS (faceS l) (k+1))=S at *
 generalize borM n l (k+1)=B at *
 simp -implicitDefEqProofs [sc_i_TwistsOf,F_s_IsComplex,e0,g2,g3,hw1,hF1,hF2]
 refine loopI env mixed (fun j:Nat=>[(5,.sl 1 1 0 ((S.take j).filter fun d=>decide (1<d)).length),(23,.sl 0 1 0 S.length),(24,.int .i64 (S.length:Int)),(25,.int .i64 (j:Int))]) (fun j=>([(1,ints ((S.take j).filter fun d=>decide (1<d))),(0,ints S)],2)) (fun j=>j≤S.length) (fun j=>S.length-j) 0 (by simp) ?_ ?_
 ·refine SubI.nilN 5 1 (by simp) ?_
  exact SubI.ren (fun m=>if m=0 then some 2 else if m=1 then some 3 else none) (by simp [subT,renV,ren1]) (by simp [subH,renL,ren1]) (fun m hm=>by simp only at hm; rw [if_neg (by omega),if_neg (by omega)]) (by simp) (by simp)
 intro j hj
 by_cases hlt:j<S.length
 ·have ft:=filt_take hlt fun d=>decide (1<d)
  have fl:=filt_le (S:=S) j fun d=>decide (1<d)
  by_cases h1:1<at0 S j
  ·rw [if_pos (by simpa using h1)] at ft
   generalize hg:(S.take j).filter (fun d=>decide (1<d))=g at *
   simp -implicitDefEqProofs [sc_i_TwistsOf_L0,hlt,h1]
   refine ⟨by omega,?_⟩
   refine Again.of (j+1) (by omega) (by omega) (SubI.ren (fun m=>if m=0 then some 0 else if m=1 then some 3 else none) ?_ ?_ ?_ (by simp) (by simp))
   ·simp (disch:=omega) [subT,renV,ren1,wrapI,ft]
   ·simp [subH,renL,ren1,ft]
    rw [← ints_app]
    rfl
   ·intro m hm
    simp only at hm
    rw [if_neg (by omega),if_neg (by omega)]
  ·rw [if_neg (by simpa using h1),List.append_nil] at ft
   generalize hg:(S.take j).filter (fun d=>decide (1<d))=g at *
   simp -implicitDefEqProofs [sc_i_TwistsOf_L0,hlt,h1]
   exact Again.of (j+1) (by omega) (by omega) (SubI.slots (by simp [ft]) (by simp (disch:=omega) [wrapI,ft]))
 ·have:j=S.length:=by omega
  subst this
  rw [List.take_length]
  simp -implicitDefEqProofs [sc_i_TwistsOf_L0]
end Go.Proofs.YtkoljbncokmeaaaGreatDoor
