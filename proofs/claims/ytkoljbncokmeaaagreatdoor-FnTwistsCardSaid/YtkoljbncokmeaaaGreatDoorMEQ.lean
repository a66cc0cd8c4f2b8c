import Derived.Test.YtkoljbncokmeaaaGreatDoorMED
import Derived.Test.YtkoljbncokmeaaaGreatDoorMEE
import Derived.Test.YtkoljbncokmeaaaGreatDoorMEP
namespace Go.Proofs.YtkoljbncokmeaaaGreatDoor
open Go Go.RowKit
set_option maxRecDepth 1000000
set_option linter.unusedSimpArgs false
set_option linter.unusedVariables false
set_option maxHeartbeats 1000000
def u8s (l:List Int):List V:=l.map (.int .u8)
@[simp] theorem u8s_len (l:List Int):(u8s l).length=l.length:=by simp [u8s]
@[simp] theorem u8s_drop (l:List Int) (k:Nat):(u8s l).drop k=u8s (l.drop k):=by simp [u8s]
@[simp] theorem u8s_get (l:List Int) (k:Nat):(u8s l)[k]?.getD (.int .u8 0) = .int .u8 (at0 l k):=by
 simp only [u8s,List.getElem?_map,at0]
 cases l[k]? <;> rfl
@[simp high] theorem u8s_getD (l:List Int) (k:Nat):(u8s l).getD k (.int .u8 0) = .int .u8 (at0 l k):=by
 rw [List.getD_eq_getElem?_getD,u8s_get]
@[simp] theorem u8s_dr (H:List (Nat×List V)) (j:Nat) (l:List Int):(u8s l).map (dr H (j+1))=u8s l:=by simp [u8s]
@[simp] theorem u8s_fz (j:Nat) (l:List Int):(u8s l).map (fz (j+1))=u8s l:=by simp [u8s]
@[simp] theorem u8s_nl (j:Nat) (l:List Int):(u8s l).all (nolist (j+1))=true:=by simp [u8s]
@[simp] theorem u8s_nn (j:Nat) (l:List Int):(u8s l).all (noname (j+1))=true:=by simp [u8s]
@[simp] theorem u8s_nm (j:Nat) (l:List Int):(u8s l).all (nonm (j+1))=true:=by simp [u8s]
@[simp] theorem u8s_cell (l:List Int):(u8s l).all V.cell=true:=by simp [u8s]
@[simp] theorem u8s_ren (r:Nat→Option Nat) (l:List Int):renL r (u8s l)=some (u8s l):=by
 induction l with
 | nil=>rfl
 | cons a l ih =>
  have:u8s (a::l) = .int .u8 a::u8s l:=rfl
  rw [this]
  simp [renL,ren1,ih]
theorem u8s_inj {l m:List Int}:u8s l=u8s m↔l=m:=by
 constructor
 ·intro h
  induction l generalizing m with
  | nil=>cases m with | nil=>rfl | cons=>simp [u8s] at h
  | cons a l ih=>cases m with
   | nil=>simp [u8s] at h
   | cons b m =>
    simp only [u8s,List.map_cons,List.cons.injEq,V.int.injEq,true_and] at h
    rw [h.1,ih h.2]
 ·intro h; rw [h]
structure Cur where
 b:List Int
 i:Nat
 h:Int
def curC (c:Cur):List V:=[.list 1 (u8s c.b),.int .i64 (c.i:Int),.int .i64 c.h]
theorem curC_inj {c d:Cur} (h:curC c=curC d):c=d:=by
 simp only [curC,List.cons.injEq,V.list.injEq,V.int.injEq,true_and,and_true] at h
 obtain ⟨h1,h2,h3⟩:=h
 rw [u8s_inj] at h1
 cases c
 cases d
 simp at h1 h2 h3 ⊢
 exact ⟨h1,by omega,h3⟩
def wfb (b:List Int):Prop:=(∀ x∈b,0≤x∧x<256)∧b.length≤1048576
def wfC (c:Cur):Prop:=wfb c.b∧c.i≤c.b.length
open Classical in
noncomputable def onCur (f:Cur→Option (V×Cur)) (cells:List V):Option (V×List V) :=
 if h:∃ c,wfC c∧cells=curC c then (f (Classical.choose h)).map fun r=>(r.1,curC r.2) else none
theorem onCur_at {f:Cur→Option (V×Cur)} {c:Cur} (h:wfC c):onCur f (curC c)=(f c).map fun r=>(r.1,curC r.2):=by
 have hx:∃ d,wfC d∧curC c=curC d:=⟨c,h,rfl⟩
 have e:Classical.choose hx=c:=(curC_inj (Classical.choose_spec hx).2).symm
 unfold onCur
 rw [dif_pos hx,e]
theorem onCur_inv {f:Cur→Option (V×Cur)} {cells:List V} {r:V} {cells':List V} (h:onCur f cells=some (r,cells')):∃ c d,wfC c∧cells=curC c∧f c=some (r,d)∧cells'=curC d:=by
 unfold onCur at h
 split at h
 ·rename_i hx
  obtain ⟨a,b⟩:=Classical.choose_spec hx
  obtain ⟨⟨x,y⟩,h1,h2⟩:=Option.map_eq_some_iff.1 h
  simp only [Prod.mk.injEq] at h2
  exact ⟨_,y,a,b,by rw [h1,h2.1],h2.2.symm⟩
 ·simp at h
theorem mask_rng (k:Nat) (x:Int) (h1:k<9223372036854775808):0≤bitop .and .i64 x (k:Int)∧bitop .and .i64 x (k:Int)≤k:=by
 have e:bitop .and .i64 x (k:Int)=IntKind.i64.wrap ((BitVec.ofInt 64 x &&& BitVec.ofInt 64 (k:Int)).toNat):=rfl
 have h2:(BitVec.ofInt 64 x &&& BitVec.ofInt 64 (k:Int)).toNat≤k:=by
  rw [BitVec.toNat_and,BitVec.ofInt_natCast,BitVec.toNat_ofNat,Nat.mod_eq_of_lt (by omega)]
  exact Nat.and_le_right
 rw [e,wrapI _ (by omega) (by omega)]
 omega
def stepH (h:Int):Int:=IntKind.i64.wrap (IntKind.i64.wrap (h*6364136223846793005)+1442695040888963407)
def baseX (h:Int):Int:=bitop .and .i64 (bitop .xor .i64 (h.fdiv (2 ^ (min (Int.toNat 33) IntKind.i64.bits))) (h.fdiv (2 ^ (min (Int.toNat 45) IntKind.i64.bits)))) 255
def plusX (x y:Int):Int:=bitop .and .i64 (IntKind.i64.wrap (x+y)) 255
theorem baseX_rng (h:Int):0≤baseX h∧baseX h≤255:=mask_rng 255 _ (by omega)
theorem plusX_rng (x y:Int):0≤plusX x y∧plusX x y≤255:=mask_rng 255 _ (by omega)
open Classical in
noncomputable def byteN (c:Cur):Int×Cur :=
 if c.i<c.b.length then (plusX (baseX (stepH c.h)) (at0 c.b c.i),⟨c.b,c.i+1,stepH c.h⟩) else (baseX (stepH c.h),⟨c.b,c.i,stepH c.h⟩)
theorem byteN_rng (c:Cur):0≤(byteN c).1∧(byteN c).1≤255:=by
 unfold byteN
 split
 ·exact plusX_rng _ _
 ·exact baseX_rng _
theorem byteN_wf {c:Cur} (h:wfC c):wfC (byteN c).2:=by
 unfold byteN
 split
 ·exact ⟨h.1,by simp; omega⟩
 ·exact h
noncomputable def belowN (c:Cur) (n:Int):Int×Cur :=
 if n≤0 then (0,c) else if n≤256 then ((byteN c).1.tmod n,(byteN c).2) else
  (((byteN c).1*16777216+(byteN (byteN c).2).1*65536+(byteN (byteN (byteN c).2).2).1*256+(byteN (byteN (byteN (byteN c).2).2).2).1).tmod n,(byteN (byteN (byteN (byteN c).2).2).2).2)
theorem belowN_wf {c:Cur} (h:wfC c) (n:Int):wfC (belowN c n).2:=by
 unfold belowN
 split
 ·exact h
 ·split
  ·exact byteN_wf h
  ·exact byteN_wf (byteN_wf (byteN_wf (byteN_wf h)))
theorem tmod_rng {x n:Int} (hx:0≤x) (hn:0<n):0≤x.tmod n∧x.tmod n<n:=⟨Int.tmod_nonneg _ hx,Int.tmod_lt_of_pos _ hn⟩
theorem belowN_rng (c:Cur) {n:Int} (hn:0<n):0≤(belowN c n).1∧(belowN c n).1<n:=by
 unfold belowN
 rw [if_neg (by omega)]
 split
 ·exact tmod_rng (byteN_rng c).1 hn
 ·refine tmod_rng ?_ hn
  have h1:=(byteN_rng c).1
  have h2:=(byteN_rng (byteN c).2).1
  have h3:=(byteN_rng (byteN (byteN c).2).2).1
  have h4:=(byteN_rng (byteN (byteN (byteN c).2).2).2).1
  omega
noncomputable def hst (b:List Int):Nat→Int
 | 0=>IntKind.i64.wrap (26583+(b.length:Int))
 | k+1=>bitop .and .i64 (IntKind.i64.wrap (IntKind.i64.wrap (IntKind.i64.wrap (hst b k*131)+at0 b k)+7)) 1073741823
noncomputable def newCur (b:List Int):Cur:=⟨b,0,hst b (min b.length 4000)⟩
theorem newCur_wf {b:List Int} (h:wfb b):wfC (newCur b):=⟨h,Nat.zero_le _⟩
open Classical in
noncomputable def dBy:V→Option (List Int)
 | .list 1 cells=>if h:∃ l,wfb l∧cells=u8s l then some (Classical.choose h) else none
 | _=>none
theorem dBy_list {l:List Int} (h:wfb l):dBy (.list 1 (u8s l))=some l:=by
 have hx:∃ m,wfb m∧u8s l=u8s m:=⟨l,h,rfl⟩
 have e:Classical.choose hx=l:=(u8s_inj.1 (Classical.choose_spec hx).2).symm
 unfold dBy
 simp only
 rw [dif_pos hx,e]
theorem dBy_inv {v:V} {l:List Int} (h:dBy v=some l):wfb l∧v = .list 1 (u8s l):=by
 unfold dBy at h
 split at h
 ·split at h
  ·rename_i hx
   obtain ⟨a,b⟩:=Classical.choose_spec hx
   simp only [Option.some.injEq] at h
   rw [h] at a b
   exact ⟨a,by rw [b]⟩
  ·simp at h
 ·simp at h
theorem at0_nil {l:List Int} {k:Nat} (h:l.length≤k):at0 l k=0:=by simp [at0,List.getElem?_eq_none h]
section
variable {Γ : Env} {e : Opd → V} {H : List (Nat × List V)}
@[simp] theorem q_ixs (x i:Opd):evQ Γ H e (.ixs x i)=match e x,asI (e i) with
  | .str s,some i=>some (decide (0≤i) && decide (i<s.size),.int .u8 ((s.data.toList.getD i.toNat 0).toNat:Int))
  | _,_=>none:=(rfl)
@[simp] theorem q_slis (x:Opd) (lo hi:Option Opd):evQ Γ H e (.slis x lo hi)=match e x with
  | .str s=>match evBounds s.size e lo hi none with
   | some (b,l,h)=>some (b,.str (s.extract l.toNat h.toNat))
   | none=>none
  | _=>none:=(rfl)
end
def sc_s_l1New_L0:SC:=(.seq (.seq (.reg [⟨some 8,none,.mov (.t 4)⟩,⟨some 9,none,.mov (.t 0)⟩,⟨some 10,none,.len (.t 9)⟩,⟨some 11,none,.bin false .lss (.t 8) (.t 10)⟩,⟨some 12,none,.mov (.t 11)⟩,⟨some 13,some (12,true),.mov (.t 4)⟩,⟨some 14,some (12,true),.bin false .lss (.t 13) (.c (.int .i64 4000))⟩,⟨some 15,none,.pick (.t 12) (.t 14) (.c (.bool false))⟩]) (.cond (.t 15) .skip (.exit 0))) (.seq (.block 1 (.reg [⟨some 18,none,.mov (.t 3)⟩,⟨some 19,none,.bin false .mul (.t 18) (.c (.int .i64 131))⟩,⟨some 20,none,.mov (.t 0)⟩,⟨some 21,none,.mov (.t 4)⟩,⟨some 22,none,.idx 1 (.t 20) (.t 21)⟩,⟨some 23,none,.ld none (.int .u8 0) (.t 22)⟩,⟨some 24,none,.conv .i64 (.t 23)⟩,⟨some 25,none,.bin false .add (.t 19) (.t 24)⟩,⟨some 26,none,.bin false .add (.t 25) (.c (.int .i64 7))⟩,⟨some 27,none,.bin false .and (.t 26) (.c (.int .i64 1073741823))⟩,⟨some 3,none,.mov (.t 27)⟩])) (.reg [⟨some 16,none,.mov (.t 4)⟩,⟨some 17,none,.bin false .add (.t 16) (.c (.int .i64 1))⟩,⟨some 4,none,.mov (.t 17)⟩])))
def sc_s_l1New:SC:=(.seq (.reg [⟨some 2,none,.mov (.c .undef)⟩]) (.seq (.reg [⟨some 5,none,.mov (.t 0)⟩,⟨some 6,none,.len (.t 5)⟩,⟨some 7,none,.bin false .add (.c (.int .i64 26583)) (.t 6)⟩,⟨some 3,none,.mov (.t 7)⟩]) (.seq (.seq (.reg [⟨some 4,none,.mov (.c (.int .i64 0))⟩]) (.block 0 (.loop sc_s_l1New_L0))) (.seq (.reg [⟨some 28,none,.mov (.t 0)⟩,⟨some 29,none,.mov (.t 3)⟩,⟨some 30,none,.agg [.nil,.int .i64 0,.int .i64 0] [(0,(1,(.t 28))),(2,(1,(.t 29)))]⟩,⟨some 31,none,.box (.t 30)⟩,⟨some 2,none,.mov (.t 31)⟩]) .ret))))
theorem code_s_l1New:fnCode Tryz.prog [] 23=some (32,sc_s_l1New,[(2,none)]):=by kernel_rfl
noncomputable def F_s_l1New:List V→Option V:=F1 dBy fun b=>some (.opt (curC (newCur b)))
theorem fn_s_l1New:FnOk Tryz.prog 23 F_s_l1New:=by
 refine fn_ok code_s_l1New mixed envNil_ok ?_
 intro args r h hb
 obtain ⟨_,b,rfl,h1,h4⟩:=F1_inv h
 obtain ⟨hw,rfl⟩:=dBy_inv h1
 cases h4
 clear h hb
 refine ⟨by simp,fun w0 U0 L0 N0 => ?_⟩
 have hl:=hw.2
 have h0:hst b 0=IntKind.i64.wrap (26583+(b.length:Int)):=rfl
 have hs:∀ k,hst b (k+1)=bitop .and .i64 (IntKind.i64.wrap (IntKind.i64.wrap (IntKind.i64.wrap (hst b k*131)+at0 b k)+7)) 1073741823:=fun k=>rfl
 have hcw:∀ k,IntKind.i64.wrap (at0 b k)=at0 b k:=fun k=>by
  by_cases hk:k<b.length
  ·have:=hw.1 _ (getD_mem' hk)
   exact wrapI _ (by omega) (by omega)
  ·rw [at0_nil (by omega)]
   exact wrapI _ (by omega) (by omega)
 simp -implicitDefEqProofs [sc_s_l1New]
 refine loopI envNil_ok mixed (fun k:Nat=>[(0,.list 1 (u8s b)),(3,.int .i64 (hst b k)),(4,.int .i64 (k:Int))]) (fun _=>([],0)) (fun k=>k≤min b.length 4000) (fun k=>4000-k) 0 (by simp) (SubI.slots rfl (by simp [h0])) ?_
 intro k hk
 by_cases hlt:k<b.length
 ·by_cases h4:k<4000
  ·have h4i:(k:Int)<4000:=by omega
   have e:=hs k
   obtain ⟨H1,hH1⟩:∃ x,hst b (k+1)=x:=⟨_,rfl⟩
   rw [hH1] at e
   simp -implicitDefEqProofs [sc_s_l1New_L0,hlt,h4,h4i,hcw,← e]
   repeat' (first | omega | apply And.intro)
   exact Again.of (k+1) (by omega) (by omega) (SubI.slots rfl (by simp (disch:=omega) [wrapI,hH1,← e]))
  ·have h4i:¬(k:Int)<4000:=by omega
   have hk4:k=4000:=by omega
   have hm:min b.length 4000=k:=by omega
   have e:curC (newCur b)=[.list 1 (u8s b),.int .i64 0,.int .i64 (hst b k)]:=by simp [curC,newCur,hm]
   generalize hst b k=H1 at *
   rw [e]
   simp -implicitDefEqProofs [sc_s_l1New_L0,hlt,h4,h4i]
 ·have hm:min b.length 4000=k:=by omega
  have e:curC (newCur b)=[.list 1 (u8s b),.int .i64 0,.int .i64 (hst b k)]:=by simp [curC,newCur,hm]
  have hlt':¬(k:Int)<b.length:=by omega
  generalize hst b k=H1 at *
  rw [e]
  simp -implicitDefEqProofs [sc_s_l1New_L0,hlt,hlt']
def sc_s_l1Byte:SC:=(.seq (.reg [⟨some 2,none,.mov (.c (.int .i64 0))⟩]) (.seq (.reg [⟨some 4,none,.mov (.t 0)⟩,⟨some 5,none,.mov (.t 0)⟩,⟨some 6,none,.nck (.t 5)⟩,⟨some 7,none,.fad 2 (.t 6)⟩,⟨some 8,none,.ld none (.int .i64 0) (.t 7)⟩,⟨some 9,none,.bin false .mul (.t 8) (.c (.int .i64 6364136223846793005))⟩,⟨some 10,none,.bin false .add (.t 9) (.c (.int .i64 1442695040888963407))⟩,⟨some 11,none,.nck (.t 4)⟩,⟨some 12,none,.fad 2 (.t 11)⟩,⟨none,none,.st 1 (.t 12) (.t 10)⟩]) (.seq (.dreg [⟨⟨some 13,none,.mov (.t 0)⟩,false,false⟩,⟨⟨some 14,none,.nck (.t 13)⟩,false,false⟩,⟨⟨some 15,none,.fad 2 (.t 14)⟩,false,false⟩,⟨⟨some 16,none,.ld none (.int .i64 0) (.t 15)⟩,false,false⟩,⟨⟨some 17,none,.bin false .shr (.t 16) (.c (.int .u64 33))⟩,false,false⟩,⟨⟨some 18,none,.mov (.t 0)⟩,false,false⟩,⟨⟨some 19,none,.nck (.t 18)⟩,false,false⟩,⟨⟨some 20,none,.fad 2 (.t 19)⟩,false,false⟩,⟨⟨some 21,none,.ld none (.int .i64 0) (.t 20)⟩,false,false⟩,⟨⟨some 22,none,.bin false .shr (.t 21) (.c (.int .u64 45))⟩,false,false⟩,⟨⟨some 23,none,.bin false .xor (.t 17) (.t 22)⟩,false,false⟩,⟨⟨some 24,none,.bin false .and (.t 23) (.c (.int .i64 255))⟩,false,false⟩,⟨⟨some 3,none,.mov (.t 24)⟩,false,false⟩]) (.seq (.seq (.dreg [⟨⟨some 25,none,.mov (.t 0)⟩,false,false⟩,⟨⟨some 26,none,.nck (.t 25)⟩,false,false⟩,⟨⟨some 27,none,.fad 1 (.t 26)⟩,false,false⟩,⟨⟨some 28,none,.ld none (.int .i64 0) (.t 27)⟩,false,false⟩,⟨⟨some 29,none,.mov (.t 0)⟩,false,false⟩,⟨⟨some 30,none,.nck (.t 29)⟩,false,false⟩,⟨⟨some 31,none,.fad 0 (.t 30)⟩,false,false⟩,⟨⟨some 32,none,.ld none .nil (.t 31)⟩,false,false⟩,⟨⟨some 33,none,.len (.t 32)⟩,false,false⟩,⟨⟨some 34,none,.bin false .lss (.t 28) (.t 33)⟩,false,false⟩]) (.cond (.t 34) (.seq (.dreg [⟨⟨some 35,none,.mov (.t 3)⟩,false,false⟩,⟨⟨some 36,none,.mov (.t 0)⟩,false,false⟩,⟨⟨some 37,none,.nck (.t 36)⟩,false,false⟩,⟨⟨some 38,none,.fad 0 (.t 37)⟩,false,false⟩,⟨⟨some 39,none,.ld none .nil (.t 38)⟩,false,false⟩,⟨⟨some 40,none,.mov (.t 0)⟩,false,false⟩,⟨⟨some 41,none,.nck (.t 40)⟩,false,false⟩,⟨⟨some 42,none,.fad 1 (.t 41)⟩,false,false⟩,⟨⟨some 43,none,.ld none (.int .i64 0) (.t 42)⟩,false,false⟩,⟨⟨some 44,none,.idx 1 (.t 39) (.t 43)⟩,false,false⟩,⟨⟨some 45,none,.ld none (.int .u8 0) (.t 44)⟩,false,false⟩,⟨⟨some 46,none,.conv .i64 (.t 45)⟩,false,false⟩,⟨⟨some 47,none,.bin false .add (.t 35) (.t 46)⟩,false,false⟩,⟨⟨some 48,none,.bin false .and (.t 47) (.c (.int .i64 255))⟩,false,false⟩,⟨⟨some 3,none,.mov (.t 48)⟩,false,false⟩]) (.reg [⟨some 49,none,.mov (.t 0)⟩,⟨some 50,none,.mov (.t 0)⟩,⟨some 51,none,.nck (.t 50)⟩,⟨some 52,none,.fad 1 (.t 51)⟩,⟨some 53,none,.ld none (.int .i64 0) (.t 52)⟩,⟨some 54,none,.bin false .add (.t 53) (.c (.int .i64 1))⟩,⟨some 55,none,.nck (.t 49)⟩,⟨some 56,none,.fad 1 (.t 55)⟩,⟨none,none,.st 1 (.t 56) (.t 54)⟩])) .skip)) (.seq (.reg [⟨some 57,none,.mov (.t 3)⟩,⟨some 2,none,.mov (.t 57)⟩]) .ret)))))
theorem code_s_l1Byte:fnCode Tryz.prog [] 58=some (58,sc_s_l1Byte,[(2,none)]):=by kernel_rfl
noncomputable def G_s_l1Byte:List V→List V→Option (V×List V)
 | [.pt 0 0],cells=>onCur (fun c=>some (.int .i64 (byteN c).1,(byteN c).2)) cells
 | _,_=>none
theorem G_byte {c:Cur} (h:wfC c):G_s_l1Byte [.pt 0 0] (curC c)=some (.int .i64 (byteN c).1,curC (byteN c).2):=by
 simp only [G_s_l1Byte]
 rw [onCur_at h]
 rfl
theorem ln_s_l1Byte:LendOk Tryz.prog 58 0 G_s_l1Byte:=by
 refine fn_lend code_s_l1Byte mixed envNil_ok ?_
 intro args cells r cells' hG hb
 unfold G_s_l1Byte at hG
 split at hG
 case h_2=>simp at hG
 obtain ⟨c,d,hw,rfl,hc,rfl⟩:=onCur_inv hG
 clear hG hb
 simp only [Option.some.injEq,Prod.mk.injEq] at hc
 obtain ⟨rfl,rfl⟩:=hc
 refine ⟨by simp,fun w0 U0 L0 N0 => ?_⟩
 obtain ⟨b,i,h⟩:=c
 have hil:i≤b.length:=hw.2
 have hwb:wfb b:=hw.1
 have hbl:=hwb.2
 have hcw:∀ k,IntKind.i64.wrap (at0 b k)=at0 b k:=fun k=>by
  by_cases hk:k<b.length
  ·have:=hwb.1 _ (getD_mem' hk)
   exact wrapI _ (by omega) (by omega)
  ·rw [at0_nil (by omega)]
   exact wrapI _ (by omega) (by omega)
 by_cases hi:i<b.length
 ·have hi2:(i:Int)<b.length:=by omega
  have e:byteN ⟨b,i,h⟩=(plusX (baseX (stepH h)) (at0 b i),⟨b,i+1,stepH h⟩):=if_pos hi
  rw [e]
  have e1:IntKind.i64.wrap ((i:Int)+1)=(i:Int)+1:=wrapI _ (by omega) (by omega)
  simp -implicitDefEqProofs [sc_s_l1Byte,curC,hi,hi2,hcw,e1,plusX,baseX,stepH]
  try omega
 ·have hi2:¬(i:Int)<b.length:=by omega
  have e:byteN ⟨b,i,h⟩=(baseX (stepH h),⟨b,i,stepH h⟩):=if_neg hi
  rw [e]
  simp -implicitDefEqProofs [sc_s_l1Byte,curC,hi,hi2,baseX,stepH]
  try omega
@[simp] theorem curC_nm (c:Cur) (j:Nat):(curC c).all (nonm (j+2))=true:=by simp [curC]
def sc_s_l1Below:SC:=(.seq (.reg [⟨some 4,none,.mov (.c (.int .i64 0))⟩]) (.seq (.seq (.reg [⟨some 9,none,.mov (.t 1)⟩,⟨some 10,none,.bin false .leq (.t 9) (.c (.int .i64 0))⟩]) (.cond (.t 10) (.seq (.reg [⟨some 4,none,.mov (.c (.int .i64 0))⟩]) .ret) .skip)) (.seq (.seq (.reg [⟨some 11,none,.mov (.t 1)⟩,⟨some 12,none,.bin false .leq (.t 11) (.c (.int .i64 256))⟩]) (.cond (.t 12) (.seq (.reg [⟨some 13,none,.mov (.t 0)⟩,⟨some 14,none,.call 58 [.t 13]⟩,⟨some 15,none,.mov (.t 1)⟩,⟨some 16,none,.bin false .rem (.t 14) (.t 15)⟩,⟨some 4,none,.mov (.t 16)⟩]) .ret) .skip)) (.seq (.reg [⟨some 17,none,.mov (.t 0)⟩,⟨some 18,none,.call 58 [.t 17]⟩,⟨some 5,none,.mov (.t 18)⟩]) (.seq (.reg [⟨some 19,none,.mov (.t 0)⟩,⟨some 20,none,.call 58 [.t 19]⟩,⟨some 6,none,.mov (.t 20)⟩]) (.seq (.reg [⟨some 21,none,.mov (.t 0)⟩,⟨some 22,none,.call 58 [.t 21]⟩,⟨some 7,none,.mov (.t 22)⟩]) (.seq (.reg [⟨some 23,none,.mov (.t 0)⟩,⟨some 24,none,.call 58 [.t 23]⟩,⟨some 8,none,.mov (.t 24)⟩]) (.seq (.reg [⟨some 25,none,.mov (.t 5)⟩,⟨some 26,none,.bin false .mul (.t 25) (.c (.int .i64 16777216))⟩,⟨some 27,none,.mov (.t 6)⟩,⟨some 28,none,.bin false .mul (.t 27) (.c (.int .i64 65536))⟩,⟨some 29,none,.bin false .add (.t 26) (.t 28)⟩,⟨some 30,none,.mov (.t 7)⟩,⟨some 31,none,.bin false .mul (.t 30) (.c (.int .i64 256))⟩,⟨some 32,none,.bin false .add (.t 29) (.t 31)⟩,⟨some 33,none,.mov (.t 8)⟩,⟨some 34,none,.bin false .add (.t 32) (.t 33)⟩,⟨some 35,none,.mov (.t 1)⟩,⟨some 36,none,.bin false .rem (.t 34) (.t 35)⟩,⟨some 4,none,.mov (.t 36)⟩]) .ret))))))))
theorem code_s_l1Below:fnCode Tryz.prog [] 27=some (37,sc_s_l1Below,[(4,none)]):=by kernel_rfl
noncomputable def G_s_l1Below:List V→List V→Option (V×List V)
 | [.pt 0 0,.int .i64 n],cells=>onCur (fun c=>some (.int .i64 (belowN c n).1,(belowN c n).2)) cells
 | _,_=>none
theorem G_below {c:Cur} (h:wfC c) (n:Int):G_s_l1Below [.pt 0 0,.int .i64 n] (curC c)=some (.int .i64 (belowN c n).1,curC (belowN c n).2):=by
 simp only [G_s_l1Below]
 rw [onCur_at h]
 rfl
theorem ln_s_l1Below:LendOk Tryz.prog 27 0 G_s_l1Below:=by
 have env:=(envNil_ok (P:=Tryz.prog)).addl ln_s_l1Byte
 refine fn_lend code_s_l1Below mixed env ?_
 intro args cells r cells' hG hb
 unfold G_s_l1Below at hG
 split at hG
 case h_2=>simp at hG
 rename_i n
 obtain ⟨c,d,hw,rfl,hc,rfl⟩:=onCur_inv hG
 clear hG hb
 simp only [Option.some.injEq,Prod.mk.injEq] at hc
 obtain ⟨rfl,rfl⟩:=hc
 refine ⟨by simp,fun w0 U0 L0 N0 => ?_⟩
 by_cases h0:n≤0
 ·have e:belowN c n=(0,c):=if_pos h0
  rw [e]
  simp -implicitDefEqProofs [sc_s_l1Below,ren0,h0]
 by_cases h2:n≤256
 ·have e:belowN c n=((byteN c).1.tmod n,(byteN c).2):=by
   unfold belowN
   rw [if_neg h0,if_pos h2]
  rw [e]
  have hg:=G_byte hw
  have hn:n≠0:=by omega
  simp -implicitDefEqProofs [sc_s_l1Below,ren0,h0,h2,hg,hn]
 ·have w1:=byteN_wf hw
  have w2:=byteN_wf w1
  have w3:=byteN_wf w2
  have g1:=G_byte hw
  have g2:=G_byte w1
  have g3:=G_byte w2
  have g4:=G_byte w3
  have r1:=byteN_rng c
  have r2:=byteN_rng (byteN c).2
  have r3:=byteN_rng (byteN (byteN c).2).2
  have r4:=byteN_rng (byteN (byteN (byteN c).2).2).2
  have hn:n≠0:=by omega
  have e:belowN c n=(((byteN c).1*16777216+(byteN (byteN c).2).1*65536+(byteN (byteN (byteN c).2).2).1*256+(byteN (byteN (byteN (byteN c).2).2).2).1).tmod n,(byteN (byteN (byteN (byteN c).2).2).2).2):=by
   unfold belowN
   rw [if_neg h0,if_neg h2]
  rw [e]
  clear e
  generalize byteN c=p1 at *
  generalize byteN p1.2=p2 at *
  generalize byteN p2.2=p3 at *
  generalize byteN p3.2=p4 at *
  have v1:IntKind.i64.wrap (p1.1*16777216)=p1.1*16777216:=wrapI _ (by omega) (by omega)
  have v2:IntKind.i64.wrap (p2.1*65536)=p2.1*65536:=wrapI _ (by omega) (by omega)
  have v3:IntKind.i64.wrap (p3.1*256)=p3.1*256:=wrapI _ (by omega) (by omega)
  have v4:IntKind.i64.wrap (p1.1*16777216+p2.1*65536)=p1.1*16777216+p2.1*65536:=wrapI _ (by omega) (by omega)
  have v5:IntKind.i64.wrap (p1.1*16777216+p2.1*65536+p3.1*256)=p1.1*16777216+p2.1*65536+p3.1*256:=wrapI _ (by omega) (by omega)
  have v6:IntKind.i64.wrap (p1.1*16777216+p2.1*65536+p3.1*256+p4.1)=p1.1*16777216+p2.1*65536+p3.1*256+p4.1:=wrapI _ (by omega) (by omega)
  simp -implicitDefEqProofs [sc_s_l1Below,ren0,h0,h2,g1,g2,g3,g4,hn,v1,v2,v3,v4,v5,v6]
@[simp] theorem pm_le (c:Cur):(curC c).length=3:=rfl
def sc_s_l1Once:SC:=(.seq (.reg [⟨some 4,none,.mov (.c (.bool false))⟩]) (.seq (.reg [⟨some 5,none,.mov (.t 0)⟩,⟨some 6,none,.mov (.t 1)⟩,⟨some 7,none,.call 27 [.t 5,.t 6]⟩,⟨some 8,none,.bin false .eql (.t 7) (.c (.int .i64 0))⟩,⟨some 4,none,.mov (.t 8)⟩]) .ret))
theorem code_s_l1Once:fnCode Tryz.prog [] 24=some (9,sc_s_l1Once,[(4,none)]):=by kernel_rfl
noncomputable def onceN (c:Cur) (n:Int):Bool:=decide ((belowN c n).1=0)
noncomputable def G_s_l1Once:List V→List V→Option (V×List V)
 | [.pt 0 0,.int .i64 n],cells=>onCur (fun c=>some (.bool (onceN c n),(belowN c n).2)) cells
 | _,_=>none
theorem G_once {c:Cur} (h:wfC c) (n:Int):G_s_l1Once [.pt 0 0,.int .i64 n] (curC c)=some (.bool (onceN c n),curC (belowN c n).2):=by
 simp only [G_s_l1Once]
 rw [onCur_at h]
 rfl
theorem ln_s_l1Once:LendOk Tryz.prog 24 0 G_s_l1Once:=by
 have env:=(envNil_ok (P:=Tryz.prog)).addl ln_s_l1Below
 refine fn_lend code_s_l1Once mixed env ?_
 intro args cells r cells' hG hb
 unfold G_s_l1Once at hG
 split at hG
 case h_2=>simp at hG
 rename_i n
 obtain ⟨c,d,hw,rfl,hc,rfl⟩:=onCur_inv hG
 clear hG hb
 simp only [Option.some.injEq,Prod.mk.injEq] at hc
 obtain ⟨rfl,rfl⟩:=hc
 refine ⟨by simp,fun w0 U0 L0 N0 => ?_⟩
 have hg:=G_below hw n
 simp -implicitDefEqProofs [sc_s_l1Once,ren0,hg,onceN]
 try rfl
def sc_s_l1PickInt:SC:=(.seq (.reg [⟨some 4,none,.mov (.c (.int .i64 0))⟩]) (.seq (.reg [⟨some 5,none,.mov (.t 1)⟩,⟨some 6,none,.mov (.t 0)⟩,⟨some 7,none,.mov (.t 1)⟩,⟨some 8,none,.len (.t 7)⟩,⟨some 9,none,.call 27 [.t 6,.t 8]⟩,⟨some 10,none,.idx 1 (.t 5) (.t 9)⟩,⟨some 11,none,.ld none (.int .i64 0) (.t 10)⟩,⟨some 4,none,.mov (.t 11)⟩]) .ret))
theorem code_s_l1PickInt:fnCode Tryz.prog [] 28=some (12,sc_s_l1PickInt,[(4,none)]):=by kernel_rfl
noncomputable def pickN (c:Cur) (l:List Int):Int:=at0 l (belowN c l.length).1.toNat
noncomputable def G_s_l1PickInt:List V→List V→Option (V×List V)
 | [.pt 0 0,a],cells=>(dL a).bind fun l=>if l=[]∨1048576<l.length then none else onCur (fun c=>some (.int .i64 (pickN c l),(belowN c l.length).2)) cells
 | _,_=>none
theorem G_pickI {c:Cur} (h:wfC c) {l:List Int} (hl:l≠[]∧l.length≤1048576):G_s_l1PickInt [.pt 0 0,.list 1 (ints l)] (curC c)=some (.int .i64 (pickN c l),curC (belowN c l.length).2):=by
 simp only [G_s_l1PickInt,dL_list,Option.bind_some]
 rw [if_neg (by intro e; rcases e with e | e; exact hl.1 e; omega),onCur_at h]
 rfl
theorem ln_s_l1PickInt:LendOk Tryz.prog 28 0 G_s_l1PickInt:=by
 have env:=(envNil_ok (P:=Tryz.prog)).addl ln_s_l1Below
 refine fn_lend code_s_l1PickInt mixed env ?_
 intro args cells r cells' hG hb
 unfold G_s_l1PickInt at hG
 split at hG
 case h_2=>simp at hG
 rename_i a
 obtain ⟨l,h1,hG1⟩:=Option.bind_eq_some_iff.1 hG
 cases dL_inv h1
 split at hG1
 ·simp at hG1
 rename_i hl
 obtain ⟨c,d,hw,rfl,hc,rfl⟩:=onCur_inv hG1
 clear hG hG1 hb h1
 simp only [Option.some.injEq,Prod.mk.injEq] at hc
 obtain ⟨rfl,rfl⟩:=hc
 refine ⟨by simp,fun w0 U0 L0 N0 => ?_⟩
 have hg:=G_below hw l.length
 have hpos:0<l.length:=by
  rcases Nat.eq_zero_or_pos l.length with h | h
  ·exact absurd (.inl (List.length_eq_zero_iff.1 h)) hl
  ·exact h
 obtain ⟨q1,q2⟩:=belowN_rng c (n:=l.length) (by omega)
 have hp:pickN c l=at0 l (belowN c l.length).1.toNat:=rfl
 rw [hp]
 generalize belowN c l.length=p at *
 have q3:p.1.toNat<l.length:=by omega
 simp -implicitDefEqProofs [sc_s_l1PickInt,ren0,hg,q1,q2,q3]
 omega
def sc_s_l1Pick:SC:=(.seq (.reg [⟨some 4,none,(.mov (.c (.str ⟨⟨[]⟩⟩)))⟩]) (.seq (.reg [⟨some 5,none,.mov (.t 1)⟩,⟨some 6,none,.mov (.t 0)⟩,⟨some 7,none,.mov (.t 1)⟩,⟨some 8,none,.len (.t 7)⟩,⟨some 9,none,.call 27 [.t 6,.t 8]⟩,⟨some 10,none,.idx 1 (.t 5) (.t 9)⟩,⟨some 11,none,(.ld none (.str ⟨⟨[]⟩⟩) (.t 10))⟩,⟨some 4,none,.mov (.t 11)⟩]) .ret))
theorem code_s_l1Pick:fnCode Tryz.prog [] 55=some (12,sc_s_l1Pick,[(4,none)]):=by kernel_rfl
noncomputable def pickS (c:Cur) (l:List ByteArray):ByteArray:=atS l (belowN c l.length).1.toNat
noncomputable def G_s_l1Pick:List V→List V→Option (V×List V)
 | [.pt 0 0,a],cells=>(dS a).bind fun l=>if l=[]∨1048576<l.length then none else onCur (fun c=>some (.str (pickS c l),(belowN c l.length).2)) cells
 | _,_=>none
theorem G_pickT {c:Cur} (h:wfC c) {l:List ByteArray} (hl:l≠[]∧l.length≤1048576):G_s_l1Pick [.pt 0 0,.list 1 (strs l)] (curC c)=some (.str (pickS c l),curC (belowN c l.length).2):=by
 simp only [G_s_l1Pick,dS_list,Option.bind_some]
 rw [if_neg (by intro e; rcases e with e | e; exact hl.1 e; omega),onCur_at h]
 rfl
theorem ln_s_l1Pick:LendOk Tryz.prog 55 0 G_s_l1Pick:=by
 have env:=(envNil_ok (P:=Tryz.prog)).addl ln_s_l1Below
 refine fn_lend code_s_l1Pick mixed env ?_
 intro args cells r cells' hG hb
 unfold G_s_l1Pick at hG
 split at hG
 case h_2=>simp at hG
 rename_i a
 obtain ⟨l,h1,hG1⟩:=Option.bind_eq_some_iff.1 hG
 cases dS_inv h1
 split at hG1
 ·simp at hG1
 rename_i hl
 obtain ⟨c,d,hw,rfl,hc,rfl⟩:=onCur_inv hG1
 clear hG hG1 hb h1
 simp only [Option.some.injEq,Prod.mk.injEq] at hc
 obtain ⟨rfl,rfl⟩:=hc
 refine ⟨by simp,fun w0 U0 L0 N0 => ?_⟩
 have hg:=G_below hw l.length
 have hpos:0<l.length:=by
  rcases Nat.eq_zero_or_pos l.length with h | h
  ·exact absurd (.inl (List.length_eq_zero_iff.1 h)) hl
  ·exact h
 obtain ⟨q1,q2⟩:=belowN_rng c (n:=l.length) (by omega)
 have hp:pickS c l=atS l (belowN c l.length).1.toNat:=rfl
 rw [hp]
 generalize belowN c l.length=p at *
 have q3:p.1.toNat<l.length:=by omega
 simp -implicitDefEqProofs [sc_s_l1Pick,ren0,hg,q1,q2,q3]
 omega
def digS (n:Int):ByteArray:=⟨#[UInt8.ofNat (48+n).toNat]⟩
def p01 {α:Type} (a b:α):Nat→α
 | 0=>a
 | _+1=>b
theorem decS_dig {n:Int} (h1:1≤n) (h9:n≤9):decS n=digS n:=by
 rw [decS_one (by omega) (by omega)]
 unfold d8 digS
 rw [Int.emod_eq_of_lt (by omega) (by omega)]
def sc_s_l1Read_L0:SC:=(.seq (.seq (.reg [⟨some 31,none,.mov (.t 9)⟩,⟨some 32,none,.mov (.t 7)⟩,⟨some 33,none,.lens (.t 32)⟩,⟨some 34,none,.bin false .lss (.t 31) (.t 33)⟩]) (.cond (.t 34) .skip (.exit 0))) (.seq (.block 1 (.seq (.seq (.reg [⟨some 37,none,.mov (.t 7)⟩,⟨some 38,none,.mov (.t 9)⟩,⟨some 39,none,.ixs (.t 37) (.t 38)⟩,⟨some 40,none,.bin false .lss (.t 39) (.c (.int .u8 48))⟩,⟨some 41,none,.mov (.t 40)⟩,⟨some 42,some (41,false),.mov (.t 7)⟩,⟨some 43,some (41,false),.mov (.t 9)⟩,⟨some 44,some (41,false),.ixs (.t 42) (.t 43)⟩,⟨some 45,some (41,false),.bin false .gtr (.t 44) (.c (.int .u8 57))⟩,⟨some 46,none,.pick (.t 41) (.c (.bool true)) (.t 45)⟩]) (.cond (.t 46) (.seq (.reg [⟨some 4,none,.mov (.c (.int .i64 0))⟩,⟨some 5,none,.mov (.c (.bool false))⟩]) .ret) .skip)) (.reg [⟨some 47,none,.mov (.t 8)⟩,⟨some 48,none,.bin false .mul (.c (.int .i64 10)) (.t 47)⟩,⟨some 49,none,.mov (.t 7)⟩,⟨some 50,none,.mov (.t 9)⟩,⟨some 51,none,.ixs (.t 49) (.t 50)⟩,⟨some 52,none,.bin false .sub (.t 51) (.c (.int .u8 48))⟩,⟨some 53,none,.conv .i64 (.t 52)⟩,⟨some 54,none,.bin false .add (.t 48) (.t 53)⟩,⟨some 8,none,.mov (.t 54)⟩]))) (.reg [⟨some 35,none,.mov (.t 9)⟩,⟨some 36,none,.bin false .add (.t 35) (.c (.int .i64 1))⟩,⟨some 9,none,.mov (.t 36)⟩])))
def sc_s_l1Read:SC:=(.seq (.reg [⟨some 4,none,.mov (.c (.int .i64 0))⟩,⟨some 5,none,.mov (.c (.bool false))⟩]) (.seq (.reg [⟨some 10,none,.mov (.t 0)⟩,⟨some 11,none,.lens (.t 10)⟩,⟨some 12,none,.bin false .gtr (.t 11) (.c (.int .i64 0))⟩,⟨some 13,none,.mov (.t 12)⟩,⟨some 14,some (13,true),.mov (.t 0)⟩,⟨some 15,some (13,true),.ixs (.t 14) (.c (.int .i64 0))⟩,⟨some 16,some (13,true),.bin false .eql (.t 15) (.c (.int .u8 45))⟩,⟨some 17,none,.pick (.t 13) (.t 16) (.c (.bool false))⟩,⟨some 6,none,.mov (.t 17)⟩]) (.seq (.reg [⟨some 18,none,.mov (.t 0)⟩,⟨some 7,none,.mov (.t 18)⟩]) (.seq (.seq (.reg [⟨some 19,none,.mov (.t 6)⟩]) (.cond (.t 19) (.reg [⟨some 20,none,.mov (.t 0)⟩,⟨some 21,none,.slis (.t 20) (some (.c (.int .i64 1))) none⟩,⟨some 7,none,.mov (.t 21)⟩]) .skip)) (.seq (.seq (.reg [⟨some 22,none,.mov (.t 7)⟩,⟨some 23,none,.lens (.t 22)⟩,⟨some 24,none,.bin false .lss (.t 23) (.c (.int .i64 1))⟩,⟨some 25,none,.mov (.t 24)⟩,⟨some 26,some (25,false),.mov (.t 7)⟩,⟨some 27,some (25,false),.lens (.t 26)⟩,⟨some 28,some (25,false),.mov (.t 1)⟩,⟨some 29,some (25,false),.bin false .gtr (.t 27) (.t 28)⟩,⟨some 30,none,.pick (.t 25) (.c (.bool true)) (.t 29)⟩]) (.cond (.t 30) (.seq (.reg [⟨some 4,none,.mov (.c (.int .i64 0))⟩,⟨some 5,none,.mov (.c (.bool false))⟩]) .ret) .skip)) (.seq (.reg [⟨some 8,none,.mov (.c (.int .i64 0))⟩]) (.seq (.seq (.reg [⟨some 9,none,.mov (.c (.int .i64 0))⟩]) (.block 0 (.loop sc_s_l1Read_L0))) (.seq (.seq (.reg [⟨some 55,none,.mov (.t 6)⟩]) (.cond (.t 55) (.reg [⟨some 56,none,.mov (.t 8)⟩,⟨some 57,none,.bin false .sub (.c (.int .i64 0)) (.t 56)⟩,⟨some 8,none,.mov (.t 57)⟩]) .skip)) (.seq (.seq (.reg [⟨some 58,none,.mov (.t 8)⟩,⟨some 59,none,.call 47 [.t 58]⟩,⟨some 60,none,.mov (.t 0)⟩,⟨some 61,none,.bin false .neq (.t 59) (.t 60)⟩]) (.cond (.t 61) (.seq (.reg [⟨some 4,none,.mov (.c (.int .i64 0))⟩,⟨some 5,none,.mov (.c (.bool false))⟩]) .ret) .skip)) (.seq (.reg [⟨some 62,none,.mov (.t 8)⟩,⟨some 4,none,.mov (.t 62)⟩,⟨some 5,none,.mov (.c (.bool true))⟩]) .ret))))))))))
theorem code_s_l1Read:fnCode Tryz.prog [] 96=some (63,sc_s_l1Read,[(4,none),(5,none)]):=by kernel_rfl
noncomputable def dT:V→Option ByteArray
 | .str s=>some s
 | _=>none
theorem dT_str (s:ByteArray):dT (.str s)=some s:=rfl
theorem dT_inv {v:V} {s:ByteArray} (h:dT v=some s):v = .str s:=by
 unfold dT at h
 split at h
 ·injection h with h; rw [h]
 ·simp at h
noncomputable def F_s_l1Read:List V→Option V:=F2 dT dI fun s m => @ite _ (∃ n:Nat,1≤n∧n≤9∧s=digS n∧m=12) (Classical.propDecidable _) (some (.tup [.int .i64 (((s.data.toList.getD 0 0).toNat:Int)-48),.bool true])) none
theorem digS_size (n:Int):(digS n).size=1:=rfl
theorem digS_at {n:Nat} (h:n≤9):((digS n).data.toList.getD 0 0).toNat=48+n:=by
 show (UInt8.ofNat (48+(n:Int)).toNat).toNat=_
 rw [UInt8.toNat_ofNat']
 omega
theorem fn_s_l1Read:FnOk Tryz.prog 96 F_s_l1Read:=by
 have env:=(envNil_ok (P:=Tryz.prog)).add fn_s_FormatInt
 refine fn_ok code_s_l1Read mixed env ?_
 intro args r h hb
 obtain ⟨_,_,s,m,rfl,h1,h2,h4⟩:=F2_inv h
 cases dT_inv h1
 cases dI_inv h2
 simp only [Option.ite_none_right_eq_some,Option.some.injEq] at h4
 obtain ⟨⟨n,n1,n9,rfl,rfl⟩,rfl⟩:=h4
 clear h h1 h2 hb
 refine ⟨by simp,fun w0 U0 L0 N0 => ?_⟩
 have hat:=digS_at n9
 have hsz:=digS_size n
 have hF:F_s_FormatInt [.int .i64 (n:Int)]=some (.str (digS n)):=by
  rw [← decS_dig (by omega) (by omega)]
  exact if_pos ⟨by omega,by omega⟩
 generalize digS n=D at *
 have hat':((D.data.toList.getD 0 0).toNat:Int)=48+n:=by omega
 have hat2:((D.data.toList[0]?.getD 0).toNat:Int)=48+n:=by rw [← List.getD_eq_getElem?_getD]; exact hat'
 have hat3:((D.data[0]?.getD 0).toNat:Int)=48+n:=by simpa using hat2
 have hat4:∀ h:0<D.data.size,((D.data[0]'h).toNat:Int)=48+n:=fun h=>by
  rw [← hat3,Array.getElem?_eq_getElem h]
  rfl
 have e1:(48+(n:Int))-48=n:=by omega
 have q1:¬(48+(n:Int)=45):=by omega
 have q2:¬(48+(n:Int)<48):=by omega
 have q3:¬(57<48+(n:Int)):=by omega
 have w1:IntKind.u8.wrap (n:Int)=n:=wrap8 _ (by omega) (by omega)
 have w2:IntKind.i64.wrap (n:Int)=n:=wrapI _ (by omega) (by omega)
 have w3:IntKind.i64.wrap 0=0:=wrapI _ (by omega) (by omega)
 have w4:IntKind.i64.wrap 1=1:=wrapI _ (by omega) (by omega)
 rw [hat',e1]
 simp -implicitDefEqProofs [sc_s_l1Read,hsz,hat2,hat3,hat4,q1]
 refine loopI env mixed (fun k:Nat=>[(0,.str D),(6,.bool false),(7,.str D),(8,.int .i64 (p01 0 (n:Int) k)),(9,.int .i64 (k:Int))]) (fun _=>([],0)) (fun k=>k≤1) (fun k=>1-k) 0 (by simp) (SubI.slots rfl (by simp [p01]; try omega)) ?_
 intro k hk
 by_cases h0:k=0
 ·subst h0
  simp -implicitDefEqProofs [sc_s_l1Read_L0,p01,hsz,hat2,hat3,hat4,q2,q3,e1,w1,w2,w3,w4]
  repeat' (first | omega | apply And.intro)
  exact Again.of 1 (by omega) (by omega) (SubI.slots rfl (by simp [p01,w4]))
 ·have h1:k=1:=by omega
  subst h1
  simp -implicitDefEqProofs [sc_s_l1Read_L0,p01,hsz,hF]
def sc_s_ParseInt:SC:=(.seq (.reg [⟨some 2,none,.mov (.c (.int .i64 0))⟩,⟨some 3,none,.mov (.c (.bool false))⟩]) (.seq (.reg [⟨some 4,none,.mov (.t 0)⟩,⟨some 5,none,.call 96 [.t 4,(.c (.int .i64 12))]⟩,⟨some 6,none,.ext 0 (.t 5)⟩,⟨some 7,none,.ext 1 (.t 5)⟩,⟨some 2,none,.mov (.t 6)⟩,⟨some 3,none,.mov (.t 7)⟩]) .ret))
theorem code_s_ParseInt:fnCode Tryz.prog [] 73=some (8,sc_s_ParseInt,[(2,none),(3,none)]):=by kernel_rfl
noncomputable def F_s_ParseInt:List V→Option V:=F1 dT fun s => @ite _ (∃ n:Nat,1≤n∧n≤9∧s=digS n) (Classical.propDecidable _) (some (.tup [.int .i64 (((s.data.toList.getD 0 0).toNat:Int)-48),.bool true])) none
theorem fn_s_ParseInt:FnOk Tryz.prog 73 F_s_ParseInt:=by
 have env:=(envNil_ok (P:=Tryz.prog)).add fn_s_l1Read
 refine fn_ok code_s_ParseInt mixed env ?_
 intro args r h hb
 obtain ⟨_,s,rfl,h1,h4⟩:=F1_inv h
 cases dT_inv h1
 simp only [Option.ite_none_right_eq_some,Option.some.injEq] at h4
 obtain ⟨⟨n,n1,n9,rfl⟩,rfl⟩:=h4
 clear h h1 hb
 refine ⟨by simp,fun w0 U0 L0 N0 => ?_⟩
 have hF:F_s_l1Read [.str (digS n),.int .i64 12]=some (.tup [.int .i64 ((((digS n).data.toList.getD 0 0).toNat:Int)-48),.bool true]):=by
  simp only [F_s_l1Read,F2_mk,dI_int,dT_str,Option.bind_some]
  rw [if_pos ⟨n,n1,n9,rfl,rfl⟩]
 generalize ((((digS n).data.toList.getD 0 0).toNat:Int)-48)=v at *
 generalize digS n=D at *
 simp -implicitDefEqProofs [sc_s_ParseInt,hF]
def sc_s_SplitByte_L0:SC:=(.seq (.seq (.reg [⟨some 9,none,.mov (.t 7)⟩,⟨some 10,none,.mov (.t 0)⟩,⟨some 11,none,.lens (.t 10)⟩,⟨some 12,none,.bin false .leq (.t 9) (.t 11)⟩]) (.cond (.t 12) .skip (.exit 0))) (.seq (.block 1 (.seq (.reg [⟨some 15,none,.mov (.t 7)⟩,⟨some 16,none,.mov (.t 0)⟩,⟨some 17,none,.lens (.t 16)⟩,⟨some 18,none,.bin false .eql (.t 15) (.t 17)⟩,⟨some 19,none,.mov (.t 18)⟩,⟨some 20,some (19,false),.mov (.t 0)⟩,⟨some 21,some (19,false),.mov (.t 7)⟩,⟨some 22,some (19,false),.ixs (.t 20) (.t 21)⟩,⟨some 23,some (19,false),.mov (.t 1)⟩,⟨some 24,some (19,false),.bin false .eql (.t 22) (.t 23)⟩,⟨some 25,none,.pick (.t 19) (.c (.bool true)) (.t 24)⟩]) (.cond (.t 25) (.seq (.reg [⟨some 26,none,.mov (.t 5)⟩,⟨some 27,none,.mov (.t 0)⟩,⟨some 28,none,.mov (.t 6)⟩,⟨some 29,none,.mov (.t 7)⟩,⟨some 30,none,.slis (.t 27) (some (.t 28)) (some (.t 29))⟩,⟨some 31,none,(.mks 1 1 [(.str ⟨⟨[]⟩⟩)] [(0,(1,(.t 30)))])⟩,⟨some 32,none,.app 1 16 (.t 26) (.t 31)⟩,⟨some 5,none,.mov (.t 32)⟩]) (.reg [⟨some 33,none,.mov (.t 7)⟩,⟨some 34,none,.bin false .add (.t 33) (.c (.int .i64 1))⟩,⟨some 6,none,.mov (.t 34)⟩])) .skip))) (.reg [⟨some 13,none,.mov (.t 7)⟩,⟨some 14,none,.bin false .add (.t 13) (.c (.int .i64 1))⟩,⟨some 7,none,.mov (.t 14)⟩])))
def sc_s_SplitByte:SC:=(.seq (.reg [⟨some 4,none,.mov (.c .nil)⟩]) (.seq (.reg [⟨some 8,none,.mks 0 1 [] []⟩,⟨some 5,none,.mov (.t 8)⟩]) (.seq (.reg [⟨some 6,none,.mov (.c (.int .i64 0))⟩]) (.seq (.seq (.reg [⟨some 7,none,.mov (.c (.int .i64 0))⟩]) (.block 0 (.loop sc_s_SplitByte_L0))) (.seq (.reg [⟨some 35,none,.mov (.t 5)⟩,⟨some 4,none,.mov (.t 35)⟩]) .ret)))))
theorem code_s_SplitByte:fnCode Tryz.prog [] 72=some (36,sc_s_SplitByte,[(4,none)]):=by kernel_rfl
def spI (s:ByteArray) (by':Nat):Nat→List ByteArray×Nat
 | 0=>([],0)
 | i+1=>if i=s.size∨(s.data.toList.getD i 0).toNat=by' then ((spI s by' i).1++[s.extract (spI s by' i).2 i],i+1) else spI s by' i
def splitB (s:ByteArray) (by':Nat):List ByteArray:=(spI s by' (s.size+1)).1
theorem spI_le (s:ByteArray) (by':Nat):∀ i,(spI s by' i).2≤i∧(spI s by' i).1.length≤i
 | 0=>⟨Nat.le_refl _,Nat.le_refl _⟩
 | i+1=>by
  have:=spI_le s by' i
  unfold spI
  split
  ·simp; omega
  ·omega
noncomputable def F_s_SplitByte:List V→Option V
 | [.str s,.int .u8 n] => @ite _ (0≤n∧n<256∧s.size≤1000) (Classical.propDecidable _) (some (.own 1 (strs (splitB s n.toNat)))) none
 | _=>none
theorem fn_s_SplitByte:FnOk Tryz.prog 72 F_s_SplitByte:=by
 refine fn_ok code_s_SplitByte mixed envNil_ok ?_
 intro args r h hb
 unfold F_s_SplitByte at h
 split at h
 case h_2=>simp at h
 rename_i s n
 simp only [Option.ite_none_right_eq_some,Option.some.injEq] at h
 obtain ⟨⟨n0,n1,hs⟩,rfl⟩:=h
 clear hb
 obtain ⟨m,rfl⟩:=Int.eq_ofNat_of_zero_le n0
 rw [Int.toNat_natCast]
 refine ⟨by simp,fun w0 U0 L0 N0 => ?_⟩
 have hle:=spI_le s m
 have hst:∀ i,spI s m (i+1)=if i=s.size∨(s.data.toList.getD i 0).toNat=m then ((spI s m i).1++[s.extract (spI s m i).2 i],i+1) else spI s m i:=fun i=>rfl
 have h0:spI s m 0=([],0):=rfl
 have hfin:splitB s m=(spI s m (s.size+1)).1:=rfl
 rw [hfin]
 clear hfin
 generalize spI s m=g at *
 obtain ⟨N,hN⟩:∃ N,s.size=N:=⟨_,rfl⟩
 rw [hN] at hst hs ⊢
 have hN2:s.data.size=N:=hN
 simp -implicitDefEqProofs [sc_s_SplitByte]
 refine loopI envNil_ok mixed (fun i:Nat=>[(0,.str s),(1,.int .u8 (m:Int)),(5,.sl 0 1 0 (g i).1.length),(6,.int .i64 ((g i).2:Int)),(7,.int .i64 (i:Int))]) (fun i=>([(0,strs (g i).1)],1)) (fun i=>i≤N+1) (fun i=>N+1-i) 0 (by simp) (SubI.slots (by simp [h0,strs]) (by simp [h0])) ?_
 intro i hi
 obtain ⟨hl1,hl2⟩:=hle i
 have hw:IntKind.i64.wrap ((i:Int)+1)=(i:Int)+1:=wrapI _ (by omega) (by omega)
 have e:=hst i
 by_cases hlt:i≤N
 rotate_left
 ·have hi1:i=N+1:=by omega
  subst hi1
  simp -implicitDefEqProofs [sc_s_SplitByte_L0,hN,hlt]
  try omega
 have k2:((g i).1.length+1)*16≤140737488355328:=by omega
 have hlx:(i:Int)≤(N:Int):=by omega
 have step:∀ (L:Tm) (v x:List V),v=strs ((g i).1++[s.extract (g i).2 i])→(i=N∨(s.data.toList.getD i 0).toNat=m) →
   subT (fun m=>if m=0 then some 2 else none) L [(0,.str s),(1,.int .u8 (m:Int)),(5,.sl 0 1 0 ((g i).1.length+1)),(6,.int .i64 ((i:Int)+1)),(7,.int .i64 ((i:Int)+1))] →
   Again 0 (fun i:Nat=>[(0,.str s),(1,.int .u8 (m:Int)),(5,.sl 0 1 0 (g i).1.length),(6,.int .i64 ((g i).2:Int)),(7,.int .i64 (i:Int))]) (fun i=>([(0,strs (g i).1)],1)) (fun i=>i≤N+1) (fun i=>N+1-i) i L ([(2,v),(1,x)],3):=by
  rintro L v x rfl hc hs
  rw [if_pos hc] at e
  refine Again.of (i+1) (by omega) (by omega) (SubI.ren (fun m=>if m=0 then some 2 else none) ?_ ?_ ?_ (by simp) (by simp))
  ·rw [e]
   simpa using hs
  ·rw [e]
   simp
  ·intro n hn
   simp only at hn
   have:n≠0:=by omega
   rw [if_neg this]
 by_cases hz:i=N
 ·subst hz
  simp -implicitDefEqProofs [sc_s_SplitByte_L0,hN,hw,hl1,k2]
  repeat' (first | omega | apply And.intro)
  exact step _ _ _ (by simp [strs]) (.inl rfl) (by simp [renV,ren1])
 ·have hz':¬(i:Int)=(N:Int):=by omega
  have hi2:(i:Int)<(N:Int):=by omega
  have hi3:i<N:=by omega
  have hd:s.data.toList.getD i 0=s.data.toList.getD i 0:=rfl
  obtain ⟨x,hx⟩:∃ x,s.data.toList.getD i 0=x:=⟨_,rfl⟩
  rw [hx] at e step
  have hx2:s.data.toList[i]?.getD 0=x:=by rw [← List.getD_eq_getElem?_getD]; exact hx
  have hx3:s.data[i]?.getD 0=x:=by simpa using hx2
  have hx4:∀ h:i<s.data.size,s.data[i]'h=x:=fun h=>by
   rw [← hx3,Array.getElem?_eq_getElem h]
   rfl
  by_cases hm:x.toNat=m
  ·have hm2:(x.toNat:Int)=(m:Int):=by omega
   simp -implicitDefEqProofs [sc_s_SplitByte_L0,hN,hN2,hw,hl1,k2,hlt,hz,hz',hi2,hi3,hx2,hx3,hx4,hm,hm2]
   repeat' (first | omega | apply And.intro)
   exact step _ _ _ (by simp [strs]) (.inr hm) (by simp [renV,ren1])
  ·have hm2:¬(x.toNat:Int)=(m:Int):=by omega
   have hm3:¬(x.toNat=m):=hm
   rw [if_neg (by rintro (h | h); exact hz h; exact hm h)] at e
   simp -implicitDefEqProofs [sc_s_SplitByte_L0,hN,hN2,hw,hl1,k2,hlt,hz,hz',hi2,hi3,hx2,hx3,hx4,hm,hm2]
   repeat' (first | omega | apply And.intro)
   exact Again.of (i+1) (by omega) (by omega) (SubI.slots (by simp [e]) (by simp [e]))
def sc_s_ParseSet_L0:SC:=(.seq (.seq (.reg [⟨some 7,none,.mov (.t 5)⟩,⟨some 8,none,.mov (.t 0)⟩,⟨some 9,none,.lens (.t 8)⟩,⟨some 10,none,.bin false .lss (.t 7) (.t 9)⟩,⟨some 11,none,.mov (.t 10)⟩,⟨some 12,some (11,true),.mov (.t 0)⟩,⟨some 13,some (11,true),(.bin false .neq (.t 12) (.c (.str ⟨⟨[45]⟩⟩)))⟩,⟨some 14,none,.pick (.t 11) (.t 13) (.c (.bool false))⟩]) (.cond (.t 14) .skip (.exit 0))) (.seq (.block 1 (.seq (.reg [⟨some 17,none,.mov (.t 0)⟩,⟨some 18,none,.mov (.t 5)⟩,⟨some 19,none,.ixs (.t 17) (.t 18)⟩,⟨some 20,none,.conv .i64 (.t 19)⟩,⟨some 21,none,.bin false .sub (.t 20) (.c (.int .i64 97))⟩,⟨some 6,none,.mov (.t 21)⟩]) (.seq (.seq (.reg [⟨some 22,none,.mov (.t 6)⟩,⟨some 23,none,.call 39 [.t 22,(.c (.int .i64 0)),(.c (.int .i64 5))]⟩,⟨some 24,none,.un .not (.t 23)⟩,⟨some 25,none,.mov (.t 24)⟩,⟨some 26,some (25,false),.mov (.t 4)⟩,⟨some 27,some (25,false),.mov (.t 6)⟩,⟨some 28,some (25,false),.conv .u64 (.t 27)⟩,⟨some 29,some (25,false),.bin false .shr (.t 26) (.t 28)⟩,⟨some 30,some (25,false),.bin false .neq (.t 29) (.c (.int .i64 0))⟩,⟨some 31,none,.pick (.t 25) (.c (.bool true)) (.t 30)⟩]) (.cond (.t 31) (.seq (.reg [⟨some 2,none,.mov (.c (.int .i64 0))⟩,⟨some 3,none,.mov (.c (.bool false))⟩]) .ret) .skip)) (.reg [⟨some 32,none,.mov (.t 4)⟩,⟨some 33,none,.mov (.t 6)⟩,⟨some 34,none,.conv .u64 (.t 33)⟩,⟨some 35,none,.bin false .shl (.c (.int .i64 1)) (.t 34)⟩,⟨some 36,none,.bin false .add (.t 32) (.t 35)⟩,⟨some 4,none,.mov (.t 36)⟩])))) (.reg [⟨some 15,none,.mov (.t 5)⟩,⟨some 16,none,.bin false .add (.t 15) (.c (.int .i64 1))⟩,⟨some 5,none,.mov (.t 16)⟩])))
def sc_s_ParseSet:SC:=(.seq (.reg [⟨some 2,none,.mov (.c (.int .i64 0))⟩,⟨some 3,none,.mov (.c (.bool false))⟩]) (.seq (.reg [⟨some 4,none,.mov (.c (.int .i64 0))⟩]) (.seq (.seq (.reg [⟨some 5,none,.mov (.c (.int .i64 0))⟩]) (.block 0 (.loop sc_s_ParseSet_L0))) (.seq (.reg [⟨some 37,none,.mov (.t 4)⟩,⟨some 38,none,.mov (.t 0)⟩,⟨some 39,none,(.bin false .neq (.t 38) (.c (.str ⟨⟨[]⟩⟩)))⟩,⟨some 2,none,.mov (.t 37)⟩,⟨some 3,none,.mov (.t 39)⟩]) .ret))))
theorem code_s_ParseSet:fnCode Tryz.prog [] 74=some (40,sc_s_ParseSet,[(2,none),(3,none)]):=by kernel_rfl
def bt (s:ByteArray) (k:Nat):Nat:=(s.data.toList.getD k 0).toNat
def psV (s:ByteArray):Nat→Int
 | 0=>0
 | k+1=>psV s k+2 ^ (bt s k-97)
def psOk (s:ByteArray):Bool:=decide (0<s.size∧s.size≤6) && !(s.toList == [45]) && !(s.toList == []) && (List.range s.size).all fun k=>decide (97≤bt s k∧bt s k≤102∧0≤psV s k∧psV s k<2 ^ (bt s k-97))
noncomputable def F_s_ParseSet:List V→Option V:=F1 dT fun s=>if psOk s=true then some (.tup [.int .i64 (psV s s.size),.bool true]) else none
theorem fn_s_ParseSet:FnOk Tryz.prog 74 F_s_ParseSet:=by
 have env:=(envNil_ok (P:=Tryz.prog)).add fn_s_l1In
 refine fn_ok code_s_ParseSet mixed env ?_
 intro args r h hb
 obtain ⟨_,s,rfl,h1,h4⟩:=F1_inv h
 cases dT_inv h1
 simp only [Option.ite_none_right_eq_some,Option.some.injEq] at h4
 obtain ⟨hok,rfl⟩:=h4
 clear h h1 hb
 simp only [psOk,Bool.and_eq_true,decide_eq_true_eq,Bool.not_eq_true',List.all_eq_true,List.mem_range] at hok
 obtain ⟨⟨⟨⟨hs0,hs6⟩,hne⟩,hnil⟩,hall⟩:=hok
 refine ⟨by simp,fun w0 U0 L0 N0 => ?_⟩
 have hst:∀ k,psV s (k+1)=psV s k+2 ^ (bt s k-97):=fun k=>rfl
 have h0:psV s 0=0:=rfl
 have hbt:∀ k,s.data.toList[k]?.getD 0=s.data.toList.getD k 0:=fun k=>by rw [← List.getD_eq_getElem?_getD]
 have hx3:∀ k,((s.data[k]?.getD 0).toNat:Int)=(bt s k:Nat):=fun k=>by
  have:s.data[k]?.getD 0=s.data.toList.getD k 0:=by rw [← hbt]; simp
  rw [this]
  rfl
 have hx4:∀ k (h:k<s.data.size),((s.data[k]'h).toNat:Int)=(bt s k:Nat):=fun k h=>by
  rw [← hx3,Array.getElem?_eq_getElem h]
  rfl
 have hx2:∀ k,((s.data.toList[k]?.getD 0).toNat:Int)=(bt s k:Nat):=fun k=>by rw [hbt]; rfl
 obtain ⟨N,hN⟩:∃ N,s.size=N:=⟨_,rfl⟩
 rw [hN] at hs0 hs6 hall ⊢
 have hN2:s.data.size=N:=hN
 have l45:(⟨⟨[45]⟩⟩:ByteArray).toList=[45]:=by decide +kernel
 have l00:(⟨⟨[]⟩⟩:ByteArray).toList=[]:=by decide +kernel
 generalize psV s=f at *
 generalize hB:bt s=B at *
 simp -implicitDefEqProofs [sc_s_ParseSet]
 refine loopI env mixed (fun i:Nat=>[(0,.str s),(4,.int .i64 (f i)),(5,.int .i64 (i:Int))]) (fun _=>([],0)) (fun i=>i≤N) (fun i=>N-i) 0 (by simp) (SubI.slots rfl (by simp [h0])) ?_
 intro i hi
 by_cases hlt:i<N
 rotate_left
 ·have hi1:i=N:=by omega
  subst hi1
  simp -implicitDefEqProofs [sc_s_ParseSet_L0,hN,l00,hnil]
  try omega
 have hlx:(i:Int)<(N:Int):=by omega
 obtain ⟨b1,b2,b3,b4⟩:=hall i hlt
 have e:=hst i
 have q0:((97:Int)≤(B i:Nat)):=by omega
 obtain ⟨j,hj⟩:∃ j:Nat,B i=97+j:=⟨B i-97,by omega⟩
 have hj5:j≤5:=by omega
 have e1:B i-97=j:=by omega
 rw [e1] at e b4
 have w1:IntKind.i64.wrap (97+(j:Int))=97+(j:Int):=wrapI _ (by omega) (by omega)
 have w2:IntKind.i64.wrap (97+(j:Int)-97)=(j:Int):=by rw [wrapI _ (by omega) (by omega)]; omega
 have w7:IntKind.i64.wrap (j:Int)=(j:Int):=wrapI _ (by omega) (by omega)
 have w3:IntKind.u64.wrap (j:Int)=(j:Int):=wrapU _ (by omega) (by omega)
 have w4:IntKind.i64.wrap ((i:Int)+1)=(i:Int)+1:=wrapI _ (by omega) (by omega)
 have hpw:(2:Int) ^ j≤32:=by
  have:∀ j:Nat,j<6→(2:Int) ^ j≤32:=by decide
  exact this j (by omega)
 have hp0:(0:Int)<2 ^ j:=Int.pow_pos (by omega)
 have hmin:min (j:Int).toNat IntKind.i64.bits=j:=by
  rw [Int.toNat_natCast]
  have:IntKind.i64.bits=64:=rfl
  omega
 have hmin2:min j IntKind.i64.bits=j:=by
  have:IntKind.i64.bits=64:=rfl
  omega
 have w5:IntKind.i64.wrap ((2:Int) ^ j)=2 ^ j:=wrapI _ (by omega) (by omega)
 have w6:IntKind.i64.wrap (f i+2 ^ j)=f (i+1):=by rw [e]; exact wrapI _ (by omega) (by omega)
 have hsh:(f i).fdiv (2 ^ j)=0:=by
  rw [Int.fdiv_eq_ediv_of_nonneg _ (by omega)]
  exact Int.ediv_eq_zero_of_lt b3 b4
 have hj5i:(j:Int)≤5:=by omega
 simp -implicitDefEqProofs [sc_s_ParseSet_L0,F_s_l1In,hN,hN2,hlt,hlx,hx2,hx3,hx4,hB,hj,hne,l45,w1,w2,w3,w4,hmin,hmin2,hsh,w5,w6,w7,hj5i]
 repeat' (first | omega | apply And.intro)
 exact Again.of (i+1) (by omega) (by omega) (SubI.slots rfl (by simp))
def sc_s_ParseComplex_L0:SC:=(.seq (.seq (.reg [⟨some 31,none,.mov (.t 9)⟩,⟨some 32,none,.mov (.t 8)⟩,⟨some 33,none,.len (.t 32)⟩,⟨some 34,none,.bin false .lss (.t 31) (.t 33)⟩,⟨some 35,none,.mov (.t 34)⟩,⟨some 36,some (35,true),.mov (.t 4)⟩,⟨some 37,some (35,true),.idx 1 (.t 36) (.c (.int .i64 1))⟩,⟨some 38,some (35,true),(.ld none (.str ⟨⟨[]⟩⟩) (.t 37))⟩,⟨some 39,some (35,true),(.bin false .neq (.t 38) (.c (.str ⟨⟨[]⟩⟩)))⟩,⟨some 40,none,.pick (.t 35) (.t 39) (.c (.bool false))⟩]) (.cond (.t 40) .skip (.exit 0))) (.seq (.block 1 (.seq (.reg [⟨some 44,none,.mov (.t 8)⟩,⟨some 45,none,.mov (.t 9)⟩,⟨some 46,none,.idx 1 (.t 44) (.t 45)⟩,⟨some 47,none,(.ld none (.str ⟨⟨[]⟩⟩) (.t 46))⟩,⟨some 48,none,.call 74 [.t 47]⟩,⟨some 43,none,.mov (.t 48)⟩,⟨some 49,none,.ext 0 (.t 43)⟩,⟨some 50,none,.ext 1 (.t 43)⟩,⟨some 10,none,.mov (.t 49)⟩,⟨some 11,none,.mov (.t 50)⟩]) (.seq (.seq (.reg [⟨some 51,none,.mov (.t 11)⟩,⟨some 52,none,.un .not (.t 51)⟩]) (.cond (.t 52) (.seq (.reg [⟨some 53,none,.agg [.int .i64 0,.nil] []⟩,⟨none,none,.st 2 (.t 2) (.t 53)⟩,⟨some 3,none,.mov (.c (.bool false))⟩]) .ret) .skip)) (.reg [⟨some 54,none,.fad 1 (.t 7)⟩,⟨some 55,none,.ld none .nil (.t 54)⟩,⟨some 56,none,.mov (.t 10)⟩,⟨some 57,none,.mks 1 1 [.int .i64 0] [(0,(1,(.t 56)))]⟩,⟨some 58,none,.app 1 8 (.t 55) (.t 57)⟩,⟨some 59,none,.fad 1 (.t 7)⟩,⟨none,none,.st 1 (.t 59) (.t 58)⟩])))) (.reg [⟨some 41,none,.mov (.t 9)⟩,⟨some 42,none,.bin false .add (.t 41) (.c (.int .i64 1))⟩,⟨some 9,none,.mov (.t 42)⟩])))
def sc_s_ParseComplex:SC:=(.seq (.reg [⟨some 2,none,.new [.int .i64 0,.nil]⟩,⟨some 3,none,.mov (.c (.bool false))⟩]) (.seq (.reg [⟨some 12,none,.mov (.t 0)⟩,⟨some 13,none,.call 72 [.t 12,(.c (.int .u8 58))]⟩,⟨some 4,none,.mov (.t 13)⟩]) (.seq (.seq (.reg [⟨some 14,none,.mov (.t 4)⟩,⟨some 15,none,.len (.t 14)⟩,⟨some 16,none,.bin false .neq (.t 15) (.c (.int .i64 2))⟩]) (.cond (.t 16) (.seq (.reg [⟨some 17,none,.agg [.int .i64 0,.nil] []⟩,⟨none,none,.st 2 (.t 2) (.t 17)⟩,⟨some 3,none,.mov (.c (.bool false))⟩]) .ret) .skip)) (.seq (.reg [⟨some 19,none,.mov (.t 4)⟩,⟨some 20,none,.idx 1 (.t 19) (.c (.int .i64 0))⟩,⟨some 21,none,(.ld none (.str ⟨⟨[]⟩⟩) (.t 20))⟩,⟨some 22,none,.call 73 [.t 21]⟩,⟨some 18,none,.mov (.t 22)⟩,⟨some 23,none,.ext 0 (.t 18)⟩,⟨some 24,none,.ext 1 (.t 18)⟩,⟨some 5,none,.mov (.t 23)⟩,⟨some 6,none,.mov (.t 24)⟩]) (.seq (.reg [⟨some 25,none,.mov (.t 5)⟩,⟨some 26,none,.agg [.int .i64 0,.nil] [(0,(1,(.t 25)))]⟩,⟨some 7,none,.new [.int .i64 0,.nil]⟩,⟨none,none,.st 2 (.t 7) (.t 26)⟩]) (.seq (.reg [⟨some 27,none,.mov (.t 4)⟩,⟨some 28,none,.idx 1 (.t 27) (.c (.int .i64 1))⟩,⟨some 29,none,(.ld none (.str ⟨⟨[]⟩⟩) (.t 28))⟩,⟨some 30,none,.call 72 [.t 29,(.c (.int .u8 44))]⟩,⟨some 8,none,.mov (.t 30)⟩]) (.seq (.seq (.reg [⟨some 9,none,.mov (.c (.int .i64 0))⟩]) (.block 0 (.loop sc_s_ParseComplex_L0))) (.seq (.seq (.reg [⟨some 60,none,.mov (.t 6)⟩,⟨some 61,none,.un .not (.t 60)⟩,⟨some 62,none,.mov (.t 61)⟩,⟨some 63,some (62,false),.ld (some 2) .undef (.t 7)⟩,⟨some 64,some (62,false),.call 44 [.t 63]⟩,⟨some 65,some (62,false),.un .not (.t 64)⟩,⟨some 66,none,.pick (.t 62) (.c (.bool true)) (.t 65)⟩]) (.cond (.t 66) (.seq (.reg [⟨some 67,none,.agg [.int .i64 0,.nil] []⟩,⟨none,none,.st 2 (.t 2) (.t 67)⟩,⟨some 3,none,.mov (.c (.bool false))⟩]) .ret) .skip)) (.seq (.reg [⟨some 68,none,.ld (some 2) .undef (.t 7)⟩,⟨none,none,.st 2 (.t 2) (.t 68)⟩,⟨some 3,none,.mov (.c (.bool true))⟩]) .ret)))))))))
theorem code_s_ParseComplex:fnCode Tryz.prog [] 37=some (69,sc_s_ParseComplex,[(2,(some 2)),(3,none)]):=by kernel_rfl
def pcP (s:ByteArray) (n:Int) (l:List Int):Prop:=∃ s1 s2,splitB s 58=[s1,s2]∧s.size≤1000∧(∃ m:Nat,1≤m∧m≤9∧s1=digS m∧n=(m:Int))∧s2.size≤1000∧(s2.toList == [])=false∧0<l.length∧l.length≤64 ∧
 (splitB s2 44).length=l.length∧(∀ k,k<l.length→psOk (atS (splitB s2 44) k)=true∧psV (atS (splitB s2 44) k) (atS (splitB s2 44) k).size=at0 l k)∧cplx n l
open Classical in
noncomputable def pcV (s:ByteArray):Int×List Int:=if h:∃ x:Int×List Int,pcP s x.1 x.2 then Classical.choose h else (0,[])
noncomputable def F_s_ParseComplex:List V→Option V:=F1 dT fun s => @ite _ (∃ x:Int×List Int,pcP s x.1 x.2) (Classical.propDecidable _) (some (.tup [.agg [.int .i64 (pcV s).1,.own 1 (ints (pcV s).2)],.bool true])) none
theorem pcV_ok {s:ByteArray} (h:∃ x:Int×List Int,pcP s x.1 x.2):pcP s (pcV s).1 (pcV s).2:=by
 unfold pcV
 rw [dif_pos h]
 exact Classical.choose_spec h
theorem fn_s_ParseComplex:FnOk Tryz.prog 37 F_s_ParseComplex:=by
 have env:=((((envNil_ok (P:=Tryz.prog)).add fn_s_SplitByte).add fn_s_ParseInt).add fn_s_ParseSet).add fn_s_IsComplex
 refine fn_ok code_s_ParseComplex mixed env ?_
 intro args r h hb
 obtain ⟨_,s,rfl,h1,h4⟩:=F1_inv h
 cases dT_inv h1
 simp only [Option.ite_none_right_eq_some,Option.some.injEq] at h4
 obtain ⟨hx,rfl⟩:=h4
 have hp:=pcV_ok hx
 clear h h1 hb hx
 generalize (pcV s).1=n at *
 generalize (pcV s).2=l at *
 obtain ⟨s1,s2,e1,hz1,⟨m,m1,m9,rfl,rfl⟩,hz2,hne,hl0,hl64,hlen,hall,hc⟩:=hp
 refine ⟨by simp,fun w0 U0 L0 N0 => ?_⟩
 have f1:F_s_SplitByte [.str s,.int .u8 58]=some (.own 1 (strs [digS m,s2])):=by
  simp only [F_s_SplitByte]
  rw [if_pos ⟨by omega,by omega,hz1⟩]
  rw [show (58:Int).toNat=58 from rfl,e1]
 have f2:F_s_SplitByte [.str s2,.int .u8 44]=some (.own 1 (strs (splitB s2 44))):=by
  simp only [F_s_SplitByte]
  rw [if_pos ⟨by omega,by omega,hz2⟩]
  rfl
 have f3:F_s_ParseInt [.str (digS m)]=some (.tup [.int .i64 (m:Int),.bool true]):=by
  simp only [F_s_ParseInt,F1_mk,dT_str,Option.bind_some]
  rw [if_pos ⟨m,m1,m9,rfl⟩]
  have:=digS_at m9
  rw [show (((digS m).data.toList.getD 0 0).toNat:Int)-48=(m:Int) by omega]
 have f4:∀ k,k<l.length→F_s_ParseSet [.str (atS (splitB s2 44) k)]=some (.tup [.int .i64 (at0 l k),.bool true]):=fun k hk=>by
  simp only [F_s_ParseSet,F1_mk,dT_str,Option.bind_some]
  rw [if_pos (hall k hk).1,(hall k hk).2]
 have f5:F_s_IsComplex [.agg [.int .i64 (m:Int),.list 1 (ints l)]]=some (.bool true):=by
  simp only [F_s_IsComplex,F1_mk,dC_agg,Option.bind_some]
  rw [cplxB_iff.2 hc]
 have l00:(⟨⟨[]⟩⟩:ByteArray).toList=[]:=by decide +kernel
 have s12:strs [digS m,s2]=[.str (digS m),.str s2]:=rfl
 rw [s12] at f1
 generalize splitB s2 44=S at *
 generalize digS m=D at *
 clear e1
 simp -implicitDefEqProofs [sc_s_ParseComplex,f1,f2,f3]
 refine loopI env mixed (fun i:Nat=>[(2,.pt 0 0),(4,.sl 1 1 0 2),(6,.bool true),(7,.pt 2 0),(8,.sl 3 1 0 S.length),(9,.int .i64 (i:Int))])
  (fun i=>p01 ([(3,strs S),(2,[.int .i64 (m:Int),.nil]),(1,[.str D,.str s2]),(0,[.int .i64 0,.nil])],4) ([(4,ints (l.take i)),(3,strs S),(2,[.int .i64 (m:Int),.sl 4 1 0 i]),(1,[.str D,.str s2]),(0,[.int .i64 0,.nil])],5) i)
  (fun i=>i≤l.length) (fun i=>l.length-i) 0 (by simp) ?_ ?_
 ·exact SubI.slots (by simp [p01]) (by simp)
 intro i hi
 have hw:IntKind.i64.wrap ((i:Int)+1)=(i:Int)+1:=wrapI _ (by omega) (by omega)
 by_cases hlt:i<l.length
 ·have hli:(i:Int)<(l.length:Int):=by omega
  have g4:=f4 i hlt
  cases i with
  | zero =>
   simp -implicitDefEqProofs [sc_s_ParseComplex_L0,p01,hlen,hl0,hlt,hli,hne,l00,g4]
   repeat' (first | omega | apply And.intro)
   refine Again.of 1 (by omega) (by omega) (SubI.ren (fun m=>if m=0 then some 0 else if m=1 then some 1 else if m=2 then some 2 else if m=3 then some 3 else if m=4 then some 5 else none) ?_ ?_ ?_ (by simp) (by simp))
   ·simp [renV,ren1,wrapI]
   ·have:ints (l.take 1)=[V.int .i64 (at0 l 0)]:=by
     cases l with
     | nil=>simp at hl0
     | cons a l=>simp [at0]
    simp [p01,renL,ren1,this]
   ·intro n hn
    simp only [p01] at hn
    have h1:n≠0:=by omega
    have h2:n≠1:=by omega
    have h3:n≠2:=by omega
    have h4:n≠3:=by omega
    have h5:n≠4:=by omega
    simp [h1,h2,h3,h4,h5]
  | succ i =>
   have hli':(i:Int)+1<(l.length:Int):=by omega
   have hmn:min (i+1) l.length=i+1:=by omega
   have hw':IntKind.i64.wrap ((i:Int)+1+1)=(i:Int)+1+1:=wrapI _ (by omega) (by omega)
   have htk:l.take (i+1+1)=l.take (i+1)++[at0 l (i+1)]:=by rw [List.take_succ_eq_append_getElem hlt,at0_eq hlt]
   simp -implicitDefEqProofs [sc_s_ParseComplex_L0,p01,hlen,hlt,hli',hmn,hne,l00,g4,hw']
   repeat' (first | omega | apply And.intro)
   refine Again.of (i+1+1) (by omega) (by omega) (SubI.ren (fun m=>if m=0 then some 0 else if m=1 then some 1 else if m=2 then some 2 else if m=3 then some 3 else if m=4 then some 6 else none) ?_ ?_ ?_ (by simp) (by simp))
   ·simp [renV,ren1]
   ·simp [p01,renL,ren1,htk]
    rw [List.take_take,Nat.min_self,← ints_app]
    rfl
   ·intro n hn
    simp only [p01] at hn
    have h1:n≠0:=by omega
    have h2:n≠1:=by omega
    have h3:n≠2:=by omega
    have h4:n≠3:=by omega
    have h5:n≠4:=by omega
    simp [h1,h2,h3,h4,h5]
 ·have:i=l.length:=by omega
  subst this
  obtain ⟨j,hj⟩:∃ j,l.length=j+1:=⟨l.length-1,by omega⟩
  rw [hj]
  have ht:l.take (j+1)=l:=by rw [← hj,List.take_length]
  simp -implicitDefEqProofs [sc_s_ParseComplex_L0,p01,hlen,hj,ht,f5]
def sc_s_BorderComplex_L0:SC:=(.seq (.seq (.reg [⟨some 11,none,.mov (.t 5)⟩,⟨some 12,none,.mov (.t 0)⟩,⟨some 13,none,.conv .u64 (.t 12)⟩,⟨some 14,none,.bin false .shl (.c (.int .i64 1)) (.t 13)⟩,⟨some 15,none,.bin false .sub (.t 14) (.c (.int .i64 1))⟩,⟨some 16,none,.bin false .lss (.t 11) (.t 15)⟩]) (.cond (.t 16) .skip (.exit 0))) (.seq (.block 1 (.reg [⟨some 19,none,.mov (.t 4)⟩,⟨some 20,none,.mov (.t 5)⟩,⟨some 21,none,.mks 1 1 [.int .i64 0] [(0,(1,(.t 20)))]⟩,⟨some 22,none,.app 1 8 (.t 19) (.t 21)⟩,⟨some 4,none,.mov (.t 22)⟩])) (.reg [⟨some 17,none,.mov (.t 5)⟩,⟨some 18,none,.bin false .add (.t 17) (.c (.int .i64 1))⟩,⟨some 5,none,.mov (.t 18)⟩])))
def sc_s_BorderComplex:SC:=(.seq (.reg [⟨some 2,none,.new [.int .i64 0,.nil]⟩,⟨some 3,none,.mov (.c (.bool false))⟩]) (.seq (.seq (.reg [⟨some 6,none,.mov (.t 0)⟩,⟨some 7,none,.call 39 [.t 6,(.c (.int .i64 1)),(.c (.int .i64 6))]⟩,⟨some 8,none,.un .not (.t 7)⟩]) (.cond (.t 8) (.seq (.reg [⟨some 9,none,.agg [.int .i64 0,.nil] []⟩,⟨none,none,.st 2 (.t 2) (.t 9)⟩,⟨some 3,none,.mov (.c (.bool false))⟩]) .ret) .skip)) (.seq (.reg [⟨some 10,none,.mks 0 1 [] []⟩,⟨some 4,none,.mov (.t 10)⟩]) (.seq (.seq (.reg [⟨some 5,none,.mov (.c (.int .i64 0))⟩]) (.block 0 (.loop sc_s_BorderComplex_L0))) (.seq (.reg [⟨some 23,none,.mov (.t 0)⟩,⟨some 24,none,.mov (.t 4)⟩,⟨some 25,none,.call 90 [.t 23,.t 24]⟩,⟨none,none,.st 2 (.t 2) (.t 25)⟩,⟨some 3,none,.mov (.c (.bool true))⟩]) .ret)))))
theorem code_s_BorderComplex:fnCode Tryz.prog [] 54=some (26,sc_s_BorderComplex,[(2,(some 2)),(3,none)]):=by kernel_rfl
theorem ints_snoc (l:List Int) (x:Int):ints l++[V.int .i64 x]=ints (l++[x]):=by rw [← ints_app]; rfl
@[simp] theorem curC_ren (r:Nat→Option Nat) (c:Cur):renL r (curC c)=some (curC c):=by
 simp only [curC,renL]
 simp [ren1]
 trace_state
def natsL (k:Nat):List Int:=(List.range k).map fun (i:Nat)=>(i:Int)
theorem natsL_len (k:Nat):(natsL k).length=k:=by simp [natsL]
theorem natsL_succ (k:Nat):natsL (k+1)=natsL k++[(k:Int)]:=by simp [natsL,List.range_succ]
theorem natsL_S {k:Nat} (h:k≤64):allS (natsL k):=fun x hx=>by
 obtain ⟨i,hi,rfl⟩:=List.mem_map.1 hx
 rw [List.mem_range] at hi
 exact ⟨by omega,by omega⟩
noncomputable def bcxL (n:Int):List Int:=setsOf (maxP fun s=>s∈natsL (2 ^ n.toNat-1))
noncomputable def F_s_BorderComplex:List V→Option V:=F1 dI fun n => @ite _ (1≤n∧n≤6) (Classical.propDecidable _) (some (.tup [.agg [.int .i64 n,.own 1 (ints (bcxL n))],.bool true])) none
theorem pow_small:∀ n:Nat,n≤6→(1:Int)≤2 ^ n∧(2:Int) ^ n≤64∧((2 ^ n:Nat):Int)=2 ^ n∧1≤2 ^ n∧2 ^ n≤64:=by decide
theorem fn_s_BorderComplex:FnOk Tryz.prog 54 F_s_BorderComplex:=by
 have env:=((envNil_ok (P:=Tryz.prog)).add fn_s_l1In).add fn_s_l3Make
 refine fn_ok code_s_BorderComplex mixed env ?_
 intro args r h hb
 obtain ⟨_,n,rfl,h1,h4⟩:=F1_inv h
 cases dI_inv h1
 simp only [Option.ite_none_right_eq_some,Option.some.injEq] at h4
 obtain ⟨⟨n1,n6⟩,rfl⟩:=h4
 clear h h1 hb
 refine ⟨by simp,fun w0 U0 L0 N0 => ?_⟩
 obtain ⟨m,rfl⟩:=Int.eq_ofNat_of_zero_le (show 0≤n by omega)
 obtain ⟨p1,p2,p3,p4,p5⟩:=pow_small m (by omega)
 have hB:F_s_l3Make [.int .i64 (m:Int),.list 1 (ints (natsL (2 ^ m-1)))]=some (.agg [.int .i64 (m:Int),.own 1 (ints (bcxL (m:Int)))]):=by
  simp only [F_s_l3Make,F2_mk,dI_int,dL_list,Option.bind_some]
  rw [if_pos (natsL_S (by omega))]
  simp only [bcxL,Int.toNat_natCast]
 generalize bcxL (m:Int)=R at *
 have hmin:min m IntKind.i64.bits=m:=by
  have:IntKind.i64.bits=64:=rfl
  omega
 have w1:IntKind.u64.wrap (m:Int)=(m:Int):=wrapU _ (by omega) (by omega)
 have w2:IntKind.i64.wrap ((2:Int) ^ m)=2 ^ m:=wrapI _ (by omega) (by omega)
 have w3:IntKind.i64.wrap ((2:Int) ^ m-1)=2 ^ m-1:=wrapI _ (by omega) (by omega)
 have m1:1≤m:=by omega
 have m6:m≤6:=by omega
 simp -implicitDefEqProofs [sc_s_BorderComplex,F_s_l1In,n1,n6,m1,m6]
 refine loopI env mixed (fun k:Nat=>[(0,.int .i64 (m:Int)),(2,.pt 0 0),(4,.sl 1 1 0 k),(5,.int .i64 (k:Int))]) (fun k=>([(1,ints (natsL k)),(0,[.int .i64 0,.nil])],2)) (fun k=>k≤2 ^ m-1) (fun k=>2 ^ m-1-k) 0 (by simp) (SubI.slots (by simp [natsL]) (by simp)) ?_
 intro k hk
 by_cases hlt:(k:Int)<2 ^ m-1
 ·have hk8:(k+1)*8≤140737488355328:=by omega
  simp -implicitDefEqProofs [sc_s_BorderComplex_L0,hmin,w1,w2,w3,hlt,natsL_len,hk8]
  repeat' (first | omega | apply And.intro)
  refine Again.of (k+1) (by omega) (by omega) (SubI.ren (fun m=>if m=0 then some 0 else if m=1 then some 3 else none) ?_ ?_ ?_ (by simp) (by simp))
  ·simp (disch:=omega) [renV,ren1,wrapI]
  ·have:ints (natsL (k+1))=ints (natsL k)++[V.int .i64 (k:Int)]:=by rw [natsL_succ,← ints_app]; rfl
   have h2:(ints (natsL k)).take k=ints (natsL k):=List.take_of_length_le (by simp [natsL_len])
   have h3:(natsL k).take k=natsL k:=List.take_of_length_le (by simp [natsL_len])
   simp [renL,ren1,this,h2,h3]
   rw [← this]
   simp
  ·intro n hn
   simp only at hn
   have h1:n≠0:=by omega
   have h2:n≠1:=by omega
   simp [h1,h2]
 ·have hkk:k=2 ^ m-1:=by omega
  have hB':F_s_l3Make [.int .i64 (m:Int),.list 1 (ints (natsL k))]=some (.agg [.int .i64 (m:Int),.own 1 (ints R)]):=by rw [hkk]; exact hB
  have h3:(natsL k).take k=natsL k:=List.take_of_length_le (by simp [natsL_len])
  simp -implicitDefEqProofs [sc_s_BorderComplex_L0,hmin,w1,w2,w3,hlt,natsL_len,h3,hB']
def sc_s_l3Size_L0:SC:=(.seq (.seq (.reg [⟨some 13,none,.mov (.t 7)⟩,⟨some 14,none,.mov (.t 6)⟩,⟨some 15,none,.bin false .lss (.t 13) (.t 14)⟩]) (.cond (.t 15) .skip (.exit 0))) (.seq (.block 1 (.seq (.reg [⟨some 18,none,.mov (.t 0)⟩,⟨some 19,none,.mov (.t 1)⟩,⟨some 20,none,.conv .u64 (.t 19)⟩,⟨some 21,none,.bin false .shl (.c (.int .i64 1)) (.t 20)⟩,⟨some 22,none,.call 27 [.t 18,.t 21]⟩,⟨some 8,none,.mov (.t 22)⟩]) (.seq (.seq (.reg [⟨some 23,none,.mov (.t 0)⟩,⟨some 24,none,.call 24 [.t 23,(.c (.int .i64 2))]⟩]) (.cond (.t 24) (.reg [⟨some 25,none,.mov (.t 8)⟩,⟨some 26,none,.mov (.t 0)⟩,⟨some 27,none,.mov (.t 1)⟩,⟨some 28,none,.conv .u64 (.t 27)⟩,⟨some 29,none,.bin false .shl (.c (.int .i64 1)) (.t 28)⟩,⟨some 30,none,.call 27 [.t 26,.t 29]⟩,⟨some 31,none,.bin false .and (.t 25) (.t 30)⟩,⟨some 8,none,.mov (.t 31)⟩]) .skip)) (.reg [⟨some 32,none,.mov (.t 5)⟩,⟨some 33,none,.mov (.t 8)⟩,⟨some 34,none,.mks 1 1 [.int .i64 0] [(0,(1,(.t 33)))]⟩,⟨some 35,none,.app 1 8 (.t 32) (.t 34)⟩,⟨some 5,none,.mov (.t 35)⟩])))) (.reg [⟨some 16,none,.mov (.t 7)⟩,⟨some 17,none,.bin false .add (.t 16) (.c (.int .i64 1))⟩,⟨some 7,none,.mov (.t 17)⟩])))
def sc_s_l3Size:SC:=(.seq (.reg [⟨some 4,none,.new [.int .i64 0,.nil]⟩]) (.seq (.reg [⟨some 9,none,.mks 0 1 [] []⟩,⟨some 5,none,.mov (.t 9)⟩]) (.seq (.reg [⟨some 10,none,.mov (.t 0)⟩,⟨some 11,none,.lit 1 [.int .i64 0,.int .i64 1,.int .i64 2,.int .i64 3,.int .i64 4,.int .i64 4,.int .i64 5,.int .i64 6]⟩,⟨some 12,none,.call 28 [.t 10,.t 11]⟩,⟨some 6,none,.mov (.t 12)⟩]) (.seq (.seq (.reg [⟨some 7,none,.mov (.c (.int .i64 0))⟩]) (.block 0 (.loop sc_s_l3Size_L0))) (.seq (.reg [⟨some 36,none,.mov (.t 1)⟩,⟨some 37,none,.mov (.t 5)⟩,⟨some 38,none,.call 90 [.t 36,.t 37]⟩,⟨none,none,.st 2 (.t 4) (.t 38)⟩]) .ret)))))
theorem code_s_l3Size:fnCode Tryz.prog [] 57=some (39,sc_s_l3Size,[(4,(some 2))]):=by kernel_rfl
noncomputable def szI (n:Int) (c:Cur):Nat→List Int×Cur
 | 0=>([],c)
 | k+1 =>
  let b:=belowN (szI n c k).2 (2 ^ n.toNat)
  let o:=onceN b.2 2
  let b2:=(belowN b.2 2).2
  if o=true then ((szI n c k).1++[band b.1 (belowN b2 (2 ^ n.toNat)).1],(belowN b2 (2 ^ n.toNat)).2) else ((szI n c k).1++[b.1],b2)
theorem band_S {a b:Int} (ha:isS a) (hb:isS b):isS (band a b):=by
 obtain ⟨x,hx,rfl⟩:=isS_nat0 ha
 obtain ⟨y,hy,rfl⟩:=isS_nat0 hb
 show isS (bitop .and .i64 (x:Int) (y:Int))
 rw [bits_and x y (by omega) (by omega)]
 have:x &&& y≤x:=Nat.and_le_left
 exact ⟨by omega,by omega⟩
theorem below_S (c:Cur) {n:Int} (h1:1≤n) (h6:n≤6):isS (belowN c (2 ^ n.toNat)).1:=by
 obtain ⟨p1,p2,_⟩:=pow_small n.toNat (by omega)
 have:=belowN_rng c (n:=2 ^ n.toNat) (by omega)
 exact ⟨this.1,by omega⟩
theorem szI_ok {n:Int} (h1:1≤n) (h6:n≤6) {c:Cur} (h:wfC c):∀ k,(szI n c k).1.length=k∧wfC (szI n c k).2∧allS (szI n c k).1
 | 0=>⟨rfl,h,by simp [szI,allS]⟩
 | k+1=>by
  obtain ⟨i1,i2,i3⟩:=szI_ok h1 h6 h k
  have s1:=below_S (szI n c k).2 h1 h6
  have w1:=belowN_wf i2 (2 ^ n.toNat)
  have w2:=belowN_wf w1 2
  have w3:=belowN_wf w2 (2 ^ n.toNat)
  have s2:=below_S (belowN (belowN (szI n c k).2 (2 ^ n.toNat)).2 2).2 h1 h6
  unfold szI
  simp only
  split
  ·refine ⟨by simp [i1],w3,fun x hx => ?_⟩
   rcases List.mem_append.1 hx with hx | hx
   ·exact i3 x hx
   ·rw [List.mem_singleton.1 hx]; exact band_S s1 s2
  ·refine ⟨by simp [i1],w2,fun x hx => ?_⟩
   rcases List.mem_append.1 hx with hx | hx
   ·exact i3 x hx
   ·rw [List.mem_singleton.1 hx]; exact s1
def cntLs:List Int:=[0,1,2,3,4,4,5,6]
noncomputable def sizeN (n:Int) (c:Cur):List Int×Cur :=
 let k:=(pickN c cntLs).toNat
 let s:=szI n (belowN c 8).2 k
 (setsOf (maxP fun x=>x∈s.1),s.2)
noncomputable def G_s_l3Size:List V→List V→Option (V×List V)
 | [.pt 0 0,.int .i64 n],cells => @ite _ (1≤n∧n≤6) (Classical.propDecidable _) (onCur (fun c=>some (.agg [.int .i64 n,.own 1 (ints (sizeN n c).1)],(sizeN n c).2)) cells) none
 | _,_=>none
theorem G_size {c:Cur} (h:wfC c) {n:Int} (h1:1≤n) (h6:n≤6):G_s_l3Size [.pt 0 0,.int .i64 n] (curC c)=some (.agg [.int .i64 n,.own 1 (ints (sizeN n c).1)],curC (sizeN n c).2):=by
 simp only [G_s_l3Size]
 rw [if_pos ⟨h1,h6⟩,onCur_at h]
 rfl
theorem cntLs_rng (c:Cur):0≤pickN c cntLs∧pickN c cntLs≤6:=by
 have hr:=belowN_rng c (n:=(cntLs.length:Int)) (by decide)
 have:∀ k:Nat,k<8→0≤at0 cntLs k∧at0 cntLs k≤6:=by decide
 exact this _ (by have:(cntLs.length:Int)=8:=rfl; omega)
theorem ln_s_l3Size:LendOk Tryz.prog 57 0 G_s_l3Size:=by
 have env:=((((envNil_ok (P:=Tryz.prog)).add fn_s_l3Make).addl ln_s_l1Below).addl ln_s_l1Once).addl ln_s_l1PickInt
 refine fn_lend code_s_l3Size mixed env ?_
 intro args cells r cells' hG hb
 unfold G_s_l3Size at hG
 split at hG
 case h_2=>simp at hG
 rename_i n
 simp only [Option.ite_none_right_eq_some] at hG
 obtain ⟨⟨n1,n6⟩,hG⟩:=hG
 obtain ⟨c,d,hw,rfl,hc,rfl⟩:=onCur_inv hG
 clear hG hb
 simp only [Option.some.injEq,Prod.mk.injEq] at hc
 obtain ⟨rfl,rfl⟩:=hc
 obtain ⟨m,rfl⟩:=Int.eq_ofNat_of_zero_le (show 0≤n by omega)
 obtain ⟨p1,p2,p3,p4,p5⟩:=pow_small m (by omega)
 refine ⟨by simp,fun w0 U0 L0 N0 => ?_⟩
 have hmin:min m IntKind.i64.bits=m:=by
  have:IntKind.i64.bits=64:=rfl
  omega
 have w1:IntKind.u64.wrap (m:Int)=(m:Int):=wrapU _ (by omega) (by omega)
 have w2:IntKind.i64.wrap ((2:Int) ^ m)=2 ^ m:=wrapI _ (by omega) (by omega)
 have hp:=G_pickI hw (l:=cntLs) ⟨by simp [cntLs],by simp [cntLs]⟩
 have hlit:ints cntLs=[(.int .i64 0),(.int .i64 1),(.int .i64 2),(.int .i64 3),(.int .i64 4),(.int .i64 4),(.int .i64 5),(.int .i64 6)]:=rfl
 rw [hlit] at hp
 have hcr:=cntLs_rng c
 have hl8:(cntLs.length:Int)=8:=rfl
 rw [hl8] at hp
 have hw1:=belowN_wf hw 8
 have eR:sizeN (m:Int) c=(setsOf (maxP fun x=>x∈(szI (m:Int) (belowN c 8).2 (pickN c cntLs).toNat).1),(szI (m:Int) (belowN c 8).2 (pickN c cntLs).toNat).2):=rfl
 rw [eR]
 generalize (belowN c 8).2=c1 at *
 obtain ⟨K,hK⟩:=Int.eq_ofNat_of_zero_le hcr.1
 rw [hK] at hp ⊢
 rw [Int.toNat_natCast]
 have hok:=szI_ok n1 n6 hw1
 have hM:F_s_l3Make [.int .i64 (m:Int),.list 1 (ints (szI (m:Int) c1 K).1)]=some (.agg [.int .i64 (m:Int),.own 1 (ints (setsOf (maxP fun x=>x∈(szI (m:Int) c1 K).1)))]):=by
  simp only [F_s_l3Make,F2_mk,dI_int,dL_list,Option.bind_some]
  rw [if_pos (hok K).2.2]
 generalize setsOf (maxP fun x=>x∈(szI (m:Int) c1 K).1)=R at *
 have hst:∀ k,szI (m:Int) c1 (k+1)=if onceN (belowN (szI (m:Int) c1 k).2 (2 ^ m)).2 2=true then ((szI (m:Int) c1 k).1++[band (belowN (szI (m:Int) c1 k).2 (2 ^ m)).1 (belowN (belowN (belowN (szI (m:Int) c1 k).2 (2 ^ m)).2 2).2 (2 ^ m)).1],(belowN (belowN (belowN (szI (m:Int) c1 k).2 (2 ^ m)).2 2).2 (2 ^ m)).2) else ((szI (m:Int) c1 k).1++[(belowN (szI (m:Int) c1 k).2 (2 ^ m)).1],(belowN (belowN (szI (m:Int) c1 k).2 (2 ^ m)).2 2).2):=fun k=>rfl
 have h00:szI (m:Int) c1 0=([],c1):=rfl
 generalize szI (m:Int) c1=f at *
 simp -implicitDefEqProofs [sc_s_l3Size,ren0,hp]
 refine loopI env mixed (fun k:Nat=>[(0,.pt 0 0),(1,.int .i64 (m:Int)),(4,.pt 1 0),(5,.sl 2 1 0 k),(6,.int .i64 (K:Int)),(7,.int .i64 (k:Int))]) (fun k=>([(2,ints (f k).1),(1,[.int .i64 0,.nil]),(0,curC (f k).2)],3)) (fun k=>k≤K) (fun k=>K-k) 0 (by simp) ?_ ?_
 ·exact SubI.slots (by simp [h00]) (by simp)
 intro k hk
 obtain ⟨l1,l2,l3⟩:=hok k
 by_cases hlt:k<K
 ·have g1:=G_below l2 (2 ^ m)
  have v1:=belowN_wf l2 (2 ^ m)
  have g2:=G_once v1 2
  have v2:=belowN_wf v1 2
  have g3:=G_below v2 (2 ^ m)
  have e:=hst k
  have hk8:(k+1)*8≤140737488355328:=by omega
  have hwk:IntKind.i64.wrap ((k:Int)+1)=(k:Int)+1:=wrapI _ (by omega) (by omega)
  have h3:(f k).1.take k=(f k).1:=List.take_of_length_le (by omega)
  by_cases ho:onceN (belowN (f k).2 (2 ^ m)).2 2=true
  ·rw [if_pos ho] at e
   rw [ho] at g2
   simp -implicitDefEqProofs [sc_s_l3Size_L0,ren0,hmin,w1,w2,hlt,g1,g2,g3,l1,hk8,hwk,h3]
   refine Again.of (k+1) (by omega) (by omega) (SubI.ren (fun m=>if m=0 then some 0 else if m=1 then some 1 else if m=2 then some 4 else none) ?_ ?_ ?_ (by simp) (by simp))
   ·simp [renV,ren1]
   ·simp [renL,ren1,e,ints_snoc]
   ·intro n hn
    simp only at hn
    have h1:n≠0:=by omega
    have h2:n≠1:=by omega
    have h3:n≠2:=by omega
    simp [h1,h2,h3]
  ·rw [if_neg ho] at e
   have ho':onceN (belowN (f k).2 (2 ^ m)).2 2=false:=by simpa using ho
   rw [ho'] at g2
   simp -implicitDefEqProofs [sc_s_l3Size_L0,ren0,hmin,w1,w2,hlt,g1,g2,l1,hk8,hwk,h3]
   refine Again.of (k+1) (by omega) (by omega) (SubI.ren (fun m=>if m=0 then some 0 else if m=1 then some 1 else if m=2 then some 4 else none) ?_ ?_ ?_ (by simp) (by simp))
   ·simp [renV,ren1]
   ·simp [renL,ren1,e,ints_snoc]
   ·intro n hn
    simp only at hn
    have h1:n≠0:=by omega
    have h2:n≠1:=by omega
    have h3:n≠2:=by omega
    simp [h1,h2,h3]
 ·have hkk:k=K:=by omega
  subst hkk
  have h3:(f k).1.take k=(f k).1:=List.take_of_length_le (by omega)
  simp -implicitDefEqProofs [sc_s_l3Size_L0,ren0,l1,h3,hM]
def sc_s_l3Pure_L2:SC:=(.seq (.seq (.reg [⟨some 35,none,.mov (.t 10)⟩,⟨some 36,none,.mov (.t 9)⟩,⟨some 37,none,.bin false .lss (.t 35) (.t 36)⟩]) (.cond (.t 37) .skip (.exit 2))) (.seq (.block 3 (.reg [⟨some 40,none,.mov (.t 8)⟩,⟨some 41,none,.mov (.t 6)⟩,⟨some 42,none,.mov (.t 0)⟩,⟨some 43,none,.mov (.t 6)⟩,⟨some 44,none,.len (.t 43)⟩,⟨some 45,none,.call 27 [.t 42,.t 44]⟩,⟨some 46,none,.idx 1 (.t 41) (.t 45)⟩,⟨some 47,none,.ld none (.int .i64 0) (.t 46)⟩,⟨some 48,none,.mks 1 1 [.int .i64 0] [(0,(1,(.t 47)))]⟩,⟨some 49,none,.app 1 8 (.t 40) (.t 48)⟩,⟨some 8,none,.mov (.t 49)⟩])) (.reg [⟨some 38,none,.mov (.t 10)⟩,⟨some 39,none,.bin false .add (.t 38) (.c (.int .i64 1))⟩,⟨some 10,none,.mov (.t 39)⟩])))
def sc_s_l3Pure_L0:SC:=(.seq (.seq (.reg [⟨some 16,none,.mov (.t 7)⟩,⟨some 17,none,.mov (.t 1)⟩,⟨some 18,none,.conv .u64 (.t 17)⟩,⟨some 19,none,.bin false .shl (.c (.int .i64 1)) (.t 18)⟩,⟨some 20,none,.bin false .lss (.t 16) (.t 19)⟩]) (.cond (.t 20) .skip (.exit 0))) (.seq (.block 1 (.seq (.reg [⟨some 23,none,.mov (.t 7)⟩,⟨some 24,none,.call 81 [.t 23]⟩,⟨some 25,none,.mov (.t 5)⟩,⟨some 26,none,.bin false .eql (.t 24) (.t 25)⟩]) (.cond (.t 26) (.reg [⟨some 27,none,.mov (.t 6)⟩,⟨some 28,none,.mov (.t 7)⟩,⟨some 29,none,.mks 1 1 [.int .i64 0] [(0,(1,(.t 28)))]⟩,⟨some 30,none,.app 1 8 (.t 27) (.t 29)⟩,⟨some 6,none,.mov (.t 30)⟩]) .skip))) (.reg [⟨some 21,none,.mov (.t 7)⟩,⟨some 22,none,.bin false .add (.t 21) (.c (.int .i64 1))⟩,⟨some 7,none,.mov (.t 22)⟩])))
def sc_s_l3Pure:SC:=(.seq (.reg [⟨some 4,none,.new [.int .i64 0,.nil]⟩]) (.seq (.reg [⟨some 11,none,.mov (.t 0)⟩,⟨some 12,none,.mov (.t 1)⟩,⟨some 13,none,.call 27 [.t 11,.t 12]⟩,⟨some 14,none,.bin false .add (.c (.int .i64 1)) (.t 13)⟩,⟨some 5,none,.mov (.t 14)⟩]) (.seq (.reg [⟨some 15,none,.mks 0 1 [] []⟩,⟨some 6,none,.mov (.t 15)⟩]) (.seq (.seq (.reg [⟨some 7,none,.mov (.c (.int .i64 0))⟩]) (.block 0 (.loop sc_s_l3Pure_L0))) (.seq (.reg [⟨some 31,none,.mks 0 1 [] []⟩,⟨some 8,none,.mov (.t 31)⟩]) (.seq (.reg [⟨some 32,none,.mov (.t 0)⟩,⟨some 33,none,.call 27 [.t 32,(.c (.int .i64 7))]⟩,⟨some 34,none,.bin false .add (.c (.int .i64 1)) (.t 33)⟩,⟨some 9,none,.mov (.t 34)⟩]) (.seq (.seq (.reg [⟨some 10,none,.mov (.c (.int .i64 0))⟩]) (.block 2 (.loop sc_s_l3Pure_L2))) (.seq (.reg [⟨some 50,none,.mov (.t 1)⟩,⟨some 51,none,.mov (.t 8)⟩,⟨some 52,none,.call 90 [.t 50,.t 51]⟩,⟨none,none,.st 2 (.t 4) (.t 52)⟩]) .ret))))))))
theorem code_s_l3Pure:fnCode Tryz.prog [] 56=some (53,sc_s_l3Pure,[(4,(some 2))]):=by kernel_rfl
noncomputable def allP (z:Int) (k:Nat):List Int:=upS (fun s=>sz s=z) k
noncomputable def puI (A:List Int) (c:Cur):Nat→List Int×Cur
 | 0=>([],c)
 | k+1=>((puI A c k).1++[at0 A (belowN (puI A c k).2 A.length).1.toNat],(belowN (puI A c k).2 A.length).2)
theorem puI_ok {A:List Int} (hA:allS A) (h0:0<A.length) {c:Cur} (h:wfC c):∀ k,(puI A c k).1.length=k∧wfC (puI A c k).2∧allS (puI A c k).1
 | 0=>⟨rfl,h,by simp [puI,allS]⟩
 | k+1=>by
  obtain ⟨i1,i2,i3⟩:=puI_ok hA h0 h k
  have hr:=belowN_rng (puI A c k).2 (n:=A.length) (by omega)
  refine ⟨by simp [puI,i1],belowN_wf i2 _,fun x hx => ?_⟩
  rcases List.mem_append.1 hx with hx | hx
  ·exact i3 x hx
  ·rw [List.mem_singleton.1 hx]
   exact allS_at hA (by omega)
noncomputable def pureN (n:Int) (c:Cur):List Int×Cur :=
 let A:=allP (1+(belowN c n).1) (2 ^ n.toNat)
 let c1:=(belowN c n).2
 let s:=puI A (belowN c1 7).2 (1+(belowN c1 7).1).toNat
 (setsOf (maxP fun x=>x∈s.1),s.2)
theorem allP_pos:∀ n:Nat,n<7→∀ z:Nat,z<n→0<2 ^ (z+1)∧2 ^ (z+1)-1<2 ^ n∧pcF 6 (2 ^ (z+1)-1)=1+z:=by decide +kernel
theorem allP_ok {m:Nat} (h1:1≤m) (h6:m≤6) {z:Int} (hz:0≤z∧z<m):allS (allP (1+z) (2 ^ m))∧0<(allP (1+z) (2 ^ m)).length:=by
 obtain ⟨p1,p2,p3,p4,p5⟩:=pow_small m (by omega)
 constructor
 ·intro x hx
  obtain ⟨a,b,_⟩:=mem_upS.1 hx
  exact ⟨a,by omega⟩
 ·obtain ⟨y,rfl⟩:=Int.eq_ofNat_of_zero_le hz.1
  obtain ⟨q1,q2,q3⟩:=allP_pos m (by omega) y (by omega)
  refine List.length_pos_of_mem (a:=((2 ^ (y+1)-1:Nat):Int)) ?_
  refine mem_upS.2 ⟨by omega,by omega,?_⟩
  rw [sz,Int.toNat_natCast,pc6 _ (by omega),q3]
  omega
noncomputable def G_s_l3Pure:List V→List V→Option (V×List V)
 | [.pt 0 0,.int .i64 n],cells => @ite _ (1≤n∧n≤6) (Classical.propDecidable _) (onCur (fun c=>some (.agg [.int .i64 n,.own 1 (ints (pureN n c).1)],(pureN n c).2)) cells) none
 | _,_=>none
theorem G_pure {c:Cur} (h:wfC c) {n:Int} (h1:1≤n) (h6:n≤6):G_s_l3Pure [.pt 0 0,.int .i64 n] (curC c)=some (.agg [.int .i64 n,.own 1 (ints (pureN n c).1)],curC (pureN n c).2):=by
 simp only [G_s_l3Pure]
 rw [if_pos ⟨h1,h6⟩,onCur_at h]
 rfl
theorem ln_s_l3Pure:LendOk Tryz.prog 56 0 G_s_l3Pure:=by
 have env:=(((envNil_ok (P:=Tryz.prog)).add fn_s_l3Make).add fn_s_l2Size).addl ln_s_l1Below
 refine fn_lend code_s_l3Pure mixed env ?_
 intro args cells r cells' hG hb
 unfold G_s_l3Pure at hG
 split at hG
 case h_2=>simp at hG
 rename_i n
 simp only [Option.ite_none_right_eq_some] at hG
 obtain ⟨⟨n1,n6⟩,hG⟩:=hG
 obtain ⟨c,d,hw,rfl,hc,rfl⟩:=onCur_inv hG
 clear hG hb
 simp only [Option.some.injEq,Prod.mk.injEq] at hc
 obtain ⟨rfl,rfl⟩:=hc
 obtain ⟨m,rfl⟩:=Int.eq_ofNat_of_zero_le (show 0≤n by omega)
 obtain ⟨p1,p2,p3,p4,p5⟩:=pow_small m (by omega)
 refine ⟨by simp,fun w0 U0 L0 N0 => ?_⟩
 have hmin:min m IntKind.i64.bits=m:=by
  have:IntKind.i64.bits=64:=rfl
  omega
 have w1:IntKind.u64.wrap (m:Int)=(m:Int):=wrapU _ (by omega) (by omega)
 have w2:IntKind.i64.wrap ((2:Int) ^ m)=2 ^ m:=wrapI _ (by omega) (by omega)
 have g1:=G_below hw (m:Int)
 have v1:=belowN_wf hw (m:Int)
 have r1:=belowN_rng c (n:=(m:Int)) (by omega)
 have g2:=G_below v1 7
 have v2:=belowN_wf v1 7
 have r2:=belowN_rng (belowN c (m:Int)).2 (n:=7) (by omega)
 obtain ⟨hA,hA0⟩:=allP_ok (m:=m) (by omega) (by omega) r1
 have eR:pureN (m:Int) c=(setsOf (maxP fun x=>x∈(puI (allP (1+(belowN c (m:Int)).1) (2 ^ m)) (belowN (belowN c (m:Int)).2 7).2 (1+(belowN (belowN c (m:Int)).2 7).1).toNat).1),(puI (allP (1+(belowN c (m:Int)).1) (2 ^ m)) (belowN (belowN c (m:Int)).2 7).2 (1+(belowN (belowN c (m:Int)).2 7).1).toNat).2):=rfl
 rw [eR]
 clear eR
 generalize belowN c (m:Int)=b1 at *
 generalize belowN b1.2 7=b2 at *
 have w3:IntKind.i64.wrap (1+b1.1)=1+b1.1:=wrapI _ (by omega) (by omega)
 have w4:IntKind.i64.wrap (1+b2.1)=1+b2.1:=wrapI _ (by omega) (by omega)
 obtain ⟨K,hK⟩:=Int.eq_ofNat_of_zero_le (show 0≤1+b2.1 by omega)
 rw [hK] at w4 ⊢
 rw [Int.toNat_natCast]
 generalize hz:1+b1.1=z at *
 have hlenA:(allP z (2 ^ m)).length≤2 ^ m:=upS_len _ _
 have hok:=puI_ok hA hA0 v2
 have hM:F_s_l3Make [.int .i64 (m:Int),.list 1 (ints (puI (allP z (2 ^ m)) b2.2 K).1)]=some (.agg [.int .i64 (m:Int),.own 1 (ints (setsOf (maxP fun x=>x∈(puI (allP z (2 ^ m)) b2.2 K).1)))]):=by
  simp only [F_s_l3Make,F2_mk,dI_int,dL_list,Option.bind_some]
  rw [if_pos (hok K).2.2]
 generalize setsOf (maxP fun x=>x∈(puI (allP z (2 ^ m)) b2.2 K).1)=R at *
 have hst:∀ k,puI (allP z (2 ^ m)) b2.2 (k+1)=((puI (allP z (2 ^ m)) b2.2 k).1++[at0 (allP z (2 ^ m)) (belowN (puI (allP z (2 ^ m)) b2.2 k).2 (allP z (2 ^ m)).length).1.toNat],(belowN (puI (allP z (2 ^ m)) b2.2 k).2 (allP z (2 ^ m)).length).2):=fun k=>rfl
 have h00:puI (allP z (2 ^ m)) b2.2 0=([],b2.2):=rfl
 generalize puI (allP z (2 ^ m)) b2.2=f at *
 have hs0:allP z 0=[]:=rfl
 have hsp:∀ k:Nat,sz (k:Int)=z→allP z (k+1)=allP z k++[(k:Int)]:=fun k h=>upS_pos h
 have hsn:∀ k:Nat,¬sz (k:Int)=z→allP z (k+1)=allP z k:=fun k h=>upS_neg h
 have hsl:∀ k,(allP z k).length≤k:=fun k=>upS_len _ _
 have hszI:∀ k:Nat,k<64→F_s_l2Size [.int .i64 (k:Int)]=some (.int .i64 (sz (k:Int))):=fun k hk=>by
  simp [F_s_l2Size]
  try omega
 generalize allP z=g at *
 simp -implicitDefEqProofs [sc_s_l3Pure,ren0,g1,hz,w3]
 refine loopI env mixed (fun k:Nat=>[(0,.pt 0 0),(1,.int .i64 (m:Int)),(4,.pt 1 0),(5,.int .i64 z),(6,.sl 2 1 0 (g k).length),(7,.int .i64 (k:Int))]) (fun k=>([(2,ints (g k)),(1,[.int .i64 0,.nil]),(0,curC b1.2)],3)) (fun k=>k≤2 ^ m) (fun k=>2 ^ m-k) 0 (by simp) ?_ ?_
 ·exact SubI.slots (by simp [hs0]) (by simp [hs0])
 intro k hk
 have hwk:IntKind.i64.wrap ((k:Int)+1)=(k:Int)+1:=wrapI _ (by omega) (by omega)
 have hkl:=hsl k
 by_cases hlt:(k:Int)<2 ^ m
 ·have hk64:k<64:=by omega
  have hF:=hszI k hk64
  have hk8:((g k).length+1)*8≤140737488355328:=by omega
  by_cases hz2:sz (k:Int)=z
  ·have e:=hsp k hz2
   rw [hz2] at hF
   simp -implicitDefEqProofs [sc_s_l3Pure_L0,hmin,w1,w2,hlt,hF,hk8,hwk]
   refine Again.of (k+1) (by omega) (by omega) (SubI.ren (fun m=>if m=0 then some 0 else if m=1 then some 1 else if m=2 then some 4 else none) ?_ ?_ ?_ (by simp) (by simp))
   ·simp [renV,ren1,e]
   ·simp [renL,ren1,e,ints_snoc]
   ·intro n hn
    simp only at hn
    have h1:n≠0:=by omega
    have h2:n≠1:=by omega
    have h3:n≠2:=by omega
    simp [h1,h2,h3]
  ·have e:=hsn k hz2
   simp -implicitDefEqProofs [sc_s_l3Pure_L0,hmin,w1,w2,hlt,hF,hz2,hwk]
   exact Again.of (k+1) (by omega) (by omega) (SubI.slots (by simp [e]) (by simp [e]))
 ·have hkk:k=2 ^ m:=by omega
  subst hkk
  simp -implicitDefEqProofs [sc_s_l3Pure_L0,ren0,hmin,w1,w2,g2,hK,w4]
  refine loopI env mixed (fun k:Nat=>[(0,.pt 0 0),(1,.int .i64 (m:Int)),(4,.pt 1 0),(6,.sl 2 1 0 (g (2 ^ m)).length),(8,.sl 3 1 0 k),(9,.int .i64 (K:Int)),(10,.int .i64 (k:Int))]) (fun k=>([(3,ints (f k).1),(2,ints (g (2 ^ m))),(1,[.int .i64 0,.nil]),(0,curC (f k).2)],4)) (fun k=>k≤K) (fun k=>K-k) 0 (by simp) ?_ ?_
  ·exact SubI.slots (by simp [h00]) (by simp)
  generalize g (2 ^ m)=A at *
  intro k hk
  obtain ⟨l1,l2,l3⟩:=hok k
  by_cases hlt:k<K
  ·have q1:=G_below l2 (A.length:Int)
   obtain ⟨q2,q3⟩:=belowN_rng (f k).2 (n:=(A.length:Int)) (by omega)
   have e:=hst k
   have hk8:(k+1)*8≤140737488355328:=by omega
   have hwk:IntKind.i64.wrap ((k:Int)+1)=(k:Int)+1:=wrapI _ (by omega) (by omega)
   have h3:(f k).1.take k=(f k).1:=List.take_of_length_le (by omega)
   have q4:0<A.length-(belowN (f k).2 (A.length:Int)).1.toNat:=by omega
   have q5:(belowN (f k).2 (A.length:Int)).1.toNat<A.length:=by omega
   simp -implicitDefEqProofs [sc_s_l3Pure_L2,ren0,hlt,q1,q2,q3,q5,l1,hk8,hwk,h3]
   refine Again.of (k+1) (by omega) (by omega) (SubI.ren (fun m=>if m=0 then some 0 else if m=1 then some 1 else if m=2 then some 2 else if m=3 then some 5 else none) ?_ ?_ ?_ (by simp) (by simp))
   ·simp [renV,ren1]
   ·simp [renL,ren1,e,ints_snoc]
   ·intro n hn
    simp only at hn
    have h1:n≠0:=by omega
    have h2:n≠1:=by omega
    have h3:n≠2:=by omega
    have h4:n≠3:=by omega
    simp [h1,h2,h3,h4]
  ·have hkk:k=K:=by omega
   subst hkk
   have h3:(f k).1.take k=(f k).1:=List.take_of_length_le (by omega)
   simp -implicitDefEqProofs [sc_s_l3Pure_L2,ren0,l1,h3,hM]
def sc_s_l3Draw:SC:=(.seq (.reg [⟨some 2,none,.new [.int .i64 0,.nil]⟩]) (.seq (.reg [⟨some 8,none,.mov (.t 0)⟩,⟨some 9,none,.lit 1 [.int .i64 1,.int .i64 2,.int .i64 3,.int .i64 4,.int .i64 4,.int .i64 5,.int .i64 5,.int .i64 6]⟩,⟨some 10,none,.call 28 [.t 8,.t 9]⟩,⟨some 3,none,.mov (.t 10)⟩]) (.seq (.seq (.reg [⟨some 11,none,.mov (.t 0)⟩,⟨some 12,none,.call 27 [.t 11,(.c (.int .i64 8))]⟩]) (.block 0 (.seq (.reg [⟨some 14,none,.bin false .eql (.t 12) (.c (.int .i64 0))⟩,⟨some 13,none,.mov (.t 14)⟩]) (.cond (.t 13) (.seq (.reg [⟨some 16,none,.mov (.t 3)⟩,⟨some 17,none,.call 54 [.t 16]⟩,⟨some 15,none,.mov (.t 17)⟩,⟨some 18,none,.ext 0 (.t 15)⟩,⟨some 19,none,.ext 1 (.t 15)⟩,⟨some 4,none,.new [.int .i64 0,.nil]⟩,⟨none,none,.st 2 (.t 4) (.t 18)⟩,⟨some 5,none,.mov (.t 19)⟩]) (.seq (.reg [⟨some 20,none,.ld (some 2) .undef (.t 4)⟩,⟨none,none,.st 2 (.t 2) (.t 20)⟩]) .ret)) (.seq (.reg [⟨some 22,none,.bin false .eql (.t 12) (.c (.int .i64 1))⟩,⟨some 21,none,.mov (.t 22)⟩]) (.cond (.t 21) (.seq (.reg [⟨some 24,none,.mov (.t 0)⟩,⟨some 25,none,(.lit 1 [(.str ⟨⟨[54,58,97,98,99,44,97,99,100,44,97,98,101,44,97,100,101,44,98,99,102,44,99,100,102,44,98,101,102,44,100,101,102]⟩⟩),(.str ⟨⟨[54,58,97,99,100,44,98,99,100,44,97,98,101,44,97,99,101,44,98,100,101,44,97,98,102,44,98,99,102,44,97,100,102,44,99,101,102,44,100,101,102]⟩⟩),(.str ⟨⟨[54,58,97,98,100,44,97,98,101,44,97,99,101,44,98,99,101,44,99,100,101,44,97,99,102,44,98,99,102,44,97,100,102,44,98,100,102]⟩⟩),(.str ⟨⟨[53,58,97,98,44,98,99,44,99,100,44,97,101,44,100,101]⟩⟩),(.str ⟨⟨[52,58,97,98,44,98,99,44,99,100]⟩⟩),(.str ⟨⟨[54,58,97,98,44,99,100,44,101,102]⟩⟩),(.str ⟨⟨[53,58,97,98,99,44,99,100,101]⟩⟩),(.str ⟨⟨[52,58,97,98,99,44,97,98,100]⟩⟩)])⟩,⟨some 26,none,.call 55 [.t 24,.t 25]⟩,⟨some 27,none,.call 37 [.t 26]⟩,⟨some 23,none,.mov (.t 27)⟩,⟨some 28,none,.ext 0 (.t 23)⟩,⟨some 29,none,.ext 1 (.t 23)⟩,⟨some 6,none,.new [.int .i64 0,.nil]⟩,⟨none,none,.st 2 (.t 6) (.t 28)⟩,⟨some 7,none,.mov (.t 29)⟩]) (.seq (.reg [⟨some 30,none,.ld (some 2) .undef (.t 6)⟩,⟨none,none,.st 2 (.t 2) (.t 30)⟩]) .ret)) (.seq (.seq (.reg [⟨some 32,none,.bin false .eql (.t 12) (.c (.int .i64 2))⟩,⟨some 31,none,.mov (.t 32)⟩]) (.cond (.t 31) .skip (.reg [⟨some 33,none,.bin false .eql (.t 12) (.c (.int .i64 3))⟩,⟨some 31,none,.mov (.t 33)⟩]))) (.cond (.t 31) (.seq (.reg [⟨some 34,none,.mov (.t 0)⟩,⟨some 35,none,.mov (.t 3)⟩,⟨some 36,none,.call 56 [.t 34,.t 35]⟩,⟨none,none,.st 2 (.t 2) (.t 36)⟩]) .ret) .skip)))))))) (.seq (.reg [⟨some 37,none,.mov (.t 0)⟩,⟨some 38,none,.mov (.t 3)⟩,⟨some 39,none,.call 57 [.t 37,.t 38]⟩,⟨none,none,.st 2 (.t 2) (.t 39)⟩]) .ret))))
theorem code_s_l3Draw:fnCode Tryz.prog [] 26=some (40,sc_s_l3Draw,[(2,(some 2))]):=by kernel_rfl
@[simp] theorem ints_ren0 (n j:Nat) (l:List Int):(ints l).map (ren0 n (j+1))=ints l:=by simp [ints,ren0]
def txtL:List ByteArray:=[⟨⟨[54,58,97,98,99,44,97,99,100,44,97,98,101,44,97,100,101,44,98,99,102,44,99,100,102,44,98,101,102,44,100,101,102]⟩⟩,⟨⟨[54,58,97,99,100,44,98,99,100,44,97,98,101,44,97,99,101,44,98,100,101,44,97,98,102,44,98,99,102,44,97,100,102,44,99,101,102,44,100,101,102]⟩⟩,⟨⟨[54,58,97,98,100,44,97,98,101,44,97,99,101,44,98,99,101,44,99,100,101,44,97,99,102,44,98,99,102,44,97,100,102,44,98,100,102]⟩⟩,⟨⟨[53,58,97,98,44,98,99,44,99,100,44,97,101,44,100,101]⟩⟩,⟨⟨[52,58,97,98,44,98,99,44,99,100]⟩⟩,⟨⟨[54,58,97,98,44,99,100,44,101,102]⟩⟩,⟨⟨[53,58,97,98,99,44,99,100,101]⟩⟩,⟨⟨[52,58,97,98,99,44,97,98,100]⟩⟩]
def cplxD (n:Int) (l:List Int):Bool:=decide (1≤n∧n≤6) && (List.range l.length).all fun k=>isSet n (at0 l k) && (k == 0 || before (at0 l (k-1)) (at0 l k)) && (List.range k).all fun i => !(decide (bitop .and .i64 (at0 l i) (at0 l k)=at0 l i))
theorem cplxD_ok {n:Int} {l:List Int} (h:cplxD n l=true):cplx n l:=by
 simp only [cplxD,Bool.and_eq_true,decide_eq_true_eq,List.all_eq_true,List.mem_range,Bool.or_eq_true,beq_iff_eq,Bool.not_eq_true',decide_eq_false_iff_not] at h
 obtain ⟨⟨h1,h2⟩,h3⟩:=h
 refine ⟨h1,h2,fun k hk => ?_⟩
 obtain ⟨⟨a,b⟩,c⟩:=h3 k hk
 exact ⟨a,fun h0=>by rcases b with b | b; omega; exact b,c⟩
def pcCk (s:ByteArray) (m:Nat) (s2:ByteArray) (l:List Int):Bool:=decide (splitB s 58=[digS m,s2]) && decide (s.size≤1000∧1≤m∧m≤9∧s2.size≤1000) && !(s2.toList == []) && decide (0<l.length∧l.length≤64) && decide ((splitB s2 44).length=l.length) &&
 ((List.range l.length).all fun k=>psOk (atS (splitB s2 44) k) && decide (psV (atS (splitB s2 44) k) (atS (splitB s2 44) k).size=at0 l k)) && cplxD m l
theorem pcCk_ok {s:ByteArray} {m:Nat} {s2:ByteArray} {l:List Int} (h:pcCk s m s2 l=true):∃ x:Int×List Int,pcP s x.1 x.2:=by
 simp only [pcCk,Bool.and_eq_true,decide_eq_true_eq,List.all_eq_true,List.mem_range,Bool.not_eq_true'] at h
 obtain ⟨⟨⟨⟨⟨⟨h1,h2⟩,h3⟩,h4⟩,h5⟩,h6⟩,h7⟩:=h
 exact ⟨((m:Int),l),digS m,s2,h1,h2.1,⟨m,h2.2.1,h2.2.2.1,rfl,rfl⟩,h2.2.2.2,h3,h4.1,h4.2,h5,h6,cplxD_ok h7⟩
theorem txt_ok:∀ k,k<8→∃ x:Int×List Int,pcP (atS txtL k) x.1 x.2
 | 0,_=>pcCk_ok (m:=6) (s2:=⟨⟨[97,98,99,44,97,99,100,44,97,98,101,44,97,100,101,44,98,99,102,44,99,100,102,44,98,101,102,44,100,101,102]⟩⟩) (l:=[7,13,19,25,38,44,50,56]) (by decide +kernel)
 | 1,_=>pcCk_ok (m:=6) (s2:=⟨⟨[97,99,100,44,98,99,100,44,97,98,101,44,97,99,101,44,98,100,101,44,97,98,102,44,98,99,102,44,97,100,102,44,99,101,102,44,100,101,102]⟩⟩) (l:=[13,14,19,21,26,35,38,41,52,56]) (by decide +kernel)
 | 2,_=>pcCk_ok (m:=6) (s2:=⟨⟨[97,98,100,44,97,98,101,44,97,99,101,44,98,99,101,44,99,100,101,44,97,99,102,44,98,99,102,44,97,100,102,44,98,100,102]⟩⟩) (l:=[11,19,21,22,28,37,38,41,42]) (by decide +kernel)
 | 3,_=>pcCk_ok (m:=5) (s2:=⟨⟨[97,98,44,98,99,44,99,100,44,97,101,44,100,101]⟩⟩) (l:=[3,6,12,17,24]) (by decide +kernel)
 | 4,_=>pcCk_ok (m:=4) (s2:=⟨⟨[97,98,44,98,99,44,99,100]⟩⟩) (l:=[3,6,12]) (by decide +kernel)
 | 5,_=>pcCk_ok (m:=6) (s2:=⟨⟨[97,98,44,99,100,44,101,102]⟩⟩) (l:=[3,12,48]) (by decide +kernel)
 | 6,_=>pcCk_ok (m:=5) (s2:=⟨⟨[97,98,99,44,99,100,101]⟩⟩) (l:=[7,28]) (by decide +kernel)
 | 7,_=>pcCk_ok (m:=4) (s2:=⟨⟨[97,98,99,44,97,98,100]⟩⟩) (l:=[7,11]) (by decide +kernel)
 | k+8,h=>absurd h (by omega)
def nLs:List Int:=[1,2,3,4,4,5,5,6]
open Classical in
noncomputable def drawN (c:Cur):(Int×List Int)×Cur :=
 let n:=pickN c nLs
 let b:=belowN (belowN c 8).2 8
 if b.1=0 then ((n,bcxL n),b.2)
 else if b.1=1 then (pcV (pickS b.2 txtL),(belowN b.2 8).2)
 else if b.1=2∨b.1=3 then ((n,(pureN n b.2).1),(pureN n b.2).2)
 else ((n,(sizeN n b.2).1),(sizeN n b.2).2)
theorem nLs_rng (c:Cur):1≤pickN c nLs∧pickN c nLs≤6:=by
 have hr:=belowN_rng c (n:=(nLs.length:Int)) (by decide)
 have:∀ k:Nat,k<8→1≤at0 nLs k∧at0 nLs k≤6:=by decide
 exact this _ (by have:(nLs.length:Int)=8:=rfl; omega)
theorem txtL_ok (c:Cur):∃ x:Int×List Int,pcP (pickS c txtL) x.1 x.2:=by
 have hr:=belowN_rng c (n:=(txtL.length:Int)) (by decide)
 have h8:(txtL.length:Int)=8:=rfl
 exact txt_ok _ (by omega)
theorem sizeN_wf {n:Int} (h1:1≤n) (h6:n≤6) {c:Cur} (h:wfC c):wfC (sizeN n c).2:=(szI_ok h1 h6 (belowN_wf h 8) _).2.1
theorem pureN_wf {n:Int} (h1:1≤n) (h6:n≤6) {c:Cur} (h:wfC c):wfC (pureN n c).2:=by
 obtain ⟨m,rfl⟩:=Int.eq_ofNat_of_zero_le (show 0≤n by omega)
 have r1:=belowN_rng c (n:=(m:Int)) (by omega)
 obtain ⟨hA,hA0⟩:=allP_ok (m:=m) (by omega) (by omega) r1
 exact (puI_ok hA hA0 (belowN_wf (belowN_wf h _) 7) _).2.1
theorem drawN_wf {c:Cur} (h:wfC c):wfC (drawN c).2:=by
 obtain ⟨n1,n6⟩:=nLs_rng c
 have w1:=belowN_wf (belowN_wf h 8) 8
 unfold drawN
 simp only
 split
 ·exact w1
 split
 ·exact belowN_wf w1 8
 split
 ·exact pureN_wf n1 n6 w1
 ·exact sizeN_wf n1 n6 w1
theorem drawN_ok (c:Cur):(1≤(drawN c).1.1∧(drawN c).1.1≤6)∧(drawN c).1.2.length≤64∧allS (drawN c).1.2:=by
 obtain ⟨n1,n6⟩:=nLs_rng c
 unfold drawN
 simp only
 split
 ·exact ⟨⟨n1,n6⟩,setsOf_len _,allS_setsOf _⟩
 split
 ·obtain ⟨s1,s2,_,_,_,_,_,_,h64,_,_,hc⟩:=pcV_ok (txtL_ok (belowN (belowN c 8).2 8).2)
  exact ⟨⟨hc.1,hc.2.1⟩,h64,cplx_isS hc⟩
 split
 ·exact ⟨⟨n1,n6⟩,setsOf_len _,allS_setsOf _⟩
 ·exact ⟨⟨n1,n6⟩,setsOf_len _,allS_setsOf _⟩
noncomputable def G_s_l3Draw:List V→List V→Option (V×List V)
 | [.pt 0 0],cells=>onCur (fun c=>some (.agg [.int .i64 (drawN c).1.1,.own 1 (ints (drawN c).1.2)],(drawN c).2)) cells
 | _,_=>none
theorem G_draw {c:Cur} (h:wfC c):G_s_l3Draw [.pt 0 0] (curC c)=some (.agg [.int .i64 (drawN c).1.1,.own 1 (ints (drawN c).1.2)],curC (drawN c).2):=by
 simp only [G_s_l3Draw]
 rw [onCur_at h]
 rfl
theorem ln_s_l3Draw:LendOk Tryz.prog 26 0 G_s_l3Draw:=by
 have env:=(((((((envNil_ok (P:=Tryz.prog)).add fn_s_BorderComplex).add fn_s_ParseComplex).addl ln_s_l1Below).addl ln_s_l1PickInt).addl ln_s_l1Pick).addl ln_s_l3Pure).addl ln_s_l3Size
 refine fn_lend code_s_l3Draw mixed env ?_
 intro args cells r cells' hG hb
 unfold G_s_l3Draw at hG
 split at hG
 case h_2=>simp at hG
 obtain ⟨c,d,hw,rfl,hc,rfl⟩:=onCur_inv hG
 clear hG hb
 simp only [Option.some.injEq,Prod.mk.injEq] at hc
 obtain ⟨rfl,rfl⟩:=hc
 refine ⟨by simp,fun w0 U0 L0 N0 => ?_⟩
 obtain ⟨n1,n6⟩:=nLs_rng c
 have hp:=G_pickI hw (l:=nLs) ⟨by simp [nLs],by simp [nLs]⟩
 have hlit:ints nLs=[(.int .i64 1),(.int .i64 2),(.int .i64 3),(.int .i64 4),(.int .i64 4),(.int .i64 5),(.int .i64 5),(.int .i64 6)]:=rfl
 have hl8:(nLs.length:Int)=8:=rfl
 rw [hlit,hl8] at hp
 have v1:=belowN_wf hw 8
 have g1:=G_below v1 8
 have v2:=belowN_wf v1 8
 have r2:=belowN_rng (belowN c 8).2 (n:=8) (by omega)
 have hq:=G_pickT v2 (l:=txtL) ⟨by simp [txtL],by simp [txtL]⟩
 have hlit2:strs txtL=[(.str ⟨⟨[54,58,97,98,99,44,97,99,100,44,97,98,101,44,97,100,101,44,98,99,102,44,99,100,102,44,98,101,102,44,100,101,102]⟩⟩),(.str ⟨⟨[54,58,97,99,100,44,98,99,100,44,97,98,101,44,97,99,101,44,98,100,101,44,97,98,102,44,98,99,102,44,97,100,102,44,99,101,102,44,100,101,102]⟩⟩),(.str ⟨⟨[54,58,97,98,100,44,97,98,101,44,97,99,101,44,98,99,101,44,99,100,101,44,97,99,102,44,98,99,102,44,97,100,102,44,98,100,102]⟩⟩),(.str ⟨⟨[53,58,97,98,44,98,99,44,99,100,44,97,101,44,100,101]⟩⟩),(.str ⟨⟨[52,58,97,98,44,98,99,44,99,100]⟩⟩),(.str ⟨⟨[54,58,97,98,44,99,100,44,101,102]⟩⟩),(.str ⟨⟨[53,58,97,98,99,44,99,100,101]⟩⟩),(.str ⟨⟨[52,58,97,98,99,44,97,98,100]⟩⟩)]:=rfl
 have hl82:(txtL.length:Int)=8:=rfl
 rw [hlit2,hl82] at hq
 have hF1:F_s_BorderComplex [.int .i64 (pickN c nLs)]=some (.tup [.agg [.int .i64 (pickN c nLs),.own 1 (ints (bcxL (pickN c nLs)))],.bool true]):=by
  simp only [F_s_BorderComplex,F1_mk,dI_int,Option.bind_some]
  rw [if_pos ⟨n1,n6⟩]
 have hF2:F_s_ParseComplex [.str (pickS (belowN (belowN c 8).2 8).2 txtL)]=some (.tup [.agg [.int .i64 (pcV (pickS (belowN (belowN c 8).2 8).2 txtL)).1,.own 1 (ints (pcV (pickS (belowN (belowN c 8).2 8).2 txtL)).2)],.bool true]):=by
  simp only [F_s_ParseComplex,F1_mk,dT_str,Option.bind_some]
  rw [if_pos (txtL_ok _)]
 have hF3:=G_pure v2 n1 n6
 have hF4:=G_size v2 n1 n6
 have eD:drawN c=(if (belowN (belowN c 8).2 8).1=0 then ((pickN c nLs,bcxL (pickN c nLs)),(belowN (belowN c 8).2 8).2)
  else if (belowN (belowN c 8).2 8).1=1 then (pcV (pickS (belowN (belowN c 8).2 8).2 txtL),(belowN (belowN (belowN c 8).2 8).2 8).2)
  else if (belowN (belowN c 8).2 8).1=2∨(belowN (belowN c 8).2 8).1=3 then ((pickN c nLs,(pureN (pickN c nLs) (belowN (belowN c 8).2 8).2).1),(pureN (pickN c nLs) (belowN (belowN c 8).2 8).2).2)
  else ((pickN c nLs,(sizeN (pickN c nLs) (belowN (belowN c 8).2 8).2).1),(sizeN (pickN c nLs) (belowN (belowN c 8).2 8).2).2)):=by
  unfold drawN
  congr
 generalize drawN c=D at *
 generalize pickN c nLs=n at *
 generalize (belowN c 8).2=c1 at *
 generalize belowN c1 8=b at *
 generalize pickS b.2 txtL=s at *
 generalize pcV s=x at *
 by_cases h0:b.1=0
 ·rw [if_pos h0] at eD
  subst eD
  simp -implicitDefEqProofs [sc_s_l3Draw,ren0,hp,g1,h0,hF1]
 rw [if_neg h0] at eD
 by_cases h1:b.1=1
 ·rw [if_pos h1] at eD
  subst eD
  simp -implicitDefEqProofs [sc_s_l3Draw,ren0,hp,g1,h1,hq,hF2]
 rw [if_neg h1] at eD
 by_cases h2:b.1=2
 ·rw [if_pos (.inl h2)] at eD
  subst eD
  simp -implicitDefEqProofs [sc_s_l3Draw,ren0,hp,g1,h2,hF3]
 by_cases h3:b.1=3
 ·rw [if_pos (.inr h3)] at eD
  subst eD
  simp -implicitDefEqProofs [sc_s_l3Draw,ren0,hp,g1,h3,hF3]
 rw [if_neg (by rintro (h | h); exact h2 h; exact h3 h)] at eD
 subst eD
 simp -implicitDefEqProofs [sc_s_l3Draw,ren0,hp,g1,h0,h1,h2,h3,hF4]
def sc_s_l3Bent:SC:=(.seq (.reg [⟨some 2,none,.new [.int .i64 0,.nil]⟩]) (.seq (.reg [⟨some 4,none,.mov (.t 0)⟩,⟨some 5,none,.call 26 [.t 4]⟩,⟨some 3,none,.new [.int .i64 0,.nil]⟩,⟨none,none,.st 2 (.t 3) (.t 5)⟩]) (.seq (.seq (.reg [⟨some 6,none,.mov (.t 0)⟩,⟨some 7,none,.call 27 [.t 6,(.c (.int .i64 14))]⟩]) (.block 0 (.seq (.reg [⟨some 9,none,.bin false .eql (.t 7) (.c (.int .i64 0))⟩,⟨some 8,none,.mov (.t 9)⟩]) (.cond (.t 8) (.reg [⟨some 10,none,.mov (.t 0)⟩,⟨some 11,none,.lit 1 [.int .i64 0,.int .i64 7,.int .i64 2]⟩,⟨some 12,none,.call 28 [.t 10,.t 11]⟩,⟨some 13,none,.fad 0 (.t 3)⟩,⟨none,none,.st 1 (.t 13) (.t 12)⟩]) (.seq (.reg [⟨some 15,none,.bin false .eql (.t 7) (.c (.int .i64 1))⟩,⟨some 14,none,.mov (.t 15)⟩]) (.cond (.t 14) (.treg (.fst ⟨some 16,none,.fad 1 (.t 3)⟩ true (.fst ⟨some 18,none,.mov (.t 0)⟩ false (.alt ⟨some 17,none,.ld none .nil (.t 16)⟩ false (.alt ⟨some 19,none,.call 27 [.t 18,(.c (.int .i64 66))]⟩ true (.fst ⟨some 20,none,.bin false .sub (.t 19) (.c (.int .i64 1))⟩ false (.alt ⟨some 21,none,.mks 1 1 [.int .i64 0] [(0,(1,(.t 20)))]⟩ true (.alt ⟨some 22,none,.app 1 8 (.t 17) (.t 21)⟩ true (.fst ⟨some 23,none,.fad 1 (.t 3)⟩ false (.alt ⟨none,none,.st 1 (.t 23) (.t 22)⟩ true .done .stop)) .stop) .stop)) .stop) (.alt ⟨some 19,none,.call 27 [.t 18,(.c (.int .i64 66))]⟩ true (.fst ⟨some 20,none,.bin false .sub (.t 19) (.c (.int .i64 1))⟩ false (.alt ⟨some 17,none,.ld none .nil (.t 16)⟩ false (.alt ⟨some 21,none,.mks 1 1 [.int .i64 0] [(0,(1,(.t 20)))]⟩ true (.alt ⟨some 22,none,.app 1 8 (.t 17) (.t 21)⟩ true (.fst ⟨some 23,none,.fad 1 (.t 3)⟩ false (.alt ⟨none,none,.st 1 (.t 23) (.t 22)⟩ true .done .stop)) .stop) .stop) (.alt ⟨some 21,none,.mks 1 1 [.int .i64 0] [(0,(1,(.t 20)))]⟩ true (.fst ⟨some 17,none,.ld none .nil (.t 16)⟩ false (.alt ⟨some 22,none,.app 1 8 (.t 17) (.t 21)⟩ true (.fst ⟨some 23,none,.fad 1 (.t 3)⟩ false (.alt ⟨none,none,.st 1 (.t 23) (.t 22)⟩ true .done .stop)) .stop)) .stop))) .stop))))) .skip)))))) (.seq (.reg [⟨some 24,none,.ld (some 2) .undef (.t 3)⟩,⟨none,none,.st 2 (.t 2) (.t 24)⟩]) .ret))))
theorem code_s_l3Bent:fnCode Tryz.prog [27] 32=some (25,sc_s_l3Bent,[(2,(some 2))]):=by kernel_rfl
def bLs:List Int:=[0,7,2]
open Classical in
noncomputable def bentN (c:Cur):(Int×List Int)×Cur :=
 let b:=belowN (drawN c).2 14
 if b.1=0 then ((pickN b.2 bLs,(drawN c).1.2),(belowN b.2 3).2)
 else if b.1=1 then (((drawN c).1.1,(drawN c).1.2++[(belowN b.2 66).1-1]),(belowN b.2 66).2)
 else ((drawN c).1,b.2)
theorem bentN_wf {c:Cur} (h:wfC c):wfC (bentN c).2:=by
 have w1:=belowN_wf (drawN_wf h) 14
 unfold bentN
 simp only
 split
 ·exact belowN_wf w1 3
 split
 ·exact belowN_wf w1 66
 ·exact w1
noncomputable def G_s_l3Bent:List V→List V→Option (V×List V)
 | [.pt 0 0],cells=>onCur (fun c=>some (.agg [.int .i64 (bentN c).1.1,.own 1 (ints (bentN c).1.2)],(bentN c).2)) cells
 | _,_=>none
theorem G_bent {c:Cur} (h:wfC c):G_s_l3Bent [.pt 0 0] (curC c)=some (.agg [.int .i64 (bentN c).1.1,.own 1 (ints (bentN c).1.2)],curC (bentN c).2):=by
 simp only [G_s_l3Bent]
 rw [onCur_at h]
 rfl
theorem ln_s_l3Bent:LendOk Tryz.prog 32 0 G_s_l3Bent:=by
 have env:=(((envNil_ok (P:=Tryz.prog)).addl ln_s_l1Below).addl ln_s_l1PickInt).addl ln_s_l3Draw
 refine fn_lend code_s_l3Bent mixed env ?_
 intro args cells r cells' hG hb
 unfold G_s_l3Bent at hG
 split at hG
 case h_2=>simp at hG
 obtain ⟨c,d,hw,rfl,hc,rfl⟩:=onCur_inv hG
 clear hG hb
 simp only [Option.some.injEq,Prod.mk.injEq] at hc
 obtain ⟨rfl,rfl⟩:=hc
 refine ⟨by simp,fun w0 U0 L0 N0 => ?_⟩
 have g0:=G_draw hw
 have v0:=drawN_wf hw
 have g1:=G_below v0 14
 have v1:=belowN_wf v0 14
 have r1:=belowN_rng (drawN c).2 (n:=14) (by omega)
 have hp:=G_pickI v1 (l:=bLs) ⟨by simp [bLs],by simp [bLs]⟩
 have hlit:ints bLs=[(.int .i64 0),(.int .i64 7),(.int .i64 2)]:=rfl
 have hl3:(bLs.length:Int)=3:=rfl
 rw [hlit,hl3] at hp
 have g2:=G_below v1 66
 have r2:=belowN_rng (belowN (drawN c).2 14).2 (n:=66) (by omega)
 have hlen:=(drawN_ok c).2.1
 have eD:bentN c=(if (belowN (drawN c).2 14).1=0 then ((pickN (belowN (drawN c).2 14).2 bLs,(drawN c).1.2),(belowN (belowN (drawN c).2 14).2 3).2)
  else if (belowN (drawN c).2 14).1=1 then (((drawN c).1.1,(drawN c).1.2++[(belowN (belowN (drawN c).2 14).2 66).1-1]),(belowN (belowN (drawN c).2 14).2 66).2)
  else ((drawN c).1,(belowN (drawN c).2 14).2)):=by
  unfold bentN
  congr
 generalize bentN c=D at *
 generalize drawN c=x at *
 generalize belowN x.2 14=b at *
 generalize pickN b.2 bLs=n at *
 generalize belowN b.2 66=b2 at *
 obtain ⟨⟨xn,xl⟩,xc⟩:=x
 simp only at hlen eD g0 g1
 have hwb:IntKind.i64.wrap (b2.1-1)=b2.1-1:=wrapI _ (by omega) (by omega)
 have hl8:(xl.length+1)*8≤140737488355328:=by omega
 have h3:(xl++[b2.1-1]).take (xl.length+1)=xl++[b2.1-1]:=List.take_of_length_le (by simp)
 by_cases h0:b.1=0
 ·rw [if_pos h0] at eD
  subst eD
  simp -implicitDefEqProofs [sc_s_l3Bent,ren0,g0,hp,g1,h0]
 rw [if_neg h0] at eD
 by_cases h1:b.1=1
 ·rw [if_pos h1] at eD
  subst eD
  simp -implicitDefEqProofs [sc_s_l3Bent,freeOk,ren0,g0,g1,g2,h1,hwb,hl8,ints_snoc,h3]
 rw [if_neg h1] at eD
 subst eD
 simp -implicitDefEqProofs [sc_s_l3Bent,ren0,g0,g1,h0,h1]
end Go.Proofs.YtkoljbncokmeaaaGreatDoor
