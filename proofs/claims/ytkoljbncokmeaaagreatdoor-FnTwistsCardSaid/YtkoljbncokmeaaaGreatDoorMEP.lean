import Derived.Test.YtkoljbncokmeaaaGreatDoorMEG
import Derived.Test.YtkoljbncokmeaaaGreatDoorMEC
import Derived.Shelf.Strings.OnBuilder
import Derived.Shelf.Strconv.Itoa3
import Derived.Test.YtkoljbncokmeaaaGreatDoorProg
namespace Go.Proofs.YtkoljbncokmeaaaGreatDoor
open Go Go.RowKit
set_option maxRecDepth 1000000
set_option linter.unusedSimpArgs false
set_option linter.unusedVariables false
set_option maxHeartbeats 1000000
noncomputable def F_s_l13BorderZ:List V→Option V:=F2 dC dI fun c k => @ite _ (1≤k∧k≤6) (Classical.propDecidable _) (some (.own 1 (rowsV (borM c.1 c.2 k)))) none
theorem fn_s_l13BorderZ:FnOk Tryz.prog 25 F_s_l13BorderZ:=by
 have env:=((envNil_ok (P:=Tryz.prog)).add fn_s_FacesOfSize).add fn_s_l13Sign
 refine fn_ok code_s_l13Border mixed env ?_
 intro args r h hb
 obtain ⟨_,_,⟨n,l⟩,k,rfl,h1,h2,h4⟩:=F2_inv h
 cases dC_inv h1
 cases dI_inv h2
 simp only [Option.ite_none_right_eq_some,Option.some.injEq] at h4
 obtain ⟨⟨hk1,hk6⟩,rfl⟩:=h4
 clear h
 refine ⟨by simp,fun w0 U0 L0 N0 => ?_⟩
 clear hb
 have hw:IntKind.i64.wrap (k-1)=k-1:=wrapI _ (by omega) (by omega)
 obtain ⟨hRC,hRl,hCl⟩:=borM_ok (n:=n) (l:=l) (k:=k)
 have hF1:F_s_FacesOfSize [.agg [.int .i64 n,.list 1 (ints l)],.int .i64 (k-1)]=some (.own 1 (ints (fosL n l (k-1)))):=by simp [F_s_FacesOfSize]
 have hF2:F_s_FacesOfSize [.agg [.int .i64 n,.list 1 (ints l)],.int .i64 k]=some (.own 1 (ints (fosL n l k))):=by simp [F_s_FacesOfSize]
 unfold borM
 generalize fosL n l (k-1)=R at *
 generalize fosL n l k=C at *
 have hml:=sgnM_len R C
 have hma:=fun (i:Nat) (hi:i<R.length)=>sgnM_at (C:=C) hi
 generalize sgnM R C=M at *
 simp -implicitDefEqProofs [sc_s_l13Border,hw,hF1,hF2]
 have inner:∀ (i:Nat) (Q:Post) (T0:Tm),i<R.length→subE T0 [(5,.sl 1 1 0 i),(6,.sl 2 1 0 R.length),(7,.sl 3 1 0 C.length),(8,.int .i64 (i:Int)),(9,.sl 4 1 0 0),(10,.int .i64 0)] →
   Q (.exit 2) [(5,.sl 1 1 0 i),(6,.sl 2 1 0 R.length),(7,.sl 3 1 0 C.length),(8,.int .i64 (i:Int)),(9,.sl 4 1 0 C.length)] ([(4,ints (atR M i)),(3,ints C),(2,ints R),(1,rowsV (M.take i)),(0,[.int .i64 n,.list 1 (ints l)])],5) →
   LoopI ⟨Tryz.prog,w0,U0,L0,N0,0,49⟩ [] sc_s_l13Border_L2 Q T0 ([(4,[]),(3,ints C),(2,ints R),(1,rowsV (M.take i)),(0,[.int .i64 n,.list 1 (ints l)])],5):=by
  intro i Q T0 hi hsub q1
  have hal:(atR M i).length=C.length:=by rw [hma i hi]; simp
  have hae:∀ j,j<C.length→at0 (atR M i) j=sgnZ (at0 R i) (at0 C j):=fun j hj=>by
   rw [hma i hi,← rowF_map,rowF_at hj]
  generalize atR M i=A at *
  refine loopQ env mixed (fun j:Nat=>[(5,.sl 1 1 0 i),(6,.sl 2 1 0 R.length),(7,.sl 3 1 0 C.length),(8,.int .i64 (i:Int)),(9,.sl 4 1 0 j),(10,.int .i64 (j:Int))]) (fun j=>([(4,ints (A.take j)),(3,ints C),(2,ints R),(1,rowsV (M.take i)),(0,[.int .i64 n,.list 1 (ints l)])],5)) (fun j=>j≤C.length) (fun j=>C.length-j) 0 (by simp) (SubI.slots (by simp) (by simpa using hsub)) ?_
  intro j hj
  by_cases hlt:j<C.length
  ·obtain ⟨c1,c2,c3⟩:=hRC _ (getD_mem' hi) _ (getD_mem' hlt)
   have hF:F_s_l13Sign [.int .i64 (at0 R i),.int .i64 (at0 C j)]=some (.int .i64 (sgnZ (at0 R i) (at0 C j))):=by
    simp only [F_s_l13Sign,F2_mk,dI_int,Option.bind_some]
    rw [if_pos ⟨c1,c2,c3⟩]
   have e:A.take (j+1)=A.take j++[sgnZ (at0 R i) (at0 C j)]:=by rw [take_at (by omega),hae j hlt]
   have gl:(A.take j).length=j:=by simp; omega
   generalize A.take j=g at *
   simp -implicitDefEqProofs [sc_s_l13Border_L2,freeOk,hF,hlt,hi,gl]
   repeat' (first | omega | apply And.intro)
   refine Again.of (j+1) (by omega) (by omega) (SubI.ren (fun m=>if m=0 then some 0 else if m=1 then some 1 else if m=2 then some 2 else if m=3 then some 3 else if m=4 then some 6 else none) ?_ ?_ ?_ (by simp) (by simp))
   ·simp (disch:=omega) [subT,renV,ren1,wrapI]
   ·have ht:g.take j=g:=List.take_of_length_le (by omega)
    simp [subH,e,renL,ren1,ht]
    rw [← ints_app]
    rfl
   ·intro m hm
    simp only at hm
    rw [if_neg (by omega),if_neg (by omega),if_neg (by omega),if_neg (by omega),if_neg (by omega)]
  ·have:j=C.length:=by omega
   subst this
   have ht:A.take C.length=A:=List.take_of_length_le (by omega)
   simp -implicitDefEqProofs [sc_s_l13Border_L2,ht]
   exact SubQ.of (SubI.slots rfl (by simp)) q1
 refine loopI env mixed (fun i:Nat=>[(5,.sl 1 1 0 i),(6,.sl 2 1 0 R.length),(7,.sl 3 1 0 C.length),(8,.int .i64 (i:Int))]) (fun i=>([(3,ints C),(2,ints R),(1,rowsV (M.take i)),(0,[.int .i64 n,.list 1 (ints l)])],4)) (fun i=>i≤R.length) (fun i=>R.length-i) 0 (by simp) (SubI.slots (by simp) (by simp)) ?_
 intro i hi
 by_cases hlt:i<R.length
 ·have hin:=inner i
  have hiM:i<M.length:=by omega
  have hal:(atR M i).length=C.length:=by rw [hma i hlt]; simp
  have hsn:=rowsV_snoc hiM (.sl 4 1 0 C.length)
  have gl:(rowsV (M.take i)).length=i:=by simp; omega
  simp -implicitDefEqProofs [sc_s_l13Border_L0,hlt]
  refine hin _ _ hlt (by simp) ?_
  simp -implicitDefEqProofs [gl]
  have htt:(M.take i).take i=M.take i:=List.take_of_length_le (by simp; omega)
  rw [htt]
  refine ⟨by omega,Again.of (i+1) (by omega) (by omega) ?_⟩
  refine SubI.fold 6 4 i 1 C.length (cn:=ints (atR M i)) (co:=rowsV (M.take i)++[.sl 4 1 0 C.length]) (by simp) (by simp) (by rw [List.getElem?_append_right (by omega),gl,Nat.sub_self]; rfl) (by simp [hal]) ?_
  rw [hsn]
  refine SubI.ren (fun m=>if m=0 then some 0 else if m=1 then some 6 else if m=2 then some 2 else if m=3 then some 3 else none) ?_ ?_ ?_ (by simp) (by simp)
  ·simp (disch:=omega) [subT,renV,ren1,wrapI]
  ·simp [subH,renL,ren1]
  ·intro m hm
   simp only at hm
   rw [if_neg (by omega),if_neg (by omega),if_neg (by omega),if_neg (by omega)]
 ·have:i=R.length:=by omega
  subst this
  have ht:M.take R.length=M:=List.take_of_length_le (by omega)
  simp -implicitDefEqProofs [sc_s_l13Border_L0,ht]
  try omega
def strs (l:List ByteArray):List V:=l.map .str
def atS (l:List ByteArray) (k:Nat):ByteArray:=l[k]?.getD ⟨#[]⟩
@[simp] theorem strs_len (l:List ByteArray):(strs l).length=l.length:=by simp [strs]
@[simp] theorem strs_drop (l:List ByteArray) (k:Nat):(strs l).drop k=strs (l.drop k):=by simp [strs]
@[simp] theorem strs_take (l:List ByteArray) (k:Nat):(strs l).take k=strs (l.take k):=by simp [strs]
@[simp] theorem strs_app (l m:List ByteArray):strs l++strs m=strs (l++m):=by simp [strs]
@[simp] theorem strs_get (l:List ByteArray) (k:Nat):(strs l)[k]?.getD (.str ⟨⟨[]⟩⟩) = .str (atS l k):=by
 simp only [strs,List.getElem?_map,atS]
 cases l[k]? <;> rfl
@[simp high] theorem strs_getD (l:List ByteArray) (k:Nat):(strs l).getD k (.str ⟨⟨[]⟩⟩) = .str (atS l k):=by
 rw [List.getD_eq_getElem?_getD,strs_get]
@[simp] theorem atS_drop (l:List ByteArray) (k j:Nat):atS (l.drop k) j=atS l (k+j):=by simp [atS]
@[simp] theorem strs_dr (H:List (Nat×List V)) (j:Nat) (l:List ByteArray):(strs l).map (dr H (j+1))=strs l:=by simp [strs]
@[simp] theorem strs_fz (j:Nat) (l:List ByteArray):(strs l).map (fz (j+1))=strs l:=by simp [strs]
@[simp] theorem strs_nl (j:Nat) (l:List ByteArray):(strs l).all (nolist (j+1))=true:=by simp [strs]
@[simp] theorem strs_nn (j:Nat) (l:List ByteArray):(strs l).all (noname (j+1))=true:=by simp [strs]
@[simp] theorem strs_nm (j:Nat) (l:List ByteArray):(strs l).all (nonm (j+1))=true:=by simp [strs]
@[simp] theorem strs_cell (l:List ByteArray):(strs l).all V.cell=true:=by simp [strs]
@[simp] theorem strs_ren (r:Nat→Option Nat) (l:List ByteArray):renL r (strs l)=some (strs l):=by
 induction l with
 | nil=>rfl
 | cons a l ih =>
  have:strs (a::l) = .str a::strs l:=rfl
  rw [this]
  simp [renL,ren1,ih]
theorem strs_inj {l m:List ByteArray}:strs l=strs m↔l=m:=by
 constructor
 ·intro h
  induction l generalizing m with
  | nil=>cases m with | nil=>rfl | cons=>simp [strs] at h
  | cons a l ih=>cases m with
   | nil=>simp [strs] at h
   | cons b m =>
    simp only [strs,List.map_cons,List.cons.injEq,V.str.injEq] at h
    rw [h.1,ih h.2]
 ·intro h; rw [h]
open Classical in
noncomputable def dS:V→Option (List ByteArray)
 | .list 1 cells=>if h:∃ l,cells=strs l then some (Classical.choose h) else none
 | _=>none
theorem dS_list (l:List ByteArray):dS (.list 1 (strs l))=some l:=by
 have hx:∃ m,strs l=strs m:=⟨l,rfl⟩
 have e:Classical.choose hx=l:=(strs_inj.1 (Classical.choose_spec hx)).symm
 unfold dS
 simp only
 rw [dif_pos hx,e]
theorem dS_inv {v:V} {l:List ByteArray} (h:dS v=some l):v = .list 1 (strs l):=by
 unfold dS at h
 split at h
 ·split at h
  ·rename_i hx
   have b:=Classical.choose_spec hx
   simp only [Option.some.injEq] at h
   rw [h] at b
   rw [b]
  ·simp at h
 ·simp at h
section
variable {Γ : Env} {e : Opd → V} {H : List (Nat × List V)}
@[simp] theorem btV_cell (b:ByteArray):(btV b).all V.cell=true:=by
 unfold btV
 generalize b.data.toList=l
 induction l with
 | nil=>rfl
 | cons a l ih=>simp
@[simp] theorem btV_size (b:ByteArray):(btV b).length=b.size:=btV_len b
@[simp] theorem btV_app (a b:ByteArray):btV a++btV b=btV (a++b):=by simp [btV]
theorem btV_whole (b:ByteArray):(btV b).take b.size=btV b:=List.take_of_length_le (by rw [btV_len]; exact Nat.le_refl _)
@[simp] theorem btV_ren (r:Nat→Option Nat) (b:ByteArray):renL r (btV b)=some (btV b):=by
 unfold btV
 generalize b.data.toList=l
 induction l with
 | nil=>rfl
 | cons a l ih=>simp [renL,ren1,ih]
theorem ubL_bt (b:ByteArray):ubL (btV b)=some (b.data.toList.map fun x=>(x.toNat:Int)):=by
 unfold btV
 generalize b.data.toList=l
 induction l with
 | nil=>rfl
 | cons a l ih=>simp [ubL,ih]
theorem bt_back (b:ByteArray):(⟨((b.data.toList.map fun x=>(x.toNat:Int)).map fun b=>UInt8.ofNat b.toNat).toArray⟩:ByteArray)=b:=by
 rw [List.map_map]
 have:((fun b:Int=>UInt8.ofNat b.toNat) ∘ fun x:UInt8=>(x.toNat:Int))=id:=by
  funext x
  simp
 rw [this,List.map_id]
end
end Go.Proofs.YtkoljbncokmeaaaGreatDoor
namespace Go.Proofs
open Go.Shelf
def Tryz.lays156_ren:Go.Shelf.Ren:=⟨fun | 156=>46 | 165=>86 | 166=>87 | 169=>88 | 240=>101 | 241=>102 | 276=>109 | 277=>110 | n=>n,fun | 31=>59 | 9=>9 | 3=>3 | 4=>4 | 0=>0 | 20=>20 | 72=>88 | 76=>92 | 70=>86 | 37=>22 | 75=>91 | 127=>103 | 164=>109 | 5=>5 | 80=>94 | n=>n,fun | n=>n⟩
theorem Tryz.lays156:Go.Proofs.Lays.n156 Tryz.prog Tryz.lays156_ren:={
 mixed:=by kernel_rfl
 f156:=Tryz.func46.trans (congrArg some (by kernel_rfl))
 f165:=Tryz.func86.trans (congrArg some (by kernel_rfl))
 f166:=Tryz.func87.trans (congrArg some (by kernel_rfl))
 f169:=Tryz.func88.trans (congrArg some (by kernel_rfl))
 f240:=Tryz.func101.trans (congrArg some (by kernel_rfl))
 f241:=Tryz.func102.trans (congrArg some (by kernel_rfl))
 f276:=Tryz.func109.trans (congrArg some (by kernel_rfl))
 f277:=Tryz.func110.trans (congrArg some (by kernel_rfl))
 t0:=Tryz.underlying0
 a0:=Tryz.isAgg0
 z0:=Tryz.sizeOf0
 v0:=Tryz.zeroValue0
 t3:=Tryz.underlying3
 a3:=Tryz.isAgg3
 z3:=Tryz.sizeOf3
 v3:=Tryz.zeroValue3
 t4:=Tryz.underlying4
 a4:=Tryz.isAgg4
 z4:=Tryz.sizeOf4
 v4:=Tryz.zeroValue4
 t9:=Tryz.underlying9
 a9:=Tryz.isAgg9
 z9:=Tryz.sizeOf9
 v9:=Tryz.zeroValue9
 t20:=Tryz.underlying20
 a20:=Tryz.isAgg20
 z20:=Tryz.sizeOf20
 v20:=Tryz.zeroValue20
 t31:=Tryz.underlying59
 a31:=Tryz.isAgg59
 z31:=Tryz.sizeOf59
 v31:=Tryz.zeroValue59
 t37:=Tryz.underlying22
 a37:=Tryz.isAgg22
 z37:=Tryz.sizeOf22
 v37:=Tryz.zeroValue22
 t70:=Tryz.underlying86
 a70:=Tryz.isAgg86
 z70:=Tryz.sizeOf86
 v70:=Tryz.zeroValue86
 t72:=Tryz.underlying88
 a72:=Tryz.isAgg88
 z72:=Tryz.sizeOf88
 v72:=Tryz.zeroValue88
 t75:=Tryz.underlying91
 a75:=Tryz.isAgg91
 z75:=Tryz.sizeOf91
 v75:=Tryz.zeroValue91
 t76:=Tryz.underlying92
 a76:=Tryz.isAgg92
 z76:=Tryz.sizeOf92
 v76:=Tryz.zeroValue92
 t127:=Tryz.underlying103
 a127:=Tryz.isAgg103
 z127:=Tryz.sizeOf103
 v127:=Tryz.zeroValue103
 t164:=Tryz.underlying109
 a164:=Tryz.isAgg109
 z164:=Tryz.sizeOf109
 v164:=Tryz.zeroValue109 }
theorem Tryz.Builder_Extra_156:Builder.Extra Tryz.prog Tryz.lays156_ren:={
 sizeBuilder:=by kernel_rfl
 liesBuilder:=by kernel_rfl
 t5:=Tryz.underlying5
 a5:=Tryz.isAgg5
 z5:=Tryz.sizeOf5
 v5:=Tryz.zeroValue5
 infoByte:=by kernel_rfl
 cellsByte:=by kernel_rfl
 sizeByte:=by kernel_rfl
 neB5:=by decide }
open Go.RowKit in
theorem Tryz.strings_Join_none (a:Option Addr) (c:Nat) (sep:ByteArray) (w:World) :
  Calls Tryz.prog 46 #[.slice a 0 c,.string sep] w fun e w'=>e = .returned (.string ⟨#[]⟩)∧w'=w:=Any.strings_Join_none Tryz.lays156 Tryz.Builder_Extra_156 a c sep w
open Go.RowKit in
theorem Tryz.strings_Join (bk o c:Nat) (xs:List ByteArray) (sep:ByteArray) (w:World) (hcells:∀ (j:Nat) x,xs[j]?=some x→w.cell? ⟨bk,o+j,none⟩=some (.string x)) (hbk:bk<w.heap.size) (hN:xs.length≤140737488355328) (hcap:xs.length≤c) (hlen:(Lib.join (xs.map (·.data.toList)) sep.data.toList).length≤140737488355328) :
  Calls Tryz.prog 46 #[.slice (some ⟨bk,o,none⟩) xs.length c,.string sep] w fun e w'=>e = .returned (.string ⟨(Lib.join (xs.map (·.data.toList)) sep.data.toList).toArray⟩)∧Below w.heap.size w w':=Any.strings_Join Tryz.lays156 Tryz.Builder_Extra_156 bk o c xs sep w hcells hbk hN hcap hlen
def Tryz.lays171_ren:Go.Shelf.Ren:=⟨fun | 171=>85 | 243=>100 | 246=>108 | 283=>112 | 284=>113 | 285=>114 | 286=>115 | 129=>117 | 317=>116 | 318=>118 | 319=>119 | 320=>120 | 337=>121 | 338=>122 | n=>n,fun | 3=>3 | 9=>9 | 2=>2 | 4=>4 | 171=>112 | 0=>0 | 53=>52 | 37=>22 | 5=>5 | 173=>114 | 212=>116 | 51=>106 | 20=>20 | 213=>117 | 46=>97 | 232=>118 | 233=>119 | n=>n,fun | 17=>1 | 18=>2 | 19=>3 | n=>n⟩
theorem Tryz.lays171:Go.Proofs.Lays.n171 Tryz.prog Tryz.lays171_ren:={
 mixed:=by kernel_rfl
 f129:=Tryz.func117.trans (congrArg some (by kernel_rfl))
 f171:=Tryz.func85.trans (congrArg some (by kernel_rfl))
 f243:=Tryz.func100.trans (congrArg some (by kernel_rfl))
 f246:=Tryz.func108.trans (congrArg some (by kernel_rfl))
 f283:=Tryz.func112.trans (congrArg some (by kernel_rfl))
 f284:=Tryz.func113.trans (congrArg some (by kernel_rfl))
 f285:=Tryz.func114.trans (congrArg some (by kernel_rfl))
 f286:=Tryz.func115.trans (congrArg some (by kernel_rfl))
 f317:=Tryz.func116.trans (congrArg some (by kernel_rfl))
 f318:=Tryz.func118.trans (congrArg some (by kernel_rfl))
 f319:=Tryz.func119.trans (congrArg some (by kernel_rfl))
 f320:=Tryz.func120.trans (congrArg some (by kernel_rfl))
 f337:=Tryz.func121.trans (congrArg some (by kernel_rfl))
 f338:=Tryz.func122.trans (congrArg some (by kernel_rfl))
 t0:=Tryz.underlying0
 a0:=Tryz.isAgg0
 z0:=Tryz.sizeOf0
 v0:=Tryz.zeroValue0
 t2:=Tryz.underlying2
 a2:=Tryz.isAgg2
 z2:=Tryz.sizeOf2
 v2:=Tryz.zeroValue2
 t3:=Tryz.underlying3
 a3:=Tryz.isAgg3
 z3:=Tryz.sizeOf3
 v3:=Tryz.zeroValue3
 t4:=Tryz.underlying4
 a4:=Tryz.isAgg4
 z4:=Tryz.sizeOf4
 v4:=Tryz.zeroValue4
 t5:=Tryz.underlying5
 a5:=Tryz.isAgg5
 z5:=Tryz.sizeOf5
 v5:=Tryz.zeroValue5
 t9:=Tryz.underlying9
 a9:=Tryz.isAgg9
 z9:=Tryz.sizeOf9
 v9:=Tryz.zeroValue9
 t20:=Tryz.underlying20
 a20:=Tryz.isAgg20
 z20:=Tryz.sizeOf20
 v20:=Tryz.zeroValue20
 t37:=Tryz.underlying22
 a37:=Tryz.isAgg22
 z37:=Tryz.sizeOf22
 v37:=Tryz.zeroValue22
 t46:=Tryz.underlying97
 a46:=Tryz.isAgg97
 z46:=Tryz.sizeOf97
 v46:=Tryz.zeroValue97
 t51:=Tryz.underlying106
 a51:=Tryz.isAgg106
 z51:=Tryz.sizeOf106
 v51:=Tryz.zeroValue106
 t53:=Tryz.underlying52
 a53:=Tryz.isAgg52
 z53:=Tryz.sizeOf52
 v53:=Tryz.zeroValue52
 t171:=Tryz.underlying112
 a171:=Tryz.isAgg112
 z171:=Tryz.sizeOf112
 v171:=Tryz.zeroValue112
 t173:=Tryz.underlying114
 a173:=Tryz.isAgg114
 z173:=Tryz.sizeOf114
 v173:=Tryz.zeroValue114
 t212:=Tryz.underlying116
 a212:=Tryz.isAgg116
 z212:=Tryz.sizeOf116
 v212:=Tryz.zeroValue116
 t213:=Tryz.underlying117
 a213:=Tryz.isAgg117
 z213:=Tryz.sizeOf117
 t232:=Tryz.underlying118
 a232:=Tryz.isAgg118
 z232:=Tryz.sizeOf118
 v232:=Tryz.zeroValue118
 t233:=Tryz.underlying119
 a233:=Tryz.isAgg119
 z233:=Tryz.sizeOf119
 v233:=Tryz.zeroValue119
 g17:=by kernel_rfl
 g18:=by kernel_rfl
 g19:=by kernel_rfl }
open Go.RowKit Go.Sort Go.Lib in
theorem Tryz.strconv_Itoa_small (i:Nat) (hi:i<100) (w:World) :
  Calls Tryz.prog 85 #[.int .i64 i] w fun e w'=>e = .returned (.string ⟨(Lib.decDigits i).toArray⟩)∧w'=w:=Any.strconv_Itoa_small Tryz.lays171 i hi w
end Go.Proofs
namespace Go.Proofs.YtkoljbncokmeaaaGreatDoor
open Go Go.RowKit
set_option maxRecDepth 1000000
set_option linter.unusedSimpArgs false
set_option linter.unusedVariables false
set_option maxHeartbeats 1000000
open Classical in
noncomputable def decS (n:Int):ByteArray:=⟨(Go.Lib.decDigits n.toNat).toArray⟩
noncomputable def F_strconv_Itoa:List V→Option V:=F1 dI fun n => @ite _ (0≤n∧n<100) (Classical.propDecidable _) (some (.str (decS n))) none
theorem fn_strconv_Itoa:FnOk Tryz.prog 85 F_strconv_Itoa:=by
 refine ⟨⟨_,Tryz.func85,by kernel_rfl,by kernel_rfl⟩,fun args r h => ?_⟩
 intro U w cargs hU hargs
 obtain ⟨_,n,rfl,h1,h4⟩:=F1_inv h
 cases dI_inv h1
 simp only [Option.ite_none_right_eq_some,Option.some.injEq] at h4
 obtain ⟨⟨n0,n1⟩,rfl⟩:=h4
 cases hargs with
 | cons _ _ c cs F Fs _ ha hs hF =>
  cases hs
  cases ha
  obtain ⟨k,rfl⟩:=Int.eq_ofNat_of_zero_le n0
  have hc:=Tryz.strconv_Itoa_small k (by omega) w
  refine Calls.mono hc ?_
  rintro e w' ⟨rfl,rfl⟩
  refine ⟨_,[],rfl,⟨List.nodup_nil,by simp⟩,?_,Below.refl _ _⟩
  have e2:decS ((k:Nat):Int)=⟨(Go.Lib.decDigits k).toArray⟩:=by
   unfold decS
   rw [Int.toNat_natCast]
  rw [e2]
  exact .str _
noncomputable def jnS (m:List ByteArray) (sep:ByteArray):ByteArray:=⟨(Go.Lib.join (m.map (·.data.toList)) sep.data.toList).toArray⟩
def dSt:V→Option ByteArray
 | .str s=>some s
 | _=>none
theorem dSt_inv {v:V} {s:ByteArray} (h:dSt v=some s):v = .str s:=by
 unfold dSt at h
 split at h
 ·simp only [Option.some.injEq] at h; rw [h]
 ·simp at h
noncomputable def F_strings_Join:List V→Option V:=F2 dS dSt fun m s => @ite _ (m.length≤64∧(jnS m s).size≤1000000) (Classical.propDecidable _) (some (.str (jnS m s))) none
theorem fn_strings_Join:FnOk Tryz.prog 46 F_strings_Join:=by
 refine ⟨⟨_,Tryz.func46,by kernel_rfl,by kernel_rfl⟩,fun args r h => ?_⟩
 intro U w cargs hU hargs
 obtain ⟨_,_,m,sep,rfl,h1,h2,h4⟩:=F2_inv h
 cases dS_inv h1
 cases dSt_inv h2
 simp only [Option.ite_none_right_eq_some,Option.some.injEq] at h4
 obtain ⟨⟨n0,n1⟩,rfl⟩:=h4
 have hlen:(Go.Lib.join (m.map (·.data.toList)) sep.data.toList).length≤1000000:=n1
 cases hargs with
 | cons _ _ c cs F Fs FF ha hs hF =>
  obtain ⟨rfl,rfl⟩:=List.append_eq_nil_iff.1 hF.symm
  cases hs with
  | cons _ _ c2 cs2 F2 Fs2 _ ha2 hs2 hF2 =>
   cases hs2
   cases ha2
   generalize hv:V.list 1 (strs m)=v at ha
   cases ha with
   | listE sz a cap =>
    have hm:m=[]:=by
     simp only [V.list.injEq] at hv
     exact strs_inj.1 hv.2
    subst hm
    refine Calls.mono (Tryz.strings_Join_none a cap sep w) ?_
    rintro e w' ⟨rfl,rfl⟩
    refine ⟨_,[],rfl,⟨List.nodup_nil,by simp⟩,?_,Below.refl _ _⟩
    exact .str _
   | list sz cells b o len cap cs3 hUb hl hlc hm hz hc hrv =>
    simp only [V.list.injEq] at hv
    obtain ⟨rfl,rfl⟩:=hv
    rw [strs_len,Nat.mul_one] at hl
    subst hl
    have hcells:∀ (j:Nat) x,m[j]?=some x→w.cell? ⟨b,o+j,none⟩=some (.string x):=fun j x hj=>by
     obtain ⟨c',g1,g2⟩:=hrv.get0 (j:=j) (v:=.str x) (by simp [strs,hj])
     cases g2
     exact hc j _ g1
    refine Calls.mono (Tryz.strings_Join b o cap m sep w hcells (hU b hUb) (by omega) hlc (by omega)) ?_
    rintro e w' ⟨rfl,hb⟩
    exact ⟨_,[],rfl,⟨List.nodup_nil,by simp⟩,.str _,hb⟩
   | _=>simp at hv
end Go.Proofs.YtkoljbncokmeaaaGreatDoor
namespace Go.Proofs.YtkoljbncokmeaaaGreatDoor
open Go Go.RowKit
set_option maxRecDepth 1000000
set_option linter.unusedSimpArgs false
set_option linter.unusedVariables false
set_option maxHeartbeats 1000000
def sc_s_FormatInt9_L0:SC:=(.seq (.seq (.reg [⟨some 10,none,.mov (.t 0)⟩,⟨some 11,none,.bin false .neq (.t 10) (.c (.int .i64 0))⟩]) (.cond (.t 11) .skip (.exit 0))) (.block 1 (.seq (.reg [⟨some 12,none,.mov (.t 0)⟩,⟨some 13,none,.bin false .rem (.t 12) (.c (.int .i64 10))⟩,⟨some 5,none,.mov (.t 13)⟩]) (.seq (.seq (.reg [⟨some 14,none,.mov (.t 5)⟩,⟨some 15,none,.bin false .lss (.t 14) (.c (.int .i64 0))⟩]) (.cond (.t 15) (.reg [⟨some 16,none,.mov (.t 5)⟩,⟨some 17,none,.bin false .sub (.c (.int .i64 0)) (.t 16)⟩,⟨some 5,none,.mov (.t 17)⟩]) .skip)) (.seq (.reg [⟨some 18,none,.mov (.t 5)⟩,⟨some 19,none,.bin false .add (.c (.int .i64 48)) (.t 18)⟩,⟨some 20,none,.conv .u8 (.t 19)⟩,⟨some 21,none,.mks 1 1 [(.int .u8 0)] [(0,(1,(.t 20)))]⟩,⟨some 22,none,.bts (.t 21)⟩,⟨some 23,none,.mov (.t 4)⟩,⟨some 24,none,.bin false .add (.t 22) (.t 23)⟩,⟨some 4,none,.mov (.t 24)⟩]) (.reg [⟨some 25,none,.mov (.t 0)⟩,⟨some 26,none,.bin false .quo (.t 25) (.c (.int .i64 10))⟩,⟨some 0,none,.mov (.t 26)⟩]))))))
def sc_s_FormatInt9:SC:=(.seq (.reg [⟨some 2,none,(.mov (.c (.str ⟨⟨[]⟩⟩)))⟩]) (.seq (.seq (.reg [⟨some 6,none,.mov (.t 0)⟩,⟨some 7,none,.bin false .eql (.t 6) (.c (.int .i64 0))⟩]) (.cond (.t 7) (.seq (.reg [⟨some 2,none,(.mov (.c (.str ⟨⟨[48]⟩⟩)))⟩]) .ret) .skip)) (.seq (.reg [⟨some 8,none,.mov (.t 0)⟩,⟨some 9,none,.bin false .lss (.t 8) (.c (.int .i64 0))⟩,⟨some 3,none,.mov (.t 9)⟩]) (.seq (.reg [⟨some 4,none,(.mov (.c (.str ⟨⟨[]⟩⟩)))⟩]) (.seq (.block 0 (.loop sc_s_FormatInt9_L0)) (.seq (.seq (.reg [⟨some 27,none,.mov (.t 3)⟩]) (.cond (.t 27) (.seq (.reg [⟨some 28,none,.mov (.t 4)⟩,⟨some 29,none,(.bin false .add (.c (.str ⟨⟨[45]⟩⟩)) (.t 28))⟩,⟨some 2,none,.mov (.t 29)⟩]) .ret) .skip)) (.seq (.reg [⟨some 30,none,.mov (.t 4)⟩,⟨some 2,none,.mov (.t 30)⟩]) .ret)))))))
theorem code_s_FormatInt9:fnCode Tryz.prog [] 47=some (31,sc_s_FormatInt9,[(2,none)]):=by kernel_rfl
noncomputable def F_s_FormatInt:List V→Option V:=F1 dI fun n => @ite _ (0≤n∧n<100) (Classical.propDecidable _) (some (.str (decS n))) none
theorem wrap8 (n:Int) (h1:0≤n) (h2:n<256):IntKind.u8.wrap n=n:=by
 simp only [IntKind.wrap,IntKind.bits,IntKind.signed]
 simp
 omega
def qF (n:Int):Nat→Int
 | 0=>n
 | k+1=>qF n k / 10
def d8 (q:Int):ByteArray:=⟨#[UInt8.ofNat (48+q % 10).toNat]⟩
def sF (n:Int):Nat→ByteArray
 | 0=>⟨⟨[]⟩⟩
 | k+1=>d8 (qF n k)++sF n k
theorem sF_size (n:Int):∀ k,(sF n k).size=k
 | 0=>rfl
 | k+1=>by
  show (d8 (qF n k)++sF n k).size=k+1
  rw [ByteArray.size_append,sF_size n k]
  show 1+k=k+1
  omega
theorem dig_nat (q:Nat):d8 (q:Int)=⟨#[UInt8.ofNat (48+q % 10)]⟩:=by
 unfold d8
 rw [show (48+(q:Int) % 10).toNat=48+q % 10 by omega]
theorem decS_one {n:Int} (h0:0≤n) (h:n<10):decS n=d8 n:=by
 obtain ⟨k,rfl⟩:=Int.eq_ofNat_of_zero_le h0
 rw [dig_nat]
 unfold decS
 rw [Int.toNat_natCast]
 unfold Go.Lib.decDigits
 rw [dif_pos (by omega),Nat.mod_eq_of_lt (by omega)]
theorem decS_two {n:Int} (h0:10≤n) (h:n<100):decS n=d8 (n / 10)++d8 n:=by
 obtain ⟨k,rfl⟩:=Int.eq_ofNat_of_zero_le (show 0≤n by omega)
 rw [show ((k:Int) / 10)=((k / 10:Nat):Int) by omega,dig_nat,dig_nat]
 unfold decS
 rw [Int.toNat_natCast]
 unfold Go.Lib.decDigits
 rw [dif_neg (by omega)]
 unfold Go.Lib.decDigits
 rw [dif_pos (by omega),Nat.mod_eq_of_lt (a:=k / 10) (by omega)]
 apply ByteArray.ext
 simp
theorem str_nil_r (a:ByteArray):a++(⟨⟨[]⟩⟩:ByteArray)=a:=by
 apply ByteArray.ext
 simp
theorem sF_one {n:Int} (h0:0≤n) (h:n<10):sF n 1=decS n:=by
 rw [decS_one h0 h]
 exact str_nil_r _
theorem sF_two {n:Int} (h0:10≤n) (h:n<100):sF n 2=decS n:=by
 rw [decS_two h0 h]
 show d8 (n / 10)++(d8 n++(⟨⟨[]⟩⟩:ByteArray))=_
 rw [str_nil_r]
theorem decS_zero:decS 0=⟨⟨[48]⟩⟩:=by
 rw [decS_one (Int.le_refl 0) (by omega)]
 rfl
theorem fn_s_FormatInt:FnOk Tryz.prog 47 F_s_FormatInt:=by
 refine fn_ok code_s_FormatInt9 mixed envNil_ok ?_
 intro args r h hb
 obtain ⟨_,n,rfl,h1,h4⟩:=F1_inv h
 cases dI_inv h1
 simp only [Option.ite_none_right_eq_some,Option.some.injEq] at h4
 obtain ⟨⟨n0,n9⟩,rfl⟩:=h4
 clear h h1 hb
 refine ⟨by simp,fun w0 U0 L0 N0 => ?_⟩
 by_cases hz:n=0
 ·subst hz
  rw [decS_zero]
  simp -implicitDefEqProofs [sc_s_FormatInt9]
 have hn0:¬n<0:=by omega
 simp -implicitDefEqProofs [sc_s_FormatInt9,hz,hn0]
 refine loopI envNil_ok mixed (fun k:Nat=>[(0,.int .i64 (qF n k)),(3,.bool false),(4,.str (sF n k))]) (fun _=>([],0)) (fun k=>k≤2∧(k=2→¬n / 10=0)) (fun k=>2-k) 0 (by simp) (SubI.slots rfl (by simp [qF,sF])) ?_
 rintro k ⟨hk,hk2⟩
 have hq:k=0∧qF n k=n∨k=1∧qF n k=n / 10∨k=2∧qF n k=n / 10 / 10:=by
  rcases k with _ | _ | _ | k
  ·exact .inl ⟨rfl,rfl⟩
  ·exact .inr (.inl ⟨rfl,rfl⟩)
  ·exact .inr (.inr ⟨rfl,rfl⟩)
  ·omega
 by_cases h0:qF n k=0
 ·have hres:sF n k=decS n:=by
   rcases hq with ⟨rfl,e⟩ | ⟨rfl,e⟩ | ⟨rfl,e⟩
   ·omega
   ·exact sF_one n0 (by omega)
   ·exact sF_two (by have:=hk2 rfl; omega) n9
  simp -implicitDefEqProofs [sc_s_FormatInt9_L0,h0,hres]
 ·have hk1:k<2:=by omega
  have hs:(d8 (qF n k)).size+(sF n k).size≤9223372036854775807:=by
   rw [sF_size]
   show 1+k≤_
   omega
  obtain ⟨q,hqq⟩:∃ q,qF n k=q:=⟨_,rfl⟩
  have hs2:sF n (k+1)=d8 (qF n k)++sF n k:=rfl
  have hq2:qF n (k+1)=qF n k / 10:=rfl
  have hd:(⟨#[UInt8.ofNat (48+q % 10).toNat]⟩:ByteArray)=d8 q:=rfl
  rw [hqq] at hq h0 hs hs2 hq2 ⊢
  have q0:0≤q:=by omega
  have q1:q<100:=by omega
  have t1:q.tmod 10=q % 10:=Int.tmod_eq_emod_of_nonneg q0
  have t2:q.tdiv 10=q / 10:=Int.tdiv_eq_ediv_of_nonneg q0
  have t3:¬q % 10<0:=by omega
  have w1:IntKind.i64.wrap (48+q % 10)=48+q % 10:=wrapI _ (by omega) (by omega)
  have w2:IntKind.u8.wrap (48+q % 10)=48+q % 10:=wrap8 _ (by omega) (by omega)
  have w3:IntKind.i64.wrap (q / 10)=q / 10:=wrapI _ (by omega) (by omega)
  have w4:IntKind.i64.wrap (q % 10)=q % 10:=wrapI _ (by omega) (by omega)
  simp -implicitDefEqProofs [sc_s_FormatInt9_L0,h0,t1,t2,t3,w1,w2,w3,w4,hd,hs]
  refine Again.of (k+1) ⟨by omega,fun e=>by omega⟩ (by omega) (SubI.ren (fun _=>none) ?_ ?_ ?_ (by simp) (by simp))
  ·simp [renV,ren1,hs2,hq2]
  ·simp
  ·simp
def sc_i_FormatInt:SC:=(.seq (.reg [⟨some 2,none,(.mov (.c (.str ⟨⟨[]⟩⟩)))⟩]) (.seq (.reg [⟨some 3,none,.mov (.t 0)⟩,⟨some 4,none,.call 85 [.t 3]⟩,⟨some 2,none,.mov (.t 4)⟩]) .ret))
theorem code_i_FormatInt:fnCode Tryz.prog [] 45=some (5,sc_i_FormatInt,[(2,none)]):=by kernel_rfl
noncomputable def F_i_FormatInt:List V→Option V:=F1 dI fun n => @ite _ (0≤n∧n<100) (Classical.propDecidable _) (some (.str (decS n))) none
theorem fn_i_FormatInt:FnOk Tryz.prog 45 F_i_FormatInt:=by
 have env:=(envNil_ok (P:=Tryz.prog)).add fn_strconv_Itoa
 refine fn_ok code_i_FormatInt mixed env ?_
 intro args r h hb
 obtain ⟨_,n,rfl,h1,h4⟩:=F1_inv h
 cases dI_inv h1
 simp only [Option.ite_none_right_eq_some,Option.some.injEq] at h4
 obtain ⟨⟨n0,n9⟩,rfl⟩:=h4
 clear h h1 hb
 refine ⟨by simp,fun w0 U0 L0 N0 => ?_⟩
 have e:F_strconv_Itoa [.int .i64 n]=some (.str (decS n)):=if_pos ⟨n0,n9⟩
 simp -implicitDefEqProofs [sc_i_FormatInt,e]
end Go.Proofs.YtkoljbncokmeaaaGreatDoor
