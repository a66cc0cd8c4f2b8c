import Derived.Test.YtkoljbncokmeaaaGreatDoorMED
import Derived.Test.YtkoljbncokmeaaaGreatDoorMEC
namespace Go.Proofs.YtkoljbncokmeaaaGreatDoor
open Go Go.RowKit
set_option maxRecDepth 1000000
set_option linter.unusedSimpArgs false
set_option linter.unusedVariables false
set_option maxHeartbeats 1000000
def isS (x:Int):Prop:=0≤x∧x<64
def allS (l:List Int):Prop:=∀ x∈l,isS x
theorem allS_at {l:List Int} (h:allS l) {j:Nat} (hj:j<l.length):isS (at0 l j):=h _ (getD_mem' hj)
theorem forS {p:Int→Prop} (h:∀ x:Nat,x<64→p x) {a:Int} (ha:isS a):p a:=by
 have:=h a.toNat (by have:=ha.1; have:=ha.2; omega)
 rwa [Int.toNat_of_nonneg ha.1] at this
abbrev band (a b:Int):Int:=bitop .and .i64 a b
abbrev bnot (a b:Int):Int:=bitop .andNot .i64 a b
def tb (a:Int) (i:Nat):Prop:=band a (2 ^ i)≠0
instance (a:Int) (i:Nat):Decidable (tb a i):=by unfold tb; infer_instance
theorem isS_nat0 {s:Int} (h:isS s):∃ k:Nat,k<64∧s=k:=⟨s.toNat,by unfold isS at h; omega,by unfold isS at h; omega⟩
theorem band_nat0 (a b:Nat) (ha:a<64) (hb:b<64):band a b=((a &&& b:Nat):Int):=bits_and a b (by omega) (by omega)
theorem bnot_nat0 (a b:Nat) (ha:a<64) (hb:b<64):bnot a b=((a-(a &&& b):Nat):Int):=by
 have key:∀ a:Nat,a<64→∀ b:Nat,b<64→a &&& (2 ^ 64-1-b)=a-(a &&& b):=by decide +kernel
 have e:bnot (a:Int) (b:Int)=IntKind.i64.wrap ((BitVec.ofInt 64 (a:Int) &&& ~~~ BitVec.ofInt 64 (b:Int)).toNat):=rfl
 have h1:a &&& (2 ^ 64-1-b)≤a:=Nat.and_le_left
 rw [e,BitVec.ofInt_natCast,BitVec.ofInt_natCast,BitVec.toNat_and,BitVec.toNat_not,BitVec.toNat_ofNat,BitVec.toNat_ofNat]
 rw [Nat.mod_eq_of_lt (by omega),Nat.mod_eq_of_lt (by omega),← key a ha b hb]
 exact wrapI _ (by omega) (by omega)
theorem and_lt64 {x y:Nat} (hx:x<64):x &&& y<64:=Nat.lt_of_le_of_lt Nat.and_le_left hx
theorem isS_bnot {a b:Int} (ha:isS a) (hb:isS b):isS (bnot a b):=by
 obtain ⟨x,hx,rfl⟩:=isS_nat0 ha
 obtain ⟨y,hy,rfl⟩:=isS_nat0 hb
 rw [bnot_nat0 x y hx hy]
 unfold isS; omega
theorem isS_band {a b:Int} (ha:isS a) (hb:isS b):isS (band a b):=by
 obtain ⟨x,hx,rfl⟩:=isS_nat0 ha
 obtain ⟨y,hy,rfl⟩:=isS_nat0 hb
 rw [band_nat0 x y hx hy]
 have:=and_lt64 (y:=y) hx
 unfold isS; omega
theorem pc6:∀ n:Nat,n<64→pc n=pcF 6 n:=by decide +kernel
theorem take_at {l:List Int} {k:Nat} (h:k<l.length):l.take (k+1)=l.take k++[at0 l k]:=by
 rw [at0_eq h,List.take_succ_eq_append_getElem h]
end Go.Proofs.YtkoljbncokmeaaaGreatDoor
namespace Go.Proofs.YtkoljbncokmeaaaGreatDoor
open Go Go.RowKit
set_option maxRecDepth 1000000
set_option linter.unusedSimpArgs false
set_option linter.unusedVariables false
set_option maxHeartbeats 1000000
open Classical in
noncomputable def dec (p:Prop):Bool:=decide p
theorem dec_true {p:Prop} (h:p):dec p=true:=by simp [dec,h]
theorem dec_false {p:Prop} (h:¬p):dec p=false:=by simp [dec,h]
theorem dec_iff {p:Prop}:dec p=true↔p:=by simp [dec]
end Go.Proofs.YtkoljbncokmeaaaGreatDoor
namespace Go.Proofs.YtkoljbncokmeaaaGreatDoor
open Go Go.RowKit
set_option maxRecDepth 1000000
set_option linter.unusedSimpArgs false
set_option linter.unusedVariables false
set_option maxHeartbeats 1000000
theorem before_trans {a b c:Int} (h1:before a b=true) (h2:before b c=true):before a c=true:=by
 simp only [before,decide_eq_true_eq] at *
 omega
theorem cplx_isS {n:Int} {l:List Int} (h:cplx n l):allS l:=by
 intro x hx
 obtain ⟨j,hj,rfl⟩:=getD_mem_iff.1 hx
 exact isSet_pos (h.2.2 j hj).1
def sc_i_hasSet:SC:=(.seq (.reg [⟨some 4,none,.mov (.c (.bool false))⟩]) (.seq (.reg [⟨some 5,none,.mov (.t 0)⟩,⟨some 6,none,.mov (.t 1)⟩,⟨some 7,none,.conv .u64 (.t 6)⟩,⟨some 8,none,.bin false .shr (.t 5) (.t 7)⟩,⟨some 9,none,.bin false .and (.t 8) (.c (.int .u64 1))⟩,⟨some 10,none,.bin false .eql (.t 9) (.c (.int .u64 1))⟩,⟨some 4,none,.mov (.t 10)⟩]) .ret))
theorem code_i_hasSet:fnCode Tryz.prog [] 68=some (11,sc_i_hasSet,[(4,none)]):=by kernel_rfl
def dU:V→Option Int
 | .int .u64 n=>some n
 | _=>none
@[simp] theorem dU_int (n:Int):dU (.int .u64 n)=some n:=rfl
theorem dU_inv {v:V} {n:Int} (h:dU v=some n):v = .int .u64 n:=by
 unfold dU at h
 split at h
 ·injection h with h; rw [h]
 ·simp at h
noncomputable def hasG (f s:Int):Option V:=@ite _ (0≤f∧f<18446744073709551616∧0≤s∧s<64) (Classical.propDecidable _) (some (.bool (f.toNat.testBit s.toNat))) none
noncomputable def F_i_hasSet:List V→Option V:=F2 dU dI hasG
theorem fn_i_hasSet:FnOk Tryz.prog 68 F_i_hasSet:=by
 refine fn_ok code_i_hasSet mixed envNil_ok ?_
 intro args r h hb
 obtain ⟨_,_,f,s,rfl,h1,h2,h4⟩:=F2_inv h
 cases dU_inv h1
 cases dI_inv h2
 clear h
 simp only [hasG,Option.ite_none_right_eq_some,Option.some.injEq] at h4
 obtain ⟨⟨h1,h2,h3,h5⟩,rfl⟩:=h4
 refine ⟨by simp,fun w0 U0 L0 N0 => ?_⟩
 obtain ⟨m,rfl⟩:∃ m:Nat,f=m:=⟨f.toNat,by omega⟩
 obtain ⟨k,rfl⟩:∃ k:Nat,s=k:=⟨s.toNat,by omega⟩
 have hu:IntKind.u64.wrap (k:Int)=k:=wrapU _ (by omega) (by omega)
 have hm:min k IntKind.u64.bits=k:=by simp only [IntKind.bits]; omega
 have hd:(m:Int).fdiv (2 ^ k)=((m / 2 ^ k:Nat):Int):=by
  rw [Int.fdiv_eq_ediv_of_nonneg _ (by have:=Int.natCast_nonneg (2 ^ k); simpa using this)]
  simp
 have hb:bitop .and .u64 (((m / 2 ^ k:Nat):Int)) 1=((m / 2 ^ k % 2:Nat):Int):=by
  have hle:m / 2 ^ k≤m:=Nat.div_le_self ..
  rw [show (1:Int)=((1:Nat):Int) from rfl,bitsU_and _ 1 (by omega) (by omega),Nat.and_one_is_mod]
 have ht:(((m / 2 ^ k % 2:Nat):Int) == 1)=m.testBit k:=by
  rw [Nat.testBit_eq_decide_div_mod_eq]
  generalize m / 2 ^ k % 2=x
  rw [Bool.eq_iff_iff,beq_iff_eq,decide_eq_true_iff]
  omega
 simp -implicitDefEqProofs [sc_i_hasSet,hu,hm,hd]
 have hq:(m:Int) / 2 ^ k=((m / 2 ^ k:Nat):Int):=by simp
 rw [hq,hb]
 exact ht
theorem nodup_len {l:List Int} (h:l.Nodup) (hS:allS l):l.length≤64:=by
 have:=sub_len (m:=(List.range 64).map fun (k:Nat)=>(k:Int)) h fun x hx=>by
  refine List.mem_map.2 ⟨x.toNat,?_,?_⟩
  ·have:=hS x hx; rw [List.mem_range]; unfold isS at this; omega
  ·exact Int.toNat_of_nonneg (hS x hx).1
 simpa using this
theorem inS (k:Nat) (h:k<64):isS (k:Int):=by unfold isS; omega
theorem isS_nat {s:Int} (h:isS s):∃ k:Nat,k<64∧s=k:=⟨s.toNat,by unfold isS at h; omega,by unfold isS at h; omega⟩
open Classical in
noncomputable def famN (p:Int→Prop):Nat→Nat
 | 0=>0
 | k+1=>if p (k:Int) then 2 ^ k+famN p k else famN p k
theorem famN_lt (p:Int→Prop):∀ k,famN p k<2 ^ k
 | 0=>by simp [famN]
 | k+1=>by
  have:=famN_lt p k
  have h2:2 ^ (k+1)=2 ^ k+2 ^ k:=by rw [Nat.pow_succ]; omega
  simp only [famN]
  split <;> omega
theorem famN_bit (p:Int→Prop):∀ k j,(famN p k).testBit j=true↔(j<k∧p (j:Int))
 | 0,j=>by simp [famN]
 | k+1,j=>by
  have ih:=famN_bit p k j
  have hl:=famN_lt p k
  simp only [famN]
  split
  ·rename_i hp
   rcases Nat.lt_trichotomy j k with h | h | h
   ·rw [Nat.testBit_two_pow_add_gt h,ih]
    constructor
    ·rintro ⟨_,b⟩; exact ⟨by omega,b⟩
    ·rintro ⟨_,b⟩; exact ⟨h,b⟩
   ·subst h
    rw [Nat.testBit_two_pow_add_eq,Nat.testBit_lt_two_pow hl]
    simp [hp]
   ·have h3:2 ^ k+famN p k<2 ^ j:=by
     have:2 ^ (k+1)≤2 ^ j:=Nat.pow_le_pow_right (by omega) h
     rw [Nat.pow_succ] at this
     omega
    rw [Nat.testBit_lt_two_pow h3]
    constructor
    ·intro h; simp at h
    ·rintro ⟨h4,_⟩; omega
  ·rename_i hp
   rw [ih]
   constructor
   ·rintro ⟨a,b⟩; exact ⟨by omega,b⟩
   ·rintro ⟨a,b⟩
    rcases Nat.lt_succ_iff_lt_or_eq.1 a with h | rfl
    ·exact ⟨h,b⟩
    ·exact absurd b hp
theorem fam_ex (p:Int→Prop):∃ m:Nat,m<18446744073709551616∧∀ k:Nat,m.testBit k=true↔(k<64∧p (k:Int)):=⟨famN p 64,famN_lt p 64,famN_bit p 64⟩
noncomputable def famW (p:Int→Prop):Nat:=Classical.choose (fam_ex p)
theorem famW_lt (p:Int→Prop):famW p<18446744073709551616:=(Classical.choose_spec (fam_ex p)).1
theorem famW_bit (p:Int→Prop) (k:Nat):(famW p).testBit k=true↔(k<64∧p (k:Int)):=(Classical.choose_spec (fam_ex p)).2 k
theorem fam_exI (p:Int→Prop):∃ m:Int,m=(famW p:Nat):=⟨_,rfl⟩
noncomputable def fam (p:Int→Prop):Int:=Classical.choose (fam_exI p)
theorem fam_eq (p:Int→Prop):fam p=(famW p:Nat):=Classical.choose_spec (fam_exI p)
theorem fam_nn (p:Int→Prop):0≤fam p:=by rw [fam_eq]; omega
theorem fam_lt (p:Int→Prop):fam p<18446744073709551616:=by
 have:=famW_lt p
 rw [fam_eq]
 omega
theorem fam_bit (p:Int→Prop) {s:Int} (hs:isS s):(fam p).toNat.testBit s.toNat=dec (p s):=by
 obtain ⟨k,hk,rfl⟩:=isS_nat hs
 rw [Bool.eq_iff_iff,dec_iff]
 rw [fam_eq,Int.toNat_natCast,Int.toNat_natCast]
 rw [famW_bit]
 exact ⟨fun h=>h.2,fun h=>⟨hk,h⟩⟩
theorem fam_ext {m:Nat} (hm:m<18446744073709551616) {p:Int→Prop} (h:∀ k:Nat,k<64→(m.testBit k=true↔p (k:Int))):(m:Int)=fam p:=by
 rw [fam_eq]
 congr 1
 apply Nat.eq_of_testBit_eq
 intro k
 rw [Bool.eq_iff_iff,famW_bit]
 by_cases hk:k<64
 ·rw [h k hk]
  exact ⟨fun a=>⟨hk,a⟩,fun a=>a.2⟩
 ·have h2:m<2 ^ k:=Nat.lt_of_lt_of_le (show m<2 ^ 64 from hm) (Nat.pow_le_pow_right (by omega) (by omega))
  rw [Nat.testBit_lt_two_pow h2]
  constructor
  ·intro h; simp at h
  ·rintro ⟨h4,_⟩; omega
theorem fam_congr {p q:Int→Prop} (h:∀ s,isS s→(p s↔q s)):fam p=fam q :=
 (fam_eq p).trans <| fam_ext (famW_lt p) fun k hk=>by rw [famW_bit,← h _ (inS k hk)]; exact ⟨fun a=>a.2,fun a=>⟨hk,a⟩⟩
theorem fam_inj {p q:Int→Prop}:fam p=fam q↔∀ s,isS s→(p s↔q s):=by
 refine ⟨fun h s hs => ?_,fam_congr⟩
 have h1:=fam_bit p hs
 rw [h,fam_bit q hs] at h1
 exact ⟨fun h=>dec_iff.1 (h1 ▸ dec_true h),fun h=>dec_iff.1 (h1 ▸ dec_true h)⟩
theorem fam_none:fam (fun _=>False)=0:=(fam_ext (m:=0) (by omega) fun k _=>by simp).symm
theorem fam_zero {p:Int→Prop}:fam p=0↔∀ s,isS s→¬p s:=by
 rw [← fam_none,fam_inj]
 exact ⟨fun h s hs hp=>(h s hs).1 hp,fun h s hs=>⟨h s hs,False.elim⟩⟩
@[simp] theorem fam_or (p q:Int→Prop):bitop .or .u64 (fam p) (fam q)=fam fun s=>p s∨q s:=by
 rw [fam_eq,fam_eq,bitsU_or _ _ (famW_lt p) (famW_lt q)]
 refine fam_ext (Nat.or_lt_two_pow (n:=64) (famW_lt p) (famW_lt q)) fun k hk => ?_
 rw [Nat.testBit_or,Bool.or_eq_true,famW_bit,famW_bit]
 simp [hk]
@[simp] theorem fam_and (p q:Int→Prop):bitop .and .u64 (fam p) (fam q)=fam fun s=>p s∧q s:=by
 rw [fam_eq,fam_eq,bitsU_and _ _ (famW_lt p) (famW_lt q)]
 refine fam_ext (Nat.lt_of_le_of_lt Nat.and_le_left (famW_lt p)) fun k hk => ?_
 rw [Nat.testBit_and,Bool.and_eq_true,famW_bit,famW_bit]
 simp [hk]
theorem bitsU_not (a b:Nat) (ha:a<18446744073709551616) (hb:b<18446744073709551616):bitop .andNot .u64 (a:Int) (b:Int)=((a &&& (2 ^ 64-1-b):Nat):Int):=by
 have e:bitop .andNot .u64 (a:Int) (b:Int)=IntKind.u64.wrap ((BitVec.ofInt 64 (a:Int) &&& ~~~ BitVec.ofInt 64 (b:Int)).toNat):=rfl
 have h1:a &&& (2 ^ 64-1-b)≤a:=Nat.and_le_left
 rw [e,BitVec.ofInt_natCast,BitVec.ofInt_natCast,BitVec.toNat_and,BitVec.toNat_not,BitVec.toNat_ofNat,BitVec.toNat_ofNat]
 rw [Nat.mod_eq_of_lt (by omega),Nat.mod_eq_of_lt (by omega)]
 exact wrapU _ (by omega) (by omega)
@[simp] theorem fam_not (p q:Int→Prop):bitop .andNot .u64 (fam p) (fam q)=fam fun s=>p s∧¬q s:=by
 rw [fam_eq,fam_eq,bitsU_not _ _ (famW_lt p) (famW_lt q)]
 refine fam_ext (Nat.lt_of_le_of_lt Nat.and_le_left (famW_lt p)) fun k hk => ?_
 have h:=famW_lt q
 rw [Nat.testBit_and,Bool.and_eq_true,famW_bit,show 2 ^ 64-1-famW q=2 ^ 64-(famW q+1) by omega,Nat.testBit_two_pow_sub_succ h]
 have:=famW_bit q k
 cases hb:(famW q).testBit k with
 | false =>
  rw [hb] at this
  simp [hk] at this ⊢
  simp [this]
 | true =>
  rw [hb] at this
  simp [hk] at this ⊢
  simp [this]
theorem fam_one {s:Int} (hs:isS s):IntKind.u64.wrap (2 ^ min s.toNat IntKind.u64.bits)=fam fun t=>t=s:=by
 obtain ⟨k,hk,rfl⟩:=isS_nat hs
 have h1:min (k:Int).toNat IntKind.u64.bits=k:=by simp only [IntKind.bits]; omega
 have h2:2 ^ k<18446744073709551616:=Nat.pow_lt_pow_right (by omega) hk
 rw [h1]
 have h3:((2:Int) ^ k)=((2 ^ k:Nat):Int):=by simp
 rw [h3,wrapU _ (Int.natCast_nonneg _) (by omega)]
 refine fam_ext h2 fun j hj => ?_
 rw [Nat.testBit_two_pow]
 simp
 omega
theorem wrapS {s:Int} (hs:isS s):IntKind.u64.wrap s=s:=wrapU _ hs.1 (by have:=hs.2; omega)
def subS (a b:Int):Prop:=bnot a b=0
theorem hasG_fam {p:Int→Prop} {s:Int} (hs:isS s):hasG (fam p) s=some (.bool (dec (p s))):=by
 have h1:=fam_nn p
 have h2:=fam_lt p
 have h3:=hs.1
 have h4:=hs.2
 simp only [hasG,h1,h2,h3,h4,and_self,if_true,fam_bit p hs]
theorem band_nat (a b:Nat) (ha:a<64) (hb:b<64):band a b=((a &&& b:Nat):Int):=bits_and a b (by omega) (by omega)
theorem bits_not (a b:Nat) (ha:a<9223372036854775808) (hb:b<9223372036854775808):bitop .andNot .i64 (a:Int) (b:Int)=((a &&& (2 ^ 64-1-b):Nat):Int):=by
 have e:bitop .andNot .i64 (a:Int) (b:Int)=IntKind.i64.wrap ((BitVec.ofInt 64 (a:Int) &&& ~~~ BitVec.ofInt 64 (b:Int)).toNat):=rfl
 have h1:a &&& (2 ^ 64-1-b)≤a:=Nat.and_le_left
 rw [e,BitVec.ofInt_natCast,BitVec.ofInt_natCast,BitVec.toNat_and,BitVec.toNat_not,BitVec.toNat_ofNat,BitVec.toNat_ofNat]
 rw [Nat.mod_eq_of_lt (by omega),Nat.mod_eq_of_lt (by omega)]
 exact wrapI _ (by omega) (by omega)
theorem bnot_nat (a b:Nat) (ha:a<64) (hb:b<64):bnot a b=((a-(a &&& b):Nat):Int):=by
 have key:∀ a:Nat,a<64→∀ b:Nat,b<64→a &&& (2 ^ 64-1-b)=a-(a &&& b):=by decide +kernel
 rw [show bnot a b=_ from bits_not a b (by omega) (by omega),key a ha b hb]
theorem subS_nat (a b:Nat) (ha:a<64) (hb:b<64):subS a b↔a &&& b=a:=by
 unfold subS
 rw [bnot_nat a b ha hb]
 have:a &&& b≤a:=Nat.and_le_left
 omega
theorem subS_iff {a b:Int} (ha:isS a) (hb:isS b):subS a b↔band a b=a:=by
 obtain ⟨x,hx,rfl⟩:=isS_nat ha
 obtain ⟨y,hy,rfl⟩:=isS_nat hb
 rw [subS_nat x y hx hy,band_nat x y hx hy]
 omega
theorem subS_iff' {a b:Int} (ha:isS a) (hb:isS b):subS a b↔band b a=a:=by
 obtain ⟨x,hx,rfl⟩:=isS_nat ha
 obtain ⟨y,hy,rfl⟩:=isS_nat hb
 rw [subS_nat x y hx hy,band_nat y x hy hx,Nat.and_comm]
 omega
theorem subS_bits {a b:Int} (ha:isS a) (hb:isS b):subS a b↔∀ i:Nat,a.toNat.testBit i=true→b.toNat.testBit i=true:=by
 obtain ⟨x,hx,rfl⟩:=isS_nat ha
 obtain ⟨y,hy,rfl⟩:=isS_nat hb
 rw [subS_nat x y hx hy]
 simp only [Int.toNat_natCast]
 constructor
 ·intro h i hi
  rw [← h,Nat.testBit_and,Bool.and_eq_true] at hi
  exact hi.2
 ·intro h
  apply Nat.eq_of_testBit_eq
  intro i
  rw [Nat.testBit_and]
  cases hi:x.testBit i with
  | false=>rfl
  | true=>simp [h i hi]
theorem subS_refl {a:Int} (ha:isS a):subS a a:=(subS_bits ha ha).2 fun _ h=>h
theorem subS_trans {a b c:Int} (ha:isS a) (hb:isS b) (hc:isS c) (h1:subS a b) (h2:subS b c):subS a c :=
 (subS_bits ha hc).2 fun i h=>(subS_bits hb hc).1 h2 i ((subS_bits ha hb).1 h1 i h)
theorem subS_le {a b:Int} (ha:isS a) (hb:isS b) (h:subS a b):a≤b:=by
 obtain ⟨x,hx,rfl⟩:=isS_nat ha
 obtain ⟨y,hy,rfl⟩:=isS_nat hb
 rw [subS_nat x y hx hy] at h
 have:x &&& y≤y:=Nat.and_le_right
 omega
theorem subS_anti {a b:Int} (ha:isS a) (hb:isS b) (h:subS a b) (h2:subS b a):a=b:=by
 have:=subS_le ha hb h
 have:=subS_le hb ha h2
 omega
theorem isS_zero:isS 0:=by unfold isS; omega
theorem subS_zero {a:Int} (ha:isS a):subS 0 a:=by
 obtain ⟨x,hx,rfl⟩:=isS_nat ha
 exact (subS_nat 0 x (by omega) hx).2 (by simp)
theorem sub_next {s t:Int} (hs:isS s) (ht:isS t) (hts:subS t s) (h0:t≠0):isS (band (t-1) s)∧subS (band (t-1) s) s∧band (t-1) s<t∧∀ u,isS u→subS u s→u<t→u≤band (t-1) s:=by
 obtain ⟨x,hx,rfl⟩:=isS_nat hs
 obtain ⟨y,hy,rfl⟩:=isS_nat ht
 have hy0:0<y:=by omega
 rw [subS_nat y x hy hx] at hts
 have e:((y:Int)-1)=((y-1:Nat):Int):=by omega
 have hl:(y-1) &&& x≤y-1:=Nat.and_le_left
 rw [e,band_nat (y-1) x (by omega) hx]
 refine ⟨inS _ (by omega),(subS_nat _ _ (by omega) hx).2 (by rw [Nat.and_assoc,Nat.and_self]),by omega,?_⟩
 intro u hu hus hut
 obtain ⟨z,hz,rfl⟩:=isS_nat hu
 rw [subS_nat z x hz hx] at hus
 have key:∀ x:Nat,x<64→∀ y:Nat,y<64→(y &&& x != y || (List.range 64).all fun z=>z &&& x != z || decide (y≤z) || decide (z≤(y-1) &&& x))=true:=by decide +kernel
 have:=key x hx y hy
 rw [Bool.or_eq_true,List.all_eq_true] at this
 rcases this with h | h
 ·simp [hts] at h
 ·have h:=h z (List.mem_range.2 hz)
  simp only [hus,bne_self_eq_false,Bool.false_or,Bool.or_eq_true,decide_eq_true_eq] at h
  omega
def faceS (l:List Int) (s:Int):Prop:=∃ f∈l,subS s f
theorem faceS_snoc {l:List Int} {f s:Int}:faceS (l++[f]) s↔faceS l s∨subS s f:=by
 unfold faceS
 constructor
 ·rintro ⟨g,h1,h2⟩
  rcases List.mem_append.1 h1 with h | h
  ·exact .inl ⟨g,h,h2⟩
  ·exact .inr (by simpa using (List.mem_singleton.1 h) ▸ h2)
 ·rintro (⟨g,h1,h2⟩ | h)
  ·exact ⟨g,by simp [h1],h2⟩
  ·exact ⟨f,by simp,h⟩
theorem faceS_sub {l:List Int} (hl:allS l) {s t:Int} (hs:isS s) (ht:isS t) (h:subS s t) (hf:faceS l t):faceS l s:=by
 obtain ⟨f,h1,h2⟩:=hf
 exact ⟨f,h1,subS_trans hs ht (hl f h1) h h2⟩
open Classical in
noncomputable def upS (p:Int→Prop):Nat→List Int
 | 0=>[]
 | k+1=>if p (k:Int) then upS p k++[(k:Int)] else upS p k
theorem upS_pos {p:Int→Prop} {k:Nat} (h:p (k:Int)):upS p (k+1)=upS p k++[(k:Int)]:=by simp only [upS,if_pos h]
theorem upS_neg {p:Int→Prop} {k:Nat} (h:¬p (k:Int)):upS p (k+1)=upS p k:=by simp only [upS,if_neg h]
theorem mem_upS {p:Int→Prop} {s:Int}:∀ {k:Nat},s∈upS p k↔0≤s∧s<k∧p s:=by
 intro k
 induction k with
 | zero=>simp only [upS,List.not_mem_nil,false_iff]; omega
 | succ k ih =>
  by_cases h:p (k:Int)
  ·rw [upS_pos h,List.mem_append,ih,List.mem_singleton]
   constructor
   ·rintro (⟨a,b,c⟩ | rfl)
    ·exact ⟨a,by omega,c⟩
    ·exact ⟨by omega,by omega,h⟩
   ·rintro ⟨a,b,c⟩
    by_cases e:s=(k:Int)
    ·exact .inr e
    ·exact .inl ⟨a,by omega,c⟩
  ·rw [upS_neg h,ih]
   constructor
   ·rintro ⟨a,b,c⟩; exact ⟨a,by omega,c⟩
   ·rintro ⟨a,b,c⟩
    refine ⟨a,?_,c⟩
    by_cases e:s=(k:Int)
    ·exact absurd (e ▸ c) h
    ·omega
theorem mem_upS64 {p:Int→Prop} {s:Int}:s∈upS p 64↔isS s∧p s:=by
 rw [mem_upS]
 unfold isS
 exact ⟨fun ⟨a,b,c⟩=>⟨⟨a,b⟩,c⟩,fun ⟨⟨a,b⟩,c⟩=>⟨a,b,c⟩⟩
theorem upS_len (p:Int→Prop):∀ k,(upS p k).length≤k
 | 0=>by simp [upS]
 | k+1=>by
  have:=upS_len p k
  simp only [upS]
  split <;> simp <;> omega
theorem upS_congr {p q:Int→Prop}:∀ {k:Nat},k≤64→(∀ s,isS s→(p s↔q s))→upS p k=upS q k:=by
 intro k
 induction k with
 | zero=>intro _ _; rfl
 | succ k ih =>
  intro hk h
  have e:=h k (inS k (by omega))
  by_cases hp:p (k:Int)
  ·rw [upS_pos hp,upS_pos (e.1 hp),ih (by omega) h]
  ·rw [upS_neg hp,upS_neg (fun hq=>hp (e.2 hq)),ih (by omega) h]
theorem upS_sorted {p:Int→Prop}:∀ {k:Nat},(upS p k).Pairwise (· < ·):=by
 intro k
 induction k with
 | zero=>simp [upS]
 | succ k ih =>
  by_cases h:p (k:Int)
  ·rw [upS_pos h,List.pairwise_append]
   refine ⟨ih,by simp,?_⟩
   intro a ha b hb
   rw [mem_upS] at ha
   simp only [List.mem_singleton] at hb
   omega
  ·rw [upS_neg h]; exact ih
noncomputable def ordS (p:Int→Prop):Nat→List Int
 | 0=>[]
 | z+1=>ordS p z++upS (fun s=>p s∧sz s=z) 64
theorem mem_ordS {p:Int→Prop} {s:Int}:∀ {z:Nat},s∈ordS p z↔isS s∧p s∧sz s<z:=by
 intro z
 induction z with
 | zero=>have:=sz_nn s; simp only [ordS,List.not_mem_nil,false_iff]; omega
 | succ z ih =>
  rw [ordS,List.mem_append,ih,mem_upS64]
  constructor
  ·rintro (⟨a,b,c⟩ | ⟨a,b,c⟩)
   ·exact ⟨a,b,by omega⟩
   ·exact ⟨a,b,by omega⟩
  ·rintro ⟨a,b,c⟩
   by_cases e:sz s=(z:Int)
   ·exact .inr ⟨a,b,e⟩
   ·exact .inl ⟨a,b,by omega⟩
theorem sz_six {s:Int} (h:isS s):sz s≤6:=forS (p:=fun s=>sz s≤6) (by decide +kernel) h
theorem ordS_len (p:Int→Prop):∀ z,(ordS p z).length≤64*z
 | 0=>by simp [ordS]
 | z+1=>by
  have:=ordS_len p z
  have:=upS_len (fun s=>p s∧sz s=z) 64
  simp only [ordS,List.length_append]
  omega
theorem allS_upS (p:Int→Prop) {k:Nat} (hk:k≤64):allS (upS p k):=fun x hx=>by
 have:=mem_upS.1 hx
 exact ⟨this.1,by omega⟩
theorem ordS_sorted {p:Int→Prop}:∀ {z:Nat},(ordS p z).Pairwise fun a b=>before a b=true:=by
 intro z
 induction z with
 | zero=>simp [ordS]
 | succ z ih =>
  rw [ordS,List.pairwise_append]
  refine ⟨ih,?_,?_⟩
  ·refine upS_sorted.imp_of_mem ?_
   intro a b ha hb hab
   have h1:=(mem_upS64.1 ha).2.2
   have h2:=(mem_upS64.1 hb).2.2
   simp only [before,decide_eq_true_eq]
   omega
  ·intro a ha b hb
   have h1:=(mem_ordS.1 ha).2.2
   have h2:=(mem_upS64.1 hb).2.2
   simp only [before,decide_eq_true_eq]
   omega
theorem sorted_ext {l m:List Int} (hl:l.Pairwise fun a b=>before a b=true) (hm:m.Pairwise fun a b=>before a b=true) (h:∀ x,x∈l↔x∈m):l=m:=by
 have irr:∀ a:Int,before a a=true→False:=fun a h=>by simp only [before,decide_eq_true_eq] at h; omega
 induction l generalizing m with
 | nil=>cases m with
  | nil=>rfl
  | cons b m=>exact absurd ((h b).2 (by simp)) (by simp)
 | cons a l ih=>cases m with
  | nil=>exact absurd ((h a).1 (by simp)) (by simp)
  | cons b m =>
   rw [List.pairwise_cons] at hl hm
   have hab:a=b:=by
    rcases List.mem_cons.1 ((h a).1 (by simp)) with e | e
    ·exact e
    ·rcases List.mem_cons.1 ((h b).2 (by simp)) with e2 | e2
     ·exact e2.symm
     ·exact (irr a (before_trans (hl.1 b e2) (hm.1 a e))).elim
   subst hab
   rw [ih hl.2 hm.2]
   intro x
   constructor
   ·intro hx
    rcases List.mem_cons.1 ((h x).1 (by simp [hx])) with e | e
    ·subst e; exact (irr _ (hl.1 _ hx)).elim
    ·exact e
   ·intro hx
    rcases List.mem_cons.1 ((h x).2 (by simp [hx])) with e | e
    ·subst e; exact (irr _ (hm.1 _ hx)).elim
    ·exact e
theorem sets_ex (p:Int→Prop):∃ l:List Int,(l.Pairwise fun a b=>before a b=true)∧∀ x,x∈l↔isS x∧p x :=
 ⟨ordS p 7,ordS_sorted,fun s=>by
  rw [mem_ordS]
  constructor
  ·rintro ⟨a,b,_⟩; exact ⟨a,b⟩
  ·rintro ⟨a,b⟩; have:=sz_six a; exact ⟨a,b,by omega⟩⟩
noncomputable def setsOf (p:Int→Prop):List Int:=Classical.choose (sets_ex p)
theorem setsOf_sorted (p:Int→Prop):(setsOf p).Pairwise fun a b=>before a b=true:=(Classical.choose_spec (sets_ex p)).1
theorem mem_setsOf {p:Int→Prop} {s:Int}:s∈setsOf p↔isS s∧p s:=(Classical.choose_spec (sets_ex p)).2 s
theorem setsOf_eq (p:Int→Prop):ordS p 7=setsOf p:=sorted_ext ordS_sorted (setsOf_sorted p) fun s=>by
 rw [mem_ordS,mem_setsOf]
 constructor
 ·rintro ⟨a,b,_⟩; exact ⟨a,b⟩
 ·rintro ⟨a,b⟩; have:=sz_six a; exact ⟨a,b,by omega⟩
theorem setsOf_congr {p q:Int→Prop} (h:∀ s,isS s→(p s↔q s)):setsOf p=setsOf q:=sorted_ext (setsOf_sorted p) (setsOf_sorted q) fun s=>by
 rw [mem_setsOf,mem_setsOf]
 exact ⟨fun ⟨a,b⟩=>⟨a,(h s a).1 b⟩,fun ⟨a,b⟩=>⟨a,(h s a).2 b⟩⟩
theorem setsOf_none:setsOf (fun _=>False)=[]:=by
 apply List.eq_nil_iff_forall_not_mem.2
 intro s hs
 exact (mem_setsOf.1 hs).2
theorem allS_setsOf (p:Int→Prop):allS (setsOf p):=fun x hx=>(mem_setsOf.1 hx).1
theorem setsOf_nodup (p:Int→Prop):(setsOf p).Nodup:=by
 refine (setsOf_sorted p).imp ?_
 intro a b h e
 subst e
 simp only [before,decide_eq_true_eq] at h
 omega
theorem setsOf_len (p:Int→Prop):(setsOf p).length≤64:=nodup_len (setsOf_nodup p) (allS_setsOf p)
theorem filter_setsOf (p:Int→Prop) (q:Int→Bool):(setsOf p).filter q=setsOf fun s=>p s∧q s=true :=
 sorted_ext ((setsOf_sorted p).filter q) (setsOf_sorted _) fun x=>by simp only [List.mem_filter,mem_setsOf,and_assoc]
noncomputable def bools (p:Int→Prop):List V:=(List.range 64).map fun (k:Nat)=>V.bool (dec (p (k:Int)))
@[simp] theorem bools_len (p:Int→Prop):(bools p).length=64:=by simp [bools]
theorem bools_get {p:Int→Prop} {k:Nat} (hk:k<64) (d:V):(bools p)[k]?.getD d = .bool (dec (p (k:Int))):=by simp [bools,hk]
theorem bools_set {p:Int→Prop} {k:Nat} (hk:k<64):(bools p).set k (.bool true)=bools fun s=>p s∨s=(k:Int):=by
 apply List.ext_getElem (by simp)
 intro j h1 h2
 simp only [bools_len] at h2
 rw [List.getElem_set]
 split
 ·rename_i e
  subst e
  simp [bools,dec]
 ·rename_i e
  have:¬((j:Int)=k):=by omega
  simp [bools,dec,this]
theorem bools_congr {p q:Int→Prop} (h:∀ s,isS s→(p s↔q s)):bools p=bools q:=by
 apply List.ext_getElem (by simp)
 intro j h1 h2
 simp only [bools_len] at h2
 simp [bools,dec,h j (inS j h2)]
theorem bools_none:List.replicate 64 (V.bool false)=bools fun _=>False:=by
 show _=(List.range 64).map fun _=>V.bool (dec False)
 rw [dec_false fun h=>h,List.map_const',List.length_range]
@[simp] theorem bools_cell (p:Int→Prop):(bools p).all V.cell=true:=by simp [bools,V.cell]
@[simp] theorem bools_ren (r:Nat→Option Nat) (p:Int→Prop):renL r (bools p)=some (bools p):=by
 unfold bools
 generalize List.range 64=l
 induction l with
 | nil=>rfl
 | cons a l ih=>simp [renL,ren1,ih]
def bitP (f s:Int):Prop:=f.toNat.testBit s.toNat=true
theorem bitP_fam {p:Int→Prop} {s:Int} (hs:isS s):bitP (fam p) s↔p s:=by
 unfold bitP
 rw [fam_bit p hs]
 exact dec_iff
theorem fam_bitP {f:Int} (h1:0≤f) (h2:f<18446744073709551616):f=fam (bitP f):=by
 obtain ⟨m,rfl⟩:∃ m:Nat,f=m:=⟨f.toNat,by omega⟩
 refine fam_ext (by omega) fun k hk => ?_
 unfold bitP
 simp
def maxP (p:Int→Prop) (s:Int):Prop:=p s∧∀ t,isS t→p t→subS s t→t=s
theorem setsOf_nil {q:Int→Prop}:setsOf q=[]↔∀ s,isS s→¬q s:=by
 constructor
 ·intro h s hs hq
  have:=mem_setsOf.2 ⟨hs,hq⟩
  rw [h] at this
  simp at this
 ·intro h
  rw [← setsOf_none]
  exact setsOf_congr fun s hs=>⟨fun hq=>h s hs hq,False.elim⟩
theorem filt_pos {l:List Int} {k:Nat} (h:k<l.length) {q:Int→Bool} (hq:q (at0 l k)=true):(l.take (k+1)).filter q=(l.take k).filter q++[at0 l k]:=by
 rw [take_at h,List.filter_append]
 simp [hq]
theorem filt_neg {l:List Int} {k:Nat} (h:k<l.length) {q:Int→Bool} (hq:q (at0 l k)=false):(l.take (k+1)).filter q=(l.take k).filter q:=by
 rw [take_at h,List.filter_append]
 simp [hq]
theorem filt_len (l:List Int) (k:Nat) (q:Int→Bool):((l.take k).filter q).length≤l.length:=by
 have h1:=List.length_filter_le q (l.take k)
 have h2:(l.take k).length≤l.length:=by simp; omega
 omega
theorem filt_setsOf (p:Int→Prop) (q:Int→Prop):(setsOf p).filter (fun s=>dec (q s))=setsOf fun s=>p s∧q s:=by
 rw [filter_setsOf]
 exact setsOf_congr fun s _=>by rw [dec_iff]
theorem before_at {l:List Int} (h:l.Pairwise fun a b=>before a b=true) {i j:Nat} (hij:i<j) (hj:j<l.length):before (at0 l i) (at0 l j)=true:=by
 have:=List.pairwise_iff_getElem.1 h i j (by omega) hj hij
 rwa [← at0_eq,← at0_eq] at this
theorem max_iff_all (p:Int→Prop) {k:Nat} (hk:k<(setsOf p).length):maxP p (at0 (setsOf p) k)↔∀ j,j<(setsOf p).length→at0 (setsOf p) k≠at0 (setsOf p) j→¬subS (at0 (setsOf p) k) (at0 (setsOf p) j):=by
 obtain ⟨hs,hp⟩:=mem_setsOf.1 (getD_mem' hk)
 constructor
 ·rintro ⟨_,h⟩ j hj hne hsub
  obtain ⟨ht,hpt⟩:=mem_setsOf.1 (getD_mem' hj)
  exact hne (h _ ht hpt hsub).symm
 ·intro h
  refine ⟨hp,fun t ht hpt hst=>Classical.byContradiction fun hne => ?_⟩
  obtain ⟨j,hj,e⟩:=getD_mem_iff.1 (mem_setsOf.2 ⟨ht,hpt⟩)
  exact h j hj (fun e2=>hne (e2.trans e).symm) (by rw [e]; exact hst)
theorem filt_max (p:Int→Prop):(setsOf p).filter (fun s=>dec (maxP p s))=setsOf (maxP p):=by
 rw [filt_setsOf]
 exact setsOf_congr fun s _=>⟨fun h=>h.2,fun h=>⟨h.1,h⟩⟩
theorem sub_eq_bnot {s f:Int} (hs:isS s) (hf:isS f) (h:subS s f):f-s=bnot f s:=by
 obtain ⟨x,hx,rfl⟩:=isS_nat hs
 obtain ⟨y,hy,rfl⟩:=isS_nat hf
 rw [subS_nat x y hx hy] at h
 have h2:y &&& x=x:=by rw [Nat.and_comm]; exact h
 rw [bnot_nat y x hy hx,h2]
 have:x≤y:=by rw [← h]; exact Nat.and_le_right
 omega
def sc_i_subsetFamily_L0:SC:=(.seq (.block 1 (.seq (.reg [⟨some 10,none,.mov (.t 3)⟩,⟨some 11,none,.mov (.t 4)⟩,⟨some 12,none,.conv .u64 (.t 11)⟩,⟨some 13,none,.bin false .shl (.c (.int .u64 1)) (.t 12)⟩,⟨some 14,none,.bin false .or (.t 10) (.t 13)⟩,⟨some 3,none,.mov (.t 14)⟩]) (.seq (.reg [⟨some 15,none,.mov (.t 4)⟩,⟨some 16,none,.bin false .eql (.t 15) (.c (.int .i64 0))⟩]) (.cond (.t 16) (.seq (.reg [⟨some 17,none,.mov (.t 3)⟩,⟨some 2,none,.mov (.t 17)⟩]) .ret) .skip)))) (.reg [⟨some 6,none,.mov (.t 4)⟩,⟨some 7,none,.bin false .sub (.t 6) (.c (.int .i64 1))⟩,⟨some 8,none,.mov (.t 0)⟩,⟨some 9,none,.bin false .and (.t 7) (.t 8)⟩,⟨some 4,none,.mov (.t 9)⟩]))
def sc_i_subsetFamily:SC:=(.seq (.reg [⟨some 2,none,.mov (.c (.int .u64 0))⟩]) (.seq (.reg [⟨some 3,none,.mov (.c (.int .u64 0))⟩]) (.seq (.reg [⟨some 5,none,.mov (.t 0)⟩,⟨some 4,none,.mov (.t 5)⟩]) (.block 0 (.loop sc_i_subsetFamily_L0)))))
theorem code_i_subsetFamily:fnCode Tryz.prog [] 70=some (18,sc_i_subsetFamily,[(2,none)]):=by kernel_rfl
open Classical in
noncomputable def F_i_subsetFamily:List V→Option V:=F1 dI fun s=>if isS s then some (.int .u64 (fam fun t=>subS t s)) else none
theorem fn_i_subsetFamily:FnOk Tryz.prog 70 F_i_subsetFamily:=by
 refine fn_ok code_i_subsetFamily mixed envNil_ok ?_
 intro args r h hb
 obtain ⟨_,s,rfl,h1,h4⟩:=F1_inv h
 cases dI_inv h1
 simp only [Option.ite_none_right_eq_some,Option.some.injEq] at h4
 obtain ⟨hs,rfl⟩:=h4
 refine ⟨by simp,fun w0 U0 L0 N0 => ?_⟩
 generalize hv:fam (fun t=>subS t s)=v
 have e0:(0:Int)=fam fun u=>subS u s∧s<u:=(fam_zero.2 fun u hu h=>by have:=subS_le hu hs h.1; omega).symm
 simp -implicitDefEqProofs [sc_i_subsetFamily]
 refine loopI envNil_ok mixed (fun t:Int=>[(0,.int .i64 s),(3,.int .u64 (fam fun u=>subS u s∧t<u)),(4,.int .i64 t)]) (fun _=>([],0)) (fun t=>isS t∧subS t s) (fun t=>t.toNat) s ⟨hs,subS_refl hs⟩ (SubI.slots rfl (by simp [← e0])) ?_
 rintro t ⟨ht,hts⟩
 have hu:=wrapS ht
 have h1:=fam_one ht
 by_cases h0:t=0
 ·subst h0
  have h2:IntKind.u64.wrap 1=fam fun t=>t=0:=by simpa using fam_one isS_zero
  have e:(fam fun u=>(subS u s∧0<u)∨u=0)=v:=by
   rw [← hv]
   refine fam_congr fun u hu=>⟨?_,fun h => ?_⟩
   ·rintro (h | rfl)
    ·exact h.1
    ·exact subS_zero hs
   ·by_cases hz:u=0
    ·exact .inr hz
    ·exact .inl ⟨h,by have:=hu.1; omega⟩
  simp -implicitDefEqProofs [sc_i_subsetFamily_L0,hu,h2,e]
 ·obtain ⟨n1,n2,n3,n4⟩:=sub_next hs ht hts h0
  have hw:IntKind.i64.wrap (t-1)=t-1:=wrapI _ (by have:=ht.1; omega) (by have:=ht.2; omega)
  have e:(fam fun u=>(subS u s∧t<u)∨u=t)=fam fun u=>subS u s∧band (t-1) s<u:=by
   refine fam_congr fun u hu=>⟨?_,fun h => ?_⟩
   ·rintro (h | rfl)
    ·exact ⟨h.1,by omega⟩
    ·exact ⟨hts,n3⟩
   ·rcases Int.lt_trichotomy u t with h3 | h3 | h3
    ·exact absurd (n4 u hu h.1 h3) (by omega)
    ·exact .inr h3
    ·exact .inl ⟨h.1,h3⟩
  simp -implicitDefEqProofs [sc_i_subsetFamily_L0,hu,h1,h0,hw,e]
  have f0:=ht.1
  repeat' (first | omega | apply And.intro)
  exact Again.of (band (t-1) s) ⟨n1,n2⟩ (by have:=n1.1; omega) (SubI.slots rfl (by simp))
def sc_i_facesIn_L0:SC:=(.seq (.reg [⟨some 10,none,.bin false .lss (.t 9) (.t 8)⟩]) (.seq (.cond (.t 10) .skip (.exit 0)) (.seq (.block 1 (.seq (.reg [⟨some 11,none,.idx 1 (.t 7) (.t 9)⟩,⟨some 12,none,.ld none (.int .i64 0) (.t 11)⟩,⟨some 5,none,.mov (.t 12)⟩]) (.reg [⟨some 13,none,.mov (.t 3)⟩,⟨some 14,none,.mov (.t 5)⟩,⟨some 15,none,.call 70 [.t 14]⟩,⟨some 16,none,.bin false .or (.t 13) (.t 15)⟩,⟨some 3,none,.mov (.t 16)⟩]))) (.reg [⟨some 17,none,.bin false .add (.t 9) (.c (.int .i64 1))⟩,⟨some 9,none,.mov (.t 17)⟩]))))
def sc_i_facesIn:SC:=(.seq (.reg [⟨some 1,none,.box (.t 0)⟩,⟨some 2,none,.mov (.c (.int .u64 0))⟩]) (.seq (.reg [⟨some 3,none,.mov (.c (.int .u64 0))⟩]) (.seq (.seq (.reg [⟨some 6,none,.fad 1 (.t 1)⟩,⟨some 7,none,.ld none .nil (.t 6)⟩,⟨some 8,none,.len (.t 7)⟩,⟨some 9,none,.mov (.c (.int .i64 0))⟩]) (.block 0 (.loop sc_i_facesIn_L0))) (.seq (.reg [⟨some 18,none,.mov (.t 3)⟩,⟨some 2,none,.mov (.t 18)⟩]) .ret))))
theorem code_i_facesIn:fnCode Tryz.prog [] 35=some (19,sc_i_facesIn,[(2,none)]):=by kernel_rfl
open Classical in
noncomputable def F_i_facesIn:List V→Option V:=F1 dC fun c=>if allS c.2 then some (.int .u64 (fam (faceS c.2))) else none
theorem fn_i_facesIn:FnOk Tryz.prog 35 F_i_facesIn:=by
 have env:=(envNil_ok (P:=Tryz.prog)).add fn_i_subsetFamily
 refine fn_ok code_i_facesIn mixed env ?_
 intro args r h hb
 obtain ⟨_,⟨n,l⟩,rfl,h1,h4⟩:=F1_inv h
 cases dC_inv h1
 simp only [Option.ite_none_right_eq_some,Option.some.injEq] at h4
 obtain ⟨hS,rfl⟩:=h4
 have hlen:=bnd_eC (hb _ (List.mem_cons_self ..))
 simp only at hlen
 refine ⟨by simp,fun w0 U0 L0 N0 => ?_⟩
 have e0:(0:Int)=fam (faceS []):=(fam_zero.2 fun u hu h=>by obtain ⟨f,h1,_⟩:=h; simp at h1).symm
 simp -implicitDefEqProofs [sc_i_facesIn]
 refine loopI env mixed (fun k:Nat=>[(3,.int .u64 (fam (faceS (l.take k)))),(7,.list 1 (ints l)),(8,.int .i64 l.length),(9,.int .i64 (k:Int))]) (fun _=>([(0,[.int .i64 n,.list 1 (ints l)])],1)) (fun k=>k≤l.length) (fun k=>l.length-k) 0 (by simp) (SubI.slots rfl (by simp [← e0])) ?_
 intro k hk
 by_cases hlt:k<l.length
 ·have hf:=allS_at hS hlt
  have e:(fam fun s=>faceS (l.take k) s∨subS s (at0 l k))=fam (faceS (l.take (k+1))):=by
   rw [take_at hlt]
   exact fam_congr fun s _=>faceS_snoc.symm
  simp -implicitDefEqProofs [sc_i_facesIn_L0,F_i_subsetFamily,hlt,hf,e]
  repeat' (first | omega | apply And.intro)
  refine Again.of (k+1) (by omega) (by omega) (SubI.slots rfl (by simp (disch:=omega) [wrapI]))
 ·have:k=l.length:=by omega
  subst this
  simp -implicitDefEqProofs [sc_i_facesIn_L0]
def sc_s_l3Has_L0:SC:=(.seq (.seq (.reg [⟨some 6,none,.mov (.t 5)⟩,⟨some 7,none,.fad 1 (.t 2)⟩,⟨some 8,none,.ld none .nil (.t 7)⟩,⟨some 9,none,.len (.t 8)⟩,⟨some 10,none,.bin false .lss (.t 6) (.t 9)⟩]) (.cond (.t 10) .skip (.exit 0))) (.seq (.block 1 (.seq (.reg [⟨some 13,none,.fad 1 (.t 2)⟩,⟨some 14,none,.ld none .nil (.t 13)⟩,⟨some 15,none,.mov (.t 5)⟩,⟨some 16,none,.idx 1 (.t 14) (.t 15)⟩,⟨some 17,none,.ld none (.int .i64 0) (.t 16)⟩,⟨some 18,none,.mov (.t 1)⟩,⟨some 19,none,.bin false .and (.t 17) (.t 18)⟩,⟨some 20,none,.mov (.t 1)⟩,⟨some 21,none,.bin false .eql (.t 19) (.t 20)⟩]) (.cond (.t 21) (.seq (.reg [⟨some 4,none,.mov (.c (.bool true))⟩]) .ret) .skip))) (.reg [⟨some 11,none,.mov (.t 5)⟩,⟨some 12,none,.bin false .add (.t 11) (.c (.int .i64 1))⟩,⟨some 5,none,.mov (.t 12)⟩])))
def sc_s_l3Has:SC:=(.seq (.reg [⟨some 2,none,.box (.t 0)⟩,⟨some 4,none,.mov (.c (.bool false))⟩]) (.seq (.seq (.reg [⟨some 5,none,.mov (.c (.int .i64 0))⟩]) (.block 0 (.loop sc_s_l3Has_L0))) (.seq (.reg [⟨some 4,none,.mov (.c (.bool false))⟩]) .ret)))
theorem code_s_l3Has:fnCode Tryz.prog [] 98=some (22,sc_s_l3Has,[(4,none)]):=by kernel_rfl
open Classical in
noncomputable def F_s_l3Has:List V→Option V:=F2 dC dI fun c s=>if allS c.2∧isS s then some (.bool (dec (faceS c.2 s))) else none
theorem fn_s_l3Has:FnOk Tryz.prog 98 F_s_l3Has:=by
 refine fn_ok code_s_l3Has mixed envNil_ok ?_
 intro args r h hb
 obtain ⟨_,_,⟨n,l⟩,s,rfl,h1,h2,h4⟩:=F2_inv h
 cases dC_inv h1
 cases dI_inv h2
 simp only [Option.ite_none_right_eq_some,Option.some.injEq] at h4
 obtain ⟨⟨hS,hs⟩,rfl⟩:=h4
 have hlen:=bnd_eC (hb _ (List.mem_cons_self ..))
 simp only at hlen
 refine ⟨by simp,fun w0 U0 L0 N0 => ?_⟩
 generalize hv:dec (faceS l s)=v
 simp -implicitDefEqProofs [sc_s_l3Has]
 refine loopI envNil_ok mixed (fun k:Nat=>[(1,.int .i64 s),(2,.pt 0 0),(5,.int .i64 (k:Int))]) (fun _=>([(0,[.int .i64 n,.list 1 (ints l)])],1)) (fun k=>k≤l.length∧∀ j,j<k→¬subS s (at0 l j)) (fun k=>l.length-k) 0 (by simp) (SubI.slots rfl (by simp)) ?_
 rintro k ⟨hk,hn⟩
 by_cases hlt:k<l.length
 ·have hf:=allS_at hS hlt
  by_cases he:band (at0 l k) s=s
  ·have hv1:v=true:=hv ▸ dec_true ⟨_,getD_mem' hlt,(subS_iff' hs hf).2 he⟩
   simp -implicitDefEqProofs [sc_s_l3Has_L0,hlt,he,hv1]
   try omega
  ·simp -implicitDefEqProofs [sc_s_l3Has_L0,hlt,he]
   repeat' (first | omega | apply And.intro)
   refine Again.of (k+1) ⟨by omega,fun j hj => ?_⟩ (by omega) (SubI.slots rfl (by simp (disch:=omega) [wrapI]))
   rcases Nat.lt_succ_iff_lt_or_eq.1 hj with h1 | rfl
   ·exact hn j h1
   ·exact fun h=>he ((subS_iff' hs hf).1 h)
 ·have hv1:v=false:=by
   rw [← hv]
   refine dec_false ?_
   rintro ⟨f,h1,h2⟩
   obtain ⟨j,hj,rfl⟩:=getD_mem_iff.1 h1
   exact hn j (by omega) h2
  simp -implicitDefEqProofs [sc_s_l3Has_L0,hlt,hv1]
def sc_s_l2Order_L4:SC:=(.seq (.seq (.reg [⟨some 26,none,.mov (.t 7)⟩,⟨some 27,none,.bin false .lss (.t 26) (.c (.int .i64 64))⟩]) (.cond (.t 27) .skip (.exit 4))) (.seq (.block 5 (.seq (.reg [⟨some 30,none,.mov (.t 3)⟩,⟨some 31,none,.mov (.t 7)⟩,⟨some 32,none,.idx 1 (.t 30) (.t 31)⟩,⟨some 33,none,.ld none (.bool false) (.t 32)⟩,⟨some 34,none,.mov (.t 33)⟩,⟨some 35,some (34,true),.mov (.t 7)⟩,⟨some 36,some (34,true),.call 81 [.t 35]⟩,⟨some 37,some (34,true),.mov (.t 6)⟩,⟨some 38,some (34,true),.bin false .eql (.t 36) (.t 37)⟩,⟨some 39,none,.pick (.t 34) (.t 38) (.c (.bool false))⟩]) (.cond (.t 39) (.reg [⟨some 40,none,.mov (.t 5)⟩,⟨some 41,none,.mov (.t 7)⟩,⟨some 42,none,.mks 1 1 [.int .i64 0] [(0,(1,(.t 41)))]⟩,⟨some 43,none,.app 1 8 (.t 40) (.t 42)⟩,⟨some 5,none,.mov (.t 43)⟩]) .skip))) (.reg [⟨some 28,none,.mov (.t 7)⟩,⟨some 29,none,.bin false .add (.t 28) (.c (.int .i64 1))⟩,⟨some 7,none,.mov (.t 29)⟩])))
def sc_s_l2Order_L2:SC:=(.seq (.seq (.reg [⟨some 22,none,.mov (.t 6)⟩,⟨some 23,none,.bin false .leq (.t 22) (.c (.int .i64 6))⟩]) (.cond (.t 23) .skip (.exit 2))) (.seq (.block 3 (.seq (.reg [⟨some 7,none,.mov (.c (.int .i64 0))⟩]) (.block 4 (.loop sc_s_l2Order_L4)))) (.reg [⟨some 24,none,.mov (.t 6)⟩,⟨some 25,none,.bin false .add (.t 24) (.c (.int .i64 1))⟩,⟨some 6,none,.mov (.t 25)⟩])))
def sc_s_l2Order_L0:SC:=(.seq (.seq (.reg [⟨some 9,none,.mov (.t 4)⟩,⟨some 10,none,.mov (.t 0)⟩,⟨some 11,none,.len (.t 10)⟩,⟨some 12,none,.bin false .lss (.t 9) (.t 11)⟩]) (.cond (.t 12) .skip (.exit 0))) (.seq (.block 1 (.reg [⟨some 15,none,.mov (.t 3)⟩,⟨some 16,none,.mov (.t 0)⟩,⟨some 17,none,.mov (.t 4)⟩,⟨some 18,none,.idx 1 (.t 16) (.t 17)⟩,⟨some 19,none,.ld none (.int .i64 0) (.t 18)⟩,⟨some 20,none,.idx 1 (.t 15) (.t 19)⟩,⟨none,none,.st 1 (.t 20) (.c (.bool true))⟩])) (.reg [⟨some 13,none,.mov (.t 4)⟩,⟨some 14,none,.bin false .add (.t 13) (.c (.int .i64 1))⟩,⟨some 4,none,.mov (.t 14)⟩])))
def sc_s_l2Order:SC:=(.seq (.reg [⟨some 2,none,.mov (.c .nil)⟩]) (.seq (.reg [⟨some 8,none,.mk 1 1 [(.bool false)] (.c (.int .i64 64)) (.c (.int .i64 64))⟩,⟨some 3,none,.mov (.t 8)⟩]) (.seq (.seq (.reg [⟨some 4,none,.mov (.c (.int .i64 0))⟩]) (.block 0 (.loop sc_s_l2Order_L0))) (.seq (.reg [⟨some 21,none,.mks 0 1 [] []⟩,⟨some 5,none,.mov (.t 21)⟩]) (.seq (.seq (.reg [⟨some 6,none,.mov (.c (.int .i64 0))⟩]) (.block 2 (.loop sc_s_l2Order_L2))) (.seq (.reg [⟨some 44,none,.mov (.t 5)⟩,⟨some 2,none,.mov (.t 44)⟩]) .ret))))))
theorem code_s_l2Order:fnCode Tryz.prog [] 99=some (45,sc_s_l2Order,[(2,none)]):=by kernel_rfl
theorem bools_setI {p:Int→Prop} {s:Int} (hs:isS s):(bools p).set s.toNat (.bool true)=bools fun t=>p t∨t=s:=by
 obtain ⟨k,hk,rfl⟩:=isS_nat hs
 exact bools_set hk
@[simp high] theorem bools_getD {p:Int→Prop} {k:Nat} (hk:k<64) (d:V):(bools p).getD k d = .bool (dec (p (k:Int))):=by
 rw [List.getD_eq_getElem?_getD,bools_get hk]
open Classical in
noncomputable def F_s_l2Order:List V→Option V:=F1 dL fun l=>if allS l then some (.own 1 (ints (setsOf fun s=>s∈l))) else none
theorem fn_s_l2Order:FnOk Tryz.prog 99 F_s_l2Order:=by
 have env:=(envNil_ok (P:=Tryz.prog)).add fn_s_l2Size
 refine fn_ok code_s_l2Order mixed env ?_
 intro args r h hb
 obtain ⟨_,l,rfl,h1,h4⟩:=F1_inv h
 cases dL_inv h1
 simp only [Option.ite_none_right_eq_some,Option.some.injEq] at h4
 obtain ⟨hS,rfl⟩:=h4
 have hlen:=bnd_ints (hb _ (List.mem_cons_self ..))
 refine ⟨by simp,fun w0 U0 L0 N0 => ?_⟩
 have inner:∀ (p:Int→Prop) (z:Nat) (Q:Post) (L:Tm),z≤6→subE L [(3,.sl 0 1 0 64),(5,.sl 1 1 0 (ordS p z).length),(6,.int .i64 (z:Int)),(7,.int .i64 0)] →
   Q (.exit 4) [(3,.sl 0 1 0 64),(5,.sl 1 1 0 (ordS p (z+1)).length),(6,.int .i64 (z:Int))] ([(1,ints (ordS p (z+1))),(0,bools p)],2) →
   LoopI ⟨Tryz.prog,w0,U0,L0,N0,0,45⟩ [] sc_s_l2Order_L4 Q L ([(1,ints (ordS p z)),(0,bools p)],2):=by
  intro p z Q L hz hs q1
  have ob:=ordS_len p z
  refine loopQ env mixed (fun k:Nat=>[(3,.sl 0 1 0 64),(5,.sl 1 1 0 (ordS p z++upS (fun s=>p s∧sz s=z) k).length),(6,.int .i64 (z:Int)),(7,.int .i64 (k:Int))]) (fun k=>([(1,ints (ordS p z++upS (fun s=>p s∧sz s=z) k)),(0,bools p)],2)) (fun k=>k≤64) (fun k=>64-k) 0 (by simp)
   (SubI.slots (by simp [upS]) (by simpa [upS] using hs)) ?_
  intro k hk
  have ub:=upS_len (fun s=>p s∧sz s=z) k
  by_cases hlt:k<64
  ·have hlt':(k:Int)<64:=by omega
   have r1:(k:Int)<9223372036854775808:=by omega
   by_cases hp:p (k:Int)
   ·have hpd:=dec_true hp
    by_cases hsz:sz (k:Int)=(z:Int)
    ·have e:upS (fun s=>p s∧sz s=z) (k+1)=upS (fun s=>p s∧sz s=z) k++[(k:Int)]:=upS_pos ⟨hp,hsz⟩
     have e2:ordS p z++upS (fun s=>p s∧sz s=z) (k+1)=(ordS p z++upS (fun s=>p s∧sz s=z) k)++[(k:Int)]:=by rw [e,List.append_assoc]
     have gl:(ordS p z++upS (fun s=>p s∧sz s=z) k).length≤64*z+k:=by rw [List.length_append]; omega
     generalize hg:ordS p z++upS (fun s=>p s∧sz s=z) k=g at *
     simp -implicitDefEqProofs [sc_s_l2Order_L4,F_s_l2Size,hlt,hlt',r1,hpd,hsz]
     repeat' (first | omega | apply And.intro)
     refine Again.of (k+1) (by omega) (by omega) (SubI.ren (fun m=>if m=0 then some 0 else if m=1 then some 3 else none) ?_ ?_ ?_ (by simp) (by simp))
     ·have el:=congrArg List.length e2
      simp only [List.length_append,List.length_cons,List.length_nil] at el
      simp (disch:=omega) [subT,renV,ren1,wrapI,e2]
      omega
     ·simp [subH,e2,renL,ren1]
      rw [← ints_app]
      rfl
     ·intro m hm
      simp only at hm
      rw [if_neg (by omega),if_neg (by omega)]
    ·have e:upS (fun s=>p s∧sz s=z) (k+1)=upS (fun s=>p s∧sz s=z) k:=upS_neg fun h=>hsz h.2
     simp -implicitDefEqProofs [sc_s_l2Order_L4,F_s_l2Size,hlt,hlt',r1,hpd,hsz]
     repeat' (first | omega | apply And.intro)
     exact Again.of (k+1) (by omega) (by omega) (SubI.slots (by simp [e]) (by simp (disch:=omega) [wrapI,e]))
   ·have hpd:=dec_false hp
    have e:upS (fun s=>p s∧sz s=z) (k+1)=upS (fun s=>p s∧sz s=z) k:=upS_neg fun h=>hp h.1
    simp -implicitDefEqProofs [sc_s_l2Order_L4,hlt,hlt',hpd]
    repeat' (first | omega | apply And.intro)
    exact Again.of (k+1) (by omega) (by omega) (SubI.slots (by simp [e]) (by simp (disch:=omega) [wrapI,e]))
  ·have:k=64:=by omega
   subst this
   simp -implicitDefEqProofs [sc_s_l2Order_L4]
   exact SubQ.of (SubI.slots (by simp [ordS]) (by simp [ordS])) q1
 simp -implicitDefEqProofs [sc_s_l2Order]
 refine loopI env mixed (fun k:Nat=>[(0,.list 1 (ints l)),(3,.sl 0 1 0 64),(4,.int .i64 (k:Int))]) (fun k=>([(0,bools fun s=>s∈l.take k)],1)) (fun k=>k≤l.length) (fun k=>l.length-k) 0 (by simp) (SubI.slots (by simp [← bools_none]) (by simp)) ?_
 intro k hk
 by_cases hlt:k<l.length
 ·have hf:=allS_at hS hlt
  have e:(bools fun t=>t∈l.take k∨t=at0 l k)=bools fun t=>t∈l.take (k+1):=by
   rw [take_at hlt]
   exact bools_congr fun s _=>by simp
  have f0:=hf.1
  have f1:=hf.2
  have f2:(at0 l k).toNat<64:=by omega
  have es:=bools_setI (p:=fun t=>t∈l.take k) hf
  simp -implicitDefEqProofs [sc_s_l2Order_L0,hlt,f0,f1,f2,es,e]
  repeat' (first | omega | apply And.intro)
  exact Again.of (k+1) (by omega) (by omega) (SubI.slots (by simp) (by simp (disch:=omega) [wrapI]))
 ·have:k=l.length:=by omega
  subst this
  simp -implicitDefEqProofs [sc_s_l2Order_L0]
  refine loopI env mixed (fun z:Nat=>[(3,.sl 0 1 0 64),(5,.sl 1 1 0 (ordS (fun s=>s∈l) z).length),(6,.int .i64 (z:Int))]) (fun z=>([(1,ints (ordS (fun s=>s∈l) z)),(0,bools fun s=>s∈l)],2)) (fun z=>z≤7) (fun z=>7-z) 0 (by simp) (SubI.slots (by simp [ordS]) (by simp [ordS])) ?_
  intro z hz
  by_cases h7:z<7
  ·have hz6:(z:Int)≤6:=by omega
   simp -implicitDefEqProofs [sc_s_l2Order_L2,hz6]
   refine inner _ z _ _ (by omega) (by simp) ?_
   simp -implicitDefEqProofs
   exact Again.of (z+1) (by omega) (by omega) (SubI.slots (by simp) (by simp (disch:=omega) [wrapI]))
  ·have:z=7:=by omega
   subst this
   simp -implicitDefEqProofs [sc_s_l2Order_L2,setsOf_eq]
def sc_s_FacesOf_L0:SC:=(.seq (.seq (.reg [⟨some 6,none,.mov (.t 4)⟩,⟨some 7,none,.bin false .lss (.t 6) (.c (.int .i64 64))⟩,⟨some 8,none,.mov (.t 7)⟩,⟨some 9,some (8,true),.ld (some 2) .undef (.t 1)⟩,⟨some 10,some (8,true),.call 44 [.t 9]⟩,⟨some 11,none,.pick (.t 8) (.t 10) (.c (.bool false))⟩]) (.cond (.t 11) .skip (.exit 0))) (.seq (.block 1 (.seq (.reg [⟨some 14,none,.ld (some 2) .undef (.t 1)⟩,⟨some 15,none,.mov (.t 4)⟩,⟨some 16,none,.call 98 [.t 14,.t 15]⟩]) (.cond (.t 16) (.reg [⟨some 17,none,.mov (.t 3)⟩,⟨some 18,none,.mov (.t 4)⟩,⟨some 19,none,.mks 1 1 [.int .i64 0] [(0,(1,(.t 18)))]⟩,⟨some 20,none,.app 1 8 (.t 17) (.t 19)⟩,⟨some 3,none,.mov (.t 20)⟩]) .skip))) (.reg [⟨some 12,none,.mov (.t 4)⟩,⟨some 13,none,.bin false .add (.t 12) (.c (.int .i64 1))⟩,⟨some 4,none,.mov (.t 13)⟩])))
def sc_s_FacesOf:SC:=(.seq (.reg [⟨some 1,none,.box (.t 0)⟩,⟨some 2,none,.mov (.c .nil)⟩]) (.seq (.reg [⟨some 5,none,.mks 0 1 [] []⟩,⟨some 3,none,.mov (.t 5)⟩]) (.seq (.seq (.reg [⟨some 4,none,.mov (.c (.int .i64 0))⟩]) (.block 0 (.loop sc_s_FacesOf_L0))) (.seq (.reg [⟨some 21,none,.mov (.t 3)⟩,⟨some 22,none,.call 99 [.t 21]⟩,⟨some 2,none,.mov (.t 22)⟩]) .ret))))
theorem code_s_FacesOf:fnCode Tryz.prog [] 80=some (23,sc_s_FacesOf,[(2,none)]):=by kernel_rfl
noncomputable def facesL (n:Int) (l:List Int):List Int:=setsOf fun s=>cplx n l∧faceS l s
theorem facesL_of {n:Int} {l:List Int} (h:cplx n l):facesL n l=setsOf (faceS l):=setsOf_congr fun s _=>⟨fun a=>a.2,fun a=>⟨h,a⟩⟩
theorem facesL_not {n:Int} {l:List Int} (h:¬cplx n l):facesL n l=[]:=by
 rw [← setsOf_none]
 exact setsOf_congr fun s _=>⟨fun a=>h a.1,False.elim⟩
noncomputable def F_s_FacesOf:List V→Option V:=F1 dC fun c=>some (.own 1 (ints (facesL c.1 c.2)))
theorem fn_s_FacesOf:FnOk Tryz.prog 80 F_s_FacesOf:=by
 have env:=(((envNil_ok (P:=Tryz.prog)).add fn_s_l3Has).add fn_s_l2Order).add fn_s_IsComplex
 refine fn_ok code_s_FacesOf mixed env ?_
 intro args r h hb
 obtain ⟨_,⟨n,l⟩,rfl,h1,h4⟩:=F1_inv h
 cases dC_inv h1
 cases h4
 refine ⟨by simp,fun w0 U0 L0 N0 => ?_⟩
 simp -implicitDefEqProofs [sc_s_FacesOf]
 cases hc:cplxB n l with
 | false =>
  have e:(setsOf fun x=>x∈([]:List Int))=facesL n l:=by
   rw [facesL_not fun h=>by simp [cplxB_iff.2 h] at hc]
   exact (setsOf_congr (q:=fun _=>False) fun s _=>by simp).trans setsOf_none
  refine loopI env mixed (fun _:Unit=>[(1,.pt 0 0),(3,.sl 1 1 0 0),(4,.int .i64 0)]) (fun _=>([(1,[]),(0,[.int .i64 n,.list 1 (ints l)])],2)) (fun _=>True) (fun _=>0) () trivial (SubI.slots (by simp) (by simp)) ?_
  intro _ _
  simp at e
  simp -implicitDefEqProofs [sc_s_FacesOf_L0,F_s_IsComplex,hc,F_s_l2Order,allS,e]
 | true =>
  have hcp:=cplxB_iff.1 hc
  have hS:=cplx_isS hcp
  refine loopI env mixed (fun k:Nat=>[(1,.pt 0 0),(3,.sl 1 1 0 (upS (faceS l) k).length),(4,.int .i64 (k:Int))]) (fun k=>([(1,ints (upS (faceS l) k)),(0,[.int .i64 n,.list 1 (ints l)])],2)) (fun k=>k≤64) (fun k=>64-k) 0 (by simp) (SubI.slots (by simp [upS]) (by simp [upS])) ?_
  intro k hk
  have ub:=upS_len (faceS l) k
  by_cases hlt:k<64
  ·have hlt':(k:Int)<64:=by omega
   have hkS:=inS k hlt
   by_cases hp:faceS l (k:Int)
   ·have e:upS (faceS l) (k+1)=upS (faceS l) k++[(k:Int)]:=upS_pos hp
    have hpd:=dec_true hp
    simp -implicitDefEqProofs [sc_s_FacesOf_L0,F_s_IsComplex,F_s_l3Has,hc,hlt',hS,hkS,hpd]
    repeat' (first | omega | apply And.intro)
    refine Again.of (k+1) (by omega) (by omega) (SubI.ren (fun m=>if m=0 then some 0 else if m=1 then some 3 else none) ?_ ?_ ?_ (by simp) (by simp))
    ·simp (disch:=omega) [subT,renV,ren1,wrapI,e]
    ·simp [subH,e,renL,ren1]
     rw [← ints_app]
     rfl
    ·intro m hm
     simp only at hm
     rw [if_neg (by omega),if_neg (by omega)]
   ·have e:upS (faceS l) (k+1)=upS (faceS l) k:=upS_neg hp
    have hpd:=dec_false hp
    simp -implicitDefEqProofs [sc_s_FacesOf_L0,F_s_IsComplex,F_s_l3Has,hc,hlt',hS,hkS,hpd]
    repeat' (first | omega | apply And.intro)
    exact Again.of (k+1) (by omega) (by omega) (SubI.slots (by simp [e]) (by simp (disch:=omega) [wrapI,e]))
  ·have:k=64:=by omega
   subst this
   have e:(setsOf fun x=>x∈upS (faceS l) 64)=facesL n l:=by
    rw [facesL_of hcp]
    exact setsOf_congr fun x hx=>by rw [mem_upS64]; exact ⟨fun h=>h.2,fun h=>⟨hx,h⟩⟩
   simp -implicitDefEqProofs [sc_s_FacesOf_L0,F_s_l2Order,allS_upS,e]
def sc_s_l2Extreme_L2:SC:=(.seq (.seq (.reg [⟨some 21,none,.mov (.t 9)⟩,⟨some 22,none,.mov (.t 5)⟩,⟨some 23,none,.len (.t 22)⟩,⟨some 24,none,.bin false .lss (.t 21) (.t 23)⟩]) (.cond (.t 24) .skip (.exit 2))) (.seq (.block 3 (.seq (.reg [⟨some 27,none,.mov (.t 5)⟩,⟨some 28,none,.mov (.t 7)⟩,⟨some 29,none,.idx 1 (.t 27) (.t 28)⟩,⟨some 30,none,.ld none (.int .i64 0) (.t 29)⟩,⟨some 10,none,.mov (.t 30)⟩]) (.seq (.reg [⟨some 31,none,.mov (.t 5)⟩,⟨some 32,none,.mov (.t 9)⟩,⟨some 33,none,.idx 1 (.t 31) (.t 32)⟩,⟨some 34,none,.ld none (.int .i64 0) (.t 33)⟩,⟨some 11,none,.mov (.t 34)⟩]) (.seq (.reg [⟨some 35,none,.mov (.t 10)⟩,⟨some 36,none,.mov (.t 11)⟩,⟨some 37,none,.bin false .neq (.t 35) (.t 36)⟩,⟨some 38,none,.mov (.t 37)⟩,⟨some 39,some (38,true),.mov (.t 1)⟩,⟨some 40,some (38,true),.mov (.t 39)⟩,⟨some 41,some (40,true),.mov (.t 10)⟩,⟨some 42,some (40,true),.mov (.t 11)⟩,⟨some 43,some (40,true),.bin false .and (.t 41) (.t 42)⟩,⟨some 44,some (40,true),.mov (.t 10)⟩,⟨some 45,some (40,true),.bin false .eql (.t 43) (.t 44)⟩,⟨some 46,some (38,true),.pick (.t 40) (.t 45) (.c (.bool false))⟩,⟨some 47,some (38,true),.mov (.t 46)⟩,⟨some 48,some (47,false),.mov (.t 1)⟩,⟨some 49,some (47,false),.un .not (.t 48)⟩,⟨some 50,some (47,false),.mov (.t 49)⟩,⟨some 51,some (50,true),.mov (.t 10)⟩,⟨some 52,some (50,true),.mov (.t 11)⟩,⟨some 53,some (50,true),.bin false .and (.t 51) (.t 52)⟩,⟨some 54,some (50,true),.mov (.t 11)⟩,⟨some 55,some (50,true),.bin false .eql (.t 53) (.t 54)⟩,⟨some 56,some (47,false),.pick (.t 50) (.t 55) (.c (.bool false))⟩,⟨some 57,some (38,true),.pick (.t 47) (.c (.bool true)) (.t 56)⟩,⟨some 58,none,.pick (.t 38) (.t 57) (.c (.bool false))⟩]) (.cond (.t 58) (.reg [⟨some 8,none,.mov (.c (.bool false))⟩]) .skip))))) (.reg [⟨some 25,none,.mov (.t 9)⟩,⟨some 26,none,.bin false .add (.t 25) (.c (.int .i64 1))⟩,⟨some 9,none,.mov (.t 26)⟩])))
def sc_s_l2Extreme_L0:SC:=(.seq (.seq (.reg [⟨some 15,none,.mov (.t 7)⟩,⟨some 16,none,.mov (.t 5)⟩,⟨some 17,none,.len (.t 16)⟩,⟨some 18,none,.bin false .lss (.t 15) (.t 17)⟩]) (.cond (.t 18) .skip (.exit 0))) (.seq (.block 1 (.seq (.reg [⟨some 8,none,.mov (.c (.bool true))⟩]) (.seq (.seq (.reg [⟨some 9,none,.mov (.c (.int .i64 0))⟩]) (.block 2 (.loop sc_s_l2Extreme_L2))) (.seq (.reg [⟨some 59,none,.mov (.t 8)⟩]) (.cond (.t 59) (.reg [⟨some 60,none,.mov (.t 6)⟩,⟨some 61,none,.mov (.t 5)⟩,⟨some 62,none,.mov (.t 7)⟩,⟨some 63,none,.idx 1 (.t 61) (.t 62)⟩,⟨some 64,none,.ld none (.int .i64 0) (.t 63)⟩,⟨some 65,none,.mks 1 1 [.int .i64 0] [(0,(1,(.t 64)))]⟩,⟨some 66,none,.app 1 8 (.t 60) (.t 65)⟩,⟨some 6,none,.mov (.t 66)⟩]) .skip))))) (.reg [⟨some 19,none,.mov (.t 7)⟩,⟨some 20,none,.bin false .add (.t 19) (.c (.int .i64 1))⟩,⟨some 7,none,.mov (.t 20)⟩])))
def sc_s_l2Extreme:SC:=(.seq (.reg [⟨some 4,none,.mov (.c .nil)⟩]) (.seq (.reg [⟨some 12,none,.mov (.t 0)⟩,⟨some 13,none,.call 99 [.t 12]⟩,⟨some 5,none,.mov (.t 13)⟩]) (.seq (.reg [⟨some 14,none,.mks 0 1 [] []⟩,⟨some 6,none,.mov (.t 14)⟩]) (.seq (.seq (.reg [⟨some 7,none,.mov (.c (.int .i64 0))⟩]) (.block 0 (.loop sc_s_l2Extreme_L0))) (.seq (.reg [⟨some 67,none,.mov (.t 6)⟩,⟨some 4,none,.mov (.t 67)⟩]) .ret)))))
theorem code_s_l2Extreme:fnCode Tryz.prog [] 105=some (68,sc_s_l2Extreme,[(4,none)]):=by kernel_rfl
noncomputable def F_s_l2Extreme:List V→Option V:=F2 dL dB fun l g => @ite _ (allS l∧g=true) (Classical.propDecidable _) (some (.own 1 (ints (setsOf (maxP fun s=>s∈l))))) none
theorem fn_s_l2Extreme:FnOk Tryz.prog 105 F_s_l2Extreme:=by
 have env:=(envNil_ok (P:=Tryz.prog)).add fn_s_l2Order
 refine fn_ok code_s_l2Extreme mixed env ?_
 intro args r h hb
 obtain ⟨_,_,l,gr,rfl,h1,h2,h4⟩:=F2_inv h
 cases dL_inv h1
 cases dB_inv h2
 clear h
 simp only [Option.ite_none_right_eq_some,Option.some.injEq] at h4
 obtain ⟨⟨hS,rfl⟩,rfl⟩:=h4
 have hF:F_s_l2Order [.list 1 (ints l)]=some (.own 1 (ints (setsOf fun s=>s∈l))):=by
  simp only [F_s_l2Order,F1_mk,dL_list,Option.bind_some]
  rw [if_pos hS]
 refine ⟨by simp,fun w0 U0 L0 N0 => ?_⟩
 clear hb
 generalize hpp:(fun s=>s∈l)=p at *
 rw [← filt_max]
 have hmx:=fun k=>max_iff_all p (k:=k)
 have hL:=allS_setsOf p
 have hLl:=setsOf_len p
 generalize setsOf p=L at *
 generalize hq:(fun s=>dec (maxP p s))=q
 have inner:∀ (k:Nat) (g:List Int) (Q:Post) (T0:Tm),k<L.length→subE T0 [(1,.bool true),(5,.sl 0 1 0 L.length),(6,.sl 1 1 0 g.length),(7,.int .i64 (k:Int)),(8,.bool true),(9,.int .i64 0)] →
   (∀ b:Bool,b=q (at0 L k)→Q (.exit 2) [(1,.bool true),(5,.sl 0 1 0 L.length),(6,.sl 1 1 0 g.length),(7,.int .i64 (k:Int)),(8,.bool b)] ([(1,ints g),(0,ints L)],2)) →
   LoopI ⟨Tryz.prog,w0,U0,L0,N0,0,68⟩ [] sc_s_l2Extreme_L2 Q T0 ([(1,ints g),(0,ints L)],2):=by
  intro k g Q T0 hk hs q1
  obtain ⟨D,hD⟩:∃ D:Nat→Bool,∀ j,D j=dec (∀ i,i<j→at0 L k≠at0 L i→¬subS (at0 L k) (at0 L i)):=⟨_,fun _=>rfl⟩
  have hD0:D 0=true:=by rw [hD]; exact dec_true (by omega)
  refine loopQ env mixed (fun j:Nat=>[(1,.bool true),(5,.sl 0 1 0 L.length),(6,.sl 1 1 0 g.length),(7,.int .i64 (k:Int)),(8,.bool (D j)),(9,.int .i64 (j:Int))]) (fun _=>([(1,ints g),(0,ints L)],2))
   (fun j=>j≤L.length) (fun j=>L.length-j) 0 (by simp) (SubI.slots rfl (by simpa [hD0] using hs)) ?_
  intro j hj
  by_cases hlt:j<L.length
  ·have hs1:=allS_at hL hk
   have hs2:=allS_at hL hlt
   have same:(at0 L k≠at0 L j→¬subS (at0 L k) (at0 L j))→D (j+1)=D j:=fun hh=>by
    rw [hD,hD,Bool.eq_iff_iff,dec_iff,dec_iff]
    refine ⟨fun h i hi=>h i (by omega),fun h i hi => ?_⟩
    rcases Nat.lt_succ_iff_lt_or_eq.1 hi with h1 | rfl
    ·exact h i h1
    ·exact hh
   by_cases h1:at0 L k=at0 L j
   ·have e:=same fun h=>absurd h1 h
    simp -implicitDefEqProofs [sc_s_l2Extreme_L2,hlt,hk,h1]
    repeat' (first | omega | apply And.intro)
    exact Again.of (j+1) (by omega) (by omega) (SubI.slots rfl (by simp only [subE_cons,subE_nil,e]; simp (disch:=omega) [wrapI]))
   ·by_cases h2:band (at0 L k) (at0 L j)=at0 L k
    ·have e:D (j+1)=false:=by
      rw [hD]
      exact dec_false fun h=>h j (by omega) h1 ((subS_iff hs1 hs2).2 h2)
     simp -implicitDefEqProofs [sc_s_l2Extreme_L2,hlt,hk,h1,h2]
     repeat' (first | omega | apply And.intro)
     exact Again.of (j+1) (by omega) (by omega) (SubI.slots rfl (by simp only [subE_cons,subE_nil,e]; simp (disch:=omega) [wrapI]))
    ·have e:=same fun _ h=>h2 ((subS_iff hs1 hs2).1 h)
     simp -implicitDefEqProofs [sc_s_l2Extreme_L2,hlt,hk,h1,h2]
     repeat' (first | omega | apply And.intro)
     exact Again.of (j+1) (by omega) (by omega) (SubI.slots rfl (by simp only [subE_cons,subE_nil,e]; simp (disch:=omega) [wrapI]))
  ·have hj2:j=L.length:=by omega
   subst hj2
   have q2:=q1 (D L.length) (by rw [hD,← hq,Bool.eq_iff_iff,dec_iff,dec_iff]; exact (hmx k hk).symm)
   simp -implicitDefEqProofs [sc_s_l2Extreme_L2]
   exact SubQ.of (SubI.slots rfl (by simp)) q2
 simp -implicitDefEqProofs [sc_s_l2Extreme,hF]
 refine loopI env mixed (fun k:Nat=>[(1,.bool true),(5,.sl 0 1 0 L.length),(6,.sl 1 1 0 ((L.take k).filter q).length),(7,.int .i64 (k:Int))]) (fun k=>([(1,ints ((L.take k).filter q)),(0,ints L)],2)) (fun k=>k≤L.length) (fun k=>L.length-k) 0 (by simp) (SubI.slots (by simp) (by simp)) ?_
 intro k hk
 have gl:=filt_len L k q
 by_cases hlt:k<L.length
 ·have hnx:∀ b:Bool,q (at0 L k)=b→(L.take (k+1)).filter q=if b=true then (L.take k).filter q++[at0 L k] else (L.take k).filter q:=fun b hb=>by
   cases b with
   | true=>exact filt_pos hlt hb
   | false=>exact filt_neg hlt hb
  generalize hgg:(L.take k).filter q=g at *
  simp -implicitDefEqProofs [sc_s_l2Extreme_L0,hlt]
  repeat' (first | omega | apply And.intro)
  refine inner k g _ _ hlt (by simp) ?_
  intro b hb
  cases hqk:q (at0 L k) with
  | true =>
   rw [hqk] at hb
   subst hb
   have e:=hnx true hqk
   simp only [if_true] at e
   simp -implicitDefEqProofs [hlt]
   repeat' (first | omega | apply And.intro)
   refine Again.of (k+1) (by omega) (by omega) (SubI.ren (fun m=>if m=0 then some 0 else if m=1 then some 3 else none) ?_ ?_ ?_ (by simp) (by simp))
   ·simp only [e]
    simp (disch:=omega) [subT,renV,ren1,wrapI]
   ·simp only [e]
    simp [subH,renL,ren1]
    rw [← ints_app]
    rfl
   ·intro m hm
    simp only at hm
    rw [if_neg (by omega),if_neg (by omega)]
  | false =>
   rw [hqk] at hb
   subst hb
   have e:=hnx false hqk
   simp only [Bool.false_eq_true,if_false] at e
   simp -implicitDefEqProofs
   exact Again.of (k+1) (by omega) (by omega) (SubI.slots (by simp only [e]) (by simp only [e]; simp (disch:=omega) [wrapI]))
 ·have:k=L.length:=by omega
  subst this
  simp -implicitDefEqProofs [sc_s_l2Extreme_L0]
def sc_s_l3Make:SC:=(.seq (.reg [⟨some 4,none,.new [.int .i64 0,.nil]⟩]) (.seq (.reg [⟨some 5,none,.mov (.t 0)⟩,⟨some 6,none,.mov (.t 1)⟩,⟨some 7,none,.call 105 [.t 6,(.c (.bool true))]⟩,⟨some 8,none,.agg [.int .i64 0,.nil] [(0,(1,(.t 5))),(1,(1,(.t 7)))]⟩,⟨none,none,.st 2 (.t 4) (.t 8)⟩]) .ret))
theorem code_s_l3Make:fnCode Tryz.prog [] 90=some (9,sc_s_l3Make,[(4,(some 2))]):=by kernel_rfl
noncomputable def F_s_l3Make:List V→Option V:=F2 dI dL fun n l => @ite _ (allS l) (Classical.propDecidable _) (some (.agg [.int .i64 n,.own 1 (ints (setsOf (maxP fun s=>s∈l)))])) none
theorem fn_s_l3Make:FnOk Tryz.prog 90 F_s_l3Make:=by
 have env:=(envNil_ok (P:=Tryz.prog)).add fn_s_l2Extreme
 refine fn_ok code_s_l3Make mixed env ?_
 intro args r h hb
 obtain ⟨_,_,n,l,rfl,h1,h2,h4⟩:=F2_inv h
 cases dI_inv h1
 cases dL_inv h2
 clear h
 simp only [Option.ite_none_right_eq_some,Option.some.injEq] at h4
 obtain ⟨hS,rfl⟩:=h4
 refine ⟨by simp,fun w0 U0 L0 N0 => ?_⟩
 simp -implicitDefEqProofs [sc_s_l3Make,F_s_l2Extreme,hS]
def sc_i_topSize_L0:SC:=(.seq (.seq (.reg [⟨some 5,none,.mov (.t 4)⟩,⟨some 6,none,.bin false .lss (.t 5) (.c (.int .i64 64))⟩]) (.cond (.t 6) .skip (.exit 0))) (.seq (.block 1 (.seq (.reg [⟨some 9,none,.mov (.t 0)⟩,⟨some 10,none,.mov (.t 4)⟩,⟨some 11,none,.call 68 [.t 9,.t 10]⟩,⟨some 12,none,.mov (.t 11)⟩,⟨some 13,some (12,true),.mov (.t 4)⟩,⟨some 14,some (12,true),.call 69 [.t 13]⟩,⟨some 15,some (12,true),.mov (.t 3)⟩,⟨some 16,some (12,true),.bin false .gtr (.t 14) (.t 15)⟩,⟨some 17,none,.pick (.t 12) (.t 16) (.c (.bool false))⟩]) (.cond (.t 17) (.reg [⟨some 18,none,.mov (.t 4)⟩,⟨some 19,none,.call 69 [.t 18]⟩,⟨some 3,none,.mov (.t 19)⟩]) .skip))) (.reg [⟨some 7,none,.mov (.t 4)⟩,⟨some 8,none,.bin false .add (.t 7) (.c (.int .i64 1))⟩,⟨some 4,none,.mov (.t 8)⟩])))
def sc_i_topSize:SC:=(.seq (.reg [⟨some 2,none,.mov (.c (.int .i64 0))⟩]) (.seq (.reg [⟨some 3,none,.mov (.c (.int .i64 (-1)))⟩]) (.seq (.seq (.reg [⟨some 4,none,.mov (.c (.int .i64 0))⟩]) (.block 0 (.loop sc_i_topSize_L0))) (.seq (.reg [⟨some 20,none,.mov (.t 3)⟩,⟨some 2,none,.mov (.t 20)⟩]) .ret))))
theorem code_i_topSize:fnCode Tryz.prog [] 67=some (21,sc_i_topSize,[(2,none)]):=by kernel_rfl
open Classical in
noncomputable def topF (p:Int→Prop):Nat→Int
 | 0 => -1
 | k+1=>if p (k:Int)∧topF p k<sz (k:Int) then sz (k:Int) else topF p k
theorem topF_pos {p:Int→Prop} {k:Nat} (h:p (k:Int)) (h2:topF p k<sz (k:Int)):topF p (k+1)=sz (k:Int):=by simp only [topF,if_pos (show p (k:Int)∧topF p k<sz (k:Int) from ⟨h,h2⟩)]
theorem topF_neg {p:Int→Prop} {k:Nat} (h:¬(p (k:Int)∧topF p k<sz (k:Int))):topF p (k+1)=topF p k:=by simp only [topF,if_neg h]
theorem topF_bnd (p:Int→Prop):∀ k,k≤64 → -1≤topF p k∧topF p k≤6
 | 0,_=>by simp [topF]
 | k+1,h=>by
  have ih:=topF_bnd p k (by omega)
  have:=sz_six (inS k (by omega))
  have:=sz_nn (k:Int)
  by_cases hc:p (k:Int)∧topF p k<sz (k:Int)
  ·rw [topF_pos hc.1 hc.2]; omega
  ·rw [topF_neg hc]; exact ih
theorem topF_ge {p:Int→Prop}:∀ {k:Nat} {s:Int},0≤s→s<k→p s→sz s≤topF p k
 | 0,s,h0,h,_=>by omega
 | k+1,s,h0,h,hp=>by
  by_cases e:s=(k:Int)
  ·subst e
   by_cases hc:p (k:Int)∧topF p k<sz (k:Int)
   ·rw [topF_pos hc.1 hc.2]; omega
   ·rw [topF_neg hc]
    have:¬(topF p k<sz (k:Int)):=fun h=>hc ⟨hp,h⟩
    omega
  ·have ih:=topF_ge (k:=k) h0 (by omega) hp
   by_cases hc:p (k:Int)∧topF p k<sz (k:Int)
   ·rw [topF_pos hc.1 hc.2]; omega
   ·rw [topF_neg hc]; exact ih
theorem topF_hit {p:Int→Prop}:∀ {k:Nat},topF p k = -1∨∃ s:Int,0≤s∧s<k∧p s∧sz s=topF p k
 | 0 => .inl rfl
 | k+1=>by
  by_cases hc:p (k:Int)∧topF p k<sz (k:Int)
  ·rw [topF_pos hc.1 hc.2]
   exact .inr ⟨k,by omega,by omega,hc.1,rfl⟩
  ·rw [topF_neg hc]
   rcases topF_hit (p:=p) (k:=k) with h | ⟨s,a,b,c,d⟩
   ·exact .inl h
   ·exact .inr ⟨s,a,by omega,c,d⟩
theorem topF_congr {p q:Int→Prop} (h:∀ s,isS s→(p s↔q s)):∀ {k:Nat},k≤64→topF p k=topF q k
 | 0,_=>rfl
 | k+1,hk=>by
  have ih:=topF_congr h (k:=k) (by omega)
  have e:=h k (inS k (by omega))
  by_cases hc:p (k:Int)∧topF p k<sz (k:Int)
  ·rw [topF_pos hc.1 hc.2,topF_pos (e.1 hc.1) (by rw [← ih]; exact hc.2)]
  ·rw [topF_neg hc,topF_neg fun hq=>hc ⟨e.2 hq.1,by rw [ih]; exact hq.2⟩,ih]
theorem topZ_ex (p:Int→Prop):∃ m:Int,m=topF p 64:=⟨_,rfl⟩
noncomputable def topZ (p:Int→Prop):Int:=Classical.choose (topZ_ex p)
theorem topZ_eq (p:Int→Prop):topZ p=topF p 64:=Classical.choose_spec (topZ_ex p)
theorem topZ_bnd (p:Int→Prop) : -1≤topZ p∧topZ p≤6:=by rw [topZ_eq]; exact topF_bnd p 64 (Nat.le_refl _)
theorem topZ_ge {p:Int→Prop} {s:Int} (hs:isS s) (hp:p s):sz s≤topZ p:=by rw [topZ_eq]; exact topF_ge hs.1 hs.2 hp
theorem topZ_hit (p:Int→Prop):topZ p = -1∨∃ s,isS s∧p s∧sz s=topZ p:=by
 rw [topZ_eq]
 rcases topF_hit (p:=p) (k:=64) with h | ⟨s,a,b,c,d⟩
 ·exact .inl h
 ·exact .inr ⟨s,⟨a,b⟩,c,d⟩
theorem topZ_congr {p q:Int→Prop} (h:∀ s,isS s→(p s↔q s)):topZ p=topZ q:=by rw [topZ_eq,topZ_eq,topF_congr h (Nat.le_refl _)]
noncomputable def topG (f:Int):Option V:=@ite _ (0≤f∧f<18446744073709551616) (Classical.propDecidable _) (some (.int .i64 (topZ (bitP f)))) none
theorem topG_fam (p:Int→Prop):topG (fam p)=some (.int .i64 (topZ p)):=by
 unfold topG
 rw [if_pos ⟨fam_nn p,fam_lt p⟩,topZ_congr fun s hs=>bitP_fam hs]
noncomputable def F_i_topSize:List V→Option V:=F1 dU topG
theorem fn_i_topSize:FnOk Tryz.prog 67 F_i_topSize:=by
 have env:=((envNil_ok (P:=Tryz.prog)).add fn_i_SizeOf).add fn_i_hasSet
 refine fn_ok code_i_topSize mixed env ?_
 intro args r h hb
 obtain ⟨_,f,rfl,h1,h4⟩:=F1_inv h
 cases dU_inv h1
 clear h
 simp only [topG,Option.ite_none_right_eq_some,Option.some.injEq] at h4
 obtain ⟨⟨hf1,hf2⟩,rfl⟩:=h4
 have hf:=fam_bitP hf1 hf2
 generalize bitP f=p at *
 subst hf
 refine ⟨by simp,fun w0 U0 L0 N0 => ?_⟩
 simp -implicitDefEqProofs [sc_i_topSize]
 refine loopI env mixed (fun k:Nat=>[(0,.int .u64 (fam p)),(3,.int .i64 (topF p k)),(4,.int .i64 (k:Int))]) (fun _=>([],0)) (fun k=>k≤64) (fun k=>64-k) 0 (by simp) (SubI.slots rfl (by simp [topF])) ?_
 intro k hk
 by_cases hlt:k<64
 ·have hlt':(k:Int)<64:=by omega
  have hkS:=inS k hlt
  have hg:=hasG_fam (p:=p) hkS
  have r1:=sizeOf1_set hkS.1 hkS.2
  by_cases hp:p (k:Int)
  ·rw [dec_true hp] at hg
   by_cases h2:topF p k<sz (k:Int)
   ·have e:=topF_pos hp h2
    simp -implicitDefEqProofs [sc_i_topSize_L0,F_i_hasSet,F_i_SizeOf,hlt',hg,r1,h2]
    repeat' (first | omega | apply And.intro)
    exact Again.of (k+1) (by omega) (by omega) (SubI.slots rfl (by simp (disch:=omega) [wrapI,e]))
   ·have e:=topF_neg (p:=p) (k:=k) fun h=>h2 h.2
    simp -implicitDefEqProofs [sc_i_topSize_L0,F_i_hasSet,F_i_SizeOf,hlt',hg,r1,h2]
    repeat' (first | omega | apply And.intro)
    exact Again.of (k+1) (by omega) (by omega) (SubI.slots rfl (by simp (disch:=omega) [wrapI,e]))
  ·rw [dec_false hp] at hg
   have e:=topF_neg (p:=p) (k:=k) fun h=>hp h.1
   simp -implicitDefEqProofs [sc_i_topSize_L0,F_i_hasSet,hlt',hg]
   repeat' (first | omega | apply And.intro)
   exact Again.of (k+1) (by omega) (by omega) (SubI.slots rfl (by simp (disch:=omega) [wrapI,e]))
 ·have:k=64:=by omega
  subst this
  simp -implicitDefEqProofs [sc_i_topSize_L0,topZ_eq]
end Go.Proofs.YtkoljbncokmeaaaGreatDoor
