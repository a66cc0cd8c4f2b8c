import Derived.Test.YtkoljbncokmeaaaGreatDoorMEF
import Derived.Test.YtkoljbncokmeaaaGreatDoorMEE
namespace Go.Proofs.YtkoljbncokmeaaaGreatDoor
open Go Go.RowKit
set_option maxRecDepth 1000000
set_option linter.unusedSimpArgs false
set_option linter.unusedVariables false
set_option maxHeartbeats 1000000
noncomputable def sgnZ (r s:Int):Int:=@ite _ (subS r s) (Classical.propDecidable _) (1-2*(sz (band s (bnot s r-1)) % 2)) 0
theorem sgnZ_no {r s:Int} (h:¬subS r s):sgnZ r s=0:=by unfold sgnZ; rw [if_neg h]
theorem sgnZ_yes {r s:Int} (h:subS r s):sgnZ r s=1-2*(sz (band s (bnot s r-1)) % 2):=by unfold sgnZ; rw [if_pos h]
theorem sgnZ_bnd (r s:Int) : -1≤sgnZ r s∧sgnZ r s≤1:=by
 by_cases h:subS r s
 ·rw [sgnZ_yes h]; omega
 ·rw [sgnZ_no h]; omega
theorem sgn_set {r s:Int} (hr:isS r) (hs:isS s) (hz:sz s=sz r+1) (h:subS r s):isS (bnot s r)∧isS (bnot s r-1):=by
 have hb:=isS_bnot hs hr
 have hne:bnot s r≠0:=fun e=>by
  have:=subS_anti hs hr e h
  rw [this] at hz
  omega
 have h1:=hb.1
 have h2:=hb.2
 exact ⟨hb,by omega,by omega⟩
noncomputable def F_s_l13Sign:List V→Option V:=F2 dI dI fun r s => @ite _ (isS r∧isS s∧sz s=sz r+1) (Classical.propDecidable _) (some (.int .i64 (sgnZ r s))) none
theorem tmod_nn {a:Int} (p:Int) (h:0≤a):a.tmod p=a % p:=Int.tmod_eq_emod_of_nonneg h
theorem tmod_neg {a:Int} (p:Int) (h:a<0):a.tmod p = -((-a) % p):=by
 have h1:=tmod_nn (a := -a) p (by omega)
 rw [Int.neg_tmod] at h1
 omega
theorem rest_eq {a p:Int} (hp:fpP p):(a.tmod p<0→a.tmod p+p=a % p)∧(¬a.tmod p<0→a.tmod p=a % p) ∧ -5<a.tmod p∧a.tmod p<5∧(a.tmod p+p).tmod p=a % p:=by
 have key:∀ t:Int,(a.tmod p=t)→(t<0→t+p=a % p)→(¬t<0→t=a % p) → -p<t→t<p→(a.tmod p<0→a.tmod p+p=a % p)∧(¬a.tmod p<0→a.tmod p=a % p) ∧ -5<a.tmod p∧a.tmod p<5∧(a.tmod p+p).tmod p=a % p:=by
  intro t e h1 h2 h3 h4
  rw [e,tmod_nn p (by omega)]
  have h5:p≤5:=by rcases hp with rfl | rfl | rfl <;> omega
  refine ⟨h1,h2,by omega,by omega,?_⟩
  rcases hp with rfl | rfl | rfl <;> omega
 by_cases ha:a<0
 ·refine key _ (tmod_neg p ha) ?_ ?_ ?_ ?_ <;> rcases hp with rfl | rfl | rfl <;> omega
 ·refine key _ (tmod_nn p (by omega)) ?_ ?_ ?_ ?_ <;> rcases hp with rfl | rfl | rfl <;> omega
theorem fpP_bnd {p:Int} (hp:fpP p):2≤p∧p≤5∧p≠0:=by rcases hp with rfl | rfl | rfl <;> omega
noncomputable def F_i_restMod:List V→Option V:=F2 dI dI fun a p => @ite _ (fpP p) (Classical.propDecidable _) (some (.int .i64 (a % p))) none
noncomputable def sgnM (R C:List Int):List (List Int):=R.map fun r=>C.map (sgnZ r)
@[simp] theorem sgnM_len (R C:List Int):(sgnM R C).length=R.length:=by simp [sgnM]
theorem sgnM_at {R C:List Int} {i:Nat} (h:i<R.length):atR (sgnM R C) i=C.map (sgnZ (at0 R i)):=by
 rw [atR_eq (by simpa using h),at0_eq h]
 simp [sgnM]
noncomputable def borM (n:Int) (l:List Int) (k:Int):List (List Int):=sgnM (fosL n l (k-1)) (fosL n l k)
theorem mem_fosL {n:Int} {l:List Int} {k s:Int} (h:s∈fosL n l k):isS s∧cplx n l∧faceS l s∧sz s=k:=mem_setsOf.1 h
noncomputable def F_i_BorderMatrix:List V→Option V:=F2 dC dI fun c k => @ite _ (cplx c.1 c.2∧1≤k∧k≤6) (Classical.propDecidable _) (some (.own 1 (rowsV (borM c.1 c.2 k)))) none
def padR (M:List (List Int)) (i:Nat):List (List Int):=(List.range M.length).map fun j=>if j<i then atR M j else []
@[simp] theorem padR_len (M:List (List Int)) (i:Nat):(padR M i).length=M.length:=by simp [padR]
theorem padR_zero (M:List (List Int)):padR M 0=List.replicate M.length []:=by
 apply List.ext_getElem (by simp)
 intro j h1 h2
 simp [padR]
theorem padR_full (M:List (List Int)):padR M M.length=M:=by
 apply List.ext_getElem (by simp)
 intro j h1 h2
 simp [padR,h2,atR_eq h2]
theorem padR_set {M:List (List Int)} {i:Nat} (h:i<M.length):(padR M i).set i (atR M i)=padR M (i+1):=by
 apply List.ext_getElem (by simp)
 intro j h1 h2
 rw [List.getElem_set]
 simp only [padR,List.getElem_map,List.getElem_range]
 by_cases e:i=j
 ·subst e; simp
 ·by_cases h3:j<i
  ·simp [e,h3,show j<i+1 by omega]
  ·simp [e,h3,show ¬j<i+1 by omega]
theorem rowsV_self {M:List (List Int)} {i:Nat} (h:i<M.length):(rowsV M).set i (.own 1 (ints (atR M i)))=rowsV M:=by
 rw [rowsV_set]
 congr 1
 apply List.ext_getElem (by simp)
 intro j h1 h2
 rw [List.getElem_set]
 by_cases e:i=j
 ·subst e; simp [atR_eq h]
 ·simp [e]
theorem rowsV_snoc {M:List (List Int)} {i:Nat} (h:i<M.length) (v:V):(rowsV (M.take i)++[v]).set i (.own 1 (ints (atR M i)))=rowsV (M.take (i+1)):=by
 have hl:(rowsV (M.take i)).length=i:=by simp; omega
 have e:M.take (i+1)=M.take i++[atR M i]:=by rw [List.take_succ_eq_append_getElem h,atR_eq h]
 rw [List.set_append,if_neg (by omega),hl,Nat.sub_self,e,← rowsV_app]
 rfl
noncomputable def sgR (r:Int) (C:List Int) (j:Nat):List Int:=rowF C.length fun q => @ite _ (q<j) (Classical.propDecidable _) (sgnZ r (at0 C q)) 0
@[simp] theorem sgR_len (r:Int) (C:List Int) (j:Nat):(sgR r C j).length=C.length:=by simp [sgR]
theorem sgR_zero (r:Int) (C:List Int):sgR r C 0=List.replicate C.length 0:=by
 rw [rowF_zero]
 exact rowF_congr fun j _=>by rw [if_neg (by omega)]
theorem sgR_full (r:Int) (C:List Int):sgR r C C.length=C.map (sgnZ r):=by
 rw [← rowF_map C (sgnZ r)]
 exact rowF_congr fun j hj=>by rw [if_pos hj]
theorem sgR_set {r:Int} {C:List Int} {j:Nat} (h:j<C.length):(sgR r C j).set j (sgnZ r (at0 C j))=sgR r C (j+1):=by
 unfold sgR
 rw [rowF_set h]
 refine rowF_congr fun i hi => ?_
 by_cases e:i=j
 ·rw [if_pos e,e,if_pos (by omega)]
 ·rw [if_neg e]
  by_cases h3:i<j
  ·rw [if_pos h3,if_pos (by omega)]
  ·rw [if_neg h3,if_neg (by omega)]
def sc_i_borderSign:SC:=(.seq (.reg [⟨some 4,none,.mov (.c (.int .i64 0))⟩]) (.seq (.seq (.reg [⟨some 6,none,.mov (.t 0)⟩,⟨some 7,none,.mov (.t 1)⟩,⟨some 8,none,.bin false .andNot (.t 6) (.t 7)⟩,⟨some 9,none,.bin false .neq (.t 8) (.c (.int .i64 0))⟩]) (.cond (.t 9) (.seq (.reg [⟨some 4,none,.mov (.c (.int .i64 0))⟩]) .ret) .skip)) (.seq (.reg [⟨some 10,none,.mov (.t 1)⟩,⟨some 11,none,.mov (.t 0)⟩,⟨some 12,none,.bin false .andNot (.t 10) (.t 11)⟩,⟨some 5,none,.mov (.t 12)⟩]) (.seq (.seq (.reg [⟨some 13,none,.mov (.t 1)⟩,⟨some 14,none,.mov (.t 5)⟩,⟨some 15,none,.bin false .sub (.t 14) (.c (.int .i64 1))⟩,⟨some 16,none,.bin false .and (.t 13) (.t 15)⟩,⟨some 17,none,.call 69 [.t 16]⟩,⟨some 18,none,.bin false .rem (.t 17) (.c (.int .i64 2))⟩,⟨some 19,none,.bin false .eql (.t 18) (.c (.int .i64 0))⟩]) (.cond (.t 19) (.seq (.reg [⟨some 4,none,.mov (.c (.int .i64 1))⟩]) .ret) .skip)) (.seq (.reg [⟨some 4,none,.mov (.c (.int .i64 (-1)))⟩]) .ret)))))
theorem code_i_borderSign:fnCode Tryz.prog [] 71=some (20,sc_i_borderSign,[(4,none)]):=by kernel_rfl
theorem fn_i_borderSign:FnOk Tryz.prog 71 F_s_l13Sign:=by
 have env:=(envNil_ok (P:=Tryz.prog)).add fn_i_SizeOf
 refine fn_ok code_i_borderSign mixed env ?_
 intro args r h hb
 obtain ⟨_,_,r,s,rfl,h1,h2,h4⟩:=F2_inv h
 cases dI_inv h1
 cases dI_inv h2
 simp only [Option.ite_none_right_eq_some,Option.some.injEq] at h4
 obtain ⟨⟨hr,hs,hz⟩,rfl⟩:=h4
 clear h
 refine ⟨by simp,fun w0 U0 L0 N0 => ?_⟩
 clear hb
 by_cases h:bnot r s=0
 rotate_left
 ·have e:=sgnZ_no (r:=r) (s:=s) h
  simp -implicitDefEqProofs [sc_i_borderSign,h,e]
 have e:=sgnZ_yes (r:=r) (s:=s) h
 obtain ⟨q1,q2⟩:=sgn_set hr hs hz h
 have q3:=q1.1
 have q4:=q1.2
 have hb:=isS_band hs q2
 have r1:=sizeOf1_set hb.1 hb.2
 have hw:IntKind.i64.wrap (bnot s r-1)=bnot s r-1:=wrapI _ (by omega) (by omega)
 have hz0:=sz_nn (band s (bnot s r-1))
 generalize sz (band s (bnot s r-1))=z at *
 have ht:=tmod_nn 2 hz0
 by_cases h2:z % 2=0
 ·rw [h2] at e ht
  simp -implicitDefEqProofs [sc_i_borderSign,F_i_SizeOf,h,e,hw,r1,ht]
 ·have h3:z % 2=1:=by omega
  rw [h3] at e ht
  simp -implicitDefEqProofs [sc_i_borderSign,F_i_SizeOf,h,e,hw,r1,ht]
def sc_i_restMod:SC:=(.seq (.reg [⟨some 4,none,.mov (.c (.int .i64 0))⟩]) (.seq (.reg [⟨some 6,none,.mov (.t 0)⟩,⟨some 7,none,.mov (.t 1)⟩,⟨some 8,none,.bin false .rem (.t 6) (.t 7)⟩,⟨some 5,none,.mov (.t 8)⟩]) (.seq (.seq (.reg [⟨some 9,none,.mov (.t 5)⟩,⟨some 10,none,.bin false .lss (.t 9) (.c (.int .i64 0))⟩]) (.cond (.t 10) (.reg [⟨some 11,none,.mov (.t 5)⟩,⟨some 12,none,.mov (.t 1)⟩,⟨some 13,none,.bin false .add (.t 11) (.t 12)⟩,⟨some 5,none,.mov (.t 13)⟩]) .skip)) (.seq (.reg [⟨some 14,none,.mov (.t 5)⟩,⟨some 4,none,.mov (.t 14)⟩]) .ret))))
theorem code_i_restMod:fnCode Tryz.prog [] 92=some (15,sc_i_restMod,[(4,none)]):=by kernel_rfl
def sc_s_l13Mod:SC:=(.seq (.reg [⟨some 4,none,.mov (.c (.int .i64 0))⟩]) (.seq (.reg [⟨some 5,none,.mov (.t 0)⟩,⟨some 6,none,.mov (.t 1)⟩,⟨some 7,none,.bin false .rem (.t 5) (.t 6)⟩,⟨some 8,none,.mov (.t 1)⟩,⟨some 9,none,.bin false .add (.t 7) (.t 8)⟩,⟨some 10,none,.mov (.t 1)⟩,⟨some 11,none,.bin false .rem (.t 9) (.t 10)⟩,⟨some 4,none,.mov (.t 11)⟩]) .ret))
theorem code_s_l13Mod:fnCode Tryz.prog [] 103=some (12,sc_s_l13Mod,[(4,none)]):=by kernel_rfl
theorem fn_s_l13Mod:FnOk Tryz.prog 103 F_i_restMod:=by
 refine fn_ok code_s_l13Mod mixed envNil_ok ?_
 intro args r h hb
 obtain ⟨_,_,a,p,rfl,h1,h2,h4⟩:=F2_inv h
 cases dI_inv h1
 cases dI_inv h2
 simp only [Option.ite_none_right_eq_some,Option.some.injEq] at h4
 obtain ⟨hp,rfl⟩:=h4
 clear h
 refine ⟨by simp,fun w0 U0 L0 N0 => ?_⟩
 clear hb
 obtain ⟨_,_,e3,e4,e5⟩:=rest_eq (a:=a) hp
 obtain ⟨p1,p2,p3⟩:=fpP_bnd hp
 have hw:IntKind.i64.wrap (a.tmod p+p)=a.tmod p+p:=wrapI _ (by omega) (by omega)
 simp -implicitDefEqProofs [sc_s_l13Mod,p3,hw,e5]
def invR (a p v:Int):Prop:=(v=0∧∀ b:Nat,1≤b→(b:Int)<p→(a % p*b) % p≠1)∨∃ m:Nat,v=m∧1≤m∧(m:Int)<p∧(a % p*m) % p=1∧∀ b:Nat,1≤b→b<m→(a % p*b) % p≠1
theorem least_nat (q:Nat→Prop) (k:Nat):(∀ i,i<k→¬q i)∨∃ m,m<k∧q m∧∀ i,i<m→¬q i:=by
 induction k with
 | zero=>exact .inl fun i hi=>by omega
 | succ k ih =>
  rcases ih with h | ⟨m,a,b,c⟩
  ·by_cases hq:q k
   ·exact .inr ⟨k,by omega,hq,h⟩
   ·refine .inl fun i hi => ?_
    rcases Nat.lt_succ_iff_lt_or_eq.1 hi with h1 | rfl
    ·exact h i h1
    ·exact hq
  ·exact .inr ⟨m,by omega,b,c⟩
theorem inv_ex (a p:Int):∃ v,invR a p v:=by
 rcases least_nat (fun b=>1≤b∧(b:Int)<p∧(a % p*b) % p=1) p.toNat with h | ⟨m,h1,⟨h2,h3,h4⟩,h5⟩
 ·exact ⟨0,.inl ⟨rfl,fun b hb hbp e=>h b (by omega) ⟨hb,hbp,e⟩⟩⟩
 ·exact ⟨m,.inr ⟨m,rfl,h2,h3,h4,fun b hb hbm e=>h5 b hbm ⟨hb,by omega,e⟩⟩⟩
noncomputable def invZ (a p:Int):Int:=Classical.choose (inv_ex a p)
theorem invZ_spec (a p:Int):invR a p (invZ a p):=Classical.choose_spec (inv_ex a p)
theorem invZ_hit {a p:Int} {m:Nat} (h1:1≤m) (h2:(m:Int)<p) (h3:(a % p*m) % p=1) (h4:∀ b:Nat,1≤b→b<m→(a % p*b) % p≠1):invZ a p=m:=by
 rcases invZ_spec a p with ⟨_,h⟩ | ⟨k,e,k1,k2,k3,k4⟩
 ·exact absurd h3 (h m h1 h2)
 ·rw [e]
  rcases Nat.lt_trichotomy m k with h | h | h
  ·exact absurd h3 (k4 m h1 h)
  ·rw [h]
  ·exact absurd k3 (h4 k k1 h)
theorem invZ_none {a p:Int} (h:∀ b:Nat,1≤b→(b:Int)<p→(a % p*b) % p≠1):invZ a p=0:=by
 rcases invZ_spec a p with ⟨e,_⟩ | ⟨k,_,k1,k2,k3,_⟩
 ·exact e
 ·exact absurd k3 (h k k1 k2)
theorem invZ_bnd {a p:Int} (hp:fpP p):0≤invZ a p∧invZ a p<p:=by
 have:=fpP_bnd hp
 rcases invZ_spec a p with ⟨e,_⟩ | ⟨k,e,k1,k2,_⟩ <;> omega
theorem mulB {x y p:Int} (hp:p≤5) (h1:0≤x) (h2:x<p) (h3:0≤y) (h4:y<p):0≤x*y∧x*y≤16:=by
 refine ⟨Int.mul_nonneg h1 h3,?_⟩
 have:=Int.mul_le_mul (show x≤4 by omega) (show y≤4 by omega) h3 (by omega)
 omega
theorem emodB {a p:Int} (hp:fpP p):0≤a % p∧a % p<p:=by
 have:=fpP_bnd hp
 exact ⟨Int.emod_nonneg _ (by omega),Int.emod_lt_of_pos _ (by omega)⟩
noncomputable def F_s_InverseMod:List V→Option V:=F2 dI dI fun a p => @ite _ (fpP p) (Classical.propDecidable _) (some (.int .i64 (invZ a p))) none
theorem fn_restMod_at {p:Int} (hp:fpP p) (a:Int):F_i_restMod [.int .i64 a,.int .i64 p]=some (.int .i64 (a % p)):=by
 simp only [F_i_restMod,F2_mk,dI_int,Option.bind_some]
 rw [if_pos hp]
def sc_s_InverseMod_L0:SC:=(.seq (.seq (.reg [⟨some 9,none,.mov (.t 5)⟩,⟨some 10,none,.mov (.t 1)⟩,⟨some 11,none,.bin false .lss (.t 9) (.t 10)⟩]) (.cond (.t 11) .skip (.exit 0))) (.seq (.block 1 (.seq (.reg [⟨some 14,none,.mov (.t 0)⟩,⟨some 15,none,.mov (.t 1)⟩,⟨some 16,none,.call 103 [.t 14,.t 15]⟩,⟨some 17,none,.mov (.t 5)⟩,⟨some 18,none,.bin false .mul (.t 16) (.t 17)⟩,⟨some 19,none,.mov (.t 1)⟩,⟨some 20,none,.bin false .rem (.t 18) (.t 19)⟩,⟨some 21,none,.bin false .eql (.t 20) (.c (.int .i64 1))⟩]) (.cond (.t 21) (.seq (.reg [⟨some 22,none,.mov (.t 5)⟩,⟨some 4,none,.mov (.t 22)⟩]) .ret) .skip))) (.reg [⟨some 12,none,.mov (.t 5)⟩,⟨some 13,none,.bin false .add (.t 12) (.c (.int .i64 1))⟩,⟨some 5,none,.mov (.t 13)⟩])))
def sc_s_InverseMod:SC:=(.seq (.reg [⟨some 4,none,.mov (.c (.int .i64 0))⟩]) (.seq (.seq (.reg [⟨some 6,none,.mov (.t 1)⟩,⟨some 7,none,.call 49 [.t 6]⟩,⟨some 8,none,.un .not (.t 7)⟩]) (.cond (.t 8) (.seq (.reg [⟨some 4,none,.mov (.c (.int .i64 0))⟩]) .ret) .skip)) (.seq (.seq (.reg [⟨some 5,none,.mov (.c (.int .i64 1))⟩]) (.block 0 (.loop sc_s_InverseMod_L0))) (.seq (.reg [⟨some 4,none,.mov (.c (.int .i64 0))⟩]) .ret))))
theorem code_s_InverseMod:fnCode Tryz.prog [] 111=some (23,sc_s_InverseMod,[(4,none)]):=by kernel_rfl
theorem fn_s_InverseMod:FnOk Tryz.prog 111 F_s_InverseMod:=by
 have env:=((envNil_ok (P:=Tryz.prog)).add fn_s_IsFieldPrime).add fn_s_l13Mod
 refine fn_ok code_s_InverseMod mixed env ?_
 intro args r h hb
 obtain ⟨_,_,a,p,rfl,h1,h2,h4⟩:=F2_inv h
 cases dI_inv h1
 cases dI_inv h2
 simp only [Option.ite_none_right_eq_some,Option.some.injEq] at h4
 obtain ⟨hp,rfl⟩:=h4
 clear h
 refine ⟨by simp,fun w0 U0 L0 N0 => ?_⟩
 clear hb
 have hd:=dec_true hp
 have hFm:=fn_restMod_at hp
 obtain ⟨p1,p2,p3⟩:=fpP_bnd hp
 obtain ⟨q1,q2⟩:=emodB (a:=a) hp
 have hhit:=fun (m:Nat) h1 h2 h3 h4=>invZ_hit (a:=a) (p:=p) (m:=m) h1 h2 h3 h4
 have hnone:=invZ_none (a:=a) (p:=p)
 generalize invZ a p=v at *
 generalize hc:a % p=c at *
 simp -implicitDefEqProofs [sc_s_InverseMod,F_s_IsFieldPrime,hd,hFm,hc]
 refine loopI env mixed (fun k:Nat=>[(0,.int .i64 a),(1,.int .i64 p),(5,.int .i64 (k:Int))]) (fun _=>([],0)) (fun k=>1≤k∧(k:Int)≤p∧∀ b:Nat,1≤b→b<k→(c*b) % p≠1) (fun k=>p.toNat-k) 1 ⟨by omega,by omega,fun b h1 h2=>by omega⟩ (SubI.slots rfl (by simp)) ?_
 rintro k ⟨hk1,hkp,hI⟩
 by_cases hlt:(k:Int)<p
 ·obtain ⟨m1,m2⟩:=mulB p2 q1 q2 (show (0:Int)≤k by omega) hlt
  have hw:IntKind.i64.wrap (c*(k:Int))=c*k:=wrapI _ (by omega) (by omega)
  have ht:=tmod_nn p m1
  by_cases h1:(c*(k:Int)) % p=1
  ·have e:=hhit k hk1 hlt h1 hI
   subst e
   simp -implicitDefEqProofs [sc_s_InverseMod_L0,hFm,hc,hlt,hw,ht,h1,p3]
  ·simp -implicitDefEqProofs [sc_s_InverseMod_L0,hFm,hc,hlt,hw,ht,h1,p3]
   repeat' (first | omega | apply And.intro)
   refine Again.of (k+1) ⟨by omega,by omega,fun b hb1 hb2 => ?_⟩ (by omega) (SubI.slots rfl (by simp (disch:=omega) [wrapI]))
   rcases Nat.lt_succ_iff_lt_or_eq.1 hb2 with h | rfl
   ·exact hI b hb1 h
   ·exact h1
 ·have e:=hnone fun b hb1 hb2=>hI b hb1 (by omega)
  subst e
  simp -implicitDefEqProofs [sc_s_InverseMod_L0,hlt]
noncomputable def pK (r:List Int) (g:Nat→Int) (t:Nat):List Int:=rowF r.length fun q => @ite _ (q<t) (Classical.propDecidable _) (g q) (at0 r q)
@[simp] theorem pK_len (r:List Int) (g:Nat→Int) (t:Nat):(pK r g t).length=r.length:=by simp [pK]
theorem rowF_self (r:List Int):rowF r.length (at0 r)=r:=by
 apply at0_ext (by simp)
 intro j hj
 exact rowF_at (by simpa using hj)
theorem pK_zero (r:List Int) (g:Nat→Int):pK r g 0=r:=by
 rw [pK,rowF_congr (h:=at0 r) fun j _=>by rw [if_neg (by omega)],rowF_self]
theorem pK_full (r:List Int) (g:Nat→Int):pK r g r.length=rowF r.length g:=rowF_congr fun j hj=>by rw [if_pos hj]
theorem pK_at {r:List Int} {g:Nat→Int} {t q:Nat} (hq:q<r.length) (h:t≤q):at0 (pK r g t) q=at0 r q:=by
 unfold pK
 rw [rowF_at hq,if_neg (by omega)]
theorem pK_set {r:List Int} {g:Nat→Int} {t:Nat} (h:t<r.length):(pK r g t).set t (g t)=pK r g (t+1):=by
 unfold pK
 rw [rowF_set h]
 refine rowF_congr fun i hi => ?_
 by_cases e:i=t
 ·rw [if_pos e,e,if_pos (by omega)]
 ·rw [if_neg e]
  by_cases h3:i<t
  ·rw [if_pos h3,if_pos (by omega)]
  ·rw [if_neg h3,if_neg (by omega)]
noncomputable def pM (M:List (List Int)) (G:Nat→List Int) (i:Nat):List (List Int):=(List.range M.length).map fun k => @ite _ (k<i) (Classical.propDecidable _) (G k) (atR M k)
@[simp] theorem pM_len (M:List (List Int)) (G:Nat→List Int) (i:Nat):(pM M G i).length=M.length:=by simp [pM]
theorem pM_lt {M:List (List Int)} {G:Nat→List Int} {i k:Nat} (hk:k<M.length) (h:k<i):atR (pM M G i) k=G k:=by
 rw [atR_eq (by simpa using hk)]
 simp [pM,h]
theorem pM_ge {M:List (List Int)} {G:Nat→List Int} {i k:Nat} (hk:k<M.length) (h:i≤k):atR (pM M G i) k=atR M k:=by
 rw [atR_eq (by simpa using hk)]
 simp [pM,show ¬k<i by omega]
theorem atR_ext {M N:List (List Int)} (h:M.length=N.length) (e:∀ k,k<M.length→atR M k=atR N k):M=N:=by
 apply List.ext_getElem h
 intro k h1 h2
 rw [← atR_eq h1,← atR_eq h2,e k h1]
theorem pM_zero (M:List (List Int)) (G:Nat→List Int):pM M G 0=M:=atR_ext (by simp) fun k hk=>pM_ge (by simpa using hk) (by omega)
theorem pM_set {M:List (List Int)} {G:Nat→List Int} {i:Nat} (h:i<M.length):(pM M G i).set i (G i)=pM M G (i+1):=atR_ext (by simp) fun k hk=>by
 simp only [List.length_set,pM_len] at hk
 rw [atR_set]
 by_cases e:i=k
 ·subst e
  rw [if_pos ⟨rfl,by simpa using hk⟩,pM_lt hk (by omega)]
 ·rw [if_neg fun h=>e h.1]
  by_cases h3:k<i
  ·rw [pM_lt hk h3,pM_lt hk (by omega)]
  ·rw [pM_ge hk (by omega),pM_ge hk (by omega)]
theorem pM_keep {M:List (List Int)} {G:Nat→List Int} {i:Nat} (h:i<M.length) (e:G i=atR M i):pM M G (i+1)=pM M G i:=by
 rw [← pM_set h,e]
 refine atR_ext (by simp) fun k hk => ?_
 rw [atR_set]
 by_cases e2:i=k
 ·subst e2
  rw [if_pos ⟨rfl,by simpa using h⟩,pM_ge h (by omega)]
 ·rw [if_neg fun h=>e2 h.1]
def okM (p:Int) (w:Nat) (M:List (List Int)):Prop:=∀ i,i<M.length→(atR M i).length=w∧∀ j,j<w→0≤at0 (atR M i) j∧at0 (atR M i) j<p
def sclG (p f:Int) (r:List Int) (q:Nat):Int:=at0 r q*f % p
noncomputable def sclR (p f:Int) (r:List Int):List Int:=rowF r.length (sclG p f r)
def elG (p c:Int) (r q:List Int) (j:Nat):Int:=(at0 r j-c*at0 q j) % p
noncomputable def elimR (p c:Int) (r q:List Int):List Int:=rowF r.length (elG p c r q)
@[simp] theorem sclR_len (p f:Int) (r:List Int):(sclR p f r).length=r.length:=by simp [sclR]
@[simp] theorem elimR_len (p c:Int) (r q:List Int):(elimR p c r q).length=r.length:=by simp [elimR]
noncomputable def clrG (p:Int) (M:List (List Int)) (d j i:Nat):List Int:=@ite _ (i=d) (Classical.propDecidable _) (atR M i) (elimR p (at0 (atR M i) j) (atR M i) (atR M d))
theorem clrG_d (p:Int) (M:List (List Int)) (d j:Nat):clrG p M d j d=atR M d:=by unfold clrG; rw [if_pos rfl]
theorem clrG_ne {p:Int} {M:List (List Int)} {d j i:Nat} (h:i≠d):clrG p M d j i=elimR p (at0 (atR M i) j) (atR M i) (atR M d):=by unfold clrG; rw [if_neg h]
noncomputable def clrM (p:Int) (M:List (List Int)) (d j:Nat):List (List Int):=pM M (clrG p M d j) M.length
noncomputable def sclM (p:Int) (M:List (List Int)) (d j:Nat):List (List Int):=M.set d (sclR p (invZ (at0 (atR M d) j) p) (atR M d))
def swp (M:List (List Int)) (d a:Nat):List (List Int):=(M.set d (atR M a)).set a (atR M d)
noncomputable def pivM (p:Int) (M:List (List Int)) (d a j:Nat):List (List Int):=clrM p (sclM p (swp M d a) d j) d j
@[simp] theorem clrM_len (p:Int) (M:List (List Int)) (d j:Nat):(clrM p M d j).length=M.length:=by simp [clrM]
@[simp] theorem sclM_len (p:Int) (M:List (List Int)) (d j:Nat):(sclM p M d j).length=M.length:=by simp [sclM]
@[simp] theorem swp_len (M:List (List Int)) (d a:Nat):(swp M d a).length=M.length:=by simp [swp]
@[simp] theorem pivM_len (p:Int) (M:List (List Int)) (d a j:Nat):(pivM p M d a j).length=M.length:=by simp [pivM]
theorem swp_at {M:List (List Int)} {d a k:Nat} (hd:d<M.length) (ha:a<M.length) (hk:k<M.length):atR (swp M d a) k=if k=a then atR M d else if k=d then atR M a else atR M k:=by
 unfold swp
 rw [atR_set]
 by_cases e:a=k
 ·subst e
  rw [if_pos ⟨rfl,by simpa using ha⟩,if_pos rfl]
 ·rw [if_neg fun h=>e h.1,if_neg fun h=>e h.symm,atR_set]
  by_cases e2:d=k
  ·subst e2
   rw [if_pos ⟨rfl,hd⟩,if_pos rfl]
  ·rw [if_neg fun h=>e2 h.1,if_neg fun h=>e2 h.symm]
theorem okM_swp {p:Int} {w:Nat} {M:List (List Int)} (h:okM p w M) {d a:Nat} (hd:d<M.length) (ha:a<M.length):okM p w (swp M d a):=fun i hi=>by
 rw [swp_len] at hi
 rw [swp_at hd ha hi]
 split
 ·exact h d hd
 ·split
  ·exact h a ha
  ·exact h i hi
theorem okM_scl {p:Int} {w:Nat} {M:List (List Int)} (hp:fpP p) (h:okM p w M) {d:Nat} (j:Nat) (hd:d<M.length):okM p w (sclM p M d j):=fun i hi=>by
 rw [sclM_len] at hi
 unfold sclM
 rw [atR_set]
 split
 ·refine ⟨by rw [sclR_len]; exact (h d hd).1,fun q hq => ?_⟩
  unfold sclR
  rw [rowF_at (by rw [(h d hd).1]; exact hq)]
  exact emodB hp
 ·exact h i hi
theorem okM_clr {p:Int} {w:Nat} {M:List (List Int)} (hp:fpP p) (h:okM p w M) (d j:Nat):okM p w (clrM p M d j):=fun i hi=>by
 rw [clrM_len] at hi
 unfold clrM
 rw [pM_lt hi hi]
 by_cases e:i=d
 ·subst e
  rw [clrG_d]
  exact h i hi
 ·rw [clrG_ne e]
  refine ⟨by rw [elimR_len]; exact (h i hi).1,fun q hq => ?_⟩
  unfold elimR
  rw [rowF_at (by rw [(h i hi).1]; exact hq)]
  exact emodB hp
theorem okM_piv {p:Int} {w:Nat} {M:List (List Int)} (hp:fpP p) (h:okM p w M) {d a:Nat} (j:Nat) (hd:d<M.length) (ha:a<M.length):okM p w (pivM p M d a j) :=
 okM_clr hp (okM_scl hp (okM_swp h hd ha) j (by simpa using hd)) d j
noncomputable def fndZ (M:List (List Int)) (j:Nat):Nat→Nat→Nat
 | 0,i=>i
 | k+1,i => @ite _ (at0 (atR M i) j=0) (Classical.propDecidable _) (fndZ M j k (i+1)) i
theorem fndZ_yes {M:List (List Int)} {j k i:Nat} (h:at0 (atR M i) j=0):fndZ M j (k+1) i=fndZ M j k (i+1):=by rw [fndZ,if_pos h]
theorem fndZ_no {M:List (List Int)} {j k i:Nat} (h:¬at0 (atR M i) j=0):fndZ M j (k+1) i=i:=by rw [fndZ,if_neg h]
theorem fndZ_bnd (M:List (List Int)) (j:Nat) (k:Nat):∀ i,i≤fndZ M j k i∧fndZ M j k i≤i+k:=by
 induction k with
 | zero=>intro i; simp [fndZ]
 | succ k ih =>
  intro i
  by_cases h:at0 (atR M i) j=0
  ·rw [fndZ_yes h]
   have:=ih (i+1)
   omega
  ·rw [fndZ_no h]; omega
noncomputable def redC (p:Int) (j:Nat) (x:List (List Int)×List Int):List (List Int)×List Int :=
 @ite _ (x.2.length<x.1.length∧fndZ x.1 j (x.1.length-x.2.length) x.2.length<x.1.length) (Classical.propDecidable _) (pivM p x.1 x.2.length (fndZ x.1 j (x.1.length-x.2.length) x.2.length) j,x.2++[(j:Int)]) x
noncomputable def redS (p:Int) (M:List (List Int)):Nat→List (List Int)×List Int
 | 0=>(M,[])
 | j+1=>redC p j (redS p M j)
theorem redC_yes {p:Int} {j:Nat} {M:List (List Int)} {P:List Int} {a:Nat} (ha:fndZ M j (M.length-P.length) P.length=a) (h1:P.length<M.length) (h2:a<M.length):redC p j (M,P)=(pivM p M P.length a j,P++[(j:Int)]):=by
 subst ha
 unfold redC
 rw [if_pos ⟨h1,h2⟩]
theorem redC_no {p:Int} {j:Nat} {M:List (List Int)} {P:List Int} (h:¬(P.length<M.length∧fndZ M j (M.length-P.length) P.length<M.length)):redC p j (M,P)=(M,P):=by
 unfold redC
 rw [if_neg h]
structure redI (p:Int) (w:Nat) (M0:List (List Int)) (j:Nat) (x:List (List Int)×List Int):Prop where
 ok:okM p w x.1
 hl:x.1.length=M0.length
 hp:x.2.length≤x.1.length
 hj:∀ q,q<x.2.length→0≤at0 x.2 q∧at0 x.2 q<j
 hs:x.2.length≤j
theorem redI_step {p:Int} {w:Nat} {M0:List (List Int)} {j:Nat} {x:List (List Int)×List Int} (hp:fpP p) (h:redI p w M0 j x):redI p w M0 (j+1) (redC p j x):=by
 obtain ⟨M,P⟩:=x
 by_cases hc:P.length<M.length∧fndZ M j (M.length-P.length) P.length<M.length
 ·rw [redC_yes rfl hc.1 hc.2]
  refine ⟨okM_piv hp h.ok j hc.1 hc.2,by have:=h.hl; simpa using this,by simp only [pivM_len,List.length_append,List.length_singleton]; omega,fun q hq => ?_,by have:=h.hs; simp only [List.length_append,List.length_singleton] at *; omega⟩
  simp only [List.length_append,List.length_singleton] at hq
  simp only
  rw [at0_app]
  split
  ·have:=h.hj q (by assumption)
   simp only at this
   omega
  ·rw [show q-P.length=0 by omega]
   simp only [at0,List.getElem?_cons_zero,Option.getD_some]
   omega
 ·rw [redC_no hc]
  exact ⟨h.ok,h.hl,h.hp,fun q hq=>by have:=h.hj q hq; omega,by have:=h.hs; omega⟩
theorem redI_all {p:Int} {w:Nat} {M0:List (List Int)} (hp:fpP p) (h:okM p w M0) (j:Nat):redI p w M0 j (redS p M0 j):=by
 induction j with
 | zero=>exact ⟨h,rfl,by simp [redS],fun q hq=>by simp [redS] at hq,by simp [redS]⟩
 | succ j ih=>exact redI_step hp ih
theorem redS_stop {p:Int} {M:List (List Int)} {j:Nat} (h:(redS p M j).2.length=(redS p M j).1.length):∀ k,redS p M (j+k)=redS p M j:=by
 intro k
 induction k with
 | zero=>rfl
 | succ k ih =>
  rw [← Nat.add_assoc,redS,ih]
  generalize redS p M j=x at *
  obtain ⟨M,P⟩:=x
  exact redC_no fun hc=>by simp only at h; omega
noncomputable def zK (m:Nat) (g:Nat→Int) (t:Nat):List Int:=rowF m fun q => @ite _ (q<t) (Classical.propDecidable _) (g q) 0
@[simp] theorem zK_len (m:Nat) (g:Nat→Int) (t:Nat):(zK m g t).length=m:=by simp [zK]
theorem zK_zero (m:Nat) (g:Nat→Int):zK m g 0=List.replicate m 0:=by
 rw [rowF_zero]
 exact rowF_congr fun j _=>by rw [if_neg (by omega)]
theorem zK_full (m:Nat) (g:Nat→Int):zK m g m=rowF m g:=rowF_congr fun j hj=>by rw [if_pos hj]
theorem zK_set {m:Nat} {g:Nat→Int} {j:Nat} (h:j<m):(zK m g j).set j (g j)=zK m g (j+1):=by
 unfold zK
 rw [rowF_set h]
 refine rowF_congr fun i hi => ?_
 by_cases e:i=j
 ·rw [if_pos e,e,if_pos (by omega)]
 ·rw [if_neg e]
  by_cases h3:i<j
  ·rw [if_pos h3,if_pos (by omega)]
  ·rw [if_neg h3,if_neg (by omega)]
noncomputable def modG (p:Int) (M:List (List Int)) (i:Nat):List Int:=rowF (atR M i).length fun j=>at0 (atR M i) j % p
noncomputable def modM (p:Int) (M:List (List Int)):List (List Int):=pM M (modG p M) M.length
@[simp] theorem modM_len (p:Int) (M:List (List Int)):(modM p M).length=M.length:=by simp [modM]
theorem modM_at {p:Int} {M:List (List Int)} {i:Nat} (h:i<M.length):atR (modM p M) i=rowF (atR M i).length fun j=>at0 (atR M i) j % p:=pM_lt h h
theorem okM_mod {p:Int} {w:Nat} {M:List (List Int)} (hp:fpP p) (h:∀ i,i<M.length→(atR M i).length=w):okM p w (modM p M):=fun i hi=>by
 rw [modM_len] at hi
 rw [modM_at hi]
 refine ⟨by rw [rowF_len]; exact h i hi,fun j hj => ?_⟩
 rw [rowF_at (by rw [h i hi]; exact hj)]
 exact emodB hp
def lowM (M:List (List Int)):Prop:=M.length≤64∧∀ i,i<M.length→(atR M i).length≤128
theorem renL_set {r:Nat→Option Nat} {v v':V}:∀ {c c':List V} {d:Nat},renL r c=some c'→ren1 r v=some v'→renL r (c.set d v)=some (c'.set d v'):=by
 intro c
 induction c with
 | nil=>intro c' d h _; simp [renL] at h; subst h; rfl
 | cons a c ih =>
  intro c' d h hv
  unfold renL at h
  split at h
  ·rename_i a' q e1 e2
   simp only [Option.some.injEq] at h
   subst h
   cases d with
   | zero=>simp only [List.set_cons_zero,renL,hv,e2]
   | succ d=>simp only [List.set_cons_succ,renL,e1,ih e2 hv]
  ·simp at h
theorem renL_rowsV (r:Nat→Option Nat) (m:List (List Int)):renL r (rowsV m)=some (rowsV m):=rowsV_ren r m
def dRowsV:List V→Option (List (List Int))
 | []=>some []
 | .own 1 c::r=>(dInts c).bind fun l=>(dRowsV r).map (l :: ·)
 | _=>none
@[simp] theorem dRowsV_rowsV (m:List (List Int)):dRowsV (rowsV m)=some m:=by
 induction m with
 | nil=>rfl
 | cons a m ih =>
  have e:rowsV (a::m) = .own 1 (ints a)::rowsV m:=rfl
  simp [e,dRowsV,ih]
theorem dRowsV_inv:∀ {c:List V} {m:List (List Int)},dRowsV c=some m→c=rowsV m:=by
 intro c
 induction c with
 | nil=>intro m h; simp [dRowsV] at h; subst h; rfl
 | cons v c ih =>
  intro m h
  unfold dRowsV at h
  split at h
  ·simp_all
  ·rename_i n r e
   injection e with e1 e2
   subst e1 e2
   obtain ⟨l,h1,h2⟩:=Option.bind_eq_some_iff.1 h
   obtain ⟨q,h3,rfl⟩:=Option.map_eq_some_iff.1 h2
   rw [dInts_inv h1,ih h3]
   rfl
  ·simp at h
theorem fn_inv_at {p:Int} (hp:fpP p) (a:Int):F_s_InverseMod [.int .i64 a,.int .i64 p]=some (.int .i64 (invZ a p)):=by
 simp only [F_s_InverseMod,F2_mk,dI_int,Option.bind_some]
 rw [if_pos hp]
theorem rowsV_set2 (M:List (List Int)) (d:Nat) (r:List Int) (v:V):(rowsV (M.set d r)).set d v=(rowsV M).set d v:=by
 rw [← rowsV_set,List.set_set]
theorem rowsV_step {M:List (List Int)} {d i:Nat} (h:i≠d) (r:List Int) (v y:V):((((rowsV M).set d v).set i y).set i (.own 1 (ints r)))=(rowsV (M.set i r)).set d v:=by
 rw [List.set_set,← rowsV_set,List.set_comm _ _ (Ne.symm h)]
structure matI (p:Int) (w m:Nat) (M:List (List Int)):Prop where
 hp:fpP p
 hm:M.length=m
 ok:okM p w M
 hw:w≤128
 hl:m≤64
def sc_s_l13Clear_L4:SC:=(.seq (.seq (.reg [⟨some 62,none,.mov (.t 13)⟩,⟨some 63,none,.mov (.t 0)⟩,⟨some 64,none,.mov (.t 11)⟩,⟨some 65,none,.idx 1 (.t 63) (.t 64)⟩,⟨some 66,none,.ld none .nil (.t 65)⟩,⟨some 67,none,.len (.t 66)⟩,⟨some 68,none,.bin false .lss (.t 62) (.t 67)⟩,⟨some 69,none,.mov (.t 68)⟩,⟨some 70,some (69,true),.mov (.t 11)⟩,⟨some 71,some (69,true),.mov (.t 1)⟩,⟨some 72,some (69,true),.bin false .neq (.t 70) (.t 71)⟩,⟨some 73,none,.pick (.t 69) (.t 72) (.c (.bool false))⟩]) (.cond (.t 73) .skip (.exit 4))) (.seq (.block 5 (.dreg [⟨⟨some 76,none,.mov (.t 0)⟩,false,false⟩,⟨⟨some 77,none,.mov (.t 11)⟩,false,false⟩,⟨⟨some 78,none,.idx 1 (.t 76) (.t 77)⟩,false,false⟩,⟨⟨some 79,none,.ld none .nil (.t 78)⟩,false,false⟩,⟨⟨some 80,none,.mov (.t 13)⟩,false,false⟩,⟨⟨some 81,none,.mov (.t 0)⟩,false,false⟩,⟨⟨some 82,none,.mov (.t 11)⟩,false,false⟩,⟨⟨some 83,none,.idx 1 (.t 81) (.t 82)⟩,false,false⟩,⟨⟨some 84,none,.ld none .nil (.t 83)⟩,false,false⟩,⟨⟨some 85,none,.mov (.t 13)⟩,false,false⟩,⟨⟨some 86,none,.idx 1 (.t 84) (.t 85)⟩,false,false⟩,⟨⟨some 87,none,.ld none (.int .i64 0) (.t 86)⟩,false,false⟩,⟨⟨some 88,none,.mov (.t 12)⟩,false,false⟩,⟨⟨some 89,none,.mov (.t 0)⟩,false,false⟩,⟨⟨some 90,none,.mov (.t 1)⟩,false,false⟩,⟨⟨some 91,none,.idx 1 (.t 89) (.t 90)⟩,false,false⟩,⟨⟨some 92,none,.ld none .nil (.t 91)⟩,false,false⟩,⟨⟨some 93,none,.mov (.t 13)⟩,false,false⟩,⟨⟨some 94,none,.idx 1 (.t 92) (.t 93)⟩,false,false⟩,⟨⟨some 95,none,.ld none (.int .i64 0) (.t 94)⟩,false,false⟩,⟨⟨some 96,none,.bin false .mul (.t 88) (.t 95)⟩,false,false⟩,⟨⟨some 97,none,.bin false .sub (.t 87) (.t 96)⟩,false,false⟩,⟨⟨some 98,none,.mov (.t 3)⟩,false,false⟩,⟨⟨some 99,none,.call 103 [.t 97,.t 98]⟩,false,false⟩,⟨⟨some 100,none,.idx 1 (.t 79) (.t 80)⟩,false,false⟩,⟨⟨none,none,.st 1 (.t 100) (.t 99)⟩,true,false⟩])) (.reg [⟨some 74,none,.mov (.t 13)⟩,⟨some 75,none,.bin false .add (.t 74) (.c (.int .i64 1))⟩,⟨some 13,none,.mov (.t 75)⟩])))
def sc_s_l13Clear_L2:SC:=(.seq (.seq (.reg [⟨some 49,none,.mov (.t 11)⟩,⟨some 50,none,.mov (.t 0)⟩,⟨some 51,none,.len (.t 50)⟩,⟨some 52,none,.bin false .lss (.t 49) (.t 51)⟩]) (.cond (.t 52) .skip (.exit 2))) (.seq (.block 3 (.seq (.reg [⟨some 55,none,.mov (.t 0)⟩,⟨some 56,none,.mov (.t 11)⟩,⟨some 57,none,.idx 1 (.t 55) (.t 56)⟩,⟨some 58,none,.ld none .nil (.t 57)⟩,⟨some 59,none,.mov (.t 2)⟩,⟨some 60,none,.idx 1 (.t 58) (.t 59)⟩,⟨some 61,none,.ld none (.int .i64 0) (.t 60)⟩,⟨some 12,none,.mov (.t 61)⟩]) (.seq (.reg [⟨some 13,none,.mov (.c (.int .i64 0))⟩]) (.block 4 (.loop sc_s_l13Clear_L4))))) (.reg [⟨some 53,none,.mov (.t 11)⟩,⟨some 54,none,.bin false .add (.t 53) (.c (.int .i64 1))⟩,⟨some 11,none,.mov (.t 54)⟩])))
def sc_s_l13Clear_L0:SC:=(.seq (.seq (.reg [⟨some 23,none,.mov (.t 10)⟩,⟨some 24,none,.mov (.t 0)⟩,⟨some 25,none,.mov (.t 1)⟩,⟨some 26,none,.idx 1 (.t 24) (.t 25)⟩,⟨some 27,none,.ld none .nil (.t 26)⟩,⟨some 28,none,.len (.t 27)⟩,⟨some 29,none,.bin false .lss (.t 23) (.t 28)⟩]) (.cond (.t 29) .skip (.exit 0))) (.seq (.block 1 (.dreg [⟨⟨some 32,none,.mov (.t 0)⟩,false,false⟩,⟨⟨some 33,none,.mov (.t 1)⟩,false,false⟩,⟨⟨some 34,none,.idx 1 (.t 32) (.t 33)⟩,false,false⟩,⟨⟨some 35,none,.ld none .nil (.t 34)⟩,false,false⟩,⟨⟨some 36,none,.mov (.t 10)⟩,false,false⟩,⟨⟨some 37,none,.mov (.t 0)⟩,false,false⟩,⟨⟨some 38,none,.mov (.t 1)⟩,false,false⟩,⟨⟨some 39,none,.idx 1 (.t 37) (.t 38)⟩,false,false⟩,⟨⟨some 40,none,.ld none .nil (.t 39)⟩,false,false⟩,⟨⟨some 41,none,.mov (.t 10)⟩,false,false⟩,⟨⟨some 42,none,.idx 1 (.t 40) (.t 41)⟩,false,false⟩,⟨⟨some 43,none,.ld none (.int .i64 0) (.t 42)⟩,false,false⟩,⟨⟨some 44,none,.mov (.t 9)⟩,false,false⟩,⟨⟨some 45,none,.bin false .mul (.t 43) (.t 44)⟩,false,false⟩,⟨⟨some 46,none,.mov (.t 3)⟩,false,false⟩,⟨⟨some 47,none,.bin false .rem (.t 45) (.t 46)⟩,false,false⟩,⟨⟨some 48,none,.idx 1 (.t 35) (.t 36)⟩,false,false⟩,⟨⟨none,none,.st 1 (.t 48) (.t 47)⟩,true,false⟩])) (.reg [⟨some 30,none,.mov (.t 10)⟩,⟨some 31,none,.bin false .add (.t 30) (.c (.int .i64 1))⟩,⟨some 10,none,.mov (.t 31)⟩])))
def sc_s_l13Clear:SC:=(.seq (.reg [⟨some 8,none,.mov (.c .nil)⟩]) (.seq (.reg [⟨some 14,none,.mov (.t 0)⟩,⟨some 15,none,.mov (.t 1)⟩,⟨some 16,none,.idx 1 (.t 14) (.t 15)⟩,⟨some 17,none,.ld none .nil (.t 16)⟩,⟨some 18,none,.mov (.t 2)⟩,⟨some 19,none,.idx 1 (.t 17) (.t 18)⟩,⟨some 20,none,.ld none (.int .i64 0) (.t 19)⟩,⟨some 21,none,.mov (.t 3)⟩,⟨some 22,none,.call 111 [.t 20,.t 21]⟩,⟨some 9,none,.mov (.t 22)⟩]) (.seq (.seq (.reg [⟨some 10,none,.mov (.c (.int .i64 0))⟩]) (.block 0 (.loop sc_s_l13Clear_L0))) (.seq (.seq (.reg [⟨some 11,none,.mov (.c (.int .i64 0))⟩]) (.block 2 (.loop sc_s_l13Clear_L2))) (.seq (.reg [⟨some 101,none,.mov (.t 0)⟩,⟨some 8,none,.mov (.t 101)⟩]) .ret)))))
theorem code_s_l13Clear:fnCode Tryz.prog [] 104=some (102,sc_s_l13Clear,[(8,none)]):=by kernel_rfl
noncomputable def G_s_l13Clear:List V→List V→Option (V×List V)
 | [.sl 0 1 0 m,.int .i64 d,.int .i64 j,.int .i64 p],cells=>(dRowsV cells).bind fun M => @ite _ (∃ w,matI p w m M∧0≤d∧d<m∧0≤j∧j<w) (Classical.propDecidable _) (some (.sl 0 1 0 m,rowsV (clrM p (sclM p M d.toNat j.toNat) d.toNat j.toNat))) none
 | _,_=>none
theorem ln_s_l13Clear:LendOk Tryz.prog 104 0 G_s_l13Clear:=by
 have env:=((envNil_ok (P:=Tryz.prog)).add fn_s_InverseMod).add fn_s_l13Mod
 refine fn_lend code_s_l13Clear mixed env ?_
 intro args cells r cells' hG hb
 unfold G_s_l13Clear at hG
 split at hG
 case h_2=>simp at hG
 rename_i m d j p
 obtain ⟨M,h1,h2⟩:=Option.bind_eq_some_iff.1 hG
 have hc:=dRowsV_inv h1
 subst hc
 simp only [Option.ite_none_right_eq_some,Option.some.injEq,Prod.mk.injEq] at h2
 obtain ⟨⟨w,⟨hp,rfl,hok,hw,hml⟩,hd0,hd1,hj0,hj1⟩,rfl,rfl⟩:=h2
 obtain ⟨d,rfl⟩:∃ n:Nat,d=n:=⟨d.toNat,by omega⟩
 obtain ⟨j,rfl⟩:∃ n:Nat,j=n:=⟨j.toNat,by omega⟩
 have hdm:d<M.length:=by omega
 have hjw:j<w:=by omega
 clear hG h1 hb
 rw [Int.toNat_natCast,Int.toNat_natCast]
 refine ⟨by simp,fun w0 U0 L0 N0 => ?_⟩
 have hFI:=fn_inv_at hp
 have hFm:=fn_restMod_at hp
 obtain ⟨p1,p2,p3⟩:=fpP_bnd hp
 obtain ⟨hrl,hre⟩:=hok d hdm
 have hok1:=okM_scl hp hok j hdm
 have hM1:sclM p M d j=M.set d (sclR p (invZ (at0 (atR M d) j) p) (atR M d)):=rfl
 have hM1l:=sclM_len p M d j
 have hrs:atR (sclM p M d j) d=sclR p (invZ (at0 (atR M d) j) p) (atR M d):=by rw [hM1,atR_set,if_pos ⟨rfl,hdm⟩]
 obtain ⟨f1,f2⟩:=invZ_bnd (a:=at0 (atR M d) j) hp
 simp -implicitDefEqProofs [sc_s_l13Clear,hdm,hrl,hjw,hFI]
 generalize hf:invZ (at0 (atR M d) j) p=f at *
 generalize hrd:atR M d=rd at *
 repeat' (first | omega | apply And.intro)
 refine loopI env mixed (fun t:Nat=>[(0,.sl 0 1 0 M.length),(1,.int .i64 (d:Int)),(2,.int .i64 (j:Int)),(3,.int .i64 p),(9,.int .i64 f),(10,.int .i64 (t:Int))]) (fun t=>([(1,ints (pK rd (sclG p f rd) t)),(0,(rowsV M).set d (.sl 1 1 0 w))],2)) (fun t=>t≤w) (fun t=>w-t) 0 (by simp) (SubI.slots (by simp [pK_zero]) (by simp)) ?_
 intro t ht
 by_cases hlt:t<w
 ·have hat:=pK_at (r:=rd) (g:=sclG p f rd) (t:=t) (by omega) (Nat.le_refl t)
  have hset:=pK_set (r:=rd) (g:=sclG p f rd) (t:=t) (by omega)
  have hgl:=pK_len rd (sclG p f rd) t
  obtain ⟨e1,e2⟩:=hre t hlt
  obtain ⟨m1,m2⟩:=mulB p2 e1 e2 f1 f2
  have hwr:IntKind.i64.wrap (at0 rd t*f)=at0 rd t*f:=wrapI _ (by omega) (by omega)
  have htm:=tmod_nn p m1
  have hg:sclG p f rd t=at0 rd t*f % p:=rfl
  rw [hg] at hset
  generalize pK rd (sclG p f rd) t=g at *
  simp -implicitDefEqProofs [sc_s_l13Clear_L0,hdm,hlt,hgl,hrl,hat,hwr,htm,p3,hset]
  repeat' (first | omega | apply And.intro)
  exact Again.of (t+1) (by omega) (by omega) (SubI.slots (by simp) (by simp (disch:=omega) [wrapI]))
 ·have:t=w:=by omega
  subst this
  have hfull:pK rd (sclG p f rd) rd.length=sclR p f rd:=pK_full rd (sclG p f rd)
  rw [hrl] at hfull
  rw [hfull]
  simp -implicitDefEqProofs [sc_s_l13Clear_L0,hdm,hlt]
  have hcell:=rowsV_set2 M d (sclR p f rd) (.sl 1 1 0 t)
  rw [← hM1] at hcell
  rw [← hcell]
  rw [← hrs]
  generalize sclM p M d j=M1 at *
  have hGd:=clrG_d p M1 d j
  have hGn:=fun (i:Nat) (h:i≠d)=>clrG_ne (p:=p) (M:=M1) (d:=d) (j:=j) h
  have hfin:pM M1 (clrG p M1 d j) M.length=clrM p M1 d j:=by rw [← hM1l]; rfl
  rw [← hfin]
  obtain ⟨hr1,hr2⟩:=hok1 d (by omega)
  generalize clrG p M1 d j=G at *
  generalize hrr:atR M1 d=rs at *
  have hdm1:d<M1.length:=by omega
  refine loopQ env mixed (fun i:Nat=>[(0,.sl 0 1 0 M.length),(1,.int .i64 (d:Int)),(2,.int .i64 (j:Int)),(3,.int .i64 p),(11,.int .i64 (i:Int))]) (fun i=>([(1,ints rs),(0,(rowsV (pM M1 G i)).set d (.sl 1 1 0 t))],2)) (fun i=>i≤M.length) (fun i=>M.length-i) 0 (by simp) (SubI.slots (by simp [pM_zero]) (by simp)) ?_
  intro i hi
  have hml2:=pM_len M1 G i
  by_cases hlt2:i<M.length
  ·have him:i<M1.length:=by omega
   by_cases hid:i=d
   ·subst hid
    have hk:pM M1 G (i+1)=pM M1 G i:=pM_keep him (by rw [hGd,hrr])
    simp -implicitDefEqProofs [sc_s_l13Clear_L2,hdm,hdm1,hml2,hM1l,hjw,hr1]
    repeat' (first | omega | apply And.intro)
    refine loopQ env mixed (fun _:Unit=>[(0,.sl 0 1 0 M.length),(1,.int .i64 (i:Int)),(2,.int .i64 (j:Int)),(3,.int .i64 p),(11,.int .i64 (i:Int)),(13,.int .i64 0)]) (fun _=>([(1,ints rs),(0,(rowsV (pM M1 G i)).set i (.sl 1 1 0 t))],2)) (fun _=>True) (fun _=>0) () trivial (SubI.slots (by simp) (by simp)) ?_
    intro _ _
    have ht0:0<t:=by omega
    simp -implicitDefEqProofs [sc_s_l13Clear_L4,hdm,hdm1,hml2,hM1l,ht0]
    refine SubQ.of (l1:=[(0,.sl 0 1 0 M.length),(1,.int .i64 (i:Int)),(2,.int .i64 (j:Int)),(3,.int .i64 p),(11,.int .i64 (i:Int))]) (SubI.slots rfl (by simp)) ?_
    simp -implicitDefEqProofs
    exact Again.of (i+1) (by omega) (by omega) (SubI.slots (by simp [hk]) (by simp (disch:=omega) [wrapI]))
   ·have hid':d≠i:=fun e=>hid e.symm
    have hidI:¬((i:Int)=(d:Int)):=by omega
    obtain ⟨hs1,hs2⟩:=hok1 i him
    have hge:=pM_ge (M:=M1) (G:=G) him (Nat.le_refl i)
    have hset:=pM_set (M:=M1) (G:=G) him
    have hGi:=hGn i hid
    generalize pM M1 G i=Mi at *
    generalize atR M1 i=ri at *
    obtain ⟨c1,c2⟩:=hs2 j hjw
    simp -implicitDefEqProofs [sc_s_l13Clear_L2,hlt2,him,hml2,hM1l,hjw,hid,hid',hge,hs1]
    repeat' (first | omega | apply And.intro)
    generalize hcc:at0 ri j=c at *
    refine loopQ env mixed (fun q:Nat=>[(0,.sl 0 1 0 M.length),(1,.int .i64 (d:Int)),(2,.int .i64 (j:Int)),(3,.int .i64 p),(11,.int .i64 (i:Int)),(12,.int .i64 c),(13,.int .i64 (q:Int))]) (fun q=>([(2,ints (pK ri (elG p c ri rs) q)),(1,ints rs),(0,((rowsV Mi).set d (.sl 1 1 0 t)).set i (.sl 2 1 0 t))],3)) (fun q=>q≤t) (fun q=>t-q) 0 (by simp) (SubI.slots (by simp [pK_zero]) (by simp)) ?_
    intro q hq
    by_cases hlt3:q<t
    ·have hat:=pK_at (r:=ri) (g:=elG p c ri rs) (t:=q) (by omega) (Nat.le_refl q)
     have hst:(pK ri (elG p c ri rs) q).set q ((at0 ri q-c*at0 rs q) % p)=pK ri (elG p c ri rs) (q+1):=pK_set (r:=ri) (g:=elG p c ri rs) (t:=q) (by omega)
     have hgl:=pK_len ri (elG p c ri rs) q
     obtain ⟨e1,e2⟩:=hs2 q hlt3
     obtain ⟨e3,e4⟩:=hr2 q hlt3
     obtain ⟨m1,m2⟩:=mulB p2 c1 c2 e3 e4
     have hw1:IntKind.i64.wrap (c*at0 rs q)=c*at0 rs q:=wrapI _ (by omega) (by omega)
     have hw2:IntKind.i64.wrap (at0 ri q-c*at0 rs q)=at0 ri q-c*at0 rs q:=wrapI _ (by omega) (by omega)
     generalize pK ri (elG p c ri rs) q=g at *
     simp -implicitDefEqProofs [sc_s_l13Clear_L4,hFm,hdm,hdm1,hlt2,him,hml2,hM1l,hid,hid',hidI,hlt3,hgl,hs1,hr1,hat,hw1,hw2,hst]
     repeat' (first | omega | apply And.intro)
     exact Again.of (q+1) (by omega) (by omega) (SubI.slots (by simp) (by simp (disch:=omega) [wrapI]))
    ·have:q=t:=by omega
     subst this
     have hfu:pK ri (elG p c ri rs) ri.length=G i:=by rw [hGi]; exact pK_full ri (elG p c ri rs)
     rw [hs1] at hfu
     rw [hfu]
     have hgil:(G i).length=q:=by rw [hGi,elimR_len,hs1]
     simp -implicitDefEqProofs [sc_s_l13Clear_L4,hdm,hdm1,hlt2,him,hml2,hM1l,hid,hid',hidI]
     refine SubQ.of (l1:=[(0,.sl 0 1 0 M.length),(1,.int .i64 (d:Int)),(2,.int .i64 (j:Int)),(3,.int .i64 p),(11,.int .i64 (i:Int))]) (s1:=([(1,ints rs),(0,(rowsV (pM M1 G (i+1))).set d (.sl 1 1 0 q))],2)) ?_ ?_
     ·refine SubI.fold 0 2 i 1 q (cn:=ints (G i)) (co:=((rowsV Mi).set d (.sl 1 1 0 q)).set i (.sl 2 1 0 q)) (by simp) (by simp) (by simp [hml2,him]) (by simp [hgil]) ?_
      have hstep:=rowsV_step (M:=Mi) hid (G i) (.sl 1 1 0 q) (.sl 2 1 0 q)
      rw [hset] at hstep
      rw [hstep]
      refine SubI.ren (fun m=>if m=0 then some 0 else if m=1 then some 1 else none) ?_ ?_ ?_ (by simp) (by simp)
      ·simp [subT,renV,ren1]
      ·simp only [subH,renL_set (renL_rowsV _ _) (show ren1 (fun m=>if m=0 then some 0 else if m=1 then some 1 else none) (.sl 1 1 0 q)=some (.sl 1 1 0 q) from rfl)]
       simp [subH,renL,ren1]
      ·intro m hm
       simp only at hm
       rw [if_neg (by omega),if_neg (by omega)]
     ·simp -implicitDefEqProofs
      exact Again.of (i+1) (by omega) (by omega) (SubI.slots (by simp) (by simp (disch:=omega) [wrapI]))
  ·have:i=M.length:=by omega
   subst this
   have hself:=rowsV_self (M:=pM M1 G M.length) (i:=d) (by omega)
   rw [pM_lt hdm1 (by omega),hGd] at hself
   simp -implicitDefEqProofs [sc_s_l13Clear_L2]
   refine SubQ.of (l1:=[(0,.sl 0 1 0 M.length)]) (s1:=([(0,rowsV (pM M1 G M.length))],2)) ?_ ?_
   ·refine SubI.fold 0 1 d 1 t (cn:=ints rs) (co:=(rowsV (pM M1 G M.length)).set d (.sl 1 1 0 t)) rfl rfl (by simp [hml2,hdm1]) (by simp [hr1]) ?_
    exact SubI.slots (by simp [hself]) (by simp)
   ·simp -implicitDefEqProofs
theorem rowsL_drop0 {M:List (List Int)} {i:Nat} (h:i<M.length) (d:V):(rowsL (M.drop i))[0]?.getD d = .list 1 (ints (atR M i)):=by
 rw [rowsL,List.getElem?_map,List.getElem?_drop,Nat.add_zero,List.getElem?_eq_getElem h,atR_eq h]
 rfl
def sc_s_l13Reduce_L6:SC:=(.seq (.seq (.reg [⟨some 72,none,.mov (.t 13)⟩,⟨some 73,none,.mov (.t 6)⟩,⟨some 74,none,.len (.t 73)⟩,⟨some 75,none,.bin false .lss (.t 72) (.t 74)⟩,⟨some 76,none,.mov (.t 75)⟩,⟨some 77,some (76,true),.mov (.t 6)⟩,⟨some 78,some (76,true),.mov (.t 13)⟩,⟨some 79,some (76,true),.idx 1 (.t 77) (.t 78)⟩,⟨some 80,some (76,true),.ld none .nil (.t 79)⟩,⟨some 81,some (76,true),.mov (.t 11)⟩,⟨some 82,some (76,true),.idx 1 (.t 80) (.t 81)⟩,⟨some 83,some (76,true),.ld none (.int .i64 0) (.t 82)⟩,⟨some 84,some (76,true),.bin false .eql (.t 83) (.c (.int .i64 0))⟩,⟨some 85,none,.pick (.t 76) (.t 84) (.c (.bool false))⟩]) (.cond (.t 85) .skip (.exit 6))) (.block 7 (.reg [⟨some 86,none,.mov (.t 13)⟩,⟨some 87,none,.bin false .add (.t 86) (.c (.int .i64 1))⟩,⟨some 13,none,.mov (.t 87)⟩])))
def sc_s_l13Reduce_L4:SC:=(.seq (.seq (.reg [⟨some 49,none,.mov (.t 6)⟩,⟨some 50,none,.len (.t 49)⟩,⟨some 51,none,.bin false .gtr (.t 50) (.c (.int .i64 0))⟩,⟨some 52,none,.mov (.t 51)⟩,⟨some 53,some (52,true),.mov (.t 11)⟩,⟨some 54,some (52,true),.mov (.t 6)⟩,⟨some 55,some (52,true),.idx 1 (.t 54) (.c (.int .i64 0))⟩,⟨some 56,some (52,true),.ld none .nil (.t 55)⟩,⟨some 57,some (52,true),.len (.t 56)⟩,⟨some 58,some (52,true),.bin false .lss (.t 53) (.t 57)⟩,⟨some 59,none,.pick (.t 52) (.t 58) (.c (.bool false))⟩,⟨some 60,none,.mov (.t 59)⟩,⟨some 61,some (60,true),.mov (.t 10)⟩,⟨some 62,some (60,true),.len (.t 61)⟩,⟨some 63,some (60,true),.mov (.t 6)⟩,⟨some 64,some (60,true),.len (.t 63)⟩,⟨some 65,some (60,true),.bin false .lss (.t 62) (.t 64)⟩,⟨some 66,none,.pick (.t 60) (.t 65) (.c (.bool false))⟩]) (.cond (.t 66) .skip (.exit 4))) (.seq (.block 5 (.seq (.reg [⟨some 69,none,.mov (.t 10)⟩,⟨some 70,none,.len (.t 69)⟩,⟨some 12,none,.mov (.t 70)⟩]) (.seq (.reg [⟨some 71,none,.mov (.t 12)⟩,⟨some 13,none,.mov (.t 71)⟩]) (.seq (.block 6 (.loop sc_s_l13Reduce_L6)) (.seq (.seq (.reg [⟨some 88,none,.mov (.t 13)⟩,⟨some 89,none,.mov (.t 6)⟩,⟨some 90,none,.len (.t 89)⟩,⟨some 91,none,.bin false .eql (.t 88) (.t 90)⟩]) (.cond (.t 91) (.exit 5) .skip)) (.seq (.reg [⟨some 92,none,.mov (.t 6)⟩,⟨some 93,none,.mov (.t 13)⟩,⟨some 94,none,.idx 1 (.t 92) (.t 93)⟩,⟨some 95,none,.ld none .nil (.t 94)⟩,⟨some 14,none,.mov (.t 95)⟩]) (.seq (.reg [⟨some 96,none,.mov (.t 6)⟩,⟨some 97,none,.mov (.t 13)⟩,⟨some 98,none,.mov (.t 6)⟩,⟨some 99,none,.mov (.t 12)⟩,⟨some 100,none,.idx 1 (.t 98) (.t 99)⟩,⟨some 101,none,.ld none .nil (.t 100)⟩,⟨some 102,none,.idx 1 (.t 96) (.t 97)⟩,⟨none,none,.st 1 (.t 102) (.t 101)⟩]) (.cut (.reg [⟨some 103,none,.mov (.t 6)⟩,⟨some 104,none,.mov (.t 12)⟩,⟨some 105,none,.mov (.t 14)⟩,⟨some 106,none,.idx 1 (.t 103) (.t 104)⟩,⟨none,none,.st 1 (.t 106) (.t 105)⟩]) (.seq (.reg [⟨some 107,none,.mov (.t 6)⟩,⟨some 108,none,.mov (.t 12)⟩,⟨some 109,none,.mov (.t 11)⟩,⟨some 110,none,.mov (.t 1)⟩,⟨some 111,none,.call 104 [.t 107,.t 108,.t 109,.t 110]⟩,⟨some 6,none,.mov (.t 111)⟩]) (.reg [⟨some 112,none,.mov (.t 10)⟩,⟨some 113,none,.mov (.t 11)⟩,⟨some 114,none,.mks 1 1 [.int .i64 0] [(0,(1,(.t 113)))]⟩,⟨some 115,none,.app 1 8 (.t 112) (.t 114)⟩,⟨some 10,none,.mov (.t 115)⟩])))))))))) (.reg [⟨some 67,none,.mov (.t 11)⟩,⟨some 68,none,.bin false .add (.t 67) (.c (.int .i64 1))⟩,⟨some 11,none,.mov (.t 68)⟩])))
def sc_s_l13Reduce_L2:SC:=(.seq (.seq (.reg [⟨some 23,none,.mov (.t 9)⟩,⟨some 24,none,.mov (.t 0)⟩,⟨some 25,none,.mov (.t 7)⟩,⟨some 26,none,.idx 1 (.t 24) (.t 25)⟩,⟨some 27,none,.ld none .nil (.t 26)⟩,⟨some 28,none,.len (.t 27)⟩,⟨some 29,none,.bin false .lss (.t 23) (.t 28)⟩]) (.cond (.t 29) .skip (.exit 2))) (.seq (.block 3 (.reg [⟨some 32,none,.mov (.t 8)⟩,⟨some 33,none,.mov (.t 0)⟩,⟨some 34,none,.mov (.t 7)⟩,⟨some 35,none,.idx 1 (.t 33) (.t 34)⟩,⟨some 36,none,.ld none .nil (.t 35)⟩,⟨some 37,none,.mov (.t 9)⟩,⟨some 38,none,.idx 1 (.t 36) (.t 37)⟩,⟨some 39,none,.ld none (.int .i64 0) (.t 38)⟩,⟨some 40,none,.mov (.t 1)⟩,⟨some 41,none,.call 103 [.t 39,.t 40]⟩,⟨some 42,none,.mks 1 1 [.int .i64 0] [(0,(1,(.t 41)))]⟩,⟨some 43,none,.app 1 8 (.t 32) (.t 42)⟩,⟨some 8,none,.mov (.t 43)⟩])) (.reg [⟨some 30,none,.mov (.t 9)⟩,⟨some 31,none,.bin false .add (.t 30) (.c (.int .i64 1))⟩,⟨some 9,none,.mov (.t 31)⟩])))
def sc_s_l13Reduce_L0:SC:=(.seq (.seq (.reg [⟨some 16,none,.mov (.t 7)⟩,⟨some 17,none,.mov (.t 0)⟩,⟨some 18,none,.len (.t 17)⟩,⟨some 19,none,.bin false .lss (.t 16) (.t 18)⟩]) (.cond (.t 19) .skip (.exit 0))) (.seq (.block 1 (.seq (.reg [⟨some 22,none,.mks 0 1 [] []⟩,⟨some 8,none,.mov (.t 22)⟩]) (.seq (.seq (.reg [⟨some 9,none,.mov (.c (.int .i64 0))⟩]) (.block 2 (.loop sc_s_l13Reduce_L2))) (.reg [⟨some 44,none,.mov (.t 6)⟩,⟨some 45,none,.mov (.t 8)⟩,⟨some 46,none,.mks 1 1 [.nil] [(0,(1,(.t 45)))]⟩,⟨some 47,none,.app 1 24 (.t 44) (.t 46)⟩,⟨some 6,none,.mov (.t 47)⟩])))) (.reg [⟨some 20,none,.mov (.t 7)⟩,⟨some 21,none,.bin false .add (.t 20) (.c (.int .i64 1))⟩,⟨some 7,none,.mov (.t 21)⟩])))
def sc_s_l13Reduce:SC:=(.seq (.reg [⟨some 4,none,.mov (.c .nil)⟩,⟨some 5,none,.mov (.c .nil)⟩]) (.seq (.reg [⟨some 15,none,.mks 0 1 [] []⟩,⟨some 6,none,.mov (.t 15)⟩]) (.seq (.seq (.reg [⟨some 7,none,.mov (.c (.int .i64 0))⟩]) (.block 0 (.loop sc_s_l13Reduce_L0))) (.seq (.reg [⟨some 48,none,.mks 0 1 [] []⟩,⟨some 10,none,.mov (.t 48)⟩]) (.seq (.seq (.reg [⟨some 11,none,.mov (.c (.int .i64 0))⟩]) (.block 4 (.loop sc_s_l13Reduce_L4))) (.seq (.reg [⟨some 116,none,.mov (.t 6)⟩,⟨some 117,none,.mov (.t 10)⟩,⟨some 4,none,.mov (.t 116)⟩,⟨some 5,none,.mov (.t 117)⟩]) .ret))))))
theorem code_s_l13Reduce:fnCode Tryz.prog [104,888888] 89=some (118,sc_s_l13Reduce,[(4,none),(5,none)]):=by kernel_rfl
def recM (M:List (List Int)):Prop:=lowM M∧∀ i,i<M.length→(atR M i).length=(atR M 0).length
noncomputable def F_s_l13Reduce:List V→Option V:=F2 dLL dI fun M p => @ite _ (fpP p∧recM M) (Classical.propDecidable _) (some (.tup [.own 1 (rowsV (redS p (modM p M) (atR M 0).length).1),.own 1 (ints (redS p (modM p M) (atR M 0).length).2)])) none
theorem swp_same {M:List (List Int)} {d:Nat} (h:d<M.length):swp M d d=M:=atR_ext (by simp) fun k hk=>by
 rw [swp_len] at hk
 rw [swp_at h h hk]
 split
 ·rename_i e; rw [e]
 ·rfl
theorem swp_cells2 {M:List (List Int)} {d a:Nat} (hda:d≠a) (x y:V):((((((rowsV M).set a x).set d y).set a y).set d x).set a (.own 1 (ints (atR M d)))).set d (.own 1 (ints (atR M a)))=rowsV (swp M d a):=by
 unfold swp
 rw [← rowsV_set,← rowsV_set]
 apply List.ext_getElem (by simp)
 intro k h1 h2
 simp only [List.getElem_set]
 by_cases e1:a=k
 ·have e2:¬d=k:=fun e=>hda (e.trans e1.symm)
  simp [e1,e2]
 ·by_cases e2:d=k
  ·simp [e1,e2]
  ·simp [e1,e2]
theorem fn_s_l13Reduce:FnOk Tryz.prog 89 F_s_l13Reduce:=by
 have env:=((envNil_ok (P:=Tryz.prog)).add fn_s_l13Mod).addl ln_s_l13Clear
 refine fn_ok code_s_l13Reduce mixed env ?_
 intro args r h hb
 obtain ⟨_,_,M0,p,rfl,h1,h2,h4⟩:=F2_inv h
 cases dLL_inv h1
 cases dI_inv h2
 simp only [Option.ite_none_right_eq_some,Option.some.injEq] at h4
 obtain ⟨⟨hp,⟨hml,hrl⟩,heq⟩,rfl⟩:=h4
 clear h
 refine ⟨by simp,fun w0 U0 L0 N0 => ?_⟩
 clear hb
 have hFm:=fn_restMod_at hp
 obtain ⟨p1,p2,p3⟩:=fpP_bnd hp
 have hol:=modM_len p M0
 have hoa:=fun (i:Nat) (hi:i<M0.length)=>modM_at (p:=p) hi
 have hok:=okM_mod (p:=p) hp heq
 generalize hO:modM p M0=O at *
 clear hO
 simp -implicitDefEqProofs [sc_s_l13Reduce]
 have inner:∀ (i:Nat) (Q:Post) (T0:Tm),i<M0.length→subE T0 [(0,.list 1 (rowsL M0)),(1,.int .i64 p),(6,.sl 0 1 0 i),(7,.int .i64 (i:Int)),(8,.sl 1 1 0 0),(9,.int .i64 0)] →
   Q (.exit 2) [(0,.list 1 (rowsL M0)),(1,.int .i64 p),(6,.sl 0 1 0 i),(7,.int .i64 (i:Int)),(8,.sl 1 1 0 (atR M0 i).length)] ([(1,ints (atR O i)),(0,rowsV (O.take i))],2) →
   LoopI ⟨Tryz.prog,w0,U0,L0,N0,0,118⟩ [104,888888] sc_s_l13Reduce_L2 Q T0 ([(1,[]),(0,rowsV (O.take i))],2):=by
  intro i Q T0 hi hsub q1
  have hri:=hrl i hi
  have hd0:=rowsL_drop0 hi .nil
  have hal:(atR O i).length=(atR M0 i).length:=by rw [hoa i hi]; simp
  have hae:∀ j,j<(atR M0 i).length→at0 (atR O i) j=at0 (atR M0 i) j % p:=fun j hj=>by rw [hoa i hi,rowF_at hj]
  generalize atR O i=A at *
  generalize atR M0 i=B at *
  refine loopQ env mixed (fun j:Nat=>[(0,.list 1 (rowsL M0)),(1,.int .i64 p),(6,.sl 0 1 0 i),(7,.int .i64 (i:Int)),(8,.sl 1 1 0 j),(9,.int .i64 (j:Int))]) (fun j=>([(1,ints (A.take j)),(0,rowsV (O.take i))],2)) (fun j=>j≤B.length) (fun j=>B.length-j) 0 (by simp) (SubI.slots (by simp) (by simpa using hsub)) ?_
  intro j hj
  by_cases hlt:j<B.length
  ·have e:A.take (j+1)=A.take j++[at0 B j % p]:=by rw [take_at (by omega),hae j hlt]
   have gl:(A.take j).length=j:=by simp; omega
   generalize A.take j=g at *
   simp -implicitDefEqProofs [sc_s_l13Reduce_L2,hFm,hlt,hi,hd0,gl]
   repeat' (first | omega | apply And.intro)
   refine Again.of (j+1) (by omega) (by omega) (SubI.ren (fun m=>if m=0 then some 0 else if m=1 then some 3 else none) ?_ ?_ ?_ (by simp) (by simp))
   ·simp (disch:=omega) [subT,renV,ren1,wrapI]
   ·have ht:g.take j=g:=List.take_of_length_le (by omega)
    simp [subH,e,renL,ren1,ht]
    rw [← ints_app]
    rfl
   ·intro m hm
    simp only at hm
    rw [if_neg (by omega),if_neg (by omega)]
  ·have:j=B.length:=by omega
   subst this
   have ht:A.take B.length=A:=List.take_of_length_le (by omega)
   rw [ht]
   simp -implicitDefEqProofs [sc_s_l13Reduce_L2,hi,hd0]
   exact ⟨by omega,SubQ.of (SubI.slots rfl (by simp)) q1⟩
 refine loopI env mixed (fun i:Nat=>[(0,.list 1 (rowsL M0)),(1,.int .i64 p),(6,.sl 0 1 0 i),(7,.int .i64 (i:Int))]) (fun i=>([(0,rowsV (O.take i))],1)) (fun i=>i≤M0.length) (fun i=>M0.length-i) 0 (by simp) (SubI.slots (by simp) (by simp)) ?_
 intro i hi
 by_cases hlt:i<M0.length
 ·have hin:=inner i
  have hiO:i<O.length:=by omega
  have hal:(atR O i).length=(atR M0 i).length:=by rw [hoa i hlt]; simp
  have hsn:=rowsV_snoc hiO (.sl 1 1 0 (atR M0 i).length)
  have gl:(rowsV (O.take i)).length=i:=by simp; omega
  simp -implicitDefEqProofs [sc_s_l13Reduce_L0,hlt]
  refine hin _ _ hlt (by simp) ?_
  simp -implicitDefEqProofs [gl]
  have htt:(O.take i).take i=O.take i:=List.take_of_length_le (by simp; omega)
  rw [htt]
  refine ⟨by omega,Again.of (i+1) (by omega) (by omega) ?_⟩
  refine SubI.fold 3 1 i 1 (atR M0 i).length (cn:=ints (atR O i)) (co:=rowsV (O.take i)++[.sl 1 1 0 (atR M0 i).length]) rfl rfl (by rw [List.getElem?_append_right (by omega),gl,Nat.sub_self]; rfl) (by simp [hal]) ?_
  rw [hsn]
  refine SubI.ren (fun m=>if m=0 then some 3 else none) ?_ ?_ ?_ (by simp) (by simp)
  ·simp (disch:=omega) [subT,renV,ren1,wrapI]
  ·simp [subH,renL,ren1]
  ·intro m hm
   simp only at hm
   rw [if_neg (by omega)]
 ·have:i=M0.length:=by omega
  subst this
  have ht:O.take M0.length=O:=List.take_of_length_le (by omega)
  rw [ht]
  simp -implicitDefEqProofs [sc_s_l13Reduce_L0]
  clear inner hoa ht
  generalize hWd:(atR M0 0).length=W at *
  have hW:W≤128:=by
   by_cases h0:0<M0.length
   ·rw [← hWd]; exact hrl 0 h0
   ·have:M0=[]:=List.length_eq_zero_iff.1 (by omega)
    rw [← hWd,this]; simp [atR]
  generalize hm:M0.length=m at *
  clear heq hrl hm
  have inv:=fun (j:Nat)=>redI_all hp hok j
  refine loopQ env mixed (fun j:Nat=>[(1,.int .i64 p),(6,.sl 0 1 0 m),(10,.sl 1 1 0 (redS p O j).2.length),(11,.int .i64 (j:Int))]) (fun j=>([(1,ints (redS p O j).2),(0,rowsV (redS p O j).1)],2)) (fun j=>j≤W) (fun j=>W-j) 0 (by simp) (SubI.slots (by simp [redS]) (by simp [redS])) ?_
  intro j hj
  obtain ⟨hokj,hlj,hpj,_,hsj⟩:=inv j
  have hlm:(redS p O j).1.length=m:=by rw [hlj,hol]
  have hstep:redS p O (j+1)=redC p j (redS p O j):=rfl
  have hstop:=fun h=>redS_stop (p:=p) (M:=O) (j:=j) h (W-j)
  rw [show j+(W-j)=W by omega] at hstop
  by_cases hm0:m=0
  ·have e:=hstop (by omega)
   rw [e]
   generalize redS p O j=x at *
   obtain ⟨Mj,P⟩:=x
   simp only at hokj hlj hpj hsj hlm
   have hP0:P=[]:=List.length_eq_zero_iff.1 (by omega)
   have hM0:Mj=[]:=List.length_eq_zero_iff.1 (by omega)
   subst hm0 hP0 hM0
   simp -implicitDefEqProofs [sc_s_l13Reduce_L4]
   refine SubQ.of (l1:=[(6,.sl 0 1 0 0),(10,.sl 1 1 0 0)]) (SubI.slots rfl (by simp)) ?_
   simp -implicitDefEqProofs
  have hmp:0<m:=by omega
  obtain ⟨h0l,h0e⟩:=hokj 0 (by omega)
  have hself0:=rowsV_self (M:=(redS p O j).1) (i:=0) (by omega)
  by_cases hjW:j<W
  rotate_left
  ·have:j=W:=by omega
   subst this
   generalize redS p O j=x at *
   obtain ⟨Mj,P⟩:=x
   simp only at hokj hlj hpj hsj hlm h0l hself0
   simp -implicitDefEqProofs [sc_s_l13Reduce_L4,hmp,hlm,h0l]
   refine SubQ.of (l1:=[(6,.sl 0 1 0 m),(10,.sl 1 1 0 P.length)]) (s1:=([(1,ints P),(0,rowsV Mj)],3)) ?_ ?_
   ·refine SubI.fold 0 2 0 1 j (cn:=ints (atR Mj 0)) (co:=(rowsV Mj).set 0 (.sl 2 1 0 j)) rfl rfl (by simp [hlm,hmp]) (by simp [h0l]) ?_
    exact SubI.slots (by simp [hself0]) (by simp)
   ·have htk:Mj.take m=Mj:=List.take_of_length_le (by omega)
    simp -implicitDefEqProofs [htk]
    try omega
  by_cases hfull:(redS p O j).2.length=m
  ·have e:=hstop (by rw [hfull,hlm])
   rw [e]
   generalize redS p O j=x at *
   obtain ⟨Mj,P⟩:=x
   simp only at hokj hlj hpj hsj hlm hfull h0l hself0
   simp -implicitDefEqProofs [sc_s_l13Reduce_L4,hmp,hlm,h0l,hjW,hfull]
   refine SubQ.of (l1:=[(6,.sl 0 1 0 m),(10,.sl 1 1 0 m)]) (s1:=([(1,ints P),(0,rowsV Mj)],3)) ?_ ?_
   ·refine SubI.fold 0 2 0 1 W (cn:=ints (atR Mj 0)) (co:=(rowsV Mj).set 0 (.sl 2 1 0 W)) rfl rfl (by simp [hlm,hmp]) (by simp [h0l]) ?_
    exact SubI.slots (by simp [hself0]) (by simp)
   ·have htk:Mj.take m=Mj:=List.take_of_length_le (by omega)
    have htk2:P.take m=P:=List.take_of_length_le (by omega)
    simp -implicitDefEqProofs [htk,htk2]
    try omega
  generalize redS p O j=x at *
  obtain ⟨Mj,P⟩:=x
  simp only at hokj hlj hpj hsj hlm hfull h0l hself0
  have hPm:P.length<m:=by omega
  have hfb:=fndZ_bnd Mj j (m-P.length) P.length
  have hyes:=fun (a:Nat) h1 h2 h3=>redC_yes (p:=p) (j:=j) (M:=Mj) (P:=P) (a:=a) h1 h2 h3
  have hno:=redC_no (p:=p) (j:=j) (M:=Mj) (P:=P)
  rw [hlm] at hno
  simp only [hlm] at hyes
  simp -implicitDefEqProofs [sc_s_l13Reduce_L4,hmp,hlm,h0l,hjW,hPm]
  generalize ha:fndZ Mj j (m-P.length) P.length=a at *
  refine loopQ env mixed (fun i:Nat=>[(1,.int .i64 p),(6,.sl 0 1 0 m),(10,.sl 1 1 0 P.length),(11,.int .i64 (j:Int)),(12,.int .i64 (P.length:Int)),(13,.int .i64 (i:Int))]) (fun _=>([(1,ints P),(0,rowsV Mj)],2)) (fun i=>P.length≤i∧i≤m∧fndZ Mj j (m-i) i=a) (fun i=>m-i) P.length ⟨by omega,by omega,ha⟩ ?_ ?_
  ·refine SubI.fold 0 2 0 1 W (cn:=ints (atR Mj 0)) (co:=(rowsV Mj).set 0 (.sl 2 1 0 W)) rfl rfl (by simp [hlm,hmp]) (by simp [h0l]) ?_
   refine SubI.ren (fun m=>if m=0 then some 0 else if m=1 then some 1 else none) ?_ ?_ ?_ (by simp) (by simp)
   ·simp (disch:=omega) [subT,renV,ren1,wrapI]
   ·simp [subH,renL,ren1,hself0]
   ·intro m hm
    simp only at hm
    rw [if_neg (by omega),if_neg (by omega)]
  rintro i ⟨i1,i2,i3⟩
  by_cases him:i<m
  ·obtain ⟨hil,hie⟩:=hokj i (by omega)
   by_cases hz:at0 (atR Mj i) j=0
   ·simp -implicitDefEqProofs [sc_s_l13Reduce_L6,him,hlm,hjW,hil,hz]
    repeat' (first | omega | apply And.intro)
    refine Again.of (i+1) ⟨by omega,by omega,by rw [← i3,show m-i=(m-(i+1))+1 by omega,fndZ_yes hz]⟩ (by omega) ?_
    refine SubI.fold 0 2 i 1 W (cn:=ints (atR Mj i)) (co:=(rowsV Mj).set i (.sl 2 1 0 W)) rfl rfl (by simp [hlm,him]) (by simp [hil]) ?_
    have hself:=rowsV_self (M:=Mj) (i:=i) (by omega)
    refine SubI.ren (fun m=>if m=0 then some 0 else if m=1 then some 1 else none) ?_ ?_ ?_ (by simp) (by simp)
    ·simp (disch:=omega) [subT,renV,ren1,wrapI]
    ·simp [subH,renL,ren1,hself]
    ·intro m hm
     simp only at hm
     rw [if_neg (by omega),if_neg (by omega)]
   ·have hai:a=i:=by rw [← i3,show m-i=(m-(i+1))+1 by omega,fndZ_no hz]
    subst hai
    have hred:redS p O (j+1)=(pivM p Mj P.length a j,P++[(j:Int)]):=by rw [hstep,hyes a rfl hPm him]
    have hne:¬((a:Int)=(m:Int)):=by omega
    have hG:G_s_l13Clear [.sl 0 1 0 m,.int .i64 (P.length:Int),.int .i64 (j:Int),.int .i64 p] (rowsV (swp Mj P.length a))=some (.sl 0 1 0 m,rowsV (pivM p Mj P.length a j)):=by
     simp only [G_s_l13Clear,dRowsV_rowsV,Option.bind_some]
     rw [if_pos ⟨W,⟨hp,by simp [hlm],okM_swp hokj (by omega) (by omega),hW,hml⟩,by omega,by omega,by omega,by omega⟩,Int.toNat_natCast,Int.toNat_natCast]
     rfl
    have hpl:=pivM_len p Mj P.length a j
    have fin:∀ (T1:Tm),True:=fun _=>trivial
    simp -implicitDefEqProofs [sc_s_l13Reduce_L6,him,hlm,hjW,hil,hz]
    refine SubQ.of (l1:=[(1,.int .i64 p),(6,.sl 0 1 0 m),(10,.sl 1 1 0 P.length),(11,.int .i64 (j:Int)),(12,.int .i64 (P.length:Int)),(13,.int .i64 (a:Int))]) (SubI.slots rfl (by simp)) ?_
    by_cases had:a=P.length
    ·rw [had] at hG hred hil hz hne ⊢
     rw [swp_same (by omega)] at hG
     simp -implicitDefEqProofs [hPm,hlm,hjW,hil,hne]
     have hself:=rowsV_self (M:=Mj) (i:=P.length) (by omega)
     refine ⟨by omega,CutI.of (l':=[(1,.int .i64 p),(6,.sl 0 1 0 m),(10,.sl 1 1 0 P.length),(11,.int .i64 (j:Int)),(12,.int .i64 (P.length:Int))]) (s':=([(1,ints P),(0,rowsV Mj)],3)) ?_ ?_⟩
     ·refine SubI.fold 0 2 P.length 1 W (cn:=ints (atR Mj P.length)) (co:=(rowsV Mj).set P.length (.sl 2 1 0 W)) rfl rfl (by simp [hlm,hPm]) (by simp [hil]) ?_
      exact SubI.slots (by simp [hself]) (by simp)
     simp -implicitDefEqProofs [ren0,hG]
     refine ⟨rfl,by omega,?_⟩
     refine Again.of (j+1) (by omega) (by omega) (SubI.ren (fun m=>if m=0 then some 0 else if m=1 then some 4 else none) ?_ ?_ ?_ (by simp) (by simp))
     ·rw [hred]
      simp (disch:=omega) [subT,renV,ren1,wrapI]
     ·rw [hred]
      simp [subH,renL,ren1]
      rw [← ints_app]
      rfl
     ·intro m hm
      simp only at hm
      rw [if_neg (by omega),if_neg (by omega)]
    ·have hda:P.length≠a:=fun e=>had e.symm
     obtain ⟨hdl,hde⟩:=hokj P.length (by omega)
     simp -implicitDefEqProofs [hPm,him,hlm,hjW,hil,hdl,hne,hda,had]
     refine ⟨by omega,by omega,CutI.of (l':=[(1,.int .i64 p),(6,.sl 0 1 0 m),(10,.sl 1 1 0 P.length),(11,.int .i64 (j:Int)),(12,.int .i64 (P.length:Int))]) (s':=([(1,ints P),(0,rowsV (swp Mj P.length a))],4)) ?_ ?_⟩
     ·refine SubI.fold 0 3 a 1 W (cn:=ints (atR Mj P.length)) (co:=((((rowsV Mj).set a (.sl 2 1 0 W)).set P.length (.sl 3 1 0 W)).set a (.sl 3 1 0 W)).set P.length (.sl 2 1 0 W)) rfl rfl (by simp [hlm,him,hda,had]) (by simp [hdl]) ?_
      refine SubI.fold 0 2 P.length 1 W (cn:=ints (atR Mj a)) (co:=(((((rowsV Mj).set a (.sl 2 1 0 W)).set P.length (.sl 3 1 0 W)).set a (.sl 3 1 0 W)).set P.length (.sl 2 1 0 W)).set a (.own 1 (ints (atR Mj P.length)))) rfl rfl (by simp [hlm,hPm,hda,had]) (by simp [hil]) ?_
      have hsc:=swp_cells2 (M:=Mj) hda (.sl 2 1 0 W) (.sl 3 1 0 W)
      exact SubI.slots (by simp [← hsc]) (by simp)
     simp -implicitDefEqProofs [ren0,hG]
     refine ⟨rfl,by omega,?_⟩
     refine Again.of (j+1) (by omega) (by omega) (SubI.ren (fun m=>if m=0 then some 0 else if m=1 then some 5 else none) ?_ ?_ ?_ (by simp) (by simp))
     ·rw [hred]
      simp (disch:=omega) [subT,renV,ren1,wrapI]
     ·rw [hred]
      simp [subH,renL,ren1]
      rw [← ints_app]
      rfl
     ·intro m hm
      simp only at hm
      rw [if_neg (by omega),if_neg (by omega)]
  ·have hai:a=m:=by
    have:i=m:=by omega
    rw [← i3,this,Nat.sub_self]
    rfl
   have hred:redS p O (j+1)=(Mj,P):=by rw [hstep,hno fun h=>by omega]
   have:i=m:=by omega
   subst this
   simp -implicitDefEqProofs [sc_s_l13Reduce_L6,hlm]
   refine SubQ.of (l1:=[(1,.int .i64 p),(6,.sl 0 1 0 i),(10,.sl 1 1 0 P.length),(11,.int .i64 (j:Int)),(13,.int .i64 (i:Int))]) (SubI.slots rfl (by simp)) ?_
   simp -implicitDefEqProofs
   exact Again.of (j+1) (by omega) (by omega) (SubI.slots (by simp [hred]) (by simp (disch:=omega) [wrapI,hred]))
theorem redS_nil (p:Int) (j:Nat):redS p [] j=([],[]):=by
 induction j with
 | zero=>rfl
 | succ j ih =>
  rw [redS,ih]
  exact redC_no fun h=>by simp at h
def sc_i_borderOf_L2:SC:=(.seq (.reg [⟨some 29,none,.bin false .lss (.t 28) (.t 27)⟩]) (.seq (.cond (.t 29) .skip (.exit 2)) (.seq (.block 3 (.seq (.reg [⟨some 30,none,.mov (.t 28)⟩,⟨some 31,none,.idx 1 (.t 26) (.t 28)⟩,⟨some 32,none,.ld none (.int .i64 0) (.t 31)⟩,⟨some 8,none,.mov (.t 30)⟩,⟨some 9,none,.mov (.t 32)⟩]) (.dreg [⟨⟨some 33,none,.mov (.t 5)⟩,false,false⟩,⟨⟨some 34,none,.mov (.t 6)⟩,false,false⟩,⟨⟨some 35,none,.idx 1 (.t 33) (.t 34)⟩,false,false⟩,⟨⟨some 36,none,.ld none .nil (.t 35)⟩,false,false⟩,⟨⟨some 37,none,.mov (.t 8)⟩,false,false⟩,⟨⟨some 38,none,.mov (.t 7)⟩,false,false⟩,⟨⟨some 39,none,.mov (.t 9)⟩,false,false⟩,⟨⟨some 40,none,.call 71 [.t 38,.t 39]⟩,false,false⟩,⟨⟨some 41,none,.idx 1 (.t 36) (.t 37)⟩,false,false⟩,⟨⟨none,none,.st 1 (.t 41) (.t 40)⟩,true,false⟩]))) (.reg [⟨some 42,none,.bin false .add (.t 28) (.c (.int .i64 1))⟩,⟨some 28,none,.mov (.t 42)⟩]))))
def sc_i_borderOf_L0:SC:=(.seq (.reg [⟨some 16,none,.bin false .lss (.t 15) (.t 14)⟩]) (.seq (.cond (.t 16) .skip (.exit 0)) (.seq (.block 1 (.seq (.reg [⟨some 17,none,.mov (.t 15)⟩,⟨some 18,none,.idx 1 (.t 13) (.t 15)⟩,⟨some 19,none,.ld none (.int .i64 0) (.t 18)⟩,⟨some 6,none,.mov (.t 17)⟩,⟨some 7,none,.mov (.t 19)⟩]) (.seq (.reg [⟨some 20,none,.mov (.t 5)⟩,⟨some 21,none,.mov (.t 6)⟩,⟨some 22,none,.mov (.t 1)⟩,⟨some 23,none,.len (.t 22)⟩,⟨some 24,none,.mk 1 8 [.int .i64 0] (.t 23) (.t 23)⟩,⟨some 25,none,.idx 1 (.t 20) (.t 21)⟩,⟨none,none,.st 1 (.t 25) (.t 24)⟩]) (.seq (.reg [⟨some 26,none,.mov (.t 1)⟩,⟨some 27,none,.len (.t 26)⟩,⟨some 28,none,.mov (.c (.int .i64 0))⟩]) (.block 2 (.loop sc_i_borderOf_L2)))))) (.reg [⟨some 43,none,.bin false .add (.t 15) (.c (.int .i64 1))⟩,⟨some 15,none,.mov (.t 43)⟩]))))
def sc_i_borderOf:SC:=(.seq (.reg [⟨some 4,none,.mov (.c .nil)⟩]) (.seq (.reg [⟨some 10,none,.mov (.t 0)⟩,⟨some 11,none,.len (.t 10)⟩,⟨some 12,none,.mk 1 24 [.nil] (.t 11) (.t 11)⟩,⟨some 5,none,.mov (.t 12)⟩]) (.seq (.seq (.reg [⟨some 13,none,.mov (.t 0)⟩,⟨some 14,none,.len (.t 13)⟩,⟨some 15,none,.mov (.c (.int .i64 0))⟩]) (.block 0 (.loop sc_i_borderOf_L0))) (.seq (.reg [⟨some 44,none,.mov (.t 5)⟩,⟨some 4,none,.mov (.t 44)⟩]) .ret))))
theorem code_i_borderOf:fnCode Tryz.prog [] 36=some (45,sc_i_borderOf,[(4,none)]):=by kernel_rfl
noncomputable def F_i_borderOf:List V→Option V:=F2 dL dL fun R C => @ite _ ((∀ r∈R,∀ s∈C,isS r∧isS s∧sz s=sz r+1)∧R.length≤64∧C.length≤64) (Classical.propDecidable _) (some (.own 1 (rowsV (sgnM R C)))) none
theorem fn_i_borderOf:FnOk Tryz.prog 36 F_i_borderOf:=by
 have env:=(envNil_ok (P:=Tryz.prog)).add fn_i_borderSign
 refine fn_ok code_i_borderOf mixed env ?_
 intro args r h hb
 obtain ⟨_,_,R,C,rfl,h1,h2,h4⟩:=F2_inv h
 cases dL_inv h1
 cases dL_inv h2
 simp only [Option.ite_none_right_eq_some,Option.some.injEq] at h4
 obtain ⟨⟨hRC,hRl,hCl⟩,rfl⟩:=h4
 clear h
 refine ⟨by simp,fun w0 U0 L0 N0 => ?_⟩
 clear hb
 have hml:=sgnM_len R C
 have hma:=fun (i:Nat) (hi:i<R.length)=>sgnM_at (C:=C) hi
 generalize sgnM R C=M at *
 simp -implicitDefEqProofs [sc_i_borderOf]
 repeat' (first | omega | apply And.intro)
 have inner:∀ (i:Nat) (Q:Post) (T0:Tm),i<R.length→subE T0 [(1,.list 1 (ints C)),(5,.sl 0 1 0 R.length),(6,.int .i64 (i:Int)),(7,.int .i64 (at0 R i)),(13,.list 1 (ints R)),(14,.int .i64 (R.length:Int)),(15,.int .i64 (i:Int)),(26,.list 1 (ints C)),(27,.int .i64 (C.length:Int)),(28,.int .i64 0)] →
   Q (.exit 2) [(1,.list 1 (ints C)),(5,.sl 0 1 0 R.length),(13,.list 1 (ints R)),(14,.int .i64 (R.length:Int)),(15,.int .i64 (i:Int))] ([(0,rowsV (padR M (i+1)))],1) →
   LoopI ⟨Tryz.prog,w0,U0,L0,N0,0,45⟩ [] sc_i_borderOf_L2 Q T0 ([(1,ints (sgR (at0 R i) C 0)),(0,(rowsV (padR M i)).set i (.sl 1 1 0 C.length))],2):=by
  intro i Q T0 hi hsub q1
  have hiM:i<M.length:=by omega
  refine loopQ env mixed (fun j:Nat=>[(1,.list 1 (ints C)),(5,.sl 0 1 0 R.length),(6,.int .i64 (i:Int)),(7,.int .i64 (at0 R i)),(13,.list 1 (ints R)),(14,.int .i64 (R.length:Int)),(15,.int .i64 (i:Int)),(26,.list 1 (ints C)),(27,.int .i64 (C.length:Int)),(28,.int .i64 (j:Int))]) (fun j=>([(1,ints (sgR (at0 R i) C j)),(0,(rowsV (padR M i)).set i (.sl 1 1 0 C.length))],2)) (fun j=>j≤C.length) (fun j=>C.length-j) 0 (by simp) (SubI.slots rfl (by simpa using hsub)) ?_
  intro j hj
  by_cases hlt:j<C.length
  ·obtain ⟨c1,c2,c3⟩:=hRC _ (getD_mem' hi) _ (getD_mem' hlt)
   have hF:F_s_l13Sign [.int .i64 (at0 R i),.int .i64 (at0 C j)]=some (.int .i64 (sgnZ (at0 R i) (at0 C j))):=by
    simp only [F_s_l13Sign,F2_mk,dI_int,Option.bind_some]
    rw [if_pos ⟨c1,c2,c3⟩]
   have hset:=sgR_set (r:=at0 R i) hlt
   have hgl:=sgR_len (at0 R i) C j
   generalize sgR (at0 R i) C j=g at *
   simp -implicitDefEqProofs [sc_i_borderOf_L2,hF,hlt,hi,hml,hgl,hset]
   repeat' (first | omega | apply And.intro)
   exact Again.of (j+1) (by omega) (by omega) (SubI.slots (by simp) (by simp (disch:=omega) [wrapI]))
  ·have:j=C.length:=by omega
   subst this
   have hfu:=sgR_full (at0 R i) C
   rw [← hma i hi] at hfu
   have hps:=padR_set hiM
   have hal:(atR M i).length=C.length:=by rw [hma i hi]; simp
   rw [hfu]
   simp -implicitDefEqProofs [sc_i_borderOf_L2]
   refine SubQ.of ?_ q1
   refine SubI.fold 0 1 i 1 C.length (cn:=ints (atR M i)) (co:=(rowsV (padR M i)).set i (.sl 1 1 0 C.length)) (by simp) (by simp) (by simp [hiM]) (by simp [hal]) ?_
   refine SubI.ren (fun m=>if m=0 then some 0 else none) ?_ ?_ ?_ (by simp) (by simp)
   ·simp [subT,renV,ren1]
   ·simp [subH,hps]
   ·intro m hm
    simp only at hm
    rw [if_neg (by omega)]
 refine loopI env mixed (fun i:Nat=>[(1,.list 1 (ints C)),(5,.sl 0 1 0 R.length),(13,.list 1 (ints R)),(14,.int .i64 (R.length:Int)),(15,.int .i64 (i:Int))]) (fun i=>([(0,rowsV (padR M i))],1)) (fun i=>i≤R.length) (fun i=>R.length-i) 0 (by simp) (SubI.nilAll 0 1 (by simp; rfl) (by simp) (SubI.slots (by simp [padR_zero,rowsV,hml]) (by simp))) ?_
 intro i hi
 by_cases hlt:i<R.length
 ·have hin:=inner i
  have hz:=sgR_zero (at0 R i) C
  simp -implicitDefEqProofs [sc_i_borderOf_L0,hlt,hml]
  rw [← hz]
  refine ⟨by omega,⟨by omega,by omega⟩,by omega,?_⟩
  refine hin _ _ hlt (by simp) ?_
  simp -implicitDefEqProofs
  exact Again.of (i+1) (by omega) (by omega) (SubI.slots (by simp) (by simp (disch:=omega) [wrapI]))
 ·have:i=R.length:=by omega
  subst this
  have hpf:padR M R.length=M:=by rw [← hml,padR_full]
  have ht:M.take R.length=M:=List.take_of_length_le (by omega)
  simp -implicitDefEqProofs [sc_i_borderOf_L0,hpf,ht]
  try omega
def sc_s_l13Sign:SC:=(.seq (.reg [⟨some 4,none,.mov (.c (.int .i64 0))⟩]) (.seq (.seq (.reg [⟨some 6,none,.mov (.t 0)⟩,⟨some 7,none,.mov (.t 1)⟩,⟨some 8,none,.bin false .and (.t 6) (.t 7)⟩,⟨some 9,none,.mov (.t 0)⟩,⟨some 10,none,.bin false .neq (.t 8) (.t 9)⟩,⟨some 11,none,.mov (.t 10)⟩,⟨some 12,some (11,false),.mov (.t 1)⟩,⟨some 13,some (11,false),.call 81 [.t 12]⟩,⟨some 14,some (11,false),.mov (.t 0)⟩,⟨some 15,some (11,false),.call 81 [.t 14]⟩,⟨some 16,some (11,false),.bin false .sub (.t 13) (.t 15)⟩,⟨some 17,some (11,false),.bin false .neq (.t 16) (.c (.int .i64 1))⟩,⟨some 18,none,.pick (.t 11) (.c (.bool true)) (.t 17)⟩]) (.cond (.t 18) (.seq (.reg [⟨some 4,none,.mov (.c (.int .i64 0))⟩]) .ret) .skip)) (.seq (.reg [⟨some 19,none,.mov (.t 1)⟩,⟨some 20,none,.mov (.t 0)⟩,⟨some 21,none,.bin false .sub (.t 19) (.t 20)⟩,⟨some 5,none,.mov (.t 21)⟩]) (.seq (.reg [⟨some 22,none,.mov (.t 1)⟩,⟨some 23,none,.mov (.t 5)⟩,⟨some 24,none,.bin false .sub (.t 23) (.c (.int .i64 1))⟩,⟨some 25,none,.bin false .and (.t 22) (.t 24)⟩,⟨some 26,none,.call 81 [.t 25]⟩,⟨some 27,none,.bin false .rem (.t 26) (.c (.int .i64 2))⟩,⟨some 28,none,.bin false .mul (.c (.int .i64 2)) (.t 27)⟩,⟨some 29,none,.bin false .sub (.c (.int .i64 1)) (.t 28)⟩,⟨some 4,none,.mov (.t 29)⟩]) .ret))))
theorem code_s_l13Sign:fnCode Tryz.prog [] 53=some (30,sc_s_l13Sign,[(4,none)]):=by kernel_rfl
theorem fn_s_l13Sign:FnOk Tryz.prog 53 F_s_l13Sign:=by
 have env:=(envNil_ok (P:=Tryz.prog)).add fn_s_l2Size
 refine fn_ok code_s_l13Sign mixed env ?_
 intro args r h hb
 obtain ⟨_,_,r,s,rfl,h1,h2,h4⟩:=F2_inv h
 cases dI_inv h1
 cases dI_inv h2
 simp only [Option.ite_none_right_eq_some,Option.some.injEq] at h4
 obtain ⟨⟨hr,hs,hz⟩,rfl⟩:=h4
 clear h
 refine ⟨by simp,fun w0 U0 L0 N0 => ?_⟩
 clear hb
 by_cases hsub:subS r s
 rotate_left
 ·have e:=sgnZ_no (r:=r) (s:=s) hsub
  have h:¬band r s=r:=fun h=>hsub ((subS_iff hr hs).2 h)
  simp -implicitDefEqProofs [sc_s_l13Sign,h,e]
 have h:=(subS_iff hr hs).1 hsub
 have e:=sgnZ_yes (r:=r) (s:=s) hsub
 obtain ⟨q1,q2⟩:=sgn_set hr hs hz hsub
 have q3:=q1.1
 have q4:=q1.2
 have hb:=isS_band hs q2
 have b1:r<9223372036854775808:=by have:=hr.2; omega
 have b2:s<9223372036854775808:=by have:=hs.2; omega
 have b3:band s (bnot s r-1)<9223372036854775808:=by have:=hb.2; omega
 have hsz:IntKind.i64.wrap (sz s-sz r)=1:=by rw [wrapI _ (by omega) (by omega)]; omega
 have hsr:IntKind.i64.wrap (s-r)=bnot s r:=by rw [sub_eq_bnot hr hs hsub,wrapI _ (by omega) (by omega)]
 have hw:IntKind.i64.wrap (bnot s r-1)=bnot s r-1:=wrapI _ (by omega) (by omega)
 have hz0:=sz_nn (band s (bnot s r-1))
 generalize hzz:sz (band s (bnot s r-1))=z at *
 have ht:=tmod_nn 2 hz0
 have hw2:IntKind.i64.wrap (2*(z % 2))=2*(z % 2):=wrapI _ (by omega) (by omega)
 have hw3:IntKind.i64.wrap (1-2*(z % 2))=1-2*(z % 2):=wrapI _ (by omega) (by omega)
 simp -implicitDefEqProofs [sc_s_l13Sign,F_s_l2Size,h,b1,b2,b3,hsz,hsr,hw,hzz,ht,hw2,hw3,e]
def sc_i_BorderMatrix:SC:=(.seq (.reg [⟨some 2,none,.box (.t 0)⟩,⟨some 4,none,.mov (.c .nil)⟩]) (.seq (.seq (.reg [⟨some 5,none,.ld (some 2) .undef (.t 2)⟩,⟨some 6,none,.call 33 [.t 5]⟩,⟨some 7,none,.un .not (.t 6)⟩,⟨some 8,none,.mov (.t 7)⟩,⟨some 9,some (8,false),.mov (.t 1)⟩,⟨some 10,some (8,false),.bin false .lss (.t 9) (.c (.int .i64 1))⟩,⟨some 11,none,.pick (.t 8) (.c (.bool true)) (.t 10)⟩,⟨some 12,none,.mov (.t 11)⟩,⟨some 13,some (12,false),.mov (.t 1)⟩,⟨some 14,some (12,false),.bin false .gtr (.t 13) (.c (.int .i64 6))⟩,⟨some 15,none,.pick (.t 12) (.c (.bool true)) (.t 14)⟩]) (.cond (.t 15) (.seq (.reg [⟨some 4,none,.mov (.c .nil)⟩]) .ret) .skip)) (.seq (.dreg [⟨⟨some 16,none,.ld (some 2) .undef (.t 2)⟩,false,false⟩,⟨⟨some 17,none,.mov (.t 1)⟩,false,false⟩,⟨⟨some 18,none,.bin false .sub (.t 17) (.c (.int .i64 1))⟩,false,false⟩,⟨⟨some 19,none,.call 82 [.t 16,.t 18]⟩,false,false⟩,⟨⟨some 20,none,.ld (some 2) .undef (.t 2)⟩,false,false⟩,⟨⟨some 21,none,.mov (.t 1)⟩,false,false⟩,⟨⟨some 22,none,.call 82 [.t 20,.t 21]⟩,false,false⟩,⟨⟨some 23,none,.call 36 [.t 19,.t 22]⟩,true,false⟩,⟨⟨some 4,none,.mov (.t 23)⟩,false,false⟩]) .ret)))
theorem code_i_BorderMatrix:fnCode Tryz.prog [36] 43=some (24,sc_i_BorderMatrix,[(4,none)]):=by kernel_rfl
theorem borM_ok {n:Int} {l:List Int} {k:Int}:(∀ r∈fosL n l (k-1),∀ s∈fosL n l k,isS r∧isS s∧sz s=sz r+1)∧(fosL n l (k-1)).length≤64∧(fosL n l k).length≤64:=by
 refine ⟨fun r hr s hs => ?_,setsOf_len _,setsOf_len _⟩
 obtain ⟨a,_,_,b⟩:=mem_fosL hr
 obtain ⟨c,_,_,d⟩:=mem_fosL hs
 exact ⟨a,c,by omega⟩
theorem fn_i_BorderMatrix:FnOk Tryz.prog 43 F_i_BorderMatrix:=by
 have env:=(((envNil_ok (P:=Tryz.prog)).add fn_i_IsComplex).add fn_i_FacesOfSize).add fn_i_borderOf
 refine fn_ok code_i_BorderMatrix mixed env ?_
 intro args r h hb
 obtain ⟨_,_,⟨n,l⟩,k,rfl,h1,h2,h4⟩:=F2_inv h
 cases dC_inv h1
 cases dI_inv h2
 simp only [Option.ite_none_right_eq_some,Option.some.injEq] at h4
 obtain ⟨⟨hc,hk1,hk6⟩,rfl⟩:=h4
 clear h
 refine ⟨by simp,fun w0 U0 L0 N0 => ?_⟩
 clear hb
 have e0:=cplxB_iff.2 hc
 have g1:¬k<1:=by omega
 have g2:¬6<k:=by omega
 have hw:IntKind.i64.wrap (k-1)=k-1:=wrapI _ (by omega) (by omega)
 have hF:F_i_borderOf [.list 1 (ints (fosL n l (k-1))),.list 1 (ints (fosL n l k))]=some (.own 1 (rowsV (borM n l k))):=by
  simp only [F_i_borderOf,F2_mk,dL_list,Option.bind_some]
  rw [if_pos borM_ok]
  rfl
 generalize borM n l k=M at *
 simp -implicitDefEqProofs [sc_i_BorderMatrix,F_s_IsComplex,F_s_FacesOfSize,e0,g1,g2,hw,hF]
def sc_s_l13Border_L2:SC:=(.seq (.seq (.reg [⟨some 26,none,.mov (.t 10)⟩,⟨some 27,none,.mov (.t 7)⟩,⟨some 28,none,.len (.t 27)⟩,⟨some 29,none,.bin false .lss (.t 26) (.t 28)⟩]) (.cond (.t 29) .skip (.exit 2))) (.seq (.block 3 (.dreg [⟨⟨some 32,none,.mov (.t 9)⟩,false,true⟩,⟨⟨some 33,none,.mov (.t 6)⟩,false,false⟩,⟨⟨some 34,none,.mov (.t 8)⟩,false,false⟩,⟨⟨some 35,none,.idx 1 (.t 33) (.t 34)⟩,false,false⟩,⟨⟨some 36,none,.ld none (.int .i64 0) (.t 35)⟩,false,false⟩,⟨⟨some 37,none,.mov (.t 7)⟩,false,false⟩,⟨⟨some 38,none,.mov (.t 10)⟩,false,false⟩,⟨⟨some 39,none,.idx 1 (.t 37) (.t 38)⟩,false,false⟩,⟨⟨some 40,none,.ld none (.int .i64 0) (.t 39)⟩,false,false⟩,⟨⟨some 41,none,.call 53 [.t 36,.t 40]⟩,false,false⟩,⟨⟨some 42,none,.mks 1 1 [.int .i64 0] [(0,(1,(.t 41)))]⟩,true,false⟩,⟨⟨some 43,none,.app 1 8 (.t 32) (.t 42)⟩,true,false⟩,⟨⟨some 9,none,.mov (.t 43)⟩,false,false⟩])) (.reg [⟨some 30,none,.mov (.t 10)⟩,⟨some 31,none,.bin false .add (.t 30) (.c (.int .i64 1))⟩,⟨some 10,none,.mov (.t 31)⟩])))
def sc_s_l13Border_L0:SC:=(.seq (.seq (.reg [⟨some 19,none,.mov (.t 8)⟩,⟨some 20,none,.mov (.t 6)⟩,⟨some 21,none,.len (.t 20)⟩,⟨some 22,none,.bin false .lss (.t 19) (.t 21)⟩]) (.cond (.t 22) .skip (.exit 0))) (.seq (.block 1 (.seq (.reg [⟨some 25,none,.mks 0 1 [] []⟩,⟨some 9,none,.mov (.t 25)⟩]) (.seq (.seq (.reg [⟨some 10,none,.mov (.c (.int .i64 0))⟩]) (.block 2 (.loop sc_s_l13Border_L2))) (.reg [⟨some 44,none,.mov (.t 5)⟩,⟨some 45,none,.mov (.t 9)⟩,⟨some 46,none,.mks 1 1 [.nil] [(0,(1,(.t 45)))]⟩,⟨some 47,none,.app 1 24 (.t 44) (.t 46)⟩,⟨some 5,none,.mov (.t 47)⟩])))) (.reg [⟨some 23,none,.mov (.t 8)⟩,⟨some 24,none,.bin false .add (.t 23) (.c (.int .i64 1))⟩,⟨some 8,none,.mov (.t 24)⟩])))
def sc_s_l13Border:SC:=(.seq (.reg [⟨some 2,none,.box (.t 0)⟩,⟨some 4,none,.mov (.c .nil)⟩]) (.seq (.reg [⟨some 11,none,.mks 0 1 [] []⟩,⟨some 5,none,.mov (.t 11)⟩]) (.seq (.reg [⟨some 12,none,.ld (some 2) .undef (.t 2)⟩,⟨some 13,none,.mov (.t 1)⟩,⟨some 14,none,.bin false .sub (.t 13) (.c (.int .i64 1))⟩,⟨some 15,none,.call 52 [.t 12,.t 14]⟩,⟨some 6,none,.mov (.t 15)⟩]) (.seq (.reg [⟨some 16,none,.ld (some 2) .undef (.t 2)⟩,⟨some 17,none,.mov (.t 1)⟩,⟨some 18,none,.call 52 [.t 16,.t 17]⟩,⟨some 7,none,.mov (.t 18)⟩]) (.seq (.seq (.reg [⟨some 8,none,.mov (.c (.int .i64 0))⟩]) (.block 0 (.loop sc_s_l13Border_L0))) (.seq (.reg [⟨some 48,none,.mov (.t 5)⟩,⟨some 4,none,.mov (.t 48)⟩]) .ret))))))
theorem code_s_l13Border:fnCode Tryz.prog [] 25=some (49,sc_s_l13Border,[(4,none)]):=by kernel_rfl
theorem fn_s_l13Border:FnOk Tryz.prog 25 F_i_BorderMatrix:=by
 have env:=((envNil_ok (P:=Tryz.prog)).add fn_s_FacesOfSize).add fn_s_l13Sign
 refine fn_ok code_s_l13Border mixed env ?_
 intro args r h hb
 obtain ⟨_,_,⟨n,l⟩,k,rfl,h1,h2,h4⟩:=F2_inv h
 cases dC_inv h1
 cases dI_inv h2
 simp only [Option.ite_none_right_eq_some,Option.some.injEq] at h4
 obtain ⟨⟨hc,hk1,hk6⟩,rfl⟩:=h4
 clear h
 refine ⟨by simp,fun w0 U0 L0 N0 => ?_⟩
 clear hb
 have hw:IntKind.i64.wrap (k-1)=k-1:=wrapI _ (by omega) (by omega)
 obtain ⟨hRC,hRl,hCl⟩:=borM_ok (n:=n) (l:=l) (k:=k)
 have hF1:F_s_FacesOfSize [.agg [.int .i64 n,.list 1 (ints l)],.int .i64 (k-1)]=some (.own 1 (ints (fosL n l (k-1)))):=by simp [F_s_FacesOfSize]
 have hF2:F_s_FacesOfSize [.agg [.int .i64 n,.list 1 (ints l)],.int .i64 k]=some (.own 1 (ints (fosL n l k))):=by simp [F_s_FacesOfSize]
 unfold borM
 generalize fosL n l (k-1)=R at *
 generalize fosL n l k=C at *
 have hml:=sgnM_len R C
 have hma:=fun (i:Nat) (hi:i<R.length)=>sgnM_at (C:=C) hi
 generalize sgnM R C=M at *
 simp -implicitDefEqProofs [sc_s_l13Border,hw,hF1,hF2]
 have inner:∀ (i:Nat) (Q:Post) (T0:Tm),i<R.length→subE T0 [(5,.sl 1 1 0 i),(6,.sl 2 1 0 R.length),(7,.sl 3 1 0 C.length),(8,.int .i64 (i:Int)),(9,.sl 4 1 0 0),(10,.int .i64 0)] →
   Q (.exit 2) [(5,.sl 1 1 0 i),(6,.sl 2 1 0 R.length),(7,.sl 3 1 0 C.length),(8,.int .i64 (i:Int)),(9,.sl 4 1 0 C.length)] ([(4,ints (atR M i)),(3,ints C),(2,ints R),(1,rowsV (M.take i)),(0,[.int .i64 n,.list 1 (ints l)])],5) →
   LoopI ⟨Tryz.prog,w0,U0,L0,N0,0,49⟩ [] sc_s_l13Border_L2 Q T0 ([(4,[]),(3,ints C),(2,ints R),(1,rowsV (M.take i)),(0,[.int .i64 n,.list 1 (ints l)])],5):=by
  intro i Q T0 hi hsub q1
  have hal:(atR M i).length=C.length:=by rw [hma i hi]; simp
  have hae:∀ j,j<C.length→at0 (atR M i) j=sgnZ (at0 R i) (at0 C j):=fun j hj=>by
   rw [hma i hi,← rowF_map,rowF_at hj]
  generalize atR M i=A at *
  refine loopQ env mixed (fun j:Nat=>[(5,.sl 1 1 0 i),(6,.sl 2 1 0 R.length),(7,.sl 3 1 0 C.length),(8,.int .i64 (i:Int)),(9,.sl 4 1 0 j),(10,.int .i64 (j:Int))]) (fun j=>([(4,ints (A.take j)),(3,ints C),(2,ints R),(1,rowsV (M.take i)),(0,[.int .i64 n,.list 1 (ints l)])],5)) (fun j=>j≤C.length) (fun j=>C.length-j) 0 (by simp) (SubI.slots (by simp) (by simpa using hsub)) ?_
  intro j hj
  by_cases hlt:j<C.length
  ·obtain ⟨c1,c2,c3⟩:=hRC _ (getD_mem' hi) _ (getD_mem' hlt)
   have hF:F_s_l13Sign [.int .i64 (at0 R i),.int .i64 (at0 C j)]=some (.int .i64 (sgnZ (at0 R i) (at0 C j))):=by
    simp only [F_s_l13Sign,F2_mk,dI_int,Option.bind_some]
    rw [if_pos ⟨c1,c2,c3⟩]
   have e:A.take (j+1)=A.take j++[sgnZ (at0 R i) (at0 C j)]:=by rw [take_at (by omega),hae j hlt]
   have gl:(A.take j).length=j:=by simp; omega
   generalize A.take j=g at *
   simp -implicitDefEqProofs [sc_s_l13Border_L2,freeOk,hF,hlt,hi,gl]
   repeat' (first | omega | apply And.intro)
   refine Again.of (j+1) (by omega) (by omega) (SubI.ren (fun m=>if m=0 then some 0 else if m=1 then some 1 else if m=2 then some 2 else if m=3 then some 3 else if m=4 then some 6 else none) ?_ ?_ ?_ (by simp) (by simp))
   ·simp (disch:=omega) [subT,renV,ren1,wrapI]
   ·have ht:g.take j=g:=List.take_of_length_le (by omega)
    simp [subH,e,renL,ren1,ht]
    rw [← ints_app]
    rfl
   ·intro m hm
    simp only at hm
    rw [if_neg (by omega),if_neg (by omega),if_neg (by omega),if_neg (by omega),if_neg (by omega)]
  ·have:j=C.length:=by omega
   subst this
   have ht:A.take C.length=A:=List.take_of_length_le (by omega)
   simp -implicitDefEqProofs [sc_s_l13Border_L2,ht]
   exact SubQ.of (SubI.slots rfl (by simp)) q1
 refine loopI env mixed (fun i:Nat=>[(5,.sl 1 1 0 i),(6,.sl 2 1 0 R.length),(7,.sl 3 1 0 C.length),(8,.int .i64 (i:Int))]) (fun i=>([(3,ints C),(2,ints R),(1,rowsV (M.take i)),(0,[.int .i64 n,.list 1 (ints l)])],4)) (fun i=>i≤R.length) (fun i=>R.length-i) 0 (by simp) (SubI.slots (by simp) (by simp)) ?_
 intro i hi
 by_cases hlt:i<R.length
 ·have hin:=inner i
  have hiM:i<M.length:=by omega
  have hal:(atR M i).length=C.length:=by rw [hma i hlt]; simp
  have hsn:=rowsV_snoc hiM (.sl 4 1 0 C.length)
  have gl:(rowsV (M.take i)).length=i:=by simp; omega
  simp -implicitDefEqProofs [sc_s_l13Border_L0,hlt]
  refine hin _ _ hlt (by simp) ?_
  simp -implicitDefEqProofs [gl]
  have htt:(M.take i).take i=M.take i:=List.take_of_length_le (by simp; omega)
  rw [htt]
  refine ⟨by omega,Again.of (i+1) (by omega) (by omega) ?_⟩
  refine SubI.fold 6 4 i 1 C.length (cn:=ints (atR M i)) (co:=rowsV (M.take i)++[.sl 4 1 0 C.length]) (by simp) (by simp) (by rw [List.getElem?_append_right (by omega),gl,Nat.sub_self]; rfl) (by simp [hal]) ?_
  rw [hsn]
  refine SubI.ren (fun m=>if m=0 then some 0 else if m=1 then some 6 else if m=2 then some 2 else if m=3 then some 3 else none) ?_ ?_ ?_ (by simp) (by simp)
  ·simp (disch:=omega) [subT,renV,ren1,wrapI]
  ·simp [subH,renL,ren1]
  ·intro m hm
   simp only at hm
   rw [if_neg (by omega),if_neg (by omega),if_neg (by omega),if_neg (by omega)]
 ·have:i=R.length:=by omega
  subst this
  have ht:M.take R.length=M:=List.take_of_length_le (by omega)
  simp -implicitDefEqProofs [sc_s_l13Border_L0,ht]
  try omega
end Go.Proofs.YtkoljbncokmeaaaGreatDoor
