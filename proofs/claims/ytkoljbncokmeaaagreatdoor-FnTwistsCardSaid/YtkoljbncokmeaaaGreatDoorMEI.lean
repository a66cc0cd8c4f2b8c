import Derived.Test.YtkoljbncokmeaaaGreatDoorMEH
namespace Go.Proofs.YtkoljbncokmeaaaGreatDoor
open Go Go.RowKit
set_option maxRecDepth 1000000
set_option linter.unusedSimpArgs false
set_option linter.unusedVariables false
set_option maxHeartbeats 1000000
theorem tdivB {a b:Int} {B:Nat} (h : -(B:Int)≤a∧a≤B) : -(B:Int)≤a.tdiv b∧a.tdiv b≤B:=by
 have h1:=Int.natAbs_tdiv_le_natAbs a b
 omega
theorem mulB2 {a b:Int} {A B:Nat} (h : -(A:Int)≤a∧a≤A) (h2 : -(B:Int)≤b∧b≤B) : -((A*B:Nat):Int)≤a*b∧a*b≤((A*B:Nat):Int):=by
 have h1:(a*b).natAbs≤A*B:=by
  rw [Int.natAbs_mul]
  exact Nat.mul_le_mul (by omega) (by omega)
 omega
def rwV (k:Nat) (f:Nat→Nat→Int) (a b:Nat):Int:=f a b-(f a k).tdiv (f k k)*f k b
def clV (k:Nat) (f:Nat→Nat→Int) (a b:Nat):Int:=f a b-(f k b).tdiv (f k k)*f a k
noncomputable def rwS (k:Nat) (f:Nat→Nat→Int) (i a b:Nat):Int:=@ite _ (k<a∧a<i∧k≤b) (Classical.propDecidable _) (rwV k f a b) (f a b)
noncomputable def clS (k:Nat) (f:Nat→Nat→Int) (j a b:Nat):Int:=@ite _ (k≤a∧k<b∧b<j) (Classical.propDecidable _) (clV k f a b) (f a b)
noncomputable def rwF (k:Nat) (f:Nat→Nat→Int) (a b:Nat):Int:=@ite _ (k<a∧k≤b) (Classical.propDecidable _) (rwV k f a b) (f a b)
noncomputable def clF (k:Nat) (f:Nat→Nat→Int) (a b:Nat):Int:=@ite _ (k≤a∧k<b) (Classical.propDecidable _) (clV k f a b) (f a b)
noncomputable def rstF (k:Nat) (f:Nat→Nat→Int):Nat→Nat→Int:=clF k (rwF k f)
noncomputable def rowW (w k:Nat) (old new:Nat→Int) (j:Nat):List Int:=rowF w fun b => @ite _ (k≤b∧b<j) (Classical.propDecidable _) (new b) (old b)
@[simp] theorem rowW_len (w k:Nat) (old new:Nat→Int) (j:Nat):(rowW w k old new j).length=w:=rowF_len _ _
theorem rowW_start {w k:Nat} {old new:Nat→Int}:rowW w k old new k=rowF w old:=rowF_congr fun b _=>by rw [if_neg (by omega)]
theorem rowW_set {w k j:Nat} {old new:Nat→Int} (hk:k≤j) (hj:j<w):(rowW w k old new j).set j (new j)=rowW w k old new (j+1):=by
 unfold rowW
 rw [rowF_set hj]
 refine rowF_congr fun b hb => ?_
 by_cases e:b=j
 ·rw [if_pos e,e,if_pos (by omega)]
 ·rw [if_neg e]
  by_cases h:k≤b∧b<j
  ·rw [if_pos h,if_pos (by omega)]
  ·rw [if_neg h,if_neg (by omega)]
theorem rowW_at {w k j:Nat} {old new:Nat→Int} (hj:j<w):at0 (rowW w k old new j) j=old j:=by
 unfold rowW
 rw [rowF_at hj,if_neg (by omega)]
theorem rowW_at2 {w k b:Nat} {old new:Nat→Int} (hb:b<w) (hk:k≤b):at0 (rowW w k old new w) b=new b:=by
 unfold rowW
 rw [rowF_at hb,if_pos ⟨hk,hb⟩]
theorem rwS_start {n w k:Nat} (f:Nat→Nat→Int):matF n w (rwS k f (k+1))=matF n w f:=matF_congr fun a b _ _=>by unfold rwS; rw [if_neg (by omega)]
theorem rwS_row {w k i:Nat} {f:Nat→Nat→Int}:rowF w (rwS k f i i)=rowF w (f i):=rowF_congr fun b _=>by unfold rwS; rw [if_neg (by omega)]
theorem rwS_top {w k i:Nat} {f:Nat→Nat→Int}:rowF w (rwS k f i k)=rowF w (f k):=rowF_congr fun b _=>by unfold rwS; rw [if_neg (by omega)]
theorem rwS_step {n w k i:Nat} {f:Nat→Nat→Int} (hi:k<i) (hin:i<n):(matF n w (rwS k f i)).set i (rowW w k (f i) (rwV k f i) w)=matF n w (rwS k f (i+1)):=by
 unfold rowW
 rw [matF_set _ hin]
 refine matF_congr fun a b _ hb => ?_
 by_cases e:a=i
 ·subst e
  rw [if_pos rfl]
  unfold rwS
  by_cases h:k≤b
  ·rw [if_pos ⟨h,hb⟩,if_pos (by omega)]
  ·rw [if_neg (by omega),if_neg (by omega)]
 ·rw [if_neg e]
  unfold rwS
  by_cases h:k<a∧a<i∧k≤b
  ·rw [if_pos h,if_pos (by omega)]
  ·rw [if_neg h,if_neg (by omega)]
theorem rwS_full {n w k:Nat} (f:Nat→Nat→Int):matF n w (rwS k f n)=matF n w (rwF k f):=matF_congr fun a b ha _=>by
 unfold rwS rwF
 by_cases h:k<a∧k≤b
 ·rw [if_pos h,if_pos (by omega)]
 ·rw [if_neg h,if_neg (by omega)]
noncomputable def clT (k:Nat) (f:Nat→Nat→Int) (j i a b:Nat):Int:=@ite _ (k≤a∧k<b∧(b<j∨(b=j∧a<i))) (Classical.propDecidable _) (clV k f a b) (f a b)
theorem clT_start {n w k j:Nat} (f:Nat→Nat→Int):matF n w (clT k f j k)=matF n w (clS k f j):=matF_congr fun a b _ _=>by
 unfold clT clS
 by_cases h:k≤a∧k<b∧b<j
 ·rw [if_pos (by omega),if_pos h]
 ·rw [if_neg (by omega),if_neg h]
theorem clT_full {n w k j:Nat} (f:Nat→Nat→Int):matF n w (clT k f j n)=matF n w (clS k f (j+1)):=matF_congr fun a b ha _=>by
 unfold clT clS
 by_cases h:k≤a∧k<b∧b<j+1
 ·rw [if_pos (by omega),if_pos h]
 ·rw [if_neg (by omega),if_neg h]
theorem clS_start {n w k:Nat} (f:Nat→Nat→Int):matF n w (clS k f (k+1))=matF n w f:=matF_congr fun a b _ _=>by unfold clS; rw [if_neg (by omega)]
theorem clS_full {n w k:Nat} (f:Nat→Nat→Int):matF n w (clS k f w)=matF n w (clF k f):=matF_congr fun a b _ hb=>by
 unfold clS clF
 by_cases h:k≤a∧k<b
 ·rw [if_pos (by omega),if_pos h]
 ·rw [if_neg (by omega),if_neg h]
theorem clT_set {n w k j i:Nat} {f:Nat→Nat→Int} (hi:k≤i) (hin:i<n) (hj:k<j) (hjw:j<w):(matF n w (clT k f j i)).set i ((rowF w (clT k f j i i)).set j (clV k f i j))=matF n w (clT k f j (i+1)):=by
 rw [rowF_set hjw,matF_set _ hin]
 refine matF_congr fun a b _ hb => ?_
 by_cases e:a=i
 ·subst e
  rw [if_pos rfl]
  unfold clT
  by_cases e2:b=j
  ·rw [if_pos e2,e2,if_pos (by omega)]
  ·rw [if_neg e2]
   by_cases h:k≤a∧k<b∧(b<j∨b=j∧a<a)
   ·rw [if_pos h,if_pos (by omega)]
   ·rw [if_neg h,if_neg (by omega)]
 ·rw [if_neg e]
  unfold clT
  by_cases h:k≤a∧k<b∧(b<j∨(b=j∧a<i))
  ·rw [if_pos h,if_pos (by omega)]
  ·rw [if_neg h,if_neg (by omega)]
theorem clT_old {k j i a:Nat} {f:Nat→Nat→Int} (h:i≤a):clT k f j i a j=f a j:=by unfold clT; rw [if_neg (by omega)]
theorem clT_k {k j i a:Nat} {f:Nat→Nat→Int}:clT k f j i a k=f a k:=by unfold clT; rw [if_neg (by omega)]
theorem rowsV_two {M:List (List Int)} {i k:Nat} (h:¬i=k) (hk:k<M.length) (r:List Int) (x y:V):((((rowsV M).set i x).set k y).set i (.own 1 (ints r))).set k (.own 1 (ints (atR M k)))=rowsV (M.set i r):=by
 rw [← rowsV_set]
 apply List.ext_getElem (by simp)
 intro q h1 h2
 have h1':q<M.length:=by simpa using h1
 simp only [List.getElem_set]
 by_cases e1:k=q
 ·subst e1
  simp [h,rowsV,atR_eq hk]
 ·by_cases e2:i=q
  ·simp [e1,e2]
  ·simp [e1,e2]
theorem clS_top {k j:Nat} {f:Nat→Nat→Int} {b:Nat} (h:j≤b∨b≤k):clS k f j k b=f k b:=by unfold clS; rw [if_neg (by omega)]
theorem clS_done {k j:Nat} {f:Nat→Nat→Int} (h:k<j):clS k f (j+1) k j=clF k f k j:=by
 unfold clS clF
 rw [if_pos (by omega),if_pos (by omega)]
theorem rwF_top {k:Nat} {f:Nat→Nat→Int} {b:Nat}:rwF k f k b=f k b:=by unfold rwF; rw [if_neg (by omega)]
def sc_s_l15Rest_L6:SC:=(.cut (.seq (.reg [⟨some 107,none,.mov (.t 12)⟩,⟨some 108,none,.mov (.t 0)⟩,⟨some 109,none,.len (.t 108)⟩,⟨some 110,none,.bin false .lss (.t 107) (.t 109)⟩]) (.cond (.t 110) .skip (.exit 6))) (.seq (.block 7 (.dreg [⟨⟨some 113,none,.mov (.t 0)⟩,false,false⟩,⟨⟨some 114,none,.mov (.t 12)⟩,false,false⟩,⟨⟨some 115,none,.idx 1 (.t 113) (.t 114)⟩,false,false⟩,⟨⟨some 116,none,.ld none .nil (.t 115)⟩,false,false⟩,⟨⟨some 117,none,.mov (.t 10)⟩,false,false⟩,⟨⟨some 118,none,.mov (.t 0)⟩,false,false⟩,⟨⟨some 119,none,.mov (.t 12)⟩,false,false⟩,⟨⟨some 120,none,.idx 1 (.t 118) (.t 119)⟩,false,false⟩,⟨⟨some 121,none,.ld none .nil (.t 120)⟩,false,false⟩,⟨⟨some 122,none,.mov (.t 10)⟩,false,false⟩,⟨⟨some 123,none,.idx 1 (.t 121) (.t 122)⟩,false,false⟩,⟨⟨some 124,none,.ld none (.int .i64 0) (.t 123)⟩,false,false⟩,⟨⟨some 125,none,.mov (.t 11)⟩,false,false⟩,⟨⟨some 126,none,.mov (.t 0)⟩,false,false⟩,⟨⟨some 127,none,.mov (.t 12)⟩,false,false⟩,⟨⟨some 128,none,.idx 1 (.t 126) (.t 127)⟩,false,false⟩,⟨⟨some 129,none,.ld none .nil (.t 128)⟩,false,false⟩,⟨⟨some 130,none,.mov (.t 1)⟩,false,false⟩,⟨⟨some 131,none,.idx 1 (.t 129) (.t 130)⟩,false,false⟩,⟨⟨some 132,none,.ld none (.int .i64 0) (.t 131)⟩,false,false⟩,⟨⟨some 133,none,.bin false .mul (.t 125) (.t 132)⟩,false,false⟩,⟨⟨some 134,none,.bin false .sub (.t 124) (.t 133)⟩,false,false⟩,⟨⟨some 135,none,.idx 1 (.t 116) (.t 117)⟩,false,false⟩,⟨⟨none,none,.st 1 (.t 135) (.t 134)⟩,true,false⟩])) (.reg [⟨some 111,none,.mov (.t 12)⟩,⟨some 112,none,.bin false .add (.t 111) (.c (.int .i64 1))⟩,⟨some 12,none,.mov (.t 112)⟩])))
def sc_s_l15Rest_L4:SC:=(.cut (.seq (.reg [⟨some 82,none,.mov (.t 10)⟩,⟨some 83,none,.mov (.t 0)⟩,⟨some 84,none,.mov (.t 1)⟩,⟨some 85,none,.idx 1 (.t 83) (.t 84)⟩,⟨some 86,none,.ld none .nil (.t 85)⟩,⟨some 87,none,.len (.t 86)⟩,⟨some 88,none,.bin false .lss (.t 82) (.t 87)⟩]) (.cond (.t 88) .skip (.exit 4))) (.seq (.block 5 (.seq (.dreg [⟨⟨some 91,none,.mov (.t 0)⟩,false,false⟩,⟨⟨some 92,none,.mov (.t 1)⟩,false,false⟩,⟨⟨some 93,none,.idx 1 (.t 91) (.t 92)⟩,false,false⟩,⟨⟨some 94,none,.ld none .nil (.t 93)⟩,false,false⟩,⟨⟨some 95,none,.mov (.t 10)⟩,false,false⟩,⟨⟨some 96,none,.idx 1 (.t 94) (.t 95)⟩,false,false⟩,⟨⟨some 97,none,.ld none (.int .i64 0) (.t 96)⟩,false,false⟩,⟨⟨some 98,none,.mov (.t 0)⟩,false,false⟩,⟨⟨some 99,none,.mov (.t 1)⟩,false,false⟩,⟨⟨some 100,none,.idx 1 (.t 98) (.t 99)⟩,false,false⟩,⟨⟨some 101,none,.ld none .nil (.t 100)⟩,false,false⟩,⟨⟨some 102,none,.mov (.t 1)⟩,false,false⟩,⟨⟨some 103,none,.idx 1 (.t 101) (.t 102)⟩,false,false⟩,⟨⟨some 104,none,.ld none (.int .i64 0) (.t 103)⟩,false,false⟩,⟨⟨some 105,none,.bin false .quo (.t 97) (.t 104)⟩,false,false⟩,⟨⟨some 11,none,.mov (.t 105)⟩,false,false⟩]) (.seq (.seq (.reg [⟨some 106,none,.mov (.t 1)⟩,⟨some 12,none,.mov (.t 106)⟩]) (.block 6 (.loop sc_s_l15Rest_L6))) (.reg [⟨some 136,none,.mov (.t 6)⟩,⟨some 137,none,.mov (.t 136)⟩,⟨some 138,some (137,true),.mov (.t 0)⟩,⟨some 139,some (137,true),.mov (.t 1)⟩,⟨some 140,some (137,true),.idx 1 (.t 138) (.t 139)⟩,⟨some 141,some (137,true),.ld none .nil (.t 140)⟩,⟨some 142,some (137,true),.mov (.t 10)⟩,⟨some 143,some (137,true),.idx 1 (.t 141) (.t 142)⟩,⟨some 144,some (137,true),.ld none (.int .i64 0) (.t 143)⟩,⟨some 145,some (137,true),.bin false .eql (.t 144) (.c (.int .i64 0))⟩,⟨some 146,none,.pick (.t 137) (.t 145) (.c (.bool false))⟩,⟨some 6,none,.mov (.t 146)⟩])))) (.reg [⟨some 89,none,.mov (.t 10)⟩,⟨some 90,none,.bin false .add (.t 89) (.c (.int .i64 1))⟩,⟨some 10,none,.mov (.t 90)⟩])))
def sc_s_l15Rest_L2:SC:=(.cut (.seq (.reg [⟨some 37,none,.mov (.t 9)⟩,⟨some 38,none,.mov (.t 0)⟩,⟨some 39,none,.mov (.t 7)⟩,⟨some 40,none,.idx 1 (.t 38) (.t 39)⟩,⟨some 41,none,.ld none .nil (.t 40)⟩,⟨some 42,none,.len (.t 41)⟩,⟨some 43,none,.bin false .lss (.t 37) (.t 42)⟩]) (.cond (.t 43) .skip (.exit 2))) (.seq (.block 3 (.dreg [⟨⟨some 46,none,.mov (.t 0)⟩,false,false⟩,⟨⟨some 47,none,.mov (.t 7)⟩,false,false⟩,⟨⟨some 48,none,.idx 1 (.t 46) (.t 47)⟩,false,false⟩,⟨⟨some 49,none,.ld none .nil (.t 48)⟩,false,false⟩,⟨⟨some 50,none,.mov (.t 9)⟩,false,false⟩,⟨⟨some 51,none,.mov (.t 0)⟩,false,false⟩,⟨⟨some 52,none,.mov (.t 7)⟩,false,false⟩,⟨⟨some 53,none,.idx 1 (.t 51) (.t 52)⟩,false,false⟩,⟨⟨some 54,none,.ld none .nil (.t 53)⟩,false,false⟩,⟨⟨some 55,none,.mov (.t 9)⟩,false,false⟩,⟨⟨some 56,none,.idx 1 (.t 54) (.t 55)⟩,false,false⟩,⟨⟨some 57,none,.ld none (.int .i64 0) (.t 56)⟩,false,false⟩,⟨⟨some 58,none,.mov (.t 8)⟩,false,false⟩,⟨⟨some 59,none,.mov (.t 0)⟩,false,false⟩,⟨⟨some 60,none,.mov (.t 1)⟩,false,false⟩,⟨⟨some 61,none,.idx 1 (.t 59) (.t 60)⟩,false,false⟩,⟨⟨some 62,none,.ld none .nil (.t 61)⟩,false,false⟩,⟨⟨some 63,none,.mov (.t 9)⟩,false,false⟩,⟨⟨some 64,none,.idx 1 (.t 62) (.t 63)⟩,false,false⟩,⟨⟨some 65,none,.ld none (.int .i64 0) (.t 64)⟩,false,false⟩,⟨⟨some 66,none,.bin false .mul (.t 58) (.t 65)⟩,false,false⟩,⟨⟨some 67,none,.bin false .sub (.t 57) (.t 66)⟩,false,false⟩,⟨⟨some 68,none,.idx 1 (.t 49) (.t 50)⟩,false,false⟩,⟨⟨none,none,.st 1 (.t 68) (.t 67)⟩,true,false⟩])) (.reg [⟨some 44,none,.mov (.t 9)⟩,⟨some 45,none,.bin false .add (.t 44) (.c (.int .i64 1))⟩,⟨some 9,none,.mov (.t 45)⟩])))
def sc_s_l15Rest_L0:SC:=(.cut (.seq (.reg [⟨some 15,none,.mov (.t 7)⟩,⟨some 16,none,.mov (.t 0)⟩,⟨some 17,none,.len (.t 16)⟩,⟨some 18,none,.bin false .lss (.t 15) (.t 17)⟩]) (.cond (.t 18) .skip (.exit 0))) (.seq (.block 1 (.seq (.dreg [⟨⟨some 21,none,.mov (.t 0)⟩,false,false⟩,⟨⟨some 22,none,.mov (.t 7)⟩,false,false⟩,⟨⟨some 23,none,.idx 1 (.t 21) (.t 22)⟩,false,false⟩,⟨⟨some 24,none,.ld none .nil (.t 23)⟩,false,false⟩,⟨⟨some 25,none,.mov (.t 1)⟩,false,false⟩,⟨⟨some 26,none,.idx 1 (.t 24) (.t 25)⟩,false,false⟩,⟨⟨some 27,none,.ld none (.int .i64 0) (.t 26)⟩,false,false⟩,⟨⟨some 28,none,.mov (.t 0)⟩,false,false⟩,⟨⟨some 29,none,.mov (.t 1)⟩,false,false⟩,⟨⟨some 30,none,.idx 1 (.t 28) (.t 29)⟩,false,false⟩,⟨⟨some 31,none,.ld none .nil (.t 30)⟩,false,false⟩,⟨⟨some 32,none,.mov (.t 1)⟩,false,false⟩,⟨⟨some 33,none,.idx 1 (.t 31) (.t 32)⟩,false,false⟩,⟨⟨some 34,none,.ld none (.int .i64 0) (.t 33)⟩,false,false⟩,⟨⟨some 35,none,.bin false .quo (.t 27) (.t 34)⟩,false,false⟩,⟨⟨some 8,none,.mov (.t 35)⟩,false,false⟩]) (.seq (.seq (.reg [⟨some 36,none,.mov (.t 1)⟩,⟨some 9,none,.mov (.t 36)⟩]) (.block 2 (.loop sc_s_l15Rest_L2))) (.reg [⟨some 69,none,.mov (.t 6)⟩,⟨some 70,none,.mov (.t 69)⟩,⟨some 71,some (70,true),.mov (.t 0)⟩,⟨some 72,some (70,true),.mov (.t 7)⟩,⟨some 73,some (70,true),.idx 1 (.t 71) (.t 72)⟩,⟨some 74,some (70,true),.ld none .nil (.t 73)⟩,⟨some 75,some (70,true),.mov (.t 1)⟩,⟨some 76,some (70,true),.idx 1 (.t 74) (.t 75)⟩,⟨some 77,some (70,true),.ld none (.int .i64 0) (.t 76)⟩,⟨some 78,some (70,true),.bin false .eql (.t 77) (.c (.int .i64 0))⟩,⟨some 79,none,.pick (.t 70) (.t 78) (.c (.bool false))⟩,⟨some 6,none,.mov (.t 79)⟩])))) (.reg [⟨some 19,none,.mov (.t 7)⟩,⟨some 20,none,.bin false .add (.t 19) (.c (.int .i64 1))⟩,⟨some 7,none,.mov (.t 20)⟩])))
def sc_s_l15Rest:SC:=(.seq (.reg [⟨some 4,none,.mov (.c .nil)⟩,⟨some 5,none,.mov (.c (.bool false))⟩]) (.seq (.reg [⟨some 6,none,.mov (.c (.bool true))⟩]) (.seq (.seq (.reg [⟨some 13,none,.mov (.t 1)⟩,⟨some 14,none,.bin false .add (.t 13) (.c (.int .i64 1))⟩,⟨some 7,none,.mov (.t 14)⟩]) (.block 0 (.loop sc_s_l15Rest_L0))) (.seq (.seq (.reg [⟨some 80,none,.mov (.t 1)⟩,⟨some 81,none,.bin false .add (.t 80) (.c (.int .i64 1))⟩,⟨some 10,none,.mov (.t 81)⟩]) (.block 4 (.loop sc_s_l15Rest_L4))) (.seq (.reg [⟨some 147,none,.mov (.t 0)⟩,⟨some 148,none,.mov (.t 6)⟩,⟨some 4,none,.mov (.t 147)⟩,⟨some 5,none,.mov (.t 148)⟩]) .ret)))))
theorem code_s_l15Rest:fnCode Tryz.prog [666666,555555] 78=some (149,sc_s_l15Rest,[(4,none),(5,none)]):=by kernel_rfl
def clnP (n w k:Nat) (f:Nat→Nat→Int):Prop:=(∀ a,k<a→a<n→rwF k f a k=0)∧∀ b,k<b→b<w→rstF k f k b=0
structure rstO (k:Nat) (M:List (List Int)):Prop where
 dim:dimM M
 kn:k<M.length
 kw:k<wdM M
 nz:ent M k k≠0
 b0:bdE 1073741824 M.length (wdM M) (ent M)
 b1:bdE 1073741824 M.length (wdM M) (rwF k (ent M))
 b2:bdE 1073741824 M.length (wdM M) (rstF k (ent M))
noncomputable def rstR (M:List (List Int)) (k:Nat):List (List Int):=matF M.length (wdM M) (rstF k (ent M))
noncomputable def G_s_l15Rest:List V→List V→Option (V×List V)
 | [.sl 0 1 0 m,.int .i64 k],cells=>(dRowsV cells).bind fun M => @ite _ (m=M.length∧0≤k∧rstO k.toNat M) (Classical.propDecidable _) (some (.tup [.sl 0 1 0 m,.bool (dec (clnP M.length (wdM M) k.toNat (ent M)))],rowsV (rstR M k.toNat))) none
 | _,_=>none
theorem quoB {n w a b c d:Nat} {f:Nat→Nat→Int} (h:bdE 1073741824 n w f) (ha:a<n) (hb:b<w):IntKind.i64.wrap ((f a b).tdiv (f c d))=(f a b).tdiv (f c d) ∧ -1073741824≤(f a b).tdiv (f c d)∧(f a b).tdiv (f c d)≤1073741824:=by
 have h1:=tdivB (b:=f c d) (B:=1073741824) (h a b ha hb)
 exact ⟨wrapI _ (by omega) (by omega),by omega,by omega⟩
theorem subB {x q y:Int} (hx : -1073741824≤x∧x≤1073741824) (hq : -1073741824≤q∧q≤1073741824) (hy : -1073741824≤y∧y≤1073741824):IntKind.i64.wrap (q*y)=q*y∧IntKind.i64.wrap (x-q*y)=x-q*y:=by
 have h1:=mulB2 (A:=1073741824) (B:=1073741824) hq hy
 exact ⟨wrapI _ (by omega) (by omega),wrapI _ (by omega) (by omega)⟩
theorem ln_s_l15Rest:LendOk Tryz.prog 78 0 G_s_l15Rest:=by
 have env:=envNil_ok (P:=Tryz.prog)
 refine fn_lend code_s_l15Rest mixed env ?_
 intro args cells r cells' hG hb
 unfold G_s_l15Rest at hG
 split at hG
 case h_2=>simp at hG
 rename_i m k
 obtain ⟨M,h1,h2⟩:=Option.bind_eq_some_iff.1 hG
 have hc:=dRowsV_inv h1
 subst hc
 simp only [Option.ite_none_right_eq_some,Option.some.injEq,Prod.mk.injEq] at h2
 obtain ⟨⟨rfl,hk0,⟨⟨hr,hn,hw⟩,hkn,hkw,hnz,b0,b1,b2⟩⟩,rfl,rfl⟩:=h2
 obtain ⟨k,rfl⟩:∃ n:Nat,k=n:=⟨k.toNat,by omega⟩
 simp only [Int.toNat_natCast] at *
 clear hG h1 hb
 unfold rstR
 have hself:=matF_self hr
 generalize wdM M=w at *
 generalize hf:ent M=f at *
 generalize hnn:M.length=n at *
 rw [← hself]
 clear hself hr hf
 refine ⟨by simp,fun w0 U0 L0 N0 => ?_⟩
 have hw1:IntKind.i64.wrap ((k:Int)+1)=((k+1:Nat):Int):=by rw [wrapI _ (by omega) (by omega)]; rfl
 -- a row is changed
 have rowL:∀ (i:Nat) (Mi:List (List Int)) (cl:Bool) (Q:Post) (T0:Tm),k<i→i<n→Mi.length=n →
   subE T0 [(0,.sl 0 1 0 n),(1,.int .i64 (k:Int)),(6,.bool cl),(7,.int .i64 (i:Int)),(8,.int .i64 ((f i k).tdiv (f k k))),(9,.int .i64 (k:Int))] →
   Q (.exit 2) [(0,.sl 0 1 0 n),(1,.int .i64 (k:Int)),(6,.bool cl),(7,.int .i64 (i:Int))] ([(2,ints (rowF w (f k))),(1,ints (rowW w k (f i) (rwV k f i) w)),(0,((rowsV Mi).set i (.sl 1 1 0 w)).set k (.sl 2 1 0 w))],3) →
   LoopI ⟨Tryz.prog,w0,U0,L0,N0,1,149⟩ [666666,555555] sc_s_l15Rest_L2 Q T0 ([(2,ints (rowF w (f k))),(1,ints (rowF w (f i))),(0,((rowsV Mi).set i (.sl 1 1 0 w)).set k (.sl 2 1 0 w))],3):=by
  intro i Mi cl Q T0 hki hin hml hsub q1
  have hik:¬i=k:=by omega
  have hki':¬k=i:=by omega
  obtain ⟨hq1,hq2,hq3⟩:=quoB (c:=k) (d:=k) b0 hin hkw
  have hqd:∀ j,rwV k f i j=f i j-(f i k).tdiv (f k k)*f k j:=fun j=>rfl
  generalize rwV k f i=new at *
  generalize (f i k).tdiv (f k k)=q at *
  have hstart:=rowW_start (w:=w) (k:=k) (old:=f i) (new:=new)
  refine loopQ env mixed (fun j:Nat=>[(0,.sl 0 1 0 n),(1,.int .i64 (k:Int)),(6,.bool cl),(7,.int .i64 (i:Int)),(8,.int .i64 q),(9,.int .i64 (j:Int))]) (fun j=>([(2,ints (rowF w (f k))),(1,ints (rowW w k (f i) new j)),(0,((rowsV Mi).set i (.sl 1 1 0 w)).set k (.sl 2 1 0 w))],3)) (fun j=>k≤j∧j≤w) (fun j=>w-j) k ⟨Nat.le_refl k,by omega⟩ (SubI.slots (by rw [hstart]) hsub) ?_
  rintro j ⟨hkj,hjw⟩
  by_cases hlt:j<w
  ·have hat:=rowW_at (k:=k) (old:=f i) (new:=new) hlt
   have hset:=rowW_set (old:=f i) (new:=new) hkj hlt
   have hrl:=rowW_len w k (f i) new j
   have hrk:(rowF w (f k)).length=w:=rowF_len _ _
   have hek:=rowF_at (g:=f k) hlt
   obtain ⟨w1,w2⟩:=subB (b0 i j hin hlt) ⟨hq2,hq3⟩ (b0 k j hkn hlt)
   rw [← hqd j] at w2
   have w3:=hqd j
   generalize rowW w k (f i) new j=g at *
   generalize rowF w (f k)=rk at *
   simp -implicitDefEqProofs [sc_s_l15Rest_L2,hin,hkn,hik,hki',hml,hlt,hrl]
   repeat' (first | omega | apply And.intro)
   refine CutI.of (l':=[(0,.sl 0 1 0 n),(1,.int .i64 (k:Int)),(6,.bool cl),(7,.int .i64 (i:Int)),(8,.int .i64 q),(9,.int .i64 (j:Int))]) (SubI.slots rfl (by simp)) ?_
   simp -implicitDefEqProofs [freeOk,hin,hkn,hik,hki',hml,hlt,hrl,hrk,hat,hek,w1,← w3,w2,hset]
   repeat' (first | omega | apply And.intro)
   exact Again.of (j+1) (by omega) (by omega) (SubI.slots (by simp) (by simp (disch:=omega) [wrapI]))
  ·have:j=w:=by omega
   subst this
   simp -implicitDefEqProofs [sc_s_l15Rest_L2,hin,hkn,hik,hki',hml]
   repeat' (first | omega | apply And.intro)
   exact SubQ.of (SubI.slots rfl (by simp)) q1
 have hlenS:=fun i=>matF_len n w (rwS k f i)
 simp -implicitDefEqProofs [sc_s_l15Rest,hw1]
 have hC0:dec (∀ a,k<a→a<k+1→rwF k f a k=0)=true:=dec_true fun a h1 h2=>by omega
 have hC0b:(true:Bool)=dec (∀ a,k<a→a<k+1→rwF k f a k=0):=hC0.symm
 refine loopI env mixed (fun i:Nat=>[(0,.sl 0 1 0 n),(1,.int .i64 (k:Int)),(6,.bool (dec (∀ a,k<a→a<i→rwF k f a k=0))),(7,.int .i64 (i:Int))]) (fun i=>([(0,rowsV (matF n w (rwS k f i)))],1)) (fun i=>k<i∧i≤n) (fun i=>n-i) (k+1) (by omega) (SubI.slots (by simp [rwS_start]) (by simp [hC0])) ?_
 rintro i ⟨hki,hin⟩
 by_cases hlt:i<n
 ·have hik:¬i=k:=by omega
  have hki':¬k=i:=by omega
  have hml:=hlenS i
  have hai:=matF_at (w:=w) (f:=rwS k f i) hlt
  rw [rwS_row] at hai
  have hak:=matF_at (w:=w) (f:=rwS k f i) hkn
  rw [rwS_top] at hak
  have hst:=rwS_step (w:=w) (f:=f) hki hlt
  obtain ⟨hq1,hq2,hq3⟩:=quoB (c:=k) (d:=k) b0 hlt hkw
  have hel:=rowF_at (g:=f i) hkw
  have hek:=rowF_at (g:=f k) hkw
  have hli:(rowF w (f i)).length=w:=rowF_len _ _
  have hlk:(rowF w (f k)).length=w:=rowF_len _ _
  have hin2:=rowL i (matF n w (rwS k f i))
  have hnew:at0 (rowW w k (f i) (rwV k f i) w) k=rwF k f i k:=by
   rw [rowW_at2 hkw (Nat.le_refl k)]
   unfold rwF
   rw [if_pos ⟨hki,Nat.le_refl k⟩]
  have hnl:=rowW_len w k (f i) (rwV k f i) w
  have hcl:dec (∀ a,k<a→a<i+1→rwF k f a k=0)=(dec (∀ a,k<a→a<i→rwF k f a k=0) && dec (rwF k f i k=0)):=by
   by_cases h1:∀ a,k<a→a<i→rwF k f a k=0
   ·by_cases h2:rwF k f i k=0
    ·rw [dec_true h1,dec_true h2,dec_true fun a ha1 ha2 => ?_]
     ·rfl
     ·rcases Nat.lt_succ_iff_lt_or_eq.1 ha2 with h | rfl
      ·exact h1 a ha1 h
      ·exact h2
    ·rw [dec_false h2,dec_false fun h=>h2 (h i hki (by omega)),Bool.and_false]
   ·rw [dec_false h1,dec_false fun h=>h1 fun a ha1 ha2=>h a ha1 (by omega),Bool.false_and]
  generalize dec (∀ a,k<a→a<i→rwF k f a k=0)=cl at *
  generalize hzz:rwF k f i k=z at *
  have htw:=rowsV_two (M:=matF n w (rwS k f i)) (i:=i) (k:=k) hik (by omega) (rowW w k (f i) (rwV k f i) w) (.sl 1 1 0 w) (.sl 2 1 0 w)
  rw [hst,hak] at htw
  generalize rowW w k (f i) (rwV k f i) w=ri2 at *
  generalize rowF w (f i)=ri at *
  generalize rowF w (f k)=rk at *
  generalize matF n w (rwS k f i)=Mi at *
  simp -implicitDefEqProofs [sc_s_l15Rest_L0,hlt,hml]
  refine CutI.of (l':=[(0,.sl 0 1 0 n),(1,.int .i64 (k:Int)),(6,.bool cl),(7,.int .i64 (i:Int))]) (s':=([(2,ints rk),(1,ints ri),(0,((rowsV Mi).set i (.sl 1 1 0 w)).set k (.sl 2 1 0 w))],3)) ?_ ?_
  ·refine SubI.unfold 0 i 1 (co:=rowsV Mi) (cn:=ints ri) rfl (by rw [rowsV_get (by omega),hai]) (by omega) ?_
   refine SubI.unfold 0 k 1 (co:=(rowsV Mi).set i (.sl 1 1 0 w)) (cn:=ints rk) (by simp [hli]) (by rw [List.getElem?_set_ne hik,rowsV_get (by omega),hak]) (by omega) ?_
   exact SubI.slots (by simp [hli,hlk]) (by simp)
  simp -implicitDefEqProofs [freeOk,hlt,hkn,hml,hik,hki',hli,hlk,hkw,hel,hek,hnz,hq1]
  repeat' (first | omega | apply And.intro)
  refine hin2 cl _ _ hki hlt hml (by simp) ?_
  have fin:∀ (T:Tm) (c2:Bool) (T2:Tm),subE T [(0,.sl 0 1 0 n),(1,.int .i64 (k:Int)),(6,.bool c2),(7,.int .i64 (((i+1:Nat)):Int))] →
    SubI 1 T ([(2,ints rk),(1,ints ri2),(0,((rowsV Mi).set i (.sl 1 1 0 w)).set k (.sl 2 1 0 w))],3) [(0,.sl 0 1 0 n),(1,.int .i64 (k:Int)),(6,.bool c2),(7,.int .i64 (((i+1:Nat)):Int))] ([(0,rowsV (matF n w (rwS k f (i+1))))],1):=fun T c2 T2 hT=>by
   refine SubI.fold 0 1 i 1 w (cn:=ints ri2) (co:=((rowsV Mi).set i (.sl 1 1 0 w)).set k (.sl 2 1 0 w)) rfl rfl (by simp [hml,hlt,hik,hki']) (by simp [hnl]) ?_
   refine SubI.fold 0 2 k 1 w (cn:=ints rk) (co:=(((rowsV Mi).set i (.sl 1 1 0 w)).set k (.sl 2 1 0 w)).set i (.own 1 (ints ri2))) (by simp) (by simp) (by simp [hml,hkn,hik,hki']) (by simp [hlk]) ?_
   rw [htw]
   simp only [subE_cons,subE_nil,and_true] at hT
   obtain ⟨e1,e2,e3,e4⟩:=hT
   refine SubI.ren (fun m=>if m=0 then some 0 else none) ?_ ?_ ?_ (by simp) (by simp)
   ·simp [subT,renV,ren1,← e1,← e2,← e3,← e4]
   ·simp [subH,renL,ren1]
   ·intro m hm
    simp only at hm
    rw [if_neg (by omega)]
  cases cl with
  | false =>
   rw [Bool.false_and] at hcl
   simp -implicitDefEqProofs [hlt,hkn,hml,hik,hki',hkw]
   repeat' (first | omega | apply And.intro)
   refine Again.of (i+1) (by omega) (by omega) ?_
   rw [hcl]
   exact fin _ _ [] (by simp (disch:=omega) [wrapI])
  | true =>
   rw [Bool.true_and] at hcl
   by_cases hz:z=0
   ·rw [dec_true hz] at hcl
    simp -implicitDefEqProofs [hlt,hkn,hml,hik,hki',hkw,hnl,hnew,hz]
    repeat' (first | omega | apply And.intro)
    refine Again.of (i+1) (by omega) (by omega) ?_
    rw [hcl]
    exact fin _ _ [] (by simp (disch:=omega) [wrapI])
   ·rw [dec_false hz] at hcl
    simp -implicitDefEqProofs [hlt,hkn,hml,hik,hki',hkw,hnl,hnew,hz]
    repeat' (first | omega | apply And.intro)
    refine Again.of (i+1) (by omega) (by omega) ?_
    rw [hcl]
    exact fin _ _ [] (by simp (disch:=omega) [wrapI,hz])
 ·have:i=n:=by omega
  subst this
  rw [rwS_full]
  have hres:dec (clnP i w k f)=(dec (∀ a,k<a→a<i→rwF k f a k=0) && dec (∀ b,k<b→b<w→rstF k f k b=0)):=by
   by_cases h1:∀ a,k<a→a<i→rwF k f a k=0
   ·by_cases h2:∀ b,k<b→b<w→rstF k f k b=0
    ·rw [dec_true h1,dec_true h2,dec_true ⟨h1,h2⟩]; rfl
    ·rw [dec_false h2,dec_false fun h=>h2 h.2,Bool.and_false]
   ·rw [dec_false h1,dec_false fun h=>h1 h.1,Bool.false_and]
  rw [hres]
  have hkk:rwF k f k k=f k k:=rwF_top
  rw [← hkk] at hnz
  unfold rstF
  generalize hc1:dec (∀ a,k<a→a<i→rwF k f a k=0)=c1 at *
  have b2':bdE 1073741824 i w (clF k (rwF k f)):=b2
  clear b2 hres hlt rowL hlenS hC0 hC0b hkk b0
  generalize rwF k f=g at *
  simp -implicitDefEqProofs [sc_s_l15Rest_L0,hw1]
  have hC0:dec (∀ b,k<b→b<k+1→clF k g k b=0)=true:=dec_true fun a h1 h2=>by omega
  refine loopQ env mixed (fun j:Nat=>[(0,.sl 0 1 0 i),(1,.int .i64 (k:Int)),(6,.bool (c1 && dec (∀ b,k<b→b<j→clF k g k b=0))),(10,.int .i64 (j:Int))]) (fun j=>([(0,rowsV (matF i w (clS k g j)))],1)) (fun j=>k<j∧j≤w) (fun j=>w-j) (k+1) (by omega) (SubI.slots (by simp [clS_start]) (by simp [hC0])) ?_
  rintro j ⟨hkj,hjw⟩
  have hml:=matF_len i w (clS k g j)
  have hak:=matF_at (w:=w) (f:=clS k g j) hkn
  have hlk:(rowF w (clS k g j k)).length=w:=rowF_len _ _
  have hself:=rowsV_self (M:=matF i w (clS k g j)) (i:=k) (by omega)
  by_cases hlt:j<w
  ·have hek:=rowF_at (g:=clS k g j k) hkw
   rw [clS_top (.inr (Nat.le_refl k))] at hek
   have hej:=rowF_at (g:=clS k g j k) hlt
   rw [clS_top (.inl (Nat.le_refl j))] at hej
   obtain ⟨hq1,hq2,hq3⟩:=quoB (c:=k) (d:=k) b1 hkn hlt
   have hcl:dec (∀ b,k<b→b<j+1→clF k g k b=0)=(dec (∀ b,k<b→b<j→clF k g k b=0) && dec (clF k g k j=0)):=by
    by_cases h1:∀ b,k<b→b<j→clF k g k b=0
    ·by_cases h2:clF k g k j=0
     ·rw [dec_true h1,dec_true h2,dec_true fun a ha1 ha2 => ?_]
      ·rfl
      ·rcases Nat.lt_succ_iff_lt_or_eq.1 ha2 with h | rfl
       ·exact h1 a ha1 h
       ·exact h2
     ·rw [dec_false h2,dec_false fun h=>h2 (h j hkj (by omega)),Bool.and_false]
    ·rw [dec_false h1,dec_false fun h=>h1 fun a ha1 ha2=>h a ha1 (by omega),Bool.false_and]
   have hcl2:(c1 && dec (∀ b,k<b→b<j+1→clF k g k b=0))=((c1 && dec (∀ b,k<b→b<j→clF k g k b=0)) && dec (clF k g k j=0)):=by rw [hcl,Bool.and_assoc]
   generalize (c1 && dec (∀ b,k<b→b<j→clF k g k b=0))=cl at *
   clear hcl
   -- a column is changed
   have colL:∀ (Q:Post) (T0:Tm) (H0:Hp),SubI 1 T0 H0 [(0,.sl 0 1 0 i),(1,.int .i64 (k:Int)),(6,.bool cl),(10,.int .i64 (j:Int)),(11,.int .i64 ((g k j).tdiv (g k k))),(12,.int .i64 (k:Int))] ([(0,rowsV (matF i w (clS k g j)))],1) →
     Q (.exit 6) [(0,.sl 0 1 0 i),(1,.int .i64 (k:Int)),(6,.bool cl),(10,.int .i64 (j:Int))] ([(0,rowsV (matF i w (clS k g (j+1))))],1) →
     LoopI ⟨Tryz.prog,w0,U0,L0,N0,1,149⟩ [666666,555555] sc_s_l15Rest_L6 Q T0 H0:=by
    intro Q T0 H0 hsub q1
    have hqd:∀ a,clV k g a j=g a j-(g k j).tdiv (g k k)*g a k:=fun a=>rfl
    have hsetT:=fun (a:Nat) h1 h2=>clT_set (n:=i) (w:=w) (k:=k) (j:=j) (i:=a) (f:=g) h1 h2 hkj hlt
    generalize hnv:(fun a=>clV k g a j)=nv at *
    have hnv':∀ a,clV k g a j=nv a:=fun a=>by rw [← hnv]
    simp only [hnv'] at hqd hsetT
    generalize (g k j).tdiv (g k k)=q at *
    refine loopQ env mixed (fun a:Nat=>[(0,.sl 0 1 0 i),(1,.int .i64 (k:Int)),(6,.bool cl),(10,.int .i64 (j:Int)),(11,.int .i64 q),(12,.int .i64 (a:Int))]) (fun a=>([(0,rowsV (matF i w (clT k g j a)))],1)) (fun a=>k≤a∧a≤i) (fun a=>i-a) k ⟨Nat.le_refl k,by omega⟩ (by rw [clT_start]; exact hsub) ?_
    rintro a ⟨hka,hai⟩
    have hml:=matF_len i w (clT k g j a)
    by_cases hlt3:a<i
    ·have haa:=matF_at (w:=w) (f:=clT k g j a) hlt3
     have hla:(rowF w (clT k g j a a)).length=w:=rowF_len _ _
     have e1:=rowF_at (g:=clT k g j a a) hlt
     rw [clT_old (Nat.le_refl a)] at e1
     have e2:=rowF_at (g:=clT k g j a a) hkw
     rw [clT_k] at e2
     have hst:=hsetT a hka hlt3
     obtain ⟨w1,w2⟩:=subB (b1 a j hlt3 hlt) ⟨hq2,hq3⟩ (b1 a k hlt3 hkw)
     have w3:=hqd a
     rw [← w3] at w2
     have hst2:∀ v,((rowsV (matF i w (clT k g j a))).set a v).set a (.own 1 (ints ((rowF w (clT k g j a a)).set j (nv a))))=rowsV (matF i w (clT k g j (a+1))):=fun v=>by
      rw [List.set_set,rowsV_set,hst]
     generalize rowF w (clT k g j a a)=ra at *
     generalize matF i w (clT k g j a)=Ma at *
     simp -implicitDefEqProofs [sc_s_l15Rest_L6,hlt3,hml]
     refine CutI.of (l':=[(0,.sl 0 1 0 i),(1,.int .i64 (k:Int)),(6,.bool cl),(10,.int .i64 (j:Int)),(11,.int .i64 q),(12,.int .i64 (a:Int))]) (s':=([(1,ints ra),(0,(rowsV Ma).set a (.sl 1 1 0 w))],2)) ?_ ?_
     ·refine SubI.unfold 0 a 1 (co:=rowsV Ma) (cn:=ints ra) rfl (by rw [rowsV_get (by omega),haa]) (by omega) ?_
      exact SubI.slots (by simp [hla]) (by simp)
     simp -implicitDefEqProofs [freeOk,hlt3,hml,hla,hkw,hlt,e1,e2,w1,← w3,w2]
     repeat' (first | omega | apply And.intro)
     refine Again.of (a+1) (by omega) (by omega) ?_
     refine SubI.fold 0 1 a 1 w (cn:=ints (ra.set j (nv a))) (co:=(rowsV Ma).set a (.sl 1 1 0 w)) (by simp) (by simp) (by simp [hml,hlt3]) (by simp [hla]) ?_
     rw [hst2]
     refine SubI.ren (fun m=>if m=0 then some 0 else none) ?_ ?_ ?_ (by simp) (by simp)
     ·simp (disch:=omega) [subT,renV,ren1,wrapI]
     ·simp [subH,renL,ren1]
     ·intro m hm
      simp only at hm
      rw [if_neg (by omega)]
    ·have:a=i:=by omega
     subst this
     rw [← clT_full] at q1
     simp -implicitDefEqProofs [sc_s_l15Rest_L6,hml]
     exact SubQ.of (SubI.slots rfl (by simp)) q1
   have hml2:=matF_len i w (clS k g (j+1))
   have hak2:=matF_at (w:=w) (f:=clS k g (j+1)) hkn
   have hlk2:(rowF w (clS k g (j+1) k)).length=w:=rowF_len _ _
   have hself2:=rowsV_self (M:=matF i w (clS k g (j+1))) (i:=k) (by omega)
   have hej2:=rowF_at (g:=clS k g (j+1) k) hlt
   rw [clS_done hkj] at hej2
   rw [hak2] at hself2
   rw [hak] at hself
   generalize hqv:(g k j).tdiv (g k k)=q at *
   generalize clF k g k j=z at *
   generalize rowF w (clS k g (j+1) k)=rk2 at *
   generalize hM2:matF i w (clS k g (j+1))=M2 at *
   generalize rowF w (clS k g j k)=rk at *
   generalize matF i w (clS k g j)=M1 at *
   simp -implicitDefEqProofs [sc_s_l15Rest_L4,hlt,hkn,hml,hak,hlk]
   repeat' (first | omega | apply And.intro)
   refine CutI.of (l':=[(0,.sl 0 1 0 i),(1,.int .i64 (k:Int)),(6,.bool cl),(10,.int .i64 (j:Int))]) (SubI.slots rfl (by simp)) ?_
   simp -implicitDefEqProofs [freeOk,hlt,hkn,hkw,hml,hlk,hek,hej,hnz,hqv,hq1]
   repeat' (first | omega | apply And.intro)
   refine colL _ _ _ ?_ ?_
   ·refine SubI.fold 0 1 k 1 w (cn:=ints rk) (co:=(rowsV M1).set k (.sl 1 1 0 w)) (by simp) (by simp) (by simp [hml,hkn]) (by simp [hlk]) ?_
    rw [List.set_set,hself]
    refine SubI.ren (fun m=>if m=0 then some 0 else none) ?_ ?_ ?_ (by simp) (by simp)
    ·simp (disch:=omega) [subT,renV,ren1,wrapI,hqv,hq1]
    ·simp [subH,renL,ren1]
    ·intro m hm
     simp only at hm
     rw [if_neg (by omega)]
   cases cl with
   | false =>
    rw [Bool.false_and] at hcl2
    simp -implicitDefEqProofs [hlt,hkn,hml2]
    repeat' (first | omega | apply And.intro)
    exact Again.of (j+1) (by omega) (by omega) (SubI.slots (by simp [hM2]) (by simp (disch:=omega) [wrapI,hcl2]))
   | true =>
    rw [Bool.true_and] at hcl2
    by_cases hz:z=0
    ·rw [dec_true hz] at hcl2
     simp -implicitDefEqProofs [hlt,hkn,hml2,hak2,hlk2,hej2,hz]
     repeat' (first | omega | apply And.intro)
     refine Again.of (j+1) (by omega) (by omega) ?_
     rw [hcl2]
     refine SubI.fold 0 1 k 1 w (cn:=ints rk2) (co:=(rowsV M2).set k (.sl 1 1 0 w)) (by simp) (by simp) (by simp [hml2,hkn]) (by simp [hlk2]) ?_
     rw [List.set_set,hself2]
     refine SubI.ren (fun m=>if m=0 then some 0 else none) ?_ ?_ ?_ (by simp) (by simp)
     ·simp (disch:=omega) [subT,renV,ren1,wrapI]
     ·simp [subH,renL,ren1,hM2]
     ·intro m hm
      simp only at hm
      rw [if_neg (by omega)]
    ·rw [dec_false hz] at hcl2
     simp -implicitDefEqProofs [hlt,hkn,hml2,hak2,hlk2,hej2,hz]
     repeat' (first | omega | apply And.intro)
     refine Again.of (j+1) (by omega) (by omega) ?_
     rw [hcl2]
     refine SubI.fold 0 1 k 1 w (cn:=ints rk2) (co:=(rowsV M2).set k (.sl 1 1 0 w)) (by simp) (by simp) (by simp [hml2,hkn]) (by simp [hlk2]) ?_
     rw [List.set_set,hself2]
     refine SubI.ren (fun m=>if m=0 then some 0 else none) ?_ ?_ ?_ (by simp) (by simp)
     ·simp (disch:=omega) [subT,renV,ren1,wrapI,hz]
     ·simp [subH,renL,ren1,hM2]
     ·intro m hm
      simp only at hm
      rw [if_neg (by omega)]
  ·have:j=w:=by omega
   subst this
   rw [hak] at hself
   rw [clS_full] at *
   generalize rowF j (clS k g j k)=rk at *
   generalize matF i j (clF k g)=M1 at *
   generalize (c1 && dec (∀ b,k<b→b<j→clF k g k b=0))=cl at *
   simp -implicitDefEqProofs [sc_s_l15Rest_L4,hkn,hml,hak,hlk]
   refine SubQ.of (l1:=[(0,.sl 0 1 0 i),(6,.bool cl)]) (s1:=([(0,rowsV M1)],1)) ?_ ?_
   ·refine SubI.fold 0 1 k 1 j (cn:=ints rk) (co:=(rowsV M1).set k (.sl 1 1 0 j)) (by simp) (by simp) (by simp [hml,hkn]) (by simp [hlk]) ?_
    rw [List.set_set,hself]
    refine SubI.ren (fun m=>if m=0 then some 0 else none) ?_ ?_ ?_ (by simp) (by simp)
    ·simp [subT,renV,ren1]
    ·simp [subH,renL,ren1]
    ·intro m hm
     simp only at hm
     rw [if_neg (by omega)]
   simp -implicitDefEqProofs
noncomputable def nzJ (f:Nat→Nat→Int) (i:Nat):Nat→Nat→Nat
 | 0,j=>j
 | n+1,j => @ite _ (f i j=0) (Classical.propDecidable _) (nzJ f i n (j+1)) j
noncomputable def nzI (f:Nat→Nat→Int) (w k:Nat):Nat→Nat→Int×Int
 | 0,_=>(-1,-1)
 | n+1,i => @ite _ (nzJ f i (w-k) k<w) (Classical.propDecidable _) ((i:Int),((nzJ f i (w-k) k:Nat):Int)) (nzI f w k n (i+1))
noncomputable def nzZ (f:Nat→Nat→Int) (n w k:Nat):Int×Int:=nzI f w k (n-k) k
theorem nzJ_yes {f:Nat→Nat→Int} {i n j:Nat} (h:f i j=0):nzJ f i (n+1) j=nzJ f i n (j+1):=by rw [nzJ,if_pos h]
theorem nzJ_no {f:Nat→Nat→Int} {i n j:Nat} (h:¬f i j=0):nzJ f i (n+1) j=j:=by rw [nzJ,if_neg h]
theorem nzI_yes {f:Nat→Nat→Int} {w k n i:Nat} (h:nzJ f i (w-k) k<w):nzI f w k (n+1) i=((i:Int),((nzJ f i (w-k) k:Nat):Int)):=by rw [nzI,if_pos h]
theorem nzI_no {f:Nat→Nat→Int} {w k n i:Nat} (h:¬nzJ f i (w-k) k<w):nzI f w k (n+1) i=nzI f w k n (i+1):=by rw [nzI,if_neg h]
theorem nzJ_spec (f:Nat→Nat→Int) (i:Nat):∀ n j,j≤nzJ f i n j∧nzJ f i n j≤j+n∧(∀ b,j≤b→b<nzJ f i n j→f i b=0)∧(nzJ f i n j<j+n→f i (nzJ f i n j)≠0)
 | 0,j=>⟨Nat.le_refl _,Nat.le_refl _,fun b h1 h2=>by simp [nzJ] at h2; omega,fun h=>by simp [nzJ] at h⟩
 | n+1,j=>by
  by_cases h:f i j=0
  ·rw [nzJ_yes h]
   obtain ⟨h1,h2,h3,h4⟩:=nzJ_spec f i n (j+1)
   refine ⟨by omega,by omega,fun b hb hb2 => ?_,fun hh=>h4 (by omega)⟩
   by_cases e:b=j
   ·rw [e]; exact h
   ·exact h3 b (by omega) hb2
  ·rw [nzJ_no h]
   exact ⟨Nat.le_refl _,by omega,fun b h1 h2=>by omega,fun _=>h⟩
theorem nzI_spec (f:Nat→Nat→Int) (w k:Nat):∀ n i,(nzI f w k n i=(-1,-1)∧∀ a b,i≤a→a<i+n→k≤b→b<w→f a b=0)∨∃ a b:Nat,nzI f w k n i=((a:Int),(b:Int))∧i≤a∧a<i+n∧k≤b∧b<w∧f a b≠0
 | 0,i => .inl ⟨rfl,fun a b h1 h2=>by omega⟩
 | n+1,i=>by
  obtain ⟨h1,h2,h3,h4⟩:=nzJ_spec f i (w-k) k
  by_cases h:nzJ f i (w-k) k<w
  ·rw [nzI_yes h]
   exact .inr ⟨_,_,rfl,Nat.le_refl _,by omega,h1,h,h4 (by omega)⟩
  ·rw [nzI_no h]
   rcases nzI_spec f w k n (i+1) with ⟨e,hz⟩ | ⟨a,b,e,c1,c2,c3,c4,c5⟩
   ·refine .inl ⟨e,fun a b ha1 ha2 hb1 hb2 => ?_⟩
    by_cases e2:a=i
    ·rw [e2]; exact h3 b hb1 (by omega)
    ·exact hz a b (by omega) (by omega) hb1 hb2
   ·exact .inr ⟨a,b,e,by omega,by omega,c3,c4,c5⟩
theorem nzZ_spec (f:Nat→Nat→Int) (n w k:Nat):(nzZ f n w k=(-1,-1)∧∀ a b,k≤a→a<n→k≤b→b<w→f a b=0)∨∃ a b:Nat,nzZ f n w k=((a:Int),(b:Int))∧k≤a∧a<n∧k≤b∧b<w∧f a b≠0:=by
 rcases nzI_spec f w k (n-k) k with ⟨e,hz⟩ | ⟨a,b,e,c1,c2,c3,c4,c5⟩
 ·exact .inl ⟨e,fun a b h1 h2 h3 h4=>hz a b h1 (by omega) h3 h4⟩
 ·exact .inr ⟨a,b,e,c1,by omega,c3,c4,c5⟩
def sc_i_findNonZero_L2:SC:=(.seq (.seq (.reg [⟨some 16,none,.mov (.t 7)⟩,⟨some 17,none,.mov (.t 0)⟩,⟨some 18,none,.mov (.t 6)⟩,⟨some 19,none,.idx 1 (.t 17) (.t 18)⟩,⟨some 20,none,.ld none .nil (.t 19)⟩,⟨some 21,none,.len (.t 20)⟩,⟨some 22,none,.bin false .lss (.t 16) (.t 21)⟩]) (.cond (.t 22) .skip (.exit 2))) (.seq (.block 3 (.seq (.reg [⟨some 25,none,.mov (.t 0)⟩,⟨some 26,none,.mov (.t 6)⟩,⟨some 27,none,.idx 1 (.t 25) (.t 26)⟩,⟨some 28,none,.ld none .nil (.t 27)⟩,⟨some 29,none,.mov (.t 7)⟩,⟨some 30,none,.idx 1 (.t 28) (.t 29)⟩,⟨some 31,none,.ld none (.int .i64 0) (.t 30)⟩,⟨some 32,none,.bin false .neq (.t 31) (.c (.int .i64 0))⟩]) (.cond (.t 32) (.seq (.reg [⟨some 33,none,.mov (.t 6)⟩,⟨some 34,none,.mov (.t 7)⟩,⟨some 4,none,.mov (.t 33)⟩,⟨some 5,none,.mov (.t 34)⟩]) .ret) .skip))) (.reg [⟨some 23,none,.mov (.t 7)⟩,⟨some 24,none,.bin false .add (.t 23) (.c (.int .i64 1))⟩,⟨some 7,none,.mov (.t 24)⟩])))
def sc_i_findNonZero_L0:SC:=(.seq (.seq (.reg [⟨some 9,none,.mov (.t 6)⟩,⟨some 10,none,.mov (.t 0)⟩,⟨some 11,none,.len (.t 10)⟩,⟨some 12,none,.bin false .lss (.t 9) (.t 11)⟩]) (.cond (.t 12) .skip (.exit 0))) (.seq (.block 1 (.seq (.reg [⟨some 15,none,.mov (.t 1)⟩,⟨some 7,none,.mov (.t 15)⟩]) (.block 2 (.loop sc_i_findNonZero_L2)))) (.reg [⟨some 13,none,.mov (.t 6)⟩,⟨some 14,none,.bin false .add (.t 13) (.c (.int .i64 1))⟩,⟨some 6,none,.mov (.t 14)⟩])))
def sc_i_findNonZero:SC:=(.seq (.reg [⟨some 4,none,.mov (.c (.int .i64 0))⟩,⟨some 5,none,.mov (.c (.int .i64 0))⟩]) (.seq (.seq (.reg [⟨some 8,none,.mov (.t 1)⟩,⟨some 6,none,.mov (.t 8)⟩]) (.block 0 (.loop sc_i_findNonZero_L0))) (.seq (.reg [⟨some 4,none,.mov (.c (.int .i64 (-1)))⟩,⟨some 5,none,.mov (.c (.int .i64 (-1)))⟩]) .ret)))
theorem code_i_findNonZero:fnCode Tryz.prog [] 60=some (35,sc_i_findNonZero,[(4,none),(5,none)]):=by kernel_rfl
noncomputable def F_i_findNonZero:List V→Option V:=F2 dLL dI fun M k => @ite _ (lowB M∧0≤k∧k≤64) (Classical.propDecidable _) (some (.tup [.int .i64 (nzZ (ent M) M.length (wdM M) k.toNat).1,.int .i64 (nzZ (ent M) M.length (wdM M) k.toNat).2])) none
theorem fn_i_findNonZero:FnOk Tryz.prog 60 F_i_findNonZero:=by
 have env:=envNil_ok (P:=Tryz.prog)
 refine fn_ok code_i_findNonZero mixed env ?_
 intro args r h hb
 obtain ⟨_,_,M,k,rfl,h1,h2,h4⟩:=F2_inv h
 cases dLL_inv h1
 cases dI_inv h2
 simp only [Option.ite_none_right_eq_some,Option.some.injEq] at h4
 obtain ⟨⟨⟨hr,hbd,hn,hw⟩,hk0,hk1⟩,rfl⟩:=h4
 clear h
 obtain ⟨k,rfl⟩:∃ q:Nat,k=q:=⟨k.toNat,by omega⟩
 rw [Int.toNat_natCast]
 refine ⟨by simp,fun w0 U0 L0 N0 => ?_⟩
 clear hb
 generalize wdM M=w at *
 unfold nzZ
 generalize hR:nzI (ent M) w k (M.length-k) k=R
 simp -implicitDefEqProofs [sc_i_findNonZero]
 refine loopI env mixed (fun i:Nat=>[(0,.list 1 (rowsL M)),(1,.int .i64 (k:Int)),(6,.int .i64 (i:Int))]) (fun _=>([],0)) (fun i=>k≤i∧(i≤M.length∨i=k)∧nzI (ent M) w k (M.length-i) i=R) (fun i=>M.length-i) k ⟨Nat.le_refl k,.inr rfl,hR⟩ (SubI.slots rfl (by simp)) ?_
 rintro i ⟨hki,ht,hI⟩
 by_cases hlt:i<M.length
 ·have hri:=hr i hlt
  rw [show M.length-i=(M.length-(i+1))+1 by omega] at hI
  generalize hq:nzJ (ent M) i (w-k) k=q at *
  simp -implicitDefEqProofs [sc_i_findNonZero_L0,hlt]
  refine loopQ env mixed (fun j:Nat=>[(0,.list 1 (rowsL M)),(1,.int .i64 (k:Int)),(6,.int .i64 (i:Int)),(7,.int .i64 (j:Int))]) (fun _=>([],0)) (fun j=>k≤j∧(j≤w∨j=k)∧nzJ (ent M) i (w-j) j=q) (fun j=>w-j) k ⟨Nat.le_refl k,.inr rfl,hq⟩ (SubI.slots rfl (by simp)) ?_
  rintro j ⟨hkj,hu,hJ⟩
  by_cases hlt2:j<w
  ·rw [show w-j=(w-(j+1))+1 by omega] at hJ
   by_cases hz:at0 (atR M i) j=0
   ·rw [nzJ_yes (show ent M i j=0 from hz)] at hJ
    simp -implicitDefEqProofs [sc_i_findNonZero_L2,hlt,hri,hlt2,rowsL_dR hlt,hz]
    repeat' (first | omega | apply And.intro)
    exact Again.of (j+1) ⟨by omega,by omega,hJ⟩ (by omega) (SubI.slots rfl (by simp (disch:=omega) [wrapI]))
   ·rw [nzJ_no (show ¬ent M i j=0 from hz)] at hJ
    subst hJ
    rw [nzI_yes (by rw [hq]; exact hlt2),hq] at hI
    subst hI
    simp -implicitDefEqProofs [sc_i_findNonZero_L2,hlt,hri,hlt2,rowsL_dR hlt,hz]
    repeat' (first | omega | apply And.intro)
    refine SubQ.of (l1:=[(4,.int .i64 (i:Int)),(5,.int .i64 (j:Int))]) (SubI.slots rfl (by simp)) ?_
    simp -implicitDefEqProofs
  ·have:q=j:=by rw [← hJ,show w-j=0 by omega]; rfl
   rw [nzI_no (by rw [hq]; omega)] at hI
   simp -implicitDefEqProofs [sc_i_findNonZero_L2,hlt,hri,hlt2,rowsL_dR hlt]
   repeat' (first | omega | apply And.intro)
   refine SubQ.of (l1:=[(0,.list 1 (rowsL M)),(1,.int .i64 (k:Int)),(6,.int .i64 (i:Int))]) (SubI.slots rfl (by simp)) ?_
   simp -implicitDefEqProofs
   exact Again.of (i+1) ⟨by omega,by omega,hI⟩ (by omega) (SubI.slots rfl (by simp (disch:=omega) [wrapI]))
 ·have:R=(-1,-1):=by rw [← hI,show M.length-i=0 by omega]; rfl
  subst this
  simp -implicitDefEqProofs [sc_i_findNonZero_L0,hlt]
theorem nzJ_congr {f g:Nat→Nat→Int} {i w:Nat} (h:∀ b,b<w→f i b=g i b):∀ n j,j+n≤w∨n=0→nzJ f i n j=nzJ g i n j
 | 0,j,_=>rfl
 | n+1,j,hj=>by
  have e:=h j (by omega)
  by_cases h0:f i j=0
  ·rw [nzJ_yes h0,nzJ_yes (by rw [← e]; exact h0),nzJ_congr h n (j+1) (by omega)]
  ·rw [nzJ_no h0,nzJ_no (by rw [← e]; exact h0)]
theorem nzI_congr {f g:Nat→Nat→Int} {n w k:Nat} (h:∀ a b,a<n→b<w→f a b=g a b):∀ q i,i+q≤n∨q=0→nzI f w k q i=nzI g w k q i
 | 0,i,_=>rfl
 | q+1,i,hi=>by
  have e:=nzJ_congr (f:=f) (g:=g) (i:=i) (w:=w) (fun b hb=>h i b (by omega) hb) (w-k) k (by omega)
  by_cases h0:nzJ f i (w-k) k<w
  ·rw [nzI_yes h0,nzI_yes (by rw [← e]; exact h0),e]
  ·rw [nzI_no h0,nzI_no (by rw [← e]; exact h0),nzI_congr h q (i+1) (by omega)]
theorem nzZ_congr {f g:Nat→Nat→Int} {n w k:Nat} (h:∀ a b,a<n→b<w→f a b=g a b):nzZ f n w k=nzZ g n w k:=nzI_congr h (n-k) k (by omega)
theorem wdM_matF {n w:Nat} {f:Nat→Nat→Int} (h:n=0→w=0):wdM (matF n w f)=w:=by
 by_cases h0:n=0
 ·rw [h h0,h0]; rfl
 ·exact wd_matF (by omega)
theorem dimM_matF {n w:Nat} {f:Nat→Nat→Int} (h:n=0→w=0) (hn:n≤64) (hw:w≤64):dimM (matF n w f):=by
 refine ⟨?_,by simpa using hn,by rw [wdM_matF h]; exact hw⟩
 rw [wdM_matF h]
 exact rect_matF n w f
theorem bd_matF {B:Int} {n w:Nat} {f:Nat→Nat→Int} (h:n=0→w=0) (hb:bdE B n w f):bdE B (matF n w f).length (wdM (matF n w f)) (ent (matF n w f)):=by
 rw [wdM_matF h,matF_len]
 intro i j hi hj
 rw [matF_ent hi hj]
 exact hb i j hi hj
theorem lowB_matF {n w:Nat} {f:Nat→Nat→Int} (h:n=0→w=0) (hn:n≤64) (hw:w≤64) (hb:bdE 1073741824 n w f):lowB (matF n w f):=by
 obtain ⟨h1,h2,h3⟩:=dimM_matF (f:=f) h hn hw
 refine ⟨h1,fun i j hi hj => ?_,h2,h3⟩
 have:=bd_matF h hb i j hi hj
 omega
theorem swpR_matF {n w k i j:Nat} {f:Nat→Nat→Int} (hkn:k<n) (hkw:k<w) (hi:i<n) (hj:j<w):swpR (matF n w f) k i j=matF n w (swF k i j f):=by
 unfold swpR
 rw [wd_matF (by omega),matF_len]
 refine matF_congr fun a b ha hb => ?_
 unfold swF
 rw [matF_ent (swI_lt hkn hi ha) (swI_lt hkw hj hb)]
theorem bdE_sw {B:Int} {n w k i j:Nat} {f:Nat→Nat→Int} (hkn:k<n) (hkw:k<w) (hi:i<n) (hj:j<w) (h:bdE B n w f):bdE B n w (swF k i j f):=fun a b ha hb=>h _ _ (swI_lt hkn hi ha) (swI_lt hkw hj hb)
def barV (k:Nat) (last:Int) (f:Nat→Nat→Int) (a b:Nat):Int:=(f a b*f k k-f a k*f k b).tdiv last
noncomputable def barF (k:Nat) (last:Int) (f:Nat→Nat→Int) (a b:Nat):Int:=@ite _ (k<a∧k<b) (Classical.propDecidable _) (barV k last f a b) (@ite _ (k<a∧b=k) (Classical.propDecidable _) 0 (f a b))
noncomputable def barS (k:Nat) (last:Int) (f:Nat→Nat→Int) (i a b:Nat):Int:=@ite _ (a<i) (Classical.propDecidable _) (barF k last f a b) (f a b)
theorem barF_top {k:Nat} {last:Int} {f:Nat→Nat→Int} {a:Nat} (h:a≤k) (b:Nat):barF k last f a b=f a b:=by
 unfold barF
 rw [if_neg (by omega),if_neg (by omega)]
theorem barS_start {n w k:Nat} (last:Int) (f:Nat→Nat→Int):matF n w (barS k last f (k+1))=matF n w f:=matF_congr fun a b _ _=>by
 unfold barS
 by_cases h:a<k+1
 ·rw [if_pos h,barF_top (by omega)]
 ·rw [if_neg h]
theorem barS_row {w k i:Nat} {last:Int} {f:Nat→Nat→Int}:rowF w (barS k last f i i)=rowF w (f i):=rowF_congr fun b _=>by unfold barS; rw [if_neg (by omega)]
theorem barS_top {w k i:Nat} {last:Int} {f:Nat→Nat→Int}:rowF w (barS k last f i k)=rowF w (f k):=rowF_congr fun b _=>by
 unfold barS
 split
 ·exact barF_top (Nat.le_refl k) b
 ·rfl
theorem barS_full {n w k:Nat} (last:Int) (f:Nat→Nat→Int):matF n w (barS k last f n)=matF n w (barF k last f):=matF_congr fun a b ha _=>by unfold barS; rw [if_pos ha]
theorem bar_row {w k i:Nat} {last:Int} {f:Nat→Nat→Int} (hki:k<i) (hkw:k<w):(rowW w (k+1) (f i) (barV k last f i) w).set k 0=rowF w (barF k last f i):=by
 unfold rowW
 rw [rowF_set hkw]
 refine rowF_congr fun b hb => ?_
 unfold barF
 by_cases e:b=k
 ·rw [if_pos e,if_neg (by omega),if_pos ⟨hki,e⟩]
 ·rw [if_neg e]
  by_cases h:k<b
  ·rw [if_pos ⟨h,hb⟩,if_pos ⟨hki,h⟩]
  ·rw [if_neg (by omega),if_neg (by omega),if_neg (by omega)]
theorem barS_step {n w k i:Nat} {last:Int} {f:Nat→Nat→Int} (hin:i<n):(matF n w (barS k last f i)).set i (rowF w (barF k last f i))=matF n w (barS k last f (i+1)):=by
 rw [matF_set _ hin]
 refine matF_congr fun a b _ _ => ?_
 unfold barS
 by_cases e:a=i
 ·subst e; rw [if_pos rfl,if_pos (by omega)]
 ·rw [if_neg e]
  by_cases h:a<i
  ·rw [if_pos h,if_pos (by omega)]
  ·rw [if_neg h,if_neg (by omega)]
noncomputable def bareR (n w:Nat):Nat→(Nat→Nat→Int)→Nat→Int→Option (Int×Int)
 | 0,_,_,_=>none
 | q+1,f,k,last => @ite _ ((nzZ f n w k).1<0) (Classical.propDecidable _) (some ((k:Int),last))
   (@ite _ (last≠0∧bdE 1073741824 n w (barF k last (swF k (nzZ f n w k).1.toNat (nzZ f n w k).2.toNat f))) (Classical.propDecidable _)
    (bareR n w q (barF k last (swF k (nzZ f n w k).1.toNat (nzZ f n w k).2.toNat f)) (k+1) (swF k (nzZ f n w k).1.toNat (nzZ f n w k).2.toNat f k k)) none)
theorem bareR_stop {n w q k:Nat} {f:Nat→Nat→Int} {last:Int} (h:nzZ f n w k=(-1,-1)):bareR n w (q+1) f k last=some ((k:Int),last):=by
 rw [bareR,if_pos (by rw [h]; decide)]
theorem bareR_step {n w q k i j:Nat} {f:Nat→Nat→Int} {last:Int} {R:Int×Int} (h:nzZ f n w k=((i:Int),(j:Int))) (hR:bareR n w (q+1) f k last=some R) :
  last≠0∧bdE 1073741824 n w (barF k last (swF k i j f))∧bareR n w q (barF k last (swF k i j f)) (k+1) (swF k i j f k k)=some R:=by
 rw [bareR,if_neg (by rw [h]; simp only; omega)] at hR
 have h1:(nzZ f n w k).1.toNat=i:=by rw [h]; simp
 have h2:(nzZ f n w k).2.toNat=j:=by rw [h]; simp
 rw [h1,h2] at hR
 by_cases hc:last≠0∧bdE 1073741824 n w (barF k last (swF k i j f))
 ·rw [if_pos hc] at hR
  exact ⟨hc.1,hc.2,hR⟩
 ·rw [if_neg hc] at hR
  cases hR
def sc_i_rankAndMinor_L6:SC:=(.cut (.seq (.reg [⟨some 59,none,.mov (.t 12)⟩,⟨some 60,none,.mov (.t 4)⟩,⟨some 61,none,.mov (.t 11)⟩,⟨some 62,none,.idx 1 (.t 60) (.t 61)⟩,⟨some 63,none,.ld none .nil (.t 62)⟩,⟨some 64,none,.len (.t 63)⟩,⟨some 65,none,.bin false .lss (.t 59) (.t 64)⟩]) (.cond (.t 65) .skip (.exit 6))) (.seq (.block 7 (.dreg [⟨⟨some 68,none,.mov (.t 4)⟩,false,false⟩,⟨⟨some 69,none,.mov (.t 11)⟩,false,false⟩,⟨⟨some 70,none,.idx 1 (.t 68) (.t 69)⟩,false,false⟩,⟨⟨some 71,none,.ld none .nil (.t 70)⟩,false,false⟩,⟨⟨some 72,none,.mov (.t 12)⟩,false,false⟩,⟨⟨some 73,none,.mov (.t 4)⟩,false,false⟩,⟨⟨some 74,none,.mov (.t 11)⟩,false,false⟩,⟨⟨some 75,none,.idx 1 (.t 73) (.t 74)⟩,false,false⟩,⟨⟨some 76,none,.ld none .nil (.t 75)⟩,false,false⟩,⟨⟨some 77,none,.mov (.t 12)⟩,false,false⟩,⟨⟨some 78,none,.idx 1 (.t 76) (.t 77)⟩,false,false⟩,⟨⟨some 79,none,.ld none (.int .i64 0) (.t 78)⟩,false,false⟩,⟨⟨some 80,none,.mov (.t 4)⟩,false,false⟩,⟨⟨some 81,none,.mov (.t 8)⟩,false,false⟩,⟨⟨some 82,none,.idx 1 (.t 80) (.t 81)⟩,false,false⟩,⟨⟨some 83,none,.ld none .nil (.t 82)⟩,false,false⟩,⟨⟨some 84,none,.mov (.t 8)⟩,false,false⟩,⟨⟨some 85,none,.idx 1 (.t 83) (.t 84)⟩,false,false⟩,⟨⟨some 86,none,.ld none (.int .i64 0) (.t 85)⟩,false,false⟩,⟨⟨some 87,none,.bin false .mul (.t 79) (.t 86)⟩,false,false⟩,⟨⟨some 88,none,.mov (.t 4)⟩,false,false⟩,⟨⟨some 89,none,.mov (.t 11)⟩,false,false⟩,⟨⟨some 90,none,.idx 1 (.t 88) (.t 89)⟩,false,false⟩,⟨⟨some 91,none,.ld none .nil (.t 90)⟩,false,false⟩,⟨⟨some 92,none,.mov (.t 8)⟩,false,false⟩,⟨⟨some 93,none,.idx 1 (.t 91) (.t 92)⟩,false,false⟩,⟨⟨some 94,none,.ld none (.int .i64 0) (.t 93)⟩,false,false⟩,⟨⟨some 95,none,.mov (.t 4)⟩,false,false⟩,⟨⟨some 96,none,.mov (.t 8)⟩,false,false⟩,⟨⟨some 97,none,.idx 1 (.t 95) (.t 96)⟩,false,false⟩,⟨⟨some 98,none,.ld none .nil (.t 97)⟩,false,false⟩,⟨⟨some 99,none,.mov (.t 12)⟩,false,false⟩,⟨⟨some 100,none,.idx 1 (.t 98) (.t 99)⟩,false,false⟩,⟨⟨some 101,none,.ld none (.int .i64 0) (.t 100)⟩,false,false⟩,⟨⟨some 102,none,.bin false .mul (.t 94) (.t 101)⟩,false,false⟩,⟨⟨some 103,none,.bin false .sub (.t 87) (.t 102)⟩,false,false⟩,⟨⟨some 104,none,.mov (.t 7)⟩,false,false⟩,⟨⟨some 105,none,.bin false .quo (.t 103) (.t 104)⟩,false,false⟩,⟨⟨some 106,none,.idx 1 (.t 71) (.t 72)⟩,false,false⟩,⟨⟨none,none,.st 1 (.t 106) (.t 105)⟩,true,false⟩])) (.reg [⟨some 66,none,.mov (.t 12)⟩,⟨some 67,none,.bin false .add (.t 66) (.c (.int .i64 1))⟩,⟨some 12,none,.mov (.t 67)⟩])))
def sc_i_rankAndMinor_L4:SC:=(.seq (.seq (.reg [⟨some 51,none,.mov (.t 11)⟩,⟨some 52,none,.mov (.t 4)⟩,⟨some 53,none,.len (.t 52)⟩,⟨some 54,none,.bin false .lss (.t 51) (.t 53)⟩]) (.cond (.t 54) .skip (.exit 4))) (.seq (.block 5 (.seq (.seq (.reg [⟨some 57,none,.mov (.t 8)⟩,⟨some 58,none,.bin false .add (.t 57) (.c (.int .i64 1))⟩,⟨some 12,none,.mov (.t 58)⟩]) (.block 6 (.loop sc_i_rankAndMinor_L6))) (.reg [⟨some 107,none,.mov (.t 4)⟩,⟨some 108,none,.mov (.t 11)⟩,⟨some 109,none,.idx 1 (.t 107) (.t 108)⟩,⟨some 110,none,.ld none .nil (.t 109)⟩,⟨some 111,none,.mov (.t 8)⟩,⟨some 112,none,.idx 1 (.t 110) (.t 111)⟩,⟨none,none,.st 1 (.t 112) (.c (.int .i64 0))⟩]))) (.reg [⟨some 55,none,.mov (.t 11)⟩,⟨some 56,none,.bin false .add (.t 55) (.c (.int .i64 1))⟩,⟨some 11,none,.mov (.t 56)⟩])))
def sc_i_rankAndMinor_L2:SC:=(.seq (.block 3 (.seq (.reg [⟨some 32,none,.mov (.t 4)⟩,⟨some 33,none,.mov (.t 8)⟩,⟨some 34,none,.call 60 [.t 32,.t 33]⟩,⟨some 31,none,.mov (.t 34)⟩,⟨some 35,none,.ext 0 (.t 31)⟩,⟨some 36,none,.ext 1 (.t 31)⟩,⟨some 9,none,.mov (.t 35)⟩,⟨some 10,none,.mov (.t 36)⟩]) (.seq (.seq (.reg [⟨some 37,none,.mov (.t 9)⟩,⟨some 38,none,.bin false .lss (.t 37) (.c (.int .i64 0))⟩]) (.cond (.t 38) (.seq (.reg [⟨some 39,none,.mov (.t 8)⟩,⟨some 40,none,.mov (.t 7)⟩,⟨some 41,none,.mov (.t 7)⟩,⟨some 42,none,.un .neg (.t 41)⟩,⟨some 43,none,.mm true (.t 40) (.t 42)⟩,⟨some 2,none,.mov (.t 39)⟩,⟨some 3,none,.mov (.t 43)⟩]) .ret) .skip)) (.seq (.reg [⟨some 44,none,.mov (.t 4)⟩,⟨some 45,none,.mov (.t 8)⟩,⟨some 46,none,.mov (.t 9)⟩,⟨some 47,none,.mov (.t 10)⟩,⟨some 48,none,.call 61 [.t 44,.t 45,.t 46,.t 47]⟩]) (.seq (.seq (.reg [⟨some 49,none,.mov (.t 8)⟩,⟨some 50,none,.bin false .add (.t 49) (.c (.int .i64 1))⟩,⟨some 11,none,.mov (.t 50)⟩]) (.block 4 (.loop sc_i_rankAndMinor_L4))) (.reg [⟨some 113,none,.mov (.t 4)⟩,⟨some 114,none,.mov (.t 8)⟩,⟨some 115,none,.idx 1 (.t 113) (.t 114)⟩,⟨some 116,none,.ld none .nil (.t 115)⟩,⟨some 117,none,.mov (.t 8)⟩,⟨some 118,none,.idx 1 (.t 116) (.t 117)⟩,⟨some 119,none,.ld none (.int .i64 0) (.t 118)⟩,⟨some 7,none,.mov (.t 119)⟩])))))) (.reg [⟨some 29,none,.mov (.t 8)⟩,⟨some 30,none,.bin false .add (.t 29) (.c (.int .i64 1))⟩,⟨some 8,none,.mov (.t 30)⟩]))
def sc_i_rankAndMinor_L0:SC:=(.seq (.reg [⟨some 19,none,.bin false .lss (.t 18) (.t 17)⟩]) (.seq (.cond (.t 19) .skip (.exit 0)) (.seq (.block 1 (.seq (.reg [⟨some 20,none,.mov (.t 18)⟩,⟨some 21,none,.idx 1 (.t 16) (.t 18)⟩,⟨some 22,none,.ld none .nil (.t 21)⟩,⟨some 5,none,.mov (.t 20)⟩,⟨some 6,none,.mov (.t 22)⟩]) (.reg [⟨some 23,none,.mov (.t 4)⟩,⟨some 24,none,.mov (.t 5)⟩,⟨some 25,none,.mov (.t 6)⟩,⟨some 26,none,.app 1 8 (.c .nil) (.t 25)⟩,⟨some 27,none,.idx 1 (.t 23) (.t 24)⟩,⟨none,none,.st 1 (.t 27) (.t 26)⟩]))) (.reg [⟨some 28,none,.bin false .add (.t 18) (.c (.int .i64 1))⟩,⟨some 18,none,.mov (.t 28)⟩]))))
def sc_i_rankAndMinor:SC:=(.seq (.reg [⟨some 2,none,.mov (.c (.int .i64 0))⟩,⟨some 3,none,.mov (.c (.int .i64 0))⟩]) (.seq (.reg [⟨some 13,none,.mov (.t 0)⟩,⟨some 14,none,.len (.t 13)⟩,⟨some 15,none,.mk 1 24 [.nil] (.t 14) (.t 14)⟩,⟨some 4,none,.mov (.t 15)⟩]) (.seq (.seq (.reg [⟨some 16,none,.mov (.t 0)⟩,⟨some 17,none,.len (.t 16)⟩,⟨some 18,none,.mov (.c (.int .i64 0))⟩]) (.block 0 (.loop sc_i_rankAndMinor_L0))) (.seq (.reg [⟨some 7,none,.mov (.c (.int .i64 1))⟩]) (.seq (.reg [⟨some 8,none,.mov (.c (.int .i64 0))⟩]) (.block 2 (.loop sc_i_rankAndMinor_L2)))))))
theorem code_i_rankAndMinor:fnCode Tryz.prog [666666,555555] 30=some (120,sc_i_rankAndMinor,[(2,none),(3,none)]):=by kernel_rfl
noncomputable def F_i_rankAndMinor:List V→Option V:=F1 dLL fun M => @ite _ (dimM M∧bdE 1073741824 M.length (wdM M) (ent M)) (Classical.propDecidable _) ((bareR M.length (wdM M) (M.length+1) (ent M) 0 1).map fun x => .tup [.int .i64 x.1,.int .i64 (x.2.natAbs:Nat)]) none
theorem fn_i_rankAndMinor:FnOk Tryz.prog 30 F_i_rankAndMinor:=by
 have env:=((envNil_ok (P:=Tryz.prog)).add fn_i_findNonZero).addl ln_i_swapTo
 refine fn_ok code_i_rankAndMinor mixed env ?_
 intro args r h hb
 obtain ⟨_,M,rfl,h1,h4⟩:=F1_inv h
 cases dLL_inv h1
 simp only [Option.ite_none_right_eq_some,Option.map_eq_some_iff] at h4
 obtain ⟨⟨⟨hr,hn,hw⟩,hbd⟩,R,hR,rfl⟩:=h4
 clear h h1 hb
 have hself:=matF_self hr
 have hw0:M.length=0→wdM M=0:=fun h0=>by rw [List.length_eq_zero_iff.1 h0]; rfl
 have hlen:∀ i,i<M.length→(atR M i).length=wdM M:=hr
 clear hr
 generalize wdM M=w at *
 generalize hf:ent M=f0 at *
 refine ⟨by simp,fun w0 U0 L0 N0 => ?_⟩
 obtain ⟨rk,rl⟩:=R
 generalize hv:((rl.natAbs:Nat):Int)=v at *
 -- the rows below are changed
 have rows:∀ (f:Nat→Nat→Int) (k:Nat) (last:Int) (Q:Post) (T0:Tm) (H0:Hp),k<M.length→k<w→last≠0→bdE 1073741824 M.length w f →
   SubI 0 T0 H0 [(4,.sl 0 1 0 M.length),(7,.int .i64 last),(8,.int .i64 (k:Int)),(11,.int .i64 ((k+1:Nat):Int))] ([(0,rowsV (matF M.length w f))],1) →
   Q (.exit 4) [(4,.sl 0 1 0 M.length),(7,.int .i64 last),(8,.int .i64 (k:Int))] ([(0,rowsV (matF M.length w (barF k last f)))],1) →
   LoopI ⟨Tryz.prog,w0,U0,L0,N0,0,120⟩ [666666,555555] sc_i_rankAndMinor_L4 Q T0 H0:=by
  intro f k last Q T0 H0 hkn hkw hl0 hbf hsub q1
  generalize hnn:M.length=n at *
  refine loopQ env mixed (fun i:Nat=>[(4,.sl 0 1 0 n),(7,.int .i64 last),(8,.int .i64 (k:Int)),(11,.int .i64 (i:Int))]) (fun i=>([(0,rowsV (matF n w (barS k last f i)))],1)) (fun i=>k<i∧i≤n) (fun i=>n-i) (k+1) (by omega) (by rw [barS_start]; exact hsub) ?_
  rintro i ⟨hki,hin⟩
  have hml:=matF_len n w (barS k last f i)
  by_cases hlt:i<n
  ·have hik:¬i=k:=by omega
   have hki':¬k=i:=by omega
   have hai:=matF_at (w:=w) (f:=barS k last f i) hlt
   rw [barS_row] at hai
   have hak:=matF_at (w:=w) (f:=barS k last f i) hkn
   rw [barS_top] at hak
   have hli:(rowF w (f i)).length=w:=rowF_len _ _
   have hlk:(rowF w (f k)).length=w:=rowF_len _ _
   have hst:=barS_step (w:=w) (k:=k) (last:=last) (f:=f) hlt
   rw [← bar_row hki hkw] at hst
   have htw:=rowsV_two (M:=matF n w (barS k last f i)) (i:=i) (k:=k) hik (by omega) ((rowW w (k+1) (f i) (barV k last f i) w).set k 0) (.sl 1 1 0 w) (.sl 2 1 0 w)
   rw [hst,hak] at htw
   have hqd:∀ j,barV k last f i j=(f i j*f k k-f i k*f k j).tdiv last:=fun j=>rfl
   have hstart:=rowW_start (w:=w) (k:=k+1) (old:=f i) (new:=barV k last f i)
   have hset:=fun (j:Nat) h1 h2=>rowW_set (w:=w) (k:=k+1) (j:=j) (old:=f i) (new:=barV k last f i) h1 h2
   have hat:=fun (j:Nat) h=>rowW_at (w:=w) (k:=k+1) (j:=j) (old:=f i) (new:=barV k last f i) h
   have hatk:∀ j,at0 (rowW w (k+1) (f i) (barV k last f i) j) k=f i k:=fun j=>by
    unfold rowW
    rw [rowF_at hkw,if_neg (by omega)]
   have hek:=fun (j:Nat) (h:j<w)=>rowF_at (g:=f k) h
   have hrl:=fun j=>rowW_len w (k+1) (f i) (barV k last f i) j
   generalize hnb:barV k last f i=nb at *
   have hw1:IntKind.i64.wrap ((k:Int)+1)=((k+1:Nat):Int):=by rw [wrapI _ (by omega) (by omega)]; rfl
   generalize matF n w (barS k last f i)=Mi at *
   simp -implicitDefEqProofs [sc_i_rankAndMinor_L4,hlt,hml,hw1]
   refine loopQ env mixed (fun j:Nat=>[(4,.sl 0 1 0 n),(7,.int .i64 last),(8,.int .i64 (k:Int)),(11,.int .i64 (i:Int)),(12,.int .i64 (j:Int))]) (fun j=>([(2,ints (rowF w (f k))),(1,ints (rowW w (k+1) (f i) nb j)),(0,((rowsV Mi).set i (.sl 1 1 0 w)).set k (.sl 2 1 0 w))],3)) (fun j=>k<j∧j≤w) (fun j=>w-j) (k+1) (by omega) ?_ ?_
   ·refine SubI.unfold 0 i 1 (co:=rowsV Mi) (cn:=ints (rowF w (f i))) rfl (by rw [rowsV_get (by omega),hai]) (by omega) ?_
    refine SubI.unfold 0 k 1 (co:=(rowsV Mi).set i (.sl 1 1 0 w)) (cn:=ints (rowF w (f k))) (by simp [hli]) (by rw [List.getElem?_set_ne hik,rowsV_get (by omega),hak]) (by omega) ?_
    exact SubI.slots (by rw [hstart]; simp [hli,hlk]) (by simp)
   rintro j ⟨hkj,hjw⟩
   by_cases hlt2:j<w
   ·have e1:=hat j hlt2
    have e2:=hatk j
    have e3:=hek j hlt2
    have e4:=hek k hkw
    have e5:=hset j (by omega) hlt2
    have e6:=hrl j
    have m1:=mulB2 (A:=1073741824) (B:=1073741824) (hbf i j hlt hlt2) (hbf k k hkn hkw)
    have m2:=mulB2 (A:=1073741824) (B:=1073741824) (hbf i k hlt hkw) (hbf k j hkn hlt2)
    have w1:IntKind.i64.wrap (f i j*f k k)=f i j*f k k:=wrapI _ (by omega) (by omega)
    have w2:IntKind.i64.wrap (f i k*f k j)=f i k*f k j:=wrapI _ (by omega) (by omega)
    have w3:IntKind.i64.wrap (f i j*f k k-f i k*f k j)=f i j*f k k-f i k*f k j:=wrapI _ (by omega) (by omega)
    have w4:=hqd j
    have w5:IntKind.i64.wrap (nb j)=nb j:=by
     rw [w4]
     have:=tdivB (a:=f i j*f k k-f i k*f k j) (b:=last) (B:=4611686018427387904) ⟨by omega,by omega⟩
     exact wrapI _ (by omega) (by omega)
    generalize hgg:rowW w (k+1) (f i) nb j=g at *
    generalize rowF w (f k)=rkk at *
    simp -implicitDefEqProofs [sc_i_rankAndMinor_L6,hlt,hkn,hik,hki',hml,hlt2,e6]
    repeat' (first | omega | apply And.intro)
    refine CutI.of (l':=[(4,.sl 0 1 0 n),(7,.int .i64 last),(8,.int .i64 (k:Int)),(11,.int .i64 (i:Int)),(12,.int .i64 (j:Int))]) (SubI.slots rfl (by simp)) ?_
    simp -implicitDefEqProofs [freeOk,hlt,hkn,hik,hki',hml,hlt2,hkw,hlk,e1,e2,e3,e4,e6,w1,w2,w3,← w4,w5,e5,hl0]
    repeat' (first | omega | apply And.intro)
    exact Again.of (j+1) (by omega) (by omega) (SubI.slots (by simp) (by simp (disch:=omega) [wrapI]))
   ·have:j=w:=by omega
    subst this
    have e6:=hrl j
    generalize rowW j (k+1) (f i) nb j=g at *
    generalize rowF j (f k)=rkk at *
    simp -implicitDefEqProofs [sc_i_rankAndMinor_L6,hlt,hkn,hik,hki',hml,e6]
    refine SubQ.of (l1:=[(4,.sl 0 1 0 n),(7,.int .i64 last),(8,.int .i64 (k:Int)),(11,.int .i64 (i:Int))]) (SubI.slots rfl (by simp)) ?_
    simp -implicitDefEqProofs [hlt,hkn,hik,hki',hml,e6,hkw]
    repeat' (first | omega | apply And.intro)
    refine Again.of (i+1) (by omega) (by omega) ?_
    refine SubI.fold 0 1 i 1 j (cn:=ints (g.set k 0)) (co:=((rowsV Mi).set i (.sl 1 1 0 j)).set k (.sl 2 1 0 j)) (by simp) (by simp) (by simp [hml,hlt,hik,hki']) (by simp [e6]) ?_
    refine SubI.fold 0 2 k 1 j (cn:=ints rkk) (co:=(((rowsV Mi).set i (.sl 1 1 0 j)).set k (.sl 2 1 0 j)).set i (.own 1 (ints (g.set k 0)))) (by simp) (by simp) (by simp [hml,hkn,hik,hki']) (by simp [hlk]) ?_
    rw [htw]
    refine SubI.ren (fun m=>if m=0 then some 0 else none) ?_ ?_ ?_ (by simp) (by simp)
    ·simp (disch:=omega) [subT,renV,ren1,wrapI]
    ·simp [subH,renL,ren1]
    ·intro m hm
     simp only at hm
     rw [if_neg (by omega)]
  ·have:i=n:=by omega
   subst this
   rw [← barS_full] at q1
   simp -implicitDefEqProofs [sc_i_rankAndMinor_L4,hml]
   refine SubQ.of ?_ q1
   exact SubI.slots rfl (by simp)
 -- the steps
 have main:∀ (Q:Post) (T0:Tm) (H0:Hp),SubI 0 T0 H0 [(4,.sl 0 1 0 M.length),(7,.int .i64 1),(8,.int .i64 0)] ([(0,rowsV (matF M.length w f0))],1) →
   (∀ H,Q .ret [(2,.int .i64 rk),(3,.int .i64 v)] H) →
   LoopI ⟨Tryz.prog,w0,U0,L0,N0,0,120⟩ [666666,555555] sc_i_rankAndMinor_L2 Q T0 H0:=by
  intro Q T0 H0 hsub q1
  generalize hnn:M.length=n at *
  refine loopQ env mixed (fun x:Nat×(Nat→Nat→Int)×Int=>[(4,.sl 0 1 0 n),(7,.int .i64 x.2.2),(8,.int .i64 (x.1:Int))]) (fun x=>([(0,rowsV (matF n w x.2.1))],1)) (fun x=>x.1≤n∧bdE 1073741824 n w x.2.1 ∧ -1073741824≤x.2.2∧x.2.2≤1073741824∧bareR n w (n+1-x.1) x.2.1 x.1 x.2.2=some (rk,rl)) (fun x=>n+1-x.1) (0,f0,1) ⟨by simp only; omega,hbd,by simp only; omega,by simp only; omega,hR⟩ (by simpa using hsub) ?_
  rintro ⟨k,f,last⟩ ⟨hkn,hbf,hl1,hl2,hI⟩
  simp only at hkn hbf hl1 hl2 hI ⊢
  have hlow:=lowB_matF (f:=f) hw0 hn hw hbf
  have hNZ:F_i_findNonZero [.list 1 (rowsL (matF n w f)),.int .i64 (k:Int)]=some (.tup [.int .i64 (nzZ f n w k).1,.int .i64 (nzZ f n w k).2]):=by
   simp only [F_i_findNonZero,F2_mk,dLL_list,dI_int,Option.bind_some]
   rw [if_pos ⟨hlow,by omega,by omega⟩,Int.toNat_natCast,wdM_matF hw0,matF_len,nzZ_congr fun a b ha hb=>matF_ent ha hb]
  have hml:=matF_len n w f
  rw [show n+1-k=(n-k)+1 by omega] at hI
  rcases nzZ_spec f n w k with ⟨e,hz⟩ | ⟨i,j,e,c1,c2,c3,c4,c5⟩
  ·rw [e] at hNZ
   rw [bareR_stop e] at hI
   simp only [Option.some.injEq,Prod.mk.injEq] at hI
   obtain ⟨rfl,rfl⟩:=hI
   have hneg:IntKind.i64.wrap (-last) = -last:=wrapI _ (by omega) (by omega)
   have hmx:max last (-last)=v:=by omega
   have htk:(matF n w f).take n=matF n w f:=List.take_of_length_le (by rw [hml]; omega)
   simp only at hNZ
   generalize matF n w f=Mf at *
   simp -implicitDefEqProofs [sc_i_rankAndMinor_L2,hml,htk,hNZ,hneg,hmx]
   refine SubQ.of ?_ (q1 ([(0,rowsV Mf)],1))
   exact SubI.slots rfl (by simp)
  ·rw [e] at hNZ
   simp only at hNZ
   obtain ⟨hl0,hb2,hI2⟩:=bareR_step e hI
   have hin:i<n:=c2
   have hjw:j<w:=c4
   have hkn2:k<n:=by omega
   have hkw2:k<w:=by omega
   have hG:G_i_swapTo [.sl 0 1 0 n,.int .i64 (k:Int),.int .i64 (i:Int),.int .i64 (j:Int)] (rowsV (matF n w f))=some (.tup [],rowsV (matF n w (swF k i j f))):=by
    simp only [G_i_swapTo,dRowsV_rowsV,Option.bind_some]
    have hwd:=wdM_matF (f:=f) hw0
    rw [if_pos ⟨by rw [hml],dimM_matF hw0 hn hw,by omega,by rw [hml]; omega,by rw [hwd]; omega,by omega,by rw [hml]; omega,by omega,by rw [hwd]; omega⟩]
    simp only [Int.toNat_natCast]
    rw [swpR_matF hkn2 hkw2 hin hjw]
   have hbg:=bdE_sw hkn2 hkw2 hin hjw hbf
   have hro:=rows (swF k i j f) k last
   have htk:(matF n w f).take n=matF n w f:=List.take_of_length_le (by rw [hml]; omega)
   have hml2:=matF_len n w (barF k last (swF k i j f))
   have hak:=matF_at (w:=w) (f:=barF k last (swF k i j f)) hkn2
   have hlk:(rowF w (barF k last (swF k i j f) k)).length=w:=rowF_len _ _
   have hek:=rowF_at (g:=barF k last (swF k i j f) k) hkw2
   rw [barF_top (Nat.le_refl k)] at hek
   have hgb:=hbg k k hkn2 hkw2
   have hself2:=rowsV_self (M:=matF n w (barF k last (swF k i j f))) (i:=k) (by omega)
   rw [hak] at hself2
   have hni:¬((i:Int)<0):=by omega
   have hw1:IntKind.i64.wrap ((k:Int)+1)=((k+1:Nat):Int):=by rw [wrapI _ (by omega) (by omega)]; rfl
   generalize hgkk:swF k i j f k k=l2 at *
   generalize hff:barF k last (swF k i j f)=f2 at *
   generalize rowF w (f2 k)=r2 at *
   generalize hm2:matF n w f2=M2 at *
   generalize matF n w (swF k i j f)=M1 at *
   generalize matF n w f=Mf at *
   simp -implicitDefEqProofs [sc_i_rankAndMinor_L2,ren0,hml,htk,hNZ,hni,hG,hw1]
   refine hro _ _ _ hkn2 hkw2 hl0 hbg (SubI.slots rfl (by simp)) ?_
   simp -implicitDefEqProofs [hkn2,hml2,hak,hlk,hkw2,hek]
   repeat' (first | omega | apply And.intro)
   refine Again.of (k+1,f2,l2) ⟨by simp only; omega,hb2,by simp only; omega,by simp only; omega,by simp only; rw [show n+1-(k+1)=n-k by omega]; exact hI2⟩ (by simp only; omega) ?_
   refine SubI.fold 0 1 k 1 w (cn:=ints r2) (co:=(rowsV M2).set k (.sl 1 1 0 w)) (by simp) (by simp) (by simp [hml2,hkn2]) (by simp [hlk]) ?_
   rw [List.set_set,hself2]
   refine SubI.ren (fun m=>if m=0 then some 0 else none) ?_ ?_ ?_ (by simp) (by simp)
   ·simp (disch:=omega) [subT,renV,ren1,wrapI]
   ·simp [subH,renL,ren1,hm2]
   ·intro m hm
    simp only at hm
    rw [if_neg (by omega)]
 rw [hself] at main
 simp -implicitDefEqProofs [sc_i_rankAndMinor]
 refine ⟨by omega,?_⟩
 refine loopQ env mixed (fun i:Nat=>[(4,.sl 0 1 0 M.length),(16,.list 1 (rowsL M)),(17,.int .i64 (M.length:Int)),(18,.int .i64 (i:Int))]) (fun i=>([(0,rowsV (padR M i))],1)) (fun i=>i≤M.length) (fun i=>M.length-i) 0 (by simp) (SubI.nilAll 0 1 (by simp; rfl) (by simp) (SubI.slots (by simp [padR_zero,rowsV]) (by simp))) ?_
 intro i hi
 by_cases hlt:i<M.length
 ·have hri:=hlen i hlt
  have hps:=padR_set hlt
  simp -implicitDefEqProofs [sc_i_rankAndMinor_L0,hlt,rowsL_dR hlt]
  refine ⟨by omega,by omega,by omega,?_⟩
  refine Again.of (i+1) (by omega) (by omega) ?_
  refine SubI.fold 0 1 i 1 (atR M i).length (cn:=ints (atR M i)) (co:=(rowsV (padR M i)).set i (.sl 1 1 0 (atR M i).length)) (by simp) (by simp) (by simp [hlt]) (by simp) ?_
  rw [List.set_set]
  refine SubI.ren (fun m=>if m=0 then some 0 else none) ?_ ?_ ?_ (by simp) (by simp)
  ·simp (disch:=omega) [subT,renV,ren1,wrapI]
  ·simp [subH,renL,ren1,hps]
  ·intro m hm
   simp only at hm
   rw [if_neg (by omega)]
 ·have:i=M.length:=by omega
  subst this
  rw [padR_full]
  simp -implicitDefEqProofs [sc_i_rankAndMinor_L0]
  refine SubQ.of (l1:=[(4,.sl 0 1 0 M.length)]) (SubI.slots rfl (by simp)) ?_
  simp -implicitDefEqProofs
  refine main _ _ _ (SubI.slots rfl (by simp)) ?_
  intro H
  simp -implicitDefEqProofs
def sc_s_l15Odd_L2:SC:=(.seq (.seq (.reg [⟨some 17,none,.mov (.t 6)⟩,⟨some 18,none,.mov (.t 0)⟩,⟨some 19,none,.mov (.t 5)⟩,⟨some 20,none,.idx 1 (.t 18) (.t 19)⟩,⟨some 21,none,.ld none .nil (.t 20)⟩,⟨some 22,none,.len (.t 21)⟩,⟨some 23,none,.bin false .lss (.t 17) (.t 22)⟩]) (.cond (.t 23) .skip (.exit 2))) (.seq (.block 3 (.seq (.dreg [⟨⟨some 26,none,.mov (.t 0)⟩,false,false⟩,⟨⟨some 27,none,.mov (.t 5)⟩,false,false⟩,⟨⟨some 28,none,.idx 1 (.t 26) (.t 27)⟩,false,false⟩,⟨⟨some 29,none,.ld none .nil (.t 28)⟩,false,false⟩,⟨⟨some 30,none,.mov (.t 6)⟩,false,false⟩,⟨⟨some 31,none,.idx 1 (.t 29) (.t 30)⟩,false,false⟩,⟨⟨some 32,none,.ld none (.int .i64 0) (.t 31)⟩,false,false⟩,⟨⟨some 33,none,.mov (.t 0)⟩,false,false⟩,⟨⟨some 34,none,.mov (.t 1)⟩,false,false⟩,⟨⟨some 35,none,.idx 1 (.t 33) (.t 34)⟩,false,false⟩,⟨⟨some 36,none,.ld none .nil (.t 35)⟩,false,false⟩,⟨⟨some 37,none,.mov (.t 1)⟩,false,false⟩,⟨⟨some 38,none,.idx 1 (.t 36) (.t 37)⟩,false,false⟩,⟨⟨some 39,none,.ld none (.int .i64 0) (.t 38)⟩,false,false⟩,⟨⟨some 40,none,.bin false .rem (.t 32) (.t 39)⟩,false,false⟩,⟨⟨some 41,none,.bin false .neq (.t 40) (.c (.int .i64 0))⟩,false,false⟩]) (.cond (.t 41) (.seq (.reg [⟨some 42,none,.mov (.t 5)⟩,⟨some 4,none,.mov (.t 42)⟩]) .ret) .skip))) (.reg [⟨some 24,none,.mov (.t 6)⟩,⟨some 25,none,.bin false .add (.t 24) (.c (.int .i64 1))⟩,⟨some 6,none,.mov (.t 25)⟩])))
def sc_s_l15Odd_L0:SC:=(.seq (.seq (.reg [⟨some 9,none,.mov (.t 5)⟩,⟨some 10,none,.mov (.t 0)⟩,⟨some 11,none,.len (.t 10)⟩,⟨some 12,none,.bin false .lss (.t 9) (.t 11)⟩]) (.cond (.t 12) .skip (.exit 0))) (.seq (.block 1 (.seq (.reg [⟨some 15,none,.mov (.t 1)⟩,⟨some 16,none,.bin false .add (.t 15) (.c (.int .i64 1))⟩,⟨some 6,none,.mov (.t 16)⟩]) (.block 2 (.loop sc_s_l15Odd_L2)))) (.reg [⟨some 13,none,.mov (.t 5)⟩,⟨some 14,none,.bin false .add (.t 13) (.c (.int .i64 1))⟩,⟨some 5,none,.mov (.t 14)⟩])))
def sc_s_l15Odd:SC:=(.seq (.reg [⟨some 4,none,.mov (.c (.int .i64 0))⟩]) (.seq (.seq (.reg [⟨some 7,none,.mov (.t 1)⟩,⟨some 8,none,.bin false .add (.t 7) (.c (.int .i64 1))⟩,⟨some 5,none,.mov (.t 8)⟩]) (.block 0 (.loop sc_s_l15Odd_L0))) (.seq (.reg [⟨some 4,none,.mov (.c (.int .i64 (-1)))⟩]) .ret)))
theorem code_s_l15Odd:fnCode Tryz.prog [] 79=some (43,sc_s_l15Odd,[(4,none)]):=by kernel_rfl
def odP (f:Nat→Nat→Int) (w k i:Nat):Prop:=∃ j,k<j∧j<w∧(f i j).tmod (f k k)≠0
noncomputable def odI (f:Nat→Nat→Int) (w k:Nat):Nat→Nat→Int
 | 0,_ => -1
 | n+1,i => @ite _ (odP f w k i) (Classical.propDecidable _) (i:Int) (odI f w k n (i+1))
noncomputable def odZ (f:Nat→Nat→Int) (n w k:Nat):Int:=odI f w k (n-(k+1)) (k+1)
theorem odI_yes {f:Nat→Nat→Int} {w k n i:Nat} (h:odP f w k i):odI f w k (n+1) i=i:=by rw [odI,if_pos h]
theorem odI_no {f:Nat→Nat→Int} {w k n i:Nat} (h:¬odP f w k i):odI f w k (n+1) i=odI f w k n (i+1):=by rw [odI,if_neg h]
theorem odI_spec (f:Nat→Nat→Int) (w k:Nat):∀ n i,(odI f w k n i = -1∧∀ a,i≤a→a<i+n→¬odP f w k a)∨∃ a:Nat,odI f w k n i=(a:Int)∧i≤a∧a<i+n∧odP f w k a
 | 0,i => .inl ⟨rfl,fun a h1 h2=>by omega⟩
 | n+1,i=>by
  by_cases h:odP f w k i
  ·rw [odI_yes h]
   exact .inr ⟨i,rfl,Nat.le_refl _,by omega,h⟩
  ·rw [odI_no h]
   rcases odI_spec f w k n (i+1) with ⟨e,hz⟩ | ⟨a,e,c1,c2,c3⟩
   ·refine .inl ⟨e,fun a ha1 ha2 => ?_⟩
    by_cases e2:a=i
    ·rw [e2]; exact h
    ·exact hz a (by omega) (by omega)
   ·exact .inr ⟨a,e,by omega,by omega,c3⟩
noncomputable def F_s_l15Odd:List V→Option V:=F2 dLL dI fun M k => @ite _ (lowB M∧0≤k∧k<M.length∧k<wdM M∧ent M k.toNat k.toNat≠0) (Classical.propDecidable _) (some (.int .i64 (odZ (ent M) M.length (wdM M) k.toNat))) none
theorem fn_s_l15Odd:FnOk Tryz.prog 79 F_s_l15Odd:=by
 have env:=envNil_ok (P:=Tryz.prog)
 refine fn_ok code_s_l15Odd mixed env ?_
 intro args r h hb
 obtain ⟨_,_,M,k,rfl,h1,h2,h4⟩:=F2_inv h
 cases dLL_inv h1
 cases dI_inv h2
 simp only [Option.ite_none_right_eq_some,Option.some.injEq] at h4
 obtain ⟨⟨⟨hr,hbd,hn,hw⟩,hk0,hk1,hk2,hk3⟩,rfl⟩:=h4
 clear h
 obtain ⟨k,rfl⟩:∃ q:Nat,k=q:=⟨k.toNat,by omega⟩
 rw [Int.toNat_natCast] at *
 refine ⟨by simp,fun w0 U0 L0 N0 => ?_⟩
 clear hb
 generalize wdM M=w at *
 have hkM:k<M.length:=by omega
 have hkw:k<w:=by omega
 have hrk:=hr k hkM
 have hpz:¬at0 (atR M k) k=0:=hk3
 unfold odZ
 generalize hR:odI (ent M) w k (M.length-(k+1)) (k+1)=R
 have hw1:IntKind.i64.wrap ((k:Int)+1)=((k+1:Nat):Int):=by rw [wrapI _ (by omega) (by omega)]; rfl
 simp -implicitDefEqProofs [sc_s_l15Odd,hw1]
 refine loopI env mixed (fun i:Nat=>[(0,.list 1 (rowsL M)),(1,.int .i64 (k:Int)),(5,.int .i64 (i:Int))]) (fun _=>([],0)) (fun i=>k<i∧i≤M.length∧odI (ent M) w k (M.length-i) i=R) (fun i=>M.length-i) (k+1) ⟨by omega,by omega,hR⟩ (SubI.slots rfl (by simp)) ?_
 rintro i ⟨hki,ht,hI⟩
 by_cases hlt:i<M.length
 ·have hri:=hr i hlt
  rw [show M.length-i=(M.length-(i+1))+1 by omega] at hI
  simp -implicitDefEqProofs [sc_s_l15Odd_L0,hlt,hw1]
  refine loopQ env mixed (fun j:Nat=>[(0,.list 1 (rowsL M)),(1,.int .i64 (k:Int)),(5,.int .i64 (i:Int)),(6,.int .i64 (j:Int))]) (fun _=>([],0)) (fun j=>k<j∧j≤w∧∀ b,k<b→b<j→(ent M i b).tmod (ent M k k)=0) (fun j=>w-j) (k+1) ⟨by omega,by omega,fun b h1 h2=>by omega⟩ (SubI.slots rfl (by simp)) ?_
  rintro j ⟨hkj,hu,hJ⟩
  by_cases hlt2:j<w
  ·by_cases hz:(at0 (atR M i) j).tmod (at0 (atR M k) k)=0
   ·simp -implicitDefEqProofs [sc_s_l15Odd_L2,freeOk,hlt,hri,hlt2,hkM,hkw,hrk,rowsL_dR hlt,rowsL_dR hkM,hz,hpz,fz,noname,dr,nolist]
    repeat' (first | omega | apply And.intro)
    refine Again.of (j+1) ⟨by omega,by omega,fun b h1 h2 => ?_⟩ (by omega) (SubI.slots rfl (by simp (disch:=omega) [wrapI]))
    rcases Nat.lt_succ_iff_lt_or_eq.1 h2 with h | rfl
    ·exact hJ b h1 h
    ·exact hz
   ·rw [odI_yes ⟨j,hkj,hlt2,hz⟩] at hI
    subst hI
    simp -implicitDefEqProofs [sc_s_l15Odd_L2,freeOk,hlt,hri,hlt2,hkM,hkw,hrk,rowsL_dR hlt,rowsL_dR hkM,hz,hpz,fz,noname,dr,nolist]
    repeat' (first | omega | apply And.intro)
    refine SubQ.of (l1:=[(4,.int .i64 (i:Int))]) (SubI.slots rfl (by simp)) ?_
    simp -implicitDefEqProofs
  ·rw [odI_no fun ⟨b,b1,b2,b3⟩=>b3 (hJ b b1 (by omega))] at hI
   simp -implicitDefEqProofs [sc_s_l15Odd_L2,hlt,hri,hlt2,rowsL_dR hlt]
   repeat' (first | omega | apply And.intro)
   refine SubQ.of (l1:=[(0,.list 1 (rowsL M)),(1,.int .i64 (k:Int)),(5,.int .i64 (i:Int))]) (SubI.slots rfl (by simp)) ?_
   simp -implicitDefEqProofs
   exact Again.of (i+1) ⟨by omega,by omega,hI⟩ (by omega) (SubI.slots rfl (by simp (disch:=omega) [wrapI]))
 ·have:R = -1:=by rw [← hI,show M.length-i=0 by omega]; rfl
  subst this
  simp -implicitDefEqProofs [sc_s_l15Odd_L0,hlt]
end Go.Proofs.YtkoljbncokmeaaaGreatDoor
