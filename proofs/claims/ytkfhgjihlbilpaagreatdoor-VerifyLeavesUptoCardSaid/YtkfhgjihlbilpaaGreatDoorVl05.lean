import Derived.Lib.ItoaMem
import Derived.Laws.Strings
import Derived.Shelf.Strings.Builder1
import Derived.Shelf.Strings.Builder2
import Derived.Shelf.Small.Strs
import Derived.Shelf.Small.Wraps
import Derived.Shelf.Strings.BuilderF
import Derived.Shelf.Strings.BuilderK
import Derived.Shelf.Strings.Builder2Cap
import Derived.Shelf.Strconv.Itoa0
import Derived.Shelf.Strconv.Itoa1
import Derived.Shelf.LaysM
import Derived.Shelf.Strconv.Itoa2
import Derived.Shelf.Strconv.Itoa3
import Derived.Shelf.Strings.Search1
import Derived.Shelf.Strings.Search2
import Derived.Shelf.Strings.Search3
import Derived.Shelf.Strings.Cut
import Derived.Shelf.Strings.Shaped
import Derived.Shelf.Strings.Prefix
import Derived.Shelf.Bits.Mul64
import Derived.Shelf.Strings.Repeat
import Derived.Shelf.Strings.BuilderCap
import Derived.Ground.Names2Prog
import Derived.Shelf.Slices.SearchI
import Derived.Test.YtkfhgjihlbilpaaGreatDoorProg
import Derived.WalkKit
import Derived.BigCall
import Derived.Deep.LoopGhost
import Derived.Deep.DeepFit
import Derived.Lib.SmallJoins
import Derived.Test.YtkfhgjihlbilpaaGreatDoorVl04
set_option linter.unusedSimpArgs false
set_option linter.unusedVariables false
set_option linter.defProp false
set_option maxRecDepth 100000
section
namespace Go.Nu
open Go Go.Lib
def ofL(b:Nat):List Nat->Nat
 | []=>0
 | x::r=>x+b*ofL b r
def Lim(b:Nat)(l:List Nat):Prop:=∀x∈l,x<b
def bB(b:Nat)(n:Nat):List Nat:=if h:n=0\/b<2 then[]else n%b::bB b (n/b)
termination_by n
decreasing_by exact Nat.div_lt_self (by omega) (by omega)
def pO:List Nat->List Nat
 | []=>[]
 | x::r=>match pO r with
   | []=>if x=0 then[]else[x]
   | y::t=>x::y::t
theorem tT(b:Nat):∀l r:List Nat,ofL b (l++r)=ofL b l+b^l.length*ofL b r
 | [],r=>by simp[ofL]
 | x::l,r=>by simp only[List.cons_append,ofL,tT b l r,List.length_cons,Nat.pow_succ,Nat.mul_add,Nat.add_assoc];rw[Nat.mul_comm (b^l.length) b,Nat.mul_assoc]
theorem xV(b:Nat)(l:List Nat)(x:Nat):ofL b (l++[x])=ofL b l+b^l.length*x:=by grind[tT,ofL]
theorem lE{b:Nat}(F:0<b):∀{l:List Nat},Lim b l->ofL b l<b^l.length
 | [],_=>by simp[ofL]
 | x::l,h=>by
  have h1:=h x (by simp);have A:=lE F (l:=l) fun y E=>h y (by simp[E])
  simp only[ofL,List.length_cons,Nat.pow_succ];have:b*(ofL b l+1)<=b*b^l.length:=Nat.mul_le_mul_left _ A;rw[Nat.mul_add]at this;rw[Nat.mul_comm (b^l.length) b];omega
theorem lT(b:Nat){l:List Nat}{k x:Nat}(h:l[k]?=some x):ofL b (l.take (k+1))=ofL b (l.take k)+b^k*x:=by grind[List.take_add_one,xV]
theorem PP(b:Nat):∀(l:List Nat) (k x v:Nat),l[k]?=some x->ofL b (l.set k v)+b^k*x=ofL b l+b^k*v
 | [],k,x,v,h=>by grind
 | y::l,0,x,v,h=>by simp only[List.getElem?_cons_zero,Option.some.injEq]at h;subst h;simp only[List.set_cons_zero,ofL,Nat.pow_zero,Nat.one_mul];omega
 | y::l,k+1,x,v,h=>by
  have:=PP b l k x v (by simpa using h);have A:b*(ofL b (l.set k v)+b^k*x)=b*(ofL b l+b^k*v):=by rw[this]
  simp only[List.set_cons_succ,ofL,Nat.pow_succ];rw[Nat.mul_add,Nat.mul_add,<-Nat.mul_assoc,<-Nat.mul_assoc]at A;rw[Nat.mul_comm (b^k) b];omega
def Oz(b n:Nat):ofL b (List.replicate n 0)=0:=by induction n<;>grind[ofL]
theorem eZ(b:Nat):bB b 0=[]:=by grind[bB]
theorem pB{b n:Nat}(E:2<=b)(A:n≠0):bB b n=n%b::bB b (n/b):=by rw[bB,dif_neg (by omega)]
theorem cL{b:Nat}(F:2<=b)(n:Nat):Lim b (bB b n):=by
 induction n using Nat.strongRecOn with
 | _ n ih=>
  by_cases E:n=0
  ·subst E;rw[eZ];intro x A;cases A
  ·rw[pB F E];intro x A;rcases List.mem_cons.1 A with rfl|A
   ·exact Nat.mod_lt _ (by omega)
   ·exact ih (n/b) (Nat.div_lt_self (by omega) (by omega)) x A
theorem cQ{b:Nat}(A:2<=b)(n:Nat):ofL b (bB b n)=n:=by induction n using Nat.strongRecOn<;>grind[eZ,pB,ofL,Nat.div_lt_self,Nat.mod_add_div]
theorem tB{b n:Nat}(A:2<=b):bB b n=[]↔n=0:=by
 constructor
 ·intro h;have:=cQ A n;rw[h]at this;exact this.symm
 grind[eZ]
def KZ{b x m:Nat}(E:2<=b)(A:x<b)(h:x+b*m≠0):bB b (x+b*m)=x::bB b m:=by rw[pB E h,Nat.add_mul_mod_self_left,Nat.mod_eq_of_lt A,Nat.add_mul_div_left _ _ (by omega),Nat.div_eq_of_lt A,Nat.zero_add]
theorem Kl{b:Nat}(A:2<=b):∀{l:List Nat},Lim b l->pO l=bB b (ofL b l)
 | [],_=>by rw[ofL,eZ];rfl
 | x::l,h=>by
  have ih:=Kl A (l:=l) fun y J=>h y (by grind)
  have F:=h x (by simp);rw[pO,ih];by_cases h0:ofL b l=0
  ·simp only[ofL,h0,eZ];by_cases E:x=0
   ·grind[eZ]
   ·rw[if_neg E,KZ A F (by omega),eZ]
  ·have I:bB b (ofL b l)≠[]:=fun e=>h0 ((tB A).1 e)
   rw[ofL,KZ A F (by have:0<b*ofL b l:=Nat.mul_pos (by omega) (by omega);omega)]
   grind
def P0{b:Nat}(E:2<=b){l:List Nat}{n:Nat}(h:Lim b l)(A:ofL b l=n):pO l=bB b n:=by grind[Kl]
def iZ{b:Nat}(E:2<=b){n k:Nat}(h:n<b^k):(bB b n).length<=k:=by
 induction k generalizing n with
 | zero=>simp_all[eZ]
 | succ k ih=>
  by_cases A:n=0
  ·grind
  grind[pB,Nat.div_lt_iff_lt_mul]
def Rg{b:Nat}(A:2<=b){n k:Nat}(h:b^k<=n):k<(bB b n).length:=by have h1:=lE (b:=b) (by omega) (cL A n);rw[cQ A]at h1;exact(Nat.pow_lt_pow_iff_right (by omega)).1 (Nat.lt_of_le_of_lt h h1)
theorem cO{b:Nat}(A:2<=b){m n:Nat}(h:m<=n):(bB b m).length<=(bB b n).length:=by
 refine iZ A ?_
 grind[lE,cL,cQ]
def YG{b:Nat}(E:2<=b){n:Nat}(A:n≠0):b^((bB b n).length-1)<=n:=by
 induction n using Nat.strongRecOn with
 | _ n ih=>
  rw[pB E A,List.length_cons,Nat.add_sub_cancel];by_cases h0:n/b=0
  ·rw[h0,eZ];simp;omega
  ·have:=ih (n/b) (Nat.div_lt_self (by omega) (by omega)) h0;have F:(bB b (n/b)).length=((bB b (n/b)).length-1)+1:=by grind[tB,List.length_pos_iff]
   rw[F,Nat.pow_succ];exact Nat.le_trans (Nat.mul_le_mul_right b this) (Nat.div_mul_le_self n b)
def Ox{b:Nat}(X:0<b){l r:List Nat}(U:Lim b l)(Z:Lim b r)(F:l.length=r.length){k x y:Nat}(E:l[k]?=some x)(J:r[k]?=some y)(A:x<y)(Y:l.drop (k+1)=r.drop (k+1)):ofL b l<ofL b r:=by
 have hk:k<l.length:=(List.getElem?_eq_some_iff.1 E).1;have T:l=l.take (k+1)++l.drop (k+1):=(List.take_append_drop _ _).symm;have I:r=r.take (k+1)++r.drop (k+1):=(List.take_append_drop _ _).symm;rw[T,I,tT,tT,Y,lT b E,lT b J,List.length_take,List.length_take,Nat.min_eq_left (by omega),Nat.min_eq_left (by omega)];have h1:=lE X (l:=l.take k) fun z O=>U z (List.mem_of_mem_take O)
 rw[List.length_take,Nat.min_eq_left (by omega)]at h1;have h2:b^k*(x+1)<=b^k*y:=Nat.mul_le_mul_left _ A
 grind
def On{b:Nat}(A:2<=b){m n:Nat}(h:(bB b m).length<(bB b n).length):m<n:=by grind[Nat.lt_or_ge,cO]
def JX{α:Type}{p:List α->Prop}(h0:p [])(h1:∀l c,p l->p (l++[c]))(l:List α):p l:=by
 have:∀r:List α,p r.reverse:=fun r=>by induction r<;>grind
 rw[<-List.reverse_reverse l]
 grind
def isD(c:UInt8):Bool:=decide (48<=c.toNat)&&decide (c.toNat<=57)
def lC(l:List UInt8):Nat:=l.foldl (fun a c=>10*a+(c.toNat-48)) 0
def fS(l:List UInt8):Bool:=l != []&&(l.length == 1||l.getD 0 0 != 48)&&l.all isD
def dec(n:Nat):ByteArray:=⟨(decDigits n).toArray⟩
theorem rI(l:List UInt8)(c:UInt8):lC (l++[c])=10*lC l+(c.toNat-48):=by simp[lC]
def aeH{α:Type}{l r:List α}{k:Nat}{d:α}(h:k<l.length):(l++r).getD k d=l.getD k d:=by grind
theorem qX{d:Nat}(h:d<10):(UInt8.ofNat (48+d)).toNat=48+d:=by grind[UInt8.toNat_ofNat']
theorem uH(n:Nat):lC (decDigits n)=n:=by induction n using Nat.strongRecOn<;>grind[decDigits,lC,qX]
theorem uE(n:Nat):(decDigits n).all isD=true:=by
 induction n using Nat.strongRecOn with
 | _ n ih=>
  rw[decDigits];split
  ·rename_i h;simp only[List.all_cons,List.all_nil,Bool.and_true,isD,qX h,Bool.and_eq_true,decide_eq_true_eq];omega
  ·rename_i h;rw[List.all_append,ih (n/10) (by omega)];simp only[List.all_cons,List.all_nil,Bool.and_true,Bool.true_and,isD,qX (show n%10<10 by omega),Bool.and_eq_true,decide_eq_true_eq];omega
theorem Y4(n:Nat):decDigits n≠[]:=by rw[decDigits];split <;> simp
theorem mX(n:Nat):0<(decDigits n).length:=List.length_pos_iff.2 (Y4 n)
theorem alP{n:Nat}(h:n≠0):(decDigits n).getD 0 0≠48:=by
 induction n using Nat.strongRecOn with
 | _ n ih=>
  rw[decDigits];split
  ·rename_i h1;simp only[List.getD_cons_zero];intro e;have:=qX h1;simp_all
  grind[mX]
theorem CQ{n:Nat}:(decDigits n).length=1↔n<10:=by grind[decDigits]
theorem aiA(n:Nat):fS (decDigits n)=true:=by
 unfold fS;simp only[Bool.and_eq_true,bne_iff_ne,ne_eq,Bool.or_eq_true,beq_iff_eq]
 grind[Y4,uE,CQ,alP]
theorem oB{c:UInt8}:isD c=true↔48<=c.toNat/\c.toNat<=57:=by simp[isD]
theorem alR{c:UInt8}(h:isD c=true):UInt8.ofNat (48+(c.toNat-48))=c:=by grind[oB,UInt8.ofNat_toNat]
def arT:∀{l:List UInt8},l.all isD=true->l≠[]->l.getD 0 0≠48->10^(l.length-1)<=lC l:=by
 intro l;induction l using JX with
 | h0=>simp
 | h1 l c ih=>
  intro A _ h0;rw[List.all_append]at A;simp only[Bool.and_eq_true,List.all_cons,List.all_nil,Bool.and_true]at A;rw[rI];by_cases E:l=[]
  ·subst E;simp only[List.nil_append,List.getD_cons_zero]at h0;simp only[List.nil_append,List.length_cons,List.length_nil,Nat.zero_add,Nat.sub_self,Nat.pow_zero];have:=oB.1 A.2;have h1:c.toNat≠48:=fun e=>h0 (UInt8.toNat.inj e)
   omega
  ·have F:=List.length_pos_iff.2 E;rw[aeH F]at h0;have:=ih A.1 E h0;simp only[List.length_append,List.length_cons,List.length_nil,Nat.zero_add,Nat.add_sub_cancel];rw[show l.length=(l.length-1)+1 by omega,Nat.pow_succ];omega
def PM:∀{l:List UInt8},fS l=true->decDigits (lC l)=l:=by
 intro l;induction l using JX with
 | h0=>grind[fS]
 | h1 l c ih=>
  intro h;unfold fS at h;simp only[Bool.and_eq_true,bne_iff_ne,ne_eq,Bool.or_eq_true,beq_iff_eq,List.all_append,List.all_cons,List.all_nil,Bool.and_true]at h;obtain⟨⟨_,h1⟩,I,A⟩:=h;have T:=oB.1 A;by_cases E:l=[]
  ·grind[lC,decDigits_one,alR]
  ·have O:=List.length_pos_iff.2 E;have h0:l.getD 0 0≠48:=by grind
   have F:=arT I E h0;have J:1<=lC l:=Nat.le_trans (Nat.one_le_pow _ _ (by omega)) F;rw[rI,decDigits,dif_neg (by omega)];rw[show(10*lC l+(c.toNat-48))/10=lC l by omega,show(10*lC l+(c.toNat-48))%10=c.toNat-48 by omega,alR A,ih];simp_all[fS]
theorem lP{n k:Nat}(A:1<=k):(decDigits n).length<=k↔n<10^k:=by
 rw[decDigits_length];constructor
 ·grind[Nat.lt_of_lt_of_le,lt_pow_nDigits,Nat.pow_le_pow_right]
 ·intro h;by_cases h0:n<10
  ·grind[nDigits_small]
  ·induction k generalizing n<;>grind[nDigits]
def bl(s:ByteArray):List UInt8:=s.data.toList
theorem mQ{a b:ByteArray}(h:bl a=bl b):a=b:=by cases a<;>simp_all[bl]
theorem eA(s:ByteArray):(bl s).length=s.size:=by rfl
def eqB(a b:ByteArray):Bool:=bl a == bl b
theorem nG{a b:ByteArray}:eqB a b=true↔a=b:=by
 unfold eqB;rw[beq_iff_eq]
 grind[mQ]
theorem pP{a b:ByteArray}:eqB a b=false↔a≠b:=by rw[<-Bool.not_eq_true,nG]
theorem mY(l:List UInt8):bl ⟨l.toArray⟩=l:=by rfl
theorem wJ(a b:ByteArray):bl (a++b)=bl a++bl b:=by rfl
theorem aCr(s:ByteArray):(⟨(bl s).toArray⟩:ByteArray)=s:=mQ (mY _)
def emp:ByteArray:=ByteArray.empty
def aBp:bl emp=[]:=rfl
theorem gW(s:ByteArray)(a b:Nat):bl (s.extract a b)=((bl s).take b).drop a:=by grind[bl,ByteArray.data_extract,Array.toList_extract,List.drop_take]
def aqO:Nat:=4096
def cN:Nat:=10^aqO
def ET{n k:Nat}(h:n<10^k)(A:k<=4096):n<cN:=Nat.lt_of_lt_of_le h (Nat.pow_le_pow_right (show 0<10 by omega) (show k<=aqO from A))
def avL:0<cN:=Nat.pow_pos (show 0<10 by omega)
def eQ(s:ByteArray):Bool:=fS (bl s)
def gU(s:ByteArray):Nat:=lC (bl s)
theorem kS(n:Nat):bl (dec n)=decDigits n:=mY _
theorem oS(n:Nat):eQ (dec n)=true:=by grind[eQ,kS,aiA]
theorem eG(n:Nat):gU (dec n)=n:=by grind[gU,kS,uH]
theorem kU{s:ByteArray}(h:eQ s=true):dec (gU s)=s:=mQ (by rw[kS];exact PM h)
theorem jY(n:Nat):(dec n).size=(decDigits n).length:=by rfl
theorem kW(n:Nat):(dec n).size<=4096↔n<cN:=by rw[jY];exact lP (k:=aqO) (by decide)
theorem E8{s:ByteArray}(h:eQ s=true):s.size<=4096↔gU s<cN:=by grind[kW,kU]
theorem tE{m n:Nat}:dec m=dec n↔m=n:=⟨fun h=>by grind[eG],fun h=>by rw[h]⟩
def szN(n:Nat):ByteArray×Int:=if n<cN then(dec n,0)else(emp,4)
def kY(a b:ByteArray):Int:=if(!eQ a|| !eQ b)=true then 3 else if(decide (a.size>4096)||decide (b.size>4096))=true then 4 else 0
def WJ(a b:ByteArray):ByteArray×Int:=if kY a b=0 then szN (gU a+gU b)else(emp,kY a b)
def W8(a b:ByteArray):ByteArray×Int:=if kY a b=0 then(if gU a<gU b then(emp,2)else szN (gU a-gU b))else(emp,kY a b)
def Yc(a b:ByteArray):ByteArray×Int:=if kY a b=0 then szN (gU a*gU b)else(emp,kY a b)
def Fl(a b:ByteArray):ByteArray×ByteArray×Int:=if kY a b=0 then(if gU b=0 then(emp,emp,10)else(dec (gU a/gU b),dec (gU a%gU b),0))else(emp,emp,kY a b)
def Ce(a b:ByteArray):ByteArray×Int:=if kY a b=0 then szN (Nat.gcd (gU a) (gU b))else(emp,kY a b)
def JS{a b:ByteArray}(E:eQ a=true)(A:eQ b=true)(F:a.size<=4096)(I:b.size<=4096):kY a b=0:=by grind[kY]
def AS{m n:Nat}(E:m<cN)(A:n<cN):kY (dec m) (dec n)=0:=JS (oS m) (oS n) ((kW m).2 E) ((kW n).2 A)
def sX{a b:ByteArray}(h:kY a b=0):∃m n,a=dec m/\b=dec n/\m<cN/\n<cN:=by
 unfold kY at h;split at h
 ·cases h
 ·rename_i h1;split at h
  ·cases h
  ·rename_i A;simp only[Bool.or_eq_true,Bool.not_eq_true',not_or,Bool.not_eq_false,decide_eq_true_eq,Nat.not_lt]at h1 A
   grind[kU,E8]
def Bt{n:Nat}(h:n<cN):szN n=(dec n,0):=if_pos h
def iI(s:ByteArray):Bool:=(bl s).head? == some 45
def gG(s:ByteArray):ByteArray:=if iI s=true then⟨((bl s).drop 1).toArray⟩else s
def fN(s:ByteArray):Bool:=eQ (gG s)&& !(iI s&&eqB (gG s) (dec 0))
def jC(s:ByteArray):Int:=if iI s=true then -(gU (gG s):Int)else gU (gG s)
def zed(n:Int):ByteArray:=⟨(itoa n).toArray⟩
theorem dH(n:Nat):zed n=dec n:=by rfl
theorem F4{n:Nat}(h:1<=n):zed (-(n:Int))=⟨((45:UInt8)::decDigits n).toArray⟩:=by grind[zed,itoa_neg]
theorem FB(n:Nat):iI (dec n)=false:=by
 unfold iI;rw[kS];have h1:=uE n;have A:=Y4 n;cases h:decDigits n with
 | nil=>rfl
 | cons c r=>rw[h]at h1;simp only[List.all_cons,Bool.and_eq_true]at h1;have:=oB.1 h1.1;simp only[List.head?_cons,beq_eq_false_iff_ne,ne_eq,Option.some.injEq];intro e;simp_all
theorem UM(n:Nat):gG (dec n)=dec n:=by grind[gG,FB]
theorem Wo(l:List UInt8):iI ⟨((45:UInt8)::l).toArray⟩=true:=by rfl
def aeF(l:List UInt8):gG ⟨((45:UInt8)::l).toArray⟩=⟨l.toArray⟩:=by rfl
theorem xQ(n:Int):iI (zed n)=decide (n<0):=by
 rcases Int.lt_or_le n 0 with h|h
 ·obtain⟨m,rfl⟩:∃m:Nat,n= -(m:Int):=⟨n.natAbs,by omega⟩
  grind[F4,Wo]
 ·obtain⟨m,rfl⟩:∃m:Nat,n=m:=⟨n.toNat,by omega⟩
  grind[dH,FB]
theorem lK(n:Int):gG (zed n)=dec n.natAbs:=by
 rcases Int.lt_or_le n 0 with h|h
 ·obtain⟨m,rfl⟩:∃m:Nat,n= -(m:Int):=⟨n.natAbs,by omega⟩;rw[F4 (by omega),aeF,Int.natAbs_neg,Int.natAbs_natCast];rfl
 grind[dH,UM]
theorem xF(n:Int):fN (zed n)=true:=by
 unfold fN;rw[lK,xQ,oS];simp only[Bool.true_and,Bool.not_eq_true',Bool.and_eq_false_iff,decide_eq_false_iff_not]
 grind[pP,tE]
theorem cV(n:Int):jC (zed n)=n:=by
 unfold jC;rw[lK,xQ,eG]
 grind
theorem xR{s:ByteArray}(h:fN s=true):zed (jC s)=s:=by
 unfold fN at h;simp only[Bool.and_eq_true,Bool.not_eq_true',Bool.and_eq_false_iff]at h;obtain⟨h1,J⟩:=h;have F:=kU h1;unfold jC;by_cases A:iI s=true
 ·have I:gG s≠dec 0:=by grind[pP]
  rw[if_pos A];have E:1<=gU (gG s):=by grind
  rw[F4 E];refine mQ ?_;rw[mY,<-kS,F];unfold gG;rw[if_pos A,mY];unfold iI at A;cases O:bl s<;>grind
 simp_all[dH,gG]
def akL{m n:Int}:zed m=zed n↔m=n:=⟨fun h=>by grind[cV],fun h=>by rw[h]⟩
def szZ(n:Int):ByteArray×Int:=if n.natAbs<cN then(zed n,0)else(emp,4)
def lX(a b:ByteArray):Int:=if(!fN a|| !fN b)=true then 3 else if(decide ((gG a).size>4096)||decide ((gG b).size>4096))=true then 4 else 0
def Fg(a b:ByteArray):ByteArray×Int:=if lX a b=0 then szZ (jC a+jC b)else(emp,lX a b)
def zR(a b:ByteArray):ByteArray×Int:=if lX a b=0 then szZ (jC a*jC b)else(emp,lX a b)
def nE(a b:ByteArray):ByteArray×ByteArray×Int:=if lX a b=0 then(if jC b=0 then(emp,emp,10)else(zed ((jC a).fdiv (jC b)),zed ((jC a).fmod (jC b)),0))else(emp,emp,lX a b)
def iH(a b:Int):Int:=if a<b then -1 else if b<a then 1 else 0
def TW(a b:ByteArray):Int:=if fN a=true/\fN b=true then iH (jC a) (jC b)else 0
def CL(a:ByteArray):Int:=if fN a=true then(jC a).sign else 0
def sC{m n:Int}(E:m.natAbs<cN)(A:n.natAbs<cN):lX (zed m) (zed n)=0:=by grind[lX,xF,lK,kW]
theorem tF{a b:ByteArray}(h:lX a b=0):∃m n:Int,a=zed m/\b=zed n/\m.natAbs<cN/\n.natAbs<cN:=by
 unfold lX at h;split at h
 ·cases h
 ·rename_i h1;split at h
  ·cases h
  ·rename_i A;simp only[Bool.or_eq_true,Bool.not_eq_true',not_or,Bool.not_eq_false,decide_eq_true_eq,Nat.not_lt]at h1 A;have F:=xR h1.1;have E:=xR h1.2
   grind[lK,kW]
def gC:UInt8:=47
def mV(s:ByteArray):Bool:=(bl s).any (· == gC)
def hJ(s:ByteArray):ByteArray:=⟨((bl s).takeWhile (· != gC)).toArray⟩
def iF(s:ByteArray):ByteArray:=if mV s=true then⟨(((bl s).dropWhile (· != gC)).drop 1).toArray⟩else dec 1
def bZ(s:ByteArray):Bool:=(fN (hJ s)&&eQ (iF s)&&decide ((gG (hJ s)).size<=4096)&&decide ((iF s).size<=4096)) &&
 (!mV s||(!eqB (iF s) (dec 0)&& !eqB (iF s) (dec 1)&& !eqB (hJ s) (dec 0)&&Nat.gcd (jC (hJ s)).natAbs (gU (iF s)) == 1))
def FE(s:ByteArray):Rat:=mkRat (jC (hJ s)) (gU (iF s))
def slB:ByteArray:=⟨#[47]⟩
def qU(x:Rat):ByteArray:=if x.den=1 then zed x.num else zed x.num++slB++dec x.den
def vG(x:Rat):Prop:=x.num.natAbs<cN/\x.den<cN
theorem BD{α:Type}{p:α->Bool}:∀{l:List α},(∀c∈l,p c=true)->l.takeWhile p=l
 | [],_=>rfl
 | a::l,h=>by rw[List.takeWhile_cons,if_pos (h a (by simp)),BD fun c A=>h c (by simp[A])]
theorem HD{α:Type}{p:α->Bool}:∀{l:List α} {c:α},c∈l.takeWhile p->p c=true
 | [],c,h=>by simp at h
 | a::l,c,h=>by
  rw[List.takeWhile_cons]at h;split at h
  ·rename_i A;rcases List.mem_cons.1 h with rfl|h
   ·exact A
   ·exact HD h
  ·cases h
def RI{c:UInt8}(h:isD c=true):(c != gC)=true:=by have:=oB.1 h;simp only[bne_iff_ne,ne_eq];intro e;simp_all[gC]
theorem Ig(n:Nat):∀c∈decDigits n,(c != gC)=true:=fun c A=>RI (List.all_eq_true.1 (uE n) c A)
theorem Bk(n:Int):∀c∈itoa n,(c != gC)=true:=by
 intro c A;unfold itoa at A;split at A
 ·rcases List.mem_cons.1 A with rfl|A
  ·decide
  grind[Ig]
 grind[Ig]
theorem WN(n:Int):bl (zed n)=itoa n:=mY _
theorem aAq:bl slB=[gC]:=rfl
theorem O6{l r:List UInt8}(h:∀c∈l,(c != gC)=true):(l++gC::r).takeWhile (· != gC)=l:=by simp_all
theorem OP{l r:List UInt8}(h:∀c∈l,(c != gC)=true):(l++gC::r).dropWhile (· != gC)=gC::r:=by simp_all
def J9{l:List UInt8}(h:∀c∈l,(c != gC)=true):l.any (· == gC)=false:=by grind
theorem JE(x:Rat):bl (qU x)=if x.den=1 then itoa x.num else itoa x.num++gC::decDigits x.den:=by grind[qU,WN,wJ,kS,aAq]
def J5(x:Rat):mV (qU x)= !(x.den == 1):=by grind[mV,JE,Bk]
theorem OX(x:Rat):hJ (qU x)=zed x.num:=by grind[mQ,hJ,mY,JE,WN,BD,Bk,O6]
theorem NQ(x:Rat):iF (qU x)=dec x.den:=by
 unfold iF;rw[J5,JE];by_cases h:x.den=1
 ·simp[h]
 ·simp only[h,beq_eq_false_iff_ne.2 h,Bool.not_false,if_true,if_false];rw[OP (Bk _)];rfl
theorem gY(x:Rat):FE (qU x)=x:=by grind[FE,OX,NQ,cV,eG,Rat.mkRat_self]
theorem tJ(n:Int):(gG (zed n)).size<=4096↔n.natAbs<cN:=by grind[lK,kW]
def rA{x:Rat}(h:vG x):bZ (qU x)=true:=by
 unfold bZ;rw[OX,NQ,xF,oS,J5,cV,eG];simp only[Bool.true_and,Bool.and_eq_true,decide_eq_true_eq,Bool.or_eq_true,Bool.not_not,beq_iff_eq,Bool.not_eq_true',pP,ne_eq];refine⟨⟨(tJ _).2 h.1,(kW _).2 h.2⟩,?_⟩;by_cases h1:x.den=1
 ·omega
 ·refine .inr ⟨⟨⟨?_,?_⟩,?_⟩,x.reduced⟩
  ·rw[tE];exact x.den_nz
  ·grind[tE]
  ·rw[<-dH,akL];intro h0;simp_all
theorem fH{s:ByteArray}(h:bZ s=true):∃x:Rat,s=qU x/\vG x/\hJ s=zed x.num/\iF s=dec x.den:=by
 unfold bZ at h;simp only[Bool.and_eq_true,decide_eq_true_eq,Bool.or_eq_true,Bool.not_eq_true',pP,ne_eq,beq_iff_eq]at h;obtain⟨⟨⟨⟨h1,Y⟩,h3⟩,h4⟩,T⟩:=h;have X:=xR h1;have eq:=kU Y;have A:(jC (hJ s)).natAbs.Coprime (gU (iF s))/\gU (iF s)≠0:=by
  rcases T with T|⟨⟨⟨h6,_⟩,_⟩,Z⟩
  ·have E:iF s=dec 1:=by simp_all[iF]
   grind[eG,Nat.coprime_one_right]
  grind
 let x:Rat:=⟨jC (hJ s),gU (iF s),A.2,A.1⟩
 have E:hJ s=zed x.num:=X.symm;have F:iF s=dec x.den:=eq.symm;refine⟨x,mQ ?_,⟨?_,?_⟩,E,F⟩
 ·rw[JE];have O:bl (hJ s)=(bl s).takeWhile (· != gC):=mY _;rw[E,WN]at O;by_cases J:mV s=true
  ·have U:bl (iF s)=((bl s).dropWhile (· != gC)).drop 1:=by unfold iF;rw[if_pos J,mY]
   rw[F,kS]at U;have I:x.den≠1:=fun e=>by grind
   rw[if_neg I,O,U]
   conv=>lhs;rw[<-List.takeWhile_append_dropWhile (p:=(· != gC)) (l:=bl s)]
   congr 1
   cases hw:(bl s).dropWhile (· != gC)<;>grind[mV,List.takeWhile_append_dropWhile,HD,List.head?_dropWhile_not]
  ·have J:mV s=false:=by grind
   have I:x.den=1:=by grind[iF,tE]
   simp_all[BD,mV]
 all_goals grind[tJ,kW]
def alB{x y:Rat}:qU x=qU y↔x=y:=⟨fun h=>by grind[gY],fun h=>by rw[h]⟩
def qD(n:Int):Bool:= !decide (n.natAbs<cN)
def rM(x y:Rat):ByteArray×Int:=if(qD (x.num*y.den)||qD (y.num*x.den)||qD (x.num*y.den+y.num*x.den)||qD (x.den*y.den))=true then(emp,4)else(qU (x+y),0)
def Az(a b:ByteArray):ByteArray×Int:=if(bZ a&&bZ b)=true then rM (FE a) (FE b)else(emp,3)
def subR(a b:ByteArray):ByteArray×Int:=if(bZ a&&bZ b)=true then rM (FE a) (-FE b)else(emp,3)
def Ip(x y:Rat):ByteArray×Int:=if(qD (x.num*y.num)||qD (x.den*y.den))=true then(emp,4)else(qU (x*y),0)
def yE(a b:ByteArray):ByteArray×Int:=if(bZ a&&bZ b)=true then Ip (FE a) (FE b)else(emp,3)
def VC(x y:Rat):Int:=if x<y then -1 else if y<x then 1 else 0
def zX(a b:ByteArray):Int:=if(bZ a&&bZ b)=true then VC (FE a) (FE b)else 0
def yY(a:ByteArray):Int:=if bZ a=true then(FE a).num.sign else 0
def Zw{n:Int}{d:Nat}(A:d≠0):n.fdiv (Nat.gcd n.natAbs d:Nat)=(mkRat n d).num:=by simp_all[Rat.num_mkRat,Nat.gcd_comm,Int.fdiv_eq_ediv_of_nonneg]
def ZH{n:Int}{d:Nat}(A:d≠0):(d:Int).fdiv (Nat.gcd n.natAbs d:Nat)=((mkRat n d).den:Int):=by simp_all[Rat.den_mkRat,Nat.gcd_comm,Int.fdiv_eq_ediv_of_nonneg]
def F0{n:Int}{d:Nat}(E:d≠0)(F:n.natAbs<cN)(A:d<cN):vG (mkRat n d):=by
 constructor
 ·rw[Rat.num_mkRat,if_neg E];have:(n/((d.gcd n.natAbs:Nat):Int)).natAbs<=n.natAbs:=by simp[Int.natAbs_ediv_of_dvd,Nat.div_le_self,Int.ofNat_dvd_left,Nat.gcd_dvd_right]
  omega
 ·rw[Rat.den_mkRat,if_neg E];exact Nat.lt_of_le_of_lt (Nat.div_le_self _ _) A
def aaP{n:Int}{d:Nat}(A:d≠0):0<Nat.gcd n.natAbs d:=Nat.gcd_pos_of_pos_right _ (by omega)
def NA{n:Int}{d:Nat}(A:d≠0)(h:d<cN):Nat.gcd n.natAbs d<cN:=Nat.lt_of_le_of_lt (Nat.gcd_le_right _ (by omega)) h
theorem iU{n:Int}:qD n=false↔n.natAbs<cN:=by simp[qD]
def X5(x y:Rat):x+y=mkRat (x.num*y.den+y.num*x.den) (x.den*y.den):=Rat.add_def' x y
def YI(x y:Rat):x*y=mkRat (x.num*y.num) (x.den*y.den):=Rat.mul_def' x y
def JC(x y:Rat):((x.den:Int)*y.den).natAbs=x.den*y.den:=by rfl
def Hu(x y:Rat):x.den*y.den≠0:=Nat.mul_ne_zero x.den_nz y.den_nz
def V9{x y:Rat}(h:(rM x y).2=0):rM x y=(qU (x+y),0)/\vG (x+y):=by
 unfold rM at h |-;split at h
 all_goals simp_all[iU,X5,F0,Hu,JC]
def Vx{x y:Rat}(h:(Ip x y).2=0):Ip x y=(qU (x*y),0)/\vG (x*y):=by
 unfold Ip at h |-;split at h
 all_goals simp_all[iU,YI,F0,Hu,JC]
def Jh(p q r s:Int):Int:=iH (p*s) (r*q)
def sI{p q:Int}(A:0<q):p=p.fdiv q*q+p.fmod q/\0<=p.fmod q/\p.fmod q<q:=
 ⟨by simp[Int.mul_comm,Int.mul_fdiv_add_fmod],Int.fmod_nonneg_of_pos _ A,Int.fmod_lt_of_pos _ A⟩
theorem mB{a b:Int}(h:a<b):iH a b= -1:=if_pos h
theorem lZ{a b:Int}(h:b<a):iH a b=1:=by unfold iH;omega
theorem vT{a b:Int}(h:a=b):iH a b=0:=by simp_all[iH]
theorem GE{a b:Int}:iH a b=0↔a=b:=by unfold iH;omega
theorem adF(a b:Int):iH b a= -iH a b:=by grind[mB,lZ,vT]
def aqI{p q r s:Int}(E:0<q)(A:0<s)(h:p.fdiv q<r.fdiv s):p*s<r*q:=by
 obtain⟨U,a1,T⟩:=sI (p:=p) E;obtain⟨I,a2,J⟩:=sI (p:=r) A;have h1:p*s<(p.fdiv q+1)*q*s:=by
  refine Int.mul_lt_mul_of_pos_right ?_ A
  grind
 have O:(p.fdiv q+1)*q*s<=r.fdiv s*q*s:=Int.mul_le_mul_of_nonneg_right (Int.mul_le_mul_of_nonneg_right (by omega) (by omega)) (by omega);have F:r.fdiv s*q*s<=r*q:=by rw[Int.mul_right_comm];exact Int.mul_le_mul_of_nonneg_right (by omega) (by omega)
 omega
theorem KE{p q r s:Int}(A:0<q)(E:0<s)(h:p.fdiv q≠r.fdiv s):Jh p q r s=iH (p.fdiv q) (r.fdiv s):=by
 unfold Jh;rcases Int.lt_or_gt_of_ne h with h|h
 all_goals simp_all[mB,aqI,lZ]
def NK{p q r s:Int}(A:0<q)(E:0<s)(h:p.fdiv q=r.fdiv s):Jh p q r s=iH (p.fmod q*s) (r.fmod s*q):=by
 obtain⟨J,_,_⟩:=sI (p:=p) A;obtain⟨F,_,_⟩:=sI (p:=r) E;unfold Jh;have h1:p*s=p.fdiv q*q*s+p.fmod q*s:=by grind
 have I:r*q=p.fdiv q*q*s+r.fmod s*q:=by grind
 grind[iH]
theorem Pt(x q y s:Int):iH (x*s) (y*q)= -Jh q x s y:=by grind[Jh,adF]
def P3(x y:Rat):VC x y=Jh x.num x.den y.num y.den:=by grind[VC,Jh,iH,Rat.lt_iff]
def amH(n:Int):n.sign=iH n 0:=by
 rcases Int.lt_trichotomy n 0 with h|h|h
 ·rw[mB h,Int.sign_eq_neg_one_of_neg h]
 ·subst h;rfl
 grind[lZ]
theorem ahP(x:Rat):VC x 0=x.num.sign:=by simp[P3,amH,Jh]
theorem DI(b:Nat)(l:List Nat)(k:Nat):ofL b (l.take (k+1))=ofL b (l.take k)+b^k*l.getD k 0:=by grind[List.take_of_length_le,lT]
def Lim.getD{b:Nat}(E:0<b){l:List Nat}(h:Lim b l)(k:Nat):l.getD k 0<b:=by
 cases A:l[k]? with
 | none=>grind
 | some x=>simpa[List.getD,A]using h x (List.mem_of_getElem? A)
def Lim.snoc{b:Nat}{l:List Nat}(h:Lim b l){x:Nat}(E:x<b):Lim b (l++[x]):=fun y A=>by
 rcases List.mem_append.1 A with A|A
 ·exact h y A
 grind
def Lim.set{b:Nat}{l:List Nat}(h:Lim b l){x k:Nat}(E:x<b):Lim b (l.set k x):=fun y A=>by
 rcases List.mem_or_eq_of_mem_set A with A|rfl
 ·exact h y A
 omega
def Lim.take{b:Nat}{l:List Nat}(h:Lim b l)(k:Nat):Lim b (l.take k):=fun y A=>h y (List.mem_of_mem_take A)
def Lim.drop{b:Nat}{l:List Nat}(h:Lim b l)(k:Nat):Lim b (l.drop k):=fun y A=>h y (List.mem_of_mem_drop A)
def Lim.zeros{b:Nat}(E:0<b)(n:Nat):Lim b (List.replicate n 0):=fun y A=>by grind
theorem Gv(b:Nat){l:List Nat}{k x:Nat}(h:l[k]?=some x):ofL b (l.drop k)=x+b*ofL b (l.drop (k+1)):=by grind[List.drop_eq_getElem_cons,ofL]
def YN{b:Nat}(F:0<b){l o:List Nat}{i n k c:Nat}(E:l[i]?=some n)(A:o.length=i)(h:ofL b o+b^i*c=ofL b (l.take i)*k):
 ofL b (o++[(n*k+c)%b])+b^(i+1)*((n*k+c)/b)=ofL b (l.take (i+1))*k:=by grind[xV,lT,Nat.mod_add_div]
def Uc{b:Nat}(E:0<b){x y o:List Nat}{i c:Nat}(A:o.length=i)(h:ofL b o+b^i*c=ofL b (x.take i)+ofL b (y.take i)):
 ofL b (o++[(x.getD i 0+y.getD i 0+c)%b])+b^(i+1)*((x.getD i 0+y.getD i 0+c)/b)=ofL b (x.take (i+1))+ofL b (y.take (i+1)):=by grind[xV,DI,Nat.mod_add_div]
def EZ{b:Nat}{x y o:List Nat}{i c c' d:Nat}(A:o.length=i)(h:ofL b o+ofL b (y.take i)=ofL b (x.take i)+b^i*c)(E:d+y.getD i 0+c=x.getD i 0+b*c'):
 ofL b (o++[d])+ofL b (y.take (i+1))=ofL b (x.take (i+1))+b^(i+1)*c':=by grind[xV,DI]
def Io{b x y c:Nat}(A:x<b)(E:y<b)(F:c<=1):(if(x:Int)-y-c<0 then(x:Int)-y-c+b else(x:Int)-y-c)=((if x<y+c then x+b-(y+c)else x-(y+c):Nat):Int):=by grind
def A9{b x y c:Nat}(A:x<b)(E:y<b)(F:c<=1):(if x<y+c then x+b-(y+c)else x-(y+c))+y+c=x+b*(if x<y+c then 1 else 0)/\(if x<y+c then x+b-(y+c)else x-(y+c))<b:=by grind
def HE{b:Nat}(U:2<=b){x y o:List Nat}{c:Nat}(J:Lim b o)(T:Lim b x)(F:o.length=x.length)(A:y.length<=x.length)(I:ofL b y<=ofL b x)(O:c<=1)(h:ofL b o+ofL b (y.take x.length)=ofL b (x.take x.length)+b^x.length*c):
  c=0/\ofL b o=ofL b x-ofL b y:=by
 rw[List.take_of_length_le A,List.take_length]at h;have h1:=lE (by omega) J;rw[F]at h1;rcases Nat.eq_zero_or_pos c with E|E
 all_goals grind
theorem Vn{b:Nat}(J:0<b){y out A:List Nat}{i k x c v E:Nat}(F:out[i+k]?=some v)(I:y[k]?=some E)(h:ofL b out+b^(i+k)*c=ofL b A+b^i*(x*ofL b (y.take k))):
 ofL b (out.set (i+k) ((v+x*E+c)%b))+b^(i+(k+1))*((v+x*E+c)/b)=ofL b A+b^i*(x*ofL b (y.take (k+1))):=by grind[PP,Nat.mod_add_div,lT]
theorem Zq{b:Nat}{y out A:List Nat}{i x c:Nat}(E:out[i+y.length]?=some 0)(h:ofL b out+b^(i+y.length)*c=ofL b A+b^i*(x*ofL b (y.take y.length))):
 ofL b (out.set (i+y.length) c)=ofL b A+b^i*(x*ofL b y):=by grind[PP]
def Tc{b r a:Nat}(U:2<=b){l:List Nat}{i x:Nat}{A:List Nat}(J:l[i]?=some x)(F:x<b)(I:r<a)(O:i<A.length)(h:ofL b (l.drop (i+1))=ofL b (A.drop (i+1))*a+r):
  ofL b (l.drop i)=ofL b ((A.set i ((x+b*r)/a)).drop i)*a+(x+b*r)%a/\(x+b*r)/a<b/\(x+b*r)%a<a:=by
 have E:0<a:=by omega
 have T:(A.set i ((x+b*r)/a))[i]?=some ((x+b*r)/a):=by grind
 refine⟨?_,?_,Nat.mod_lt _ E⟩
 ·grind[Gv,List.drop_set_of_lt,Nat.mod_add_div]
 ·rw[Nat.div_lt_iff_lt_mul E];have:b*(r+1)<=b*a:=Nat.mul_le_mul_left _ I
  grind
def avS{q r a n:Nat}(A:r<a)(h:n=q*a+r):q=n/a/\r=n%a:=by
 subst h;have E:0<a:=by omega
 simp_all[Nat.add_comm,Nat.add_mul_div_right,Nat.mod_eq_of_lt]
theorem amG(l:List UInt8):∀a:Nat,l.foldl (fun a c=>10*a+(c.toNat-48)) a=a*10^l.length+lC l:=by induction l<;>grind[lC]
def C4(a b:List UInt8):lC (a++b)=lC a*10^b.length+lC b:=by grind[lC,amG]
def JK{l:List UInt8}(h:l.all isD=true):lC l<10^l.length:=by
 induction l using JX with
 | h0=>simp[lC]
 | h1 l c ih=>
  rw[List.all_append]at h;simp only[Bool.and_eq_true,List.all_cons,List.all_nil,Bool.and_true]at h
  grind[oB,rI]
def T8:Nat->Nat->List UInt8
 | 0,_=>[]
 | k+1,x=>T8 k (x/10)++[UInt8.ofNat (48+x%10)]
def Pk:∀(k x m:Nat),x<10^k->m≠0->decDigits (x+10^k*m)=decDigits m++T8 k x
 | 0,x,m,hx,hm=>by grind[T8]
 | k+1,x,m,hx,hm=>by
  rw[Nat.pow_succ]at hx;have h1:10^(k+1)*m=10*(10^k*m):=by grind
  have A:0<10^k*m:=Nat.mul_pos (Nat.pow_pos (by omega)) (by omega);rw[h1,decDigits,dif_neg (by omega),show(x+10*(10^k*m))/10=x/10+10^k*m by omega,show(x+10*(10^k*m))%10=x%10 by omega,Pk k (x/10) m (by omega) hm,T8,List.append_assoc]
def adJ(k:Nat):T8 k 0=List.replicate k 48:=by induction k<;>grind[T8,List.replicate_succ']
def acL:∀(k x:Nat),1<=k->x<10^k->T8 k x=List.replicate (k-(decDigits x).length) 48++decDigits x
 | 0,x,hk,hx=>by omega
 | k+1,x,hk,hx=>by
  rw[T8];by_cases E:x<10
  ·rw[show x/10=0 by omega,adJ,decDigits_one E]
   grind
  ·have A:1<=k:=by grind
   rw[Nat.pow_succ]at hx;rw[acL k (x/10) A (by omega)]
   conv=>rhs;rw[decDigits,dif_neg E]
   simp
def aB4(x:Nat):List UInt8:=List.replicate (9-(decDigits x).length) 48++decDigits x
theorem akZ{x m:Nat}(A:x<1000000000)(E:m≠0):decDigits (x+1000000000*m)=decDigits m++aB4 x:=by have:=Pk 9 x m A E;rw[acL 9 x (by omega) A]at this;exact this
theorem aoK{b:Nat}(A:2<=b){n k:Nat}(J:k<(bB b n).length):ofL b ((bB b n).drop k)≠0:=by
 intro h;have I:n≠0:=fun e=>by grind[eZ]
 have h1:=YG A I;have E:ofL b (bB b n)=ofL b ((bB b n).take k)+b^k*ofL b ((bB b n).drop k):=by grind[tT,List.take_append_drop]
 rw[cQ A,h,Nat.mul_zero,Nat.add_zero]at E;have F:=lE (b:=b) (by omega) ((cL A n).take k);rw[List.length_take,Nat.min_eq_left (by omega),<-E]at F;have:b^k<=b^((bB b n).length-1):=Nat.pow_le_pow_right (by omega) (by omega);omega
def dl(l:List UInt8):List Nat:=(l.map fun c=>c.toNat-48).reverse
theorem Kq(l:List UInt8):(dl l).length=l.length:=by simp[dl]
theorem Y3(l:List UInt8):ofL 10 (dl l)=lC l:=by
 induction l using JX with
 | h0=>rfl
 | h1 l c ih=>
  rw[rI,<-ih]
  grind[dl,ofL]
def V2{l:List UInt8}(h:l.all isD=true):Lim 10 (dl l):=by
 intro x A
 grind[dl,oB]
def txt(l:List Nat):List UInt8:=(l.map fun x=>UInt8.ofNat (48+x)).reverse
theorem axH{l:List Nat}(h:Lim 10 l):(txt l).all isD=true:=by
 rw[List.all_eq_true];intro c A;simp only[txt,List.mem_reverse,List.mem_map]at A;obtain⟨x,E,rfl⟩:=A;have:=h x E
 grind[oB,qX]
theorem aBa{l:List Nat}(h:Lim 10 l):dl (txt l)=l:=by
 simp only[dl,txt,List.map_reverse,List.reverse_reverse,List.map_map]
 conv=>rhs;rw[<-List.map_id l]
 refine List.map_congr_left fun x A=>?_
 simp only[Function.comp,qX (h x A),id];omega
theorem anR{l:List Nat}(h:Lim 10 l):lC (txt l)=ofL 10 l:=by grind[Y3,aBa]
def GV{n:Nat}(A:n≠0):txt (bB 10 n)=decDigits n:=by induction n using Nat.strongRecOn<;>grind[pB,decDigits,txt,eZ]
end Go.Nu
end
section
namespace Go.Aw
open Go.RowKit
section
variable{P:Program}{S:Sg}{w:World}{H:aM}{f:FuncId}{args args':List AV}{K:AV->aM->Prop}
def St.frz(I:St S w H)(l:List Nat):St (S.froze fun k=>if k∈l then H k else none) w (fun k=>if k∈l then none else H k)/\Grow S w (S.froze fun k=>if k∈l then H k else none) w/\St S w fun k=>if k∈l then H k else none:=by
 let Hf:aM:=fun k=>if k∈l then H k else none
 let Hr:aM:=fun k=>if k∈l then none else H k
 have J:∀k r',Hf k=some r'->k∈l/\H k=some r':=fun k r' A=>by grind
 have F:∀k r',Hr k=some r'->¬k∈l/\H k=some r':=fun k r' A=>by grind
 refine⟨⟨?_,?_,fun k r' A=>(I.rows k r' (F k r' A).2).keep (S.le_froze Hf) (iT.refl S w) (fun _ _=>rfl),?_,fun k k' X r2 A T U g E O=>I.disj k k' X r2 (F k X A).2 (F k' r2 T).2 U g E O,I.tabs.keep (S.le_froze Hf) (iT.refl S w)⟩,⟨S.le_froze Hf,fun k A=>.inl A,rfl,rfl,rfl,Nat.le_refl _,fun _ _=>rfl,?_⟩,I.drop fun k r' A=>(J k r' A).2⟩
 ·rintro g (E|E)
  ·exact .inl (I.ι g E)
  ·exact .inr E
 ·rintro g (E|⟨k,r',A,E⟩)
  ·exact I.l9 g E
  ·exact(I.rows k r' (J k r' A).2).block_lt E
 ·rintro k r' A g E (h1|⟨i,r2,Y,Z⟩)
  ·exact I.free k r' (F k r' A).2 g E h1
  ·exact I.disj k i r' r2 (F k r' A).2 (J i r2 Y).2 (fun e=>(F k r' A).1 (e▸(J i r2 Y).1)) g E Z
 ·rintro g (E|⟨k,r',A,E⟩)
  ·grind
  ·exact .inr (I.free k r' (J k r' A).2 g E)
def bQ.frz(l:List Nat)(E:ConvL (fun k=>if k∈l then H k else none) args args')(h:bQ P f args' (fun k=>if k∈l then none else H k) K):bQ P f args H K:=by
 intro S w vals I F;obtain⟨h1,Z,T⟩:=I.frz l;refine(h _ w vals h1 (E.rep T F)).mono fun e w' ⟨v,r,H',S',O,Y,A,U,X,J⟩=>⟨v,r,H',S',O,Y,A,U,Z.trans X,fun k hk h0=>J k hk ?_⟩
 grind
def PC.useF{r:AV}(l:List Nat)(A:ConvL (fun k=>if k∈l then H k else none) args args')(h:PC P f args' r)(E:K r (fun k=>if k∈l then none else H k)):bQ P f args H K:=bQ.frz l A (PC.use h E)
def PC.lib{a:List Value}{r:AV}{v:Value}(J:∀S w,rep S w r v)(h:∀w,(∀t∈aiN,wT w t.1=some t.2)->Calls P f a.toArray w fun e w'=>e=.returned v/\Below w.heap.size w w'):PC P f (a.map .v) r:=by
 intro S w vals E T U;obtain rfl:vals=a:=by clear h;induction a generalizing vals<;>grind[bR,rep]
 refine(h w fun t O=>(E.tabs t O).2).mono fun e w' ⟨I,A⟩=>?_
 exact⟨v,r,bN,S,I,rfl,E.after A.size fun k F=>A.block k F,J S w',E.grow A.os A.tape A.output A.size fun k F=>A.block k F,hY.refl _ _⟩
end
end Go.Aw
end
section
namespace Go.Proofs.YtkfhgjihlbilpaaGreatDoor.Nu
open Go.Proofs.Tryz
open Go.Aw Go.Aw.D Go.Proofs Ty Go.Nu
abbrev bas:Nat:=1000000000
def gK(n:Nat):List AV:=[int n]
def Uf(n:Nat):(gK n).length=1:=(rfl)
def aAv(n:Nat):(gK n).getD 0 .any=int n:=(rfl)
attribute [go_sem] Uf aAv
theorem cI{H:aM}{k:IntKind}{a b:Int}(h:a=b):Conv H (.v (.int k a)) (.v (.int k b)):=h▸.refl _
theorem cB{H:aM}{a b:Bool}(h:a=b):Conv H (.v (.bool a)) (.v (.bool b)):=h▸.refl _
theorem cS{H:aM}{a b:ByteArray}(h:a=b):Conv H (.v (.string a)) (.v (.string b)):=h▸.refl _
def ltB{k n:Nat}(h:decide ((k:Int)<(n:Int))=true):k<n:=by grind
def geB{k n:Nat}(A:k<=n)(h:decide ((k:Int)<(n:Int))=false):k=n:=by grind
theorem azH(s:ByteArray):s.toList=bl s:=ByteArray.toList_eq s
def aCe(l:List Nat):cT 1 (l.map gK):=BM Uf l
def aB0(s:ByteArray)(k:Nat):s.data.getD k 0=(bl s).getD k 0:=by grind[bl,Array.getD_eq_getD_getElem?]
def aBx(a:Array UInt8):bl ⟨a⟩=a.toList:=rfl
attribute [go_sem] azH aB0 aBx
def akA{α:Type}{q:α->Bool}{l:List α}{k:Nat}{c:α}(h:l[k]?=some c)(A:q c=false):l.all q=false:=by grind
def ZB{α:Type}{q:α->Bool}{l:List α}(h:∀c∈l,q c=true):l.all q=true:=Xap.2 h
def dW{α:Type}{p:α->Prop}{l:List α}{k:Nat}{x:α}(A:l[k]?=some x)(E:p x)(h:∀x∈l.take k,p x):∀x∈l.take (k+1),p x:=by
 rw[aY A]
 grind
def aCk{c:UInt8}{n:Nat}(A:n<256):(((c.toNat:Int) == (n:Int))=true)↔c=UInt8.ofNat n:=by
 rw[Xau]
 grind[UInt8.ofNat_toNat,UInt8.toNat_ofNat']
def Yz(l:List UInt8):(l == []||(((l.getD 0 0).toNat:Int) == 48&& !(l == [48])))= !(l != []&&(l.length == 1||l.getD 0 0 != 48)):=by
 cases l with
 | nil=>rfl
 | cons c r=>
  have A:(((c.toNat:Int) == 48)=true)↔c=48:=aCk (n:=48) (by omega)
  grind
def QZ(c:UInt8):(decide ((c.toNat:Int)<48)||decide ((c.toNat:Int)>57))= !isD c:=by
 unfold isD
 grind
theorem u8w{n:Nat}(h:48<=n)(A:n<256):IntKind.u8.wrap ((n:Int)-48)=((n-48:Nat):Int):=by have e:IntKind.u8.wrap ((n:Int)-48)=((n:Int)-48)%256:=rfl;omega
def vP{l:List UInt8}{k:Nat}{c:UInt8}(h:l[k]?=some c):l.getD k 0=c:=by grind
def FW(s:ByteArray)(h:s.size<=4611686018427387904):PC prog 212 [str s] (boo (eQ s)):=by
 have X:=eA s;refine pcd func212 rfl rfl ?_;simp only[go_sem];refine⟨fun h0=>⟨by omega,?_⟩,?_⟩
 ·have:bl s≠[]:=by simpa using h0
  have:=List.length_pos_iff.2 this;omega
 rw[Yz];refine aA (fun O=>?_) (fun O=>?_)
 ·simp only[go_sem];refine cB ?_;unfold eQ fS;rw[Xbp]at O;rw[O];rfl
 rw[Xbw]at O;simp only[go_sem];refine⟨fun ρ _=>∃k:Nat,k<=(bl s).length/\ρ 0=str s/\ρ 16=int s.size/\ρ 17=int k/\∀c∈(bl s).take k,isD c=true,fun ρ _=>(bl s).length-aT (ρ 17),⟨0,Xaa _,rfl,rfl,rfl,by simp⟩,?_⟩;rintro ρ H ⟨k,Z,h0,J,F,U⟩;simp only[go_sem,J,F];refine aA (fun A=>?_) (fun E=>?_)
 ·have A:k<(bl s).length:=by have:=ltB A;omega
  obtain⟨c,T⟩:=aK A;have Y:=vP T;simp only[go_sem,h0,F,Y,QZ];refine⟨⟨by omega,by omega⟩,fun _=>⟨by omega,by omega⟩,aA (fun I=>?_) (fun I=>?_)⟩
  ·simp only[go_sem];refine cB ?_;unfold eQ fS;rw[akA T (by simpa using I),Bool.and_false]
  ·simp only[go_sem,h0,J,F,aQ k];exact⟨⟨k+1,A,rfl,dW T (by simpa using I) U⟩,by simp only[aJ];omega⟩
 ·have E:k=(bl s).length:=by rw[<-X]at E;exact geB Z E
  subst E;rw[Xad]at U;simp only[go_sem];refine cB ?_;unfold eQ fS;rw[O,ZB U];rfl
def AP:∀(l:List Nat) (x:Nat),pO (l++[x])=if x=0 then pO l else l++[x]
 | [],x=>by simp only[Xbi,pO]
 | y::l,x=>by
  rw[List.cons_append,pO,AP l x];by_cases h:x=0
  ·rw[if_pos h,if_pos h,pO]
  ·rw[if_neg h,if_neg h];cases l <;> rfl
def aAo(l:List Nat)(h:l.length<=4611686018427387904):PC prog 323 [.sl (l.map gK)] (.sl ((pO l).map gK)):=by
 refine pcd func323 rfl rfl ?_;simp only[go_sem];refine⟨fun ρ _=>∃k:Nat,k<=l.length/\ρ 0=.sl ((l.take k).map gK)/\pO (l.take k)=pO l,fun ρ _=>match ρ 0 with| .sl es=>es.length|_=>0,⟨l.length,Xae _,by rw[Xad];rfl,by rw[Xad]⟩,?_⟩;rintro ρ H ⟨k,Y,h0,F⟩;have E:(l.take k).length=k:=by rw[Xbj];omega
 cases k with
 | zero=>
  simp only[go_sem,h0,show decide (((0:Nat):Int)>0)=false from rfl];refine aA (fun I=>by cases I) (fun _=>?_);simp only[go_sem,h0];have J:pO l=[]:=by rw[<-F];rfl
  rw[J];exact .refl _
 | succ k=>
 have X:IntKind.i64.wrap (((k+1:Nat):Int)-1)=(k:Int):=by rw[aW (by omega)];omega
 obtain⟨x,U⟩:=aK (show k<l.length by omega);have T:(l.take (k+1))[k]?=some x:=by rw[List.getElem?_take,if_pos (by omega)];exact U
 have O:l.take (k+1)=l.take k++[x]:=aY U;simp only[go_sem,h0,E,X,aC T,show decide (((k+1:Nat):Int)>0)=true from decide_eq_true (by omega)];refine⟨⟨by omega,by omega⟩,aA (fun I=>?_) (fun I=>?_)⟩
 ·have A:x=0:=by simpa using I
  simp only[go_sem,h0,E,X];refine⟨by omega,⟨⟨k,by omega,?_,?_⟩,?_⟩⟩
  ·rw[<-List.map_take,List.take_take,Nat.min_eq_left (by omega)]
  ·rw[O,AP,if_pos A]at F;exact F
  ·rw[<-List.map_take,Xac,Xbj];omega
 ·have A:x≠0:=by simpa using I
  simp only[go_sem,h0];rw[O,AP,if_neg A]at F;rw[O,F];exact .refl _
abbrev nl(n:Nat):AV:=.sl ((bB bas n).map gK)
def QO:nl 0=.sl []:=by simp only[nl,eZ];rfl
def Nj{l:List Nat}(A:Lim bas l)(h:l.length<=4611686018427387904){n:Nat}(E:ofL bas l=n):PC prog 323 [.sl (l.map gK)] (nl n):=by
 have:=aAo l h
 rwa [P0 (by decide) A E]at this
def cF(l:List Nat):Row:=⟨3,1,l.map gK⟩
def sB{H:aM}{k:Nat}{l:List Nat}{x:Nat}:aI H k (some ⟨3,1,l.map gK++[[int (x:Int)]]⟩) k=some (cF (l++[x])):=by rw[aB];simp only[cF,Xaq,Xav,Xbn];rfl
def alC(s:ByteArray)(Y:(bl s).all isD=true)(h:s.size<=4096):PC prog 322 [str s] (nl (gU s)):=by
 have hs:=eA s;refine pcb (fun t=>t == 3) func322 rfl rfl ?_;simp only[go_sem];refine aH fun j hj=>?_
 simp only[go_sem];refine⟨fun ρ H=>∃(m j:Nat) (o:List Nat),m<=(bl s).length/\ρ 0=str (s.extract 0 m)/\ρ 3=.os j/\H j=some (cF o)/\Lim bas o/\o.length<=(bl s).length-m/\ofL bas o+bas^o.length*lC ((bl s).take m)=gU s,fun ρ _=>match ρ 0 with| .v (.string t)=>t.size|_=>0,⟨(bl s).length,j,[],Xae _,?_,rfl,aB _ _ _,by simp[Lim],by simp,?_⟩,?_⟩
 ·rw[show s.extract 0 (bl s).length=s from mQ (by rw[gW,Xad,Xbg])];rfl
 ·rw[Xad];simp[ofL,gU]
 clear hj j;rintro ρ H ⟨m,j,o,hm,h0,O,J,ho,ac,hv⟩;have A:(s.extract 0 m).size=m:=by rw[<-eA,gW,Xbg,Xbj];omega
 simp only[go_sem,h0,A];refine aA (fun Z=>?_) (fun Z=>?_)
 ·have U:0<m:=by simpa using Z
  have e9:fX 0 (IntKind.i64.wrap ((m:Int)-9))=((m-9:Nat):Int):=by rw[aW (by omega)];unfold fX;split <;> omega
  simp only[go_sem,h0,A];refine⟨fun ρ H=>∃i:Nat,m-9<=i/\i<=m/\ρ 0=str (s.extract 0 m)/\ρ 3=.os j/\ρ 4=int (m-9:Nat)/\ρ 5=int (lC (((bl s).take i).drop (m-9)):Nat)/\ρ 6=int i/\H j=some (cF o),fun ρ _=>m-aT (ρ 6),
   ⟨m-9,Xae _,by omega,h0,O,?_,?_,?_,J⟩,?_⟩
  ·simp only[go_sem,e9]
  ·simp only[go_sem];rw[List.drop_eq_nil_of_le (by rw[Xbj];omega)];rfl
  ·simp only[go_sem,e9]
  clear h0 O J;rintro ρ H ⟨i,ae,X,h0,O,h4,h5,h6,J⟩;simp only[go_sem,h0,h6,A];refine aA (fun F=>?_) (fun I=>?_)
  ·have F:i<m:=ltB F;obtain⟨c,E⟩:=aK (show i<(bl s).length by omega);have hx:(bl (s.extract 0 m)).getD i 0=c:=by rw[gW,Xbg];exact vP (by rw[List.getElem?_take,if_pos F];exact E)
   have hd:=oB.1 (Xap.1 Y c (Xab E));have ab:=JK (l:=((bl s).take i).drop (m-9)) (Xap.2 fun c E=>Xap.1 Y c (List.mem_of_mem_take (List.mem_of_mem_drop E)));have aa:10^(((bl s).take i).drop (m-9)).length<=10^9:=Xah (by omega) (by rw[List.length_drop,Xbj];omega);have e1:((bl s).take (i+1)).drop (m-9)=((bl s).take i).drop (m-9)++[c]:=by rw[aY E,List.drop_append_of_le_length (by rw[Xbj];omega)]
   have e2:IntKind.i64.wrap (IntKind.i64.wrap (10*((lC (((bl s).take i).drop (m-9)):Nat):Int))+IntKind.i64.wrap (IntKind.u8.wrap ((c.toNat:Int)-48)))=((lC (((bl s).take (i+1)).drop (m-9)):Nat):Int):=by rw[e1,rI,u8w hd.1 (by omega)];generalize lC (((bl s).take i).drop (m-9))=V at *;rw[show IntKind.i64.wrap (10*(V:Int))=10*(V:Int)from aW (by omega),show IntKind.i64.wrap (((c.toNat-48:Nat):Int))=((c.toNat-48:Nat):Int)from aW (by omega),aW (by omega)];omega
   simp only[go_sem,h0,O,h4,h5,h6,A,hx,e2,aQ i];exact⟨⟨by omega,by omega⟩,⟨i+1,by omega,by omega,rfl,rfl,J⟩,by simp only[aJ];omega⟩
  ·have I:i=m:=geB X I;subst I;simp only[go_sem,O,h5,];have hL:(((bl s).take i).drop (i-9)).length=i-(i-9):=by rw[List.length_drop,Xbj];omega
   have hA:(((bl s).take i).drop (i-9)).all isD=true:=Xap.2 fun c E=>Xap.1 Y c (List.mem_of_mem_take (List.mem_of_mem_drop E))
   have ab:=JK hA;have aa:10^(((bl s).take i).drop (i-9)).length<=10^9:=Xah (by omega) (by omega);have T:lC ((bl s).take i)=lC ((bl s).take (i-9))*10^(((bl s).take i).drop (i-9)).length+lC (((bl s).take i).drop (i-9)):=by
    rw[<-C4]
    congr 1
    conv=>lhs;rw[<-Xbt (i-9) ((bl s).take i)]
    rw[List.take_take,Nat.min_eq_left (by omega)]
   generalize lC (((bl s).take i).drop (i-9))=x at *;refine aU J ⟨rfl,rfl⟩ ⟨rfl,trivial⟩ (by simp only[cF,Xac,Xag,List.length_nil];omega) (fun j' af=>?_);simp only[go_sem,h0,h4,A];refine⟨⟨by omega,by omega⟩,⟨⟨i-9,j',o++[x],by omega,?_,rfl,sB,ho.snoc (show x<1000000000 by omega),?_,?_⟩,?_⟩⟩
   ·congr 2
    refine mQ ?_;rw[gW,gW,gW];simp only[Xbg,List.take_take];rw[Nat.min_eq_left (by omega)]
   ·rw[Xar,Xag,List.length_nil];omega
   ·rw[<-hv,T,xV,Xar,Xag,List.length_nil,Xbo];by_cases h9:9<=i
    ·rw[hL,show i-(i-9)=9 by omega]
     grind
    ·rw[show i-9=0 by omega];simp only[List.take_zero,lC,List.foldl_nil]
     grind
   ·rw[<-eA,gW,gW];simp only[Xbg,Xbj];omega
 ·have U:m=0:=by simpa using Z
  subst U;simp only[go_sem,O];refine PC.useF [j] (.cons _ _ _ _ (.row _ _ _ (by simp[J];rfl) (ConvE.refl _)) .nil) (Nj ho (by omega) (n:=gU s) (by rw[<-hv];simp[lC])) ?_;simp only[go_sem];exact .refl _
def neN{a b:Nat}(h:((a:Int) != (b:Int))=true):a≠b:=by grind
def eqN{a b:Nat}(h:((a:Int) != (b:Int))=false):a=b:=by grind
theorem ayC{a b:Int}(h:a<=b):iH a b<=0:=by unfold iH;omega
def abN(n:Int):PC prog 369 [int n] (boo false):=by
 refine pcd func369 rfl rfl ?_;simp only[go_sem]
 grind[cB]
def HI(a b:Int):PC prog 332 [int a,int b] (int (iH a b)):=by
 refine pcd func332 rfl rfl ?_;simp only[go_sem];refine aL (abN a) ?_;simp only[go_sem];refine aL (abN b) ?_;simp only[go_sem];refine aA (fun h=>by cases h) (fun _=>?_);simp only[go_sem];refine aA (fun h=>by cases h) (fun _=>?_);simp only[go_sem];apply aA <;> intro h
 ·simp only[go_sem]
  grind[cI,mB]
 ·simp only[go_sem];apply aA <;> intro A
  ·simp only[go_sem]
   grind[cI,lZ]
  ·simp only[go_sem]
   grind[cI,vT]
def VW(l:List Nat)(i:Nat)(F:i<=4611686018427387904):PC prog 284 [.sl (l.map gK),int i] (int (l.getD i 0:Nat)):=by
 refine pcd func284 rfl rfl ?_;simp only[go_sem];apply aA <;> intro h
 ·have h:=ltB h;obtain⟨x,E⟩:=aK h;have A:=inB h;simp only[go_sem,aC E,A]
  grind[cI]
 ·simp only[go_sem]
  grind[cI]
theorem auX{l r:List Nat}(I:Lim bas l)(F:Lim bas r)(A:l.length=r.length){k x y:Nat}(J:l[k]?=some x)(O:r[k]?=some y)(T:l.drop (k+1)=r.drop (k+1))(E:x≠y):iH (x:Int) y=iH (ofL bas l) (ofL bas r):=by
 rcases Nat.lt_or_gt_of_ne E with h|h
 ·have:=Ox (b:=bas) (by decide) I F A J O h T
  grind[mB]
 ·have:=Ox (b:=bas) (by decide) F I A.symm O J h T.symm
  grind[lZ]
def GL(m n:Nat)(hm:(bB bas m).length<=1048576)(hn:(bB bas n).length<=1048576):PC prog 285 [nl m,nl n] (int (iH m n)):=by
 have om:=cQ (b:=bas) (by decide) m;have on:=cQ (b:=bas) (by decide) n;have lm:=cL (b:=bas) (by decide) m;have ln:=cL (b:=bas) (by decide) n;have X:(bB bas m).length<(bB bas n).length->m<n:=On (by decide);have Z:(bB bas n).length<(bB bas m).length->n<m:=On (by decide);simp only[nl];generalize bB bas m=a at *;generalize bB bas n=b at *;refine pcd func285 rfl rfl ?_;simp only[go_sem];apply aA <;> intro h
 ·simp only[go_sem];refine aL (HI _ _) ?_;simp only[go_sem]
  grind[cI,mB,lZ]
 have U:a.length=b.length:=eqN h;simp only[go_sem];refine⟨fun ρ _=>∃k:Nat,k<=a.length/\ρ 0=.sl (a.map gK)/\ρ 1=.sl (b.map gK)/\ρ 5=int ((k:Int)-1)/\a.drop k=b.drop k,fun ρ _=>match ρ 5 with| .v (.int _ z)=>(z+1).toNat|_=>0,⟨a.length,Xae _,rfl,rfl,by simp only[go_sem,zE (show a.length<=4611686018427387904 by omega)],by rw[List.drop_eq_nil_of_le (Xae _),List.drop_eq_nil_of_le (by omega)]⟩,?_⟩;rintro ρ H ⟨k,hk,h0,h1,A,hd⟩;simp only[go_sem,A];apply aA <;> intro hb
 ·have E:0<k:=by grind
  obtain⟨k,rfl⟩:∃j,k=j+1:=⟨k-1,by omega⟩;rw[show((k+1:Nat):Int)-1=(k:Int)by omega]at A |-;obtain⟨x,J⟩:=aK (show k<a.length by omega);obtain⟨y,O⟩:=aK (show k<b.length by omega);have T:=inB (show k<a.length by omega);have I:=inB (show k<b.length by omega);simp only[go_sem];refine dC ?_;simp only[go_sem,h0,h1,A,aC J,aC O,T,I];apply aA <;> intro F
  ·simp only[go_sem];refine dC ?_;simp only[go_sem,h0,h1,A,aC J,aC O,T,I];refine⟨_,(HI x y).q rfl,?_⟩;simp only[go_sem]
   grind[cI,auX]
  ·have Y:x=y:=eqN F;simp only[go_sem,h0,h1,A,zE (show k<=4611686018427387904 by omega)]
   grind[Xbq]
 ·have E:k=0:=by grind
  subst E;simp only[go_sem]
  grind[cI,vT]
def tw(a b:ByteArray)(n:Nat):List (List AV):=if kY a b=0 then(bB bas n).map gK else[]
def Ko{a b:ByteArray}{n:Nat}(h:kY a b=0):tw a b n=(bB bas n).map gK:=if_pos h
def abH{a b:ByteArray}{n:Nat}(h:kY a b≠0):tw a b n=[]:=if_neg h
def L2(a b:ByteArray)(I:a.size<=1048576)(O:b.size<=1048576):PC prog 274 [str a,str b] (.tup [.sl (tw a b (gU a)),.sl (tw a b (gU b)),int (kY a b)]):=by
 refine pcd func274 rfl rfl ?_;simp only[go_sem];refine aL (FW a (by omega)) ?_;simp only[go_sem];refine⟨_,fun _=>(FW b (by omega)).q rfl,?_⟩;simp only[go_sem];apply aA <;> intro h
 ·simp only[go_sem];have e:kY a b=3:=by simp_all[kY]
  rw[abH (by omega),abH (by omega),e];exact .refl _
 have E:eQ a=true/\eQ b=true:=by grind
 simp only[go_sem];apply aA <;> intro J
 ·simp only[go_sem];have F:(decide (a.size>4096)||decide (b.size>4096))=true:=by grind
  have e:kY a b=4:=by simp_all[kY]
  rw[abH (by omega),abH (by omega),e];exact .refl _
 have A:a.size<=4096/\b.size<=4096:=by grind
 have e:kY a b=0:=JS E.1 E.2 A.1 A.2;have d:∀{s:ByteArray},eQ s=true->(bl s).all isD=true:=fun h=>by simp_all[eQ,fS]
 simp only[go_sem];refine aL (alC a (d E.1) A.1) ?_;simp only[go_sem];refine aL (alC b (d E.2) A.2) ?_;simp only[go_sem];rw[Ko e,Ko e,e];exact .refl _
def DR{H:aM}{j:Nat}:aI H j (some ⟨3,1,[]⟩) j=some (cF []):=aB _ _ _
def Zv(m k:Nat)(hm:(bB bas m).length<=1048576)(Z:k<bas):PC prog 325 [nl m,int k] (nl (m*k)):=by
 have Z:k<1000000000:=Z;have om:=cQ (b:=bas) (by decide) m;have lm:=cL (b:=bas) (by decide) m;simp only[nl];generalize bB bas m=l at *;have aa:IntKind.i64.wrap ((l.length:Int)+1)=((l.length+1:Nat):Int):=mT (by omega);refine pcb (fun t=>t == 5) func325 rfl rfl ?_;simp only[go_sem];refine⟨by omega,aH fun j hj=>?_⟩;simp only[go_sem];refine⟨fun ρ H=>∃(i j c:Nat) (o:List Nat),i<=l.length/\ρ 1=int k/\ρ 13=.sl (l.map gK)/\ρ 14=int l.length/\ρ 5=.os j/\ρ 6=int c/\ρ 15=int i/\H j=some (cF o)/\Lim bas o/\o.length=i/\c<1000000000/\ofL bas o+bas^i*c=ofL bas (l.take i)*k,fun ρ _=>l.length-aT (ρ 15),
  ⟨0,j,0,[],Xaa _,rfl,rfl,rfl,rfl,by simp only[go_sem];rfl,by simp only[go_sem];rfl,DR,by simp[Lim],rfl,by omega,by simp[ofL]⟩,?_⟩
 rintro ρ H ⟨i,j,c,o,hi,h1,I,F,h5,h6,A,Rj,ho,X,hc,hv⟩;simp only[go_sem,F,A];refine jI hi (fun E=>?_) (fun U=>?_)
 ·obtain⟨n,T⟩:=aK E;have b1:=inB E;have ab:n<1000000000:=lm n (Xab T);have Y:n*k<=999999999*999999999:=Nat.mul_le_mul (by omega) (by omega);have e1:IntKind.i64.wrap (IntKind.i64.wrap ((n:Int)*(k:Int))+(c:Int))=((n*k+c:Nat):Int):=by grind[aW]
  have J:=YN (b:=bas) (by decide) T X hv;simp only[go_sem,h1,I,h5,h6,A,aC T,b1,e1];have hq:(n*k+c)/1000000000<1000000000:=by omega
  have e2:IntKind.i64.wrap ((((n*k+c:Nat):Int)).tdiv 1000000000)=(((n*k+c)/1000000000:Nat):Int):=by grind[aW]
  have e3:(((n*k+c:Nat):Int)).tmod 1000000000=(((n*k+c)%1000000000:Nat):Int):=by rfl
  simp only[e3];refine⟨by decide,?_⟩;refine aU Rj ⟨rfl,rfl⟩ ⟨rfl,trivial⟩ (by grind[cF]) (fun j' O=>?_);simp only[go_sem,h1,I,F,A,e2,aQ i];refine⟨by decide,⟨i+1,j',_,o++[(n*k+c)%bas],E,rfl,rfl,rfl,sB,ho.snoc (Xbh _ (by decide)),by grind,hq,J⟩,by grind[aJ]⟩
 ·subst U;simp only[go_sem,h5,h6];refine aU Rj ⟨rfl,rfl⟩ ⟨rfl,trivial⟩ (by grind[cF]) (fun j' O=>?_);simp only[go_sem];have hT:Lim bas (o++[c]):=ho.snoc hc;have hV:ofL bas (o++[c])=m*k:=by grind[xV]
  refine PC.useF [j'] (.cons _ _ _ _ (.row _ _ _ (by simp only[Xbc,if_true];exact sB) (ConvE.refl _)) .nil) (Nj hT (by grind) hV) ?_;simp only[go_sem];exact .refl _
def JV(m n:Nat)(hm:(bB bas m).length<=1048576)(ab:n<=m):PC prog 286 [nl m,nl n] (nl (m-n)):=by
 have om:=cQ (b:=bas) (by decide) m;have on:=cQ (b:=bas) (by decide) n;have lm:=cL (b:=bas) (by decide) m;have ln:=cL (b:=bas) (by decide) n;have ac:=cO (b:=bas) (by decide) ab;simp only[nl];generalize bB bas m=x at *;generalize bB bas n=y at *;refine pcb (fun t=>t == 5) func286 rfl rfl ?_;simp only[go_sem];refine⟨by omega,aH fun j hj=>?_⟩;simp only[go_sem];refine⟨fun ρ H=>∃(i j c:Nat) (o:List Nat),i<=x.length/\ρ 0=.sl (x.map gK)/\ρ 1=.sl (y.map gK)/\ρ 13=int x.length/\ρ 5=.os j/\ρ 6=int c/\ρ 14=int i/\H j=some (cF o)/\Lim bas o/\o.length=i/\c<=1/\ofL bas o+ofL bas (y.take i)=ofL bas (x.take i)+bas^i*c,fun ρ _=>x.length-aT (ρ 14),
  ⟨0,j,0,[],Xaa _,rfl,rfl,rfl,rfl,by simp only[go_sem];rfl,by simp only[go_sem];rfl,DR,by simp[Lim],rfl,by omega,by simp[ofL]⟩,?_⟩
 rintro ρ H ⟨i,j,c,o,hi,h0,h1,F,Z,h6,E,X,ho,O,hc,hv⟩;simp only[go_sem,F,E];refine jI hi (fun J=>?_) (fun af=>?_)
 ·obtain⟨a,ha⟩:=aK J;have ae:x.getD i 0=a:=by simp[List.getD,ha]
  have b1:=inB J;have T:a<1000000000:=lm a (Xab ha);have U:y.getD i 0<1000000000:=ln.getD (by decide) i;simp only[go_sem,E];refine jD (by rfl) (by kernel_rfl) ?_;simp only[go_sem,h0,h1,aC ha,b1];refine⟨_,(VW y i (by omega)).q rfl,?_⟩;have ag:=Io (b:=1000000000) T U hc;have Y:=A9 (b:=1000000000) T U hc;have aa:=EZ (b:=bas) (x:=x) (y:=y) (c':=if a<y.getD i 0+c then 1 else 0) (d:=if a<y.getD i 0+c then a+1000000000-(y.getD i 0+c)else a-(y.getD i 0+c)) O hv (by rw[ae];exact Y.1);generalize y.getD i 0=yi at *;have e1:IntKind.i64.wrap (IntKind.i64.wrap ((a:Int)-(yi:Int))-(c:Int))=(a:Int)-yi-c:=by rw[show IntKind.i64.wrap ((a:Int)-(yi:Int))=(a:Int)-yi from aW (by omega),aW (by omega)]
  simp only[go_sem,h6,e1];refine bO (fun A H'=>A 0=.sl (x.map gK)/\A 1=.sl (y.map gK)/\A 13=int x.length/\A 5=.os j/\A 14=int i/\H' j=some (cF o)/\A 8=int (if a<yi+c then a+1000000000-(yi+c)else a-(yi+c):Nat)/\A 6=int (if a<yi+c then 1 else 0:Nat)) ?_ fun K hK=>aA (fun I=>?_) (fun I=>?_)
  rotate_left
  ·have I:a<yi+c:=by simp at I;omega
   have e2:IntKind.i64.wrap ((a:Int)-yi-c+1000000000)=((a+1000000000-(yi+c):Nat):Int):=by rw[aW (by omega)];omega
   simp only[go_sem,e2];exact hK _ _ ⟨h0,h1,F,Z,E,X,by simp only[go_sem,if_pos I],by simp only[go_sem,if_pos I];rfl⟩
  ·have I:¬a<yi+c:=by simp at I;omega
   simp only[go_sem,];refine hK _ _ ⟨h0,h1,F,Z,E,X,?_,by simp only[go_sem,if_neg I];rfl⟩;simp only[go_sem,if_neg I]
   congr 2
   omega
  rintro ρ H ⟨h0,h1,F,Z,E,X,h8,h6⟩;simp only[go_sem,Z,h8];refine aU X ⟨rfl,rfl⟩ ⟨rfl,trivial⟩ (by simp only[cF,Xac,Xag,List.length_nil];omega) (fun j' ah=>?_);simp only[go_sem,h0,h1,F,h6,E,aQ i];exact⟨⟨i+1,j',_,_,J,rfl,rfl,rfl,sB,ho.snoc Y.2,by simp[O],by split <;> omega,aa⟩,by simp only[aJ];omega⟩
 ·subst af;simp only[go_sem,Z];obtain⟨_,hV⟩:=HE (b:=bas) (by decide) ho lm O ac (by omega) hc hv;refine PC.useF [j] (.cons _ _ _ _ (.row _ _ _ (by simp only[Xbc,if_true];exact X) (ConvE.refl _)) .nil) (Nj ho (by omega) (hV.trans (by rw[om,on]))) ?_;simp only[go_sem];exact .refl _
theorem half{d r q:Nat}(h1:d*q<=r)(E:r<d*(q+1))(A:0<d):q=r/d:=by
 symm
 exact(Nat.div_eq_iff A).2 ⟨by grind,by grind⟩
def JB(r d:Nat)(hr:(bB bas r).length<=1048576)(hd:0<d)(Z:(bB bas d).length<=1048575)(h:r<d*bas):PC prog 324 [nl r,nl d] (int (r/d:Nat)):=by
 refine pcd func324 rfl rfl ?_;simp only[go_sem];refine⟨fun ρ _=>∃a b:Nat,a<=b/\b<1000000000/\ρ 0=nl r/\ρ 1=nl d/\ρ 5=int a/\ρ 6=int b/\d*a<=r/\r<d*(b+1),fun ρ _=>aT (ρ 6)-aT (ρ 5),⟨0,999999999,by omega,by omega,rfl,rfl,by simp only[go_sem];rfl,by simp only[go_sem];rfl,by simp,h⟩,?_⟩;rintro ρ H ⟨a,b,I,hb,h0,h1,E,U,T,O⟩;simp only[go_sem,E,U];refine jI I (fun Y=>?_) (fun J=>?_)
 ·have e1 : IntKind.i64.wrap ((IntKind.i64.wrap (IntKind.i64.wrap ((a : Int) + (b : Int)) + 1)).tdiv 2) = (((a + b + 1) / 2 : Nat) : Int) := by rw[show IntKind.i64.wrap ((a:Int)+(b:Int))=((a+b:Nat):Int)by rw[aW (by omega)];omega,mT (by omega),Xce (by omega),aW (by omega)];omega
  simp only[go_sem,h1,E,U,e1];refine⟨by decide,?_⟩;have X:(a+b+1)/2<bas:=show _<1000000000 by omega
  have ab:a<(a+b+1)/2:=by omega
  have aa:(a+b+1)/2<=b:=by omega
  generalize (a+b+1)/2=m at *;refine aL (Zv d m (by omega) X) ?_;simp only[go_sem,h0,];have F:(bB bas (d*m)).length<=1048576:=by
   have h1:=lE (b:=bas) (by decide) (cL (b:=bas) (by decide) d);rw[cQ (by decide)]at h1;have h2:d*m<bas^((bB bas d).length+1):=by rw[Xbo];exact Xax (Nat.mul_lt_mul_of_pos_left X hd) (Xcb _ (Nat.le_of_lt h1))
   have:=iZ (b:=bas) (by decide) h2;omega
  refine aL (GL (d*m) r F hr) ?_;simp only[go_sem,];refine aA (fun A=>?_) (fun A=>?_)
  ·have A:d*m<=r:=by grind[lZ]
   simp only[go_sem,h0,h1,U];exact⟨⟨m,b,by omega,hb,rfl,rfl,A,O⟩,by grind[aJ]⟩
  ·have A:r<d*m:=by grind[ayC]
   simp only[go_sem,h0,h1,E];refine⟨⟨a,m-1,by omega,by omega,rfl,?_,T,?_⟩,?_⟩
   all_goals grind[zE,aJ]
 ·subst J;simp only[go_sem,E]
  grind[cI,half]
def Dw{A:List Nat}{k v q:Nat}(h:A[k]?=some v):({ cF A with es:=(cF A).es.set k (qF ((cF A).es.getD k []) 0 [int (q:Int)]) }:Row)=cF (A.set k q):=by simp only[cF,aC h,List.map_set];rfl
def U3(m n:Nat)(hm:(bB bas m).length<=1048570)(hn:0<n)(ah:(bB bas n).length<=1048570):PC prog 275 [nl m,nl n] (.tup [nl (m/n),nl (m%n)]):=by
 have om:=cQ (b:=bas) (by decide) m;have lm:=cL (b:=bas) (by decide) m;rw[show nl m=.sl ((bB bas m).map gK)from rfl];generalize bB bas m=l at *;refine pcb (fun t=>t == 6||t == 23) func275 rfl rfl ?_;simp only[go_sem];refine⟨by omega,aH fun j hj=>?_⟩;simp only[go_sem];refine⟨fun ρ H=>∃(k r:Nat) (A:List Nat),k<=l.length/\ρ 0=.sl (l.map gK)/\ρ 1=nl n/\ρ 6=.os j/\ρ 7=nl r/\ρ 8=int ((k:Int)-1)/\H j=some (cF A)/\Lim bas A/\A.length=l.length/\r<n/\ofL bas (l.drop k)=ofL bas (A.drop k)*n+r/\A.take k=List.replicate k 0,fun ρ _=>match ρ 8 with| .v (.int _ z)=>(z+1).toNat|_=>0,
  ⟨l.length,0,List.replicate l.length 0,Xae _,rfl,rfl,rfl,?_,?_,?_,Lim.zeros (by decide) _,by simp,hn,by simp[ofL],by simp⟩,?_⟩
 ·simp only[go_sem];exact QO.symm
 ·simp only[go_sem,zE (show l.length<=4611686018427387904 by omega)]
 ·rw[aB];simp only[cF,List.map_replicate];rfl
 rintro ρ H ⟨k,r,A,hk,h0,h1,O,h7,J,Rj,hq,ag,hr,hv,hz⟩;simp only[go_sem,J];refine aA (fun hb=>?_) (fun hb=>?_)
 ·have Y:0<k:=by grind
  obtain⟨k,rfl⟩:∃j,k=j+1:=⟨k-1,by omega⟩;rw[show((k+1:Nat):Int)-1=(k:Int)by omega]at J |-;obtain⟨x,hx⟩:=aK (show k<l.length by omega);have ae:x<bas:=lm x (Xab hx);have b1:=inB (show k<l.length by omega);have b2:=inB (show k<A.length by omega);have ac:A[k]?=some 0:=by
   have h1:(A.take (k+1))[k]?=(List.replicate (k+1) 0)[k]?:=by rw[hz]
   grind
  obtain⟨hV,hQ,hR⟩:=Tc (b:=bas) (a:=n) (by decide) hx ae hr (show k<A.length by omega) hv;have av:(bB bas r).length<=1048570:=Xaf (cO (by decide) (Nat.le_of_lt hr)) ah;have af:x+bas*r<n*bas:=by grind
  have F:(A.set k ((x+bas*r)/n)).take k=List.replicate k 0:=by
   rw[List.take_set_of_le (by omega)];have h1:(A.take (k+1)).take k=(List.replicate (k+1) 0).take k:=by rw[hz]
   grind
  have ak:ofL bas (x::bB bas r)=x+bas*r:=by grind[ofL,cQ]
  have U:Lim bas (x::bB bas r):=fun y hy=>by
   rcases List.mem_cons.1 hy with rfl|hy
   ·omega
   ·exact cL (by decide) r y hy
  have am:(bB bas (x+bas*r)).length<=1048575:=by
   refine Xaf (iZ (b:=bas) (k:=(bB bas r).length+1) (by decide) ?_) (by omega);have h1:=lE (b:=bas) (by decide) U
   grind
  generalize aq:x+bas*r=R at *;have Z:R-n*(R/n)=R%n:=by grind[Nat.mod_add_div]
  have an:(bB bas (n*(R/n))).length<=1048576:=Xaf (cO (by decide) (Nat.mul_div_le R n)) (by omega);simp only[go_sem,h0,J,aC hx,b1];refine aH fun i hi=>?_
  simp only[go_sem,h7];have ab:=fA (r':=⟨3,1,[[int (x:Int)]]⟩) Rj hi;refine aU (aB _ _ _) ⟨rfl,rfl⟩ (aCe _) (by grind) (fun i2 T=>?_);have ar:=cM ab (aV Rj hi).symm T (r':=⟨3,1,[[int (x:Int)]]++(bB bas r).map gK⟩);have au:j≠i2:=aV ab T;simp only[go_sem,];refine PC.useF [i2] (.cons _ _ _ _ (.row _ _ _ (by simp only[Xbc,if_true];exact aB _ _ _) (ConvE.refl _)) .nil) (Nj U (by grind) ak) ?_;generalize ap:(fun k=>if k∈[i2]then none else _)=HN;have E:HN j=some (cF A):=by grind
  simp only[go_sem,h1,];refine aL (GL R n (by omega) (by omega)) ?_;simp only[go_sem,];refine aA (fun hc=>?_) (fun hc=>?_)
  ·have aa:R<n:=by grind[vT,lZ]
   simp only[go_sem,h0,h1,O,J,zE (show k<=4611686018427387904 by omega)];have I:A.set k (R/n)=A:=by grind[Nat.div_eq_of_lt,List.set_getElem_self]
   rw[I,Xbu aa]at hV;rw[I]at F;exact⟨⟨k,R,A,by omega,rfl,rfl,E,hq,ag,aa,hV,F⟩,by omega⟩
  simp only[go_sem,];refine aA (fun al=>?_) (fun al=>?_)
  ·have ao:R=n:=by grind[GE]
   simp only[go_sem,O,J,E,show(cF A).es.length=A.length from Xac _,b2];refine⟨rfl,bP so3 E (by simp_all[cF]) ?_⟩;simp only[go_sem,h0,h1,O,J,zE (show k<=4611686018427387904 by omega)];have I:R/n=1:=by simp_all
   have ai:R%n=0:=by grind
   rw[I,ai]at hV;rw[I]at F;refine⟨⟨k,0,A.set k 1,by omega,QO.symm,rfl,?_,hq.set (by decide),by grind,hn,hV,F⟩,by omega⟩;exact congrArg some (Dw (q:=1) ac)
  simp only[go_sem,h1,O,J];refine aL (JB R n (by omega) hn (by omega) af) ?_;simp only[go_sem,E,show(cF A).es.length=A.length from Xac _,b2];refine⟨rfl,bP so3 E (by simp_all[cF]) ?_⟩;generalize hP:aI HN j _=HP;have X:HP j=some (cF (A.set k (R/n))):=by rw[<-hP,aB];exact congrArg some (Dw (q:=R/n) ac)
  have hg:(A.set k (R/n))[k]?=some (R/n):=List.getElem?_set_self (by omega);simp only[go_sem,h1,O,J,X];have aj:(cF (A.set k (R/n))).es.getD k []=gK (R/n):=aC hg;have b3:0<=(k:Int)/\(k:Int)<((cF (A.set k (R/n))).es.length:Nat):=by grind[cF]
  simp only[go_sem,aj,b3];refine⟨rfl,⟨by omega,Nat.zero_lt_one⟩,?_⟩;refine aL (Zv n (R/n) (by omega) hQ) ?_;simp only[go_sem,];refine aL (JV R (n*(R/n)) (by omega) (Nat.mul_div_le R n)) ?_;simp only[go_sem,h0,h1,O,J,zE (show k<=4611686018427387904 by omega),Z];exact⟨⟨k,R%n,A.set k (R/n),by omega,rfl,rfl,X,hq.set hQ,by grind,hR,hV,F⟩,by omega⟩
 ·have Y:k=0:=by grind
  subst Y;simp only[go_sem,O,];obtain⟨e1,e2⟩:=avS hr hv;rw[Xbg,Xbg,om]at e1;rw[Xbg,om]at e2;refine PC.useF [j] (.cons _ _ _ _ (.row _ _ _ (by simp only[Xbc,if_true];exact Rj) (ConvE.refl _)) .nil) (Nj hq (by omega) e1) ?_;simp only[go_sem,h7,e2];exact .refl _
end Go.Proofs.YtkfhgjihlbilpaaGreatDoor.Nu
end
section
namespace Go.Proofs
open Go.Shelf
def Tryz.lays169_ren:Go.Shelf.Ren:=⟨fun|169=>331|n=>n,fun|70=>345|9=>9|0=>0|72=>347|37=>194|127=>377|3=>3|5=>5|n=>n,fun|n=>n⟩
theorem Tryz.lays169:Go.Proofs.Lays.n169 Tryz.prog Tryz.lays169_ren:={
 mixed:=by kernel_rfl
 f169:=Tryz.func331.trans (congrArg some (by kernel_rfl))
 t0:=Tryz.underlying0
 a0:=Tryz.isAgg0
 z0:=Tryz.sizeOf0
 v0:=Tryz.zeroValue0
 t3:=Tryz.underlying3
 a3:=Tryz.isAgg3
 z3:=Tryz.sizeOf3
 v3:=Tryz.zeroValue3
 t9:=Tryz.underlying9
 a9:=Tryz.isAgg9
 z9:=Tryz.sizeOf9
 v9:=Tryz.zeroValue9
 t37:=Tryz.underlying194
 a37:=Tryz.isAgg194
 z37:=Tryz.sizeOf194
 v37:=Tryz.zeroValue194
 t70:=Tryz.underlying345
 a70:=Tryz.isAgg345
 z70:=Tryz.sizeOf345
 v70:=Tryz.zeroValue345
 t72:=Tryz.underlying347
 a72:=Tryz.isAgg347
 z72:=Tryz.sizeOf347
 v72:=Tryz.zeroValue347
 t127:=Tryz.underlying377
 a127:=Tryz.isAgg377
 z127:=Tryz.sizeOf377
 v127:=Tryz.zeroValue377 }
theorem Tryz.Builder_Extra_169:Builder.Extra Tryz.prog Tryz.lays169_ren:={
 sizeBuilder:=by kernel_rfl
 liesBuilder:=by kernel_rfl
 t5:=Tryz.underlying5
 a5:=Tryz.isAgg5
 z5:=Tryz.sizeOf5
 v5:=Tryz.zeroValue5
 infoByte:=by kernel_rfl
 cellsByte:=by kernel_rfl
 sizeByte:=by kernel_rfl
 neB5:=by decide }
open Go.RowKit in
theorem Tryz.Builder_String_any (B b:Nat) (l:List UInt8) (w:World) (h:Lib.IsBuilder 347 5 B b (Lib.byteCells l) w) (hBw:B<=w.heap.size):
    Calls Tryz.prog 331 #[.pointer (some ⟨b,0,none⟩)] w fun e w'=>e=.returned (.string ⟨l.toArray⟩)/\Below B w w':=Any.Builder_String_any Tryz.lays169 Tryz.Builder_Extra_169 B b l w h hBw
def Tryz.lays106_ren:Go.Shelf.Ren:=⟨fun|106=>288|213=>333|265=>370|n=>n,fun|9=>9|3=>3|n=>n,fun|n=>n⟩
theorem Tryz.lays106:Go.Proofs.Lays.n106 Tryz.prog Tryz.lays106_ren:={
 mixed:=by kernel_rfl
 f106:=Tryz.func288.trans (congrArg some (by kernel_rfl))
 f213:=Tryz.func333.trans (congrArg some (by kernel_rfl))
 f265:=Tryz.func370.trans (congrArg some (by kernel_rfl))
 t3:=Tryz.underlying3
 a3:=Tryz.isAgg3
 z3:=Tryz.sizeOf3
 v3:=Tryz.zeroValue3
 t9:=Tryz.underlying9
 a9:=Tryz.isAgg9
 z9:=Tryz.sizeOf9
 v9:=Tryz.zeroValue9 }
open Go.RowKit in
theorem Tryz.strings_Compare (a b:ByteArray) (w:World):
    Calls Tryz.prog 288 #[.string a,.string b] w fun e w'=>e=.returned (.int .i64 (Lib.compareBytes a.data.toList b.data.toList))/\w'=w:=Any.strings_Compare Tryz.lays106 a b w
def Tryz.lays103_ren:Go.Shelf.Ren:=⟨fun|103=>282|210=>328|206=>326|n=>n,fun|9=>9|4=>4|24=>319|3=>3|n=>n,fun|n=>n⟩
theorem Tryz.lays103:Go.Proofs.Lays.n103 Tryz.prog Tryz.lays103_ren:={
 mixed:=by kernel_rfl
 f103:=Tryz.func282.trans (congrArg some (by kernel_rfl))
 f206:=Tryz.func326.trans (congrArg some (by kernel_rfl))
 f210:=Tryz.func328.trans (congrArg some (by kernel_rfl))
 t3:=Tryz.underlying3
 a3:=Tryz.isAgg3
 z3:=Tryz.sizeOf3
 v3:=Tryz.zeroValue3
 t4:=Tryz.underlying4
 a4:=Tryz.isAgg4
 z4:=Tryz.sizeOf4
 v4:=Tryz.zeroValue4
 t9:=Tryz.underlying9
 a9:=Tryz.isAgg9
 z9:=Tryz.sizeOf9
 v9:=Tryz.zeroValue9
 t24:=Tryz.underlying319
 a24:=Tryz.isAgg319
 z24:=Tryz.sizeOf319
 v24:=Tryz.zeroValue319 }
open Go.RowKit in
theorem Tryz.strings_CutPrefix (s p:ByteArray) (w:World):
    Calls Tryz.prog 282 #[.string s,.string p] w fun e w'=>e=.returned (.tuple #[.string ⟨(Lib.trimPrefix s.data.toList p.data.toList).toArray⟩,.bool (Lib.hasPrefix s.data.toList p.data.toList)])/\w'=w:=Any.strings_CutPrefix Tryz.lays103 s p w
def Tryz.laysM171_ren:Go.Shelf.Ren:=⟨fun|171=>226|243=>289|246=>334|283=>371|284=>372|285=>373|286=>374|129=>389|317=>388|318=>390|319=>391|320=>392|337=>400|338=>401|n=>n,fun|3=>3|9=>9|2=>2|4=>4|171=>378|0=>0|53=>379|37=>194|5=>5|173=>382|212=>403|51=>395|20=>20|213=>404|46=>221|232=>419|233=>420|n=>n,fun|17=>1|18=>2|19=>3|n=>n⟩
theorem Tryz.laysM171:Go.Proofs.LaysM.n171 Tryz.prog Tryz.laysM171_ren:={
 mixed:=by kernel_rfl
 f129:=Tryz.func389.trans (congrArg some (by kernel_rfl))
 f171:=Tryz.func226.trans (congrArg some (by kernel_rfl))
 f243:=Tryz.func289.trans (congrArg some (by kernel_rfl))
 f246:=Tryz.func334.trans (congrArg some (by kernel_rfl))
 f283:=Tryz.func371.trans (congrArg some (by kernel_rfl))
 f284:=Tryz.func372.trans (congrArg some (by kernel_rfl))
 f285:=Tryz.func373.trans (congrArg some (by kernel_rfl))
 f286:=Tryz.func374.trans (congrArg some (by kernel_rfl))
 f317:=Tryz.func388.trans (congrArg some (by kernel_rfl))
 f318:=Tryz.func390.trans (congrArg some (by kernel_rfl))
 f319:=Tryz.func391.trans (congrArg some (by kernel_rfl))
 f320:=Tryz.func392.trans (congrArg some (by kernel_rfl))
 f337:=Tryz.func400.trans (congrArg some (by kernel_rfl))
 f338:=Tryz.func401.trans (congrArg some (by kernel_rfl))
 t0:=Tryz.underlying0
 a0:=Tryz.isAgg0
 z0:=Tryz.sizeOf0
 v0:=Tryz.zeroValue0
 t2:=Tryz.underlying2
 a2:=Tryz.isAgg2
 z2:=Tryz.sizeOf2
 v2:=Tryz.zeroValue2
 t3:=Tryz.underlying3
 a3:=Tryz.isAgg3
 z3:=Tryz.sizeOf3
 v3:=Tryz.zeroValue3
 t4:=Tryz.underlying4
 a4:=Tryz.isAgg4
 z4:=Tryz.sizeOf4
 v4:=Tryz.zeroValue4
 t5:=Tryz.underlying5
 a5:=Tryz.isAgg5
 z5:=Tryz.sizeOf5
 v5:=Tryz.zeroValue5
 t9:=Tryz.underlying9
 a9:=Tryz.isAgg9
 z9:=Tryz.sizeOf9
 v9:=Tryz.zeroValue9
 t20:=Tryz.underlying20
 a20:=Tryz.isAgg20
 z20:=Tryz.sizeOf20
 v20:=Tryz.zeroValue20
 t37:=Tryz.underlying194
 a37:=Tryz.isAgg194
 z37:=Tryz.sizeOf194
 v37:=Tryz.zeroValue194
 t46:=Tryz.underlying221
 a46:=Tryz.isAgg221
 z46:=Tryz.sizeOf221
 v46:=Tryz.zeroValue221
 t51:=Tryz.underlying395
 a51:=Tryz.isAgg395
 z51:=Tryz.sizeOf395
 v51:=Tryz.zeroValue395
 t53:=Tryz.underlying379
 a53:=Tryz.isAgg379
 z53:=Tryz.sizeOf379
 v53:=Tryz.zeroValue379
 t171:=Tryz.underlying378
 a171:=Tryz.isAgg378
 z171:=Tryz.sizeOf378
 v171:=Tryz.zeroValue378
 t173:=Tryz.underlying382
 a173:=Tryz.isAgg382
 z173:=Tryz.sizeOf382
 v173:=Tryz.zeroValue382
 t212:=Tryz.underlying403
 a212:=Tryz.isAgg403
 z212:=Tryz.sizeOf403
 v212:=Tryz.zeroValue403
 t213:=Tryz.underlying404
 a213:=Tryz.isAgg404
 z213:=Tryz.sizeOf404
 t232:=Tryz.underlying419
 a232:=Tryz.isAgg419
 z232:=Tryz.sizeOf419
 v232:=Tryz.zeroValue419
 t233:=Tryz.underlying420
 a233:=Tryz.isAgg420
 z233:=Tryz.sizeOf420
 v233:=Tryz.zeroValue420
 g17:=by kernel_rfl
 g18:=by kernel_rfl
 g19:=by kernel_rfl
 i0:=by kernel_rfl
 i2:=by kernel_rfl
 i3:=by kernel_rfl
 i4:=by kernel_rfl
 i5:=by kernel_rfl
 i9:=by kernel_rfl
 i20:=by kernel_rfl
 i37:=by kernel_rfl
 i46:=by kernel_rfl
 i51:=by kernel_rfl
 i53:=by kernel_rfl
 i171:=by kernel_rfl
 i173:=by kernel_rfl
 i212:=by kernel_rfl
 i232:=by kernel_rfl
 i233:=by kernel_rfl
 m17:=by kernel_rfl
 m18:=by kernel_rfl
 m19:=by kernel_rfl }
open Go.RowKit Go.Sort Go.Lib in
theorem Tryz.strconv_Itoa (n:Int) (h0: -9223372036854775808<=n) (h1:n<=9223372036854775807) (w:World) (htab:Lib.TabIs Tryz.prog w "internal/strconv.uint64pow10" .u64 Lib.pow10Tab):
    Calls Tryz.prog 226 #[.int .i64 n] w fun e w'=>e=.returned (.string ⟨(Lib.itoa n).toArray⟩)/\∃k os,w'=grow (w.drewN k) os:=Any.strconv_Itoa Tryz.laysM171 n h0 h1 w htab
def Tryz.lays219_ren:Go.Shelf.Ren:=⟨fun|219=>321|217=>359|225=>360|224=>361|267=>362|266=>382|314=>383|n=>n,fun|9=>9|3=>3|4=>4|5=>5|46=>221|146=>396|51=>395|n=>n,fun|1=>0|n=>n⟩
theorem Tryz.lays219:Go.Proofs.Lays.n219 Tryz.prog Tryz.lays219_ren:={
 mixed:=by kernel_rfl
 f217:=Tryz.func359.trans (congrArg some (by kernel_rfl))
 f219:=Tryz.func321.trans (congrArg some (by kernel_rfl))
 f224:=Tryz.func361.trans (congrArg some (by kernel_rfl))
 f225:=Tryz.func360.trans (congrArg some (by kernel_rfl))
 f266:=Tryz.func382.trans (congrArg some (by kernel_rfl))
 f267:=Tryz.func362.trans (congrArg some (by kernel_rfl))
 f314:=Tryz.func383.trans (congrArg some (by kernel_rfl))
 t3:=Tryz.underlying3
 a3:=Tryz.isAgg3
 z3:=Tryz.sizeOf3
 v3:=Tryz.zeroValue3
 t4:=Tryz.underlying4
 a4:=Tryz.isAgg4
 z4:=Tryz.sizeOf4
 v4:=Tryz.zeroValue4
 t5:=Tryz.underlying5
 a5:=Tryz.isAgg5
 z5:=Tryz.sizeOf5
 v5:=Tryz.zeroValue5
 t9:=Tryz.underlying9
 a9:=Tryz.isAgg9
 z9:=Tryz.sizeOf9
 v9:=Tryz.zeroValue9
 t46:=Tryz.underlying221
 a46:=Tryz.isAgg221
 z46:=Tryz.sizeOf221
 v46:=Tryz.zeroValue221
 t51:=Tryz.underlying395
 a51:=Tryz.isAgg395
 z51:=Tryz.sizeOf395
 v51:=Tryz.zeroValue395
 t146:=Tryz.underlying396
 a146:=Tryz.isAgg396
 z146:=Tryz.sizeOf396
 v146:=Tryz.zeroValue396
 g1:=by kernel_rfl }
open Go.RowKit Go.Lib in
theorem Tryz.stringslite_Index_one (s:ByteArray) (c:UInt8) (w:World):
    Calls Tryz.prog 321 #[.string s,.string ⟨#[c]⟩] w fun e w'=>e=.returned (.int .i64 (Lib.indexByte s.data.toList c))/\w'=w:=Any.stringslite_Index_one Tryz.lays219 s c w
def Tryz.lays144_ren:Go.Shelf.Ren:=⟨fun|144=>211|143=>273|219=>321|217=>359|225=>360|224=>361|267=>362|266=>382|314=>383|n=>n,fun|9=>9|4=>4|3=>3|5=>5|46=>221|146=>396|51=>395|n=>n,fun|1=>0|n=>n⟩
theorem Tryz.lays144:Go.Proofs.Lays.n144 Tryz.prog Tryz.lays144_ren:={
 mixed:=by kernel_rfl
 f143:=Tryz.func273.trans (congrArg some (by kernel_rfl))
 f144:=Tryz.func211.trans (congrArg some (by kernel_rfl))
 f217:=Tryz.func359.trans (congrArg some (by kernel_rfl))
 f219:=Tryz.func321.trans (congrArg some (by kernel_rfl))
 f224:=Tryz.func361.trans (congrArg some (by kernel_rfl))
 f225:=Tryz.func360.trans (congrArg some (by kernel_rfl))
 f266:=Tryz.func382.trans (congrArg some (by kernel_rfl))
 f267:=Tryz.func362.trans (congrArg some (by kernel_rfl))
 f314:=Tryz.func383.trans (congrArg some (by kernel_rfl))
 t3:=Tryz.underlying3
 a3:=Tryz.isAgg3
 z3:=Tryz.sizeOf3
 v3:=Tryz.zeroValue3
 t4:=Tryz.underlying4
 a4:=Tryz.isAgg4
 z4:=Tryz.sizeOf4
 v4:=Tryz.zeroValue4
 t5:=Tryz.underlying5
 a5:=Tryz.isAgg5
 z5:=Tryz.sizeOf5
 v5:=Tryz.zeroValue5
 t9:=Tryz.underlying9
 a9:=Tryz.isAgg9
 z9:=Tryz.sizeOf9
 v9:=Tryz.zeroValue9
 t46:=Tryz.underlying221
 a46:=Tryz.isAgg221
 z46:=Tryz.sizeOf221
 v46:=Tryz.zeroValue221
 t51:=Tryz.underlying395
 a51:=Tryz.isAgg395
 z51:=Tryz.sizeOf395
 v51:=Tryz.zeroValue395
 t146:=Tryz.underlying396
 a146:=Tryz.isAgg396
 z146:=Tryz.sizeOf396
 v146:=Tryz.zeroValue396
 g1:=by kernel_rfl }
open Go.RowKit Go.Lib in
theorem Tryz.strings_Contains_one (s:ByteArray) (c:UInt8) (w:World):
    Calls Tryz.prog 211 #[.string s,.string ⟨#[c]⟩] w fun e w'=>e=.returned (.bool (decide (0<=Lib.indexByte s.data.toList c)))/\w'=w:=Any.strings_Contains_one Tryz.lays144 s c w
def Tryz.lays101_ren:Go.Shelf.Ren:=⟨fun|101=>214|208=>277|206=>326|n=>n,fun|9=>9|4=>4|3=>3|n=>n,fun|n=>n⟩
theorem Tryz.lays101:Go.Proofs.Lays.n101 Tryz.prog Tryz.lays101_ren:={
 mixed:=by kernel_rfl
 f101:=Tryz.func214.trans (congrArg some (by kernel_rfl))
 f206:=Tryz.func326.trans (congrArg some (by kernel_rfl))
 f208:=Tryz.func277.trans (congrArg some (by kernel_rfl))
 t3:=Tryz.underlying3
 a3:=Tryz.isAgg3
 z3:=Tryz.sizeOf3
 v3:=Tryz.zeroValue3
 t4:=Tryz.underlying4
 a4:=Tryz.isAgg4
 z4:=Tryz.sizeOf4
 v4:=Tryz.zeroValue4
 t9:=Tryz.underlying9
 a9:=Tryz.isAgg9
 z9:=Tryz.sizeOf9
 v9:=Tryz.zeroValue9 }
open Go.RowKit Go.Lib in
theorem Tryz.strings_TrimPrefix (s p:ByteArray) (w:World):
    Calls Tryz.prog 214 #[.string s,.string p] w fun e w'=>e=.returned (.string ⟨(Lib.trimPrefix s.data.toList p.data.toList).toArray⟩)/\w'=w:=Any.strings_TrimPrefix Tryz.lays101 s p w
def Tryz.lays105_ren:Go.Shelf.Ren:=⟨fun|105=>330|212=>365|99=>366|165=>367|166=>329|170=>368|169=>331|263=>385|264=>386|206=>326|240=>364|241=>387|276=>384|277=>399|n=>n,fun|9=>9|3=>3|4=>4|20=>20|0=>0|46=>221|109=>373|5=>5|72=>347|76=>350|51=>395|146=>396|53=>379|148=>401|70=>345|37=>194|75=>349|127=>377|164=>398|80=>264|n=>n,fun|n=>n⟩
theorem Tryz.lays105:Go.Proofs.Lays.n105 Tryz.prog Tryz.lays105_ren:={
 mixed:=by kernel_rfl
 f99:=Tryz.func366.trans (congrArg some (by kernel_rfl))
 f105:=Tryz.func330.trans (congrArg some (by kernel_rfl))
 f165:=Tryz.func367.trans (congrArg some (by kernel_rfl))
 f166:=Tryz.func329.trans (congrArg some (by kernel_rfl))
 f169:=Tryz.func331.trans (congrArg some (by kernel_rfl))
 f170:=Tryz.func368.trans (congrArg some (by kernel_rfl))
 f206:=Tryz.func326.trans (congrArg some (by kernel_rfl))
 f212:=Tryz.func365.trans (congrArg some (by kernel_rfl))
 f240:=Tryz.func364.trans (congrArg some (by kernel_rfl))
 f241:=Tryz.func387.trans (congrArg some (by kernel_rfl))
 f263:=Tryz.func385.trans (congrArg some (by kernel_rfl))
 f264:=Tryz.func386.trans (congrArg some (by kernel_rfl))
 f276:=Tryz.func384.trans (congrArg some (by kernel_rfl))
 f277:=Tryz.func399.trans (congrArg some (by kernel_rfl))
 t0:=Tryz.underlying0
 a0:=Tryz.isAgg0
 z0:=Tryz.sizeOf0
 v0:=Tryz.zeroValue0
 t3:=Tryz.underlying3
 a3:=Tryz.isAgg3
 z3:=Tryz.sizeOf3
 v3:=Tryz.zeroValue3
 t4:=Tryz.underlying4
 a4:=Tryz.isAgg4
 z4:=Tryz.sizeOf4
 v4:=Tryz.zeroValue4
 t5:=Tryz.underlying5
 a5:=Tryz.isAgg5
 z5:=Tryz.sizeOf5
 v5:=Tryz.zeroValue5
 t9:=Tryz.underlying9
 a9:=Tryz.isAgg9
 z9:=Tryz.sizeOf9
 v9:=Tryz.zeroValue9
 t20:=Tryz.underlying20
 a20:=Tryz.isAgg20
 z20:=Tryz.sizeOf20
 v20:=Tryz.zeroValue20
 t37:=Tryz.underlying194
 a37:=Tryz.isAgg194
 z37:=Tryz.sizeOf194
 v37:=Tryz.zeroValue194
 t46:=Tryz.underlying221
 a46:=Tryz.isAgg221
 z46:=Tryz.sizeOf221
 v46:=Tryz.zeroValue221
 t51:=Tryz.underlying395
 a51:=Tryz.isAgg395
 z51:=Tryz.sizeOf395
 v51:=Tryz.zeroValue395
 t53:=Tryz.underlying379
 a53:=Tryz.isAgg379
 z53:=Tryz.sizeOf379
 v53:=Tryz.zeroValue379
 t70:=Tryz.underlying345
 a70:=Tryz.isAgg345
 z70:=Tryz.sizeOf345
 v70:=Tryz.zeroValue345
 t72:=Tryz.underlying347
 a72:=Tryz.isAgg347
 z72:=Tryz.sizeOf347
 v72:=Tryz.zeroValue347
 t75:=Tryz.underlying349
 a75:=Tryz.isAgg349
 z75:=Tryz.sizeOf349
 v75:=Tryz.zeroValue349
 t76:=Tryz.underlying350
 a76:=Tryz.isAgg350
 z76:=Tryz.sizeOf350
 v76:=Tryz.zeroValue350
 t109:=Tryz.underlying373
 a109:=Tryz.isAgg373
 z109:=Tryz.sizeOf373
 v109:=Tryz.zeroValue373
 t127:=Tryz.underlying377
 a127:=Tryz.isAgg377
 z127:=Tryz.sizeOf377
 v127:=Tryz.zeroValue377
 t146:=Tryz.underlying396
 a146:=Tryz.isAgg396
 z146:=Tryz.sizeOf396
 v146:=Tryz.zeroValue396
 t148:=Tryz.underlying401
 a148:=Tryz.isAgg401
 z148:=Tryz.sizeOf401
 v148:=Tryz.zeroValue401
 t164:=Tryz.underlying398
 a164:=Tryz.isAgg398
 z164:=Tryz.sizeOf398
 v164:=Tryz.zeroValue398 }
theorem Tryz.Builder_Extra_105:Builder.Extra Tryz.prog Tryz.lays105_ren:={
 sizeBuilder:=by kernel_rfl
 liesBuilder:=by kernel_rfl
 t5:=Tryz.underlying5
 a5:=Tryz.isAgg5
 z5:=Tryz.sizeOf5
 v5:=Tryz.zeroValue5
 infoByte:=by kernel_rfl
 cellsByte:=by kernel_rfl
 sizeByte:=by kernel_rfl
 neB5:=by decide }
open Go.RowKit Go.Lib in
theorem Tryz.strings_Repeat (s:ByteArray) (c:Nat) (w:World) (hc:c<=9223372036854775807) (hlen:s.size*c<=140737488355328):
    Calls Tryz.prog 330 #[.string s,.int .i64 c] w fun e w'=>e=.returned (.string ⟨(Lib.repeatL s.data.toList c).toArray⟩)/\Below w.heap.size w w':=Any.strings_Repeat Tryz.lays105 Tryz.Builder_Extra_105 s c w hc hlen
end Go.Proofs
end
namespace Go.Proofs.YtkfhgjihlbilpaaGreatDoor
open Go.Aw Go.Aw.D Go.Proofs Ty
namespace Nu
open Go.Proofs.Tryz
open Go.Nu Go.RowKit Go.Sort
def zW{T e:TypeId}{B b:Nat}{bs:List Value}{w w':World}(h:Lib.IsBuilder T e B b bs w)(J:Below w.heap.size w w'):Lib.IsBuilder T e B b bs w':=by
 have A:∀p,Lib.BuilderAt T e B b p bs w->Lib.BuilderAt T e B b p bs w':=by
  rintro p ⟨h1,v,F,E,X⟩;refine⟨h1,v,?_,⟨E.1,?_⟩,X⟩
  ·rw[J.block b (Array.getElem?_eq_some_iff.1 F).1];exact F
  ·rcases E.2 with Z|⟨g,cap,cur,U,O,I,Y⟩
   ·grind
   ·exact .inr ⟨g,cap,cur,U,O,by rw[J.block g (Array.getElem?_eq_some_iff.1 I).1];exact I,Y⟩
 exact h.imp (A _) (A _)
def qP{w:World}(k:Nat)(os:Array Obj):Below w.heap.size w (grow (w.drewN k) os):=by
 refine⟨rfl,rfl,rfl,?_,fun i A=>?_⟩
 all_goals grind[grow,World.heap_drewN]
def PG{T e:TypeId}{B b:Nat}{l:List UInt8}{s:ByteArray}{w:World}(h:Lib.BuilderAt T e B b (.pointer (some ⟨b,0,none⟩)) (Lib.byteCells l++Lib.strCells s) w):Lib.IsBuilder T e B b (Lib.byteCells (l++bl s)) w:=by rw[Lib.strCells_eq,<-Lib.byteCells_append]at h;exact .inr h
def zP(B b:Nat)(l:List UInt8)(s:ByteArray)(w:World)(h:Lib.IsBuilder 347 5 B b (Lib.byteCells l) w)(E:l.length+s.size<=140737488355328)(A:B<=w.heap.size):
  Calls prog 329 #[.pointer (some ⟨b,0,none⟩),.string s] w fun e w'=>e=.returned (.tuple #[.int .i64 s.size,.nilIface])/\Lib.IsBuilder 347 5 B b (Lib.byteCells (l++bl s)) w'/\Below B w w':=
 (Any.Builder_WriteString (P:=prog) (ρ:=Tryz.lays105_ren) { Tryz.lays105 with } Tryz.Builder_Extra_105 B b (Lib.byteCells l) s w h (by grind[Lib.byteCells_length]) A).mono fun e w' ⟨J,F,I⟩=>⟨J,PG F,I⟩
def atY{l:List Nat}(h:Lim bas l)(K:Nat)(A:l.length<=K)(h1:1<=K):(Lib.decDigits (ofL bas l)).length<=9*K:=by refine(lP (by omega)).2 (Xax (lE (by decide) h) ?_);simp_all[Nat.pow_mul,Xah]
def MO(n k:Nat):List UInt8:=Lib.decDigits (ofL bas ((bB bas n).drop k))
def aeB{n k x:Nat}(E:k+1<(bB bas n).length)(A:(bB bas n)[k]?=some x):MO n k=MO n (k+1)++aB4 x:=by
 have h1:=cL (b:=bas) (by decide) n x (Xab A);unfold MO;rw[Gv bas A]
 grind[akZ,aoK]
set_option maxHeartbeats 1600000 in
theorem TK (n:Nat) (w:World) (b o c:Nat) (aa:(bB bas n).length<=1048576) (ae:0<(bB bas n).length)
    (hz:∀(i x:Nat),(bB bas n)[i]?=some x->w.cell? ⟨b,o+i,none⟩=some (.int .i64 x)) (hb:b<w.heap.size)
    (I:Lib.TabIs prog w "internal/strconv.uint64pow10" .u64 Lib.pow10Tab):
    Calls prog 283 #[.slice (some ⟨b,o,none⟩) (bB bas n).length c] w fun e w'=>e=.returned (.string (dec n))/\Below w.heap.size w w':=by
  obtain⟨L,hL⟩:∃L,(bB bas n).length=L:=⟨_,rfl⟩
  have h0:Lib.IsBuilder 347 5 w.heap.size w.heap.size (Lib.byteCells []) (w.alloc (.cells #[.pointer none,.slice none 0 0] 347)):=Lib.fresh_isBuilder 347 5 w
  have b0:Below w.heap.size w (w.alloc (.cells #[.pointer none,.slice none 0 0] 347)):=(Below.refl _ w).alloc (Xae _) _
  obtain⟨T,O⟩:=aK (show L-1<(bB bas n).length by omega)
  have an:=hz _ _ O
  have ac:=cL (b:=bas) (by decide) n T (Xab O)
  have ac:T<1000000000:=ac
  rw[hL]
  rw[hL]at ae aa
  have am:((L:Int) == 0)=false:=by grind
  go_enter func283,Tryz.ntmps283
  go_wp2_with (go_at_call 226;refine(Tryz.strconv_Itoa (T:Int) (by omega) (by omega) _ (Lib.tabIs_alloc I _)).mono ?_)
  rintro e U ⟨rfl,k,os,rfl⟩
  have Y:Below w.heap.size w (grow ((w.alloc (.cells #[.pointer none,.slice none 0 0] 347)).drewN k) os):=b0.trans ⟨rfl,rfl,rfl,(qP k os).size,fun i hi=>(qP k os).block i (Xax hi b0.size)⟩
  have h1:=zW h0 (qP k os)
  generalize grow _ os=U at *
  have hI:∀x:Nat,(Lib.itoa (x:Int))=Lib.decDigits x:=Lib.itoa_nonneg
  have ah:∀x:Nat,x<1000000000->(Lib.decDigits x).length<=9:=fun x X=>(lP (k:=9) (by omega)).2 X
  have ab:MO n (L-1)=Lib.decDigits T:=by
    unfold MO
    rw[Gv bas O,show L-1+1=L by omega,<-hL,Xbr]
    rfl
  have al:(⟨(Lib.itoa (T:Int)).toArray⟩:ByteArray).size<=9:=by grind[eA,mY]
  have cW:=zP w.heap.size w.heap.size [] _ U h1 (by grind:([]:List UInt8).length+(⟨(Lib.itoa (T:Int)).toArray⟩:ByteArray).size<=_) Y.size
  go_wp2_with (go_at_call 329;refine cW.mono ?_)
  rintro e W2 ⟨rfl,h2,b2⟩
  rw[Xbi,mY,hI,<-ab]at h2
  have b2:=Y.trans b2
  have ai:∀k,(MO n k).length<=9437184:=fun k=>by
    have:=atY ((cL (b:=bas) (by decide) n).drop k) 1048576 (by grind) (by omega)
    grind[MO]
  go_wp2
  go_loopg [4] (L-1) (fun g s4 wx=>∃k:Nat,k<=L-1/\g=k/\s4=.int .i64 ((k:Int)-1)/\Lib.IsBuilder 347 5 w.heap.size w.heap.size (Lib.byteCells (MO n k)) wx/\Below w.heap.size w wx)
  case atStart=>grind
  case round=>
    obtain⟨_,hk,rfl,rfl,hB,A⟩:=hrel
    cases gk with
    | zero=>
      have aj:MO n 0=Lib.decDigits n:=by unfold MO;rw[Xbg,cQ (by decide)]
      rw[aj]at hB
      have cS:=Tryz.Builder_String_any w.heap.size w.heap.size (Lib.decDigits n) wr hB A.size
      go_wp2_with (go_at_call 331;refine cS.mono ?_)
      rintro e W3 ⟨rfl,E⟩
      go_wp2
      go_ret
      exact⟨rfl,A.trans E⟩
    | succ i=>
      obtain⟨x,X⟩:=aK (show i<(bB bas n).length by omega)
      have hl:=(A.cell hb).trans (hz i x X)
      have af:x<1000000000:=cL (b:=bas) (by decide) n x (Xab X)
      have ag:(((i+1:Nat):Int)-1)=(i:Int):=by omega
      have J:=aeB (n:=n) (by omega) X
      have ak:Lib.TabIs prog wr "internal/strconv.uint64pow10" .u64 Lib.pow10Tab:=Go.Joins.tab_stays (g:=1) (by rfl) I A (Xae _)
      have ao:=ai (i+1)
      rw[ag]
      go_wp2_with (go_at_call 226;refine(Tryz.strconv_Itoa (x:Int) (by omega) (by omega) _ ak).mono ?_)
      rintro e U ⟨rfl,k,os,rfl⟩
      have Y:Below w.heap.size w (grow (wr.drewN k) os):=A.trans ⟨rfl,rfl,rfl,(qP k os).size,fun i hi=>(qP k os).block i (Xax hi A.size)⟩
      have h1:=zW hB (qP k os)
      generalize grow _ os=U at *
      have ap:=ah x af
      rw[hI x]
      go_wp2_with (go_at_call 330;fail)
      have e9:(9:Int)-((Lib.decDigits x).length:Nat)=((9-(Lib.decDigits x).length:Nat):Int):=by omega
      rw[e9]
      refine(Tryz.strings_Repeat ⟨#[48]⟩ (9-(Lib.decDigits x).length) U (by omega) (by show 1*_<=_;omega)).mono ?_
      rintro e W3 ⟨rfl,E⟩
      have h3:=zW h1 E
      have E:Below w.heap.size w W3:=Y.trans ⟨E.os,E.tape,E.output,E.size,fun i hi=>E.block i (Xax hi Y.size)⟩
      have F:bl ⟨(Lib.repeatL (⟨#[48]⟩:ByteArray).data.toList (9-(Lib.decDigits x).length)).toArray⟩=List.replicate (9-(Lib.decDigits x).length) 48:=by
        rw[mY]
        have:=Lib.repeatL_replicate 48 1 (9-(Lib.decDigits x).length)
        rwa [Nat.mul_one]at this
      generalize (⟨(Lib.repeatL (⟨#[48]⟩:ByteArray).data.toList (9-(Lib.decDigits x).length)).toArray⟩:ByteArray)=Z at *
      have hZ:Z.size<=9:=by rw[<-eA,F,List.length_replicate];omega
      have cW:=zP w.heap.size w.heap.size _ Z W3 h3 (by omega) E.size
      go_wp2_with (go_at_call 329;refine cW.mono ?_)
      rintro e W4 ⟨rfl,h4,b4⟩
      have b4:=E.trans b4
      have hX:(⟨(Lib.decDigits x).toArray⟩:ByteArray).size<=9:=by rw[<-eA,mY];omega
      have cW:=zP w.heap.size w.heap.size _ ⟨(Lib.decDigits x).toArray⟩ W4 h4 (by rw[Xar,eA];omega) b4.size
      go_wp2_with (go_at_call 329;refine cW.mono ?_)
      rintro e W5 ⟨rfl,h5,b5⟩
      have b5:=b4.trans b5
      rw[Xaw,F,mY]at h5
      go_wp2
      go_roundg i
      case measure=>omega
      case rel=>exact⟨i,by omega,rfl,rfl,by rw[J];exact h5,b5⟩
def SE{S:Sg}{w:World}{b:Nat}:∀{l:List Nat} {o sz:Nat},0<sz->jX S w b sz o (l.map gK)->∀(i x:Nat),l[i]?=some x->w.cell? ⟨b,o+i,none⟩=some (.int .i64 x)
 | [],_,_,_,_,i,x,h=>by grind
 | y::l,o,sz,hp,h,i,x,hx=>by
  simp only[Xav,jX]at h;obtain⟨h1,E,F⟩:=h;have h1:sz=1:=h1.symm;subst h1;cases i with
  | zero=>simp only[List.getElem?_cons_zero,Option.some.injEq]at hx;subst hx;simp only[gK,dS]at E;obtain⟨⟨u,I,_,A⟩,_⟩:=E;simp only[rep]at A;subst A;exact I
  | succ i=>
   have:=SE (by omega) F i x (by simpa using hx)
   rwa [Nat.add_assoc,Nat.add_comm 1 i]at this
def apR{w:World}(h:∀t∈aiN,wT w t.1=some t.2):Lib.TabIs prog w "internal/strconv.uint64pow10" .u64 Lib.pow10Tab:=by have h1:=h (1,apM) (by simp[aiN]);unfold Lib.TabIs World.var?;rw[show prog.globalNamed "internal/strconv.uint64pow10" = some 1 by rfl];exact h1
def Ll(n:Nat)(E:(bB bas n).length<=1048576):PC prog 283 [nl n] (str (dec n)):=by
 by_cases h0:n=0
 ·subst h0;rw[QO];refine pcd func283 rfl rfl ?_;simp only[go_sem];refine aA (fun h=>?_) (fun h=>by simp at h);simp only[go_sem];refine cS ?_;refine mQ ?_;rw[kS,Lib.decDigits_one (by omega)];rfl
 ·intro S w vals F hf Y;simp only[bR,rep]at Y;obtain⟨y,t,rfl,⟨ad,m,c,rfl,Z,e2,e3,e4⟩,rfl⟩:=Y;have X:bB bas n≠[]:=fun e=>h0 ((tB (by decide)).1 e)
  have J:=List.length_pos_iff.2 X;rw[Xac]at Z;rcases e4 with e4|⟨b,o,sz,rfl,O,T,I⟩
  ·simp_all
  ·subst Z;refine(TK n w b o c E J (SE T I) (F.l9 b (F.ι b O)) (apR fun t ht=>(F.tabs t ht).2)).mono fun e w' ⟨he,A⟩=>?_
   exact⟨_,_,bN,S,he,rfl,F.after A.size fun k U=>A.block k U,by rfl,F.grow A.os A.tape A.output A.size fun k U=>A.block k U,hY.refl _ _⟩
def FV(n:Nat)(A:(bB bas n).length<=1048576):PC prog 276 [nl n] (.tup [str (szN n).1,int (szN n).2]):=by
 refine pcd func276 rfl rfl ?_;simp only[go_sem];refine aL (Ll n A) ?_;simp only[go_sem];have E:=kW n;refine aA (fun h=>?_) (fun h=>?_)
 ·have h:4096<(dec n).size:=by grind
  simp only[go_sem];rw[show szN n=(emp,4)from if_neg fun e=>by omega];exact .refl _
 ·have h:(dec n).size<=4096:=by grind
  simp only[go_sem];rw[Bt (E.1 h)];exact .refl _
end Nu
namespace Nu
open Go.Proofs.Tryz
open Go.Nu
def YY{n K:Nat}(h:n<cN)(A:aqO<=9*K):(bB bas n).length<=K:=by refine iZ (b:=bas) (k:=K) (by decide) (Xax h ?_);rw[show bas=10^9 from rfl,<-Nat.pow_mul];exact Xah (show 0<10 by omega) A
def nV{n:Nat}(h:n<cN):(bB bas n).length<=457:=YY h (by decide)
def alI{H:aM}{o l:List Nat}(h:l=o):ConvE H (cF o).es (l.map gK):=h▸ConvE.refl _
def NB:∀l:List Nat,pO l=l.take (pO l).length
 | []=>rfl
 | x::l=>by
  have ih:=NB l;rw[pO];split
  ·split <;> rfl
  ·rename_i y t e;rw[e]at ih;simp only[Xag,List.take_succ_cons]
   congr 1
theorem ahG{l:List Nat}(h:l.length<=(pO l).length):pO l=l:=by rw[NB l,Xai h]
def aqG(a b:ByteArray)(ha:a.size<=1048576)(J:b.size<=1048576):PC prog 221 [str a,str b] (.tup [str (WJ a b).1,int (WJ a b).2]):=by
 refine pcb (fun t=>t == 9) func221 rfl rfl ?_;simp only[go_sem];refine aL (L2 a b ha J) ?_;simp only[go_sem];apply aA <;> intro h
 ·have h:kY a b≠0:=by grind
  simp only[go_sem];rw[show WJ a b=(emp,kY a b)from if_neg h];exact .refl _
 have h:kY a b=0:=by grind
 obtain⟨m,n,rfl,rfl,hm,hn⟩:=sX h;have ae:=nV hm;have ac:=nV hn;simp only[go_sem,Ko h,eG];rw[show WJ (dec m) (dec n)=szN (m+n)by simp_all[WJ,eG]];have om:=cQ (b:=bas) (by decide) m;have on:=cQ (b:=bas) (by decide) n;have lm:=cL (b:=bas) (by decide) m;have ln:=cL (b:=bas) (by decide) n;have T:(bB bas m).length<=(bB bas m).length:=Xae _;have U:(bB bas n).length<=(bB bas n).length:=Xae _;obtain⟨x,hx⟩:∃x,bB bas m=x:=⟨_,rfl⟩;obtain⟨y,hy⟩:∃y,bB bas n=y:=⟨_,rfl⟩;have T:x.length<=(bB bas m).length:=by grind
 have U:y.length<=(bB bas n).length:=by grind
 rw[hx]at om lm ae;rw[hy]at on ln ac;simp only[hx,hy];refine aH fun j hj=>?_
 refine⟨fun ρ H=>∃(i j c:Nat) (o:List Nat),i<=max x.length y.length+1/\ρ 6=.sl (x.map gK)/\ρ 7=.sl (y.map gK)/\ρ 9=.os j/\ρ 10=int c/\ρ 11=int i/\H j=some (cF o)/\Lim bas o/\o.length=i/\c<=1/\ofL bas o+bas^i*c=ofL bas (x.take i)+ofL bas (y.take i)/\(i=max x.length y.length+1->c=0/\bas^max x.length y.length<=m+n),fun ρ _=>max x.length y.length+1-aT (ρ 11),
  ⟨0,j,0,[],Xaa _,rfl,rfl,rfl,by simp only[go_sem];rfl,by simp only[go_sem];rfl,DR,by simp[Lim],rfl,by omega,by simp[ofL],by omega⟩,?_⟩
 rintro ρ H ⟨i,j,c,o,hi,h6,h7,h9,X,A,Rj,ho,Y,hc,hv,E⟩;have O:fX (x.length:Int) (y.length:Int)=((max x.length y.length:Nat):Int):=by grind[fX]
 simp only[go_sem,h6,h7,X,A,O];apply aA <;> intro J
 ·have J:i<max x.length y.length\/0<c:=by grind
  have ai:i<=max x.length y.length:=by omega
  have ah:x.getD i 0<1000000000:=lm.getD (by decide) i;have ak:y.getD i 0<1000000000:=ln.getD (by decide) i;have Z:=Uc (b:=bas) (by decide) Y hv;have I:i+1=max x.length y.length+1->(x.getD i 0+y.getD i 0+c)/bas=0/\bas^max x.length y.length<=m+n:=fun e=>by
   have e:i=max x.length y.length:=by omega
   have ab:x.getD i 0=0:=by grind
   have af:y.getD i 0=0:=by grind
   have aa:c=1:=by omega
   rw[ab,af,aa]
   grind[Xai]
  simp only[go_sem,h6,A];refine aL (VW x i (by omega)) ?_;simp only[go_sem,h7,A];refine aL (VW y i (by omega)) ?_;have e1:IntKind.i64.wrap (IntKind.i64.wrap (((x.getD i 0:Nat):Int)+((y.getD i 0:Nat):Int))+(c:Int))=((x.getD i 0+y.getD i 0+c:Nat):Int):=by rw[show IntKind.i64.wrap (((x.getD i 0:Nat):Int)+((y.getD i 0:Nat):Int))=((x.getD i 0:Nat):Int)+((y.getD i 0:Nat):Int)from aW (by omega),aW (by omega)];omega
  have e2:IntKind.i64.wrap ((((x.getD i 0+y.getD i 0+c:Nat):Int)).tdiv 1000000000)=(((x.getD i 0+y.getD i 0+c)/1000000000:Nat):Int):=by grind[aW]
  have e3:(((x.getD i 0+y.getD i 0+c:Nat):Int)).tmod 1000000000=(((x.getD i 0+y.getD i 0+c)%1000000000:Nat):Int):=by rfl
  have hq:(x.getD i 0+y.getD i 0+c)/1000000000<=1:=by omega
  simp only[go_sem,h9,X,e1,e3];refine⟨by decide,?_⟩;refine aU Rj ⟨rfl,rfl⟩ ⟨rfl,trivial⟩ (by grind[cF]) (fun j' aj=>?_);simp only[go_sem,h6,h7,A,e2,aQ i];exact⟨by decide,⟨i+1,j',_,o++[(x.getD i 0+y.getD i 0+c)%bas],by omega,rfl,rfl,rfl,sB,ho.snoc (Xbh _ (by decide)),by grind,hq,Z,I⟩,by grind[aJ]⟩
 ·have J:max x.length y.length<=i/\c=0:=by grind
  obtain⟨J,rfl⟩:=J;rw[Nat.mul_zero,Nat.add_zero,Xai (by omega),Xai (by omega),om,on]at hv;have ht:=P0 (b:=bas) (by decide) ho hv;have ag:o.length<=(bB bas (m+n)).length:=by
   rcases Xbd (max x.length y.length) i with h|h
   ·have:=Rg (b:=bas) (by decide) (E (by omega)).2;omega
   ·rw[Y,show i=max x.length y.length by omega];exact Nat.max_le.2 ⟨Xaf T (cO (by decide) (Nat.le_add_right m n)),Xaf U (cO (by decide) (Nat.le_add_left n m))⟩
  have F:bB bas (m+n)=o:=by grind[ahG]
  simp only[go_sem,h9,];refine PC.useF [j] (.cons _ _ _ _ (.row _ _ _ (by grind) (alI F)) .nil) (FV (m+n) (by grind)) ?_;simp only[go_sem];exact .refl _
def asF(a b:ByteArray)(O:a.size<=1048576)(X:b.size<=1048576):PC prog 222 [str a,str b] (.tup [str (W8 a b).1,int (W8 a b).2]):=by
 refine pcd func222 rfl rfl ?_;simp only[go_sem];refine aL (L2 a b O X) ?_;simp only[go_sem];apply aA <;> intro h
 ·have h:kY a b≠0:=by grind
  simp only[go_sem];rw[show W8 a b=(emp,kY a b)from if_neg h];exact .refl _
 have h:kY a b=0:=by grind
 obtain⟨m,n,rfl,rfl,T,Y⟩:=sX h;have U:=nV T;have J:=nV Y;simp only[go_sem,Ko h,eG];have e:W8 (dec m) (dec n)=if m<n then(emp,2)else szN (m-n):=by simp_all[W8,eG]
 rw[e];refine aL (GL m n (by omega) (by omega)) ?_;simp only[go_sem];apply aA <;> intro A
 ·have F : m < n := by
   rcases Xbd m n with E|E
   ·exact E
   ·exfalso;have A:=of_decide_eq_true A;unfold iH at A;omega
  simp only[go_sem];rw[if_pos F];exact .refl _
 ·have I:¬m<n:=fun E=>of_decide_eq_false A (by grind[mB])
  simp only[go_sem];rw[if_neg I];refine aL (JV m n (by omega) (by omega)) ?_;simp only[go_sem];refine aL (FV (m-n) (by have:=cO (b:=bas) (by decide) (Nat.sub_le m n);omega)) ?_;simp only[go_sem];exact .refl _
def aAj(a b:ByteArray)(E:a.size<=1048576)(J:b.size<=1048576):PC prog 220 [str a,str b] (.tup [str (Fl a b).1,str (Fl a b).2.1,int (Fl a b).2.2]):=by
 refine pcd func220 rfl rfl ?_;simp only[go_sem];refine aL (L2 a b E J) ?_;simp only[go_sem];apply aA <;> intro h
 ·have h:kY a b≠0:=by grind
  simp only[go_sem];rw[show Fl a b=(emp,emp,kY a b)from if_neg h];exact .refl _
 have h:kY a b=0:=by grind
 obtain⟨m,n,rfl,rfl,F,O⟩:=sX h;have I:=nV F;have A:=nV O;simp only[go_sem,Ko h,eG,Xac];have e:Fl (dec m) (dec n)=if n=0 then(emp,emp,10)else(dec (m/n),dec (m%n),0):=by simp_all[Fl,eG]
 rw[e];apply aA <;> intro T
 ·have h0:n=0:=(tB (b:=bas) (by decide)).1 (by simp_all);simp only[go_sem];rw[if_pos h0];exact .refl _
 ·have h0:n≠0:=fun e=>by grind[eZ]
  simp only[go_sem];rw[if_neg h0];refine aL (U3 m n (by omega) (by omega) (by omega)) ?_;simp only[go_sem];refine aL (Ll (m/n) (by have:=cO (b:=bas) (by decide) (Xbv m n);omega)) ?_;simp only[go_sem];refine aL (Ll (m%n) (by have:=cO (b:=bas) (by decide) (Nat.mod_le m n);omega)) ?_;simp only[go_sem];exact .refl _
def aqQ(a b:ByteArray)(X:a.size<=1048576)(T:b.size<=1048576):PC prog 213 [str a,str b] (.tup [str (Ce a b).1,int (Ce a b).2]):=by
 refine pcd func213 rfl rfl ?_;simp only[go_sem];refine aL (L2 a b X T) ?_;simp only[go_sem];apply aA <;> intro h
 ·have h:kY a b≠0:=by grind
  simp only[go_sem];rw[show Ce a b=(emp,kY a b)from if_neg h];exact .refl _
 have h:kY a b=0:=by grind
 obtain⟨m,n,rfl,rfl,Y,Z⟩:=sX h;have J:=nV Y;have I:=nV Z;simp only[go_sem,Ko h,eG];have e:Ce (dec m) (dec n)=szN (Nat.gcd m n):=by simp_all[Ce,eG]
 rw[e];refine⟨fun ρ _=>∃p q:Nat,ρ 6=nl p/\ρ 7=nl q/\(bB bas p).length<=457/\(bB bas q).length<=457/\Nat.gcd p q=Nat.gcd m n,fun ρ _=>match ρ 7 with| .sl es=>ofL bas (es.map fun c=>aT (c.getD 0 .any))|_=>0,⟨m,n,rfl,rfl,J,I,rfl⟩,?_⟩;rintro ρ H ⟨p,q,U,F,aa,A,O⟩;have ab:∀q:Nat,ofL bas (((bB bas q).map gK).map fun c=>aT (c.getD 0 .any))=q:=fun q=>by rw[List.map_map,show((fun c:List AV=>aT (c.getD 0 .any)) ∘ gK)=id from funext fun n=>by rfl,List.map_id,cQ (by decide)]
 simp only[go_sem,F,Xac];apply aA <;> intro T
 ·have E:0<q:=by grind[eZ]
  simp only[go_sem,U,F];refine aL (U3 p q (by omega) E (by omega)) ?_;simp only[go_sem,F];refine⟨⟨q,p%q,rfl,rfl,A,Xaf (cO (by decide) (Nat.le_of_lt (Xbh p E))) A,?_⟩,?_⟩
  ·grind[Nat.gcd_comm,Nat.gcd_rec]
  simp_all[Xbh]
 ·have E : q = 0 := by
   have:(bB bas q).length=0:=by grind
   simp_all[tB,bas]
  subst E;simp only[go_sem,U];rw[Nat.gcd_zero_right]at O;rw[<-O];refine aL (FV p (by omega)) ?_;simp only[go_sem];exact .refl _
def Zz{b:Nat}(I:0<b){l:List Nat}{q p:Nat}(h:ofL b l<b^q)(A:q<=p)(E:p<l.length):l[p]?=some 0:=by
 obtain⟨x,F⟩:=aK E;rcases Nat.eq_zero_or_pos x with h0|h0
 ·grind
 ·exfalso;have J:ofL b l=ofL b (l.take p)+b^p*ofL b (l.drop p):=by grind[tT,Xbt]
  rw[Gv b F]at J;have h1:b^p*1<=b^p*(x+b*ofL b (l.drop (p+1))):=Nat.mul_le_mul_left _ (by omega);have O:b^q<=b^p:=Xah I A;omega
def aAI(a b:ByteArray)(ha:a.size<=1048576)(hb:b.size<=1048576):PC prog 363 [str a,str b] (.tup [str (Yc a b).1,int (Yc a b).2]):=by
 refine pcb (fun t=>t == 9) func363 rfl rfl ?_;simp only[go_sem];refine aL (L2 a b ha hb) ?_;simp only[go_sem];refine aA (fun h=>?_) (fun h=>?_)
 ·have h:kY a b≠0:=by grind
  simp only[go_sem];rw[show Yc a b=(emp,kY a b)from if_neg h];exact .refl _
 have h:kY a b=0:=by grind
 obtain⟨m,n,rfl,rfl,hm,hn⟩:=sX h;have an:=nV hm;have am:=nV hn;simp only[go_sem,Ko h,eG,Xac];rw[show Yc (dec m) (dec n)=szN (m*n)by simp_all[Yc,eG]];have om:=cQ (b:=bas) (by decide) m;have on:=cQ (b:=bas) (by decide) n;have lm:=cL (b:=bas) (by decide) m;have ln:=cL (b:=bas) (by decide) n;have al:(bB bas (m*n)).length<=(bB bas m).length+(bB bas n).length:=by refine iZ (by decide) ?_;have h1:=lE (b:=bas) (by decide) lm;have h2:=lE (b:=bas) (by decide) ln;simp_all[Nat.pow_add,Nat.mul_lt_mul'']
 obtain⟨x,hx⟩:∃x,bB bas m=x:=⟨_,rfl⟩;obtain⟨y,hy⟩:∃y,bB bas n=y:=⟨_,rfl⟩;rw[hx]at om lm an al;rw[hy]at on ln am al;have ew:IntKind.i64.wrap ((x.length:Int)+(y.length:Int))=((x.length+y.length:Nat):Int):=by grind[aW]
 simp only[hx,hy,ew];refine⟨by omega,aH fun j hj=>?_⟩;simp only[go_sem];refine⟨fun ρ H=>∃(i:Nat) (out:List Nat),i<=x.length/\ρ 7=.sl (y.map gK)/\ρ 9=.os j/\ρ 32=.sl (x.map gK)/\ρ 33=int x.length/\ρ 34=int i/\H j=some (cF out)/\Lim bas out/\out.length=x.length+y.length/\ofL bas out=ofL bas (x.take i)*ofL bas y,fun ρ _=>x.length-aT (ρ 34),
  ⟨0,List.replicate (x.length+y.length) 0,Xaa _,rfl,rfl,rfl,rfl,by rfl,?_,Lim.zeros (by decide) _,by simp,by simp[ofL,Oz]⟩,?_⟩
 ·rw[aB];simp only[cF,List.map_replicate];rfl
 rintro ρ H ⟨i,out,hi,h7,h9,U,X,I,Rj,ho,ap,hv⟩;simp only[go_sem,X,I];refine aA (fun O=>?_) (fun aa=>?_)
 ·have O:=ltB O;obtain⟨F,ag⟩:=aK O;have b1:=inB O;have aw:F<1000000000:=lm F (Xab ag);have ao:out[i+y.length]?=some 0:=by refine Zz (b:=bas) (by decide) (q:=i+y.length) ?_ (Xae _) (by omega);rw[hv,Nat.pow_add];have h1:=lE (b:=bas) (by decide) (lm.take i);rw[Xbj,Nat.min_eq_left hi]at h1;exact Nat.mul_lt_mul'' h1 (lE (b:=bas) (by decide) ln)
  simp only[go_sem,h7,U,I,aC ag,b1,Xac];refine⟨fun ρ H=>∃(k c:Nat) (o:List Nat),k<=y.length/\ρ 7=.sl (y.map gK)/\ρ 9=.os j/\ρ 10=int i/\ρ 11=int F/\ρ 12=int c/\ρ 32=.sl (x.map gK)/\ρ 33=int x.length/\ρ 34=int i/\ρ 39=.sl (y.map gK)/\ρ 40=int y.length/\ρ 41=int k/\H j=some (cF o)/\Lim bas o/\o.length=x.length+y.length/\c<1000000000/\ofL bas o+bas^(i+k)*c=ofL bas out+bas^i*(F*ofL bas (y.take k))/\o[i+y.length]?=some 0,fun ρ _=>y.length-aT (ρ 41),
   ⟨0,0,out,Xaa _,h7,h9,rfl,rfl,by rfl,U,X,I,rfl,rfl,by rfl,Rj,ho,ap,by omega,by rfl,ao⟩,?_⟩
  rintro ρ H ⟨k,c,o,hk,h7,h9,ae,ah,ai,U,X,I,ak,aj,Z,Rj,hO,av,hc,hV,hZ⟩;simp only[go_sem,aj,Z];refine aA (fun E=>?_) (fun T=>?_)
  ·have E:=ltB E;obtain⟨J,ac⟩:=aK E;have b2:=inB E;have ax:J<1000000000:=ln J (Xab ac);obtain⟨v,Y⟩:=aK (show i+k<o.length by omega);have ay:v<1000000000:=hO v (Xab Y);have b3:0<=((i+k:Nat):Int)/\((i+k:Nat):Int)<((cF o).es.length:Nat):=by grind[cF]
   have ei:IntKind.i64.wrap ((i:Int)+(k:Int))=((i+k:Nat):Int):=by grind[aW]
   have af:(cF o).es.getD (i+k) []=gK v:=aC Y;have au:F*J<=999999999*999999999:=Nat.mul_le_mul (by omega) (by omega);have aq:=Vn (b:=bas) (by decide) Y ac hV;have e1:IntKind.i64.wrap (IntKind.i64.wrap ((v:Int)+IntKind.i64.wrap ((F:Int)*(J:Int)))+(c:Int))=((v+F*J+c:Nat):Int):=by grind[aW]
   have hq:(v+F*J+c)/1000000000<1000000000:=by omega
   have e2:IntKind.i64.wrap ((((v+F*J+c:Nat):Int)).tdiv 1000000000)=(((v+F*J+c)/1000000000:Nat):Int):=by grind[aW]
   have e3:(((v+F*J+c:Nat):Int)).tmod 1000000000=(((v+F*J+c)%1000000000:Nat):Int):=by rfl
   simp only[go_sem,h9,ae,ah,ai,ak,Z,aC ac,b2,ei,Rj,b3,af,e1,e3];have A:i+k<(cF o).es.length:=by omega
   refine⟨rfl,⟨A,Nat.zero_lt_one⟩,by decide,rfl,bP so3 Rj ⟨A,rfl,Xae 1⟩ ?_⟩;generalize hP:aI H j _=HP;have ab:HP j=some (cF (o.set (i+k) ((v+F*J+c)%bas))):=by rw[<-hP,aB];exact congrArg some (Dw (q:=(v+F*J+c)%bas) Y)
   simp only[go_sem,h7,h9,ae,ah,U,X,I,ak,aj,Z,e2,aQ k];refine⟨by decide,⟨k+1,_,_,E,rfl,rfl,ab,hO.set (Xbh _ (by decide)),by grind,hq,aq,?_⟩,by grind[aJ]⟩
   grind
  ·have T:=geB hk T;subst T;have ei:IntKind.i64.wrap ((i:Int)+(y.length:Int))=((i+y.length:Nat):Int):=by grind[aW]
   have A:i+y.length<(cF o).es.length:=by grind[cF]
   have b3:0<=((i+y.length:Nat):Int)/\((i+y.length:Nat):Int)<((cF o).es.length:Nat):=by omega
   have af:(cF o).es.getD (i+y.length) []=gK 0:=aC hZ;have e1:IntKind.i64.wrap (((0:Nat):Int)+(c:Int))=(c:Int):=by grind[aW]
   simp only[go_sem,h7,h9,ae,ai,Xac,ei,Rj,b3,af,e1];refine⟨rfl,⟨A,Nat.zero_lt_one⟩,rfl,bP so3 Rj ⟨A,rfl,Xae 1⟩ ?_⟩;generalize hP:aI H j _=HP;have ab:HP j=some (cF (o.set (i+y.length) c)):=by rw[<-hP,aB];exact congrArg some (Dw (q:=c) hZ)
   have ar:=Zq (b:=bas) hZ hV;simp only[go_sem,h7,h9,U,X,I,aQ i];refine⟨⟨i+1,_,O,rfl,ab,hO.set hc,by grind,?_⟩,by grind[aJ]⟩;simp_all[lT,Nat.add_mul,Nat.mul_assoc]
 ·have aa:=geB hi aa;subst aa;simp only[go_sem,h9];rw[Xad,om,on]at hv;refine PC.useF [j] (.cons _ _ _ _ (.row _ _ _ (by simp only[Xbc,if_true];exact Rj) (ConvE.refl _)) .nil) (Nj ho (by omega) hv) ?_;simp only[go_sem];refine aL (FV (m*n) (by omega)) ?_;simp only[go_sem];exact .refl _
end Nu
namespace Nu
open Go.Proofs.Tryz
open Go.Nu
open Go.RowKit (Below)
theorem Up(s:ByteArray):Lib.hasPrefix (bl s) [45]=iI s:=by unfold Lib.hasPrefix iI;cases bl s<;>grind
def Pq(s:ByteArray):(⟨(Lib.trimPrefix (bl s) [45]).toArray⟩:ByteArray)=gG s:=by grind[Lib.trimPrefix,gG,Up,aCr]
def X2(s:ByteArray):PC prog 282 [str s,str ⟨#[45]⟩] (.tup [str (gG s),boo (iI s)]):=by
 refine PC.lib (a:=[.string s,.string ⟨#[45]⟩]) (v:=.tuple #[.string (gG s),.bool (iI s)]) (fun S w=>⟨_,rfl,⟨_,_,rfl,rfl,⟨_,_,rfl,rfl,rfl⟩⟩⟩) fun w _=>(Tryz.strings_CutPrefix s ⟨#[45]⟩ w).mono fun e w' ⟨E,A⟩=>?_
 rw[A];refine⟨E.trans ?_,Below.refl _ _⟩;rw[show s.data.toList=bl s from rfl,show(⟨#[45]⟩:ByteArray).data.toList=[45]from rfl,Pq,Up]
def CB(s:ByteArray):PC prog 214 [str s,str ⟨#[45]⟩] (str (gG s)):=by
 refine PC.lib (a:=[.string s,.string ⟨#[45]⟩]) (v:=.string (gG s)) (fun S w=>rfl) fun w _=>(Tryz.strings_TrimPrefix s ⟨#[45]⟩ w).mono fun e w' ⟨E,A⟩=>?_
 rw[A];refine⟨E.trans ?_,Below.refl _ _⟩;rw[show s.data.toList=bl s from rfl,show(⟨#[45]⟩:ByteArray).data.toList=[45]from rfl,Pq]
def YM(n:Int)(h0: -9223372036854775808<=n)(h1:n<=9223372036854775807):PC prog 226 [int n] (str (zed n)):=by
 refine PC.lib (a:=[.int .i64 n]) (v:=.string (zed n)) (fun S w=>rfl) fun w E=>(Tryz.strconv_Itoa n h0 h1 w (apR E)).mono fun e w' ⟨F,k,os,A⟩=>?_
 rw[A];exact⟨F,qP k os⟩
def Wb(a b:ByteArray):PC prog 288 [str a,str b] (int (Lib.compareBytes (bl a) (bl b))):=by
 refine PC.lib (a:=[.string a,.string b]) (v:=.int .i64 (Lib.compareBytes (bl a) (bl b))) (fun S w=>rfl) fun w _=>(Tryz.strings_Compare a b w).mono fun e w' ⟨E,A⟩=>?_
 rw[A];exact⟨E,Below.refl _ _⟩
theorem uM:(⟨#[48]⟩:ByteArray)=dec 0:=mQ (by rw[kS,Lib.decDigits_one (by omega)];rfl)
theorem FT:(⟨#[49]⟩:ByteArray)=dec 1:=mQ (by rw[kS,Lib.decDigits_one (by omega)];rfl)
theorem qK(s:ByteArray):(bl s == [48])=eqB s (dec 0):=by unfold eqB;rw[<-uM];rfl
def Ha(s:ByteArray):(bl s == [49])=eqB s (dec 1):=by unfold eqB;rw[<-FT];rfl
theorem F2(s:ByteArray):(gG s).size<=s.size:=by
 unfold gG;split
 ·grind[eA,mY]
 simp
def Fo(s:ByteArray)(h:s.size<=1048576):PC prog 218 [str s] (.tup [boo (iI s),str (gG s),boo (fN s)]):=by refine pcd func218 rfl rfl ?_;simp only[go_sem];refine aL (X2 s) ?_;simp only[go_sem];refine aL (FW (gG s) (by grind[F2])) ?_;simp only[go_sem,qK];exact .refl _
def aqV(s:ByteArray)(h:s.size<=1048576):PC prog 209 [str s] (boo (fN s)):=by refine pcd func209 rfl rfl ?_;simp only[go_sem];refine aL (Fo s h) ?_;simp only[go_sem];exact .refl _
def aBY(n:Int)(h0: -9223372036854775808<=n)(h1:n<=9223372036854775807):PC prog 159 [int n] (str (zed n)):=by refine pcd func159 rfl rfl ?_;simp only[go_sem];refine aL (YM n h0 h1) ?_;simp only[go_sem];exact .refl _
def ayW(s:ByteArray)(h:s.size<=1048576):PC prog 153 [str s] (int (CL s)):=by
 refine pcd func153 rfl rfl ?_;simp only[go_sem];refine aL (Fo s h) ?_;simp only[go_sem,qK];apply aA <;> intro I
 ·simp only[go_sem];refine cI ?_;unfold CL;by_cases A:fN s=true
  ·rw[if_pos A]
   grind[jC,nG,eG]
  grind
 ·have A:fN s=true/\eqB (gG s) (dec 0)=false:=by grind
  have J:eQ (gG s)=true:=by simp_all[fN]
  have F:0<gU (gG s):=by grind[kU,pP]
  simp only[go_sem];apply aA <;> intro E
  ·simp only[go_sem];simp_all[cI,CL,jC,Int.sign_eq_neg_one_of_neg]
  ·simp only[go_sem];simp_all[cI,CL,jC,Int.sign_eq_one_of_pos]
def sg(m:Bool)(n:Nat):Int:=if m=true then -(n:Int)else n
def ayN(m:Bool)(n:Nat):(if(m&& !eqB (dec n) (dec 0))=true then(⟨#[45]⟩:ByteArray)++dec n else dec n)=zed (sg m n):=by
 unfold sg;by_cases A:n=0
 ·subst A;rw[show eqB (dec 0) (dec 0)=true from nG.2 rfl];simp only[Xcc,Bool.and_false,Xbe,if_false];rw[<-dH];simp
 ·rw[show eqB (dec n) (dec 0)=false from pP.2 fun e=>A (tE.1 e)];cases m with
  | true=>
   simp only[Xbx,Xbk,if_true]
   grind[F4,mQ,wJ,mY,kS]
  | false=>rfl
def V3(m:Bool)(n:Nat)(I:(dec n).size<=1048576):PC prog 223 [.agg [boo m,str (dec n)]] (str (zed (sg m n))):=by
 refine pcb (fun t=>t == 1) func223 rfl rfl ?_;simp only[go_sem];refine aH fun j J=>?_
 have R:=aB bN j (some ⟨263,2,[[boo m,str (dec n)]]⟩);generalize aI bN j _=H1 at R |-;simp only[go_sem,R];have A:=ayN m n;have F:(m&& !bl (dec n) == [48])=(m&& !eqB (dec n) (dec 0)):=by rw[<-qK]
 rw[F];apply aA <;> intro E
 ·rw[if_pos E]at A;simp only[go_sem,R];refine⟨by simp_all;omega,?_⟩;exact cS A
 ·rw[if_neg (by grind)]at A;simp only[go_sem,R];exact cS A
theorem aoZ(m:Bool)(n:Nat):(sg m n).natAbs=n:=by grind[sg]
def LV(m:Bool)(n:Nat):PC prog 287 [.agg [boo m,str (szN n).1],int (szN n).2] (.tup [str (szZ (sg m n)).1,int (szZ (sg m n)).2]):=by
 by_cases E:n<cN
 ·have F:=(kW n).2 E;rw[Bt E,show szZ (sg m n)=(zed (sg m n),0)from if_pos (by grind[aoZ])];refine pcb (fun t=>t == 2) func287 rfl rfl ?_;simp only[go_sem];refine aH fun j I=>?_
  have R:=aB bN j (some ⟨263,2,[[boo m,str (dec n)]]⟩);generalize aI bN j _=H1 at R |-;simp only[go_sem];refine aA (fun A=>by cases A) (fun _=>?_);simp only[go_sem,R];refine aL (V3 m n (by omega)) ?_;simp only[go_sem];exact .refl _
 ·rw[show szN n=(emp,4)from if_neg E,show szZ (sg m n)=(emp,4)from if_neg (by grind[aoZ])];refine pcb (fun t=>t == 2) func287 rfl rfl ?_;simp only[go_sem];refine aH fun j I=>?_
  simp only[go_sem];refine aA (fun A=>?_) (fun A=>by cases A);simp only[go_sem];exact .refl _
def Jt(s:ByteArray):List AV:=[boo (iI s),str (gG s)]
def Uw(s:ByteArray):(Jt s).length=2:=(rfl)
def aAu(s:ByteArray):(Jt s).getD 0 .any=boo (iI s):=(rfl)
def aBN(s:ByteArray):(Jt s).getD 1 .any=str (gG s):=(rfl)
def aqK(s:ByteArray):(Jt s).take 2=Jt s:=(rfl)
attribute [go_sem] Uw aAu aBN aqK
def MY(l:List ByteArray):Row:=⟨263,2,l.map Jt⟩
def arH(s:ByteArray):Bool:=decide ((gG s).size>4096)
def MX(l:List ByteArray):Int:=if l.any (fun s=> !fN s)=true then 3 else if l.any arH=true then 4 else 0
def zL(l:List ByteArray):List (List AV):=if MX l=0 then l.map Jt else[]
def FM{α:Type}{q:α->Bool}{l:List α}{k:Nat}{c:α}(h:l[k]?=some c)(A:q c=true):l.any q=true:=Xaj.2 ⟨c,Xab h,A⟩
def CG{α:Type}{q:α->Bool}{l:List α}(h:∀c∈l,q c=false):l.any q=false:=by grind
def atX(l:List ByteArray)(hl:l.length<=1048576)(hs:∀s∈l,s.size<=1048576):PC prog 219 [.sl (l.map Go.Aw.D.dK)] (.tup [.sl (zL l),int (MX l)]):=by
 refine pcb (fun t=>t == 4) func219 rfl rfl ?_;simp only[go_sem];refine aH fun j hj=>?_
 simp only[go_sem];refine⟨fun ρ H=>∃(k j:Nat),k<=l.length/\ρ 12=.sl (l.map Go.Aw.D.dK)/\ρ 13=int l.length/\ρ 4=.os j/\ρ 14=int k/\H j=some (MY (l.take k))/\∀s∈l.take k,fN s=true,fun ρ _=>l.length-aT (ρ 14),
  ⟨0,j,Xaa _,rfl,rfl,rfl,by simp only[go_sem];rfl,aB _ _ _,by simp⟩,?_⟩
 rintro ρ H ⟨k,j,hk,ab,X,U,J,I,hz⟩;simp only[go_sem,X,J];refine jI hk (fun A=>?_) (fun F=>?_)
 ·obtain⟨s,E⟩:=aK A;have b1:=inB A;simp only[go_sem,ab,J,aC E,b1];refine aL (Fo s (hs s (Xab E))) ?_;simp only[go_sem,];refine aA (fun hb=>?_) (fun hb=>?_)
  ·simp only[go_sem];have e:MX l=3:=by unfold MX;grind
   rw[show zL l=[]from if_neg (by omega),e];exact .refl _
  ·simp only[go_sem,U];refine aU I ⟨rfl,rfl⟩ ⟨rfl,trivial⟩ (by grind[MY]) (fun j' ah=>?_);simp only[go_sem,ab,X,J,aQ k];refine⟨⟨k+1,j',A,rfl,rfl,?_,dW E (by grind) hz⟩,by grind[aJ]⟩;rw[aB];simp only[MY,aY E,Xaq,Xav,Xbn];rfl
 ·subst F;rw[Xad]at I hz;have hR:l.any (fun s=> !fN s)=false:=CG fun s hs=>by grind
  have aa:((MY l).es.length:Int)=l.length:=by simp[MY]
  simp only[go_sem,U,I,aa];refine⟨fun ρ H=>∃(k:Nat),k<=l.length/\ρ 4=.os j/\ρ 33=.os j/\ρ 34=int l.length/\ρ 35=int k/\H j=some (MY l)/\∀s∈l.take k,arH s=false,fun ρ _=>l.length-aT (ρ 35),
   ⟨0,Xaa _,U,rfl,rfl,by simp only[go_sem];rfl,I,by simp⟩,?_⟩
  rintro ρ H ⟨k,hk,U,ae,Z,O,I,ac⟩;simp only[go_sem,Z,O];refine aA (fun A=>?_) (fun F=>?_)
  ·have A:=ltB A;obtain⟨s,E⟩:=aK A;have b1:=inB A;have af:(MY l).es.getD k []=Jt s:=aC E;have b2:0<=(k:Int)/\(k:Int)<((MY l).es.length:Nat):=by omega
   simp only[go_sem,ae,O,I,b2,af];have T:k<(MY l).es.length:=by omega
   refine⟨rfl,⟨T,Xae 2⟩,?_⟩;refine aH fun i hi=>?_
   simp only[go_sem,];have Y:j≠i:=aV I hi;refine aG (aB _ _ _) (by simp[Uw]) ?_;generalize hG:aI (aI _ i _) i _=HG;have Ri:HG i=some (⟨263,2,[Jt s]⟩:Row):=by rw[<-hG,aB];rfl
   have ag:HG j=some (MY l):=by rw[<-hG,aF _ _ _ _ Y,aF _ _ _ _ Y];exact I
   simp only[go_sem,Ri];have hd:decide (((gG s).size:Int)>4096)=arH s:=by unfold arH;grind
   rw[hd];refine aA (fun hb=>?_) (fun hb=>?_)
   ·simp only[go_sem];have e:MX l=4:=by unfold MX;grind
    rw[show zL l=[]from if_neg (by omega),e];exact .refl _
   ·simp only[go_sem,U,ae,Z,O,aQ k];exact⟨⟨k+1,A,rfl,ag,dW E hb ac⟩,by grind[aJ]⟩
  ·have F:=geB hk F;subst F;rw[Xad]at ac;simp only[go_sem,U];have e:MX l=0:=by simp_all[MX,CG]
   rw[show zL l=l.map Jt from if_pos e,e];exact .tup _ _ (.cons _ _ _ _ (.row _ _ _ I (ConvE.refl _)) (ConvL.refl _))
end Nu
namespace Nu
open Go.Proofs.Tryz
open Go.Nu
theorem HR:∀{l r:List UInt8},l.all isD=true->r.all isD=true->l.length=r.length->Lib.compareBytes l r=iH (lC l) (lC r)
 | [],[],_,_,_=>by rfl
 | [],_::_,_,_,h=>by grind
 | _::_,[],_,_,h=>by grind
 | a::l,b::r,hl,hr,h=>by
  simp only[List.all_cons,Xak]at hl hr;simp only[Xag,Nat.add_right_cancel_iff]at h;have ih:=HR hl.2 hr.2 h;have J:lC (a::l)=(a.toNat-48)*10^l.length+lC l:=by
   have:=C4 [a] l
   grind[lC]
  have I:lC (b::r)=(b.toNat-48)*10^r.length+lC r:=by
   have:=C4 [b] r
   grind[lC]
  have h1:=JK hl.2;have T:=JK hr.2;have O:=oB.1 hl.1;have U:=oB.1 hr.1;rw[Lib.compareBytes,J,I,<-h]at *;have F:a<b↔a.toNat<b.toNat:=UInt8.lt_iff_toNat_lt;have E:b<a↔b.toNat<a.toNat:=UInt8.lt_iff_toNat_lt;split
  ·rename_i A;rw[F]at A;have:(a.toNat-48+1)*10^l.length<=(b.toNat-48)*10^l.length:=Xcb _ (by omega)
   grind[mB]
  ·split
   ·rename_i A;rw[E]at A;have:(b.toNat-48+1)*10^l.length<=(a.toNat-48)*10^l.length:=Xcb _ (by omega)
    grind[lZ]
   grind[iH]
def Kw(m n:Nat):PC prog 225 [str (dec m),str (dec n)] (int (iH m n)):=by
 have F:=jY m;have I:=jY n;have A:∀{p q:Nat},(Lib.decDigits p).length<(Lib.decDigits q).length->p<q:=fun {p q} h=>by
  have h1:=(lP (n:=p) (k:=(Lib.decDigits p).length) (mX p)).1 (Xae _)
  grind[Xbd,lP]
 refine pcd func225 rfl rfl ?_;simp only[go_sem];apply aA <;> intro h
 ·have h:(dec m).size≠(dec n).size:=neN h;simp only[go_sem];apply aA <;> intro E
  ·have E:=ltB E;simp only[go_sem]
   grind[cI,mB]
  ·have E:¬(dec m).size<(dec n).size:=by grind
   simp only[go_sem];have:=A (p:=n) (q:=m) (by omega)
   grind[cI,lZ]
 ·have h:(dec m).size=(dec n).size:=eqN h;simp only[go_sem];refine aL (Wb (dec m) (dec n)) ?_;simp only[go_sem]
  grind[cI,kS,HR,uE,uH]
def aaY(a b:ByteArray)(E:eQ a=true)(A:eQ b=true):PC prog 225 [str a,str b] (int (iH (gU a) (gU b))):=by
 have:=Kw (gU a) (gU b)
 rwa [kU E,kU A]at this
def HY{s:ByteArray}(h:fN s=true):eQ (gG s)=true:=by simp_all[fN]
def YD(a b:ByteArray)(X:a.size<=1048576)(Y:b.size<=1048576):PC prog 158 [str a,str b] (int (TW a b)):=by
 refine pcd func158 rfl rfl ?_;simp only[go_sem];refine aL (Fo a X) ?_;simp only[go_sem];refine aL (Fo b Y) ?_;simp only[go_sem];apply aA <;> intro h
 ·simp only[go_sem]
  grind[cI,TW]
 have F:fN a=true/\fN b=true:=by grind
 have T:=HY F.1;have O:=HY F.2;have A:∀{s:ByteArray},fN s=true->iI s=true->0<gU (gG s):=fun {s} h1 J=>by
  have E:=h1;unfold fN at E;simp only[J,Xay,Xak,Xbp,pP]at E
  grind[kU]
 have U:TW a b=iH (jC a) (jC b):=if_pos F;rw[U];unfold jC;simp only[go_sem];apply aA <;> intro J
 ·have J:iI a=true/\iI b=true:=by grind
  simp only[go_sem];refine aL (aaY _ _ O T) ?_;simp only[go_sem];simp_all[cI,iH]
 ·simp only[go_sem];apply aA <;> intro E
  ·have I:iI b=false:=by grind
   have:=A F.1 E;simp only[go_sem];refine cI ?_;rw[if_pos E,if_neg (by grind),mB (by omega)]
  ·simp only[go_sem];apply aA <;> intro I
   ·have:=A F.2 I;simp only[go_sem];refine cI ?_;rw[if_neg (by grind),if_pos I,lZ (by omega)]
   ·simp only[go_sem];refine aL (aaY _ _ T O) ?_;simp only[go_sem];simp_all[cI]
def mH(m:Bool)(n:Nat):List AV:=[boo m,str (dec n)]
def GW(m:Bool)(n:Nat):(mH m n).length=2:=(rfl)
def awJ(m:Bool)(n:Nat):(mH m n).getD 0 .any=boo m:=(rfl)
def auC(m:Bool)(n:Nat):(mH m n).getD 1 .any=str (dec n):=(rfl)
def agR(m:Bool)(n:Nat):(mH m n).take 2=mH m n:=(rfl)
attribute [go_sem] GW awJ auC agR
def TH{m n:Nat}(E:m<cN)(A:n<cN):WJ (dec m) (dec n)=szN (m+n):=by simp_all[WJ,AS,eG]
def Ti{m n:Nat}(A:m<cN)(E:n<cN)(h:n<=m):W8 (dec m) (dec n)=szN (m-n):=by simp_all[W8,AS,eG,if_neg]
theorem dV{m:Nat}(A:m<cN):(dec m).size<=1048576:=by grind[kW]
def aCp(a b:Bool)(m n:Nat)(U:m<cN)(Y:n<cN):PC prog 224 [.agg (mH a m),.agg (mH b n)] (.tup [str (szZ (sg a m+sg b n)).1,int (szZ (sg a m+sg b n)).2]):=by
 refine pcb (fun t=>t == 2||t == 3) func224 rfl rfl ?_;simp only[go_sem];refine aH fun i hi=>?_
 simp only[go_sem];refine aH fun j hj=>?_
 have J:=aB bN i (some ⟨263,2,[mH a m]⟩);have O:i≠j:=aV J hj;have E:=aB (aI bN i (some ⟨263,2,[mH a m]⟩)) j (some ⟨263,2,[mH b n]⟩);have A:(aI (aI bN i (some ⟨263,2,[mH a m]⟩)) j (some ⟨263,2,[mH b n]⟩)) i=some ⟨263,2,[mH a m]⟩:=by grind[aF]
 generalize aI (aI bN i _) j _=H1 at *;simp only[go_sem,A,E];apply aA <;> intro h
 ·have F:a=b:=by grind
  subst F;simp only[go_sem,A,E];refine aL (aqG (dec m) (dec n) (dV U) (dV Y)) ?_;rw[TH U Y];simp only[go_sem,A];refine aL (LV a (m+n)) ?_;simp only[go_sem];have e:sg a (m+n)=sg a m+sg a n:=by grind[sg]
  rw[e];exact .refl _
 have F:b= !a:=by cases a <;> cases b <;> simp_all
 subst F;simp only[go_sem,A,E];refine aL (Kw m n) ?_;simp only[go_sem];refine bO (fun T H'=>∃(X b':Bool) (p q:Nat),p<cN/\q<cN/\q<=p/\sg X (p-q)=sg a m+sg (!a) n/\T 2=.op i 0 0/\T 3=.op j 0 0/\H' i=some (⟨263,2,[mH X p]⟩:Row)/\H' j=some (⟨263,2,[mH b' q]⟩:Row)) ?_ fun K hK=>aA (fun Z=>?_) (fun Z=>?_)
 rotate_left
 ·have ae : m < n := by
   rcases Xbd m n with h|h
   ·exact h
   ·exfalso;have Z:=of_decide_eq_true Z
    grind[iH]
  simp only[go_sem,A,E];refine aG A (by simp[GW]) ?_;generalize I:aI H1 i _=HP;have J:HP i=some (⟨263,2,[mH (!a) n]⟩:Row):=by rw[<-I,aB];rfl
  have ab:HP j=some (⟨263,2,[mH (!a) n]⟩:Row):=by rw[<-I,aF _ _ _ _ (Ne.symm O)];exact E
  clear I;simp only[go_sem];refine aG ab (by simp[GW]) ?_;generalize I:aI HP j _=HQ;have S3:HQ j=some (⟨263,2,[mH a m]⟩:Row):=by rw[<-I,aB];rfl
  have S2:HQ i=some (⟨263,2,[mH (!a) n]⟩:Row):=by rw[<-I,aF _ _ _ _ O];exact J
  clear I;simp only[go_sem];refine hK _ _ ⟨!a,a,n,m,Y,U,by omega,?_,rfl,rfl,S2,S3⟩
  grind[sg]
 ·have aa:n<=m:=by grind[mB]
  simp only[go_sem];refine hK _ _ ⟨a,!a,m,n,U,Y,aa,?_,rfl,rfl,A,E⟩
  grind[sg]
 rintro ρ H ⟨X,b',p,q,hp,hq,ac,hv,h2,h3,J,E⟩;simp only[go_sem,h2,h3,J,E];refine aL (asF (dec p) (dec q) (dV hp) (dV hq)) ?_;rw[Ti hp hq ac];simp only[go_sem,h2,J];refine aL (LV X (p-q)) ?_;simp only[go_sem];rw[hv];exact .refl _
def TX(a b:ByteArray):MX [a,b]=lX a b:=by simp[MX,lX,arH]
def anL(n:Int):Jt (zed n)=mH (decide (n<0)) n.natAbs:=by grind[Jt,mH,xQ,lK]
def Lw(n:Int):sg (decide (n<0)) n.natAbs=n:=by grind[sg]
def VU{m n:Int}(h:lX (zed m) (zed n)=0):zL [zed m,zed n]=[mH (decide (m<0)) m.natAbs,mH (decide (n<0)) n.natAbs]:=by simp_all[zL,TX,anL]
def La(a b:ByteArray)(E:a.size<=1048576)(A:b.size<=1048576):PC prog 219 [.sl [[str a],[str b]]] (.tup [.sl (zL [a,b]),int (lX a b)]):=by
 have:=atX [a,b] (by simp) (by grind)
 rwa [TX]at this
def asU(a b:ByteArray)(A:a.size<=1048576)(F:b.size<=1048576):PC prog 156 [str a,str b] (.tup [str (Fg a b).1,int (Fg a b).2]):=by
 refine pcd func156 rfl rfl ?_;simp only[go_sem];refine aL (La a b A F) ?_;simp only[go_sem];apply aA <;> intro h
 ·have h:lX a b≠0:=by grind
  simp only[go_sem];rw[show Fg a b=(emp,lX a b)from if_neg h];exact .refl _
 have h:lX a b=0:=by grind
 have e:Fg a b=szZ (jC a+jC b):=if_pos h;rw[e];obtain⟨m,n,rfl,rfl,E,I⟩:=tF h;rw[cV,cV,VU h];simp only[go_sem];refine dC ?_;simp only[go_sem,Xag,List.length_nil]
 repeat (refine⟨by first|decide|omega,?_⟩)
 refine⟨_,(aCp _ _ _ _ E I).q rfl,?_⟩;simp only[go_sem];rw[Lw,Lw];exact .refl _
def alS{m n:Nat}(E:m<cN)(A:n<cN):Yc (dec m) (dec n)=szN (m*n):=by simp_all[Yc,AS,eG]
def aBi(a b:ByteArray)(F:a.size<=1048576)(J:b.size<=1048576):PC prog 327 [str a,str b] (.tup [str (zR a b).1,int (zR a b).2]):=by
 refine pcd func327 rfl rfl ?_;simp only[go_sem];refine aL (La a b F J) ?_;simp only[go_sem];apply aA <;> intro h
 ·have h:lX a b≠0:=by grind
  simp only[go_sem];rw[show zR a b=(emp,lX a b)from if_neg h];exact .refl _
 have h:lX a b=0:=by grind
 have e:zR a b=szZ (jC a*jC b):=if_pos h;rw[e];obtain⟨m,n,rfl,rfl,A,E⟩:=tF h;rw[cV,cV,VU h];simp only[go_sem];refine dC ?_;simp only[go_sem,Xag,List.length_nil]
 repeat (refine⟨by first|decide|omega,?_⟩)
 refine⟨_,(aAI (dec m.natAbs) (dec n.natAbs) (dV A) (dV E)).q rfl,?_⟩;rw[alS A E];simp only[go_sem];refine dC ?_;simp only[go_sem,Xag,List.length_nil]
 repeat (refine⟨by first|decide|omega,?_⟩)
 refine⟨_,(LV _ (m.natAbs*n.natAbs)).q rfl,?_⟩;simp only[go_sem];have I:sg (!(decide (m<0) == decide (n<0))) (m.natAbs*n.natAbs)=m*n:=by grind[sg]
 rw[I];exact .refl _
def xD{P:Program}{C:nP}{PC:FuncId->List AV->aM->AV->Prop}{mt:Nat->Bool}{ops:Array Oper}{K:Env->aM->Prop}{m:Nat}{ρ:Env}{H:aM}(J:Env->aM->Prop)(h1:∀ρ H,J ρ H->K ρ H)
 (A:∀K':Env->aM->Prop,(∀ρ H,J ρ H->K' ρ H)->wS P C PC mt ops K' m ρ H):wS P C PC mt ops K m ρ H:=A K h1
abbrev J4(A:List AV):Row:=⟨263,2,[A]⟩
abbrev zN:Row:=J4 [.v (.bool false),.v (.string ByteArray.empty)]
def I1{m n:Int}(J:n≠0)(I:decide (m<0)≠decide (n<0))(O:m.natAbs%n.natAbs≠0):
  m.fdiv n= -((m.natAbs/n.natAbs+1:Nat):Int)/\m.fmod n=sg (decide (n<0)) (n.natAbs-m.natAbs%n.natAbs):=by
 have e:=Nat.mod_add_div m.natAbs n.natAbs;have E:=Xbh m.natAbs (show 0<n.natAbs by omega);generalize m.natAbs/n.natAbs=q at *;generalize m.natAbs%n.natAbs=r at *;have A:(r:Int)+(n.natAbs:Int)*(q:Int)=(m.natAbs:Int):=by omega
 unfold sg;rcases Int.lt_or_gt_of_ne J with h|h
 ·have F:¬m<0:=fun T=>I (by grind)
  rw[Int.ofNat_natAbs_of_nonpos (a:=n) (by omega),Int.natAbs_of_nonneg (a:=m) (by omega)]at A;refine(Int.fdiv_fmod_unique' h).2 ⟨?_,?_,?_⟩
  all_goals grind
 ·have F:m<0:=by grind
  rw[Int.natAbs_of_nonneg (a:=n) (by omega),Int.ofNat_natAbs_of_nonpos (a:=m) (by omega)]at A;refine(Int.fdiv_fmod_unique h).2 ⟨?_,?_,?_⟩
  all_goals grind
def OA{m n:Int}(F:n≠0)(h0:decide (m<0)=decide (n<0)\/m.natAbs%n.natAbs=0):
  m.fdiv n=sg (!(decide (m<0) == decide (n<0))) (m.natAbs/n.natAbs)/\m.fmod n=sg (decide (n<0)) (m.natAbs%n.natAbs):=by
 have e:=Nat.mod_add_div m.natAbs n.natAbs;have A:=Xbh m.natAbs (show 0<n.natAbs by omega);generalize m.natAbs/n.natAbs=q at *;generalize m.natAbs%n.natAbs=r at *;have E:(r:Int)+(n.natAbs:Int)*(q:Int)=(m.natAbs:Int):=by omega
 grind[sg,Int.fdiv_fmod_unique',Int.fdiv_fmod_unique]
def Vm{m n:Nat}(A:m<cN)(E:n<cN)(h:n≠0):Fl (dec m) (dec n)=(dec (m/n),dec (m%n),0):=by simp_all[Fl,AS,eG]
def LK(a b:ByteArray)(ha:a.size<=1048576)(F:b.size<=1048576):PC prog 155 [str a,str b] (.tup [str (nE a b).1,str (nE a b).2.1,int (nE a b).2.2]):=by
 refine pcd func155 rfl rfl ?_;simp only[go_sem];refine aL (La a b ha F) ?_;simp only[go_sem];apply aA <;> intro h
 ·have h:lX a b≠0:=by grind
  simp only[go_sem];rw[show nE a b=(emp,emp,lX a b)from if_neg h];exact .refl _
 have h:lX a b=0:=by grind
 obtain⟨m,n,rfl,rfl,T,hn⟩:=tF h;have e:nE (zed m) (zed n)=if n=0 then(emp,emp,10)else(zed (m.fdiv n),zed (m.fmod n),0):=by simp_all[nE,cV]
 rw[e,VU h];simp only[go_sem];obtain⟨A,hA⟩:∃A,mH (decide (m<0)) m.natAbs=A:=⟨_,rfl⟩;obtain⟨B,hB⟩:∃B,mH (decide (n<0)) n.natAbs=B:=⟨_,rfl⟩;have ak:A.length=2:=by rw[<-hA];rfl
 have aj:B.length=2:=by rw[<-hB];rfl
 refine xD (fun I H'=>∃i j,I 9=.op i 0 0/\I 10=.op j 0 0/\H' i=some (J4 A)/\H' j=some (J4 B)) ?_ fun K hK=>?_
 rotate_left
 ·refine uB [] (.q 0 (.q 1 (.q 2 (.q 3 (.q 4 (.q 5 (.a2 6 (.a1 7 (.a1 8 (.a1 9 .nil))) 7 (.a1 6 (.a1 8 (.a1 9 .nil)))))))))) (by simp) (by kernel_rfl) fun Hp Hr _ hq _ _=>?_
  simp only[go_sem,Xag,List.length_nil,hA,hB]
  repeat (refine⟨by first|decide|omega,?_⟩)
  refine jG ?_ ?_
  ·simp only[go_sem];refine aH fun i hi=>?_
   simp only[go_sem];refine aH fun j hj=>?_
   have R:=aB Hr i (some (zN));have X:=aV R hj;have O:=fA (r':=zN) R hj;have J:=aB (aI Hr i (some (zN))) j (some (zN));simp only[go_sem];refine aG (r:=zN) O (by grind) ?_;simp only[go_sem];refine aG (r:=zN) (by grind[aF]) (by grind) ?_;simp only[go_sem];refine dO fun _ Hm _ T=>hK _ _ ⟨i,j,rfl,rfl,?_,?_⟩
   ·rw[T i (by simp),aF _ _ _ _ X,aB];grind
   ·rw[T j (by simp),aB];grind
  ·simp only[go_sem];refine aH fun j hj=>?_
   simp only[go_sem];refine aH fun i hi=>?_
   have R:=aB Hr j (some (zN));have X:=(aV R hi).symm;have J:=fA (r':=zN) R hi;have O:=aB (aI Hr j (some (zN))) i (some (zN));simp only[go_sem];refine aG (r:=zN) O (by grind) ?_;simp only[go_sem];refine aG (r:=zN) (by grind[aF]) (by grind) ?_;simp only[go_sem];refine dO fun _ Hm _ T=>hK _ _ ⟨i,j,rfl,rfl,?_,?_⟩
   ·rw[T i (by simp),aF _ _ _ _ X,aB];grind
   ·rw[T j (by simp),aB];grind
 rintro ρ H ⟨i,j,Z,E,O,J⟩;subst hA hB;simp only[go_sem,E,J,qK];apply aA <;> intro ai
 ·have h0:n=0:=by grind[tE,nG]
  simp only[go_sem];rw[if_pos h0];exact .refl _
 have h0:n≠0:=fun e=>by grind[pP]
 have af:n.natAbs≠0:=by omega
 rw[if_neg h0];simp only[go_sem,Z,E,O,J];refine aL (aAj (dec m.natAbs) (dec n.natAbs) (dV T) (dV hn)) ?_;rw[Vm T hn af];simp only[go_sem];refine aA (fun F=>by cases F) (fun _=>?_);simp only[go_sem,Z,E,O,J,qK];have ah:=Nat.mod_add_div m.natAbs n.natAbs;have ag:=Xbh m.natAbs (show 0<n.natAbs by omega);refine bO (fun I H'=>∃q r:Nat,I 9=.op i 0 0/\I 10=.op j 0 0/\H' i=some (J4 (mH (decide (m<0)) m.natAbs))/\H' j=some (J4 (mH (decide (n<0)) n.natAbs))/\I 11=str (dec q)/\I 12=str (dec r)/\q<cN/\r<cN/\sg (!(decide (m<0) == decide (n<0))) q=m.fdiv n/\sg (decide (n<0)) r=m.fmod n) ?_ fun K hK=>aA (fun F=>?_) (fun F=>?_)
 rotate_left
 ·have F : decide (m < 0) ≠ decide (n < 0) /\ m.natAbs % n.natAbs ≠ 0 := by
   simp only[Xak,Xbp,beq_eq_false_iff_ne,ne_eq,pP]at F
   grind
  obtain⟨f1,f2⟩:=I1 h0 F.1 F.2;have Y:m.natAbs/n.natAbs+1<cN:=by
   have h2:2<=n.natAbs:=by omega
   have h3:2*(m.natAbs/n.natAbs)<=n.natAbs*(m.natAbs/n.natAbs):=Xcb _ h2;omega
  have U:m.natAbs/n.natAbs<cN:=by omega
  have aa:(1:Nat)<cN:=Nat.lt_of_le_of_lt (Nat.le_add_left 1 _) Y;have ab:m.natAbs%n.natAbs<cN:=by omega
  generalize hQ:m.natAbs/n.natAbs=q at *;generalize hR:m.natAbs%n.natAbs=r at *;simp only[go_sem];rw[FT];refine aL (aqG (dec q) (dec 1) (dV U) (dV aa)) ?_;rw[TH U aa,Bt Y];simp only[go_sem];refine aA (fun F=>by cases F) (fun _=>?_);simp only[go_sem,E,J];refine aL (asF (dec n.natAbs) (dec r) (dV hn) (dV ab)) ?_;rw[Ti hn ab (by omega),Bt (show n.natAbs-r<cN by omega)];simp only[go_sem];refine aA (fun F=>by cases F) (fun _=>?_);simp only[go_sem];refine hK _ _ ⟨q+1,n.natAbs-r,Z,E,O,J,rfl,rfl,Y,by omega,?_,f2.symm⟩;simp_all[sg]
 ·have F : decide (m < 0) = decide (n < 0) \/ m.natAbs % n.natAbs = 0 := by
   by_cases h1:decide (m<0)=decide (n<0)
   all_goals simp_all[tE,nG]
  obtain⟨f1,f2⟩:=OA h0 F;have U:m.natAbs/n.natAbs<cN:=Nat.lt_of_le_of_lt (Xbv _ _) T;simp only[go_sem];exact hK _ _ ⟨_,_,Z,E,O,J,rfl,rfl,U,by omega,f1.symm,f2.symm⟩
 rintro ρ H ⟨q,r,Z,E,O,J,ac,ae,hq,hr,f1,f2⟩;simp only[go_sem];refine dC ?_;simp only[go_sem,Z,E,ac,O,J];refine⟨_,(V3 _ q (dV hq)).q rfl,?_⟩;simp only[go_sem,E,ae,J];refine⟨_,(V3 _ r (dV hr)).q rfl,?_⟩;simp only[go_sem,f1,f2];exact .refl _
end Nu
end Go.Proofs.YtkfhgjihlbilpaaGreatDoor
