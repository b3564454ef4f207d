import Derived.Lib.ItoaMem
import Derived.Laws.Strings
import Derived.Shelf.Strings.Builder1
import Derived.Shelf.Strings.Builder2
import Derived.Shelf.Small.Strs
import Derived.Shelf.Small.Wraps
import Derived.Shelf.Strings.BuilderF
import Derived.Shelf.Strings.BuilderK
import Derived.Shelf.Strings.Builder2Cap
import Derived.Shelf.Strconv.Itoa0
import Derived.Shelf.Strconv.Itoa1
import Derived.Shelf.LaysM
import Derived.Shelf.Strconv.Itoa2
import Derived.Shelf.Strconv.Itoa3
import Derived.Shelf.Strings.Search1
import Derived.Shelf.Strings.Search2
import Derived.Shelf.Strings.Search3
import Derived.Shelf.Strings.Cut
import Derived.Shelf.Strings.Shaped
import Derived.Shelf.Strings.Prefix
import Derived.Shelf.Bits.Mul64
import Derived.Shelf.Strings.Repeat
import Derived.Shelf.Strings.BuilderCap
import Derived.Ground.Names2Prog
import Derived.Shelf.Slices.SearchI
import Derived.Test.YtkjdacijpeiphaaGreatDoorProg
import Derived.Test.YtkjdacijpeiphaaGreatDoorVp06
set_option linter.unusedSimpArgs false
set_option linter.unusedVariables false
set_option linter.defProp false
set_option maxRecDepth 100000
section
namespace Go.Nu
open Go Go.Lib
def ofL(b:Nat):List Nat->Nat
 | []=>0
 | x::r=>x+b*ofL b r
def Lim(b:Nat)(l:List Nat):Prop:=∀x∈l,x<b
def bJ(b:Nat)(n:Nat):List Nat:=if h:n=0\/b<2 then[]else n%b::bJ b (n/b)
termination_by n
decreasing_by exact Nat.div_lt_self (by omega) (by omega)
def mE:List Nat->List Nat
 | []=>[]
 | x::r=>match mE r with
   | []=>if x=0 then[]else[x]
   | y::t=>x::y::t
def mG(b:Nat):∀l r:List Nat,ofL b (l++r)=ofL b l+b^l.length*ofL b r
 | [],r=>by simp[ofL]
 | x::l,r=>by simp only[List.cons_append,ofL,mG b l r,List.length_cons,Nat.pow_succ,Nat.mul_add,Nat.add_assoc];rw[Nat.mul_comm (b^l.length) b,Nat.mul_assoc]
def rX(b:Nat)(l:List Nat)(x:Nat):ofL b (l++[x])=ofL b l+b^l.length*x:=by rw[mG];simp[ofL]
def mR{b:Nat}(F:0<b):∀{l:List Nat},Lim b l->ofL b l<b^l.length
 | [],_=>by simp[ofL]
 | x::l,h=>by
  have h1:=h x (by simp);have E:=mR F (l:=l) fun y A=>h y (by simp[A])
  simp only[ofL,List.length_cons,Nat.pow_succ];have:b*(ofL b l+1)<=b*b^l.length:=Nat.mul_le_mul_left _ E;rw[Nat.mul_add]at this;rw[Nat.mul_comm (b^l.length) b];omega
def iY(b:Nat){l:List Nat}{k x:Nat}(h:l[k]?=some x):ofL b (l.take (k+1))=ofL b (l.take k)+b^k*x:=by rw[List.take_add_one,h];simp only[Option.toList];rw[rX,List.length_take,Nat.min_eq_left (Nat.le_of_lt (List.getElem?_eq_some_iff.1 h).1)]
def HL(b:Nat):∀(l:List Nat) (k x v:Nat),l[k]?=some x->ofL b (l.set k v)+b^k*x=ofL b l+b^k*v
 | [],k,x,v,h=>by simp at h
 | y::l,0,x,v,h=>by simp only[List.getElem?_cons_zero,Option.some.injEq]at h;subst h;simp only[List.set_cons_zero,ofL,Nat.pow_zero,Nat.one_mul];omega
 | y::l,k+1,x,v,h=>by
  have:=HL b l k x v (by simpa using h);have A:b*(ofL b (l.set k v)+b^k*x)=b*(ofL b l+b^k*v):=by rw[this]
  simp only[List.set_cons_succ,ofL,Nat.pow_succ];rw[Nat.mul_add,Nat.mul_add,<-Nat.mul_assoc,<-Nat.mul_assoc]at A;rw[Nat.mul_comm (b^k) b];omega
def Sk(b n:Nat):ofL b (List.replicate n 0)=0:=by
 induction n with
 | zero=>rfl
 | succ n ih=>simp[List.replicate_succ,ofL,ih]
def eL(b:Nat):bJ b 0=[]:=by rw[bJ];simp
def sH{b n:Nat}(E:2<=b)(A:n≠0):bJ b n=n%b::bJ b (n/b):=by rw[bJ,dif_neg (by omega)]
def dJ{b:Nat}(F:2<=b)(n:Nat):Lim b (bJ b n):=by
 induction n using Nat.strongRecOn with
 | _ n ih=>
  by_cases E:n=0
  ·subst E;rw[eL];intro x A;cases A
  ·rw[sH F E];intro x A;rcases List.mem_cons.1 A with rfl|A
   ·exact Nat.mod_lt _ (by omega)
   ·exact ih (n/b) (Nat.div_lt_self (by omega) (by omega)) x A
def dR{b:Nat}(E:2<=b)(n:Nat):ofL b (bJ b n)=n:=by
 induction n using Nat.strongRecOn with
 | _ n ih=>
  by_cases A:n=0
  ·subst A;rw[eL];rfl
  ·rw[sH E A,ofL,ih (n/b) (Nat.div_lt_self (by omega) (by omega))];exact Nat.mod_add_div n b
def sC{b n:Nat}(A:2<=b):bJ b n=[]↔n=0:=by
 constructor
 ·intro h;have:=dR A n;rw[h]at this;exact this.symm
 ·rintro rfl;exact eL b
def Ed{b x m:Nat}(E:2<=b)(A:x<b)(h:x+b*m≠0):bJ b (x+b*m)=x::bJ b m:=by rw[sH E h,Nat.add_mul_mod_self_left,Nat.mod_eq_of_lt A,Nat.add_mul_div_left _ _ (by omega),Nat.div_eq_of_lt A,Nat.zero_add]
def Ez{b:Nat}(E:2<=b):∀{l:List Nat},Lim b l->mE l=bJ b (ofL b l)
 | [],_=>by rw[ofL,eL];rfl
 | x::l,h=>by
  have ih:=Ez E (l:=l) fun y J=>h y (by simp[J])
  have I:=h x (by simp);rw[mE,ih];by_cases h0:ofL b l=0
  ·simp only[ofL,h0,eL];by_cases A:x=0
   ·subst A;simp[eL]
   ·rw[if_neg A,Ed E I (by omega),eL]
  ·have F:bJ b (ofL b l)≠[]:=fun e=>h0 ((sC E).1 e)
   rw[ofL,Ed E I (by have:0<b*ofL b l:=Nat.mul_pos (by omega) (by omega);omega)];split
   ·rename_i e;exact absurd e F
   ·rename_i e;rw[e]
def Ql{b:Nat}(E:2<=b){l:List Nat}{n:Nat}(h:Lim b l)(A:ofL b l=n):mE l=bJ b n:=by rw[Ez E h,A]
def lT{b:Nat}(E:2<=b){n k:Nat}(h:n<b^k):(bJ b n).length<=k:=by
 induction k generalizing n with
 | zero => have : n = 0 := by simpa using h
           subst this;rw[eL];exact Nat.le_refl _
 | succ k ih=>
   by_cases A:n=0
   . subst A;rw[eL];exact Nat.zero_le _
   . rw[sH E A,List.length_cons];refine Nat.succ_le_succ (ih ?_);rw[Nat.div_lt_iff_lt_mul (by omega)]
     rwa [Nat.pow_succ]at h
def Ik{b:Nat}(A:2<=b){n k:Nat}(h:b^k<=n):k<(bJ b n).length:=by have h1:=mR (b:=b) (by omega) (dJ A n);rw[dR A]at h1;exact(Nat.pow_lt_pow_iff_right (by omega)).1 (Nat.lt_of_le_of_lt h h1)
def dT{b:Nat}(A:2<=b){m n:Nat}(h:m<=n):(bJ b m).length<=(bJ b n).length:=by refine lT A ?_;have h1:=mR (b:=b) (by omega) (dJ A n);rw[dR A]at h1;omega
def N5{b:Nat}(A:2<=b){n:Nat}(F:n≠0):b^((bJ b n).length-1)<=n:=by
 induction n using Nat.strongRecOn with
 | _ n ih=>
  rw[sH A F,List.length_cons,Nat.add_sub_cancel];by_cases h0:n/b=0
  ·rw[h0,eL];simp;omega
  ·have:=ih (n/b) (Nat.div_lt_self (by omega) (by omega)) h0;have E:(bJ b (n/b)).length=((bJ b (n/b)).length-1)+1:=by
    have:bJ b (n/b)≠[]:=fun e=>h0 ((sC A).1 e)
    have:=List.length_pos_iff.2 this;omega
   rw[E,Nat.pow_succ];exact Nat.le_trans (Nat.mul_le_mul_right b this) (Nat.div_mul_le_self n b)
def GM{b:Nat}(U:0<b){l r:List Nat}(O:Lim b l)(Z:Lim b r)(F:l.length=r.length){k x y:Nat}(E:l[k]?=some x)(X:r[k]?=some y)(A:x<y)(M:l.drop (k+1)=r.drop (k+1)):ofL b l<ofL b r:=by
 have hk:k<l.length:=(List.getElem?_eq_some_iff.1 E).1;have Y:l=l.take (k+1)++l.drop (k+1):=(List.take_append_drop _ _).symm;have J:r=r.take (k+1)++r.drop (k+1):=(List.take_append_drop _ _).symm;rw[Y,J,mG,mG,M,iY b E,iY b X,List.length_take,List.length_take,Nat.min_eq_left (by omega),Nat.min_eq_left (by omega)];have h1:=mR U (l:=l.take k) fun z T=>O z (List.mem_of_mem_take T)
 rw[List.length_take,Nat.min_eq_left (by omega)]at h1;have I:b^k*(x+1)<=b^k*y:=Nat.mul_le_mul_left _ A;rw[Nat.mul_add]at I;omega
def FS{b:Nat}(A:2<=b){m n:Nat}(h:(bJ b m).length<(bJ b n).length):m<n:=by
 rcases Nat.lt_or_ge m n with h1|h1
 ·exact h1
 ·have:=dT A h1;omega
def HF{α:Type}{p:List α->Prop}(h0:p [])(h1:∀l c,p l->p (l++[c]))(l:List α):p l:=by
 have:∀r:List α,p r.reverse:=fun r=>by
  induction r with
  | nil=>exact h0
  | cons c r ih=>rw[List.reverse_cons];exact h1 _ _ ih
 rw[<-List.reverse_reverse l];exact this _
def isD(c:UInt8):Bool:=decide (48<=c.toNat)&&decide (c.toNat<=57)
def fQ(l:List UInt8):Nat:=l.foldl (fun a c=>10*a+(c.toNat-48)) 0
def mH(l:List UInt8):Bool:=l != []&&(l.length == 1||l.getD 0 0 != 48)&&l.all isD
def dec(n:Nat):ByteArray:=⟨(decDigits n).toArray⟩
def sE(l:List UInt8)(c:UInt8):fQ (l++[c])=10*fQ l+(c.toNat-48):=by simp[fQ]
def BT{α:Type}{l r:List α}{k:Nat}{d:α}(h:k<l.length):(l++r).getD k d=l.getD k d:=by simp only[List.getD,List.getElem?_append_left h]
def rS{d:Nat}(h:d<10):(UInt8.ofNat (48+d)).toNat=48+d:=by rw[UInt8.toNat_ofNat'];omega
def EH(n:Nat):fQ (decDigits n)=n:=by
 induction n using Nat.strongRecOn with
 | _ n ih=>
  rw[decDigits];split
  ·rename_i h;simp only[fQ,List.foldl_cons,List.foldl_nil,rS h];omega
  ·rename_i h;rw[sE,ih (n/10) (by omega),rS (by omega)];omega
def qG(n:Nat):(decDigits n).all isD=true:=by
 induction n using Nat.strongRecOn with
 | _ n ih=>
  rw[decDigits];split
  ·rename_i h;simp only[List.all_cons,List.all_nil,Bool.and_true,isD,rS h,Bool.and_eq_true,decide_eq_true_eq];omega
  ·rename_i h;rw[List.all_append,ih (n/10) (by omega)];simp only[List.all_cons,List.all_nil,Bool.and_true,Bool.true_and,isD,rS (show n%10<10 by omega),Bool.and_eq_true,decide_eq_true_eq];omega
def Ml(n:Nat):decDigits n≠[]:=by rw[decDigits];split <;> simp
def qY(n:Nat):0<(decDigits n).length:=List.length_pos_iff.2 (Ml n)
def VN{n:Nat}(h:n≠0):(decDigits n).getD 0 0≠48:=by
 induction n using Nat.strongRecOn with
 | _ n ih=>
  rw[decDigits];split
  ·rename_i h1;simp only[List.getD_cons_zero];intro e;have:=rS h1;rw[e]at this;simp at this;omega
  ·rename_i h1;have A:=ih (n/10) (by omega) (by omega);have E:=qY (n/10);rw[BT E];exact A
def JY{n:Nat}:(decDigits n).length=1↔n<10:=by
 rw[decDigits];split
 ·simp_all
 ·rename_i h;have:=qY (n/10);simp only[List.length_append,List.length_cons,List.length_nil];omega
def RG(n:Nat):mH (decDigits n)=true:=by
 unfold mH;simp only[Bool.and_eq_true,bne_iff_ne,ne_eq,Bool.or_eq_true,beq_iff_eq];refine⟨⟨Ml n,?_⟩,qG n⟩;by_cases h:n=0
 ·left;rw[JY];omega
 ·right;exact VN h
def oB{c:UInt8}:isD c=true↔48<=c.toNat/\c.toNat<=57:=by simp[isD]
def Ux{c:UInt8}(h:isD c=true):UInt8.ofNat (48+(c.toNat-48))=c:=by rw[oB]at h;rw[show 48+(c.toNat-48)=c.toNat by omega];exact UInt8.ofNat_toNat
def Ui:∀{l:List UInt8},l.all isD=true->l≠[]->l.getD 0 0≠48->10^(l.length-1)<=fQ l:=by
 intro l;induction l using HF with
 | h0=>intro _ h;exact absurd rfl h
 | h1 l c ih=>
  intro A _ h0;rw[List.all_append]at A;simp only[Bool.and_eq_true,List.all_cons,List.all_nil,Bool.and_true]at A;rw[sE];by_cases E:l=[]
  ·subst E;simp only[List.nil_append,List.getD_cons_zero]at h0;simp only[List.nil_append,List.length_cons,List.length_nil,Nat.zero_add,Nat.sub_self,Nat.pow_zero];have:=oB.1 A.2;have h1:c.toNat≠48:=fun e=>h0 (UInt8.toNat.inj e)
   omega
  ·have F:=List.length_pos_iff.2 E;rw[BT F]at h0;have:=ih A.1 E h0;simp only[List.length_append,List.length_cons,List.length_nil,Nat.zero_add,Nat.add_sub_cancel];rw[show l.length=(l.length-1)+1 by omega,Nat.pow_succ];omega
def Hk:∀{l:List UInt8},mH l=true->decDigits (fQ l)=l:=by
 intro l;induction l using HF with
 | h0=>intro h;simp[mH]at h
 | h1 l c ih=>
  intro h;unfold mH at h;simp only[Bool.and_eq_true,bne_iff_ne,ne_eq,Bool.or_eq_true,beq_iff_eq,List.all_append,List.all_cons,List.all_nil,Bool.and_true]at h;obtain⟨⟨_,h1⟩,F,E⟩:=h;have O:=oB.1 E;by_cases A:l=[]
  ·subst A;rw[List.nil_append];rw[show fQ [c]=c.toNat-48 by simp[fQ],decDigits_one (by omega),Ux E]
  ·have M:=List.length_pos_iff.2 A;have h0:l.getD 0 0≠48:=by
    rcases h1 with h1|h1
    ·simp only[List.length_append,List.length_cons,List.length_nil]at h1;omega
    ·rwa [BT M]at h1
   have I:=Ui F A h0;have J:1<=fQ l:=Nat.le_trans (Nat.one_le_pow _ _ (by omega)) I;rw[sE,decDigits,dif_neg (by omega)];rw[show(10*fQ l+(c.toNat-48))/10=fQ l by omega,show(10*fQ l+(c.toNat-48))%10=c.toNat-48 by omega,Ux E,ih];unfold mH;simp only[Bool.and_eq_true,bne_iff_ne,ne_eq,Bool.or_eq_true,beq_iff_eq];exact⟨⟨A,.inr h0⟩,F⟩
def pD{n k:Nat}(F:1<=k):(decDigits n).length<=k↔n<10^k:=by
 rw[decDigits_length];constructor
 ·intro h;exact Nat.lt_of_lt_of_le (lt_pow_nDigits n) (Nat.pow_le_pow_right (by omega) h)
 ·intro h;by_cases h0:n<10
  ·rw[nDigits_small h0];exact F
  ·induction k generalizing n with
   | zero=>omega
   | succ k ih=>
    by_cases A:k=0
    ·subst A;simp at h;omega
    ·rw[nDigits_big h0];rw[Nat.pow_succ]at h;have:=Nat.succ_le_succ (show nDigits (n/10)<=k from by
      by_cases E:n/10<10
      ·rw[nDigits_small E];omega
      ·exact ih (by omega) (by omega) E)
     exact this
def bl(s:ByteArray):List UInt8:=s.data.toList
def kZ{a b:ByteArray}(h:bl a=bl b):a=b:=by cases a;cases b;simp only[bl]at h;rw[Array.toList_inj.1 h]
def eV(s:ByteArray):(bl s).length=s.size:=by unfold bl;rw[Array.length_toList];rfl
def eqB(a b:ByteArray):Bool:=bl a == bl b
def qI{a b:ByteArray}:eqB a b=true↔a=b:=by unfold eqB;rw[beq_iff_eq];exact⟨kZ,fun h=>by rw[h]⟩
def oU{a b:ByteArray}:eqB a b=false↔a≠b:=by rw[<-Bool.not_eq_true,qI]
def iW(l:List UInt8):bl ⟨l.toArray⟩=l:=by simp[bl]
def BJ(a b:ByteArray):bl (a++b)=bl a++bl b:=by unfold bl;rw[ByteArray.data_append,Array.toList_append]
def abT(s:ByteArray):(⟨(bl s).toArray⟩:ByteArray)=s:=kZ (iW _)
def emp:ByteArray:=ByteArray.empty
def gV(s:ByteArray)(a b:Nat):bl (s.extract a b)=((bl s).take b).drop a:=by simp[bl,ByteArray.data_extract,Array.toList_extract,List.extract_eq_take_drop,List.drop_take]
def WR:Nat:=4096
def cU:Nat:=10^WR
def MS{n k:Nat}(h:n<10^k)(A:k<=4096):n<cU:=Nat.lt_of_lt_of_le h (Nat.pow_le_pow_right (show 0<10 by omega) (show k<=WR from A))
def XD:0<cU:=Nat.pow_pos (show 0<10 by omega)
def fC(s:ByteArray):Bool:=mH (bl s)
def eP(s:ByteArray):Nat:=fQ (bl s)
def lU(n:Nat):bl (dec n)=decDigits n:=iW _
def pL(n:Nat):fC (dec n)=true:=by unfold fC;rw[lU];exact RG n
def cF(n:Nat):eP (dec n)=n:=by unfold eP;rw[lU];exact EH n
def jN{s:ByteArray}(h:fC s=true):dec (eP s)=s:=kZ (by rw[lU];exact Hk h)
def D4(n:Nat):(dec n).size=(decDigits n).length:=by rw[<-eV,lU]
def gH(n:Nat):(dec n).size<=4096↔n<cU:=by rw[D4];exact pD (k:=WR) (by decide)
def zK{s:ByteArray}(h:fC s=true):s.size<=4096↔eP s<cU:=by
 have:=gH (eP s)
 rwa [jN h]at this
def tI{m n:Nat}:dec m=dec n↔m=n:=⟨fun h=>by rw[<-cF m,h,cF],fun h=>by rw[h]⟩
def szN(n:Nat):ByteArray×Int:=if n<cU then(dec n,0)else(emp,4)
def iO(a b:ByteArray):Int:=if(!fC a|| !fC b)=true then 3 else if(decide (a.size>4096)||decide (b.size>4096))=true then 4 else 0
def Nk(a b:ByteArray):ByteArray×Int:=if iO a b=0 then szN (eP a+eP b)else(emp,iO a b)
def Mr(a b:ByteArray):ByteArray×Int:=if iO a b=0 then(if eP a<eP b then(emp,2)else szN (eP a-eP b))else(emp,iO a b)
def MZ(a b:ByteArray):ByteArray×Int:=if iO a b=0 then szN (eP a*eP b)else(emp,iO a b)
def La(a b:ByteArray):ByteArray×ByteArray×Int:=if iO a b=0 then(if eP b=0 then(emp,emp,10)else(dec (eP a/eP b),dec (eP a%eP b),0))else(emp,emp,iO a b)
def H9(a b:ByteArray):ByteArray×Int:=if iO a b=0 then szN (Nat.gcd (eP a) (eP b))else(emp,iO a b)
def I1{a b:ByteArray}(A:fC a=true)(E:fC b=true)(I:a.size<=4096)(F:b.size<=4096):iO a b=0:=by unfold iO;rw[A,E];simp;omega
def wL{m n:Nat}(A:m<cU)(E:n<cU):iO (dec m) (dec n)=0:=I1 (pL m) (pL n) ((gH m).2 A) ((gH n).2 E)
def sO{a b:ByteArray}(h:iO a b=0):∃m n,a=dec m/\b=dec n/\m<cU/\n<cU:=by
 unfold iO at h;split at h
 ·cases h
 ·rename_i h1;split at h
  ·cases h
  ·rename_i A;simp only[Bool.or_eq_true,Bool.not_eq_true',not_or,Bool.not_eq_false,decide_eq_true_eq,Nat.not_lt]at h1 A;exact⟨eP a,eP b,(jN h1.1).symm,(jN h1.2).symm,(zK h1.1).1 A.1,(zK h1.2).1 A.2⟩
def A6{n:Nat}(h:n<cU):szN n=(dec n,0):=if_pos h
def gR(s:ByteArray):Bool:=(bl s).head? == some 45
def dY(s:ByteArray):ByteArray:=if gR s=true then⟨((bl s).drop 1).toArray⟩else s
def eT(s:ByteArray):Bool:=fC (dY s)&& !(gR s&&eqB (dY s) (dec 0))
def jG(s:ByteArray):Int:=if gR s=true then -(eP (dY s):Int)else eP (dY s)
def zed(n:Int):ByteArray:=⟨(itoa n).toArray⟩
def fF(n:Nat):zed n=dec n:=by unfold zed;rw[itoa_nonneg];rfl
def C1{n:Nat}(h:1<=n):zed (-(n:Int))=⟨((45:UInt8)::decDigits n).toArray⟩:=by unfold zed;rw[itoa_neg n h]
def AX(n:Nat):gR (dec n)=false:=by
 unfold gR;rw[lU];have h1:=qG n;have A:=Ml n;cases h:decDigits n with
 | nil=>exact absurd h A
 | cons c r=>rw[h]at h1;simp only[List.all_cons,Bool.and_eq_true]at h1;have:=oB.1 h1.1;simp only[List.head?_cons,beq_eq_false_iff_ne,ne_eq,Option.some.injEq];intro e;rw[e]at this;simp at this
def Lv(n:Nat):dY (dec n)=dec n:=by unfold dY;rw[AX];rfl
def DW(l:List UInt8):gR ⟨((45:UInt8)::l).toArray⟩=true:=by unfold gR;rw[iW];rfl
def SO(l:List UInt8):dY ⟨((45:UInt8)::l).toArray⟩=⟨l.toArray⟩:=by unfold dY;rw[DW,if_pos rfl,iW];rfl
def yX(n:Int):gR (zed n)=decide (n<0):=by
 rcases Int.lt_or_le n 0 with h|h
 ·obtain⟨m,rfl⟩:∃m:Nat,n= -(m:Int):=⟨n.natAbs,by omega⟩;rw[C1 (by omega),DW];simp;omega
 ·obtain⟨m,rfl⟩:∃m:Nat,n=m:=⟨n.toNat,by omega⟩;rw[fF,AX];simp
def lO(n:Int):dY (zed n)=dec n.natAbs:=by
 rcases Int.lt_or_le n 0 with h|h
 ·obtain⟨m,rfl⟩:∃m:Nat,n= -(m:Int):=⟨n.natAbs,by omega⟩;rw[C1 (by omega),SO,Int.natAbs_neg,Int.natAbs_natCast];rfl
 ·obtain⟨m,rfl⟩:∃m:Nat,n=m:=⟨n.toNat,by omega⟩;rw[fF,Lv,Int.natAbs_natCast]
def mQ(n:Int):eT (zed n)=true:=by
 unfold eT;rw[lO,yX,pL];simp only[Bool.true_and,Bool.not_eq_true',Bool.and_eq_false_iff,decide_eq_false_iff_not];by_cases h:n<0
 ·right;refine oU.2 fun e=>?_
  rw[tI]at e;omega
 ·left;exact h
def dE(n:Int):jG (zed n)=n:=by
 unfold jG;rw[lO,yX,cF];split
 ·rename_i h;simp only[decide_eq_true_eq]at h;omega
 ·rename_i h;simp only[decide_eq_true_eq]at h;omega
def Dt{s:ByteArray}(h:eT s=true):zed (jG s)=s:=by
 unfold eT at h;simp only[Bool.and_eq_true,Bool.not_eq_true',Bool.and_eq_false_iff]at h;obtain⟨h1,E⟩:=h;have I:=jN h1;unfold jG;by_cases A:gR s=true
 ·have O : dY s ≠ dec 0 := by
   rcases E with E|E
   ·rw[A]at E;cases E
   ·exact oU.1 E
  rw[if_pos A];have M:1<=eP (dY s):=by
   rcases Nat.eq_zero_or_pos (eP (dY s))with F|F
   ·exact absurd (by rw[<-I,F]) O
   ·exact F
  rw[C1 M];refine kZ ?_;rw[iW,<-lU,I];unfold dY;rw[if_pos A,iW];unfold gR at A;cases J:bl s with
  | nil=>rw[J]at A;cases A
  | cons c r=>rw[J]at A;simp only[List.head?_cons,beq_iff_eq,Option.some.injEq]at A;subst A;rfl
 ·rw[if_neg A,fF,I];unfold dY;rw[if_neg A]
def T6{m n:Int}:zed m=zed n↔m=n:=⟨fun h=>by rw[<-dE m,h,dE],fun h=>by rw[h]⟩
def szZ(n:Int):ByteArray×Int:=if n.natAbs<cU then(zed n,0)else(emp,4)
def nM(a b:ByteArray):Int:=if(!eT a|| !eT b)=true then 3 else if(decide ((dY a).size>4096)||decide ((dY b).size>4096))=true then 4 else 0
def EX(a b:ByteArray):ByteArray×Int:=if nM a b=0 then szZ (jG a+jG b)else(emp,nM a b)
def wN(a b:ByteArray):ByteArray×Int:=if nM a b=0 then szZ (jG a*jG b)else(emp,nM a b)
def mC(a b:ByteArray):ByteArray×ByteArray×Int:=if nM a b=0 then(if jG b=0 then(emp,emp,10)else(zed ((jG a).fdiv (jG b)),zed ((jG a).fmod (jG b)),0))else(emp,emp,nM a b)
def iC(a b:Int):Int:=if a<b then -1 else if b<a then 1 else 0
def Uy(a b:ByteArray):Int:=if eT a=true/\eT b=true then iC (jG a) (jG b)else 0
def Jg(a:ByteArray):Int:=if eT a=true then(jG a).sign else 0
def vR{m n:Int}(A:m.natAbs<cU)(E:n.natAbs<cU):nM (zed m) (zed n)=0:=by unfold nM;rw[mQ,mQ,lO,lO];have:=(gH m.natAbs).2 A;have:=(gH n.natAbs).2 E;simp;omega
def Bc{a b:ByteArray}(h:nM a b=0):∃m n:Int,a=zed m/\b=zed n/\m.natAbs<cU/\n.natAbs<cU:=by
 unfold nM at h;split at h
 ·cases h
 ·rename_i h1;split at h
  ·cases h
  ·rename_i A;simp only[Bool.or_eq_true,Bool.not_eq_true',not_or,Bool.not_eq_false,decide_eq_true_eq,Nat.not_lt]at h1 A;have E:=Dt h1.1;have F:=Dt h1.2;refine⟨jG a,jG b,E.symm,F.symm,?_,?_⟩
   ·have:=A.1;rw[<-E,lO]at this;exact(gH _).1 this
   ·have:=A.2;rw[<-F,lO]at this;exact(gH _).1 this
def dG:UInt8:=47
def jQ(s:ByteArray):Bool:=(bl s).any (· == dG)
def gU(s:ByteArray):ByteArray:=⟨((bl s).takeWhile (· != dG)).toArray⟩
def gD(s:ByteArray):ByteArray:=if jQ s=true then⟨(((bl s).dropWhile (· != dG)).drop 1).toArray⟩else dec 1
def cP(s:ByteArray):Bool:=(eT (gU s)&&fC (gD s)&&decide ((dY (gU s)).size<=4096)&&decide ((gD s).size<=4096)) &&
 (!jQ s||(!eqB (gD s) (dec 0)&& !eqB (gD s) (dec 1)&& !eqB (gU s) (dec 0)&&Nat.gcd (jG (gU s)).natAbs (eP (gD s)) == 1))
def BR(s:ByteArray):Rat:=mkRat (jG (gU s)) (eP (gD s))
def slB:ByteArray:=⟨#[47]⟩
def pV(x:Rat):ByteArray:=if x.den=1 then zed x.num else zed x.num++slB++dec x.den
def Bj(x:Rat):Prop:=x.num.natAbs<cU/\x.den<cU
def tQ{α:Type}{p:α->Bool}:∀{l:List α},(∀c∈l,p c=true)->l.takeWhile p=l
 | [],_=>rfl
 | a::l,h=>by rw[List.takeWhile_cons,if_pos (h a (by simp)),tQ fun c A=>h c (by simp[A])]
def Bi{α:Type}{p:α->Bool}:∀{l:List α} {c:α},c∈l.takeWhile p->p c=true
 | [],c,h=>by simp at h
 | a::l,c,h=>by
  rw[List.takeWhile_cons]at h;split at h
  ·rename_i A;rcases List.mem_cons.1 h with rfl|h
   ·exact A
   ·exact Bi h
  ·cases h
def J4{c:UInt8}(h:isD c=true):(c != dG)=true:=by have:=oB.1 h;simp only[bne_iff_ne,ne_eq];intro e;rw[e]at this;simp[dG]at this
def BW(n:Nat):∀c∈decDigits n,(c != dG)=true:=fun c A=>J4 (List.all_eq_true.1 (qG n) c A)
def oD(n:Int):∀c∈itoa n,(c != dG)=true:=by
 intro c A;unfold itoa at A;split at A
 ·rcases List.mem_cons.1 A with rfl|A
  ·decide
  ·exact BW _ c A
 ·exact BW _ c A
def IZ(n:Int):bl (zed n)=itoa n:=iW _
def ZP:bl slB=[dG]:=rfl
def SJ{l r:List UInt8}(h:∀c∈l,(c != dG)=true):(l++dG::r).takeWhile (· != dG)=l:=by rw[List.takeWhile_append_of_pos h];simp
def Q5{l r:List UInt8}(h:∀c∈l,(c != dG)=true):(l++dG::r).dropWhile (· != dG)=dG::r:=by rw[List.dropWhile_append_of_pos h];simp
def A7{l:List UInt8}(h:∀c∈l,(c != dG)=true):l.any (· == dG)=false:=by rw[List.any_eq_false];intro c A e;have:=h c A;simp at this e;exact this e
def Dj(x:Rat):bl (pV x)=if x.den=1 then itoa x.num else itoa x.num++dG::decDigits x.den:=by
 unfold pV;split
 ·exact IZ _
 ·rw[BJ,BJ,IZ,lU,ZP];simp
def Eu(x:Rat):jQ (pV x)= !(x.den == 1):=by
 unfold jQ;rw[Dj];split
 ·rename_i h;rw[A7 (oD _),h];rfl
 ·rename_i h;rw[List.any_append];simp[h]
def F1(x:Rat):gU (pV x)=zed x.num:=by
 refine kZ ?_;unfold gU;rw[iW,Dj,IZ];split
 ·exact tQ (oD _)
 ·exact SJ (oD _)
def Gx(x:Rat):gD (pV x)=dec x.den:=by
 unfold gD;rw[Eu,Dj];by_cases h:x.den=1
 ·simp[h]
 ·simp only[h,beq_eq_false_iff_ne.2 h,Bool.not_false,if_true,if_false];rw[Q5 (oD _)];rfl
def mO(x:Rat):BR (pV x)=x:=by unfold BR;rw[F1,Gx,dE,cF,Rat.mkRat_self]
def sL(n:Int):(dY (zed n)).size<=4096↔n.natAbs<cU:=by rw[lO];exact gH _
def vK{x:Rat}(h:Bj x):cP (pV x)=true:=by
 unfold cP;rw[F1,Gx,mQ,pL,Eu,dE,cF];simp only[Bool.true_and,Bool.and_eq_true,decide_eq_true_eq,Bool.or_eq_true,Bool.not_not,beq_iff_eq,Bool.not_eq_true',oU,ne_eq];refine⟨⟨(sL _).2 h.1,(gH _).2 h.2⟩,?_⟩;by_cases h1:x.den=1
 ·exact .inl h1
 ·refine .inr ⟨⟨⟨?_,?_⟩,?_⟩,x.reduced⟩
  ·rw[tI];exact x.den_nz
  ·rw[tI];exact h1
  ·rw[<-fF,T6];intro h0;apply h1;have:=x.reduced;rw[h0]at this;simpa[Nat.Coprime]using this
def gJ{s:ByteArray}(h:cP s=true):∃x:Rat,s=pV x/\Bj x/\gU s=zed x.num/\gD s=dec x.den:=by
 unfold cP at h;simp only[Bool.and_eq_true,decide_eq_true_eq,Bool.or_eq_true,Bool.not_eq_true',oU,ne_eq,beq_iff_eq]at h;obtain⟨⟨⟨⟨h1,h2⟩,Z⟩,h4⟩,F⟩:=h;have ep:=Dt h1;have eq:=jN h2;have E:(jG (gU s)).natAbs.Coprime (eP (gD s))/\eP (gD s)≠0:=by
  rcases F with F|⟨⟨⟨X,_⟩,_⟩,h7⟩
  ·have M:gD s=dec 1:=by unfold gD;rw[if_neg (by rw[F];simp)]
   rw[M,cF];exact⟨Nat.coprime_one_right _,by omega⟩
  ·exact⟨h7,fun e=>X (by rw[<-eq,e])⟩
 let x:Rat:=⟨jG (gU s),eP (gD s),E.2,E.1⟩
 have M:gU s=zed x.num:=ep.symm;have I:gD s=dec x.den:=eq.symm;refine⟨x,kZ ?_,⟨?_,?_⟩,M,I⟩
 ·rw[Dj];have U:bl (gU s)=(bl s).takeWhile (· != dG):=iW _;rw[M,IZ]at U;by_cases A:jQ s=true
  ·have Y:bl (gD s)=((bl s).dropWhile (· != dG)).drop 1:=by unfold gD;rw[if_pos A,iW]
   rw[I,lU]at Y;have T:x.den≠1:=fun e=>by
    rcases F with F|⟨⟨⟨_,X⟩,_⟩,_⟩
    ·rw[A]at F;cases F
    ·exact X (by rw[I,e])
   rw[if_neg T,U,Y]
   conv=>lhs;rw[<-List.takeWhile_append_dropWhile (p:=(· != dG)) (l:=bl s)]
   congr 1
   cases hw:(bl s).dropWhile (· != dG)with
   | nil=>exfalso;unfold jQ at A;obtain⟨c,O,J⟩:=List.any_eq_true.1 A;rw[<-List.takeWhile_append_dropWhile (p:=(· != dG)) (l:=bl s),hw,List.append_nil]at O;have:=Bi O;simp at this J;exact this J
   | cons c r=>
    have h0:(c != dG)=false:=by have:=List.head?_dropWhile_not (p:=(· != dG)) (l:=bl s);rw[hw]at this;simpa using this
    have:c=dG:=by simpa using h0
    rw[this];rfl
  ·have A:jQ s=false:=by simpa using A
   have T:x.den=1:=by
    have:gD s=dec 1:=by unfold gD;rw[A];rfl
    rw[I]at this;exact tI.1 this
   rw[if_pos T,U]
   symm
   refine tQ ?_;intro c O;unfold jQ at A;rw[List.any_eq_false]at A;have:=A c O;simp at this |-;exact this
 ·rw[M]at Z;exact(sL _).1 Z
 ·rw[I]at h4;exact(gH _).1 h4
def nD(n:Int):Bool:= !decide (n.natAbs<cU)
def tM(x y:Rat):ByteArray×Int:=if(nD (x.num*y.den)||nD (y.num*x.den)||nD (x.num*y.den+y.num*x.den)||nD (x.den*y.den))=true then(emp,4)else(pV (x+y),0)
def BO(a b:ByteArray):ByteArray×Int:=if(cP a&&cP b)=true then tM (BR a) (BR b)else(emp,3)
def subR(a b:ByteArray):ByteArray×Int:=if(cP a&&cP b)=true then tM (BR a) (-BR b)else(emp,3)
def KK(x y:Rat):ByteArray×Int:=if(nD (x.num*y.num)||nD (x.den*y.den))=true then(emp,4)else(pV (x*y),0)
def yW(a b:ByteArray):ByteArray×Int:=if(cP a&&cP b)=true then KK (BR a) (BR b)else(emp,3)
def Yq(x y:Rat):Int:=if x<y then -1 else if y<x then 1 else 0
def Kl(a b:ByteArray):Int:=if(cP a&&cP b)=true then Yq (BR a) (BR b)else 0
def Cm(a:ByteArray):Int:=if cP a=true then(BR a).num.sign else 0
def XH{n:Int}{d:Nat}(A:d≠0):n.fdiv (Nat.gcd n.natAbs d:Nat)=(mkRat n d).num:=by rw[Rat.num_mkRat,if_neg A,Nat.gcd_comm];exact Int.fdiv_eq_ediv_of_nonneg _ (by omega)
def XE{n:Int}{d:Nat}(A:d≠0):(d:Int).fdiv (Nat.gcd n.natAbs d:Nat)=((mkRat n d).den:Int):=by rw[Rat.den_mkRat,if_neg A,Nat.gcd_comm,Int.fdiv_eq_ediv_of_nonneg _ (by omega)];rfl
def Ds{n:Int}{d:Nat}(E:d≠0)(F:n.natAbs<cU)(A:d<cU):Bj (mkRat n d):=by
 constructor
 ·rw[Rat.num_mkRat,if_neg E];have:(n/((d.gcd n.natAbs:Nat):Int)).natAbs<=n.natAbs:=by
   rw[Int.natAbs_ediv_of_dvd]
   ·exact Nat.div_le_self _ _
   ·exact Int.ofNat_dvd_left.2 (Nat.gcd_dvd_right _ _)
  omega
 ·rw[Rat.den_mkRat,if_neg E];exact Nat.lt_of_le_of_lt (Nat.div_le_self _ _) A
def XK{n:Int}{d:Nat}(A:d≠0):0<Nat.gcd n.natAbs d:=Nat.gcd_pos_of_pos_right _ (by omega)
def Se{n:Int}{d:Nat}(A:d≠0)(h:d<cU):Nat.gcd n.natAbs d<cU:=Nat.lt_of_le_of_lt (Nat.gcd_le_right _ (by omega)) h
def kP{n:Int}:nD n=false↔n.natAbs<cU:=by simp[nD]
def TO(x y:Rat):x+y=mkRat (x.num*y.den+y.num*x.den) (x.den*y.den):=Rat.add_def' x y
def T9(x y:Rat):x*y=mkRat (x.num*y.num) (x.den*y.den):=Rat.mul_def' x y
def Db(x y:Rat):((x.den:Int)*y.den).natAbs=x.den*y.den:=by rw[Int.natAbs_mul,Int.natAbs_natCast,Int.natAbs_natCast]
def Il(x y:Rat):x.den*y.den≠0:=Nat.mul_ne_zero x.den_nz y.den_nz
def Nm{x y:Rat}(h:(tM x y).2=0):tM x y=(pV (x+y),0)/\Bj (x+y):=by
 unfold tM at h |-;split at h
 ·cases h
 ·rename_i A;rw[if_neg A];simp only[Bool.or_eq_true,not_or,Bool.not_eq_true,kP]at A;exact⟨rfl,by rw[TO];exact Ds (Il x y) A.1.2 (by rw[<-Db];exact A.2)⟩
def Kv{x y:Rat}(h:(KK x y).2=0):KK x y=(pV (x*y),0)/\Bj (x*y):=by
 unfold KK at h |-;split at h
 ·cases h
 ·rename_i A;rw[if_neg A];simp only[Bool.or_eq_true,not_or,Bool.not_eq_true,kP]at A;exact⟨rfl,by rw[T9];exact Ds (Il x y) A.1 (by rw[<-Db];exact A.2)⟩
def HT(p q r s:Int):Int:=iC (p*s) (r*q)
def pN{p q:Int}(A:0<q):p=p.fdiv q*q+p.fmod q/\0<=p.fmod q/\p.fmod q<q:=
 ⟨by rw[Int.mul_comm];exact(Int.mul_fdiv_add_fmod p q).symm,Int.fmod_nonneg_of_pos _ A,Int.fmod_lt_of_pos _ A⟩
def iK{a b:Int}(h:a<b):iC a b= -1:=if_pos h
def iP{a b:Int}(h:b<a):iC a b=1:=by unfold iC;rw[if_neg (by omega),if_pos h]
def qB{a b:Int}(h:a=b):iC a b=0:=by unfold iC;rw[if_neg (by omega),if_neg (by omega)]
def G9{a b:Int}:iC a b=0↔a=b:=by
 unfold iC;constructor
 ·intro h;split at h
  ·cases h
  ·split at h
   ·cases h
   ·omega
 ·intro h;rw[if_neg (by omega),if_neg (by omega)]
def To(a b:Int):iC b a= -iC a b:=by
 rcases Int.lt_trichotomy a b with h|h|h
 ·rw[iK h,iP h];rfl
 ·rw[qB h,qB h.symm];rfl
 ·rw[iP h,iK h]
def Lt{p q r s:Int}(E:0<q)(A:0<s)(h:p.fdiv q<r.fdiv s):p*s<r*q:=by
 obtain⟨O,a1,I⟩:=pN (p:=p) E;obtain⟨J,a2,M⟩:=pN (p:=r) A;have h1:p*s<(p.fdiv q+1)*q*s:=by refine Int.mul_lt_mul_of_pos_right ?_ A;rw[Int.add_mul];omega
 have F:(p.fdiv q+1)*q*s<=r.fdiv s*q*s:=Int.mul_le_mul_of_nonneg_right (Int.mul_le_mul_of_nonneg_right (by omega) (by omega)) (by omega);have T:r.fdiv s*q*s<=r*q:=by rw[Int.mul_right_comm];exact Int.mul_le_mul_of_nonneg_right (by omega) (by omega)
 omega
def Om{p q r s:Int}(A:0<q)(E:0<s)(h:p.fdiv q≠r.fdiv s):HT p q r s=iC (p.fdiv q) (r.fdiv s):=by
 unfold HT;rcases Int.lt_or_gt_of_ne h with h|h
 ·rw[iK h,iK (Lt A E h)]
 ·rw[iP h,iP (Lt E A h)]
def RV{p q r s:Int}(F:0<q)(I:0<s)(h:p.fdiv q=r.fdiv s):HT p q r s=iC (p.fmod q*s) (r.fmod s*q):=by
 obtain⟨J,_,_⟩:=pN (p:=p) F;obtain⟨E,_,_⟩:=pN (p:=r) I;unfold HT;have h1:p*s=p.fdiv q*q*s+p.fmod q*s:=by
  conv=>lhs;rw[J]
  rw[Int.add_mul]
 have A:r*q=p.fdiv q*q*s+r.fmod s*q:=by
  conv=>lhs;rw[E]
  rw[Int.add_mul,<-h,Int.mul_right_comm]
 rw[h1,A];unfold iC;have M:(p.fdiv q*q*s+p.fmod q*s<p.fdiv q*q*s+r.fmod s*q)↔p.fmod q*s<r.fmod s*q:=by omega
 have c2:(p.fdiv q*q*s+r.fmod s*q<p.fdiv q*q*s+p.fmod q*s)↔r.fmod s*q<p.fmod q*s:=by omega
 simp only[M,c2]
def QS(x q y s:Int):iC (x*s) (y*q)= -HT q x s y:=by unfold HT;rw[Int.mul_comm q y,Int.mul_comm s x];exact To _ _
def aaA(x y:Rat):Yq x y=HT x.num x.den y.num y.den:=by unfold Yq HT iC;simp only[Rat.lt_iff]
def xD(b:Nat)(l:List Nat)(k:Nat):ofL b (l.take (k+1))=ofL b (l.take k)+b^k*l.getD k 0:=by
 cases h:l[k]? with
 | none=>have A:=List.getElem?_eq_none_iff.1 h;rw[List.take_of_length_le (by omega),List.take_of_length_le (by omega)];simp[List.getD,h]
 | some x=>rw[iY b h];simp[List.getD,h]
def Lim.getD{b:Nat}(E:0<b){l:List Nat}(h:Lim b l)(k:Nat):l.getD k 0<b:=by
 cases A:l[k]? with
 | none=>simpa[List.getD,A]using E
 | some x=>simpa[List.getD,A]using h x (List.mem_of_getElem? A)
def Lim.snoc{b:Nat}{l:List Nat}(h:Lim b l){x:Nat}(E:x<b):Lim b (l++[x]):=fun y A=>by
 rcases List.mem_append.1 A with A|A
 ·exact h y A
 ·rw[List.mem_singleton.1 A];exact E
def Lim.set{b:Nat}{l:List Nat}(h:Lim b l){x k:Nat}(E:x<b):Lim b (l.set k x):=fun y A=>by
 rcases List.mem_or_eq_of_mem_set A with A|rfl
 ·exact h y A
 ·exact E
def Lim.take{b:Nat}{l:List Nat}(h:Lim b l)(k:Nat):Lim b (l.take k):=fun y A=>h y (List.mem_of_mem_take A)
def Lim.drop{b:Nat}{l:List Nat}(h:Lim b l)(k:Nat):Lim b (l.drop k):=fun y A=>h y (List.mem_of_mem_drop A)
def Lim.zeros{b:Nat}(E:0<b)(n:Nat):Lim b (List.replicate n 0):=fun y A=>by rw[(List.mem_replicate.1 A).2];exact E
def vQ(b:Nat){l:List Nat}{k x:Nat}(h:l[k]?=some x):ofL b (l.drop k)=x+b*ofL b (l.drop (k+1)):=by obtain⟨A,E⟩:=List.getElem?_eq_some_iff.1 h;rw[List.drop_eq_getElem_cons A,E,ofL]
def Mp{b:Nat}(I:0<b){l o:List Nat}{i n k c:Nat}(A:l[i]?=some n)(E:o.length=i)(h:ofL b o+b^i*c=ofL b (l.take i)*k):
  ofL b (o++[(n*k+c)%b])+b^(i+1)*((n*k+c)/b)=ofL b (l.take (i+1))*k:=by
 rw[rX,iY b A,E,Nat.pow_succ];have e:=Nat.mod_add_div (n*k+c) b;have F:b^i*((n*k+c)%b+b*((n*k+c)/b))=b^i*(n*k+c):=by rw[e]
 grind
def WH{b:Nat}(F:0<b){x y o:List Nat}{i c:Nat}(A:o.length=i)(h:ofL b o+b^i*c=ofL b (x.take i)+ofL b (y.take i)):
  ofL b (o++[(x.getD i 0+y.getD i 0+c)%b])+b^(i+1)*((x.getD i 0+y.getD i 0+c)/b)=ofL b (x.take (i+1))+ofL b (y.take (i+1)):=by
 rw[rX,xD,xD,A,Nat.pow_succ];have e:=Nat.mod_add_div (x.getD i 0+y.getD i 0+c) b;have E:b^i*((x.getD i 0+y.getD i 0+c)%b+b*((x.getD i 0+y.getD i 0+c)/b))=b^i*(x.getD i 0+y.getD i 0+c):=by rw[e]
 grind
def Ns{b:Nat}{x y o:List Nat}{i c c' d:Nat}(E:o.length=i)(h:ofL b o+ofL b (y.take i)=ofL b (x.take i)+b^i*c)(A:d+y.getD i 0+c=x.getD i 0+b*c'):
  ofL b (o++[d])+ofL b (y.take (i+1))=ofL b (x.take (i+1))+b^(i+1)*c':=by
 rw[rX,xD,xD,E,Nat.pow_succ];have F:b^i*(d+y.getD i 0+c)=b^i*(x.getD i 0+b*c'):=by rw[A]
 grind
def LX{b x y c:Nat}(F:x<b)(A:y<b)(E:c<=1):(if(x:Int)-y-c<0 then(x:Int)-y-c+b else(x:Int)-y-c)=((if x<y+c then x+b-(y+c)else x-(y+c):Nat):Int):=by split <;> split <;> omega
def IV{b x y c:Nat}(F:x<b)(A:y<b)(E:c<=1):(if x<y+c then x+b-(y+c)else x-(y+c))+y+c=x+b*(if x<y+c then 1 else 0)/\(if x<y+c then x+b-(y+c)else x-(y+c))<b:=by split <;> constructor <;> omega
def SM{b:Nat}(T:2<=b){x y o:List Nat}{c:Nat}(I:Lim b o)(M:Lim b x)(J:o.length=x.length)(E:y.length<=x.length)(F:ofL b y<=ofL b x)(O:c<=1)(h:ofL b o+ofL b (y.take x.length)=ofL b (x.take x.length)+b^x.length*c):
  c=0/\ofL b o=ofL b x-ofL b y:=by
 rw[List.take_of_length_le E,List.take_length]at h;have h1:=mR (by omega) I;rw[J]at h1;rcases Nat.eq_zero_or_pos c with A|A
 ·subst A;rw[Nat.mul_zero]at h;omega
 ·have:c=1:=by omega
  subst this;rw[Nat.mul_one]at h;omega
def TZ{b:Nat}(O:0<b){y out E:List Nat}{i k x c v A:Nat}(I:out[i+k]?=some v)(F:y[k]?=some A)(h:ofL b out+b^(i+k)*c=ofL b E+b^i*(x*ofL b (y.take k))):
  ofL b (out.set (i+k) ((v+x*A+c)%b))+b^(i+(k+1))*((v+x*A+c)/b)=ofL b E+b^i*(x*ofL b (y.take (k+1))):=by
 have h1:=HL b out (i+k) v ((v+x*A+c)%b) I;have e:=Nat.mod_add_div (v+x*A+c) b;have M:b^(i+k)*((v+x*A+c)%b+b*((v+x*A+c)/b))=b^(i+k)*(v+x*A+c):=by rw[e]
 rw[iY b F,show i+(k+1)=(i+k)+1 by omega,Nat.pow_succ];have J:b^(i+k)=b^i*b^k:=Nat.pow_add b i k
 grind
def W7{b:Nat}{y out A:List Nat}{i x c:Nat}(E:out[i+y.length]?=some 0)(h:ofL b out+b^(i+y.length)*c=ofL b A+b^i*(x*ofL b (y.take y.length))):
  ofL b (out.set (i+y.length) c)=ofL b A+b^i*(x*ofL b y):=by
 have h1:=HL b out (i+y.length) 0 c E;rw[List.take_length]at h;rw[<-h];omega
def TD{b r a:Nat}(T:2<=b){l:List Nat}{i x:Nat}{A:List Nat}(M:l[i]?=some x)(F:x<b)(O:r<a)(I:i<A.length)(h:ofL b (l.drop (i+1))=ofL b (A.drop (i+1))*a+r):
  ofL b (l.drop i)=ofL b ((A.set i ((x+b*r)/a)).drop i)*a+(x+b*r)%a/\(x+b*r)/a<b/\(x+b*r)%a<a:=by
 have E:0<a:=by omega
 have J:(A.set i ((x+b*r)/a))[i]?=some ((x+b*r)/a):=by simp[I]
 refine⟨?_,?_,Nat.mod_lt _ E⟩
 ·rw[vQ b M,vQ b J,h,List.drop_set_of_lt (by omega)];have e:=Nat.mod_add_div (x+b*r) a
  grind
 ·rw[Nat.div_lt_iff_lt_mul E];have:b*(r+1)<=b*a:=Nat.mul_le_mul_left _ O;rw[Nat.mul_add]at this;omega
def Yg{q r a n:Nat}(A:r<a)(h:n=q*a+r):q=n/a/\r=n%a:=by
 subst h;have E:0<a:=by omega
 constructor
 ·rw[Nat.add_comm,Nat.add_mul_div_right _ _ E,Nat.div_eq_of_lt A,Nat.zero_add]
 ·rw[Nat.add_comm,Nat.add_mul_mod_self_right,Nat.mod_eq_of_lt A]
def VO(l:List UInt8):∀a:Nat,l.foldl (fun a c=>10*a+(c.toNat-48)) a=a*10^l.length+fQ l:=by
 induction l with
 | nil=>intro a;simp[fQ]
 | cons c l ih=>
  intro a;have h1:=ih (10*a+(c.toNat-48));have A:=ih (10*0+(c.toNat-48));simp only[List.foldl_cons,fQ]at h1 A |-;rw[h1,A,List.length_cons,Nat.pow_succ]
  grind
def vG(a b:List UInt8):fQ (a++b)=fQ a*10^b.length+fQ b:=by rw[fQ,List.foldl_append];exact VO b _
def Dc{l:List UInt8}(h:l.all isD=true):fQ l<10^l.length:=by
 induction l using HF with
 | h0=>simp[fQ]
 | h1 l c ih=>rw[List.all_append]at h;simp only[Bool.and_eq_true,List.all_cons,List.all_nil,Bool.and_true]at h;have:=ih h.1;have A:=oB.1 h.2;rw[sE,List.length_append,List.length_cons,List.length_nil,Nat.pow_succ];omega
def Kf:Nat->Nat->List UInt8
 | 0,_=>[]
 | k+1,x=>Kf k (x/10)++[UInt8.ofNat (48+x%10)]
def Gq:∀(k x m:Nat),x<10^k->m≠0->decDigits (x+10^k*m)=decDigits m++Kf k x
 | 0,x,m,hx,hm=>by
  have:x=0:=by simpa using hx
  subst this;simp[Kf]
 | k+1,x,m,hx,hm=>by
  rw[Nat.pow_succ]at hx;have h1:10^(k+1)*m=10*(10^k*m):=by rw[Nat.pow_succ,Nat.mul_comm (10^k) 10,Nat.mul_assoc]
  have A:0<10^k*m:=Nat.mul_pos (Nat.pow_pos (by omega)) (by omega);rw[h1,decDigits,dif_neg (by omega),show(x+10*(10^k*m))/10=x/10+10^k*m by omega,show(x+10*(10^k*m))%10=x%10 by omega,Gq k (x/10) m (by omega) hm,Kf,List.append_assoc]
def Tk(k:Nat):Kf k 0=List.replicate k 48:=by
 induction k with
 | zero=>rfl
 | succ k ih=>rw[Kf,Nat.zero_div,ih,List.replicate_succ'];rfl
def Pf:∀(k x:Nat),1<=k->x<10^k->Kf k x=List.replicate (k-(decDigits x).length) 48++decDigits x
 | 0,x,hk,hx=>by omega
 | k+1,x,hk,hx=>by
  rw[Kf];by_cases E:x<10
  ·rw[show x/10=0 by omega,Tk,decDigits_one E];simp[Nat.mod_eq_of_lt E]
  ·have A : 1 <= k := by
    rcases Nat.eq_zero_or_pos k with h|h
    ·subst h;simp at hx;omega
    ·exact h
   rw[Nat.pow_succ]at hx;rw[Pf k (x/10) A (by omega)]
   conv=>rhs;rw[decDigits,dif_neg E]
   rw[List.length_append,List.length_cons,List.length_nil,List.append_assoc,show k+1-((decDigits (x/10)).length+(0+1))=k-(decDigits (x/10)).length by omega]
def acB(x:Nat):List UInt8:=List.replicate (9-(decDigits x).length) 48++decDigits x
def UX{x m:Nat}(A:x<1000000000)(E:m≠0):decDigits (x+1000000000*m)=decDigits m++acB x:=by have:=Gq 9 x m A E;rw[Pf 9 x (by omega) A]at this;exact this
def VQ{b:Nat}(A:2<=b){n k:Nat}(F:k<(bJ b n).length):ofL b ((bJ b n).drop k)≠0:=by
 intro h;have J:n≠0:=fun e=>by subst e;rw[eL]at F;simp at F
 have h1:=N5 A J;have E:ofL b (bJ b n)=ofL b ((bJ b n).take k)+b^k*ofL b ((bJ b n).drop k):=by have:=mG b ((bJ b n).take k) ((bJ b n).drop k);rw[List.take_append_drop,List.length_take,Nat.min_eq_left (by omega)]at this;exact this
 rw[dR A,h,Nat.mul_zero,Nat.add_zero]at E;have I:=mR (b:=b) (by omega) ((dJ A n).take k);rw[List.length_take,Nat.min_eq_left (by omega),<-E]at I;have:b^k<=b^((bJ b n).length-1):=Nat.pow_le_pow_right (by omega) (by omega);omega
def dl(l:List UInt8):List Nat:=(l.map fun c=>c.toNat-48).reverse
end Go.Nu
end
section
namespace Go.Aw
open Go.RowKit
section
variable{P:Program}{S:Sg}{w:World}{H:aG}{f:FuncId}{args args':List AV}{K:AV->aG->Prop}
def St.frz(I:St S w H)(l:List Nat):St (S.froze fun k=>if k∈l then H k else none) w (fun k=>if k∈l then none else H k)/\Grow S w (S.froze fun k=>if k∈l then H k else none) w/\St S w fun k=>if k∈l then H k else none:=by
 let Hf:aG:=fun k=>if k∈l then H k else none
 let Hr:aG:=fun k=>if k∈l then none else H k
 have J:∀k r',Hf k=some r'->k∈l/\H k=some r':=fun k r' A=>by
  by_cases e:k∈l
  ·exact⟨e,by simpa[Hf,e]using A⟩
  ·simp[Hf,e]at A
 have F:∀k r',Hr k=some r'->¬k∈l/\H k=some r':=fun k r' A=>by
  by_cases e:k∈l
  ·simp[Hr,e]at A
  ·exact⟨e,by simpa[Hr,e]using A⟩
 refine⟨⟨?_,?_,fun k r' A=>(I.rows k r' (F k r' A).2).keep (S.le_froze Hf) (eQ.refl S w) (fun _ _=>rfl),?_,fun k k' U r2 A M O g E T=>I.disj k k' U r2 (F k U A).2 (F k' r2 M).2 O g E T,I.tabs.keep (S.le_froze Hf) (eQ.refl S w)⟩,⟨S.le_froze Hf,fun k A=>.inl A,rfl,rfl,rfl,Nat.le_refl _,fun _ _=>rfl,?_⟩,I.drop fun k r' A=>(J k r' A).2⟩
 ·rintro g (E|E)
  ·exact .inl (I.ro_fz g E)
  ·exact .inr E
 ·rintro g (E|⟨k,r',A,E⟩)
  ·exact I.fz_lt g E
  ·exact(I.rows k r' (J k r' A).2).block_lt E
 ·rintro k r' A g E (h1|⟨i,r2,X,Y⟩)
  ·exact I.free k r' (F k r' A).2 g E h1
  ·exact I.disj k i r' r2 (F k r' A).2 (J i r2 X).2 (fun e=>(F k r' A).1 (e▸(J i r2 X).1)) g E Y
 ·rintro g (E|⟨k,r',A,E⟩)
  ·exact .inl E
  ·exact .inr (I.free k r' (J k r' A).2 g E)
def aX.frz(l:List Nat)(U:ConvL (fun k=>if k∈l then H k else none) args args')(h:aX P f args' (fun k=>if k∈l then none else H k) K):aX P f args H K:=by
 intro S w vals M X;obtain⟨h1,E,I⟩:=M.frz l;refine(h _ w vals h1 (U.rep I X)).mono fun e w' ⟨v,r,H',S',Z,J,A,T,F,O⟩=>⟨v,r,H',S',Z,J,A,T,E.trans F,fun k Y h0=>O k Y ?_⟩
 by_cases e:k∈l
 ·simp[e]
 ·simpa[e]using h0
def PC.useF{r:AV}(l:List Nat)(A:ConvL (fun k=>if k∈l then H k else none) args args')(h:PC P f args' r)(E:K r (fun k=>if k∈l then none else H k)):aX P f args H K:=aX.frz l A (PC.use h E)
def PC.lib{a:List Value}{r:AV}{v:Value}(O:∀S w,rep S w r v)(h:∀w,(∀t∈QG,pO w t.1=some t.2)->Calls P f a.toArray w fun e w'=>e=.returned v/\Below w.heap.size w w'):PC P f (a.map .v) r:=by
 intro S w vals E U F;obtain rfl:vals=a:=by
  clear h;induction a generalizing vals with
  | nil=>
   cases vals with
   | nil=>rfl
   | cons x r=>simp[aW]at F
  | cons x a ih=>simp only[List.map_cons,aW]at F;obtain⟨u,t,rfl,h1,J⟩:=F;simp only[rep]at h1;subst h1;rw[ih t J]
 refine(h w fun t M=>(E.tabs t M).2).mono fun e w' ⟨T,A⟩=>?_
 exact⟨v,r,bG,S,T,rfl,E.after A.size fun k I=>A.block k I,O S w',E.grow A.os A.tape A.output A.size fun k I=>A.block k I,eF.refl _ _⟩
end
end Go.Aw
end
section
namespace Go.Proofs.YtkjdacijpeiphaaGreatDoor.Nu
open Go.Proofs.Tryz
open Go.Aw Go.Aw.D Go.Proofs Ty Go.Nu
abbrev bas:Nat:=1000000000
def iJ(n:Nat):List AV:=[int n]
def JD(n:Nat):(iJ n).length=1:=(rfl)
def aaR(n:Nat):(iJ n).getD 0 .any=int n:=(rfl)
attribute [go_sem] JD aaR
def cI{H:aG}{k:IntKind}{a b:Int}(h:a=b):Conv H (.v (.int k a)) (.v (.int k b)):=h▸.refl _
def cB{H:aG}{a b:Bool}(h:a=b):Conv H (.v (.bool a)) (.v (.bool b)):=h▸.refl _
def cS{H:aG}{a b:ByteArray}(h:a=b):Conv H (.v (.string a)) (.v (.string b)):=h▸.refl _
def ltB{k n:Nat}(h:decide ((k:Int)<(n:Int))=true):k<n:=by simpa using h
def geB{k n:Nat}(A:k<=n)(h:decide ((k:Int)<(n:Int))=false):k=n:=by
 have:¬k<n:=by simpa using h
 omega
def abU(s:ByteArray):s.toList=bl s:=ByteArray.toList_eq s
def allN(l:List Nat):cA 1 (l.map iJ):=yU JD l
def aaV(s:ByteArray)(k:Nat):s.data.getD k 0=(bl s).getD k 0:=by simp[bl,Array.getD_eq_getD_getElem?,List.getD]
def aaG(a:Array UInt8):bl ⟨a⟩=a.toList:=rfl
attribute [go_sem] abU aaV aaG
def ZV{α:Type}{q:α->Bool}{l:List α}{k:Nat}{c:α}(h:l[k]?=some c)(E:q c=false):l.all q=false:=by
 cases A:l.all q with
 | false=>rfl
 | true=>have:=Xal.1 A c (Xac h);rw[E]at this;cases this
def Xf{α:Type}{q:α->Bool}{l:List α}(h:∀c∈l,q c=true):l.all q=true:=Xal.2 h
def fI{α:Type}{p:α->Prop}{l:List α}{k:Nat}{x:α}(F:l[k]?=some x)(E:p x)(h:∀x∈l.take k,p x):∀x∈l.take (k+1),p x:=by
 rw[aZ F];intro y A;rcases Xas.1 A with A|A
 ·exact h y A
 ·rw[Xax.1 A];exact E
def abJ{c:UInt8}{n:Nat}(A:n<256):(((c.toNat:Int) == (n:Int))=true)↔c=UInt8.ofNat n:=by
 rw[beq_iff_eq];constructor
 ·intro h;have:c.toNat=n:=by omega
  rw[<-this,UInt8.ofNat_toNat]
 ·intro h;rw[h,UInt8.toNat_ofNat'];omega
def L8(l:List UInt8):(l == []||(((l.getD 0 0).toNat:Int) == 48&& !(l == [48])))= !(l != []&&(l.length == 1||l.getD 0 0 != 48)):=by
 cases l with
 | nil=>rfl
 | cons c r=>
  have A:(((c.toNat:Int) == 48)=true)↔c=48:=abJ (n:=48) (by omega);by_cases h:c=48
  ·subst h;cases r <;> rfl
  ·have h1 : ((c.toNat : Int) == 48) = false := by rw[<-Bool.not_eq_true,A];exact h
   simp[h1,h]
def Xi(c:UInt8):(decide ((c.toNat:Int)<48)||decide ((c.toNat:Int)>57))= !isD c:=by unfold isD;rw[Xao];simp only[Bool.or_eq_true,decide_eq_true_eq,Xbh,Bool.and_eq_false_iff,decide_eq_false_iff_not];omega
def u8w{n:Nat}(h:48<=n)(A:n<256):IntKind.u8.wrap ((n:Int)-48)=((n-48:Nat):Int):=by have e:IntKind.u8.wrap ((n:Int)-48)=((n:Int)-48)%256:=rfl;rw[e];omega
def P3{l:List UInt8}{k:Nat}{c:UInt8}(h:l[k]?=some c):l.getD k 0=c:=by simp[List.getD,h]
def AK(s:ByteArray)(h:s.size<=4611686018427387904):PC prog 126 [str s] (boo (fC s)):=by
 have U:=eV s;refine pcd func126 rfl rfl ?_;simp only[go_sem];refine⟨fun h0=>⟨by omega,?_⟩,?_⟩
 ·have:bl s≠[]:=by simpa using h0
  have:=List.length_pos_iff.2 this;omega
 rw[L8];refine aA (fun M=>?_) (fun M=>?_)
 ·simp only[go_sem];refine cB ?_;unfold fC mH;rw[Xbh]at M;rw[M];rfl
 rw[Bool.not_eq_false']at M;simp only[go_sem];refine⟨fun ρ _=>∃k:Nat,k<=(bl s).length/\ρ 0=str s/\ρ 16=int s.size/\ρ 17=int k/\∀c∈(bl s).take k,isD c=true,fun ρ _=>(bl s).length-aU (ρ 17),⟨0,Xab _,rfl,rfl,rfl,by simp⟩,?_⟩;rintro ρ H ⟨k,Y,h0,F,I,O⟩;simp only[go_sem,h0,F,I];refine aA (fun A=>?_) (fun E=>?_)
 ·have A:k<(bl s).length:=by have:=ltB A;omega
  obtain⟨c,T⟩:=aO A;have X:=P3 T;simp only[go_sem,h0,F,I,X,Xi];refine⟨⟨by omega,by omega⟩,fun _=>⟨by omega,by omega⟩,aA (fun J=>?_) (fun J=>?_)⟩
  ·simp only[go_sem];refine cB ?_;unfold fC mH;rw[ZV T (by simpa using J),Bool.and_false]
  ·simp only[go_sem,h0,F,I,aT k];exact⟨⟨k+1,A,rfl,fI T (by simpa using J) O⟩,by simp only[aF];omega⟩
 ·have E:k=(bl s).length:=by rw[<-U]at E;exact geB Y E
  subst E;rw[Xad]at O;simp only[go_sem];refine cB ?_;unfold fC mH;rw[M,Xf O];rfl
def A1:∀(l:List Nat) (x:Nat),mE (l++[x])=if x=0 then mE l else l++[x]
 | [],x=>by simp only[Xbo,mE]
 | y::l,x=>by
  rw[List.cons_append,mE,A1 l x];by_cases h:x=0
  ·rw[if_pos h,if_pos h,mE]
  ·rw[if_neg h,if_neg h];cases l <;> rfl
def Zq(l:List Nat)(h:l.length<=4611686018427387904):PC prog 198 [.sl (l.map iJ)] (.sl ((mE l).map iJ)):=by
 refine pcd func198 rfl rfl ?_;simp only[go_sem];refine⟨fun ρ _=>∃k:Nat,k<=l.length/\ρ 0=.sl ((l.take k).map iJ)/\mE (l.take k)=mE l,fun ρ _=>match ρ 0 with| .sl es=>es.length|_=>0,⟨l.length,Xaf _,by rw[Xad];rfl,by rw[Xad]⟩,?_⟩;rintro ρ H ⟨k,X,h0,F⟩;have E:(l.take k).length=k:=by rw[Xah];omega
 cases k with
 | zero=>
  simp only[go_sem,h0,E,show decide (((0:Nat):Int)>0)=false from rfl];refine aA (fun I=>by cases I) (fun _=>?_);simp only[go_sem,h0];have O:mE l=[]:=by rw[<-F];rfl
  rw[O];exact .refl _
 | succ k=>
 have U:IntKind.i64.wrap (((k+1:Nat):Int)-1)=(k:Int):=by rw[bE (by omega)];omega
 obtain⟨x,T⟩:=aO (show k<l.length by omega);have J:(l.take (k+1))[k]?=some x:=by rw[List.getElem?_take,if_pos (by omega)];exact T
 have M:l.take (k+1)=l.take k++[x]:=aZ T;simp only[go_sem,h0,E,U,aC J,show decide (((k+1:Nat):Int)>0)=true from decide_eq_true (by omega)];refine⟨⟨by omega,by omega⟩,aA (fun I=>?_) (fun I=>?_)⟩
 ·have A:x=0:=by simpa using I
  simp only[go_sem,h0,E,U];refine⟨by omega,⟨⟨k,by omega,?_,?_⟩,?_⟩⟩
  ·rw[<-List.map_take,List.take_take,Nat.min_eq_left (by omega)]
  ·rw[M,A1,if_pos A]at F;exact F
  ·rw[<-List.map_take,Xaa,Xah];omega
 ·have A:x≠0:=by simpa using I
  simp only[go_sem,h0];rw[M,A1,if_neg A]at F;rw[M,F];exact .refl _
abbrev nl(n:Nat):AV:=.sl ((bJ bas n).map iJ)
def Ir:nl 0=.sl []:=by simp only[nl,eL];rfl
def GW{l:List Nat}(A:Lim bas l)(h:l.length<=4611686018427387904){n:Nat}(E:ofL bas l=n):PC prog 198 [.sl (l.map iJ)] (nl n):=by
 have:=Zq l h
 rwa [Ql (by decide) A E]at this
def cL(l:List Nat):Row:=⟨3,1,l.map iJ⟩
def uX{H:aG}{k:Nat}{l:List Nat}{x:Nat}:aI H k (some ⟨3,1,l.map iJ++[[int (x:Int)]]⟩) k=some (cL (l++[x])):=by rw[aB];simp only[cL,Xak,Xat,List.map_nil];rfl
def UY(s:ByteArray)(hr:(bl s).all isD=true)(h:s.size<=4096):PC prog 197 [str s] (nl (eP s)):=by
 have hs:=eV s;refine pcb (fun t=>t == 3) func197 rfl rfl ?_;simp only[go_sem];refine aJ fun j hj=>?_
 simp only[go_sem];refine⟨fun ρ H=>∃(m j:Nat) (o:List Nat),m<=(bl s).length/\ρ 0=str (s.extract 0 m)/\ρ 3=.os j/\H j=some (cL o)/\Lim bas o/\o.length<=(bl s).length-m/\ofL bas o+bas^o.length*fQ ((bl s).take m)=eP s,fun ρ _=>match ρ 0 with| .v (.string t)=>t.size|_=>0,⟨(bl s).length,j,[],Xaf _,?_,by simp only[go_sem],aB _ _ _,by simp[Lim],by simp,?_⟩,?_⟩
 ·rw[show s.extract 0 (bl s).length=s from kZ (by rw[gV,Xad,Xbg])];rfl
 ·rw[Xad];simp[ofL,eP]
 clear hj j;rintro ρ H ⟨m,j,o,hm,h0,E,M,ho,ac,hv⟩;have A:(s.extract 0 m).size=m:=by rw[<-eV,gV,Xbg,Xah];omega
 simp only[go_sem,h0,E,A];refine aA (fun hb=>?_) (fun hb=>?_)
 ·have O:0<m:=by simpa using hb
  have e9:jL 0 (IntKind.i64.wrap ((m:Int)-9))=((m-9:Nat):Int):=by rw[bE (by omega)];unfold jL;split <;> omega
  simp only[go_sem,h0,E,A];refine⟨fun ρ H=>∃i:Nat,m-9<=i/\i<=m/\ρ 0=str (s.extract 0 m)/\ρ 3=.os j/\ρ 4=int (m-9:Nat)/\ρ 5=int (fQ (((bl s).take i).drop (m-9)):Nat)/\ρ 6=int i/\H j=some (cL o),fun ρ _=>m-aU (ρ 6),
   ⟨m-9,Xaf _,by omega,by simp only[go_sem,h0],by simp only[go_sem,E],?_,?_,?_,M⟩,?_⟩
  ·simp only[go_sem,e9]
  ·simp only[go_sem];rw[List.drop_eq_nil_of_le (by rw[Xah];omega)];rfl
  ·simp only[go_sem,e9]
  clear h0 E M;rintro ρ H ⟨i,ae,aa,h0,E,Y,U,X,M⟩;simp only[go_sem,h0,E,Y,U,X,A];refine aA (fun F=>?_) (fun I=>?_)
  ·have F:i<m:=ltB F;obtain⟨c,J⟩:=aO (show i<(bl s).length by omega);have hx:(bl (s.extract 0 m)).getD i 0=c:=by rw[gV,Xbg];exact P3 (by rw[List.getElem?_take,if_pos F];exact J)
   have hd:=oB.1 (Xal.1 hr c (Xac J));have ab:=Dc (l:=((bl s).take i).drop (m-9)) (Xal.2 fun c J=>Xal.1 hr c (List.mem_of_mem_take (List.mem_of_mem_drop J)));have Z:10^(((bl s).take i).drop (m-9)).length<=10^9:=Xaq (by omega) (by rw[List.length_drop,Xah];omega);have e1:((bl s).take (i+1)).drop (m-9)=((bl s).take i).drop (m-9)++[c]:=by rw[aZ J,List.drop_append_of_le_length (by rw[Xah];omega)]
   have e2:IntKind.i64.wrap (IntKind.i64.wrap (10*((fQ (((bl s).take i).drop (m-9)):Nat):Int))+IntKind.i64.wrap (IntKind.u8.wrap ((c.toNat:Int)-48)))=((fQ (((bl s).take (i+1)).drop (m-9)):Nat):Int):=by rw[e1,sE,u8w hd.1 (by omega)];generalize fQ (((bl s).take i).drop (m-9))=V at *;rw[show IntKind.i64.wrap (10*(V:Int))=10*(V:Int)from bE (by omega),show IntKind.i64.wrap (((c.toNat-48:Nat):Int))=((c.toNat-48:Nat):Int)from bE (by omega),bE (by omega)];omega
   simp only[go_sem,h0,E,Y,U,X,A,hx,e2,aT i];exact⟨⟨by omega,by omega⟩,⟨i+1,by omega,by omega,rfl,rfl,M⟩,by simp only[aF];omega⟩
  ·have I:i=m:=geB aa I;subst I;simp only[go_sem,h0,E,Y,U,X,A];have hL:(((bl s).take i).drop (i-9)).length=i-(i-9):=by rw[List.length_drop,Xah];omega
   have hA:(((bl s).take i).drop (i-9)).all isD=true:=Xal.2 fun c J=>Xal.1 hr c (List.mem_of_mem_take (List.mem_of_mem_drop J))
   have ab:=Dc hA;have Z:10^(((bl s).take i).drop (i-9)).length<=10^9:=Xaq (by omega) (by omega);have T:fQ ((bl s).take i)=fQ ((bl s).take (i-9))*10^(((bl s).take i).drop (i-9)).length+fQ (((bl s).take i).drop (i-9)):=by
    rw[<-vG]
    congr 1
    conv=>lhs;rw[<-List.take_append_drop (i-9) ((bl s).take i)]
    rw[List.take_take,Nat.min_eq_left (by omega)]
   generalize fQ (((bl s).take i).drop (i-9))=x at *;refine bT M ⟨rfl,rfl⟩ ⟨rfl,trivial⟩ (by simp only[cL,Xaa,Xae,List.length_nil];omega) (fun j' af=>?_);simp only[go_sem,h0,E,Y,U,X,A];refine⟨⟨by omega,by omega⟩,⟨⟨i-9,j',o++[x],by omega,?_,rfl,uX,ho.snoc (show x<1000000000 by omega),?_,?_⟩,?_⟩⟩
   ·congr 2
    refine kZ ?_;rw[gV,gV,gV];simp only[Xbg,List.take_take];rw[Nat.min_eq_left (by omega)]
   ·rw[Xai,Xae,List.length_nil];omega
   ·rw[<-hv,T,rX,Xai,Xae,List.length_nil,Nat.pow_succ];by_cases h9:9<=i
    ·rw[hL,show i-(i-9)=9 by omega]
     grind
    ·rw[show i-9=0 by omega];simp only[List.take_zero,fQ,List.foldl_nil]
     grind
   ·rw[<-eV,gV,gV];simp only[Xbg,Xah];omega
 ·have O:m=0:=by simpa using hb
  subst O;simp only[go_sem,h0,E];refine PC.useF [j] (.cons _ _ _ _ (.row _ _ _ (by simp[M];rfl) (ConvE.refl _)) .nil) (GW ho (by omega) (n:=eP s) (by rw[<-hv];simp[fQ])) ?_;simp only[go_sem];exact .refl _
def neN{a b:Nat}(h:((a:Int) != (b:Int))=true):a≠b:=by rw[bne_iff_ne]at h;omega
def eqN{a b:Nat}(h:((a:Int) != (b:Int))=false):a=b:=by rw[bne_eq_false_iff_eq]at h;omega
def YE{a b:Int}(h:a<=b):iC a b<=0:=by
 unfold iC;split
 ·omega
 ·rw[if_neg (by omega)];omega
def Qw(n:Int):PC prog 226 [int n] (boo false):=by refine pcd func226 rfl rfl ?_;simp only[go_sem];exact cB (by simp)
def Ba(a b:Int):PC prog 207 [int a,int b] (int (iC a b)):=by
 refine pcd func207 rfl rfl ?_;simp only[go_sem];refine aP (Qw a) ?_;simp only[go_sem];refine aP (Qw b) ?_;simp only[go_sem];refine aA (fun h=>by cases h) (fun _=>?_);simp only[go_sem];refine aA (fun h=>by cases h) (fun _=>?_);simp only[go_sem];refine aA (fun h=>?_) (fun h=>?_)
 ·simp only[go_sem];exact cI (by rw[iK (by simpa using h)])
 ·simp only[go_sem];refine aA (fun A=>?_) (fun A=>?_)
  ·simp only[go_sem];exact cI (by rw[iP (by simpa using A)])
  ·simp only[go_sem];exact cI (by rw[qB (by simp at h A;omega)])
def Mg(l:List Nat)(i:Nat)(F:i<=4611686018427387904):PC prog 177 [.sl (l.map iJ),int i] (int (l.getD i 0:Nat)):=by
 refine pcd func177 rfl rfl ?_;simp only[go_sem];refine aA (fun h=>?_) (fun h=>?_)
 ·have h:=ltB h;obtain⟨x,A⟩:=aO h;have E:=inB h;simp only[go_sem,aC A,E];exact cI (by simp[List.getD,A])
 ·simp only[go_sem];have h:¬i<l.length:=by simpa using h
  exact cI (by simp[List.getD,List.getElem?_eq_none (by omega:l.length<=i)])
def Xp{l r:List Nat}(O:Lim bas l)(M:Lim bas r)(A:l.length=r.length){k x y:Nat}(I:l[k]?=some x)(F:r[k]?=some y)(J:l.drop (k+1)=r.drop (k+1))(E:x≠y):iC (x:Int) y=iC (ofL bas l) (ofL bas r):=by
 rcases Nat.lt_or_gt_of_ne E with h|h
 ·have:=GM (b:=bas) (by decide) O M A I F h J;rw[iK (by omega),iK (by omega)]
 ·have:=GM (b:=bas) (by decide) M O A.symm F I h J.symm;rw[iP (by omega),iP (by omega)]
def Bl(m n:Nat)(hm:(bJ bas m).length<=1048576)(hn:(bJ bas n).length<=1048576):PC prog 178 [nl m,nl n] (int (iC m n)):=by
 have om:=dR (b:=bas) (by decide) m;have on:=dR (b:=bas) (by decide) n;have lm:=dJ (b:=bas) (by decide) m;have ln:=dJ (b:=bas) (by decide) n;have X:(bJ bas m).length<(bJ bas n).length->m<n:=FS (by decide);have Z:(bJ bas n).length<(bJ bas m).length->n<m:=FS (by decide);simp only[nl];generalize bJ bas m=a at *;generalize bJ bas n=b at *;refine pcd func178 rfl rfl ?_;simp only[go_sem];refine aA (fun h=>?_) (fun h=>?_)
 ·simp only[go_sem];refine aP (Ba _ _) ?_;simp only[go_sem];refine cI ?_;have h:a.length≠b.length:=neN h;rcases Nat.lt_or_gt_of_ne h with h|h
  ·have:=X h;rw[iK (by omega),iK (by omega)]
  ·have:=Z h;rw[iP (by omega),iP (by omega)]
 have I:a.length=b.length:=eqN h;simp only[go_sem];refine⟨fun ρ _=>∃k:Nat,k<=a.length/\ρ 0=.sl (a.map iJ)/\ρ 1=.sl (b.map iJ)/\ρ 5=int ((k:Int)-1)/\a.drop k=b.drop k,fun ρ _=>match ρ 5 with| .v (.int _ z)=>(z+1).toNat|_=>0,⟨a.length,Xaf _,by simp only[go_sem],by simp only[go_sem],by simp only[go_sem,Aq (show a.length<=4611686018427387904 by omega)],by rw[List.drop_eq_nil_of_le (Xaf _),List.drop_eq_nil_of_le (by omega)]⟩,?_⟩;rintro ρ H ⟨k,hk,h0,h1,E,T⟩;simp only[go_sem,h0,h1,E];refine aA (fun Y=>?_) (fun Y=>?_)
 ·have F:0<k:=by simp at Y;omega
  obtain⟨k,rfl⟩:∃j,k=j+1:=⟨k-1,by omega⟩;rw[show((k+1:Nat):Int)-1=(k:Int)by omega]at E |-;obtain⟨x,J⟩:=aO (show k<a.length by omega);obtain⟨y,M⟩:=aO (show k<b.length by omega);have b1:=inB (show k<a.length by omega);have b2:=inB (show k<b.length by omega);simp only[go_sem,h0,h1,E];refine dD (by rfl) (by kernel_rfl) ?_;simp only[go_sem,h0,h1,E,aC J,aC M,b1,b2];refine aA (fun A=>?_) (fun A=>?_)
  ·simp only[go_sem,h0,h1,E];refine dD (by rfl) (by kernel_rfl) ?_;simp only[go_sem,h0,h1,E,aC J,aC M,b1,b2];refine⟨_,(Ba x y).q rfl,?_⟩;simp only[go_sem];exact cI (by rw[Xp lm ln I J M T (neN A),om,on])
  ·have O:x=y:=eqN A;simp only[go_sem,h0,h1,E,Aq (show k<=4611686018427387904 by omega)];refine⟨⟨k,by omega,rfl,?_⟩,by omega⟩;have e1:a.drop k=x::a.drop (k+1):=by rw[List.drop_eq_getElem_cons (by omega)];congr 1;exact(List.getElem?_eq_some_iff.1 J).2
   have e2:b.drop k=y::b.drop (k+1):=by rw[List.drop_eq_getElem_cons (by omega)];congr 1;exact(List.getElem?_eq_some_iff.1 M).2
   rw[e1,e2,T,O]
 ·have F:k=0:=by simp at Y;omega
  subst F;simp only[go_sem];refine cI ?_;have U:a=b:=by simpa using T
  rw[qB];rw[<-om,<-on,U]
def tw(a b:ByteArray)(n:Nat):List (List AV):=if iO a b=0 then(bJ bas n).map iJ else[]
def DM{a b:ByteArray}{n:Nat}(h:iO a b=0):tw a b n=(bJ bas n).map iJ:=if_pos h
def O9{a b:ByteArray}{n:Nat}(h:iO a b≠0):tw a b n=[]:=if_neg h
def D3(a b:ByteArray)(J:a.size<=1048576)(M:b.size<=1048576):PC prog 167 [str a,str b] (.tup [.sl (tw a b (eP a)),.sl (tw a b (eP b)),int (iO a b)]):=by
 refine pcd func167 rfl rfl ?_;simp only[go_sem];refine aP (AK a (by omega)) ?_;simp only[go_sem];refine⟨_,fun _=>(AK b (by omega)).q rfl,?_⟩;simp only[go_sem];refine aA (fun h=>?_) (fun h=>?_)
 ·simp only[go_sem];have e:iO a b=3:=by unfold iO;rw[if_pos h]
  rw[O9 (by rw[e];decide),O9 (by rw[e];decide),e];exact .refl _
 have E:fC a=true/\fC b=true:=by simpa using h
 simp only[go_sem];refine aA (fun I=>?_) (fun I=>?_)
 ·simp only[go_sem];have F:(decide (a.size>4096)||decide (b.size>4096))=true:=by simp at I |-;omega
  have e:iO a b=4:=by unfold iO;rw[if_neg (by rw[h];simp),if_pos F]
  rw[O9 (by rw[e];decide),O9 (by rw[e];decide),e];exact .refl _
 have A:a.size<=4096/\b.size<=4096:=by simp at I;omega
 have e:iO a b=0:=I1 E.1 E.2 A.1 A.2;have d:∀{s:ByteArray},fC s=true->(bl s).all isD=true:=fun h=>by unfold fC mH at h;simp only[Xap]at h;exact h.2
 simp only[go_sem];refine aP (UY a (d E.1) A.1) ?_;simp only[go_sem];refine aP (UY b (d E.2) A.2) ?_;simp only[go_sem];rw[DM e,DM e,e];exact .refl _
def Hw{H:aG}{j:Nat}:aI H j (some ⟨3,1,[]⟩) j=some (cL []):=aB _ _ _
def Pu(m k:Nat)(hm:(bJ bas m).length<=1048576)(Z:k<bas):PC prog 200 [nl m,int k] (nl (m*k)):=by
 have Z:k<1000000000:=Z;have om:=dR (b:=bas) (by decide) m;have lm:=dJ (b:=bas) (by decide) m;simp only[nl];generalize bJ bas m=l at *;have ab:IntKind.i64.wrap ((l.length:Int)+1)=((l.length+1:Nat):Int):=lG (by omega);refine pcb (fun t=>t == 5) func200 rfl rfl ?_;simp only[go_sem];refine⟨by omega,aJ fun j hj=>?_⟩;simp only[go_sem];refine⟨fun ρ H=>∃(i j c:Nat) (o:List Nat),i<=l.length/\ρ 1=int k/\ρ 13=.sl (l.map iJ)/\ρ 14=int l.length/\ρ 5=.os j/\ρ 6=int c/\ρ 15=int i/\H j=some (cL o)/\Lim bas o/\o.length=i/\c<1000000000/\ofL bas o+bas^i*c=ofL bas (l.take i)*k,fun ρ _=>l.length-aU (ρ 15),
  ⟨0,j,0,[],Xab _,by simp only[go_sem],by simp only[go_sem],by simp only[go_sem,Xaa],by simp only[go_sem],by simp only[go_sem];rfl,by simp only[go_sem];rfl,Hw,by simp[Lim],rfl,by omega,by simp[ofL]⟩,?_⟩
 clear hj j;rintro ρ H ⟨i,j,c,o,hi,h1,I,E,O,T,J,Rj,ho,F,hc,hv⟩;simp only[go_sem,h1,I,E,O,T,J];refine aA (fun A=>?_) (fun M=>?_)
 ·have A:=ltB A;obtain⟨n,U⟩:=aO A;have b1:=inB A;have ac:n<1000000000:=lm n (Xac U);have aa:n*k<=999999999*999999999:=Nat.mul_le_mul (by omega) (by omega);have e1:IntKind.i64.wrap (IntKind.i64.wrap ((n:Int)*(k:Int))+(c:Int))=((n*k+c:Nat):Int):=by rw[show(n:Int)*(k:Int)=((n*k:Nat):Int)from(Int.natCast_mul n k).symm];generalize n*k=p at *;rw[show IntKind.i64.wrap (p:Int)=(p:Int)from bE (by omega),bE (by omega)];omega
  have X:=Mp (b:=bas) (by decide) U F hv;simp only[go_sem,h1,I,E,O,T,J,aC U,b1,e1];have hq:(n*k+c)/1000000000<1000000000:=by omega
  have e2:IntKind.i64.wrap ((((n*k+c:Nat):Int)).tdiv 1000000000)=(((n*k+c)/1000000000:Nat):Int):=by generalize n*k+c=p at *;rw[Xbu (by omega),bE (by omega)];omega
  have e3:(((n*k+c:Nat):Int)).tmod 1000000000=(((n*k+c)%1000000000:Nat):Int):=by rw[Int.tmod_eq_emod_of_nonneg (by omega)];omega
  simp only[e2,e3];refine⟨by decide,?_⟩;refine bT Rj ⟨rfl,rfl⟩ ⟨rfl,trivial⟩ (by simp only[cL,Xaa,Xae,List.length_nil];omega) (fun j' Y=>?_);simp only[go_sem,h1,I,E,O,T,J,e2,aT i];refine⟨by decide,⟨i+1,j',_,o++[(n*k+c)%bas],A,rfl,rfl,rfl,uX,ho.snoc (Nat.mod_lt _ (by decide)),by simp[F],hq,X⟩,by simp only[aF];omega⟩
 ·have M:=geB hi M;subst M;simp only[go_sem,O,T];refine bT Rj ⟨rfl,rfl⟩ ⟨rfl,trivial⟩ (by simp only[cL,Xaa,Xae,List.length_nil];omega) (fun j' Y=>?_);simp only[go_sem];have hT:Lim bas (o++[c]):=ho.snoc hc;have hV:ofL bas (o++[c])=m*k:=by rw[rX,F,hv,Xad,om]
  refine PC.useF [j'] (.cons _ _ _ _ (.row _ _ _ (by simp only[Xax,if_true];exact uX) (ConvE.refl _)) .nil) (GW hT (by simp;omega) hV) ?_;simp only[go_sem];exact .refl _
def Dd(m n:Nat)(hm:(bJ bas m).length<=1048576)(ac:n<=m):PC prog 179 [nl m,nl n] (nl (m-n)):=by
 have om:=dR (b:=bas) (by decide) m;have on:=dR (b:=bas) (by decide) n;have lm:=dJ (b:=bas) (by decide) m;have ln:=dJ (b:=bas) (by decide) n;have ab:=dT (b:=bas) (by decide) ac;simp only[nl];generalize bJ bas m=x at *;generalize bJ bas n=y at *;refine pcb (fun t=>t == 5) func179 rfl rfl ?_;simp only[go_sem];refine⟨by omega,aJ fun j hj=>?_⟩;simp only[go_sem];refine⟨fun ρ H=>∃(i j c:Nat) (o:List Nat),i<=x.length/\ρ 0=.sl (x.map iJ)/\ρ 1=.sl (y.map iJ)/\ρ 13=int x.length/\ρ 5=.os j/\ρ 6=int c/\ρ 14=int i/\H j=some (cL o)/\Lim bas o/\o.length=i/\c<=1/\ofL bas o+ofL bas (y.take i)=ofL bas (x.take i)+bas^i*c,fun ρ _=>x.length-aU (ρ 14),
  ⟨0,j,0,[],Xab _,by simp only[go_sem],by simp only[go_sem],by simp only[go_sem,Xaa],by simp only[go_sem],by simp only[go_sem];rfl,by simp only[go_sem];rfl,Hw,by simp[Lim],rfl,by omega,by simp[ofL]⟩,?_⟩
 clear hj j;rintro ρ H ⟨i,j,c,o,hi,h0,h1,E,I,M,A,X,ho,T,hc,hv⟩;simp only[go_sem,h0,h1,E,I,M,A];refine aA (fun J=>?_) (fun U=>?_)
 ·have J:=ltB J;obtain⟨a,ha⟩:=aO J;have ae:x.getD i 0=a:=by simp[List.getD,ha]
  have b1:=inB J;have Z:a<1000000000:=lm a (Xac ha);have aa:y.getD i 0<1000000000:=ln.getD (by decide) i;simp only[go_sem,h0,h1,E,I,M,A];refine dD (by rfl) (by kernel_rfl) ?_;simp only[go_sem,h0,h1,E,I,M,A,aC ha,b1];refine⟨_,(Mg y i (by omega)).q rfl,?_⟩;have ag:=LX (b:=1000000000) Z aa hc;have Y:=IV (b:=1000000000) Z aa hc;have af:=Ns (b:=bas) (x:=x) (y:=y) (c':=if a<y.getD i 0+c then 1 else 0) (d:=if a<y.getD i 0+c then a+1000000000-(y.getD i 0+c)else a-(y.getD i 0+c)) T hv (by rw[ae];exact Y.1);generalize y.getD i 0=yi at *;have e1:IntKind.i64.wrap (IntKind.i64.wrap ((a:Int)-(yi:Int))-(c:Int))=(a:Int)-yi-c:=by rw[show IntKind.i64.wrap ((a:Int)-(yi:Int))=(a:Int)-yi from bE (by omega),bE (by omega)]
  simp only[go_sem,h0,h1,E,I,M,A,e1];refine gT (fun F H'=>F 0=.sl (x.map iJ)/\F 1=.sl (y.map iJ)/\F 13=int x.length/\F 5=.os j/\F 14=int i/\H' j=some (cL o)/\F 8=int (if a<yi+c then a+1000000000-(yi+c)else a-(yi+c):Nat)/\F 6=int (if a<yi+c then 1 else 0:Nat)) ?_ fun K hK=>aA (fun O=>?_) (fun O=>?_)
  rotate_left
  ·have O:a<yi+c:=by simp at O;omega
   have e2:IntKind.i64.wrap ((a:Int)-yi-c+1000000000)=((a+1000000000-(yi+c):Nat):Int):=by rw[bE (by omega)];omega
   simp only[go_sem,h0,h1,E,I,M,A,e2];exact hK _ _ ⟨by simp only[go_sem,h0],by simp only[go_sem,h1],by simp only[go_sem,E],by simp only[go_sem,I],by simp only[go_sem,A],X,by simp only[go_sem,if_pos O],by simp only[go_sem,if_pos O];rfl⟩
  ·have O:¬a<yi+c:=by simp at O;omega
   simp only[go_sem,h0,h1,E,I,M,A];refine hK _ _ ⟨by simp only[go_sem,h0],by simp only[go_sem,h1],by simp only[go_sem,E],by simp only[go_sem,I],by simp only[go_sem,A],X,?_,by simp only[go_sem,if_neg O];rfl⟩;simp only[go_sem,if_neg O]
   congr 2
   omega
  clear h0 h1 E I M A X;rintro ρ H ⟨h0,h1,E,I,A,X,h8,M⟩;simp only[go_sem,h0,h1,E,I,M,A,h8];refine bT X ⟨rfl,rfl⟩ ⟨rfl,trivial⟩ (by simp only[cL,Xaa,Xae,List.length_nil];omega) (fun j' ah=>?_);simp only[go_sem,h0,h1,E,I,M,A,aT i];exact⟨⟨i+1,j',_,_,J,rfl,rfl,rfl,uX,ho.snoc Y.2,by simp[T],by split <;> omega,af⟩,by simp only[aF];omega⟩
 ·have U:=geB hi U;subst U;simp only[go_sem,I];obtain⟨_,hV⟩:=SM (b:=bas) (by decide) ho lm T ab (by omega) hc hv;refine PC.useF [j] (.cons _ _ _ _ (.row _ _ _ (by simp only[Xax,if_true];exact X) (ConvE.refl _)) .nil) (GW ho (by omega) (hV.trans (by rw[om,on]))) ?_;simp only[go_sem];exact .refl _
def half{d r q:Nat}(h1:d*q<=r)(A:r<d*(q+1))(E:0<d):q=r/d:=by
 symm
 exact(Nat.div_eq_iff E).2 ⟨by rw[Nat.mul_comm];exact h1,by rw[Nat.mul_add,Nat.mul_one]at A;rw[Nat.mul_comm q d];omega⟩
def XG(r d:Nat)(hr:(bJ bas r).length<=1048576)(Y:0<d)(ac:(bJ bas d).length<=1048575)(h:r<d*bas):PC prog 199 [nl r,nl d] (int (r/d:Nat)):=by
 refine pcd func199 rfl rfl ?_;simp only[go_sem];refine⟨fun ρ _=>∃a b:Nat,a<=b/\b<1000000000/\ρ 0=nl r/\ρ 1=nl d/\ρ 5=int a/\ρ 6=int b/\d*a<=r/\r<d*(b+1),fun ρ _=>aU (ρ 6)-aU (ρ 5),⟨0,999999999,by omega,by omega,by simp only[go_sem],by simp only[go_sem],by simp only[go_sem];rfl,by simp only[go_sem];rfl,by simp,h⟩,?_⟩;rintro ρ H ⟨a,b,T,hb,h0,h1,F,I,J,O⟩;simp only[go_sem,h0,h1,F,I];refine aA (fun M=>?_) (fun E=>?_)
 ·have M:=ltB M;have e1:IntKind.i64.wrap ((IntKind.i64.wrap (IntKind.i64.wrap ((a:Int)+(b:Int))+1)).tdiv 2)=(((a+b+1)/2:Nat):Int):=by rw[show IntKind.i64.wrap ((a:Int)+(b:Int))=((a+b:Nat):Int)by rw[bE (by omega)];omega,lG (by omega),Xbu (by omega),bE (by omega)];omega
  simp only[go_sem,h0,h1,F,I,e1];refine⟨by decide,?_⟩;have X:(a+b+1)/2<bas:=show _<1000000000 by omega
  have ab:a<(a+b+1)/2:=by omega
  have aa:(a+b+1)/2<=b:=by omega
  generalize (a+b+1)/2=m at *;refine aP (Pu d m (by omega) X) ?_;simp only[go_sem,h0,h1,F,I];have U:(bJ bas (d*m)).length<=1048576:=by
   have h1:=mR (b:=bas) (by decide) (dJ (b:=bas) (by decide) d);rw[dR (by decide)]at h1;have Z:d*m<bas^((bJ bas d).length+1):=by rw[Nat.pow_succ];exact Xbf (Nat.mul_lt_mul_of_pos_left X Y) (Nat.mul_le_mul_right _ (Nat.le_of_lt h1))
   have:=lT (b:=bas) (by decide) Z;omega
  refine aP (Bl (d*m) r U hr) ?_;simp only[go_sem,h0,h1,F,I];refine aA (fun A=>?_) (fun A=>?_)
  ·have A : d * m <= r := by
    rcases Xay r (d*m)with h|h
    ·rw[iP (by omega)]at A;simp at A
    ·exact h
   simp only[go_sem,h0,h1,F,I];exact⟨⟨m,b,by omega,hb,rfl,rfl,A,O⟩,by simp only[aF];omega⟩
  ·have A : r < d * m := by
    rcases Xay r (d*m)with h|h
    ·exact h
    ·exfalso;exact of_decide_eq_false A (YE (by omega))
   simp only[go_sem,h0,h1,F,I];refine⟨⟨a,m-1,by omega,by omega,rfl,?_,J,?_⟩,?_⟩
   ·rw[Aq (by omega)];congr 2;omega
   ·rw[show m-1+1=m by omega];exact A
   ·rw[Aq (by omega)];simp only[aF];omega
 ·have E:=geB T E;subst E;simp only[go_sem,F];exact cI (by rw[half J O Y])
def C4{A:List Nat}{k v q:Nat}(h:A[k]?=some v):({ cL A with es:=(cL A).es.set k (kT ((cL A).es.getD k []) 0 [int (q:Int)]) }:Row)=cL (A.set k q):=by simp only[cL,aC h,List.map_set];rfl
def Kr(m n:Nat)(hm:(bJ bas m).length<=1048570)(hn:0<n)(ao:(bJ bas n).length<=1048570):PC prog 168 [nl m,nl n] (.tup [nl (m/n),nl (m%n)]):=by
 have om:=dR (b:=bas) (by decide) m;have lm:=dJ (b:=bas) (by decide) m;rw[show nl m=.sl ((bJ bas m).map iJ)from rfl];generalize bJ bas m=l at *;refine pcb (fun t=>t == 6||t == 23) func168 rfl rfl ?_;simp only[go_sem];refine⟨by omega,aJ fun j hj=>?_⟩;simp only[go_sem];refine⟨fun ρ H=>∃(k r:Nat) (A:List Nat),k<=l.length/\ρ 0=.sl (l.map iJ)/\ρ 1=nl n/\ρ 6=.os j/\ρ 7=nl r/\ρ 8=int ((k:Int)-1)/\H j=some (cL A)/\Lim bas A/\A.length=l.length/\r<n/\ofL bas (l.drop k)=ofL bas (A.drop k)*n+r/\A.take k=List.replicate k 0,fun ρ _=>match ρ 8 with| .v (.int _ z)=>(z+1).toNat|_=>0,
  ⟨l.length,0,List.replicate l.length 0,Xaf _,by simp only[go_sem],by simp only[go_sem],by simp only[go_sem],?_,?_,?_,Lim.zeros (by decide) _,by simp,hn,by simp[ofL],by simp⟩,?_⟩
 ·simp only[go_sem];exact Ir.symm
 ·simp only[go_sem,Aq (show l.length<=4611686018427387904 by omega)]
 ·rw[aB];simp only[cL,List.map_replicate];rfl
 clear hj;rintro ρ H ⟨k,r,A,hk,h0,h1,I,E,F,Rj,hq,T,hr,hv,hz⟩;simp only[go_sem,h0,h1,I,E,F];refine aA (fun hb=>?_) (fun hb=>?_)
 ·have ae:0<k:=by simp at hb;omega
  obtain⟨k,rfl⟩:∃j,k=j+1:=⟨k-1,by omega⟩;rw[show((k+1:Nat):Int)-1=(k:Int)by omega]at F |-;obtain⟨x,hx⟩:=aO (show k<l.length by omega);have aa:x<bas:=lm x (Xac hx);have b1:=inB (show k<l.length by omega);have b2:=inB (show k<A.length by omega);have Y:A[k]?=some 0:=by
   have h1:(A.take (k+1))[k]?=(List.replicate (k+1) 0)[k]?:=by rw[hz]
   rw[List.getElem?_take,if_pos (by omega)]at h1;rw[h1];simp
  obtain⟨hV,hQ,hR⟩:=TD (b:=bas) (a:=n) (by decide) hx aa hr (show k<A.length by omega) hv;have av:(bJ bas r).length<=1048570:=Xag (dT (by decide) (Nat.le_of_lt hr)) ao;have an:x+bas*r<n*bas:=by have:bas*(r+1)<=bas*n:=Nat.mul_le_mul_left _ hr;rw[Nat.mul_add]at this;rw[Nat.mul_comm n bas];omega
  have M:(A.set k ((x+bas*r)/n)).take k=List.replicate k 0:=by
   rw[List.take_set_of_le (by omega)];have h1:(A.take (k+1)).take k=(List.replicate (k+1) 0).take k:=by rw[hz]
   rw[List.take_take,Nat.min_eq_left (by omega)]at h1;rw[h1];simp
  have ag:ofL bas (x::bJ bas r)=x+bas*r:=by rw[ofL,dR (by decide)]
  have ab:Lim bas (x::bJ bas r):=fun y hy=>by
   rcases List.mem_cons.1 hy with rfl|hy
   ·exact aa
   ·exact dJ (by decide) r y hy
  have aq:(bJ bas (x+bas*r)).length<=1048575:=by refine Xag (lT (b:=bas) (k:=(bJ bas r).length+1) (by decide) ?_) (by omega);have h1:=mR (b:=bas) (by decide) ab;rw[ag]at h1;simpa using h1
  generalize au:x+bas*r=R at *;have ai:R-n*(R/n)=R%n:=by have:=Nat.mod_add_div R n;omega
  have ar:(bJ bas (n*(R/n))).length<=1048576:=Xag (dT (by decide) (Nat.mul_div_le R n)) (by omega);simp only[go_sem,h0,h1,I,E,F,aC hx,b1];refine aJ fun i hi=>?_
  simp only[go_sem,h0,h1,I,E,F];have U:=nA (r':=⟨3,1,[[int (x:Int)]]⟩) Rj hi;refine bT (aB _ _ _) ⟨rfl,rfl⟩ (allN _) (by simp only[Xaa,Xae,List.length_nil];omega) (fun i2 af=>?_);have ah:=sR U (bC Rj hi).symm af (r':=⟨3,1,[[int (x:Int)]]++(bJ bas r).map iJ⟩);have am:j≠i2:=bC U af;simp only[go_sem,h0,h1,I,E,F];refine PC.useF [i2] (.cons _ _ _ _ (.row _ _ _ (by simp only[Xax,if_true];exact aB _ _ _) (ConvE.refl _)) .nil) (GW ab (by simp;omega) ag) ?_;generalize ac:(fun k=>if k∈[i2]then none else _)=HN;have J:HN j=some (cL A):=by rw[<-ac];simp only[Xax,if_neg am];exact ah
  clear ac ah U Rj;simp only[go_sem,h0,h1,I,E,F];refine aP (Bl R n (by omega) (by omega)) ?_;simp only[go_sem,h0,h1,I,E,F];refine aA (fun hc=>?_) (fun hc=>?_)
  ·have Z : R < n := by
    rcases Nat.lt_trichotomy R n with h|h|h
    ·exact h
    ·rw[qB (by omega)]at hc;cases hc
    ·rw[iP (by omega)]at hc;cases hc
   simp only[go_sem,h0,h1,I,E,F,Aq (show k<=4611686018427387904 by omega)];have O:A.set k (R/n)=A:=by rw[Nat.div_eq_of_lt Z];obtain⟨h1,h2⟩:=List.getElem?_eq_some_iff.1 Y;rw[<-h2];exact List.set_getElem_self h1
   rw[O,Xav Z]at hV;rw[O]at M;exact⟨⟨k,R,A,by omega,rfl,rfl,J,hq,T,Z,hV,M⟩,by omega⟩
  simp only[go_sem,h0,h1,I,E,F];refine aA (fun ak=>?_) (fun ak=>?_)
  ·have aj : R = n := by have:=G9.1 (by simpa using ak);omega
   simp only[go_sem,h0,h1,I,E,F,J,show(cL A).es.length=A.length from Xaa _,b2];refine⟨rfl,bO so3 J (by simp only[cL,Xaa];exact⟨by simpa using b2.2,rfl,Xaf 1⟩) ?_⟩;simp only[go_sem,h0,h1,I,E,F,Aq (show k<=4611686018427387904 by omega)];have O:R/n=1:=by rw[aj];exact Nat.div_self hn
   have ap:R%n=0:=by rw[aj];exact Nat.mod_self n
   rw[O,ap]at hV;rw[O]at M;refine⟨⟨k,0,A.set k 1,by omega,Ir.symm,rfl,?_,hq.set (by decide),by simp[T],hn,hV,M⟩,by omega⟩;exact congrArg some (C4 (q:=1) Y)
  simp only[go_sem,h0,h1,I,E,F,J];refine aP (XG R n (by omega) hn (by omega) an) ?_;simp only[go_sem,h0,h1,I,E,F,J,show(cL A).es.length=A.length from Xaa _,b2];refine⟨rfl,bO so3 J (by simp only[cL,Xaa];exact⟨by simpa using b2.2,rfl,Xaf 1⟩) ?_⟩;generalize hP:aI HN j _=HP;have X:HP j=some (cL (A.set k (R/n))):=by rw[<-hP,aB];exact congrArg some (C4 (q:=R/n) Y)
  have hg:(A.set k (R/n))[k]?=some (R/n):=List.getElem?_set_self (by omega);clear hP J;simp only[go_sem,h0,h1,I,E,F,X];have al:(cL (A.set k (R/n))).es.getD k []=iJ (R/n):=aC hg;have b3:0<=(k:Int)/\(k:Int)<((cL (A.set k (R/n))).es.length:Nat):=by simp only[cL,Xaa,Xaw];exact b2
  simp only[go_sem,al,b3];refine⟨rfl,⟨by omega,Nat.zero_lt_one⟩,?_⟩;refine aP (Pu n (R/n) (by omega) hQ) ?_;simp only[go_sem,h0,h1,I,E,F,X];refine aP (Dd R (n*(R/n)) (by omega) (Nat.mul_div_le R n)) ?_;simp only[go_sem,h0,h1,I,E,F,Aq (show k<=4611686018427387904 by omega),ai];exact⟨⟨k,R%n,A.set k (R/n),by omega,rfl,rfl,X,hq.set hQ,by simp[T],hR,hV,M⟩,by omega⟩
 ·have ae:k=0:=by simp at hb;omega
  subst ae;simp only[go_sem,h0,h1,I,E,F];obtain⟨e1,e2⟩:=Yg hr hv;rw[Xbg,Xbg,om]at e1;rw[Xbg,om]at e2;refine PC.useF [j] (.cons _ _ _ _ (.row _ _ _ (by simp only[Xax,if_true];exact Rj) (ConvE.refl _)) .nil) (GW hq (by omega) e1) ?_;simp only[go_sem,E,e2];exact .refl _
end Go.Proofs.YtkjdacijpeiphaaGreatDoor.Nu
end
section
namespace Go.Proofs
open Go.Shelf
def Tryz.lays169_ren:Go.Shelf.Ren:=⟨fun|169=>206|n=>n,fun|70=>293|9=>9|0=>0|72=>296|37=>294|127=>316|3=>3|5=>5|n=>n,fun|n=>n⟩
theorem Tryz.lays169:Go.Proofs.Lays.n169 Tryz.prog Tryz.lays169_ren:={
 mixed:=by kernel_rfl
 f169:=Tryz.func206.trans (congrArg some (by kernel_rfl))
 t0:=Tryz.underlying0
 a0:=Tryz.isAgg0
 z0:=Tryz.sizeOf0
 v0:=Tryz.zeroValue0
 t3:=Tryz.underlying3
 a3:=Tryz.isAgg3
 z3:=Tryz.sizeOf3
 v3:=Tryz.zeroValue3
 t9:=Tryz.underlying9
 a9:=Tryz.isAgg9
 z9:=Tryz.sizeOf9
 v9:=Tryz.zeroValue9
 t37:=Tryz.underlying294
 a37:=Tryz.isAgg294
 z37:=Tryz.sizeOf294
 v37:=Tryz.zeroValue294
 t70:=Tryz.underlying293
 a70:=Tryz.isAgg293
 z70:=Tryz.sizeOf293
 v70:=Tryz.zeroValue293
 t72:=Tryz.underlying296
 a72:=Tryz.isAgg296
 z72:=Tryz.sizeOf296
 v72:=Tryz.zeroValue296
 t127:=Tryz.underlying316
 a127:=Tryz.isAgg316
 z127:=Tryz.sizeOf316
 v127:=Tryz.zeroValue316 }
theorem Tryz.Builder_Extra_169:Builder.Extra Tryz.prog Tryz.lays169_ren:={
 sizeBuilder:=by kernel_rfl
 liesBuilder:=by kernel_rfl
 t5:=Tryz.underlying5
 a5:=Tryz.isAgg5
 z5:=Tryz.sizeOf5
 v5:=Tryz.zeroValue5
 infoByte:=by kernel_rfl
 cellsByte:=by kernel_rfl
 sizeByte:=by kernel_rfl
 neB5:=by decide }
open Go.RowKit in
theorem Tryz.Builder_String_any (B b:Nat) (l:List UInt8) (w:World) (h:Lib.IsBuilder 296 5 B b (Lib.byteCells l) w) (hBw:B<=w.heap.size):
    Calls Tryz.prog 206 #[.pointer (some ⟨b,0,none⟩)] w fun e w'=>e=.returned (.string ⟨l.toArray⟩)/\Below B w w':=Any.Builder_String_any Tryz.lays169 Tryz.Builder_Extra_169 B b l w h hBw
def Tryz.lays106_ren:Go.Shelf.Ren:=⟨fun|106=>181|213=>208|265=>227|n=>n,fun|9=>9|3=>3|n=>n,fun|n=>n⟩
theorem Tryz.lays106:Go.Proofs.Lays.n106 Tryz.prog Tryz.lays106_ren:={
 mixed:=by kernel_rfl
 f106:=Tryz.func181.trans (congrArg some (by kernel_rfl))
 f213:=Tryz.func208.trans (congrArg some (by kernel_rfl))
 f265:=Tryz.func227.trans (congrArg some (by kernel_rfl))
 t3:=Tryz.underlying3
 a3:=Tryz.isAgg3
 z3:=Tryz.sizeOf3
 v3:=Tryz.zeroValue3
 t9:=Tryz.underlying9
 a9:=Tryz.isAgg9
 z9:=Tryz.sizeOf9
 v9:=Tryz.zeroValue9 }
open Go.RowKit in
theorem Tryz.strings_Compare (a b:ByteArray) (w:World):
    Calls Tryz.prog 181 #[.string a,.string b] w fun e w'=>e=.returned (.int .i64 (Lib.compareBytes a.data.toList b.data.toList))/\w'=w:=Any.strings_Compare Tryz.lays106 a b w
def Tryz.lays103_ren:Go.Shelf.Ren:=⟨fun|103=>175|210=>203|206=>201|n=>n,fun|9=>9|4=>4|24=>271|3=>3|n=>n,fun|n=>n⟩
theorem Tryz.lays103:Go.Proofs.Lays.n103 Tryz.prog Tryz.lays103_ren:={
 mixed:=by kernel_rfl
 f103:=Tryz.func175.trans (congrArg some (by kernel_rfl))
 f206:=Tryz.func201.trans (congrArg some (by kernel_rfl))
 f210:=Tryz.func203.trans (congrArg some (by kernel_rfl))
 t3:=Tryz.underlying3
 a3:=Tryz.isAgg3
 z3:=Tryz.sizeOf3
 v3:=Tryz.zeroValue3
 t4:=Tryz.underlying4
 a4:=Tryz.isAgg4
 z4:=Tryz.sizeOf4
 v4:=Tryz.zeroValue4
 t9:=Tryz.underlying9
 a9:=Tryz.isAgg9
 z9:=Tryz.sizeOf9
 v9:=Tryz.zeroValue9
 t24:=Tryz.underlying271
 a24:=Tryz.isAgg271
 z24:=Tryz.sizeOf271
 v24:=Tryz.zeroValue271 }
open Go.RowKit in
theorem Tryz.strings_CutPrefix (s p:ByteArray) (w:World):
    Calls Tryz.prog 175 #[.string s,.string p] w fun e w'=>e=.returned (.tuple #[.string ⟨(Lib.trimPrefix s.data.toList p.data.toList).toArray⟩,.bool (Lib.hasPrefix s.data.toList p.data.toList)])/\w'=w:=Any.strings_CutPrefix Tryz.lays103 s p w
def Tryz.laysM171_ren:Go.Shelf.Ren:=⟨fun|171=>140|243=>182|246=>209|283=>228|284=>229|285=>230|286=>231|129=>243|317=>242|318=>244|319=>245|320=>246|337=>251|338=>252|n=>n,fun|3=>3|9=>9|2=>2|4=>4|171=>317|0=>0|53=>318|37=>294|5=>5|173=>321|212=>337|51=>329|20=>20|213=>338|46=>311|232=>349|233=>350|n=>n,fun|17=>1|18=>2|19=>3|n=>n⟩
theorem Tryz.laysM171:Go.Proofs.LaysM.n171 Tryz.prog Tryz.laysM171_ren:={
 mixed:=by kernel_rfl
 f129:=Tryz.func243.trans (congrArg some (by kernel_rfl))
 f171:=Tryz.func140.trans (congrArg some (by kernel_rfl))
 f243:=Tryz.func182.trans (congrArg some (by kernel_rfl))
 f246:=Tryz.func209.trans (congrArg some (by kernel_rfl))
 f283:=Tryz.func228.trans (congrArg some (by kernel_rfl))
 f284:=Tryz.func229.trans (congrArg some (by kernel_rfl))
 f285:=Tryz.func230.trans (congrArg some (by kernel_rfl))
 f286:=Tryz.func231.trans (congrArg some (by kernel_rfl))
 f317:=Tryz.func242.trans (congrArg some (by kernel_rfl))
 f318:=Tryz.func244.trans (congrArg some (by kernel_rfl))
 f319:=Tryz.func245.trans (congrArg some (by kernel_rfl))
 f320:=Tryz.func246.trans (congrArg some (by kernel_rfl))
 f337:=Tryz.func251.trans (congrArg some (by kernel_rfl))
 f338:=Tryz.func252.trans (congrArg some (by kernel_rfl))
 t0:=Tryz.underlying0
 a0:=Tryz.isAgg0
 z0:=Tryz.sizeOf0
 v0:=Tryz.zeroValue0
 t2:=Tryz.underlying2
 a2:=Tryz.isAgg2
 z2:=Tryz.sizeOf2
 v2:=Tryz.zeroValue2
 t3:=Tryz.underlying3
 a3:=Tryz.isAgg3
 z3:=Tryz.sizeOf3
 v3:=Tryz.zeroValue3
 t4:=Tryz.underlying4
 a4:=Tryz.isAgg4
 z4:=Tryz.sizeOf4
 v4:=Tryz.zeroValue4
 t5:=Tryz.underlying5
 a5:=Tryz.isAgg5
 z5:=Tryz.sizeOf5
 v5:=Tryz.zeroValue5
 t9:=Tryz.underlying9
 a9:=Tryz.isAgg9
 z9:=Tryz.sizeOf9
 v9:=Tryz.zeroValue9
 t20:=Tryz.underlying20
 a20:=Tryz.isAgg20
 z20:=Tryz.sizeOf20
 v20:=Tryz.zeroValue20
 t37:=Tryz.underlying294
 a37:=Tryz.isAgg294
 z37:=Tryz.sizeOf294
 v37:=Tryz.zeroValue294
 t46:=Tryz.underlying311
 a46:=Tryz.isAgg311
 z46:=Tryz.sizeOf311
 v46:=Tryz.zeroValue311
 t51:=Tryz.underlying329
 a51:=Tryz.isAgg329
 z51:=Tryz.sizeOf329
 v51:=Tryz.zeroValue329
 t53:=Tryz.underlying318
 a53:=Tryz.isAgg318
 z53:=Tryz.sizeOf318
 v53:=Tryz.zeroValue318
 t171:=Tryz.underlying317
 a171:=Tryz.isAgg317
 z171:=Tryz.sizeOf317
 v171:=Tryz.zeroValue317
 t173:=Tryz.underlying321
 a173:=Tryz.isAgg321
 z173:=Tryz.sizeOf321
 v173:=Tryz.zeroValue321
 t212:=Tryz.underlying337
 a212:=Tryz.isAgg337
 z212:=Tryz.sizeOf337
 v212:=Tryz.zeroValue337
 t213:=Tryz.underlying338
 a213:=Tryz.isAgg338
 z213:=Tryz.sizeOf338
 t232:=Tryz.underlying349
 a232:=Tryz.isAgg349
 z232:=Tryz.sizeOf349
 v232:=Tryz.zeroValue349
 t233:=Tryz.underlying350
 a233:=Tryz.isAgg350
 z233:=Tryz.sizeOf350
 v233:=Tryz.zeroValue350
 g17:=by kernel_rfl
 g18:=by kernel_rfl
 g19:=by kernel_rfl
 i0:=by kernel_rfl
 i2:=by kernel_rfl
 i3:=by kernel_rfl
 i4:=by kernel_rfl
 i5:=by kernel_rfl
 i9:=by kernel_rfl
 i20:=by kernel_rfl
 i37:=by kernel_rfl
 i46:=by kernel_rfl
 i51:=by kernel_rfl
 i53:=by kernel_rfl
 i171:=by kernel_rfl
 i173:=by kernel_rfl
 i212:=by kernel_rfl
 i232:=by kernel_rfl
 i233:=by kernel_rfl
 m17:=by kernel_rfl
 m18:=by kernel_rfl
 m19:=by kernel_rfl }
open Go.RowKit Go.Sort Go.Lib in
theorem Tryz.strconv_Itoa (n:Int) (h0: -9223372036854775808<=n) (h1:n<=9223372036854775807) (w:World) (htab:Lib.TabIs Tryz.prog w "internal/strconv.uint64pow10" .u64 Lib.pow10Tab):
    Calls Tryz.prog 140 #[.int .i64 n] w fun e w'=>e=.returned (.string ⟨(Lib.itoa n).toArray⟩)/\∃k os,w'=grow (w.drewN k) os:=Any.strconv_Itoa Tryz.laysM171 n h0 h1 w htab
def Tryz.lays219_ren:Go.Shelf.Ren:=⟨fun|219=>196|217=>216|225=>217|224=>218|267=>219|266=>236|314=>237|n=>n,fun|9=>9|3=>3|4=>4|5=>5|46=>311|146=>330|51=>329|n=>n,fun|1=>0|n=>n⟩
theorem Tryz.lays219:Go.Proofs.Lays.n219 Tryz.prog Tryz.lays219_ren:={
 mixed:=by kernel_rfl
 f217:=Tryz.func216.trans (congrArg some (by kernel_rfl))
 f219:=Tryz.func196.trans (congrArg some (by kernel_rfl))
 f224:=Tryz.func218.trans (congrArg some (by kernel_rfl))
 f225:=Tryz.func217.trans (congrArg some (by kernel_rfl))
 f266:=Tryz.func236.trans (congrArg some (by kernel_rfl))
 f267:=Tryz.func219.trans (congrArg some (by kernel_rfl))
 f314:=Tryz.func237.trans (congrArg some (by kernel_rfl))
 t3:=Tryz.underlying3
 a3:=Tryz.isAgg3
 z3:=Tryz.sizeOf3
 v3:=Tryz.zeroValue3
 t4:=Tryz.underlying4
 a4:=Tryz.isAgg4
 z4:=Tryz.sizeOf4
 v4:=Tryz.zeroValue4
 t5:=Tryz.underlying5
 a5:=Tryz.isAgg5
 z5:=Tryz.sizeOf5
 v5:=Tryz.zeroValue5
 t9:=Tryz.underlying9
 a9:=Tryz.isAgg9
 z9:=Tryz.sizeOf9
 v9:=Tryz.zeroValue9
 t46:=Tryz.underlying311
 a46:=Tryz.isAgg311
 z46:=Tryz.sizeOf311
 v46:=Tryz.zeroValue311
 t51:=Tryz.underlying329
 a51:=Tryz.isAgg329
 z51:=Tryz.sizeOf329
 v51:=Tryz.zeroValue329
 t146:=Tryz.underlying330
 a146:=Tryz.isAgg330
 z146:=Tryz.sizeOf330
 v146:=Tryz.zeroValue330
 g1:=by kernel_rfl }
open Go.RowKit Go.Lib in
theorem Tryz.stringslite_Index_one (s:ByteArray) (c:UInt8) (w:World):
    Calls Tryz.prog 196 #[.string s,.string ⟨#[c]⟩] w fun e w'=>e=.returned (.int .i64 (Lib.indexByte s.data.toList c))/\w'=w:=Any.stringslite_Index_one Tryz.lays219 s c w
def Tryz.lays144_ren:Go.Shelf.Ren:=⟨fun|144=>125|143=>166|219=>196|217=>216|225=>217|224=>218|267=>219|266=>236|314=>237|n=>n,fun|9=>9|4=>4|3=>3|5=>5|46=>311|146=>330|51=>329|n=>n,fun|1=>0|n=>n⟩
theorem Tryz.lays144:Go.Proofs.Lays.n144 Tryz.prog Tryz.lays144_ren:={
 mixed:=by kernel_rfl
 f143:=Tryz.func166.trans (congrArg some (by kernel_rfl))
 f144:=Tryz.func125.trans (congrArg some (by kernel_rfl))
 f217:=Tryz.func216.trans (congrArg some (by kernel_rfl))
 f219:=Tryz.func196.trans (congrArg some (by kernel_rfl))
 f224:=Tryz.func218.trans (congrArg some (by kernel_rfl))
 f225:=Tryz.func217.trans (congrArg some (by kernel_rfl))
 f266:=Tryz.func236.trans (congrArg some (by kernel_rfl))
 f267:=Tryz.func219.trans (congrArg some (by kernel_rfl))
 f314:=Tryz.func237.trans (congrArg some (by kernel_rfl))
 t3:=Tryz.underlying3
 a3:=Tryz.isAgg3
 z3:=Tryz.sizeOf3
 v3:=Tryz.zeroValue3
 t4:=Tryz.underlying4
 a4:=Tryz.isAgg4
 z4:=Tryz.sizeOf4
 v4:=Tryz.zeroValue4
 t5:=Tryz.underlying5
 a5:=Tryz.isAgg5
 z5:=Tryz.sizeOf5
 v5:=Tryz.zeroValue5
 t9:=Tryz.underlying9
 a9:=Tryz.isAgg9
 z9:=Tryz.sizeOf9
 v9:=Tryz.zeroValue9
 t46:=Tryz.underlying311
 a46:=Tryz.isAgg311
 z46:=Tryz.sizeOf311
 v46:=Tryz.zeroValue311
 t51:=Tryz.underlying329
 a51:=Tryz.isAgg329
 z51:=Tryz.sizeOf329
 v51:=Tryz.zeroValue329
 t146:=Tryz.underlying330
 a146:=Tryz.isAgg330
 z146:=Tryz.sizeOf330
 v146:=Tryz.zeroValue330
 g1:=by kernel_rfl }
open Go.RowKit Go.Lib in
theorem Tryz.strings_Contains_one (s:ByteArray) (c:UInt8) (w:World):
    Calls Tryz.prog 125 #[.string s,.string ⟨#[c]⟩] w fun e w'=>e=.returned (.bool (decide (0<=Lib.indexByte s.data.toList c)))/\w'=w:=Any.strings_Contains_one Tryz.lays144 s c w
def Tryz.lays101_ren:Go.Shelf.Ren:=⟨fun|101=>128|208=>170|206=>201|n=>n,fun|9=>9|4=>4|3=>3|n=>n,fun|n=>n⟩
theorem Tryz.lays101:Go.Proofs.Lays.n101 Tryz.prog Tryz.lays101_ren:={
 mixed:=by kernel_rfl
 f101:=Tryz.func128.trans (congrArg some (by kernel_rfl))
 f206:=Tryz.func201.trans (congrArg some (by kernel_rfl))
 f208:=Tryz.func170.trans (congrArg some (by kernel_rfl))
 t3:=Tryz.underlying3
 a3:=Tryz.isAgg3
 z3:=Tryz.sizeOf3
 v3:=Tryz.zeroValue3
 t4:=Tryz.underlying4
 a4:=Tryz.isAgg4
 z4:=Tryz.sizeOf4
 v4:=Tryz.zeroValue4
 t9:=Tryz.underlying9
 a9:=Tryz.isAgg9
 z9:=Tryz.sizeOf9
 v9:=Tryz.zeroValue9 }
open Go.RowKit Go.Lib in
theorem Tryz.strings_TrimPrefix (s p:ByteArray) (w:World):
    Calls Tryz.prog 128 #[.string s,.string p] w fun e w'=>e=.returned (.string ⟨(Lib.trimPrefix s.data.toList p.data.toList).toArray⟩)/\w'=w:=Any.strings_TrimPrefix Tryz.lays101 s p w
def Tryz.lays105_ren:Go.Shelf.Ren:=⟨fun|105=>205|212=>222|99=>223|165=>224|166=>204|170=>225|169=>206|263=>239|264=>240|206=>201|240=>221|241=>241|276=>238|277=>250|n=>n,fun|9=>9|3=>3|4=>4|20=>20|0=>0|46=>311|109=>312|5=>5|72=>296|76=>299|51=>329|146=>330|53=>318|148=>335|70=>293|37=>294|75=>298|127=>316|164=>332|80=>232|n=>n,fun|n=>n⟩
theorem Tryz.lays105:Go.Proofs.Lays.n105 Tryz.prog Tryz.lays105_ren:={
 mixed:=by kernel_rfl
 f99:=Tryz.func223.trans (congrArg some (by kernel_rfl))
 f105:=Tryz.func205.trans (congrArg some (by kernel_rfl))
 f165:=Tryz.func224.trans (congrArg some (by kernel_rfl))
 f166:=Tryz.func204.trans (congrArg some (by kernel_rfl))
 f169:=Tryz.func206.trans (congrArg some (by kernel_rfl))
 f170:=Tryz.func225.trans (congrArg some (by kernel_rfl))
 f206:=Tryz.func201.trans (congrArg some (by kernel_rfl))
 f212:=Tryz.func222.trans (congrArg some (by kernel_rfl))
 f240:=Tryz.func221.trans (congrArg some (by kernel_rfl))
 f241:=Tryz.func241.trans (congrArg some (by kernel_rfl))
 f263:=Tryz.func239.trans (congrArg some (by kernel_rfl))
 f264:=Tryz.func240.trans (congrArg some (by kernel_rfl))
 f276:=Tryz.func238.trans (congrArg some (by kernel_rfl))
 f277:=Tryz.func250.trans (congrArg some (by kernel_rfl))
 t0:=Tryz.underlying0
 a0:=Tryz.isAgg0
 z0:=Tryz.sizeOf0
 v0:=Tryz.zeroValue0
 t3:=Tryz.underlying3
 a3:=Tryz.isAgg3
 z3:=Tryz.sizeOf3
 v3:=Tryz.zeroValue3
 t4:=Tryz.underlying4
 a4:=Tryz.isAgg4
 z4:=Tryz.sizeOf4
 v4:=Tryz.zeroValue4
 t5:=Tryz.underlying5
 a5:=Tryz.isAgg5
 z5:=Tryz.sizeOf5
 v5:=Tryz.zeroValue5
 t9:=Tryz.underlying9
 a9:=Tryz.isAgg9
 z9:=Tryz.sizeOf9
 v9:=Tryz.zeroValue9
 t20:=Tryz.underlying20
 a20:=Tryz.isAgg20
 z20:=Tryz.sizeOf20
 v20:=Tryz.zeroValue20
 t37:=Tryz.underlying294
 a37:=Tryz.isAgg294
 z37:=Tryz.sizeOf294
 v37:=Tryz.zeroValue294
 t46:=Tryz.underlying311
 a46:=Tryz.isAgg311
 z46:=Tryz.sizeOf311
 v46:=Tryz.zeroValue311
 t51:=Tryz.underlying329
 a51:=Tryz.isAgg329
 z51:=Tryz.sizeOf329
 v51:=Tryz.zeroValue329
 t53:=Tryz.underlying318
 a53:=Tryz.isAgg318
 z53:=Tryz.sizeOf318
 v53:=Tryz.zeroValue318
 t70:=Tryz.underlying293
 a70:=Tryz.isAgg293
 z70:=Tryz.sizeOf293
 v70:=Tryz.zeroValue293
 t72:=Tryz.underlying296
 a72:=Tryz.isAgg296
 z72:=Tryz.sizeOf296
 v72:=Tryz.zeroValue296
 t75:=Tryz.underlying298
 a75:=Tryz.isAgg298
 z75:=Tryz.sizeOf298
 v75:=Tryz.zeroValue298
 t76:=Tryz.underlying299
 a76:=Tryz.isAgg299
 z76:=Tryz.sizeOf299
 v76:=Tryz.zeroValue299
 t109:=Tryz.underlying312
 a109:=Tryz.isAgg312
 z109:=Tryz.sizeOf312
 v109:=Tryz.zeroValue312
 t127:=Tryz.underlying316
 a127:=Tryz.isAgg316
 z127:=Tryz.sizeOf316
 v127:=Tryz.zeroValue316
 t146:=Tryz.underlying330
 a146:=Tryz.isAgg330
 z146:=Tryz.sizeOf330
 v146:=Tryz.zeroValue330
 t148:=Tryz.underlying335
 a148:=Tryz.isAgg335
 z148:=Tryz.sizeOf335
 v148:=Tryz.zeroValue335
 t164:=Tryz.underlying332
 a164:=Tryz.isAgg332
 z164:=Tryz.sizeOf332
 v164:=Tryz.zeroValue332 }
theorem Tryz.Builder_Extra_105:Builder.Extra Tryz.prog Tryz.lays105_ren:={
 sizeBuilder:=by kernel_rfl
 liesBuilder:=by kernel_rfl
 t5:=Tryz.underlying5
 a5:=Tryz.isAgg5
 z5:=Tryz.sizeOf5
 v5:=Tryz.zeroValue5
 infoByte:=by kernel_rfl
 cellsByte:=by kernel_rfl
 sizeByte:=by kernel_rfl
 neB5:=by decide }
open Go.RowKit Go.Lib in
theorem Tryz.strings_Repeat (s:ByteArray) (c:Nat) (w:World) (hc:c<=9223372036854775807) (hlen:s.size*c<=140737488355328):
    Calls Tryz.prog 205 #[.string s,.int .i64 c] w fun e w'=>e=.returned (.string ⟨(Lib.repeatL s.data.toList c).toArray⟩)/\Below w.heap.size w w':=Any.strings_Repeat Tryz.lays105 Tryz.Builder_Extra_105 s c w hc hlen
end Go.Proofs
end
