import Derived.Lib.ItoaMem
import Derived.Laws.Strings
import Derived.Shelf.Strings.Builder1
import Derived.Shelf.Strings.Builder2
import Derived.Shelf.Small.Strs
import Derived.Shelf.Small.Wraps
import Derived.Shelf.Strings.BuilderF
import Derived.Shelf.Strings.BuilderK
import Derived.Shelf.Strings.Builder2Cap
import Derived.Shelf.Strconv.Itoa0
import Derived.Shelf.Strconv.Itoa1
import Derived.Shelf.LaysM
import Derived.Shelf.Strconv.Itoa2
import Derived.Shelf.Strconv.Itoa3
import Derived.Shelf.Strings.Search1
import Derived.Shelf.Strings.Search2
import Derived.Shelf.Strings.Search3
import Derived.Shelf.Strings.Cut
import Derived.Shelf.Strings.Shaped
import Derived.Shelf.Strings.Prefix
import Derived.Shelf.Bits.Mul64
import Derived.Shelf.Strings.Repeat
import Derived.Shelf.Strings.BuilderCap
import Derived.Ground.Names2Prog
import Derived.Shelf.Slices.SearchI
import Derived.Test.YtgncgpcpbadfnaaGreatDoorProg
import Derived.Test.YtgncgpcpbadfnaaGreatDoorVc06
set_option linter.unusedSimpArgs false
set_option linter.unusedVariables false
set_option linter.defProp false
set_option maxRecDepth 100000
section
namespace Go.Nu
open Go Go.Lib
def ofL(b:Nat):List Nat->Nat
 | []=>0
 | x::r=>x+b*ofL b r
def Lim(b:Nat)(l:List Nat):Prop:=∀x∈l,x<b
def bQ(b:Nat)(n:Nat):List Nat:=if h:n=0\/b<2 then[]else n%b::bQ b (n/b)
termination_by n
decreasing_by exact Nat.div_lt_self (by omega) (by omega)
def oH:List Nat->List Nat
 | []=>[]
 | x::r=>match oH r with
   | []=>if x=0 then[]else[x]
   | y::t=>x::y::t
def oM(b:Nat):∀l r:List Nat,ofL b (l++r)=ofL b l+b^l.length*ofL b r
 | [],r=>by simp[ofL]
 | x::l,r=>by simp only[List.cons_append,ofL,oM b l r,List.length_cons,Nat.pow_succ,Nat.mul_add,Nat.add_assoc];rw[Nat.mul_comm (b^l.length) b,Nat.mul_assoc]
def vC(b:Nat)(l:List Nat)(x:Nat):ofL b (l++[x])=ofL b l+b^l.length*x:=by rw[oM];simp[ofL]
def oQ{b:Nat}(F:0<b):∀{l:List Nat},Lim b l->ofL b l<b^l.length
 | [],_=>by simp[ofL]
 | x::l,h=>by
  have h1:=h x (by simp);have E:=oQ F (l:=l) fun y A=>h y (by simp[A])
  simp only[ofL,List.length_cons,Nat.pow_succ];have:b*(ofL b l+1)<=b*b^l.length:=Nat.mul_le_mul_left _ E;rw[Nat.mul_add]at this;rw[Nat.mul_comm (b^l.length) b];omega
def kM(b:Nat){l:List Nat}{k x:Nat}(h:l[k]?=some x):ofL b (l.take (k+1))=ofL b (l.take k)+b^k*x:=by rw[List.take_add_one,h];simp only[Option.toList];rw[vC,List.length_take,Nat.min_eq_left (Nat.le_of_lt (List.getElem?_eq_some_iff.1 h).1)]
def JU(b:Nat):∀(l:List Nat) (k x v:Nat),l[k]?=some x->ofL b (l.set k v)+b^k*x=ofL b l+b^k*v
 | [],k,x,v,h=>by simp at h
 | y::l,0,x,v,h=>by simp only[List.getElem?_cons_zero,Option.some.injEq]at h;subst h;simp only[List.set_cons_zero,ofL,Nat.pow_zero,Nat.one_mul];omega
 | y::l,k+1,x,v,h=>by
  have:=JU b l k x v (by simpa using h);have A:b*(ofL b (l.set k v)+b^k*x)=b*(ofL b l+b^k*v):=by rw[this]
  simp only[List.set_cons_succ,ofL,Nat.pow_succ];rw[Nat.mul_add,Nat.mul_add,<-Nat.mul_assoc,<-Nat.mul_assoc]at A;rw[Nat.mul_comm (b^k) b];omega
def VO(b n:Nat):ofL b (List.replicate n 0)=0:=by
 induction n with
 | zero=>rfl
 | succ n ih=>simp[List.replicate_succ,ofL,ih]
def fF(b:Nat):bQ b 0=[]:=by rw[bQ];simp
def vK{b n:Nat}(A:2<=b)(E:n≠0):bQ b n=n%b::bQ b (n/b):=by rw[bQ,dif_neg (by omega)]
def dT{b:Nat}(F:2<=b)(n:Nat):Lim b (bQ b n):=by
 induction n using Nat.strongRecOn with
 | _ n ih=>
  by_cases E:n=0
  ·subst E;rw[fF];intro x A;cases A
  ·rw[vK F E];intro x A;rcases List.mem_cons.1 A with rfl|A
   ·exact Nat.mod_lt _ (by omega)
   ·exact ih (n/b) (Nat.div_lt_self (by omega) (by omega)) x A
def eG{b:Nat}(E:2<=b)(n:Nat):ofL b (bQ b n)=n:=by
 induction n using Nat.strongRecOn with
 | _ n ih=>
  by_cases A:n=0
  ·subst A;rw[fF];rfl
  ·rw[vK E A,ofL,ih (n/b) (Nat.div_lt_self (by omega) (by omega))];exact Nat.mod_add_div n b
def vG{b n:Nat}(A:2<=b):bQ b n=[]↔n=0:=by
 constructor
 ·intro h;have:=eG A n;rw[h]at this;exact this.symm
 ·rintro rfl;exact fF b
def Hh{b x m:Nat}(E:2<=b)(A:x<b)(h:x+b*m≠0):bQ b (x+b*m)=x::bQ b m:=by rw[vK E h,Nat.add_mul_mod_self_left,Nat.mod_eq_of_lt A,Nat.add_mul_div_left _ _ (by omega),Nat.div_eq_of_lt A,Nat.zero_add]
def Gt{b:Nat}(E:2<=b):∀{l:List Nat},Lim b l->oH l=bQ b (ofL b l)
 | [],_=>by rw[ofL,fF];rfl
 | x::l,h=>by
  have ih:=Gt E (l:=l) fun y J=>h y (by simp[J])
  have I:=h x (by simp);rw[oH,ih];by_cases h0:ofL b l=0
  ·simp only[ofL,h0,fF];by_cases A:x=0
   ·subst A;simp[fF]
   ·rw[if_neg A,Hh E I (by omega),fF]
  ·have F:bQ b (ofL b l)≠[]:=fun e=>h0 ((vG E).1 e)
   rw[ofL,Hh E I (by have:0<b*ofL b l:=Nat.mul_pos (by omega) (by omega);omega)];split
   ·rename_i e;exact absurd e F
   ·rename_i e;rw[e]
def SG{b:Nat}(E:2<=b){l:List Nat}{n:Nat}(h:Lim b l)(A:ofL b l=n):oH l=bQ b n:=by rw[Gt E h,A]
def nO{b:Nat}(E:2<=b){n k:Nat}(h:n<b^k):(bQ b n).length<=k:=by
 induction k generalizing n with
 | zero => have : n = 0 := by simpa using h
           subst this;rw[fF];exact Nat.le_refl _
 | succ k ih=>
   by_cases A:n=0
   . subst A;rw[fF];exact Nat.zero_le _
   . rw[vK E A,List.length_cons];refine Nat.succ_le_succ (ih ?_);rw[Nat.div_lt_iff_lt_mul (by omega)]
     rwa [Nat.pow_succ]at h
def Lm{b:Nat}(A:2<=b){n k:Nat}(h:b^k<=n):k<(bQ b n).length:=by have h1:=oQ (b:=b) (by omega) (dT A n);rw[eG A]at h1;exact(Nat.pow_lt_pow_iff_right (by omega)).1 (Nat.lt_of_le_of_lt h h1)
def eI{b:Nat}(A:2<=b){m n:Nat}(h:m<=n):(bQ b m).length<=(bQ b n).length:=by refine nO A ?_;have h1:=oQ (b:=b) (by omega) (dT A n);rw[eG A]at h1;omega
def QF{b:Nat}(A:2<=b){n:Nat}(E:n≠0):b^((bQ b n).length-1)<=n:=by
 induction n using Nat.strongRecOn with
 | _ n ih=>
  rw[vK A E,List.length_cons,Nat.add_sub_cancel];by_cases h0:n/b=0
  ·rw[h0,fF];simp;omega
  ·have:=ih (n/b) (Nat.div_lt_self (by omega) (by omega)) h0;have F:(bQ b (n/b)).length=((bQ b (n/b)).length-1)+1:=by
    have:bQ b (n/b)≠[]:=fun e=>h0 ((vG A).1 e)
    have:=List.length_pos_iff.2 this;omega
   rw[F,Nat.pow_succ];exact Nat.le_trans (Nat.mul_le_mul_right b this) (Nat.div_mul_le_self n b)
def Jw{b:Nat}(X:0<b){l r:List Nat}(I:Lim b l)(Z:Lim b r)(E:l.length=r.length){k x y:Nat}(F:l[k]?=some x)(U:r[k]?=some y)(A:x<y)(T:l.drop (k+1)=r.drop (k+1)):ofL b l<ofL b r:=by
 have hk:k<l.length:=(List.getElem?_eq_some_iff.1 F).1;have J:l=l.take (k+1)++l.drop (k+1):=(List.take_append_drop _ _).symm;have O:r=r.take (k+1)++r.drop (k+1):=(List.take_append_drop _ _).symm;rw[J,O,oM,oM,T,kM b F,kM b U,List.length_take,List.length_take,Nat.min_eq_left (by omega),Nat.min_eq_left (by omega)];have h1:=oQ X (l:=l.take k) fun z M=>I z (List.mem_of_mem_take M)
 rw[List.length_take,Nat.min_eq_left (by omega)]at h1;have Y:b^k*(x+1)<=b^k*y:=Nat.mul_le_mul_left _ A;rw[Nat.mul_add]at Y;omega
def JD{b:Nat}(A:2<=b){m n:Nat}(h:(bQ b m).length<(bQ b n).length):m<n:=by
 rcases Nat.lt_or_ge m n with h1|h1
 ·exact h1
 ·have:=eI A h1;omega
def Lf{α:Type}{p:List α->Prop}(h0:p [])(h1:∀l c,p l->p (l++[c]))(l:List α):p l:=by
 have:∀r:List α,p r.reverse:=fun r=>by
  induction r with
  | nil=>exact h0
  | cons c r ih=>rw[List.reverse_cons];exact h1 _ _ ih
 rw[<-List.reverse_reverse l];exact this _
def isD(c:UInt8):Bool:=decide (48<=c.toNat)&&decide (c.toNat<=57)
def gR(l:List UInt8):Nat:=l.foldl (fun a c=>10*a+(c.toNat-48)) 0
def fE(l:List UInt8):Bool:=l != []&&(l.length == 1||l.getD 0 0 != 48)&&l.all isD
def dec(n:Nat):ByteArray:=⟨(decDigits n).toArray⟩
def vQ(l:List UInt8)(c:UInt8):gR (l++[c])=10*gR l+(c.toNat-48):=by simp[gR]
def Dg{α:Type}{l r:List α}{k:Nat}{d:α}(h:k<l.length):(l++r).getD k d=l.getD k d:=by simp only[List.getD,List.getElem?_append_left h]
def vL{d:Nat}(h:d<10):(UInt8.ofNat (48+d)).toNat=48+d:=by rw[UInt8.toNat_ofNat'];omega
def Fw(n:Nat):gR (decDigits n)=n:=by
 induction n using Nat.strongRecOn with
 | _ n ih=>
  rw[decDigits];split
  ·rename_i h;simp only[gR,List.foldl_cons,List.foldl_nil,vL h];omega
  ·rename_i h;rw[vQ,ih (n/10) (by omega),vL (by omega)];omega
def sZ(n:Nat):(decDigits n).all isD=true:=by
 induction n using Nat.strongRecOn with
 | _ n ih=>
  rw[decDigits];split
  ·rename_i h;simp only[List.all_cons,List.all_nil,Bool.and_true,isD,vL h,Bool.and_eq_true,decide_eq_true_eq];omega
  ·rename_i h;rw[List.all_append,ih (n/10) (by omega)];simp only[List.all_cons,List.all_nil,Bool.and_true,Bool.true_and,isD,vL (show n%10<10 by omega),Bool.and_eq_true,decide_eq_true_eq];omega
def Qf(n:Nat):decDigits n≠[]:=by rw[decDigits];split <;> simp
def tP(n:Nat):0<(decDigits n).length:=List.length_pos_iff.2 (Qf n)
def WL{n:Nat}(h:n≠0):(decDigits n).getD 0 0≠48:=by
 induction n using Nat.strongRecOn with
 | _ n ih=>
  rw[decDigits];split
  ·rename_i h1;simp only[List.getD_cons_zero];intro e;have:=vL h1;rw[e]at this;simp at this;omega
  ·rename_i h1;have E:=ih (n/10) (by omega) (by omega);have A:=tP (n/10);rw[Dg A];exact E
def OP{n:Nat}:(decDigits n).length=1↔n<10:=by
 rw[decDigits];split
 ·simp_all
 ·rename_i h;have:=tP (n/10);simp only[List.length_append,List.length_cons,List.length_nil];omega
def Us(n:Nat):fE (decDigits n)=true:=by
 unfold fE;simp only[Bool.and_eq_true,bne_iff_ne,ne_eq,Bool.or_eq_true,beq_iff_eq];refine⟨⟨Qf n,?_⟩,sZ n⟩;by_cases h:n=0
 ·left;rw[OP];omega
 ·right;exact WL h
def qP{c:UInt8}:isD c=true↔48<=c.toNat/\c.toNat<=57:=by simp[isD]
def Ze{c:UInt8}(h:isD c=true):UInt8.ofNat (48+(c.toNat-48))=c:=by rw[qP]at h;rw[show 48+(c.toNat-48)=c.toNat by omega];exact UInt8.ofNat_toNat
def Zj:∀{l:List UInt8},l.all isD=true->l≠[]->l.getD 0 0≠48->10^(l.length-1)<=gR l:=by
 intro l;induction l using Lf with
 | h0=>intro _ h;exact absurd rfl h
 | h1 l c ih=>
  intro A _ h0;rw[List.all_append]at A;simp only[Bool.and_eq_true,List.all_cons,List.all_nil,Bool.and_true]at A;rw[vQ];by_cases E:l=[]
  ·subst E;simp only[List.nil_append,List.getD_cons_zero]at h0;simp only[List.nil_append,List.length_cons,List.length_nil,Nat.zero_add,Nat.sub_self,Nat.pow_zero];have:=qP.1 A.2;have h1:c.toNat≠48:=fun e=>h0 (UInt8.toNat.inj e)
   omega
  ·have F:=List.length_pos_iff.2 E;rw[Dg F]at h0;have:=ih A.1 E h0;simp only[List.length_append,List.length_cons,List.length_nil,Nat.zero_add,Nat.add_sub_cancel];rw[show l.length=(l.length-1)+1 by omega,Nat.pow_succ];omega
def K9:∀{l:List UInt8},fE l=true->decDigits (gR l)=l:=by
 intro l;induction l using Lf with
 | h0=>intro h;simp[fE]at h
 | h1 l c ih=>
  intro h;unfold fE at h;simp only[Bool.and_eq_true,bne_iff_ne,ne_eq,Bool.or_eq_true,beq_iff_eq,List.all_append,List.all_cons,List.all_nil,Bool.and_true]at h;obtain⟨⟨_,h1⟩,F,E⟩:=h;have O:=qP.1 E;by_cases A:l=[]
  ·subst A;rw[List.nil_append];rw[show gR [c]=c.toNat-48 by simp[gR],decDigits_one (by omega),Ze E]
  ·have J:=List.length_pos_iff.2 A;have h0:l.getD 0 0≠48:=by
    rcases h1 with h1|h1
    ·simp only[List.length_append,List.length_cons,List.length_nil]at h1;omega
    ·rwa [Dg J]at h1
   have I:=Zj F A h0;have M:1<=gR l:=Nat.le_trans (Nat.one_le_pow _ _ (by omega)) I;rw[vQ,decDigits,dif_neg (by omega)];rw[show(10*gR l+(c.toNat-48))/10=gR l by omega,show(10*gR l+(c.toNat-48))%10=c.toNat-48 by omega,Ze E,ih];unfold fE;simp only[Bool.and_eq_true,bne_iff_ne,ne_eq,Bool.or_eq_true,beq_iff_eq];exact⟨⟨A,.inr h0⟩,F⟩
def rX{n k:Nat}(F:1<=k):(decDigits n).length<=k↔n<10^k:=by
 rw[decDigits_length];constructor
 ·intro h;exact Nat.lt_of_lt_of_le (lt_pow_nDigits n) (Nat.pow_le_pow_right (by omega) h)
 ·intro h;by_cases h0:n<10
  ·rw[nDigits_small h0];exact F
  ·induction k generalizing n with
   | zero=>omega
   | succ k ih=>
    by_cases A:k=0
    ·subst A;simp at h;omega
    ·rw[nDigits_big h0];rw[Nat.pow_succ]at h;have:=Nat.succ_le_succ (show nDigits (n/10)<=k from by
      by_cases E:n/10<10
      ·rw[nDigits_small E];omega
      ·exact ih (by omega) (by omega) E)
     exact this
def bl(s:ByteArray):List UInt8:=s.data.toList
def mU{a b:ByteArray}(h:bl a=bl b):a=b:=by cases a;cases b;simp only[bl]at h;rw[Array.toList_inj.1 h]
def fL(s:ByteArray):(bl s).length=s.size:=by unfold bl;rw[Array.length_toList];rfl
def eqB(a b:ByteArray):Bool:=bl a == bl b
def tO{a b:ByteArray}:eqB a b=true↔a=b:=by unfold eqB;rw[beq_iff_eq];exact⟨mU,fun h=>by rw[h]⟩
def rZ{a b:ByteArray}:eqB a b=false↔a≠b:=by rw[<-Bool.not_eq_true,tO]
def kK(l:List UInt8):bl ⟨l.toArray⟩=l:=by simp[bl]
def Dl(a b:ByteArray):bl (a++b)=bl a++bl b:=by unfold bl;rw[ByteArray.data_append,Array.toList_append]
def ajE(s:ByteArray):(⟨(bl s).toArray⟩:ByteArray)=s:=mU (kK _)
def emp:ByteArray:=ByteArray.empty
def iS(s:ByteArray)(a b:Nat):bl (s.extract a b)=((bl s).take b).drop a:=by simp[bl,ByteArray.data_extract,Array.toList_extract,List.extract_eq_take_drop,List.drop_take]
def adE:Nat:=4096
def dE:Nat:=10^adE
def Q6{n k:Nat}(h:n<10^k)(A:k<=4096):n<dE:=Nat.lt_of_lt_of_le h (Nat.pow_le_pow_right (show 0<10 by omega) (show k<=adE from A))
def aaY:0<dE:=Nat.pow_pos (show 0<10 by omega)
def fV(s:ByteArray):Bool:=fE (bl s)
def fH(s:ByteArray):Nat:=gR (bl s)
def nN(n:Nat):bl (dec n)=decDigits n:=kK _
def rM(n:Nat):fV (dec n)=true:=by unfold fV;rw[nN];exact Us n
def cO(n:Nat):fH (dec n)=n:=by unfold fH;rw[nN];exact Fw n
def lD{s:ByteArray}(h:fV s=true):dec (fH s)=s:=mU (by rw[nN];exact K9 h)
def Gy(n:Nat):(dec n).size=(decDigits n).length:=by rw[<-fL,nN]
def iK(n:Nat):(dec n).size<=4096↔n<dE:=by rw[Gy];exact rX (k:=adE) (by decide)
def Bx{s:ByteArray}(h:fV s=true):s.size<=4096↔fH s<dE:=by
 have:=iK (fH s)
 rwa [lD h]at this
def wZ{m n:Nat}:dec m=dec n↔m=n:=⟨fun h=>by rw[<-cO m,h,cO],fun h=>by rw[h]⟩
def szN(n:Nat):ByteArray×Int:=if n<dE then(dec n,0)else(emp,4)
def jV(a b:ByteArray):Int:=if(!fV a|| !fV b)=true then 3 else if(decide (a.size>4096)||decide (b.size>4096))=true then 4 else 0
def PM(a b:ByteArray):ByteArray×Int:=if jV a b=0 then szN (fH a+fH b)else(emp,jV a b)
def PQ(a b:ByteArray):ByteArray×Int:=if jV a b=0 then(if fH a<fH b then(emp,2)else szN (fH a-fH b))else(emp,jV a b)
def PP(a b:ByteArray):ByteArray×Int:=if jV a b=0 then szN (fH a*fH b)else(emp,jV a b)
def OT(a b:ByteArray):ByteArray×ByteArray×Int:=if jV a b=0 then(if fH b=0 then(emp,emp,10)else(dec (fH a/fH b),dec (fH a%fH b),0))else(emp,emp,jV a b)
def Ka(a b:ByteArray):ByteArray×Int:=if jV a b=0 then szN (Nat.gcd (fH a) (fH b))else(emp,jV a b)
def Le{a b:ByteArray}(E:fV a=true)(A:fV b=true)(I:a.size<=4096)(F:b.size<=4096):jV a b=0:=by unfold jV;rw[E,A];simp;omega
def yB{m n:Nat}(A:m<dE)(E:n<dE):jV (dec m) (dec n)=0:=Le (rM m) (rM n) ((iK m).2 A) ((iK n).2 E)
def vD{a b:ByteArray}(h:jV a b=0):∃m n,a=dec m/\b=dec n/\m<dE/\n<dE:=by
 unfold jV at h;split at h
 ·cases h
 ·rename_i h1;split at h
  ·cases h
  ·rename_i A;simp only[Bool.or_eq_true,Bool.not_eq_true',not_or,Bool.not_eq_false,decide_eq_true_eq,Nat.not_lt]at h1 A;exact⟨fH a,fH b,(lD h1.1).symm,(lD h1.2).symm,(Bx h1.1).1 A.1,(Bx h1.2).1 A.2⟩
def C3{n:Nat}(h:n<dE):szN n=(dec n,0):=if_pos h
def iU(s:ByteArray):Bool:=(bl s).head? == some 45
def eN(s:ByteArray):ByteArray:=if iU s=true then⟨((bl s).drop 1).toArray⟩else s
def fK(s:ByteArray):Bool:=fV (eN s)&& !(iU s&&eqB (eN s) (dec 0))
def kU(s:ByteArray):Int:=if iU s=true then -(fH (eN s):Int)else fH (eN s)
def zed(n:Int):ByteArray:=⟨(itoa n).toArray⟩
def fY(n:Nat):zed n=dec n:=by unfold zed;rw[itoa_nonneg];rfl
def Fg{n:Nat}(h:1<=n):zed (-(n:Int))=⟨((45:UInt8)::decDigits n).toArray⟩:=by unfold zed;rw[itoa_neg n h]
def CJ(n:Nat):iU (dec n)=false:=by
 unfold iU;rw[nN];have h1:=sZ n;have A:=Qf n;cases h:decDigits n with
 | nil=>exact absurd h A
 | cons c r=>rw[h]at h1;simp only[List.all_cons,Bool.and_eq_true]at h1;have:=qP.1 h1.1;simp only[List.head?_cons,beq_eq_false_iff_ne,ne_eq,Option.some.injEq];intro e;rw[e]at this;simp at this
def LX(n:Nat):eN (dec n)=dec n:=by unfold eN;rw[CJ];rfl
def Ga(l:List UInt8):iU ⟨((45:UInt8)::l).toArray⟩=true:=by unfold iU;rw[kK];rfl
def VI(l:List UInt8):eN ⟨((45:UInt8)::l).toArray⟩=⟨l.toArray⟩:=by unfold eN;rw[Ga,if_pos rfl,kK];rfl
def BF(n:Int):iU (zed n)=decide (n<0):=by
 rcases Int.lt_or_le n 0 with h|h
 ·obtain⟨m,rfl⟩:∃m:Nat,n= -(m:Int):=⟨n.natAbs,by omega⟩;rw[Fg (by omega),Ga];simp;omega
 ·obtain⟨m,rfl⟩:∃m:Nat,n=m:=⟨n.toNat,by omega⟩;rw[fY,CJ];simp
def nR(n:Int):eN (zed n)=dec n.natAbs:=by
 rcases Int.lt_or_le n 0 with h|h
 ·obtain⟨m,rfl⟩:∃m:Nat,n= -(m:Int):=⟨n.natAbs,by omega⟩;rw[Fg (by omega),VI,Int.natAbs_neg,Int.natAbs_natCast];rfl
 ·obtain⟨m,rfl⟩:∃m:Nat,n=m:=⟨n.toNat,by omega⟩;rw[fY,LX,Int.natAbs_natCast]
def oU(n:Int):fK (zed n)=true:=by
 unfold fK;rw[nR,BF,rM];simp only[Bool.true_and,Bool.not_eq_true',Bool.and_eq_false_iff,decide_eq_false_iff_not];by_cases h:n<0
 ·right;refine rZ.2 fun e=>?_
  rw[wZ]at e;omega
 ·left;exact h
def dP(n:Int):kU (zed n)=n:=by
 unfold kU;rw[nR,BF,cO];split
 ·rename_i h;simp only[decide_eq_true_eq]at h;omega
 ·rename_i h;simp only[decide_eq_true_eq]at h;omega
def G5{s:ByteArray}(h:fK s=true):zed (kU s)=s:=by
 unfold fK at h;simp only[Bool.and_eq_true,Bool.not_eq_true',Bool.and_eq_false_iff]at h;obtain⟨h1,E⟩:=h;have F:=lD h1;unfold kU;by_cases A:iU s=true
 ·have O : eN s ≠ dec 0 := by
   rcases E with E|E
   ·rw[A]at E;cases E
   ·exact rZ.1 E
  rw[if_pos A];have M:1<=fH (eN s):=by
   rcases Nat.eq_zero_or_pos (fH (eN s))with I|I
   ·exact absurd (by rw[<-F,I]) O
   ·exact I
  rw[Fg M];refine mU ?_;rw[kK,<-nN,F];unfold eN;rw[if_pos A,kK];unfold iU at A;cases J:bl s with
  | nil=>rw[J]at A;cases A
  | cons c r=>rw[J]at A;simp only[List.head?_cons,beq_iff_eq,Option.some.injEq]at A;subst A;rfl
 ·rw[if_neg A,fY,F];unfold eN;rw[if_neg A]
def Z3{m n:Int}:zed m=zed n↔m=n:=⟨fun h=>by rw[<-dP m,h,dP],fun h=>by rw[h]⟩
def szZ(n:Int):ByteArray×Int:=if n.natAbs<dE then(zed n,0)else(emp,4)
def pU(a b:ByteArray):Int:=if(!fK a|| !fK b)=true then 3 else if(decide ((eN a).size>4096)||decide ((eN b).size>4096))=true then 4 else 0
def Hz(a b:ByteArray):ByteArray×Int:=if pU a b=0 then szZ (kU a+kU b)else(emp,pU a b)
def zV(a b:ByteArray):ByteArray×Int:=if pU a b=0 then szZ (kU a*kU b)else(emp,pU a b)
def oB(a b:ByteArray):ByteArray×ByteArray×Int:=if pU a b=0 then(if kU b=0 then(emp,emp,10)else(zed ((kU a).fdiv (kU b)),zed ((kU a).fmod (kU b)),0))else(emp,emp,pU a b)
def jM(a b:Int):Int:=if a<b then -1 else if b<a then 1 else 0
def Yf(a b:ByteArray):Int:=if fK a=true/\fK b=true then jM (kU a) (kU b)else 0
def Nn(a:ByteArray):Int:=if fK a=true then(kU a).sign else 0
def zB{m n:Int}(A:m.natAbs<dE)(E:n.natAbs<dE):pU (zed m) (zed n)=0:=by unfold pU;rw[oU,oU,nR,nR];have:=(iK m.natAbs).2 A;have:=(iK n.natAbs).2 E;simp;omega
def Dp{a b:ByteArray}(h:pU a b=0):∃m n:Int,a=zed m/\b=zed n/\m.natAbs<dE/\n.natAbs<dE:=by
 unfold pU at h;split at h
 ·cases h
 ·rename_i h1;split at h
  ·cases h
  ·rename_i A;simp only[Bool.or_eq_true,Bool.not_eq_true',not_or,Bool.not_eq_false,decide_eq_true_eq,Nat.not_lt]at h1 A;have F:=G5 h1.1;have E:=G5 h1.2;refine⟨kU a,kU b,F.symm,E.symm,?_,?_⟩
   ·have:=A.1;rw[<-F,nR]at this;exact(iK _).1 this
   ·have:=A.2;rw[<-E,nR]at this;exact(iK _).1 this
def dS:UInt8:=47
def lN(s:ByteArray):Bool:=(bl s).any (· == dS)
def iR(s:ByteArray):ByteArray:=⟨((bl s).takeWhile (· != dS)).toArray⟩
def iH(s:ByteArray):ByteArray:=if lN s=true then⟨(((bl s).dropWhile (· != dS)).drop 1).toArray⟩else dec 1
def cZ(s:ByteArray):Bool:=(fK (iR s)&&fV (iH s)&&decide ((eN (iR s)).size<=4096)&&decide ((iH s).size<=4096)) &&
 (!lN s||(!eqB (iH s) (dec 0)&& !eqB (iH s) (dec 1)&& !eqB (iR s) (dec 0)&&Nat.gcd (kU (iR s)).natAbs (fH (iH s)) == 1))
def DC(s:ByteArray):Rat:=mkRat (kU (iR s)) (fH (iH s))
def slB:ByteArray:=⟨#[47]⟩
def sM(x:Rat):ByteArray:=if x.den=1 then zed x.num else zed x.num++slB++dec x.den
def CQ(x:Rat):Prop:=x.num.natAbs<dE/\x.den<dE
def vX{α:Type}{p:α->Bool}:∀{l:List α},(∀c∈l,p c=true)->l.takeWhile p=l
 | [],_=>rfl
 | a::l,h=>by rw[List.takeWhile_cons,if_pos (h a (by simp)),vX fun c A=>h c (by simp[A])]
def Du{α:Type}{p:α->Bool}:∀{l:List α} {c:α},c∈l.takeWhile p->p c=true
 | [],c,h=>by simp at h
 | a::l,c,h=>by
  rw[List.takeWhile_cons]at h;split at h
  ·rename_i A;rcases List.mem_cons.1 h with rfl|h
   ·exact A
   ·exact Du h
  ·cases h
def LJ{c:UInt8}(h:isD c=true):(c != dS)=true:=by have:=qP.1 h;simp only[bne_iff_ne,ne_eq];intro e;rw[e]at this;simp[dS]at this
def Ee(n:Nat):∀c∈decDigits n,(c != dS)=true:=fun c A=>LJ (List.all_eq_true.1 (sZ n) c A)
def qW(n:Int):∀c∈itoa n,(c != dS)=true:=by
 intro c A;unfold itoa at A;split at A
 ·rcases List.mem_cons.1 A with rfl|A
  ·decide
  ·exact Ee _ c A
 ·exact Ee _ c A
def Lx(n:Int):bl (zed n)=itoa n:=kK _
def ahM:bl slB=[dS]:=rfl
def Vo{l r:List UInt8}(h:∀c∈l,(c != dS)=true):(l++dS::r).takeWhile (· != dS)=l:=by rw[List.takeWhile_append_of_pos h];simp
def VY{l r:List UInt8}(h:∀c∈l,(c != dS)=true):(l++dS::r).dropWhile (· != dS)=dS::r:=by rw[List.dropWhile_append_of_pos h];simp
def Db{l:List UInt8}(h:∀c∈l,(c != dS)=true):l.any (· == dS)=false:=by rw[List.any_eq_false];intro c A e;have:=h c A;simp at this e;exact this e
def Fa(x:Rat):bl (sM x)=if x.den=1 then itoa x.num else itoa x.num++dS::decDigits x.den:=by
 unfold sM;split
 ·exact Lx _
 ·rw[Dl,Dl,Lx,nN,ahM];simp
def Gj(x:Rat):lN (sM x)= !(x.den == 1):=by
 unfold lN;rw[Fa];split
 ·rename_i h;rw[Db (qW _),h];rfl
 ·rename_i h;rw[List.any_append];simp[h]
def Jh(x:Rat):iR (sM x)=zed x.num:=by
 refine mU ?_;unfold iR;rw[kK,Fa,Lx];split
 ·exact vX (qW _)
 ·exact Vo (qW _)
def IX(x:Rat):iH (sM x)=dec x.den:=by
 unfold iH;rw[Gj,Fa];by_cases h:x.den=1
 ·simp[h]
 ·simp only[h,beq_eq_false_iff_ne.2 h,Bool.not_false,if_true,if_false];rw[VY (qW _)];rfl
def oL(x:Rat):DC (sM x)=x:=by unfold DC;rw[Jh,IX,dP,cO,Rat.mkRat_self]
def vP(n:Int):(eN (zed n)).size<=4096↔n.natAbs<dE:=by rw[nR];exact iK _
def yS{x:Rat}(h:CQ x):cZ (sM x)=true:=by
 unfold cZ;rw[Jh,IX,oU,rM,Gj,dP,cO];simp only[Bool.true_and,Bool.and_eq_true,decide_eq_true_eq,Bool.or_eq_true,Bool.not_not,beq_iff_eq,Bool.not_eq_true',rZ,ne_eq];refine⟨⟨(vP _).2 h.1,(iK _).2 h.2⟩,?_⟩;by_cases h1:x.den=1
 ·exact .inl h1
 ·refine .inr ⟨⟨⟨?_,?_⟩,?_⟩,x.reduced⟩
  ·rw[wZ];exact x.den_nz
  ·rw[wZ];exact h1
  ·rw[<-fY,Z3];intro h0;apply h1;have:=x.reduced;rw[h0]at this;simpa[Nat.Coprime]using this
def iN{s:ByteArray}(h:cZ s=true):∃x:Rat,s=sM x/\CQ x/\iR s=zed x.num/\iH s=dec x.den:=by
 unfold cZ at h;simp only[Bool.and_eq_true,decide_eq_true_eq,Bool.or_eq_true,Bool.not_eq_true',rZ,ne_eq,beq_iff_eq]at h;obtain⟨⟨⟨⟨h1,h2⟩,h3⟩,Y⟩,F⟩:=h;have ep:=G5 h1;have eq:=lD h2;have E:(kU (iR s)).natAbs.Coprime (fH (iH s))/\fH (iH s)≠0:=by
  rcases F with F|⟨⟨⟨U,_⟩,_⟩,h7⟩
  ·have I:iH s=dec 1:=by unfold iH;rw[if_neg (by rw[F];simp)]
   rw[I,cO];exact⟨Nat.coprime_one_right _,by omega⟩
  ·exact⟨h7,fun e=>U (by rw[<-eq,e])⟩
 let x:Rat:=⟨kU (iR s),fH (iH s),E.2,E.1⟩
 have I:iR s=zed x.num:=ep.symm;have J:iH s=dec x.den:=eq.symm;refine⟨x,mU ?_,⟨?_,?_⟩,I,J⟩
 ·rw[Fa];have X:bl (iR s)=(bl s).takeWhile (· != dS):=kK _;rw[I,Lx]at X;by_cases A:lN s=true
  ·have Z:bl (iH s)=((bl s).dropWhile (· != dS)).drop 1:=by unfold iH;rw[if_pos A,kK]
   rw[J,nN]at Z;have T:x.den≠1:=fun e=>by
    rcases F with F|⟨⟨⟨_,U⟩,_⟩,_⟩
    ·rw[A]at F;cases F
    ·exact U (by rw[J,e])
   rw[if_neg T,X,Z]
   conv=>lhs;rw[<-List.takeWhile_append_dropWhile (p:=(· != dS)) (l:=bl s)]
   congr 1
   cases hw:(bl s).dropWhile (· != dS)with
   | nil=>exfalso;unfold lN at A;obtain⟨c,O,M⟩:=List.any_eq_true.1 A;rw[<-List.takeWhile_append_dropWhile (p:=(· != dS)) (l:=bl s),hw,List.append_nil]at O;have:=Du O;simp at this M;exact this M
   | cons c r=>
    have h0:(c != dS)=false:=by have:=List.head?_dropWhile_not (p:=(· != dS)) (l:=bl s);rw[hw]at this;simpa using this
    have:c=dS:=by simpa using h0
    rw[this];rfl
  ·have A:lN s=false:=by simpa using A
   have T:x.den=1:=by
    have:iH s=dec 1:=by unfold iH;rw[A];rfl
    rw[J]at this;exact wZ.1 this
   rw[if_pos T,X]
   symm
   refine vX ?_;intro c O;unfold lN at A;rw[List.any_eq_false]at A;have:=A c O;simp at this |-;exact this
 ·rw[I]at h3;exact(vP _).1 h3
 ·rw[J]at Y;exact(iK _).1 Y
def pI(n:Int):Bool:= !decide (n.natAbs<dE)
def wR(x y:Rat):ByteArray×Int:=if(pI (x.num*y.den)||pI (y.num*x.den)||pI (x.num*y.den+y.num*x.den)||pI (x.den*y.den))=true then(emp,4)else(sM (x+y),0)
def CZ(a b:ByteArray):ByteArray×Int:=if(cZ a&&cZ b)=true then wR (DC a) (DC b)else(emp,3)
def subR(a b:ByteArray):ByteArray×Int:=if(cZ a&&cZ b)=true then wR (DC a) (-DC b)else(emp,3)
def Nw(x y:Rat):ByteArray×Int:=if(pI (x.num*y.num)||pI (x.den*y.den))=true then(emp,4)else(sM (x*y),0)
def BN(a b:ByteArray):ByteArray×Int:=if(cZ a&&cZ b)=true then Nw (DC a) (DC b)else(emp,3)
def adX(x y:Rat):Int:=if x<y then -1 else if y<x then 1 else 0
def L8(a b:ByteArray):Int:=if(cZ a&&cZ b)=true then adX (DC a) (DC b)else 0
def D0(a:ByteArray):Int:=if cZ a=true then(DC a).num.sign else 0
def adD{n:Int}{d:Nat}(A:d≠0):n.fdiv (Nat.gcd n.natAbs d:Nat)=(mkRat n d).num:=by rw[Rat.num_mkRat,if_neg A,Nat.gcd_comm];exact Int.fdiv_eq_ediv_of_nonneg _ (by omega)
def abB{n:Int}{d:Nat}(A:d≠0):(d:Int).fdiv (Nat.gcd n.natAbs d:Nat)=((mkRat n d).den:Int):=by rw[Rat.den_mkRat,if_neg A,Nat.gcd_comm,Int.fdiv_eq_ediv_of_nonneg _ (by omega)];rfl
def F8{n:Int}{d:Nat}(E:d≠0)(F:n.natAbs<dE)(A:d<dE):CQ (mkRat n d):=by
 constructor
 ·rw[Rat.num_mkRat,if_neg E];have:(n/((d.gcd n.natAbs:Nat):Int)).natAbs<=n.natAbs:=by
   rw[Int.natAbs_ediv_of_dvd]
   ·exact Nat.div_le_self _ _
   ·exact Int.ofNat_dvd_left.2 (Nat.gcd_dvd_right _ _)
  omega
 ·rw[Rat.den_mkRat,if_neg E];exact Nat.lt_of_le_of_lt (Nat.div_le_self _ _) A
def acL{n:Int}{d:Nat}(A:d≠0):0<Nat.gcd n.natAbs d:=Nat.gcd_pos_of_pos_right _ (by omega)
def VZ{n:Int}{d:Nat}(A:d≠0)(h:d<dE):Nat.gcd n.natAbs d<dE:=Nat.lt_of_le_of_lt (Nat.gcd_le_right _ (by omega)) h
def mL{n:Int}:pI n=false↔n.natAbs<dE:=by simp[pI]
def Yj(x y:Rat):x+y=mkRat (x.num*y.den+y.num*x.den) (x.den*y.den):=Rat.add_def' x y
def XY(x y:Rat):x*y=mkRat (x.num*y.num) (x.den*y.den):=Rat.mul_def' x y
def EY(x y:Rat):((x.den:Int)*y.den).natAbs=x.den*y.den:=by rw[Int.natAbs_mul,Int.natAbs_natCast,Int.natAbs_natCast]
def Kr(x y:Rat):x.den*y.den≠0:=Nat.mul_ne_zero x.den_nz y.den_nz
def Q1{x y:Rat}(h:(wR x y).2=0):wR x y=(sM (x+y),0)/\CQ (x+y):=by
 unfold wR at h |-;split at h
 ·cases h
 ·rename_i A;rw[if_neg A];simp only[Bool.or_eq_true,not_or,Bool.not_eq_true,mL]at A;exact⟨rfl,by rw[Yj];exact F8 (Kr x y) A.1.2 (by rw[<-EY];exact A.2)⟩
def Mq{x y:Rat}(h:(Nw x y).2=0):Nw x y=(sM (x*y),0)/\CQ (x*y):=by
 unfold Nw at h |-;split at h
 ·cases h
 ·rename_i A;rw[if_neg A];simp only[Bool.or_eq_true,not_or,Bool.not_eq_true,mL]at A;exact⟨rfl,by rw[XY];exact F8 (Kr x y) A.1 (by rw[<-EY];exact A.2)⟩
def Kd(p q r s:Int):Int:=jM (p*s) (r*q)
def sG{p q:Int}(A:0<q):p=p.fdiv q*q+p.fmod q/\0<=p.fmod q/\p.fmod q<q:=
 ⟨by rw[Int.mul_comm];exact(Int.mul_fdiv_add_fmod p q).symm,Int.fmod_nonneg_of_pos _ A,Int.fmod_lt_of_pos _ A⟩
def kD{a b:Int}(h:a<b):jM a b= -1:=if_pos h
def jS{a b:Int}(h:b<a):jM a b=1:=by unfold jM;rw[if_neg (by omega),if_pos h]
def tK{a b:Int}(h:a=b):jM a b=0:=by unfold jM;rw[if_neg (by omega),if_neg (by omega)]
def IV{a b:Int}:jM a b=0↔a=b:=by
 unfold jM;constructor
 ·intro h;split at h
  ·cases h
  ·split at h
   ·cases h
   ·omega
 ·intro h;rw[if_neg (by omega),if_neg (by omega)]
def Ut(a b:Int):jM b a= -jM a b:=by
 rcases Int.lt_trichotomy a b with h|h|h
 ·rw[kD h,jS h];rfl
 ·rw[tK h,tK h.symm];rfl
 ·rw[jS h,kD h]
def OG{p q r s:Int}(E:0<q)(A:0<s)(h:p.fdiv q<r.fdiv s):p*s<r*q:=by
 obtain⟨M,a1,T⟩:=sG (p:=p) E;obtain⟨F,a2,I⟩:=sG (p:=r) A;have h1:p*s<(p.fdiv q+1)*q*s:=by refine Int.mul_lt_mul_of_pos_right ?_ A;rw[Int.add_mul];omega
 have O:(p.fdiv q+1)*q*s<=r.fdiv s*q*s:=Int.mul_le_mul_of_nonneg_right (Int.mul_le_mul_of_nonneg_right (by omega) (by omega)) (by omega);have J:r.fdiv s*q*s<=r*q:=by rw[Int.mul_right_comm];exact Int.mul_le_mul_of_nonneg_right (by omega) (by omega)
 omega
def PN{p q r s:Int}(E:0<q)(A:0<s)(h:p.fdiv q≠r.fdiv s):Kd p q r s=jM (p.fdiv q) (r.fdiv s):=by
 unfold Kd;rcases Int.lt_or_gt_of_ne h with h|h
 ·rw[kD h,kD (OG E A h)]
 ·rw[jS h,jS (OG A E h)]
def Uu{p q r s:Int}(J:0<q)(E:0<s)(h:p.fdiv q=r.fdiv s):Kd p q r s=jM (p.fmod q*s) (r.fmod s*q):=by
 obtain⟨F,_,_⟩:=sG (p:=p) J;obtain⟨M,_,_⟩:=sG (p:=r) E;unfold Kd;have h1:p*s=p.fdiv q*q*s+p.fmod q*s:=by
  conv=>lhs;rw[F]
  rw[Int.add_mul]
 have I:r*q=p.fdiv q*q*s+r.fmod s*q:=by
  conv=>lhs;rw[M]
  rw[Int.add_mul,<-h,Int.mul_right_comm]
 rw[h1,I];unfold jM;have A:(p.fdiv q*q*s+p.fmod q*s<p.fdiv q*q*s+r.fmod s*q)↔p.fmod q*s<r.fmod s*q:=by omega
 have c2:(p.fdiv q*q*s+r.fmod s*q<p.fdiv q*q*s+p.fmod q*s)↔r.fmod s*q<p.fmod q*s:=by omega
 simp only[A,c2]
def U0(x q y s:Int):jM (x*s) (y*q)= -Kd q x s y:=by unfold Kd;rw[Int.mul_comm q y,Int.mul_comm s x];exact Ut _ _
def afV(x y:Rat):adX x y=Kd x.num x.den y.num y.den:=by unfold adX Kd jM;simp only[Rat.lt_iff]
def Ag(b:Nat)(l:List Nat)(k:Nat):ofL b (l.take (k+1))=ofL b (l.take k)+b^k*l.getD k 0:=by
 cases h:l[k]? with
 | none=>have A:=List.getElem?_eq_none_iff.1 h;rw[List.take_of_length_le (by omega),List.take_of_length_le (by omega)];simp[List.getD,h]
 | some x=>rw[kM b h];simp[List.getD,h]
def Lim.getD{b:Nat}(E:0<b){l:List Nat}(h:Lim b l)(k:Nat):l.getD k 0<b:=by
 cases A:l[k]? with
 | none=>simpa[List.getD,A]using E
 | some x=>simpa[List.getD,A]using h x (List.mem_of_getElem? A)
def Lim.snoc{b:Nat}{l:List Nat}(h:Lim b l){x:Nat}(E:x<b):Lim b (l++[x]):=fun y A=>by
 rcases List.mem_append.1 A with A|A
 ·exact h y A
 ·rw[List.mem_singleton.1 A];exact E
def Lim.set{b:Nat}{l:List Nat}(h:Lim b l){x k:Nat}(E:x<b):Lim b (l.set k x):=fun y A=>by
 rcases List.mem_or_eq_of_mem_set A with A|rfl
 ·exact h y A
 ·exact E
def Lim.take{b:Nat}{l:List Nat}(h:Lim b l)(k:Nat):Lim b (l.take k):=fun y A=>h y (List.mem_of_mem_take A)
def Lim.drop{b:Nat}{l:List Nat}(h:Lim b l)(k:Nat):Lim b (l.drop k):=fun y A=>h y (List.mem_of_mem_drop A)
def Lim.zeros{b:Nat}(E:0<b)(n:Nat):Lim b (List.replicate n 0):=fun y A=>by rw[(List.mem_replicate.1 A).2];exact E
def yO(b:Nat){l:List Nat}{k x:Nat}(h:l[k]?=some x):ofL b (l.drop k)=x+b*ofL b (l.drop (k+1)):=by obtain⟨E,A⟩:=List.getElem?_eq_some_iff.1 h;rw[List.drop_eq_getElem_cons E,A,ofL]
def O5{b:Nat}(F:0<b){l o:List Nat}{i n k c:Nat}(E:l[i]?=some n)(A:o.length=i)(h:ofL b o+b^i*c=ofL b (l.take i)*k):
  ofL b (o++[(n*k+c)%b])+b^(i+1)*((n*k+c)/b)=ofL b (l.take (i+1))*k:=by
 rw[vC,kM b E,A,Nat.pow_succ];have e:=Nat.mod_add_div (n*k+c) b;have I:b^i*((n*k+c)%b+b*((n*k+c)/b))=b^i*(n*k+c):=by rw[e]
 grind
def Zu{b:Nat}(E:0<b){x y o:List Nat}{i c:Nat}(A:o.length=i)(h:ofL b o+b^i*c=ofL b (x.take i)+ofL b (y.take i)):
  ofL b (o++[(x.getD i 0+y.getD i 0+c)%b])+b^(i+1)*((x.getD i 0+y.getD i 0+c)/b)=ofL b (x.take (i+1))+ofL b (y.take (i+1)):=by
 rw[vC,Ag,Ag,A,Nat.pow_succ];have e:=Nat.mod_add_div (x.getD i 0+y.getD i 0+c) b;have F:b^i*((x.getD i 0+y.getD i 0+c)%b+b*((x.getD i 0+y.getD i 0+c)/b))=b^i*(x.getD i 0+y.getD i 0+c):=by rw[e]
 grind
def Qx{b:Nat}{x y o:List Nat}{i c c' d:Nat}(E:o.length=i)(h:ofL b o+ofL b (y.take i)=ofL b (x.take i)+b^i*c)(A:d+y.getD i 0+c=x.getD i 0+b*c'):
  ofL b (o++[d])+ofL b (y.take (i+1))=ofL b (x.take (i+1))+b^(i+1)*c':=by
 rw[vC,Ag,Ag,E,Nat.pow_succ];have F:b^i*(d+y.getD i 0+c)=b^i*(x.getD i 0+b*c'):=by rw[A]
 grind
def Mt{b x y c:Nat}(A:x<b)(E:y<b)(F:c<=1):(if(x:Int)-y-c<0 then(x:Int)-y-c+b else(x:Int)-y-c)=((if x<y+c then x+b-(y+c)else x-(y+c):Nat):Int):=by split <;> split <;> omega
def Kz{b x y c:Nat}(A:x<b)(E:y<b)(F:c<=1):(if x<y+c then x+b-(y+c)else x-(y+c))+y+c=x+b*(if x<y+c then 1 else 0)/\(if x<y+c then x+b-(y+c)else x-(y+c))<b:=by split <;> constructor <;> omega
def U4{b:Nat}(T:2<=b){x y o:List Nat}{c:Nat}(I:Lim b o)(M:Lim b x)(F:o.length=x.length)(E:y.length<=x.length)(J:ofL b y<=ofL b x)(O:c<=1)(h:ofL b o+ofL b (y.take x.length)=ofL b (x.take x.length)+b^x.length*c):
  c=0/\ofL b o=ofL b x-ofL b y:=by
 rw[List.take_of_length_le E,List.take_length]at h;have h1:=oQ (by omega) I;rw[F]at h1;rcases Nat.eq_zero_or_pos c with A|A
 ·subst A;rw[Nat.mul_zero]at h;omega
 ·have:c=1:=by omega
  subst this;rw[Nat.mul_one]at h;omega
def Xg{b:Nat}(M:0<b){y out E:List Nat}{i k x c v A:Nat}(I:out[i+k]?=some v)(F:y[k]?=some A)(h:ofL b out+b^(i+k)*c=ofL b E+b^i*(x*ofL b (y.take k))):
  ofL b (out.set (i+k) ((v+x*A+c)%b))+b^(i+(k+1))*((v+x*A+c)/b)=ofL b E+b^i*(x*ofL b (y.take (k+1))):=by
 have h1:=JU b out (i+k) v ((v+x*A+c)%b) I;have e:=Nat.mod_add_div (v+x*A+c) b;have O:b^(i+k)*((v+x*A+c)%b+b*((v+x*A+c)/b))=b^(i+k)*(v+x*A+c):=by rw[e]
 rw[kM b F,show i+(k+1)=(i+k)+1 by omega,Nat.pow_succ];have J:b^(i+k)=b^i*b^k:=Nat.pow_add b i k
 grind
def adA{b:Nat}{y out A:List Nat}{i x c:Nat}(E:out[i+y.length]?=some 0)(h:ofL b out+b^(i+y.length)*c=ofL b A+b^i*(x*ofL b (y.take y.length))):
  ofL b (out.set (i+y.length) c)=ofL b A+b^i*(x*ofL b y):=by
 have h1:=JU b out (i+y.length) 0 c E;rw[List.take_length]at h;rw[<-h];omega
def XM{b r a:Nat}(T:2<=b){l:List Nat}{i x:Nat}{A:List Nat}(I:l[i]?=some x)(J:x<b)(F:r<a)(O:i<A.length)(h:ofL b (l.drop (i+1))=ofL b (A.drop (i+1))*a+r):
  ofL b (l.drop i)=ofL b ((A.set i ((x+b*r)/a)).drop i)*a+(x+b*r)%a/\(x+b*r)/a<b/\(x+b*r)%a<a:=by
 have E:0<a:=by omega
 have M:(A.set i ((x+b*r)/a))[i]?=some ((x+b*r)/a):=by simp[O]
 refine⟨?_,?_,Nat.mod_lt _ E⟩
 ·rw[yO b I,yO b M,h,List.drop_set_of_lt (by omega)];have e:=Nat.mod_add_div (x+b*r) a
  grind
 ·rw[Nat.div_lt_iff_lt_mul E];have:b*(r+1)<=b*a:=Nat.mul_le_mul_left _ F;rw[Nat.mul_add]at this;omega
def aaK{q r a n:Nat}(A:r<a)(h:n=q*a+r):q=n/a/\r=n%a:=by
 subst h;have E:0<a:=by omega
 constructor
 ·rw[Nat.add_comm,Nat.add_mul_div_right _ _ E,Nat.div_eq_of_lt A,Nat.zero_add]
 ·rw[Nat.add_comm,Nat.add_mul_mod_self_right,Nat.mod_eq_of_lt A]
def Za(l:List UInt8):∀a:Nat,l.foldl (fun a c=>10*a+(c.toNat-48)) a=a*10^l.length+gR l:=by
 induction l with
 | nil=>intro a;simp[gR]
 | cons c l ih=>
  intro a;have h1:=ih (10*a+(c.toNat-48));have A:=ih (10*0+(c.toNat-48));simp only[List.foldl_cons,gR]at h1 A |-;rw[h1,A,List.length_cons,Nat.pow_succ]
  grind
def yE(a b:List UInt8):gR (a++b)=gR a*10^b.length+gR b:=by rw[gR,List.foldl_append];exact Za b _
def Fe{l:List UInt8}(h:l.all isD=true):gR l<10^l.length:=by
 induction l using Lf with
 | h0=>simp[gR]
 | h1 l c ih=>rw[List.all_append]at h;simp only[Bool.and_eq_true,List.all_cons,List.all_nil,Bool.and_true]at h;have:=ih h.1;have A:=qP.1 h.2;rw[vQ,List.length_append,List.length_cons,List.length_nil,Nat.pow_succ];omega
def Ng:Nat->Nat->List UInt8
 | 0,_=>[]
 | k+1,x=>Ng k (x/10)++[UInt8.ofNat (48+x%10)]
def Jm:∀(k x m:Nat),x<10^k->m≠0->decDigits (x+10^k*m)=decDigits m++Ng k x
 | 0,x,m,hx,hm=>by
  have:x=0:=by simpa using hx
  subst this;simp[Ng]
 | k+1,x,m,hx,hm=>by
  rw[Nat.pow_succ]at hx;have h1:10^(k+1)*m=10*(10^k*m):=by rw[Nat.pow_succ,Nat.mul_comm (10^k) 10,Nat.mul_assoc]
  have A:0<10^k*m:=Nat.mul_pos (Nat.pow_pos (by omega)) (by omega);rw[h1,decDigits,dif_neg (by omega),show(x+10*(10^k*m))/10=x/10+10^k*m by omega,show(x+10*(10^k*m))%10=x%10 by omega,Jm k (x/10) m (by omega) hm,Ng,List.append_assoc]
def VL(k:Nat):Ng k 0=List.replicate k 48:=by
 induction k with
 | zero=>rfl
 | succ k ih=>rw[Ng,Nat.zero_div,ih,List.replicate_succ'];rfl
def TU:∀(k x:Nat),1<=k->x<10^k->Ng k x=List.replicate (k-(decDigits x).length) 48++decDigits x
 | 0,x,hk,hx=>by omega
 | k+1,x,hk,hx=>by
  rw[Ng];by_cases E:x<10
  ·rw[show x/10=0 by omega,VL,decDigits_one E];simp[Nat.mod_eq_of_lt E]
  ·have A : 1 <= k := by
    rcases Nat.eq_zero_or_pos k with h|h
    ·subst h;simp at hx;omega
    ·exact h
   rw[Nat.pow_succ]at hx;rw[TU k (x/10) A (by omega)]
   conv=>rhs;rw[decDigits,dif_neg E]
   rw[List.length_append,List.length_cons,List.length_nil,List.append_assoc,show k+1-((decDigits (x/10)).length+(0+1))=k-(decDigits (x/10)).length by omega]
def aiR(x:Nat):List UInt8:=List.replicate (9-(decDigits x).length) 48++decDigits x
def YG{x m:Nat}(A:x<1000000000)(E:m≠0):decDigits (x+1000000000*m)=decDigits m++aiR x:=by have:=Jm 9 x m A E;rw[TU 9 x (by omega) A]at this;exact this
def ZH{b:Nat}(A:2<=b){n k:Nat}(E:k<(bQ b n).length):ofL b ((bQ b n).drop k)≠0:=by
 intro h;have J:n≠0:=fun e=>by subst e;rw[fF]at E;simp at E
 have h1:=QF A J;have F:ofL b (bQ b n)=ofL b ((bQ b n).take k)+b^k*ofL b ((bQ b n).drop k):=by have:=oM b ((bQ b n).take k) ((bQ b n).drop k);rw[List.take_append_drop,List.length_take,Nat.min_eq_left (by omega)]at this;exact this
 rw[eG A,h,Nat.mul_zero,Nat.add_zero]at F;have I:=oQ (b:=b) (by omega) ((dT A n).take k);rw[List.length_take,Nat.min_eq_left (by omega),<-F]at I;have:b^k<=b^((bQ b n).length-1):=Nat.pow_le_pow_right (by omega) (by omega);omega
def dl(l:List UInt8):List Nat:=(l.map fun c=>c.toNat-48).reverse
end Go.Nu
end
section
namespace Go.Aw
open Go.RowKit
section
variable{P:Program}{S:Sg}{w:World}{H:aH}{f:FuncId}{args args':List AV}{K:AV->aH->Prop}
def St.frz(I:St S w H)(l:List Nat):St (S.froze fun k=>if k∈l then H k else none) w (fun k=>if k∈l then none else H k)/\Grow S w (S.froze fun k=>if k∈l then H k else none) w/\St S w fun k=>if k∈l then H k else none:=by
 let Hf:aH:=fun k=>if k∈l then H k else none
 let Hr:aH:=fun k=>if k∈l then none else H k
 have J:∀k r',Hf k=some r'->k∈l/\H k=some r':=fun k r' A=>by
  by_cases e:k∈l
  ·exact⟨e,by simpa[Hf,e]using A⟩
  ·simp[Hf,e]at A
 have F:∀k r',Hr k=some r'->¬k∈l/\H k=some r':=fun k r' A=>by
  by_cases e:k∈l
  ·simp[Hr,e]at A
  ·exact⟨e,by simpa[Hr,e]using A⟩
 refine⟨⟨?_,?_,fun k r' A=>(I.rows k r' (F k r' A).2).keep (S.le_froze Hf) (fN.refl S w) (fun _ _=>rfl),?_,fun k k' X r2 A M T g E O=>I.disj k k' X r2 (F k X A).2 (F k' r2 M).2 T g E O,I.tabs.keep (S.le_froze Hf) (fN.refl S w)⟩,⟨S.le_froze Hf,fun k A=>.inl A,rfl,rfl,rfl,Nat.le_refl _,fun _ _=>rfl,?_⟩,I.drop fun k r' A=>(J k r' A).2⟩
 ·rintro g (E|E)
  ·exact .inl (I.ro_fz g E)
  ·exact .inr E
 ·rintro g (E|⟨k,r',A,E⟩)
  ·exact I.fz_lt g E
  ·exact(I.rows k r' (J k r' A).2).block_lt E
 ·rintro k r' A g E (h1|⟨i,r2,U,Y⟩)
  ·exact I.free k r' (F k r' A).2 g E h1
  ·exact I.disj k i r' r2 (F k r' A).2 (J i r2 U).2 (fun e=>(F k r' A).1 (e▸(J i r2 U).1)) g E Y
 ·rintro g (E|⟨k,r',A,E⟩)
  ·exact .inl E
  ·exact .inr (I.free k r' (J k r' A).2 g E)
def bF.frz(l:List Nat)(O:ConvL (fun k=>if k∈l then H k else none) args args')(h:bF P f args' (fun k=>if k∈l then none else H k) K):bF P f args H K:=by
 intro S w vals M J;obtain⟨h1,Z,X⟩:=M.frz l;refine(h _ w vals h1 (O.rep X J)).mono fun e w' ⟨v,r,H',S',I,E,A,U,F,Y⟩=>⟨v,r,H',S',I,E,A,U,Z.trans F,fun k T h0=>Y k T ?_⟩
 by_cases e:k∈l
 ·simp[e]
 ·simpa[e]using h0
def PC.useF{r:AV}(l:List Nat)(A:ConvL (fun k=>if k∈l then H k else none) args args')(h:PC P f args' r)(E:K r (fun k=>if k∈l then none else H k)):bF P f args H K:=bF.frz l A (PC.use h E)
def PC.lib{a:List Value}{r:AV}{v:Value}(J:∀S w,rep S w r v)(h:∀w,(∀t∈VV,rS w t.1=some t.2)->Calls P f a.toArray w fun e w'=>e=.returned v/\Below w.heap.size w w'):PC P f (a.map .v) r:=by
 intro S w vals F U E;obtain rfl:vals=a:=by
  clear h;induction a generalizing vals with
  | nil=>
   cases vals with
   | nil=>rfl
   | cons x r=>simp[bC]at E
  | cons x a ih=>simp only[List.map_cons,bC]at E;obtain⟨u,t,rfl,h1,T⟩:=E;simp only[rep]at h1;subst h1;rw[ih t T]
 refine(h w fun t M=>(F.tabs t M).2).mono fun e w' ⟨O,A⟩=>?_
 exact⟨v,r,bS,S,O,rfl,F.after A.size fun k I=>A.block k I,J S w',F.grow A.os A.tape A.output A.size fun k I=>A.block k I,eV.refl _ _⟩
end
end Go.Aw
end
section
namespace Go.Proofs.YtgncgpcpbadfnaaGreatDoor.Nu
open Go.Proofs.Tryz
open Go.Aw Go.Aw.D Go.Proofs Ty Go.Nu
abbrev bas:Nat:=1000000000
def kE(n:Nat):List AV:=[int n]
def Nq(n:Nat):(kE n).length=1:=(rfl)
def afP(n:Nat):(kE n).getD 0 .any=int n:=(rfl)
attribute [go_sem] Nq afP
def cI{H:aH}{k:IntKind}{a b:Int}(h:a=b):Conv H (.v (.int k a)) (.v (.int k b)):=h▸.refl _
def cB{H:aH}{a b:Bool}(h:a=b):Conv H (.v (.bool a)) (.v (.bool b)):=h▸.refl _
def cS{H:aH}{a b:ByteArray}(h:a=b):Conv H (.v (.string a)) (.v (.string b)):=h▸.refl _
def ltB{k n:Nat}(h:decide ((k:Int)<(n:Int))=true):k<n:=by simpa using h
def geB{k n:Nat}(A:k<=n)(h:decide ((k:Int)<(n:Int))=false):k=n:=by
 have:¬k<n:=by simpa using h
 omega
def ajS(s:ByteArray):s.toList=bl s:=ByteArray.toList_eq s
def allN(l:List Nat):cH 1 (l.map kE):=Bt Nq l
def ajV(s:ByteArray)(k:Nat):s.data.getD k 0=(bl s).getD k 0:=by simp[bl,Array.getD_eq_getD_getElem?,List.getD]
def afX(a:Array UInt8):bl ⟨a⟩=a.toList:=rfl
attribute [go_sem] ajS ajV afX
def agC{α:Type}{q:α->Bool}{l:List α}{k:Nat}{c:α}(h:l[k]?=some c)(E:q c=false):l.all q=false:=by
 cases A:l.all q with
 | false=>rfl
 | true=>have:=Xaj.1 A c (Xac h);rw[E]at this;cases this
def abZ{α:Type}{q:α->Bool}{l:List α}(h:∀c∈l,q c=true):l.all q=true:=Xaj.2 h
def fG{α:Type}{p:α->Prop}{l:List α}{k:Nat}{x:α}(F:l[k]?=some x)(E:p x)(h:∀x∈l.take k,p x):∀x∈l.take (k+1),p x:=by
 rw[bE F];intro y A;rcases Xat.1 A with A|A
 ·exact h y A
 ·rw[Xbg.1 A];exact E
def akD{c:UInt8}{n:Nat}(A:n<256):(((c.toNat:Int) == (n:Int))=true)↔c=UInt8.ofNat n:=by
 rw[Xba];constructor
 ·intro h;have:c.toNat=n:=by omega
  rw[<-this,UInt8.ofNat_toNat]
 ·intro h;rw[h,UInt8.toNat_ofNat'];omega
def Qq(l:List UInt8):(l == []||(((l.getD 0 0).toNat:Int) == 48&& !(l == [48])))= !(l != []&&(l.length == 1||l.getD 0 0 != 48)):=by
 cases l with
 | nil=>rfl
 | cons c r=>
  have A:(((c.toNat:Int) == 48)=true)↔c=48:=akD (n:=48) (by omega);by_cases h:c=48
  ·subst h;cases r <;> rfl
  ·have h1 : ((c.toNat : Int) == 48) = false := by rw[<-Bool.not_eq_true,A];exact h
   simp[h1,h]
def abW(c:UInt8):(decide ((c.toNat:Int)<48)||decide ((c.toNat:Int)>57))= !isD c:=by unfold isD;rw[Xap];simp only[Xbm,decide_eq_true_eq,Xbk,Bool.and_eq_false_iff,decide_eq_false_iff_not];omega
def u8w{n:Nat}(h:48<=n)(A:n<256):IntKind.u8.wrap ((n:Int)-48)=((n-48:Nat):Int):=by have e:IntKind.u8.wrap ((n:Int)-48)=((n:Int)-48)%256:=rfl;rw[e];omega
def S9{l:List UInt8}{k:Nat}{c:UInt8}(h:l[k]?=some c):l.getD k 0=c:=by simp[List.getD,h]
def CF(s:ByteArray)(h:s.size<=4611686018427387904):PC prog 152 [str s] (boo (fV s)):=by
 have X:=fL s;refine pcd func152 rfl rfl ?_;simp only[go_sem];refine⟨fun h0=>⟨by omega,?_⟩,?_⟩
 ·have:bl s≠[]:=by simpa using h0
  have:=List.length_pos_iff.2 this;omega
 rw[Qq];refine aA (fun M=>?_) (fun M=>?_)
 ·simp only[go_sem];refine cB ?_;unfold fV fE;rw[Xbk]at M;rw[M];rfl
 rw[Xbn]at M;simp only[go_sem];refine⟨fun ρ _=>∃k:Nat,k<=(bl s).length/\ρ 0=str s/\ρ 16=int s.size/\ρ 17=int k/\∀c∈(bl s).take k,isD c=true,fun ρ _=>(bl s).length-aT (ρ 17),⟨0,Xab _,rfl,rfl,rfl,by simp⟩,?_⟩;rintro ρ H ⟨k,Y,h0,J,F,O⟩;simp only[go_sem,h0,J,F];refine aA (fun E=>?_) (fun A=>?_)
 ·have E:k<(bl s).length:=by have:=ltB E;omega
  obtain⟨c,T⟩:=aM E;have U:=S9 T;simp only[go_sem,h0,J,F,U,abW];refine⟨⟨by omega,by omega⟩,fun _=>⟨by omega,by omega⟩,aA (fun I=>?_) (fun I=>?_)⟩
  ·simp only[go_sem];refine cB ?_;unfold fV fE;rw[agC T (by simpa using I),Bool.and_false]
  ·simp only[go_sem,h0,J,F,aV k];exact⟨⟨k+1,E,rfl,fG T (by simpa using I) O⟩,by simp only[aF];omega⟩
 ·have A:k=(bl s).length:=by rw[<-X]at A;exact geB Y A
  subst A;rw[Xae]at O;simp only[go_sem];refine cB ?_;unfold fV fE;rw[M,abZ O];rfl
def Dx:∀(l:List Nat) (x:Nat),oH (l++[x])=if x=0 then oH l else l++[x]
 | [],x=>by simp only[Xbl,oH]
 | y::l,x=>by
  rw[List.cons_append,oH,Dx l x];by_cases h:x=0
  ·rw[if_pos h,if_pos h,oH]
  ·rw[if_neg h,if_neg h];cases l <;> rfl
def ahB(l:List Nat)(h:l.length<=4611686018427387904):PC prog 224 [.sl (l.map kE)] (.sl ((oH l).map kE)):=by
 refine pcd func224 rfl rfl ?_;simp only[go_sem];refine⟨fun ρ _=>∃k:Nat,k<=l.length/\ρ 0=.sl ((l.take k).map kE)/\oH (l.take k)=oH l,fun ρ _=>match ρ 0 with| .sl es=>es.length|_=>0,⟨l.length,Xag _,by rw[Xae];rfl,by rw[Xae]⟩,?_⟩;rintro ρ H ⟨k,X,h0,F⟩;have E:(l.take k).length=k:=by rw[Xal];omega
 cases k with
 | zero=>
  simp only[go_sem,h0,E,show decide (((0:Nat):Int)>0)=false from rfl];refine aA (fun I=>by cases I) (fun _=>?_);simp only[go_sem,h0];have M:oH l=[]:=by rw[<-F];rfl
  rw[M];exact .refl _
 | succ k=>
 have T:IntKind.i64.wrap (((k+1:Nat):Int)-1)=(k:Int):=by rw[bG (by omega)];omega
 obtain⟨x,U⟩:=aM (show k<l.length by omega);have O:(l.take (k+1))[k]?=some x:=by rw[List.getElem?_take,if_pos (by omega)];exact U
 have J:l.take (k+1)=l.take k++[x]:=bE U;simp only[go_sem,h0,E,T,aC O,show decide (((k+1:Nat):Int)>0)=true from decide_eq_true (by omega)];refine⟨⟨by omega,by omega⟩,aA (fun I=>?_) (fun I=>?_)⟩
 ·have A:x=0:=by simpa using I
  simp only[go_sem,h0,E,T];refine⟨by omega,⟨⟨k,by omega,?_,?_⟩,?_⟩⟩
  ·rw[<-List.map_take,List.take_take,Nat.min_eq_left (by omega)]
  ·rw[J,Dx,if_pos A]at F;exact F
  ·rw[<-List.map_take,Xaa,Xal];omega
 ·have A:x≠0:=by simpa using I
  simp only[go_sem,h0];rw[J,Dx,if_neg A]at F;rw[J,F];exact .refl _
abbrev nl(n:Nat):AV:=.sl ((bQ bas n).map kE)
def KI:nl 0=.sl []:=by simp only[nl,fF];rfl
def JR{l:List Nat}(E:Lim bas l)(h:l.length<=4611686018427387904){n:Nat}(A:ofL bas l=n):PC prog 224 [.sl (l.map kE)] (nl n):=by
 have:=ahB l h
 rwa [SG (by decide) E A]at this
def cU(l:List Nat):Row:=⟨3,1,l.map kE⟩
def yJ{H:aH}{k:Nat}{l:List Nat}{x:Nat}:aI H k (some ⟨3,1,l.map kE++[[int (x:Int)]]⟩) k=some (cU (l++[x])):=by rw[aB];simp only[cU,Xan,Xaw,List.map_nil];rfl
def Xx(s:ByteArray)(Z:(bl s).all isD=true)(h:s.size<=4096):PC prog 223 [str s] (nl (fH s)):=by
 have hs:=fL s;refine pcb (fun t=>t == 3) func223 rfl rfl ?_;simp only[go_sem];refine aJ fun j hj=>?_
 simp only[go_sem];refine⟨fun ρ H=>∃(m j:Nat) (o:List Nat),m<=(bl s).length/\ρ 0=str (s.extract 0 m)/\ρ 3=.os j/\H j=some (cU o)/\Lim bas o/\o.length<=(bl s).length-m/\ofL bas o+bas^o.length*gR ((bl s).take m)=fH s,fun ρ _=>match ρ 0 with| .v (.string t)=>t.size|_=>0,⟨(bl s).length,j,[],Xag _,?_,by simp only[go_sem],aB _ _ _,by simp[Lim],by simp,?_⟩,?_⟩
 ·rw[show s.extract 0 (bl s).length=s from mU (by rw[iS,Xae,Xbo])];rfl
 ·rw[Xae];simp[ofL,fH]
 clear hj j;rintro ρ H ⟨m,j,o,hm,h0,E,M,ho,ae,hv⟩;have A:(s.extract 0 m).size=m:=by rw[<-fL,iS,Xbo,Xal];omega
 simp only[go_sem,h0,E,A];refine aA (fun hb=>?_) (fun hb=>?_)
 ·have O:0<m:=by simpa using hb
  have e9:lC 0 (IntKind.i64.wrap ((m:Int)-9))=((m-9:Nat):Int):=by rw[bG (by omega)];unfold lC;split <;> omega
  simp only[go_sem,h0,E,A];refine⟨fun ρ H=>∃i:Nat,m-9<=i/\i<=m/\ρ 0=str (s.extract 0 m)/\ρ 3=.os j/\ρ 4=int (m-9:Nat)/\ρ 5=int (gR (((bl s).take i).drop (m-9)):Nat)/\ρ 6=int i/\H j=some (cU o),fun ρ _=>m-aT (ρ 6),
   ⟨m-9,Xag _,by omega,by simp only[go_sem,h0],by simp only[go_sem,E],?_,?_,?_,M⟩,?_⟩
  ·simp only[go_sem,e9]
  ·simp only[go_sem];rw[List.drop_eq_nil_of_le (by rw[Xal];omega)];rfl
  ·simp only[go_sem,e9]
  clear h0 E M;rintro ρ H ⟨i,af,ac,h0,E,U,Y,X,M⟩;simp only[go_sem,h0,E,U,Y,X,A];refine aA (fun J=>?_) (fun F=>?_)
  ·have J:i<m:=ltB J;obtain⟨c,I⟩:=aM (show i<(bl s).length by omega);have hx:(bl (s.extract 0 m)).getD i 0=c:=by rw[iS,Xbo];exact S9 (by rw[List.getElem?_take,if_pos J];exact I)
   have hd:=qP.1 (Xaj.1 Z c (Xac I));have aa:=Fe (l:=((bl s).take i).drop (m-9)) (Xaj.2 fun c I=>Xaj.1 Z c (List.mem_of_mem_take (List.mem_of_mem_drop I)));have ab:10^(((bl s).take i).drop (m-9)).length<=10^9:=Xau (by omega) (by rw[List.length_drop,Xal];omega);have e1:((bl s).take (i+1)).drop (m-9)=((bl s).take i).drop (m-9)++[c]:=by rw[bE I,List.drop_append_of_le_length (by rw[Xal];omega)]
   have e2:IntKind.i64.wrap (IntKind.i64.wrap (10*((gR (((bl s).take i).drop (m-9)):Nat):Int))+IntKind.i64.wrap (IntKind.u8.wrap ((c.toNat:Int)-48)))=((gR (((bl s).take (i+1)).drop (m-9)):Nat):Int):=by rw[e1,vQ,u8w hd.1 (by omega)];generalize gR (((bl s).take i).drop (m-9))=V at *;rw[show IntKind.i64.wrap (10*(V:Int))=10*(V:Int)from bG (by omega),show IntKind.i64.wrap (((c.toNat-48:Nat):Int))=((c.toNat-48:Nat):Int)from bG (by omega),bG (by omega)];omega
   simp only[go_sem,h0,E,U,Y,X,A,hx,e2,aV i];exact⟨⟨by omega,by omega⟩,⟨i+1,by omega,by omega,rfl,rfl,M⟩,by simp only[aF];omega⟩
  ·have F:i=m:=geB ac F;subst F;simp only[go_sem,h0,E,U,Y,X,A];have hL:(((bl s).take i).drop (i-9)).length=i-(i-9):=by rw[List.length_drop,Xal];omega
   have hA:(((bl s).take i).drop (i-9)).all isD=true:=Xaj.2 fun c I=>Xaj.1 Z c (List.mem_of_mem_take (List.mem_of_mem_drop I))
   have aa:=Fe hA;have ab:10^(((bl s).take i).drop (i-9)).length<=10^9:=Xau (by omega) (by omega);have T:gR ((bl s).take i)=gR ((bl s).take (i-9))*10^(((bl s).take i).drop (i-9)).length+gR (((bl s).take i).drop (i-9)):=by
    rw[<-yE]
    congr 1
    conv=>lhs;rw[<-List.take_append_drop (i-9) ((bl s).take i)]
    rw[List.take_take,Nat.min_eq_left (by omega)]
   generalize gR (((bl s).take i).drop (i-9))=x at *;refine aX M ⟨rfl,rfl⟩ ⟨rfl,trivial⟩ (by simp only[cU,Xaa,Xad,List.length_nil];omega) (fun j' ag=>?_);simp only[go_sem,h0,E,U,Y,X,A];refine⟨⟨by omega,by omega⟩,⟨⟨i-9,j',o++[x],by omega,?_,rfl,yJ,ho.snoc (show x<1000000000 by omega),?_,?_⟩,?_⟩⟩
   ·congr 2
    refine mU ?_;rw[iS,iS,iS];simp only[Xbo,List.take_take];rw[Nat.min_eq_left (by omega)]
   ·rw[Xaf,Xad,List.length_nil];omega
   ·rw[<-hv,T,vC,Xaf,Xad,List.length_nil,Nat.pow_succ];by_cases h9:9<=i
    ·rw[hL,show i-(i-9)=9 by omega]
     grind
    ·rw[show i-9=0 by omega];simp only[List.take_zero,gR,List.foldl_nil]
     grind
   ·rw[<-fL,iS,iS];simp only[Xbo,Xal];omega
 ·have O:m=0:=by simpa using hb
  subst O;simp only[go_sem,h0,E];refine PC.useF [j] (.cons _ _ _ _ (.row _ _ _ (by simp[M];rfl) (ConvE.refl _)) .nil) (JR ho (by omega) (n:=fH s) (by rw[<-hv];simp[gR])) ?_;simp only[go_sem];exact .refl _
def neN{a b:Nat}(h:((a:Int) != (b:Int))=true):a≠b:=by rw[bne_iff_ne]at h;omega
def eqN{a b:Nat}(h:((a:Int) != (b:Int))=false):a=b:=by rw[bne_eq_false_iff_eq]at h;omega
def adQ{a b:Int}(h:a<=b):jM a b<=0:=by
 unfold jM;split
 ·omega
 ·rw[if_neg (by omega)];omega
def Td(n:Int):PC prog 252 [int n] (boo false):=by refine pcd func252 rfl rfl ?_;simp only[go_sem];exact cB (by simp)
def C5(a b:Int):PC prog 233 [int a,int b] (int (jM a b)):=by
 refine pcd func233 rfl rfl ?_;simp only[go_sem];refine aP (Td a) ?_;simp only[go_sem];refine aP (Td b) ?_;simp only[go_sem];refine aA (fun h=>by cases h) (fun _=>?_);simp only[go_sem];refine aA (fun h=>by cases h) (fun _=>?_);simp only[go_sem];refine aA (fun h=>?_) (fun h=>?_)
 ·simp only[go_sem];exact cI (by rw[kD (by simpa using h)])
 ·simp only[go_sem];refine aA (fun A=>?_) (fun A=>?_)
  ·simp only[go_sem];exact cI (by rw[jS (by simpa using A)])
  ·simp only[go_sem];exact cI (by rw[tK (by simp at h A;omega)])
def Qm(l:List Nat)(i:Nat)(F:i<=4611686018427387904):PC prog 203 [.sl (l.map kE),int i] (int (l.getD i 0:Nat)):=by
 refine pcd func203 rfl rfl ?_;simp only[go_sem];refine aA (fun h=>?_) (fun h=>?_)
 ·have h:=ltB h;obtain⟨x,A⟩:=aM h;have E:=inB h;simp only[go_sem,aC A,E];exact cI (by simp[List.getD,A])
 ·simp only[go_sem];have h:¬i<l.length:=by simpa using h
  exact cI (by simp[List.getD,List.getElem?_eq_none (by omega:l.length<=i)])
def abH{l r:List Nat}(O:Lim bas l)(F:Lim bas r)(A:l.length=r.length){k x y:Nat}(J:l[k]?=some x)(M:r[k]?=some y)(I:l.drop (k+1)=r.drop (k+1))(E:x≠y):jM (x:Int) y=jM (ofL bas l) (ofL bas r):=by
 rcases Nat.lt_or_gt_of_ne E with h|h
 ·have:=Jw (b:=bas) (by decide) O F A J M h I;rw[kD (by omega),kD (by omega)]
 ·have:=Jw (b:=bas) (by decide) F O A.symm M J h I.symm;rw[jS (by omega),jS (by omega)]
def CV(m n:Nat)(hm:(bQ bas m).length<=1048576)(hn:(bQ bas n).length<=1048576):PC prog 204 [nl m,nl n] (int (jM m n)):=by
 have om:=eG (b:=bas) (by decide) m;have on:=eG (b:=bas) (by decide) n;have lm:=dT (b:=bas) (by decide) m;have ln:=dT (b:=bas) (by decide) n;have O:(bQ bas m).length<(bQ bas n).length->m<n:=JD (by decide);have Y:(bQ bas n).length<(bQ bas m).length->n<m:=JD (by decide);simp only[nl];generalize bQ bas m=a at *;generalize bQ bas n=b at *;refine pcd func204 rfl rfl ?_;simp only[go_sem];refine aA (fun h=>?_) (fun h=>?_)
 ·simp only[go_sem];refine aP (C5 _ _) ?_;simp only[go_sem];refine cI ?_;have h:a.length≠b.length:=neN h;rcases Nat.lt_or_gt_of_ne h with h|h
  ·have:=O h;rw[kD (by omega),kD (by omega)]
  ·have:=Y h;rw[jS (by omega),jS (by omega)]
 have I:a.length=b.length:=eqN h;simp only[go_sem];refine⟨fun ρ _=>∃k:Nat,k<=a.length/\ρ 0=.sl (a.map kE)/\ρ 1=.sl (b.map kE)/\ρ 5=int ((k:Int)-1)/\a.drop k=b.drop k,fun ρ _=>match ρ 5 with| .v (.int _ z)=>(z+1).toNat|_=>0,⟨a.length,Xag _,by simp only[go_sem],by simp only[go_sem],by simp only[go_sem,nT (show a.length<=4611686018427387904 by omega)],by rw[List.drop_eq_nil_of_le (Xag _),List.drop_eq_nil_of_le (by omega)]⟩,?_⟩;rintro ρ H ⟨k,hk,h0,h1,A,U⟩;simp only[go_sem,h0,h1,A];refine aA (fun X=>?_) (fun X=>?_)
 ·have F:0<k:=by simp at X;omega
  obtain⟨k,rfl⟩:∃j,k=j+1:=⟨k-1,by omega⟩;rw[show((k+1:Nat):Int)-1=(k:Int)by omega]at A |-;obtain⟨x,J⟩:=aM (show k<a.length by omega);obtain⟨y,M⟩:=aM (show k<b.length by omega);have b1:=inB (show k<a.length by omega);have b2:=inB (show k<b.length by omega);simp only[go_sem,h0,h1,A];refine dF (by rfl) (by kernel_rfl) ?_;simp only[go_sem,h0,h1,A,aC J,aC M,b1,b2];refine aA (fun E=>?_) (fun E=>?_)
  ·simp only[go_sem,h0,h1,A];refine dF (by rfl) (by kernel_rfl) ?_;simp only[go_sem,h0,h1,A,aC J,aC M,b1,b2];refine⟨_,(C5 x y).q rfl,?_⟩;simp only[go_sem];exact cI (by rw[abH lm ln I J M U (neN E),om,on])
  ·have T:x=y:=eqN E;simp only[go_sem,h0,h1,A,nT (show k<=4611686018427387904 by omega)];refine⟨⟨k,by omega,rfl,?_⟩,by omega⟩;have e1:a.drop k=x::a.drop (k+1):=by rw[List.drop_eq_getElem_cons (by omega)];congr 1;exact(List.getElem?_eq_some_iff.1 J).2
   have e2:b.drop k=y::b.drop (k+1):=by rw[List.drop_eq_getElem_cons (by omega)];congr 1;exact(List.getElem?_eq_some_iff.1 M).2
   rw[e1,e2,U,T]
 ·have F:k=0:=by simp at X;omega
  subst F;simp only[go_sem];refine cI ?_;have Z:a=b:=by simpa using U
  rw[tK];rw[<-om,<-on,Z]
def tw(a b:ByteArray)(n:Nat):List (List AV):=if jV a b=0 then(bQ bas n).map kE else[]
def Hd{a b:ByteArray}{n:Nat}(h:jV a b=0):tw a b n=(bQ bas n).map kE:=if_pos h
def TH{a b:ByteArray}{n:Nat}(h:jV a b≠0):tw a b n=[]:=if_neg h
def Ge(a b:ByteArray)(M:a.size<=1048576)(J:b.size<=1048576):PC prog 193 [str a,str b] (.tup [.sl (tw a b (fH a)),.sl (tw a b (fH b)),int (jV a b)]):=by
 refine pcd func193 rfl rfl ?_;simp only[go_sem];refine aP (CF a (by omega)) ?_;simp only[go_sem];refine⟨_,fun _=>(CF b (by omega)).q rfl,?_⟩;simp only[go_sem];refine aA (fun h=>?_) (fun h=>?_)
 ·simp only[go_sem];have e:jV a b=3:=by unfold jV;rw[if_pos h]
  rw[TH (by rw[e];decide),TH (by rw[e];decide),e];exact .refl _
 have A:fV a=true/\fV b=true:=by simpa using h
 simp only[go_sem];refine aA (fun I=>?_) (fun I=>?_)
 ·simp only[go_sem];have F:(decide (a.size>4096)||decide (b.size>4096))=true:=by simp at I |-;omega
  have e:jV a b=4:=by unfold jV;rw[if_neg (by rw[h];simp),if_pos F]
  rw[TH (by rw[e];decide),TH (by rw[e];decide),e];exact .refl _
 have E:a.size<=4096/\b.size<=4096:=by simp at I;omega
 have e:jV a b=0:=Le A.1 A.2 E.1 E.2;have d:∀{s:ByteArray},fV s=true->(bl s).all isD=true:=fun h=>by unfold fV fE at h;simp only[Xam]at h;exact h.2
 simp only[go_sem];refine aP (Xx a (d A.1) E.1) ?_;simp only[go_sem];refine aP (Xx b (d A.2) E.2) ?_;simp only[go_sem];rw[Hd e,Hd e,e];exact .refl _
def Ki{H:aH}{j:Nat}:aI H j (some ⟨3,1,[]⟩) j=some (cU []):=aB _ _ _
def Uc(m k:Nat)(hm:(bQ bas m).length<=1048576)(hk:k<bas):PC prog 226 [nl m,int k] (nl (m*k)):=by
 have hk:k<1000000000:=hk;have om:=eG (b:=bas) (by decide) m;have lm:=dT (b:=bas) (by decide) m;simp only[nl];generalize bQ bas m=l at *;have ac:IntKind.i64.wrap ((l.length:Int)+1)=((l.length+1:Nat):Int):=mX (by omega);refine pcb (fun t=>t == 5) func226 rfl rfl ?_;simp only[go_sem];refine⟨by omega,aJ fun j hj=>?_⟩;simp only[go_sem];refine⟨fun ρ H=>∃(i j c:Nat) (o:List Nat),i<=l.length/\ρ 1=int k/\ρ 13=.sl (l.map kE)/\ρ 14=int l.length/\ρ 5=.os j/\ρ 6=int c/\ρ 15=int i/\H j=some (cU o)/\Lim bas o/\o.length=i/\c<1000000000/\ofL bas o+bas^i*c=ofL bas (l.take i)*k,fun ρ _=>l.length-aT (ρ 15),
  ⟨0,j,0,[],Xab _,by simp only[go_sem],by simp only[go_sem],by simp only[go_sem,Xaa],by simp only[go_sem],by simp only[go_sem];rfl,by simp only[go_sem];rfl,Ki,by simp[Lim],rfl,by omega,by simp[ofL]⟩,?_⟩
 clear hj j;rintro ρ H ⟨i,j,c,o,hi,h1,M,I,T,O,E,Rj,ho,J,hc,hv⟩;simp only[go_sem,h1,M,I,T,O,E];refine aA (fun A=>?_) (fun F=>?_)
 ·have A:=ltB A;obtain⟨n,X⟩:=aM A;have b1:=inB A;have ab:n<1000000000:=lm n (Xac X);have aa:n*k<=999999999*999999999:=Nat.mul_le_mul (by omega) (by omega);have e1:IntKind.i64.wrap (IntKind.i64.wrap ((n:Int)*(k:Int))+(c:Int))=((n*k+c:Nat):Int):=by rw[show(n:Int)*(k:Int)=((n*k:Nat):Int)from(Int.natCast_mul n k).symm];generalize n*k=p at *;rw[show IntKind.i64.wrap (p:Int)=(p:Int)from bG (by omega),bG (by omega)];omega
  have U:=O5 (b:=bas) (by decide) X J hv;simp only[go_sem,h1,M,I,T,O,E,aC X,b1,e1];have hq:(n*k+c)/1000000000<1000000000:=by omega
  have Z:IntKind.i64.wrap ((((n*k+c:Nat):Int)).tdiv 1000000000)=(((n*k+c)/1000000000:Nat):Int):=by generalize n*k+c=p at *;rw[Xbz (by omega),bG (by omega)];omega
  have e3:(((n*k+c:Nat):Int)).tmod 1000000000=(((n*k+c)%1000000000:Nat):Int):=by rw[Xcb (by omega)];omega
  simp only[Z,e3];refine⟨by decide,?_⟩;refine aX Rj ⟨rfl,rfl⟩ ⟨rfl,trivial⟩ (by simp only[cU,Xaa,Xad,List.length_nil];omega) (fun j' Y=>?_);simp only[go_sem,h1,M,I,T,O,E,Z,aV i];refine⟨by decide,⟨i+1,j',_,o++[(n*k+c)%bas],A,rfl,rfl,rfl,yJ,ho.snoc (Nat.mod_lt _ (by decide)),by simp[J],hq,U⟩,by simp only[aF];omega⟩
 ·have F:=geB hi F;subst F;simp only[go_sem,T,O];refine aX Rj ⟨rfl,rfl⟩ ⟨rfl,trivial⟩ (by simp only[cU,Xaa,Xad,List.length_nil];omega) (fun j' Y=>?_);simp only[go_sem];have hT:Lim bas (o++[c]):=ho.snoc hc;have hV:ofL bas (o++[c])=m*k:=by rw[vC,J,hv,Xae,om]
  refine PC.useF [j'] (.cons _ _ _ _ (.row _ _ _ (by simp only[Xbg,if_true];exact yJ) (ConvE.refl _)) .nil) (JR hT (by simp;omega) hV) ?_;simp only[go_sem];exact .refl _
def EW(m n:Nat)(hm:(bQ bas m).length<=1048576)(af:n<=m):PC prog 205 [nl m,nl n] (nl (m-n)):=by
 have om:=eG (b:=bas) (by decide) m;have on:=eG (b:=bas) (by decide) n;have lm:=dT (b:=bas) (by decide) m;have ln:=dT (b:=bas) (by decide) n;have ae:=eI (b:=bas) (by decide) af;simp only[nl];generalize bQ bas m=x at *;generalize bQ bas n=y at *;refine pcb (fun t=>t == 5) func205 rfl rfl ?_;simp only[go_sem];refine⟨by omega,aJ fun j hj=>?_⟩;simp only[go_sem];refine⟨fun ρ H=>∃(i j c:Nat) (o:List Nat),i<=x.length/\ρ 0=.sl (x.map kE)/\ρ 1=.sl (y.map kE)/\ρ 13=int x.length/\ρ 5=.os j/\ρ 6=int c/\ρ 14=int i/\H j=some (cU o)/\Lim bas o/\o.length=i/\c<=1/\ofL bas o+ofL bas (y.take i)=ofL bas (x.take i)+bas^i*c,fun ρ _=>x.length-aT (ρ 14),
  ⟨0,j,0,[],Xab _,by simp only[go_sem],by simp only[go_sem],by simp only[go_sem,Xaa],by simp only[go_sem],by simp only[go_sem];rfl,by simp only[go_sem];rfl,Ki,by simp[Lim],rfl,by omega,by simp[ofL]⟩,?_⟩
 clear hj j;rintro ρ H ⟨i,j,c,o,hi,h0,h1,E,I,M,A,X,ho,U,hc,hv⟩;simp only[go_sem,h0,h1,E,I,M,A];refine aA (fun J=>?_) (fun T=>?_)
 ·have J:=ltB J;obtain⟨a,ha⟩:=aM J;have ab:x.getD i 0=a:=by simp[List.getD,ha]
  have b1:=inB J;have aa:a<1000000000:=lm a (Xac ha);have Y:y.getD i 0<1000000000:=ln.getD (by decide) i;simp only[go_sem,h0,h1,E,I,M,A];refine dF (by rfl) (by kernel_rfl) ?_;simp only[go_sem,h0,h1,E,I,M,A,aC ha,b1];refine⟨_,(Qm y i (by omega)).q rfl,?_⟩;have ag:=Mt (b:=1000000000) aa Y hc;have Z:=Kz (b:=1000000000) aa Y hc;have ac:=Qx (b:=bas) (x:=x) (y:=y) (c':=if a<y.getD i 0+c then 1 else 0) (d:=if a<y.getD i 0+c then a+1000000000-(y.getD i 0+c)else a-(y.getD i 0+c)) U hv (by rw[ab];exact Z.1);generalize y.getD i 0=yi at *;have e1:IntKind.i64.wrap (IntKind.i64.wrap ((a:Int)-(yi:Int))-(c:Int))=(a:Int)-yi-c:=by rw[show IntKind.i64.wrap ((a:Int)-(yi:Int))=(a:Int)-yi from bG (by omega),bG (by omega)]
  simp only[go_sem,h0,h1,E,I,M,A,e1];refine bN (fun F H'=>F 0=.sl (x.map kE)/\F 1=.sl (y.map kE)/\F 13=int x.length/\F 5=.os j/\F 14=int i/\H' j=some (cU o)/\F 8=int (if a<yi+c then a+1000000000-(yi+c)else a-(yi+c):Nat)/\F 6=int (if a<yi+c then 1 else 0:Nat)) ?_ fun K hK=>aA (fun O=>?_) (fun O=>?_)
  rotate_left
  ·have O:a<yi+c:=by simp at O;omega
   have e2:IntKind.i64.wrap ((a:Int)-yi-c+1000000000)=((a+1000000000-(yi+c):Nat):Int):=by rw[bG (by omega)];omega
   simp only[go_sem,h0,h1,E,I,M,A,e2];exact hK _ _ ⟨by simp only[go_sem,h0],by simp only[go_sem,h1],by simp only[go_sem,E],by simp only[go_sem,I],by simp only[go_sem,A],X,by simp only[go_sem,if_pos O],by simp only[go_sem,if_pos O];rfl⟩
  ·have O:¬a<yi+c:=by simp at O;omega
   simp only[go_sem,h0,h1,E,I,M,A];refine hK _ _ ⟨by simp only[go_sem,h0],by simp only[go_sem,h1],by simp only[go_sem,E],by simp only[go_sem,I],by simp only[go_sem,A],X,?_,by simp only[go_sem,if_neg O];rfl⟩;simp only[go_sem,if_neg O]
   congr 2
   omega
  clear h0 h1 E I M A X;rintro ρ H ⟨h0,h1,E,I,A,X,h8,M⟩;simp only[go_sem,h0,h1,E,I,M,A,h8];refine aX X ⟨rfl,rfl⟩ ⟨rfl,trivial⟩ (by simp only[cU,Xaa,Xad,List.length_nil];omega) (fun j' ah=>?_);simp only[go_sem,h0,h1,E,I,M,A,aV i];exact⟨⟨i+1,j',_,_,J,rfl,rfl,rfl,yJ,ho.snoc Z.2,by simp[U],by split <;> omega,ac⟩,by simp only[aF];omega⟩
 ·have T:=geB hi T;subst T;simp only[go_sem,I];obtain⟨_,hV⟩:=U4 (b:=bas) (by decide) ho lm U ae (by omega) hc hv;refine PC.useF [j] (.cons _ _ _ _ (.row _ _ _ (by simp only[Xbg,if_true];exact X) (ConvE.refl _)) .nil) (JR ho (by omega) (hV.trans (by rw[om,on]))) ?_;simp only[go_sem];exact .refl _
def half{d r q:Nat}(h1:d*q<=r)(E:r<d*(q+1))(A:0<d):q=r/d:=by
 symm
 exact(Nat.div_eq_iff A).2 ⟨by rw[Nat.mul_comm];exact h1,by rw[Nat.mul_add,Nat.mul_one]at E;rw[Nat.mul_comm q d];omega⟩
def E0(r d:Nat)(Z:(bQ bas r).length<=1048576)(X:0<d)(ab:(bQ bas d).length<=1048575)(h:r<d*bas):PC prog 225 [nl r,nl d] (int (r/d:Nat)):=by
 refine pcd func225 rfl rfl ?_;simp only[go_sem];refine⟨fun ρ _=>∃a b:Nat,a<=b/\b<1000000000/\ρ 0=nl r/\ρ 1=nl d/\ρ 5=int a/\ρ 6=int b/\d*a<=r/\r<d*(b+1),fun ρ _=>aT (ρ 6)-aT (ρ 5),⟨0,999999999,by omega,by omega,by simp only[go_sem],by simp only[go_sem],by simp only[go_sem];rfl,by simp only[go_sem];rfl,by simp,h⟩,?_⟩;rintro ρ H ⟨a,b,U,hb,h0,h1,E,I,J,O⟩;simp only[go_sem,h0,h1,E,I];refine aA (fun M=>?_) (fun F=>?_)
 ·have M:=ltB M;have e1:IntKind.i64.wrap ((IntKind.i64.wrap (IntKind.i64.wrap ((a:Int)+(b:Int))+1)).tdiv 2)=(((a+b+1)/2:Nat):Int):=by rw[show IntKind.i64.wrap ((a:Int)+(b:Int))=((a+b:Nat):Int)by rw[bG (by omega)];omega,mX (by omega),Xbz (by omega),bG (by omega)];omega
  simp only[go_sem,h0,h1,E,I,e1];refine⟨by decide,?_⟩;have Y:(a+b+1)/2<bas:=show _<1000000000 by omega
  have ac:a<(a+b+1)/2:=by omega
  have aa:(a+b+1)/2<=b:=by omega
  generalize (a+b+1)/2=m at *;refine aP (Uc d m (by omega) Y) ?_;simp only[go_sem,h0,h1,E,I];have T:(bQ bas (d*m)).length<=1048576:=by
   have h1:=oQ (b:=bas) (by decide) (dT (b:=bas) (by decide) d);rw[eG (by decide)]at h1;have h2:d*m<bas^((bQ bas d).length+1):=by rw[Nat.pow_succ];exact Xbi (Nat.mul_lt_mul_of_pos_left Y X) (Nat.mul_le_mul_right _ (Nat.le_of_lt h1))
   have:=nO (b:=bas) (by decide) h2;omega
  refine aP (CV (d*m) r T Z) ?_;simp only[go_sem,h0,h1,E,I];refine aA (fun A=>?_) (fun A=>?_)
  ·have A : d * m <= r := by
    rcases Xbb r (d*m)with h|h
    ·rw[jS (by omega)]at A;simp at A
    ·exact h
   simp only[go_sem,h0,h1,E,I];exact⟨⟨m,b,by omega,hb,rfl,rfl,A,O⟩,by simp only[aF];omega⟩
  ·have A : r < d * m := by
    rcases Xbb r (d*m)with h|h
    ·exact h
    ·exfalso;exact of_decide_eq_false A (adQ (by omega))
   simp only[go_sem,h0,h1,E,I];refine⟨⟨a,m-1,by omega,by omega,rfl,?_,J,?_⟩,?_⟩
   ·rw[nT (by omega)];congr 2;omega
   ·rw[show m-1+1=m by omega];exact A
   ·rw[nT (by omega)];simp only[aF];omega
 ·have F:=geB U F;subst F;simp only[go_sem,E];exact cI (by rw[half J O X])
def Fh{A:List Nat}{k v q:Nat}(h:A[k]?=some v):({ cU A with es:=(cU A).es.set k (lV ((cU A).es.getD k []) 0 [int (q:Int)]) }:Row)=cU (A.set k q):=by simp only[cU,aC h,List.map_set];rfl
def N4(m n:Nat)(hm:(bQ bas m).length<=1048570)(hn:0<n)(ao:(bQ bas n).length<=1048570):PC prog 194 [nl m,nl n] (.tup [nl (m/n),nl (m%n)]):=by
 have om:=eG (b:=bas) (by decide) m;have lm:=dT (b:=bas) (by decide) m;rw[show nl m=.sl ((bQ bas m).map kE)from rfl];generalize bQ bas m=l at *;refine pcb (fun t=>t == 6||t == 23) func194 rfl rfl ?_;simp only[go_sem];refine⟨by omega,aJ fun j hj=>?_⟩;simp only[go_sem];refine⟨fun ρ H=>∃(k r:Nat) (A:List Nat),k<=l.length/\ρ 0=.sl (l.map kE)/\ρ 1=nl n/\ρ 6=.os j/\ρ 7=nl r/\ρ 8=int ((k:Int)-1)/\H j=some (cU A)/\Lim bas A/\A.length=l.length/\r<n/\ofL bas (l.drop k)=ofL bas (A.drop k)*n+r/\A.take k=List.replicate k 0,fun ρ _=>match ρ 8 with| .v (.int _ z)=>(z+1).toNat|_=>0,
  ⟨l.length,0,List.replicate l.length 0,Xag _,by simp only[go_sem],by simp only[go_sem],by simp only[go_sem],?_,?_,?_,Lim.zeros (by decide) _,by simp,hn,by simp[ofL],by simp⟩,?_⟩
 ·simp only[go_sem];exact KI.symm
 ·simp only[go_sem,nT (show l.length<=4611686018427387904 by omega)]
 ·rw[aB];simp only[cU,List.map_replicate];rfl
 clear hj;rintro ρ H ⟨k,r,A,hk,h0,h1,I,E,F,Rj,hq,T,hr,hv,hz⟩;simp only[go_sem,h0,h1,I,E,F];refine aA (fun hb=>?_) (fun hb=>?_)
 ·have aa:0<k:=by simp at hb;omega
  obtain⟨k,rfl⟩:∃j,k=j+1:=⟨k-1,by omega⟩;rw[show((k+1:Nat):Int)-1=(k:Int)by omega]at F |-;obtain⟨x,hx⟩:=aM (show k<l.length by omega);have ai:x<bas:=lm x (Xac hx);have b1:=inB (show k<l.length by omega);have b2:=inB (show k<A.length by omega);have U:A[k]?=some 0:=by
   have h1:(A.take (k+1))[k]?=(List.replicate (k+1) 0)[k]?:=by rw[hz]
   rw[List.getElem?_take,if_pos (by omega)]at h1;rw[h1];simp
  obtain⟨hV,hQ,hR⟩:=XM (b:=bas) (a:=n) (by decide) hx ai hr (show k<A.length by omega) hv;have av:(bQ bas r).length<=1048570:=Xai (eI (by decide) (Nat.le_of_lt hr)) ao;have ap:x+bas*r<n*bas:=by have:bas*(r+1)<=bas*n:=Nat.mul_le_mul_left _ hr;rw[Nat.mul_add]at this;rw[Nat.mul_comm n bas];omega
  have M:(A.set k ((x+bas*r)/n)).take k=List.replicate k 0:=by
   rw[List.take_set_of_le (by omega)];have h1:(A.take (k+1)).take k=(List.replicate (k+1) 0).take k:=by rw[hz]
   rw[List.take_take,Nat.min_eq_left (by omega)]at h1;rw[h1];simp
  have ac:ofL bas (x::bQ bas r)=x+bas*r:=by rw[ofL,eG (by decide)]
  have ag:Lim bas (x::bQ bas r):=fun y hy=>by
   rcases List.mem_cons.1 hy with rfl|hy
   ·exact ai
   ·exact dT (by decide) r y hy
  have au:(bQ bas (x+bas*r)).length<=1048575:=by refine Xai (nO (b:=bas) (k:=(bQ bas r).length+1) (by decide) ?_) (by omega);have h1:=oQ (b:=bas) (by decide) ag;rw[ac]at h1;simpa using h1
  generalize ar:x+bas*r=R at *;have aj:R-n*(R/n)=R%n:=by have:=Nat.mod_add_div R n;omega
  have aq:(bQ bas (n*(R/n))).length<=1048576:=Xai (eI (by decide) (Nat.mul_div_le R n)) (by omega);simp only[go_sem,h0,h1,I,E,F,aC hx,b1];refine aJ fun i hi=>?_
  simp only[go_sem,h0,h1,I,E,F];have X:=hY (r':=⟨3,1,[[int (x:Int)]]⟩) Rj hi;refine aX (aB _ _ _) ⟨rfl,rfl⟩ (allN _) (by simp only[Xaa,Xad,List.length_nil];omega) (fun i2 af=>?_);have ae:=cT X (aR Rj hi).symm af (r':=⟨3,1,[[int (x:Int)]]++(bQ bas r).map kE⟩);have an:j≠i2:=aR X af;simp only[go_sem,h0,h1,I,E,F];refine PC.useF [i2] (.cons _ _ _ _ (.row _ _ _ (by simp only[Xbg,if_true];exact aB _ _ _) (ConvE.refl _)) .nil) (JR ag (by simp;omega) ac) ?_;generalize ah:(fun k=>if k∈[i2]then none else _)=HN;have J:HN j=some (cU A):=by rw[<-ah];simp only[Xbg,if_neg an];exact ae
  clear ah ae X Rj;simp only[go_sem,h0,h1,I,E,F];refine aP (CV R n (by omega) (by omega)) ?_;simp only[go_sem,h0,h1,I,E,F];refine aA (fun hc=>?_) (fun hc=>?_)
  ·have Y : R < n := by
    rcases Nat.lt_trichotomy R n with h|h|h
    ·exact h
    ·rw[tK (by omega)]at hc;cases hc
    ·rw[jS (by omega)]at hc;cases hc
   simp only[go_sem,h0,h1,I,E,F,nT (show k<=4611686018427387904 by omega)];have O:A.set k (R/n)=A:=by rw[Nat.div_eq_of_lt Y];obtain⟨h1,h2⟩:=List.getElem?_eq_some_iff.1 U;rw[<-h2];exact List.set_getElem_self h1
   rw[O,Xbc Y]at hV;rw[O]at M;exact⟨⟨k,R,A,by omega,rfl,rfl,J,hq,T,Y,hV,M⟩,by omega⟩
  simp only[go_sem,h0,h1,I,E,F];refine aA (fun ab=>?_) (fun ab=>?_)
  ·have ak : R = n := by have:=IV.1 (by simpa using ab);omega
   simp only[go_sem,h0,h1,I,E,F,J,show(cU A).es.length=A.length from Xaa _,b2];refine⟨rfl,bU so3 J (by simp only[cU,Xaa];exact⟨by simpa using b2.2,rfl,Xag 1⟩) ?_⟩;simp only[go_sem,h0,h1,I,E,F,nT (show k<=4611686018427387904 by omega)];have O:R/n=1:=by rw[ak];exact Nat.div_self hn
   have am:R%n=0:=by rw[ak];exact Nat.mod_self n
   rw[O,am]at hV;rw[O]at M;refine⟨⟨k,0,A.set k 1,by omega,KI.symm,rfl,?_,hq.set (by decide),by simp[T],hn,hV,M⟩,by omega⟩;exact congrArg some (Fh (q:=1) U)
  simp only[go_sem,h0,h1,I,E,F,J];refine aP (E0 R n (by omega) hn (by omega) ap) ?_;simp only[go_sem,h0,h1,I,E,F,J,show(cU A).es.length=A.length from Xaa _,b2];refine⟨rfl,bU so3 J (by simp only[cU,Xaa];exact⟨by simpa using b2.2,rfl,Xag 1⟩) ?_⟩;generalize hP:aI HN j _=HP;have Z:HP j=some (cU (A.set k (R/n))):=by rw[<-hP,aB];exact congrArg some (Fh (q:=R/n) U)
  have hg:(A.set k (R/n))[k]?=some (R/n):=List.getElem?_set_self (by omega);clear hP J;simp only[go_sem,h0,h1,I,E,F,Z];have al:(cU (A.set k (R/n))).es.getD k []=kE (R/n):=aC hg;have b3:0<=(k:Int)/\(k:Int)<((cU (A.set k (R/n))).es.length:Nat):=by simp only[cU,Xaa,Xbe];exact b2
  simp only[go_sem,al,b3];refine⟨rfl,⟨by omega,Nat.zero_lt_one⟩,?_⟩;refine aP (Uc n (R/n) (by omega) hQ) ?_;simp only[go_sem,h0,h1,I,E,F,Z];refine aP (EW R (n*(R/n)) (by omega) (Nat.mul_div_le R n)) ?_;simp only[go_sem,h0,h1,I,E,F,nT (show k<=4611686018427387904 by omega),aj];exact⟨⟨k,R%n,A.set k (R/n),by omega,rfl,rfl,Z,hq.set hQ,by simp[T],hR,hV,M⟩,by omega⟩
 ·have aa:k=0:=by simp at hb;omega
  subst aa;simp only[go_sem,h0,h1,I,E,F];obtain⟨e1,e2⟩:=aaK hr hv;rw[Xbo,Xbo,om]at e1;rw[Xbo,om]at e2;refine PC.useF [j] (.cons _ _ _ _ (.row _ _ _ (by simp only[Xbg,if_true];exact Rj) (ConvE.refl _)) .nil) (JR hq (by omega) e1) ?_;simp only[go_sem,E,e2];exact .refl _
end Go.Proofs.YtgncgpcpbadfnaaGreatDoor.Nu
end
section
namespace Go.Proofs
open Go.Shelf
def Tryz.lays169_ren:Go.Shelf.Ren:=⟨fun|169=>232|n=>n,fun|70=>316|9=>9|0=>0|72=>318|37=>180|127=>338|3=>3|5=>5|n=>n,fun|n=>n⟩
theorem Tryz.lays169:Go.Proofs.Lays.n169 Tryz.prog Tryz.lays169_ren:={
 mixed:=by kernel_rfl
 f169:=Tryz.func232.trans (congrArg some (by kernel_rfl))
 t0:=Tryz.underlying0
 a0:=Tryz.isAgg0
 z0:=Tryz.sizeOf0
 v0:=Tryz.zeroValue0
 t3:=Tryz.underlying3
 a3:=Tryz.isAgg3
 z3:=Tryz.sizeOf3
 v3:=Tryz.zeroValue3
 t9:=Tryz.underlying9
 a9:=Tryz.isAgg9
 z9:=Tryz.sizeOf9
 v9:=Tryz.zeroValue9
 t37:=Tryz.underlying180
 a37:=Tryz.isAgg180
 z37:=Tryz.sizeOf180
 v37:=Tryz.zeroValue180
 t70:=Tryz.underlying316
 a70:=Tryz.isAgg316
 z70:=Tryz.sizeOf316
 v70:=Tryz.zeroValue316
 t72:=Tryz.underlying318
 a72:=Tryz.isAgg318
 z72:=Tryz.sizeOf318
 v72:=Tryz.zeroValue318
 t127:=Tryz.underlying338
 a127:=Tryz.isAgg338
 z127:=Tryz.sizeOf338
 v127:=Tryz.zeroValue338 }
theorem Tryz.Builder_Extra_169:Builder.Extra Tryz.prog Tryz.lays169_ren:={
 sizeBuilder:=by kernel_rfl
 liesBuilder:=by kernel_rfl
 t5:=Tryz.underlying5
 a5:=Tryz.isAgg5
 z5:=Tryz.sizeOf5
 v5:=Tryz.zeroValue5
 infoByte:=by kernel_rfl
 cellsByte:=by kernel_rfl
 sizeByte:=by kernel_rfl
 neB5:=by decide }
open Go.RowKit in
theorem Tryz.Builder_String_any (B b:Nat) (l:List UInt8) (w:World) (h:Lib.IsBuilder 318 5 B b (Lib.byteCells l) w) (hBw:B<=w.heap.size):
    Calls Tryz.prog 232 #[.pointer (some ⟨b,0,none⟩)] w fun e w'=>e=.returned (.string ⟨l.toArray⟩)/\Below B w w':=Any.Builder_String_any Tryz.lays169 Tryz.Builder_Extra_169 B b l w h hBw
def Tryz.lays106_ren:Go.Shelf.Ren:=⟨fun|106=>207|213=>234|265=>253|n=>n,fun|9=>9|3=>3|n=>n,fun|n=>n⟩
theorem Tryz.lays106:Go.Proofs.Lays.n106 Tryz.prog Tryz.lays106_ren:={
 mixed:=by kernel_rfl
 f106:=Tryz.func207.trans (congrArg some (by kernel_rfl))
 f213:=Tryz.func234.trans (congrArg some (by kernel_rfl))
 f265:=Tryz.func253.trans (congrArg some (by kernel_rfl))
 t3:=Tryz.underlying3
 a3:=Tryz.isAgg3
 z3:=Tryz.sizeOf3
 v3:=Tryz.zeroValue3
 t9:=Tryz.underlying9
 a9:=Tryz.isAgg9
 z9:=Tryz.sizeOf9
 v9:=Tryz.zeroValue9 }
open Go.RowKit in
theorem Tryz.strings_Compare (a b:ByteArray) (w:World):
    Calls Tryz.prog 207 #[.string a,.string b] w fun e w'=>e=.returned (.int .i64 (Lib.compareBytes a.data.toList b.data.toList))/\w'=w:=Any.strings_Compare Tryz.lays106 a b w
def Tryz.lays103_ren:Go.Shelf.Ren:=⟨fun|103=>201|210=>229|206=>227|n=>n,fun|9=>9|4=>4|24=>294|3=>3|n=>n,fun|n=>n⟩
theorem Tryz.lays103:Go.Proofs.Lays.n103 Tryz.prog Tryz.lays103_ren:={
 mixed:=by kernel_rfl
 f103:=Tryz.func201.trans (congrArg some (by kernel_rfl))
 f206:=Tryz.func227.trans (congrArg some (by kernel_rfl))
 f210:=Tryz.func229.trans (congrArg some (by kernel_rfl))
 t3:=Tryz.underlying3
 a3:=Tryz.isAgg3
 z3:=Tryz.sizeOf3
 v3:=Tryz.zeroValue3
 t4:=Tryz.underlying4
 a4:=Tryz.isAgg4
 z4:=Tryz.sizeOf4
 v4:=Tryz.zeroValue4
 t9:=Tryz.underlying9
 a9:=Tryz.isAgg9
 z9:=Tryz.sizeOf9
 v9:=Tryz.zeroValue9
 t24:=Tryz.underlying294
 a24:=Tryz.isAgg294
 z24:=Tryz.sizeOf294
 v24:=Tryz.zeroValue294 }
open Go.RowKit in
theorem Tryz.strings_CutPrefix (s p:ByteArray) (w:World):
    Calls Tryz.prog 201 #[.string s,.string p] w fun e w'=>e=.returned (.tuple #[.string ⟨(Lib.trimPrefix s.data.toList p.data.toList).toArray⟩,.bool (Lib.hasPrefix s.data.toList p.data.toList)])/\w'=w:=Any.strings_CutPrefix Tryz.lays103 s p w
def Tryz.laysM171_ren:Go.Shelf.Ren:=⟨fun|171=>166|243=>208|246=>235|283=>254|284=>255|285=>256|286=>257|129=>269|317=>268|318=>270|319=>271|320=>272|337=>277|338=>278|n=>n,fun|3=>3|9=>9|2=>2|4=>4|171=>339|0=>0|53=>340|37=>180|5=>5|173=>343|212=>359|51=>351|20=>20|213=>360|46=>333|232=>368|233=>369|n=>n,fun|17=>1|18=>2|19=>3|n=>n⟩
theorem Tryz.laysM171:Go.Proofs.LaysM.n171 Tryz.prog Tryz.laysM171_ren:={
 mixed:=by kernel_rfl
 f129:=Tryz.func269.trans (congrArg some (by kernel_rfl))
 f171:=Tryz.func166.trans (congrArg some (by kernel_rfl))
 f243:=Tryz.func208.trans (congrArg some (by kernel_rfl))
 f246:=Tryz.func235.trans (congrArg some (by kernel_rfl))
 f283:=Tryz.func254.trans (congrArg some (by kernel_rfl))
 f284:=Tryz.func255.trans (congrArg some (by kernel_rfl))
 f285:=Tryz.func256.trans (congrArg some (by kernel_rfl))
 f286:=Tryz.func257.trans (congrArg some (by kernel_rfl))
 f317:=Tryz.func268.trans (congrArg some (by kernel_rfl))
 f318:=Tryz.func270.trans (congrArg some (by kernel_rfl))
 f319:=Tryz.func271.trans (congrArg some (by kernel_rfl))
 f320:=Tryz.func272.trans (congrArg some (by kernel_rfl))
 f337:=Tryz.func277.trans (congrArg some (by kernel_rfl))
 f338:=Tryz.func278.trans (congrArg some (by kernel_rfl))
 t0:=Tryz.underlying0
 a0:=Tryz.isAgg0
 z0:=Tryz.sizeOf0
 v0:=Tryz.zeroValue0
 t2:=Tryz.underlying2
 a2:=Tryz.isAgg2
 z2:=Tryz.sizeOf2
 v2:=Tryz.zeroValue2
 t3:=Tryz.underlying3
 a3:=Tryz.isAgg3
 z3:=Tryz.sizeOf3
 v3:=Tryz.zeroValue3
 t4:=Tryz.underlying4
 a4:=Tryz.isAgg4
 z4:=Tryz.sizeOf4
 v4:=Tryz.zeroValue4
 t5:=Tryz.underlying5
 a5:=Tryz.isAgg5
 z5:=Tryz.sizeOf5
 v5:=Tryz.zeroValue5
 t9:=Tryz.underlying9
 a9:=Tryz.isAgg9
 z9:=Tryz.sizeOf9
 v9:=Tryz.zeroValue9
 t20:=Tryz.underlying20
 a20:=Tryz.isAgg20
 z20:=Tryz.sizeOf20
 v20:=Tryz.zeroValue20
 t37:=Tryz.underlying180
 a37:=Tryz.isAgg180
 z37:=Tryz.sizeOf180
 v37:=Tryz.zeroValue180
 t46:=Tryz.underlying333
 a46:=Tryz.isAgg333
 z46:=Tryz.sizeOf333
 v46:=Tryz.zeroValue333
 t51:=Tryz.underlying351
 a51:=Tryz.isAgg351
 z51:=Tryz.sizeOf351
 v51:=Tryz.zeroValue351
 t53:=Tryz.underlying340
 a53:=Tryz.isAgg340
 z53:=Tryz.sizeOf340
 v53:=Tryz.zeroValue340
 t171:=Tryz.underlying339
 a171:=Tryz.isAgg339
 z171:=Tryz.sizeOf339
 v171:=Tryz.zeroValue339
 t173:=Tryz.underlying343
 a173:=Tryz.isAgg343
 z173:=Tryz.sizeOf343
 v173:=Tryz.zeroValue343
 t212:=Tryz.underlying359
 a212:=Tryz.isAgg359
 z212:=Tryz.sizeOf359
 v212:=Tryz.zeroValue359
 t213:=Tryz.underlying360
 a213:=Tryz.isAgg360
 z213:=Tryz.sizeOf360
 t232:=Tryz.underlying368
 a232:=Tryz.isAgg368
 z232:=Tryz.sizeOf368
 v232:=Tryz.zeroValue368
 t233:=Tryz.underlying369
 a233:=Tryz.isAgg369
 z233:=Tryz.sizeOf369
 v233:=Tryz.zeroValue369
 g17:=by kernel_rfl
 g18:=by kernel_rfl
 g19:=by kernel_rfl
 i0:=by kernel_rfl
 i2:=by kernel_rfl
 i3:=by kernel_rfl
 i4:=by kernel_rfl
 i5:=by kernel_rfl
 i9:=by kernel_rfl
 i20:=by kernel_rfl
 i37:=by kernel_rfl
 i46:=by kernel_rfl
 i51:=by kernel_rfl
 i53:=by kernel_rfl
 i171:=by kernel_rfl
 i173:=by kernel_rfl
 i212:=by kernel_rfl
 i232:=by kernel_rfl
 i233:=by kernel_rfl
 m17:=by kernel_rfl
 m18:=by kernel_rfl
 m19:=by kernel_rfl }
open Go.RowKit Go.Sort Go.Lib in
theorem Tryz.strconv_Itoa (n:Int) (h0: -9223372036854775808<=n) (h1:n<=9223372036854775807) (w:World) (htab:Lib.TabIs Tryz.prog w "internal/strconv.uint64pow10" .u64 Lib.pow10Tab):
    Calls Tryz.prog 166 #[.int .i64 n] w fun e w'=>e=.returned (.string ⟨(Lib.itoa n).toArray⟩)/\∃k os,w'=grow (w.drewN k) os:=Any.strconv_Itoa Tryz.laysM171 n h0 h1 w htab
def Tryz.lays219_ren:Go.Shelf.Ren:=⟨fun|219=>222|217=>242|225=>243|224=>244|267=>245|266=>262|314=>263|n=>n,fun|9=>9|3=>3|4=>4|5=>5|46=>333|146=>352|51=>351|n=>n,fun|1=>0|n=>n⟩
theorem Tryz.lays219:Go.Proofs.Lays.n219 Tryz.prog Tryz.lays219_ren:={
 mixed:=by kernel_rfl
 f217:=Tryz.func242.trans (congrArg some (by kernel_rfl))
 f219:=Tryz.func222.trans (congrArg some (by kernel_rfl))
 f224:=Tryz.func244.trans (congrArg some (by kernel_rfl))
 f225:=Tryz.func243.trans (congrArg some (by kernel_rfl))
 f266:=Tryz.func262.trans (congrArg some (by kernel_rfl))
 f267:=Tryz.func245.trans (congrArg some (by kernel_rfl))
 f314:=Tryz.func263.trans (congrArg some (by kernel_rfl))
 t3:=Tryz.underlying3
 a3:=Tryz.isAgg3
 z3:=Tryz.sizeOf3
 v3:=Tryz.zeroValue3
 t4:=Tryz.underlying4
 a4:=Tryz.isAgg4
 z4:=Tryz.sizeOf4
 v4:=Tryz.zeroValue4
 t5:=Tryz.underlying5
 a5:=Tryz.isAgg5
 z5:=Tryz.sizeOf5
 v5:=Tryz.zeroValue5
 t9:=Tryz.underlying9
 a9:=Tryz.isAgg9
 z9:=Tryz.sizeOf9
 v9:=Tryz.zeroValue9
 t46:=Tryz.underlying333
 a46:=Tryz.isAgg333
 z46:=Tryz.sizeOf333
 v46:=Tryz.zeroValue333
 t51:=Tryz.underlying351
 a51:=Tryz.isAgg351
 z51:=Tryz.sizeOf351
 v51:=Tryz.zeroValue351
 t146:=Tryz.underlying352
 a146:=Tryz.isAgg352
 z146:=Tryz.sizeOf352
 v146:=Tryz.zeroValue352
 g1:=by kernel_rfl }
open Go.RowKit Go.Lib in
theorem Tryz.stringslite_Index_one (s:ByteArray) (c:UInt8) (w:World):
    Calls Tryz.prog 222 #[.string s,.string ⟨#[c]⟩] w fun e w'=>e=.returned (.int .i64 (Lib.indexByte s.data.toList c))/\w'=w:=Any.stringslite_Index_one Tryz.lays219 s c w
def Tryz.lays144_ren:Go.Shelf.Ren:=⟨fun|144=>151|143=>192|219=>222|217=>242|225=>243|224=>244|267=>245|266=>262|314=>263|n=>n,fun|9=>9|4=>4|3=>3|5=>5|46=>333|146=>352|51=>351|n=>n,fun|1=>0|n=>n⟩
theorem Tryz.lays144:Go.Proofs.Lays.n144 Tryz.prog Tryz.lays144_ren:={
 mixed:=by kernel_rfl
 f143:=Tryz.func192.trans (congrArg some (by kernel_rfl))
 f144:=Tryz.func151.trans (congrArg some (by kernel_rfl))
 f217:=Tryz.func242.trans (congrArg some (by kernel_rfl))
 f219:=Tryz.func222.trans (congrArg some (by kernel_rfl))
 f224:=Tryz.func244.trans (congrArg some (by kernel_rfl))
 f225:=Tryz.func243.trans (congrArg some (by kernel_rfl))
 f266:=Tryz.func262.trans (congrArg some (by kernel_rfl))
 f267:=Tryz.func245.trans (congrArg some (by kernel_rfl))
 f314:=Tryz.func263.trans (congrArg some (by kernel_rfl))
 t3:=Tryz.underlying3
 a3:=Tryz.isAgg3
 z3:=Tryz.sizeOf3
 v3:=Tryz.zeroValue3
 t4:=Tryz.underlying4
 a4:=Tryz.isAgg4
 z4:=Tryz.sizeOf4
 v4:=Tryz.zeroValue4
 t5:=Tryz.underlying5
 a5:=Tryz.isAgg5
 z5:=Tryz.sizeOf5
 v5:=Tryz.zeroValue5
 t9:=Tryz.underlying9
 a9:=Tryz.isAgg9
 z9:=Tryz.sizeOf9
 v9:=Tryz.zeroValue9
 t46:=Tryz.underlying333
 a46:=Tryz.isAgg333
 z46:=Tryz.sizeOf333
 v46:=Tryz.zeroValue333
 t51:=Tryz.underlying351
 a51:=Tryz.isAgg351
 z51:=Tryz.sizeOf351
 v51:=Tryz.zeroValue351
 t146:=Tryz.underlying352
 a146:=Tryz.isAgg352
 z146:=Tryz.sizeOf352
 v146:=Tryz.zeroValue352
 g1:=by kernel_rfl }
open Go.RowKit Go.Lib in
theorem Tryz.strings_Contains_one (s:ByteArray) (c:UInt8) (w:World):
    Calls Tryz.prog 151 #[.string s,.string ⟨#[c]⟩] w fun e w'=>e=.returned (.bool (decide (0<=Lib.indexByte s.data.toList c)))/\w'=w:=Any.strings_Contains_one Tryz.lays144 s c w
def Tryz.lays101_ren:Go.Shelf.Ren:=⟨fun|101=>154|208=>196|206=>227|n=>n,fun|9=>9|4=>4|3=>3|n=>n,fun|n=>n⟩
theorem Tryz.lays101:Go.Proofs.Lays.n101 Tryz.prog Tryz.lays101_ren:={
 mixed:=by kernel_rfl
 f101:=Tryz.func154.trans (congrArg some (by kernel_rfl))
 f206:=Tryz.func227.trans (congrArg some (by kernel_rfl))
 f208:=Tryz.func196.trans (congrArg some (by kernel_rfl))
 t3:=Tryz.underlying3
 a3:=Tryz.isAgg3
 z3:=Tryz.sizeOf3
 v3:=Tryz.zeroValue3
 t4:=Tryz.underlying4
 a4:=Tryz.isAgg4
 z4:=Tryz.sizeOf4
 v4:=Tryz.zeroValue4
 t9:=Tryz.underlying9
 a9:=Tryz.isAgg9
 z9:=Tryz.sizeOf9
 v9:=Tryz.zeroValue9 }
open Go.RowKit Go.Lib in
theorem Tryz.strings_TrimPrefix (s p:ByteArray) (w:World):
    Calls Tryz.prog 154 #[.string s,.string p] w fun e w'=>e=.returned (.string ⟨(Lib.trimPrefix s.data.toList p.data.toList).toArray⟩)/\w'=w:=Any.strings_TrimPrefix Tryz.lays101 s p w
def Tryz.lays105_ren:Go.Shelf.Ren:=⟨fun|105=>231|212=>248|99=>249|165=>250|166=>230|170=>251|169=>232|263=>265|264=>266|206=>227|240=>247|241=>267|276=>264|277=>276|n=>n,fun|9=>9|3=>3|4=>4|20=>20|0=>0|46=>333|109=>334|5=>5|72=>318|76=>321|51=>351|146=>352|53=>340|148=>357|70=>316|37=>180|75=>320|127=>338|164=>354|80=>256|n=>n,fun|n=>n⟩
theorem Tryz.lays105:Go.Proofs.Lays.n105 Tryz.prog Tryz.lays105_ren:={
 mixed:=by kernel_rfl
 f99:=Tryz.func249.trans (congrArg some (by kernel_rfl))
 f105:=Tryz.func231.trans (congrArg some (by kernel_rfl))
 f165:=Tryz.func250.trans (congrArg some (by kernel_rfl))
 f166:=Tryz.func230.trans (congrArg some (by kernel_rfl))
 f169:=Tryz.func232.trans (congrArg some (by kernel_rfl))
 f170:=Tryz.func251.trans (congrArg some (by kernel_rfl))
 f206:=Tryz.func227.trans (congrArg some (by kernel_rfl))
 f212:=Tryz.func248.trans (congrArg some (by kernel_rfl))
 f240:=Tryz.func247.trans (congrArg some (by kernel_rfl))
 f241:=Tryz.func267.trans (congrArg some (by kernel_rfl))
 f263:=Tryz.func265.trans (congrArg some (by kernel_rfl))
 f264:=Tryz.func266.trans (congrArg some (by kernel_rfl))
 f276:=Tryz.func264.trans (congrArg some (by kernel_rfl))
 f277:=Tryz.func276.trans (congrArg some (by kernel_rfl))
 t0:=Tryz.underlying0
 a0:=Tryz.isAgg0
 z0:=Tryz.sizeOf0
 v0:=Tryz.zeroValue0
 t3:=Tryz.underlying3
 a3:=Tryz.isAgg3
 z3:=Tryz.sizeOf3
 v3:=Tryz.zeroValue3
 t4:=Tryz.underlying4
 a4:=Tryz.isAgg4
 z4:=Tryz.sizeOf4
 v4:=Tryz.zeroValue4
 t5:=Tryz.underlying5
 a5:=Tryz.isAgg5
 z5:=Tryz.sizeOf5
 v5:=Tryz.zeroValue5
 t9:=Tryz.underlying9
 a9:=Tryz.isAgg9
 z9:=Tryz.sizeOf9
 v9:=Tryz.zeroValue9
 t20:=Tryz.underlying20
 a20:=Tryz.isAgg20
 z20:=Tryz.sizeOf20
 v20:=Tryz.zeroValue20
 t37:=Tryz.underlying180
 a37:=Tryz.isAgg180
 z37:=Tryz.sizeOf180
 v37:=Tryz.zeroValue180
 t46:=Tryz.underlying333
 a46:=Tryz.isAgg333
 z46:=Tryz.sizeOf333
 v46:=Tryz.zeroValue333
 t51:=Tryz.underlying351
 a51:=Tryz.isAgg351
 z51:=Tryz.sizeOf351
 v51:=Tryz.zeroValue351
 t53:=Tryz.underlying340
 a53:=Tryz.isAgg340
 z53:=Tryz.sizeOf340
 v53:=Tryz.zeroValue340
 t70:=Tryz.underlying316
 a70:=Tryz.isAgg316
 z70:=Tryz.sizeOf316
 v70:=Tryz.zeroValue316
 t72:=Tryz.underlying318
 a72:=Tryz.isAgg318
 z72:=Tryz.sizeOf318
 v72:=Tryz.zeroValue318
 t75:=Tryz.underlying320
 a75:=Tryz.isAgg320
 z75:=Tryz.sizeOf320
 v75:=Tryz.zeroValue320
 t76:=Tryz.underlying321
 a76:=Tryz.isAgg321
 z76:=Tryz.sizeOf321
 v76:=Tryz.zeroValue321
 t109:=Tryz.underlying334
 a109:=Tryz.isAgg334
 z109:=Tryz.sizeOf334
 v109:=Tryz.zeroValue334
 t127:=Tryz.underlying338
 a127:=Tryz.isAgg338
 z127:=Tryz.sizeOf338
 v127:=Tryz.zeroValue338
 t146:=Tryz.underlying352
 a146:=Tryz.isAgg352
 z146:=Tryz.sizeOf352
 v146:=Tryz.zeroValue352
 t148:=Tryz.underlying357
 a148:=Tryz.isAgg357
 z148:=Tryz.sizeOf357
 v148:=Tryz.zeroValue357
 t164:=Tryz.underlying354
 a164:=Tryz.isAgg354
 z164:=Tryz.sizeOf354
 v164:=Tryz.zeroValue354 }
theorem Tryz.Builder_Extra_105:Builder.Extra Tryz.prog Tryz.lays105_ren:={
 sizeBuilder:=by kernel_rfl
 liesBuilder:=by kernel_rfl
 t5:=Tryz.underlying5
 a5:=Tryz.isAgg5
 z5:=Tryz.sizeOf5
 v5:=Tryz.zeroValue5
 infoByte:=by kernel_rfl
 cellsByte:=by kernel_rfl
 sizeByte:=by kernel_rfl
 neB5:=by decide }
open Go.RowKit Go.Lib in
theorem Tryz.strings_Repeat (s:ByteArray) (c:Nat) (w:World) (hc:c<=9223372036854775807) (hlen:s.size*c<=140737488355328):
    Calls Tryz.prog 231 #[.string s,.int .i64 c] w fun e w'=>e=.returned (.string ⟨(Lib.repeatL s.data.toList c).toArray⟩)/\Below w.heap.size w w':=Any.strings_Repeat Tryz.lays105 Tryz.Builder_Extra_105 s c w hc hlen
end Go.Proofs
end
