import Derived.Lib.ItoaMem
import Derived.Laws.Strings
import Derived.Shelf.Strings.Builder1
import Derived.Shelf.Strings.Builder2
import Derived.Shelf.Small.Strs
import Derived.Shelf.Small.Wraps
import Derived.Shelf.Strings.BuilderF
import Derived.Shelf.Strings.BuilderK
import Derived.Shelf.Strings.Builder2Cap
import Derived.Shelf.Strconv.Itoa0
import Derived.Shelf.Strconv.Itoa1
import Derived.Shelf.LaysM
import Derived.Shelf.Strconv.Itoa2
import Derived.Shelf.Strconv.Itoa3
import Derived.Shelf.Strings.Search1
import Derived.Shelf.Strings.Search2
import Derived.Shelf.Strings.Search3
import Derived.Shelf.Strings.Cut
import Derived.Shelf.Strings.Shaped
import Derived.Shelf.Strings.Prefix
import Derived.Shelf.Bits.Mul64
import Derived.Shelf.Strings.Repeat
import Derived.Shelf.Strings.BuilderCap
import Derived.Ground.Names2Prog
import Derived.Shelf.Slices.SearchI
import Derived.Test.YtmhpdppobocokaaGreatDoorProg
import Derived.WalkKit
import Derived.BigCall
import Derived.Deep.LoopGhost
import Derived.Deep.DeepFit
import Derived.Lib.SmallJoins
import Derived.Test.YtmhpdppobocokaaGreatDoorTs04
set_option linter.unusedSimpArgs false
set_option linter.unusedVariables false
set_option linter.defProp false
set_option maxRecDepth 100000
section
namespace Go.Nu
open Go Go.Lib
def ofL(b:Nat):List Nat->Nat
 | []=>0
 | x::r=>x+b*ofL b r
def Lim(b:Nat)(l:List Nat):Prop:=∀x∈l,x<b
def bA(b:Nat)(n:Nat):List Nat:=if h:n=0\/b<2 then[]else n%b::bA b (n/b)
termination_by n
decreasing_by exact Nat.div_lt_self (by omega) (by omega)
def kF:List Nat->List Nat
 | []=>[]
 | x::r=>match kF r with
   | []=>if x=0 then[]else[x]
   | y::t=>x::y::t
def kO(b:Nat):∀l r:List Nat,ofL b (l++r)=ofL b l+b^l.length*ofL b r
 | [],r=>by simp[ofL]
 | x::l,r=>by simp only[List.cons_append,ofL,kO b l r,List.length_cons,Nat.pow_succ,Nat.mul_add,Nat.add_assoc];rw[Nat.mul_comm (b^l.length) b,Nat.mul_assoc]
def pN(b:Nat)(l:List Nat)(x:Nat):ofL b (l++[x])=ofL b l+b^l.length*x:=by rw[kO];simp[ofL]
def kS{b:Nat}(F:0<b):∀{l:List Nat},Lim b l->ofL b l<b^l.length
 | [],_=>by simp[ofL]
 | x::l,h=>by
  have h1:=h x (by simp);have E:=kS F (l:=l) fun y u=>h y (by simp[u])
  simp only[ofL,List.length_cons,Nat.pow_succ];have:b*(ofL b l+1)<=b*b^l.length:=Nat.mul_le_mul_left _ E;rw[Nat.mul_add]at this;rw[Nat.mul_comm (b^l.length) b];omega
def gQ(b:Nat){l:List Nat}{k x:Nat}(h:l[k]?=some x):ofL b (l.take (k+1))=ofL b (l.take k)+b^k*x:=by rw[List.take_add_one,h];simp only[Option.toList];rw[pN,List.length_take,Nat.min_eq_left (Nat.le_of_lt (List.getElem?_eq_some_iff.1 h).1)]
def F3(b:Nat):∀(l:List Nat) (k x v:Nat),l[k]?=some x->ofL b (l.set k v)+b^k*x=ofL b l+b^k*v
 | [],k,x,v,h=>by simp at h
 | y::l,0,x,v,h=>by simp only[List.getElem?_cons_zero,Option.some.injEq]at h;subst h;simp only[List.set_cons_zero,ofL,Nat.pow_zero,Nat.one_mul];omega
 | y::l,k+1,x,v,h=>by
  have:=F3 b l k x v (by simpa using h);have u:b*(ofL b (l.set k v)+b^k*x)=b*(ofL b l+b^k*v):=by rw[this]
  simp only[List.set_cons_succ,ofL,Nat.pow_succ];rw[Nat.mul_add,Nat.mul_add,<-Nat.mul_assoc,<-Nat.mul_assoc]at u;rw[Nat.mul_comm (b^k) b];omega
def M7(b n:Nat):ofL b (List.replicate n 0)=0:=by
 induction n with
 | zero=>rfl
 | succ n ih=>simp[List.replicate_succ,ofL,ih]
def dZ(b:Nat):bA b 0=[]:=by rw[bA];simp
def pM{b n:Nat}(E:2<=b)(u:n≠0):bA b n=n%b::bA b (n/b):=by rw[bA,dif_neg (by omega)]
def dC{b:Nat}(F:2<=b)(n:Nat):Lim b (bA b n):=by
 induction n using Nat.strongRecOn with
 | _ n ih=>
  by_cases E:n=0
  ·subst E;rw[dZ];intro x u;cases u
  ·rw[pM F E];intro x u;rcases List.mem_cons.1 u with rfl|u
   ·exact Nat.mod_lt _ (by omega)
   ·exact ih (n/b) (Nat.div_lt_self (by omega) (by omega)) x u
def dH{b:Nat}(E:2<=b)(n:Nat):ofL b (bA b n)=n:=by
 induction n using Nat.strongRecOn with
 | _ n ih=>
  by_cases u:n=0
  ·subst u;rw[dZ];rfl
  ·rw[pM E u,ofL,ih (n/b) (Nat.div_lt_self (by omega) (by omega))];exact Nat.mod_add_div n b
def pF{b n:Nat}(u:2<=b):bA b n=[]↔n=0:=by
 constructor
 ·intro h;have:=dH u n;rw[h]at this;exact this.symm
 ·rintro rfl;exact dZ b
def BP{b x m:Nat}(E:2<=b)(u:x<b)(h:x+b*m≠0):bA b (x+b*m)=x::bA b m:=by rw[pM E h,Nat.add_mul_mod_self_left,Nat.mod_eq_of_lt u,Nat.add_mul_div_left _ _ (by omega),Nat.div_eq_of_lt u,Nat.zero_add]
def Cc{b:Nat}(E:2<=b):∀{l:List Nat},Lim b l->kF l=bA b (ofL b l)
 | [],_=>by rw[ofL,dZ];rfl
 | x::l,h=>by
  have ih:=Cc E (l:=l) fun y L=>h y (by simp[L])
  have J:=h x (by simp);rw[kF,ih];by_cases h0:ofL b l=0
  ·simp only[ofL,h0,dZ];by_cases u:x=0
   ·subst u;simp[dZ]
   ·rw[if_neg u,BP E J (by omega),dZ]
  ·have F:bA b (ofL b l)≠[]:=fun e=>h0 ((pF E).1 e)
   rw[ofL,BP E J (by have:0<b*ofL b l:=Nat.mul_pos (by omega) (by omega);omega)];split
   ·rename_i e;exact absurd e F
   ·rename_i e;rw[e]
def Mb{b:Nat}(E:2<=b){l:List Nat}{n:Nat}(h:Lim b l)(u:ofL b l=n):kF l=bA b n:=by rw[Cc E h,u]
def jY{b:Nat}(E:2<=b){n k:Nat}(h:n<b^k):(bA b n).length<=k:=by
 induction k generalizing n with
 | zero => have : n = 0 := by simpa using h
           subst this;rw[dZ];exact Nat.le_refl _
 | succ k ih=>
   by_cases u:n=0
   . subst u;rw[dZ];exact Nat.zero_le _
   . rw[pM E u,List.length_cons];refine Nat.succ_le_succ (ih ?_);rw[Nat.div_lt_iff_lt_mul (by omega)]
     rwa [Nat.pow_succ]at h
def FS{b:Nat}(u:2<=b){n k:Nat}(h:b^k<=n):k<(bA b n).length:=by have h1:=kS (b:=b) (by omega) (dC u n);rw[dH u]at h1;exact(Nat.pow_lt_pow_iff_right (by omega)).1 (Nat.lt_of_le_of_lt h h1)
def dJ{b:Nat}(u:2<=b){m n:Nat}(h:m<=n):(bA b m).length<=(bA b n).length:=by refine jY u ?_;have h1:=kS (b:=b) (by omega) (dC u n);rw[dH u]at h1;omega
def Kn{b:Nat}(u:2<=b){n:Nat}(E:n≠0):b^((bA b n).length-1)<=n:=by
 induction n using Nat.strongRecOn with
 | _ n ih=>
  rw[pM u E,List.length_cons,Nat.add_sub_cancel];by_cases h0:n/b=0
  ·rw[h0,dZ];simp;omega
  ·have:=ih (n/b) (Nat.div_lt_self (by omega) (by omega)) h0;have F:(bA b (n/b)).length=((bA b (n/b)).length-1)+1:=by
    have:bA b (n/b)≠[]:=fun e=>h0 ((pF u).1 e)
    have:=List.length_pos_iff.2 this;omega
   rw[F,Nat.pow_succ];exact Nat.le_trans (Nat.mul_le_mul_right b this) (Nat.div_mul_le_self n b)
def Eo{b:Nat}(O:0<b){l r:List Nat}(M:Lim b l)(hr:Lim b r)(E:l.length=r.length){k x y:Nat}(F:l[k]?=some x)(hy:r[k]?=some y)(u:x<y)(L:l.drop (k+1)=r.drop (k+1)):ofL b l<ofL b r:=by
 have hk:k<l.length:=(List.getElem?_eq_some_iff.1 F).1;have J:l=l.take (k+1)++l.drop (k+1):=(List.take_append_drop _ _).symm;have e2:r=r.take (k+1)++r.drop (k+1):=(List.take_append_drop _ _).symm;rw[J,e2,kO,kO,L,gQ b F,gQ b hy,List.length_take,List.length_take,Nat.min_eq_left (by omega),Nat.min_eq_left (by omega)];have h1:=kS O (l:=l.take k) fun z Z=>M z (List.mem_of_mem_take Z)
 rw[List.length_take,Nat.min_eq_left (by omega)]at h1;have h2:b^k*(x+1)<=b^k*y:=Nat.mul_le_mul_left _ u;rw[Nat.mul_add]at h2;omega
def CT{b:Nat}(u:2<=b){m n:Nat}(h:(bA b m).length<(bA b n).length):m<n:=by
 rcases Nat.lt_or_ge m n with h1|h1
 ·exact h1
 ·have:=dJ u h1;omega
def EM{α:Type}{p:List α->Prop}(h0:p [])(h1:∀l c,p l->p (l++[c]))(l:List α):p l:=by
 have:∀r:List α,p r.reverse:=fun r=>by
  induction r with
  | nil=>exact h0
  | cons c r ih=>rw[List.reverse_cons];exact h1 _ _ ih
 rw[<-List.reverse_reverse l];exact this _
def isD(c:UInt8):Bool:=decide (48<=c.toNat)&&decide (c.toNat<=57)
def dQ(l:List UInt8):Nat:=l.foldl (fun a c=>10*a+(c.toNat-48)) 0
def lN(l:List UInt8):Bool:=l != []&&(l.length == 1||l.getD 0 0 != 48)&&l.all isD
def dec(n:Nat):ByteArray:=⟨(decDigits n).toArray⟩
def pL(l:List UInt8)(c:UInt8):dQ (l++[c])=10*dQ l+(c.toNat-48):=by simp[dQ]
def xO{α:Type}{l r:List α}{k:Nat}{d:α}(h:k<l.length):(l++r).getD k d=l.getD k d:=by simp only[List.getD,List.getElem?_append_left h]
def oY{d:Nat}(h:d<10):(UInt8.ofNat (48+d)).toNat=48+d:=by rw[UInt8.toNat_ofNat'];omega
def AP(n:Nat):dQ (decDigits n)=n:=by
 induction n using Nat.strongRecOn with
 | _ n ih=>
  rw[decDigits];split
  ·rename_i h;simp only[dQ,List.foldl_cons,List.foldl_nil,oY h];omega
  ·rename_i h;rw[pL,ih (n/10) (by omega),oY (by omega)];omega
def vQ(n:Nat):(decDigits n).all isD=true:=by
 induction n using Nat.strongRecOn with
 | _ n ih=>
  rw[decDigits];split
  ·rename_i h;simp only[List.all_cons,List.all_nil,Bool.and_true,isD,oY h,Bool.and_eq_true,decide_eq_true_eq];omega
  ·rename_i h;rw[List.all_append,ih (n/10) (by omega)];simp only[List.all_cons,List.all_nil,Bool.and_true,Bool.true_and,isD,oY (show n%10<10 by omega),Bool.and_eq_true,decide_eq_true_eq];omega
def JP(n:Nat):decDigits n≠[]:=by rw[decDigits];split <;> simp
def oH(n:Nat):0<(decDigits n).length:=List.length_pos_iff.2 (JP n)
def OE{n:Nat}(h:n≠0):(decDigits n).getD 0 0≠48:=by
 induction n using Nat.strongRecOn with
 | _ n ih=>
  rw[decDigits];split
  ·rename_i h1;simp only[List.getD_cons_zero];intro e;have:=oY h1;rw[e]at this;simp at this;omega
  ·rename_i h1;have E:=ih (n/10) (by omega) (by omega);have u:=oH (n/10);rw[xO u];exact E
def Jd{n:Nat}:(decDigits n).length=1↔n<10:=by
 rw[decDigits];split
 ·simp_all
 ·rename_i h;have:=oH (n/10);simp only[List.length_append,List.length_cons,List.length_nil];omega
def Nt(n:Nat):lN (decDigits n)=true:=by
 unfold lN;simp only[Bool.and_eq_true,bne_iff_ne,ne_eq,Bool.or_eq_true,beq_iff_eq];refine⟨⟨JP n,?_⟩,vQ n⟩;by_cases h:n=0
 ·left;rw[Jd];omega
 ·right;exact OE h
def lT{c:UInt8}:isD c=true↔48<=c.toNat/\c.toNat<=57:=by simp[isD]
def Qn{c:UInt8}(h:isD c=true):UInt8.ofNat (48+(c.toNat-48))=c:=by rw[lT]at h;rw[show 48+(c.toNat-48)=c.toNat by omega];exact UInt8.ofNat_toNat
def OS:∀{l:List UInt8},l.all isD=true->l≠[]->l.getD 0 0≠48->10^(l.length-1)<=dQ l:=by
 intro l;induction l using EM with
 | h0=>intro _ h;exact absurd rfl h
 | h1 l c ih=>
  intro u _ h0;rw[List.all_append]at u;simp only[Bool.and_eq_true,List.all_cons,List.all_nil,Bool.and_true]at u;rw[pL];by_cases E:l=[]
  ·subst E;simp only[List.nil_append,List.getD_cons_zero]at h0;simp only[List.nil_append,List.length_cons,List.length_nil,Nat.zero_add,Nat.sub_self,Nat.pow_zero];have:=lT.1 u.2;have h1:c.toNat≠48:=fun e=>h0 (UInt8.toNat.inj e)
   omega
  ·have F:=List.length_pos_iff.2 E;rw[xO F]at h0;have:=ih u.1 E h0;simp only[List.length_append,List.length_cons,List.length_nil,Nat.zero_add,Nat.add_sub_cancel];rw[show l.length=(l.length-1)+1 by omega,Nat.pow_succ];omega
def EX:∀{l:List UInt8},lN l=true->decDigits (dQ l)=l:=by
 intro l;induction l using EM with
 | h0=>intro h;simp[lN]at h
 | h1 l c ih=>
  intro h;unfold lN at h;simp only[Bool.and_eq_true,bne_iff_ne,ne_eq,Bool.or_eq_true,beq_iff_eq,List.all_append,List.all_cons,List.all_nil,Bool.and_true]at h;obtain⟨⟨_,h1⟩,F,E⟩:=h;have O:=lT.1 E;by_cases u:l=[]
  ·subst u;rw[List.nil_append];rw[show dQ [c]=c.toNat-48 by simp[dQ],decDigits_one (by omega),Qn E]
  ·have M:=List.length_pos_iff.2 u;have h0:l.getD 0 0≠48:=by
    rcases h1 with h1|h1
    ·simp only[List.length_append,List.length_cons,List.length_nil]at h1;omega
    ·rwa [xO M]at h1
   have J:=OS F u h0;have L:1<=dQ l:=Nat.le_trans (Nat.one_le_pow _ _ (by omega)) J;rw[pL,decDigits,dif_neg (by omega)];rw[show(10*dQ l+(c.toNat-48))/10=dQ l by omega,show(10*dQ l+(c.toNat-48))%10=c.toNat-48 by omega,Qn E,ih];unfold lN;simp only[Bool.and_eq_true,bne_iff_ne,ne_eq,Bool.or_eq_true,beq_iff_eq];exact⟨⟨u,.inr h0⟩,F⟩
def mM{n k:Nat}(F:1<=k):(decDigits n).length<=k↔n<10^k:=by
 rw[decDigits_length];constructor
 ·intro h;exact Nat.lt_of_lt_of_le (lt_pow_nDigits n) (Nat.pow_le_pow_right (by omega) h)
 ·intro h;by_cases h0:n<10
  ·rw[nDigits_small h0];exact F
  ·induction k generalizing n with
   | zero=>omega
   | succ k ih=>
    by_cases u:k=0
    ·subst u;simp at h;omega
    ·rw[nDigits_big h0];rw[Nat.pow_succ]at h;have:=Nat.succ_le_succ (show nDigits (n/10)<=k from by
      by_cases E:n/10<10
      ·rw[nDigits_small E];omega
      ·exact ih (by omega) (by omega) E)
     exact this
def bl(s:ByteArray):List UInt8:=s.data.toList
def jB{a b:ByteArray}(h:bl a=bl b):a=b:=by cases a;cases b;simp only[bl]at h;rw[Array.toList_inj.1 h]
def eE(s:ByteArray):(bl s).length=s.size:=by unfold bl;rw[Array.length_toList];rfl
def eqB(a b:ByteArray):Bool:=bl a == bl b
def lQ{a b:ByteArray}:eqB a b=true↔a=b:=by unfold eqB;rw[beq_iff_eq];exact⟨jB,fun h=>by rw[h]⟩
def mO{a b:ByteArray}:eqB a b=false↔a≠b:=by rw[<-Bool.not_eq_true,lQ]
def gN(l:List UInt8):bl ⟨l.toArray⟩=l:=by simp[bl]
def yI(a b:ByteArray):bl (a++b)=bl a++bl b:=by unfold bl;rw[ByteArray.data_append,Array.toList_append]
def Vh(s:ByteArray):(⟨(bl s).toArray⟩:ByteArray)=s:=jB (gN _)
def emp:ByteArray:=ByteArray.empty
def fP(s:ByteArray)(a b:Nat):bl (s.extract a b)=((bl s).take b).drop a:=by simp[bl,ByteArray.data_extract,Array.toList_extract,List.extract_eq_take_drop,List.drop_take]
def Tt:Nat:=4096
def cE:Nat:=10^Tt
def sQ{n k:Nat}(h:n<10^k)(u:k<=4096):n<cE:=Nat.lt_of_lt_of_le h (Nat.pow_le_pow_right (show 0<10 by omega) (show k<=Tt from u))
def SW:0<cE:=Nat.pow_pos (show 0<10 by omega)
def eI(s:ByteArray):Bool:=lN (bl s)
def eA(s:ByteArray):Nat:=dQ (bl s)
def jH(n:Nat):bl (dec n)=decDigits n:=gN _
def mL(n:Nat):eI (dec n)=true:=by unfold eI;rw[jH];exact Nt n
def bZ(n:Nat):eA (dec n)=n:=by unfold eA;rw[jH];exact AP n
def hJ{s:ByteArray}(h:eI s=true):dec (eA s)=s:=jB (by rw[jH];exact EX h)
def Bu(n:Nat):(dec n).size=(decDigits n).length:=by rw[<-eE,jH]
def fJ(n:Nat):(dec n).size<=4096↔n<cE:=by rw[Bu];exact mM (k:=Tt) (by decide)
def uW{s:ByteArray}(h:eI s=true):s.size<=4096↔eA s<cE:=by
 have:=fJ (eA s)
 rwa [hJ h]at this
def pY{m n:Nat}:dec m=dec n↔m=n:=⟨fun h=>by rw[<-bZ m,h,bZ],fun h=>by rw[h]⟩
def szN(n:Nat):ByteArray×Int:=if n<cE then(dec n,0)else(emp,4)
def gF(a b:ByteArray):Int:=if(!eI a|| !eI b)=true then 3 else if(decide (a.size>4096)||decide (b.size>4096))=true then 4 else 0
def Jw(a b:ByteArray):ByteArray×Int:=if gF a b=0 then szN (eA a+eA b)else(emp,gF a b)
def JN(a b:ByteArray):ByteArray×Int:=if gF a b=0 then(if eA a<eA b then(emp,2)else szN (eA a-eA b))else(emp,gF a b)
def JY(a b:ByteArray):ByteArray×Int:=if gF a b=0 then szN (eA a*eA b)else(emp,gF a b)
def Iq(a b:ByteArray):ByteArray×ByteArray×Int:=if gF a b=0 then(if eA b=0 then(emp,emp,10)else(dec (eA a/eA b),dec (eA a%eA b),0))else(emp,emp,gF a b)
def FO(a b:ByteArray):ByteArray×Int:=if gF a b=0 then szN (Nat.gcd (eA a) (eA b))else(emp,gF a b)
def FF{a b:ByteArray}(E:eI a=true)(u:eI b=true)(F:a.size<=4096)(J:b.size<=4096):gF a b=0:=by unfold gF;rw[E,u];simp;omega
def tL{m n:Nat}(u:m<cE)(E:n<cE):gF (dec m) (dec n)=0:=FF (mL m) (mL n) ((fJ m).2 u) ((fJ n).2 E)
def pB{a b:ByteArray}(h:gF a b=0):∃m n,a=dec m/\b=dec n/\m<cE/\n<cE:=by
 unfold gF at h;split at h
 ·cases h
 ·rename_i h1;split at h
  ·cases h
  ·rename_i u;simp only[Bool.or_eq_true,Bool.not_eq_true',not_or,Bool.not_eq_false,decide_eq_true_eq,Nat.not_lt]at h1 u;exact⟨eA a,eA b,(hJ h1.1).symm,(hJ h1.2).symm,(uW h1.1).1 u.1,(uW h1.2).1 u.2⟩
def xY{n:Nat}(h:n<cE):szN n=(dec n,0):=if_pos h
def fN(s:ByteArray):Bool:=(bl s).head? == some 45
def dL(s:ByteArray):ByteArray:=if fN s=true then⟨((bl s).drop 1).toArray⟩else s
def eD(s:ByteArray):Bool:=eI (dL s)&& !(fN s&&eqB (dL s) (dec 0))
def fX(s:ByteArray):Int:=if fN s=true then -(eA (dL s):Int)else eA (dL s)
def zed(n:Int):ByteArray:=⟨(itoa n).toArray⟩
def dG(n:Nat):zed n=dec n:=by unfold zed;rw[itoa_nonneg];rfl
def AB{n:Nat}(h:1<=n):zed (-(n:Int))=⟨((45:UInt8)::decDigits n).toArray⟩:=by unfold zed;rw[itoa_neg n h]
def vR(n:Nat):fN (dec n)=false:=by
 unfold fN;rw[jH];have h1:=vQ n;have u:=JP n;cases h:decDigits n with
 | nil=>exact absurd h u
 | cons c r=>rw[h]at h1;simp only[List.all_cons,Bool.and_eq_true]at h1;have:=lT.1 h1.1;simp only[List.head?_cons,beq_eq_false_iff_ne,ne_eq,Option.some.injEq];intro e;rw[e]at this;simp at this
def Gh(n:Nat):dL (dec n)=dec n:=by unfold dL;rw[vR];rfl
def Bs(l:List UInt8):fN ⟨((45:UInt8)::l).toArray⟩=true:=by unfold fN;rw[gN];rfl
def MT(l:List UInt8):dL ⟨((45:UInt8)::l).toArray⟩=⟨l.toArray⟩:=by unfold dL;rw[Bs,if_pos rfl,gN];rfl
def vB(n:Int):fN (zed n)=decide (n<0):=by
 rcases Int.lt_or_le n 0 with h|h
 ·obtain⟨m,rfl⟩:∃m:Nat,n= -(m:Int):=⟨n.natAbs,by omega⟩;rw[AB (by omega),Bs];simp;omega
 ·obtain⟨m,rfl⟩:∃m:Nat,n=m:=⟨n.toNat,by omega⟩;rw[dG,vR];simp
def jL(n:Int):dL (zed n)=dec n.natAbs:=by
 rcases Int.lt_or_le n 0 with h|h
 ·obtain⟨m,rfl⟩:∃m:Nat,n= -(m:Int):=⟨n.natAbs,by omega⟩;rw[AB (by omega),MT,Int.natAbs_neg,Int.natAbs_natCast];rfl
 ·obtain⟨m,rfl⟩:∃m:Nat,n=m:=⟨n.toNat,by omega⟩;rw[dG,Gh,Int.natAbs_natCast]
def iY(n:Int):eD (zed n)=true:=by
 unfold eD;rw[jL,vB,mL];simp only[Bool.true_and,Bool.not_eq_true',Bool.and_eq_false_iff,decide_eq_false_iff_not];by_cases h:n<0
 ·right;refine mO.2 fun e=>?_
  rw[pY]at e;omega
 ·left;exact h
def cG(n:Int):fX (zed n)=n:=by
 unfold fX;rw[jL,vB,bZ];split
 ·rename_i h;simp only[decide_eq_true_eq]at h;omega
 ·rename_i h;simp only[decide_eq_true_eq]at h;omega
def AJ{s:ByteArray}(h:eD s=true):zed (fX s)=s:=by
 unfold eD at h;simp only[Bool.and_eq_true,Bool.not_eq_true',Bool.and_eq_false_iff]at h;obtain⟨h1,E⟩:=h;have F:=hJ h1;unfold fX;by_cases u:fN s=true
 ·have O : dL s ≠ dec 0 := by
   rcases E with E|E
   ·rw[u]at E;cases E
   ·exact mO.1 E
  rw[if_pos u];have M:1<=eA (dL s):=by
   rcases Nat.eq_zero_or_pos (eA (dL s))with J|J
   ·exact absurd (by rw[<-F,J]) O
   ·exact J
  rw[AB M];refine jB ?_;rw[gN,<-jH,F];unfold dL;rw[if_pos u,gN];unfold fN at u;cases L:bl s with
  | nil=>rw[L]at u;cases u
  | cons c r=>rw[L]at u;simp only[List.head?_cons,beq_iff_eq,Option.some.injEq]at u;subst u;rfl
 ·rw[if_neg u,dG,F];unfold dL;rw[if_neg u]
def J7{m n:Int}:zed m=zed n↔m=n:=⟨fun h=>by rw[<-cG m,h,cG],fun h=>by rw[h]⟩
def szZ(n:Int):ByteArray×Int:=if n.natAbs<cE then(zed n,0)else(emp,4)
def jG(a b:ByteArray):Int:=if(!eD a|| !eD b)=true then 3 else if(decide ((dL a).size>4096)||decide ((dL b).size>4096))=true then 4 else 0
def Hl(a b:ByteArray):ByteArray×Int:=if jG a b=0 then szZ (fX a+fX b)else(emp,jG a b)
def Oj(a b:ByteArray):ByteArray×Int:=if jG a b=0 then szZ (fX a-fX b)else(emp,jG a b)
def sE(a b:ByteArray):ByteArray×Int:=if jG a b=0 then szZ (fX a*fX b)else(emp,jG a b)
def kE(a b:ByteArray):ByteArray×ByteArray×Int:=if jG a b=0 then(if fX b=0 then(emp,emp,10)else(zed ((fX a).fdiv (fX b)),zed ((fX a).fmod (fX b)),0))else(emp,emp,jG a b)
def fV(a b:Int):Int:=if a<b then -1 else if b<a then 1 else 0
def OH(a b:ByteArray):Int:=if eD a=true/\eD b=true then fV (fX a) (fX b)else 0
def AX(a:ByteArray):Int:=if eD a=true then(fX a).sign else 0
def mJ{m n:Int}(u:m.natAbs<cE)(E:n.natAbs<cE):jG (zed m) (zed n)=0:=by unfold jG;rw[iY,iY,jL,jL];have:=(fJ m.natAbs).2 u;have:=(fJ n.natAbs).2 E;simp;omega
def tW{a b:ByteArray}(h:jG a b=0):∃m n:Int,a=zed m/\b=zed n/\m.natAbs<cE/\n.natAbs<cE:=by
 unfold jG at h;split at h
 ·cases h
 ·rename_i h1;split at h
  ·cases h
  ·rename_i u;simp only[Bool.or_eq_true,Bool.not_eq_true',not_or,Bool.not_eq_false,decide_eq_true_eq,Nat.not_lt]at h1 u;have E:=AJ h1.1;have F:=AJ h1.2;refine⟨fX a,fX b,E.symm,F.symm,?_,?_⟩
   ·have:=u.1;rw[<-E,jL]at this;exact(fJ _).1 this
   ·have:=u.2;rw[<-F,jL]at this;exact(fJ _).1 this
def cZ:UInt8:=47
def gZ(s:ByteArray):Bool:=(bl s).any (· == cZ)
def fM(s:ByteArray):ByteArray:=⟨((bl s).takeWhile (· != cZ)).toArray⟩
def fA(s:ByteArray):ByteArray:=if gZ s=true then⟨(((bl s).dropWhile (· != cZ)).drop 1).toArray⟩else dec 1
def bP(s:ByteArray):Bool:=(eD (fM s)&&eI (fA s)&&decide ((dL (fM s)).size<=4096)&&decide ((fA s).size<=4096)) &&
 (!gZ s||(!eqB (fA s) (dec 0)&& !eqB (fA s) (dec 1)&& !eqB (fM s) (dec 0)&&Nat.gcd (fX (fM s)).natAbs (eA (fA s)) == 1))
def fL(s:ByteArray):Rat:=mkRat (fX (fM s)) (eA (fA s))
def slB:ByteArray:=⟨#[47]⟩
def lI(x:Rat):ByteArray:=if x.den=1 then zed x.num else zed x.num++slB++dec x.den
def vM(x:Rat):Prop:=x.num.natAbs<cE/\x.den<cE
def rJ{α:Type}{p:α->Bool}:∀{l:List α},(∀c∈l,p c=true)->l.takeWhile p=l
 | [],_=>rfl
 | a::l,h=>by rw[List.takeWhile_cons,if_pos (h a (by simp)),rJ fun c u=>h c (by simp[u])]
def yM{α:Type}{p:α->Bool}:∀{l:List α} {c:α},c∈l.takeWhile p->p c=true
 | [],c,h=>by simp at h
 | a::l,c,h=>by
  rw[List.takeWhile_cons]at h;split at h
  ·rename_i u;rcases List.mem_cons.1 h with rfl|h
   ·exact u
   ·exact yM h
  ·cases h
def GQ{c:UInt8}(h:isD c=true):(c != cZ)=true:=by have:=lT.1 h;simp only[bne_iff_ne,ne_eq];intro e;rw[e]at this;simp[cZ]at this
def yZ(n:Nat):∀c∈decDigits n,(c != cZ)=true:=fun c u=>GQ (List.all_eq_true.1 (vQ n) c u)
def lY(n:Int):∀c∈itoa n,(c != cZ)=true:=by
 intro c u;unfold itoa at u;split at u
 ·rcases List.mem_cons.1 u with rfl|u
  ·decide
  ·exact yZ _ c u
 ·exact yZ _ c u
def FH(n:Int):bl (zed n)=itoa n:=gN _
def Ue:bl slB=[cZ]:=rfl
def Of{l r:List UInt8}(h:∀c∈l,(c != cZ)=true):(l++cZ::r).takeWhile (· != cZ)=l:=by rw[List.takeWhile_append_of_pos h];simp
def NY{l r:List UInt8}(h:∀c∈l,(c != cZ)=true):(l++cZ::r).dropWhile (· != cZ)=cZ::r:=by rw[List.dropWhile_append_of_pos h];simp
def Uz{l:List UInt8}(h:∀c∈l,(c != cZ)=true):l.any (· == cZ)=false:=by rw[List.any_eq_false];intro c u e;have:=h c u;simp at this e;exact this e
def As(x:Rat):bl (lI x)=if x.den=1 then itoa x.num else itoa x.num++cZ::decDigits x.den:=by
 unfold lI;split
 ·exact FH _
 ·rw[yI,yI,FH,jH,Ue];simp
def BY(x:Rat):gZ (lI x)= !(x.den == 1):=by
 unfold gZ;rw[As];split
 ·rename_i h;rw[Uz (lY _),h];rfl
 ·rename_i h;rw[List.any_append];simp[h]
def Ee(x:Rat):fM (lI x)=zed x.num:=by
 refine jB ?_;unfold fM;rw[gN,As,FH];split
 ·exact rJ (lY _)
 ·exact Of (lY _)
def Dm(x:Rat):fA (lI x)=dec x.den:=by
 unfold fA;rw[BY,As];by_cases h:x.den=1
 ·simp[h]
 ·simp only[h,beq_eq_false_iff_ne.2 h,Bool.not_false,if_true,if_false];rw[NY (lY _)];rfl
def iM(x:Rat):fL (lI x)=x:=by unfold fL;rw[Ee,Dm,cG,bZ,Rat.mkRat_self]
def pK(n:Int):(dL (zed n)).size<=4096↔n.natAbs<cE:=by rw[jL];exact fJ _
def jD{x:Rat}(h:vM x):bP (lI x)=true:=by
 unfold bP;rw[Ee,Dm,iY,mL,BY,cG,bZ];simp only[Bool.true_and,Bool.and_eq_true,decide_eq_true_eq,Bool.or_eq_true,Bool.not_not,beq_iff_eq,Bool.not_eq_true',mO,ne_eq];refine⟨⟨(pK _).2 h.1,(fJ _).2 h.2⟩,?_⟩;by_cases h1:x.den=1
 ·exact .inl h1
 ·refine .inr ⟨⟨⟨?_,?_⟩,?_⟩,x.reduced⟩
  ·rw[pY];exact x.den_nz
  ·rw[pY];exact h1
  ·rw[<-dG,J7];intro h0;apply h1;have:=x.reduced;rw[h0]at this;simpa[Nat.Coprime]using this
def eL{s:ByteArray}(h:bP s=true):∃x:Rat,s=lI x/\vM x/\fM s=zed x.num/\fA s=dec x.den:=by
 unfold bP at h;simp only[Bool.and_eq_true,decide_eq_true_eq,Bool.or_eq_true,Bool.not_eq_true',mO,ne_eq,beq_iff_eq]at h;obtain⟨⟨⟨⟨h1,h2⟩,h3⟩,h4⟩,h5⟩:=h;have ep:=AJ h1;have eq:=hJ h2;have E:(fX (fM s)).natAbs.Coprime (eA (fA s))/\eA (fA s)≠0:=by
  rcases h5 with h5|⟨⟨⟨O,_⟩,_⟩,h7⟩
  ·have F:fA s=dec 1:=by unfold fA;rw[if_neg (by rw[h5];simp)]
   rw[F,bZ];exact⟨Nat.coprime_one_right _,by omega⟩
  ·exact⟨h7,fun e=>O (by rw[<-eq,e])⟩
 let x:Rat:=⟨fX (fM s),eA (fA s),E.2,E.1⟩
 have F:fM s=zed x.num:=ep.symm;have e2:fA s=dec x.den:=eq.symm;refine⟨x,jB ?_,⟨?_,?_⟩,F,e2⟩
 ·rw[As];have M:bl (fM s)=(bl s).takeWhile (· != cZ):=gN _;rw[F,FH]at M;by_cases u:gZ s=true
  ·have hd:bl (fA s)=((bl s).dropWhile (· != cZ)).drop 1:=by unfold fA;rw[if_pos u,gN]
   rw[e2,jH]at hd;have Z:x.den≠1:=fun e=>by
    rcases h5 with h5|⟨⟨⟨_,O⟩,_⟩,_⟩
    ·rw[u]at h5;cases h5
    ·exact O (by rw[e2,e])
   rw[if_neg Z,M,hd]
   conv=>lhs;rw[<-List.takeWhile_append_dropWhile (p:=(· != cZ)) (l:=bl s)]
   congr 1
   cases hw:(bl s).dropWhile (· != cZ)with
   | nil=>exfalso;unfold gZ at u;obtain⟨c,L,J⟩:=List.any_eq_true.1 u;rw[<-List.takeWhile_append_dropWhile (p:=(· != cZ)) (l:=bl s),hw,List.append_nil]at L;have:=yM L;simp at this J;exact this J
   | cons c r=>
    have h0:(c != cZ)=false:=by have:=List.head?_dropWhile_not (p:=(· != cZ)) (l:=bl s);rw[hw]at this;simpa using this
    have:c=cZ:=by simpa using h0
    rw[this];rfl
  ·have u:gZ s=false:=by simpa using u
   have Z:x.den=1:=by
    have:fA s=dec 1:=by unfold fA;rw[u];rfl
    rw[e2]at this;exact pY.1 this
   rw[if_pos Z,M]
   symm
   refine rJ ?_;intro c L;unfold gZ at u;rw[List.any_eq_false]at u;have:=u c L;simp at this |-;exact this
 ·rw[F]at h3;exact(pK _).1 h3
 ·rw[e2]at h4;exact(fJ _).1 h4
def gV(n:Int):Bool:= !decide (n.natAbs<cE)
def GB(x y:Rat):ByteArray×Int:=if(gV (x.num*y.den)||gV (y.num*x.den)||gV (x.num*y.den+y.num*x.den)||gV (x.den*y.den))=true then(emp,4)else(lI (x+y),0)
def Ad(a b:ByteArray):ByteArray×Int:=if(bP a&&bP b)=true then GB (fL a) (fL b)else(emp,3)
def tG(a b:ByteArray):ByteArray×Int:=if(bP a&&bP b)=true then GB (fL a) (-fL b)else(emp,3)
def Ei(x y:Rat):ByteArray×Int:=if(gV (x.num*y.num)||gV (x.den*y.den))=true then(emp,4)else(lI (x*y),0)
def qO(a b:ByteArray):ByteArray×Int:=if(bP a&&bP b)=true then Ei (fL a) (fL b)else(emp,3)
def NT(x y:Rat):Int:=if x<y then -1 else if y<x then 1 else 0
def EV(a b:ByteArray):Int:=if(bP a&&bP b)=true then NT (fL a) (fL b)else 0
def rO(a:ByteArray):Int:=if bP a=true then(fL a).num.sign else 0
def TD{n:Int}{d:Nat}(u:d≠0):n.fdiv (Nat.gcd n.natAbs d:Nat)=(mkRat n d).num:=by rw[Rat.num_mkRat,if_neg u,Nat.gcd_comm];exact Int.fdiv_eq_ediv_of_nonneg _ (by omega)
def Tc{n:Int}{d:Nat}(u:d≠0):(d:Int).fdiv (Nat.gcd n.natAbs d:Nat)=((mkRat n d).den:Int):=by rw[Rat.den_mkRat,if_neg u,Nat.gcd_comm,Int.fdiv_eq_ediv_of_nonneg _ (by omega)];rfl
def wJ{n:Int}{d:Nat}(E:d≠0)(F:n.natAbs<cE)(u:d<cE):vM (mkRat n d):=by
 constructor
 ·rw[Rat.num_mkRat,if_neg E];have:(n/((d.gcd n.natAbs:Nat):Int)).natAbs<=n.natAbs:=by
   rw[Int.natAbs_ediv_of_dvd]
   ·exact Nat.div_le_self _ _
   ·exact Int.ofNat_dvd_left.2 (Nat.gcd_dvd_right _ _)
  omega
 ·rw[Rat.den_mkRat,if_neg E];exact Nat.lt_of_le_of_lt (Nat.div_le_self _ _) u
def Se{n:Int}{d:Nat}(u:d≠0):0<Nat.gcd n.natAbs d:=Nat.gcd_pos_of_pos_right _ (by omega)
def Ov{n:Int}{d:Nat}(u:d≠0)(h:d<cE):Nat.gcd n.natAbs d<cE:=Nat.lt_of_le_of_lt (Nat.gcd_le_right _ (by omega)) h
def fW{n:Int}:gV n=false↔n.natAbs<cE:=by simp[gV]
def Kl(x y:Rat):x+y=mkRat (x.num*y.den+y.num*x.den) (x.den*y.den):=Rat.add_def' x y
def Px(x y:Rat):x*y=mkRat (x.num*y.num) (x.den*y.den):=Rat.mul_def' x y
def Ar(x y:Rat):((x.den:Int)*y.den).natAbs=x.den*y.den:=by rw[Int.natAbs_mul,Int.natAbs_natCast,Int.natAbs_natCast]
def EO(x y:Rat):x.den*y.den≠0:=Nat.mul_ne_zero x.den_nz y.den_nz
def vC{x y:Rat}(h:(GB x y).2=0):GB x y=(lI (x+y),0)/\vM (x+y):=by
 unfold GB at h |-;split at h
 ·cases h
 ·rename_i u;rw[if_neg u];simp only[Bool.or_eq_true,not_or,Bool.not_eq_true,fW]at u;exact⟨rfl,by rw[Kl];exact wJ (EO x y) u.1.2 (by rw[<-Ar];exact u.2)⟩
def Ge{x y:Rat}(h:(Ei x y).2=0):Ei x y=(lI (x*y),0)/\vM (x*y):=by
 unfold Ei at h |-;split at h
 ·cases h
 ·rename_i u;rw[if_neg u];simp only[Bool.or_eq_true,not_or,Bool.not_eq_true,fW]at u;exact⟨rfl,by rw[Px];exact wJ (EO x y) u.1 (by rw[<-Ar];exact u.2)⟩
def Fz(p q r s:Int):Int:=fV (p*s) (r*q)
def mX{p q:Int}(u:0<q):p=p.fdiv q*q+p.fmod q/\0<=p.fmod q/\p.fmod q<q:=
 ⟨by rw[Int.mul_comm];exact(Int.mul_fdiv_add_fmod p q).symm,Int.fmod_nonneg_of_pos _ u,Int.fmod_lt_of_pos _ u⟩
def gG{a b:Int}(h:a<b):fV a b= -1:=if_pos h
def gD{a b:Int}(h:b<a):fV a b=1:=by unfold fV;rw[if_neg (by omega),if_pos h]
def nV{a b:Int}(h:a=b):fV a b=0:=by unfold fV;rw[if_neg (by omega),if_neg (by omega)]
def D8{a b:Int}:fV a b=0↔a=b:=by
 unfold fV;constructor
 ·intro h;split at h
  ·cases h
  ·split at h
   ·cases h
   ·omega
 ·intro h;rw[if_neg (by omega),if_neg (by omega)]
def Nk(a b:Int):fV b a= -fV a b:=by
 rcases Int.lt_trichotomy a b with h|h|h
 ·rw[gG h,gD h];rfl
 ·rw[nV h,nV h.symm];rfl
 ·rw[gD h,gG h]
def Gq{p q r s:Int}(E:0<q)(u:0<s)(h:p.fdiv q<r.fdiv s):p*s<r*q:=by
 obtain⟨F,a1,L⟩:=mX (p:=p) E;obtain⟨e2,a2,J⟩:=mX (p:=r) u;have h1:p*s<(p.fdiv q+1)*q*s:=by refine Int.mul_lt_mul_of_pos_right ?_ u;rw[Int.add_mul];omega
 have O:(p.fdiv q+1)*q*s<=r.fdiv s*q*s:=Int.mul_le_mul_of_nonneg_right (Int.mul_le_mul_of_nonneg_right (by omega) (by omega)) (by omega);have M:r.fdiv s*q*s<=r*q:=by rw[Int.mul_right_comm];exact Int.mul_le_mul_of_nonneg_right (by omega) (by omega)
 omega
def J3{p q r s:Int}(u:0<q)(E:0<s)(h:p.fdiv q≠r.fdiv s):Fz p q r s=fV (p.fdiv q) (r.fdiv s):=by
 unfold Fz;rcases Int.lt_or_gt_of_ne h with h|h
 ·rw[gG h,gG (Gq u E h)]
 ·rw[gD h,gD (Gq E u h)]
def MX{p q r s:Int}(J:0<q)(E:0<s)(h:p.fdiv q=r.fdiv s):Fz p q r s=fV (p.fmod q*s) (r.fmod s*q):=by
 obtain⟨F,_,_⟩:=mX (p:=p) J;obtain⟨e2,_,_⟩:=mX (p:=r) E;unfold Fz;have h1:p*s=p.fdiv q*q*s+p.fmod q*s:=by
  conv=>lhs;rw[F]
  rw[Int.add_mul]
 have L:r*q=p.fdiv q*q*s+r.fmod s*q:=by
  conv=>lhs;rw[e2]
  rw[Int.add_mul,<-h,Int.mul_right_comm]
 rw[h1,L];unfold fV;have u:(p.fdiv q*q*s+p.fmod q*s<p.fdiv q*q*s+r.fmod s*q)↔p.fmod q*s<r.fmod s*q:=by omega
 have c2:(p.fdiv q*q*s+r.fmod s*q<p.fdiv q*q*s+p.fmod q*s)↔r.fmod s*q<p.fmod q*s:=by omega
 simp only[u,c2]
def Nh(x q y s:Int):fV (x*s) (y*q)= -Fz q x s y:=by unfold Fz;rw[Int.mul_comm q y,Int.mul_comm s x];exact Nk _ _
def UY(x y:Rat):NT x y=Fz x.num x.den y.num y.den:=by unfold NT Fz fV;simp only[Rat.lt_iff]
def tZ(b:Nat)(l:List Nat)(k:Nat):ofL b (l.take (k+1))=ofL b (l.take k)+b^k*l.getD k 0:=by
 cases h:l[k]? with
 | none=>have u:=List.getElem?_eq_none_iff.1 h;rw[List.take_of_length_le (by omega),List.take_of_length_le (by omega)];simp[List.getD,h]
 | some x=>rw[gQ b h];simp[List.getD,h]
def Lim.getD{b:Nat}(E:0<b){l:List Nat}(h:Lim b l)(k:Nat):l.getD k 0<b:=by
 cases u:l[k]? with
 | none=>simpa[List.getD,u]using E
 | some x=>simpa[List.getD,u]using h x (List.mem_of_getElem? u)
def Lim.snoc{b:Nat}{l:List Nat}(h:Lim b l){x:Nat}(E:x<b):Lim b (l++[x]):=fun y u=>by
 rcases List.mem_append.1 u with u|u
 ·exact h y u
 ·rw[List.mem_singleton.1 u];exact E
def Lim.set{b:Nat}{l:List Nat}(h:Lim b l){x k:Nat}(E:x<b):Lim b (l.set k x):=fun y u=>by
 rcases List.mem_or_eq_of_mem_set u with u|rfl
 ·exact h y u
 ·exact E
def Lim.take{b:Nat}{l:List Nat}(h:Lim b l)(k:Nat):Lim b (l.take k):=fun y u=>h y (List.mem_of_mem_take u)
def Lim.drop{b:Nat}{l:List Nat}(h:Lim b l)(k:Nat):Lim b (l.drop k):=fun y u=>h y (List.mem_of_mem_drop u)
def Lim.zeros{b:Nat}(E:0<b)(n:Nat):Lim b (List.replicate n 0):=fun y u=>by rw[(List.mem_replicate.1 u).2];exact E
def tK(b:Nat){l:List Nat}{k x:Nat}(h:l[k]?=some x):ofL b (l.drop k)=x+b*ofL b (l.drop (k+1)):=by obtain⟨u,E⟩:=List.getElem?_eq_some_iff.1 h;rw[List.drop_eq_getElem_cons u,E,ofL]
def K8{b:Nat}(F:0<b){l o:List Nat}{i n k c:Nat}(u:l[i]?=some n)(E:o.length=i)(h:ofL b o+b^i*c=ofL b (l.take i)*k):
  ofL b (o++[(n*k+c)%b])+b^(i+1)*((n*k+c)/b)=ofL b (l.take (i+1))*k:=by
 rw[pN,gQ b u,E,Nat.pow_succ];have e:=Nat.mod_add_div (n*k+c) b;have e2:b^i*((n*k+c)%b+b*((n*k+c)/b))=b^i*(n*k+c):=by rw[e]
 grind
def OZ{b:Nat}(E:0<b){x y o:List Nat}{i c:Nat}(u:o.length=i)(h:ofL b o+b^i*c=ofL b (x.take i)+ofL b (y.take i)):
  ofL b (o++[(x.getD i 0+y.getD i 0+c)%b])+b^(i+1)*((x.getD i 0+y.getD i 0+c)/b)=ofL b (x.take (i+1))+ofL b (y.take (i+1)):=by
 rw[pN,tZ,tZ,u,Nat.pow_succ];have e:=Nat.mod_add_div (x.getD i 0+y.getD i 0+c) b;have e2:b^i*((x.getD i 0+y.getD i 0+c)%b+b*((x.getD i 0+y.getD i 0+c)/b))=b^i*(x.getD i 0+y.getD i 0+c):=by rw[e]
 grind
def Kz{b:Nat}{x y o:List Nat}{i c c' d:Nat}(E:o.length=i)(h:ofL b o+ofL b (y.take i)=ofL b (x.take i)+b^i*c)(u:d+y.getD i 0+c=x.getD i 0+b*c'):
  ofL b (o++[d])+ofL b (y.take (i+1))=ofL b (x.take (i+1))+b^(i+1)*c':=by
 rw[pN,tZ,tZ,E,Nat.pow_succ];have e2:b^i*(d+y.getD i 0+c)=b^i*(x.getD i 0+b*c'):=by rw[u]
 grind
def F6{b x y c:Nat}(F:x<b)(u:y<b)(E:c<=1):(if(x:Int)-y-c<0 then(x:Int)-y-c+b else(x:Int)-y-c)=((if x<y+c then x+b-(y+c)else x-(y+c):Nat):Int):=by split <;> split <;> omega
def FN{b x y c:Nat}(F:x<b)(u:y<b)(E:c<=1):(if x<y+c then x+b-(y+c)else x-(y+c))+y+c=x+b*(if x<y+c then 1 else 0)/\(if x<y+c then x+b-(y+c)else x-(y+c))<b:=by split <;> constructor <;> omega
def NP{b:Nat}(M:2<=b){x y o:List Nat}{c:Nat}(J:Lim b o)(O:Lim b x)(L:o.length=x.length)(E:y.length<=x.length)(F:ofL b y<=ofL b x)(Z:c<=1)(h:ofL b o+ofL b (y.take x.length)=ofL b (x.take x.length)+b^x.length*c):
  c=0/\ofL b o=ofL b x-ofL b y:=by
 rw[List.take_of_length_le E,List.take_length]at h;have h1:=kS (by omega) J;rw[L]at h1;rcases Nat.eq_zero_or_pos c with u|u
 ·subst u;rw[Nat.mul_zero]at h;omega
 ·have:c=1:=by omega
  subst this;rw[Nat.mul_one]at h;omega
def PN{b:Nat}(M:0<b){y u F:List Nat}{i k x c v E:Nat}(J:u[i+k]?=some v)(L:y[k]?=some E)(h:ofL b u+b^(i+k)*c=ofL b F+b^i*(x*ofL b (y.take k))):
  ofL b (u.set (i+k) ((v+x*E+c)%b))+b^(i+(k+1))*((v+x*E+c)/b)=ofL b F+b^i*(x*ofL b (y.take (k+1))):=by
 have h1:=F3 b u (i+k) v ((v+x*E+c)%b) J;have e:=Nat.mod_add_div (v+x*E+c) b;have e2:b^(i+k)*((v+x*E+c)%b+b*((v+x*E+c)/b))=b^(i+k)*(v+x*E+c):=by rw[e]
 rw[gQ b L,show i+(k+1)=(i+k)+1 by omega,Nat.pow_succ];have O:b^(i+k)=b^i*b^k:=Nat.pow_add b i k
 grind
def S8{b:Nat}{y u E:List Nat}{i x c:Nat}(F:u[i+y.length]?=some 0)(h:ofL b u+b^(i+y.length)*c=ofL b E+b^i*(x*ofL b (y.take y.length))):
  ofL b (u.set (i+y.length) c)=ofL b E+b^i*(x*ofL b y):=by
 have h1:=F3 b u (i+y.length) 0 c F;rw[List.take_length]at h;rw[<-h];omega
def OU{b r a:Nat}(Z:2<=b){l:List Nat}{i x:Nat}{u:List Nat}(J:l[i]?=some x)(M:x<b)(O:r<a)(L:i<u.length)(h:ofL b (l.drop (i+1))=ofL b (u.drop (i+1))*a+r):
  ofL b (l.drop i)=ofL b ((u.set i ((x+b*r)/a)).drop i)*a+(x+b*r)%a/\(x+b*r)/a<b/\(x+b*r)%a<a:=by
 have E:0<a:=by omega
 have F:(u.set i ((x+b*r)/a))[i]?=some ((x+b*r)/a):=by simp[L]
 refine⟨?_,?_,Nat.mod_lt _ E⟩
 ·rw[tK b J,tK b F,h,List.drop_set_of_lt (by omega)];have e:=Nat.mod_add_div (x+b*r) a
  grind
 ·rw[Nat.div_lt_iff_lt_mul E];have:b*(r+1)<=b*a:=Nat.mul_le_mul_left _ O;rw[Nat.mul_add]at this;omega
def RQ{q r a n:Nat}(u:r<a)(h:n=q*a+r):q=n/a/\r=n%a:=by
 subst h;have E:0<a:=by omega
 constructor
 ·rw[Nat.add_comm,Nat.add_mul_div_right _ _ E,Nat.div_eq_of_lt u,Nat.zero_add]
 ·rw[Nat.add_comm,Nat.add_mul_mod_self_right,Nat.mod_eq_of_lt u]
def Pk(l:List UInt8):∀a:Nat,l.foldl (fun a c=>10*a+(c.toNat-48)) a=a*10^l.length+dQ l:=by
 induction l with
 | nil=>intro a;simp[dQ]
 | cons c l ih=>
  intro a;have h1:=ih (10*a+(c.toNat-48));have u:=ih (10*0+(c.toNat-48));simp only[List.foldl_cons,dQ]at h1 u |-;rw[h1,u,List.length_cons,Nat.pow_succ]
  grind
def tA(a b:List UInt8):dQ (a++b)=dQ a*10^b.length+dQ b:=by rw[dQ,List.foldl_append];exact Pk b _
def AC{l:List UInt8}(h:l.all isD=true):dQ l<10^l.length:=by
 induction l using EM with
 | h0=>simp[dQ]
 | h1 l c ih=>rw[List.all_append]at h;simp only[Bool.and_eq_true,List.all_cons,List.all_nil,Bool.and_true]at h;have:=ih h.1;have u:=lT.1 h.2;rw[pL,List.length_append,List.length_cons,List.length_nil,Nat.pow_succ];omega
def Jc:Nat->Nat->List UInt8
 | 0,_=>[]
 | k+1,x=>Jc k (x/10)++[UInt8.ofNat (48+x%10)]
def DO:∀(k x m:Nat),x<10^k->m≠0->decDigits (x+10^k*m)=decDigits m++Jc k x
 | 0,x,m,hx,hm=>by
  have:x=0:=by simpa using hx
  subst this;simp[Jc]
 | k+1,x,m,hx,hm=>by
  rw[Nat.pow_succ]at hx;have h1:10^(k+1)*m=10*(10^k*m):=by rw[Nat.pow_succ,Nat.mul_comm (10^k) 10,Nat.mul_assoc]
  have u:0<10^k*m:=Nat.mul_pos (Nat.pow_pos (by omega)) (by omega);rw[h1,decDigits,dif_neg (by omega),show(x+10*(10^k*m))/10=x/10+10^k*m by omega,show(x+10*(10^k*m))%10=x%10 by omega,DO k (x/10) m (by omega) hm,Jc,List.append_assoc]
def Ni(k:Nat):Jc k 0=List.replicate k 48:=by
 induction k with
 | zero=>rfl
 | succ k ih=>rw[Jc,Nat.zero_div,ih,List.replicate_succ'];rfl
def L6:∀(k x:Nat),1<=k->x<10^k->Jc k x=List.replicate (k-(decDigits x).length) 48++decDigits x
 | 0,x,hk,hx=>by omega
 | k+1,x,hk,hx=>by
  rw[Jc];by_cases E:x<10
  ·rw[show x/10=0 by omega,Ni,decDigits_one E];simp[Nat.mod_eq_of_lt E]
  ·have u : 1 <= k := by
    rcases Nat.eq_zero_or_pos k with h|h
    ·subst h;simp at hx;omega
    ·exact h
   rw[Nat.pow_succ]at hx;rw[L6 k (x/10) u (by omega)]
   conv=>rhs;rw[decDigits,dif_neg E]
   rw[List.length_append,List.length_cons,List.length_nil,List.append_assoc,show k+1-((decDigits (x/10)).length+(0+1))=k-(decDigits (x/10)).length by omega]
def Vi(x:Nat):List UInt8:=List.replicate (9-(decDigits x).length) 48++decDigits x
def P3{x m:Nat}(u:x<1000000000)(E:m≠0):decDigits (x+1000000000*m)=decDigits m++Vi x:=by have:=DO 9 x m u E;rw[L6 9 x (by omega) u]at this;exact this
def OF{b:Nat}(u:2<=b){n k:Nat}(E:k<(bA b n).length):ofL b ((bA b n).drop k)≠0:=by
 intro h;have J:n≠0:=fun e=>by subst e;rw[dZ]at E;simp at E
 have h1:=Kn u J;have F:ofL b (bA b n)=ofL b ((bA b n).take k)+b^k*ofL b ((bA b n).drop k):=by have:=kO b ((bA b n).take k) ((bA b n).drop k);rw[List.take_append_drop,List.length_take,Nat.min_eq_left (by omega)]at this;exact this
 rw[dH u,h,Nat.mul_zero,Nat.add_zero]at F;have L:=kS (b:=b) (by omega) ((dC u n).take k);rw[List.length_take,Nat.min_eq_left (by omega),<-F]at L;have:b^k<=b^((bA b n).length-1):=Nat.pow_le_pow_right (by omega) (by omega);omega
def dl(l:List UInt8):List Nat:=(l.map fun c=>c.toNat-48).reverse
end Go.Nu
end
section
namespace Go.Aw
open Go.RowKit
section
variable{P:Program}{S:Sg}{w:World}{H:aD}{f:FuncId}{args args':List AV}{K:AV->aD->Prop}
def St.frz(J:St S w H)(l:List Nat):St (S.froze fun k=>if k∈l then H k else none) w (fun k=>if k∈l then none else H k)/\Grow S w (S.froze fun k=>if k∈l then H k else none) w/\St S w fun k=>if k∈l then H k else none:=by
 let Hf:aD:=fun k=>if k∈l then H k else none
 let Hr:aD:=fun k=>if k∈l then none else H k
 have M:∀k r',Hf k=some r'->k∈l/\H k=some r':=fun k r' u=>by
  by_cases e:k∈l
  ·exact⟨e,by simpa[Hf,e]using u⟩
  ·simp[Hf,e]at u
 have F:∀k r',Hr k=some r'->¬k∈l/\H k=some r':=fun k r' u=>by
  by_cases e:k∈l
  ·simp[Hr,e]at u
  ·exact⟨e,by simpa[Hr,e]using u⟩
 refine⟨⟨?_,?_,fun k r' u=>(J.rows k r' (F k r' u).2).keep (S.le_froze Hf) (eG.refl S w) (fun _ _=>rfl),?_,fun k k' r1 L u Z aa g E O=>J.disj k k' r1 L (F k r1 u).2 (F k' L Z).2 aa g E O,J.tabs.keep (S.le_froze Hf) (eG.refl S w)⟩,⟨S.le_froze Hf,fun k u=>.inl u,rfl,rfl,rfl,Nat.le_refl _,fun _ _=>rfl,?_⟩,J.drop fun k r' u=>(M k r' u).2⟩
 ·rintro g (E|E)
  ·exact .inl (J.ro_fz g E)
  ·exact .inr E
 ·rintro g (E|⟨k,r',u,E⟩)
  ·exact J.fz_lt g E
  ·exact(J.rows k r' (M k r' u).2).block_lt E
 ·rintro k r' u g E (h1|⟨i,L,hi,h2⟩)
  ·exact J.free k r' (F k r' u).2 g E h1
  ·exact J.disj k i r' L (F k r' u).2 (M i L hi).2 (fun e=>(F k r' u).1 (e▸(M i L hi).1)) g E h2
 ·rintro g (E|⟨k,r',u,E⟩)
  ·exact .inl E
  ·exact .inr (J.free k r' (M k r' u).2 g E)
def aI.frz(l:List Nat)(L:ConvL (fun k=>if k∈l then H k else none) args args')(h:aI P f args' (fun k=>if k∈l then none else H k) K):aI P f args H K:=by
 intro S w vals O J;obtain⟨h1,h2,h3⟩:=O.frz l;refine(h _ w vals h1 (L.rep h3 J)).mono fun e w' ⟨v,r,H',S',F,hr,u,Z,hg,E⟩=>⟨v,r,H',S',F,hr,u,Z,h2.trans hg,fun k M h0=>E k M ?_⟩
 by_cases e:k∈l
 ·simp[e]
 ·simpa[e]using h0
def PC.useF{r:AV}(l:List Nat)(u:ConvL (fun k=>if k∈l then H k else none) args args')(h:PC P f args' r)(E:K r (fun k=>if k∈l then none else H k)):aI P f args H K:=aI.frz l u (PC.use h E)
def PC.lib{a:List Value}{r:AV}{v:Value}(Z:∀S w,rep S w r v)(h:∀w,(∀t∈ND,mW w t.1=some t.2)->Calls P f a.toArray w fun e w'=>e=.returned v/\Below w.heap.size w w'):PC P f (a.map .v) r:=by
 intro S w vals L hf F;obtain rfl:vals=a:=by
  clear h;induction a generalizing vals with
  | nil=>
   cases vals with
   | nil=>rfl
   | cons x r=>simp[aR]at F
  | cons x a ih=>simp only[List.map_cons,aR]at F;obtain⟨u,t,rfl,h1,h2⟩:=F;simp only[rep]at h1;subst h1;rw[ih t h2]
 refine(h w fun t O=>(L.tabs t O).2).mono fun e w' ⟨M,E⟩=>?_
 exact⟨v,r,bJ,S,M,rfl,L.after E.size fun k J=>E.block k J,Z S w',L.grow E.os E.tape E.output E.size fun k J=>E.block k J,dK.refl _ _⟩
end
end Go.Aw
end
section
namespace Go.Proofs.YtmhpdppobocokaaGreatDoor.Nu
open Go.Proofs.Tryz
open Go.Aw Go.Aw.D Go.Proofs Ty Go.Nu
abbrev bas:Nat:=1000000000
def gB(n:Nat):List AV:=[int n]
def Ia(n:Nat):(gB n).length=1:=(rfl)
def Ul(n:Nat):(gB n).getD 0 .any=int n:=(rfl)
attribute [go_sem] Ia Ul
def cI{H:aD}{k:IntKind}{a b:Int}(h:a=b):Conv H (.v (.int k a)) (.v (.int k b)):=h▸.refl _
def cB{H:aD}{a b:Bool}(h:a=b):Conv H (.v (.bool a)) (.v (.bool b)):=h▸.refl _
def cS{H:aD}{a b:ByteArray}(h:a=b):Conv H (.v (.string a)) (.v (.string b)):=h▸.refl _
def ltB{k n:Nat}(h:decide ((k:Int)<(n:Int))=true):k<n:=by simpa using h
def geB{k n:Nat}(u:k<=n)(h:decide ((k:Int)<(n:Int))=false):k=n:=by
 have:¬k<n:=by simpa using h
 omega
def Vc(s:ByteArray):s.toList=bl s:=ByteArray.toList_eq s
def VO(l:List Nat):cT 1 (l.map gB):=J0 Ia l
def Vm(s:ByteArray)(k:Nat):s.data.getD k 0=(bl s).getD k 0:=by simp[bl,Array.getD_eq_getD_getElem?,List.getD]
def Ub(a:Array UInt8):bl ⟨a⟩=a.toList:=rfl
attribute [go_sem] Vc Vm Ub
def UQ{α:Type}{q:α->Bool}{l:List α}{k:Nat}{c:α}(h:l[k]?=some c)(u:q c=false):l.all q=false:=by
 cases E:l.all q with
 | false=>rfl
 | true=>have:=Xbc.1 E c (Xaf h);rw[u]at this;cases this
def Sa{α:Type}{q:α->Bool}{l:List α}(h:∀c∈l,q c=true):l.all q=true:=Xbc.2 h
def fU{α:Type}{p:α->Prop}{l:List α}{k:Nat}{x:α}(F:l[k]?=some x)(E:p x)(h:∀x∈l.take k,p x):∀x∈l.take (k+1),p x:=by
 rw[bK F];intro y u;rcases Xbj.1 u with u|u
 ·exact h y u
 ·rw[Xap.1 u];exact E
def Vr{c:UInt8}{n:Nat}(u:n<256):(((c.toNat:Int) == (n:Int))=true)↔c=UInt8.ofNat n:=by
 rw[beq_iff_eq];constructor
 ·intro h;have:c.toNat=n:=by omega
  rw[<-this,UInt8.ofNat_toNat]
 ·intro h;rw[h,UInt8.toNat_ofNat'];omega
def JL(l:List UInt8):(l == []||(((l.getD 0 0).toNat:Int) == 48&& !(l == [48])))= !(l != []&&(l.length == 1||l.getD 0 0 != 48)):=by
 cases l with
 | nil=>rfl
 | cons c r=>
  have u:(((c.toNat:Int) == 48)=true)↔c=48:=Vr (n:=48) (by omega);by_cases h:c=48
  ·subst h;cases r <;> rfl
  ·have h1 : ((c.toNat : Int) == 48) = false := by rw[<-Bool.not_eq_true,u];exact h
   simp[h1,h]
def RK(c:UInt8):(decide ((c.toNat:Int)<48)||decide ((c.toNat:Int)>57))= !isD c:=by unfold isD;rw[Xbf];simp only[Bool.or_eq_true,decide_eq_true_eq,Xbs,Bool.and_eq_false_iff,decide_eq_false_iff_not];omega
def u8w{n:Nat}(h:48<=n)(u:n<256):IntKind.u8.wrap ((n:Int)-48)=((n-48:Nat):Int):=by have e:IntKind.u8.wrap ((n:Int)-48)=((n:Int)-48)%256:=rfl;rw[e];omega
def Mn{l:List UInt8}{k:Nat}{c:UInt8}(h:l[k]?=some c):l.getD k 0=c:=by simp[List.getD,h]
def wQ(s:ByteArray)(h:s.size<=4611686018427387904):PC prog 157 [str s] (boo (eI s)):=by
 have hs:=eE s;refine pcd func157 rfl rfl ?_;simp only[go_sem];refine⟨fun h0=>⟨by omega,?_⟩,?_⟩
 ·have:bl s≠[]:=by simpa using h0
  have:=Xbt.2 this;omega
 rw[JL];refine aA (fun M=>?_) (fun M=>?_)
 ·simp only[go_sem];refine cB ?_;unfold eI lN;rw[Xbs]at M;rw[M];rfl
 rw[Bool.not_eq_false']at M;simp only[go_sem];refine⟨fun ρ _=>∃k:Nat,k<=(bl s).length/\ρ 0=str s/\ρ 16=int s.size/\ρ 17=int k/\∀c∈(bl s).take k,isD c=true,fun ρ _=>(bl s).length-aW (ρ 17),⟨0,Xab _,rfl,rfl,rfl,by simp⟩,?_⟩;rintro ρ H ⟨k,hk,h0,F,L,Z⟩;simp only[go_sem,h0,F,L];refine aA (fun u=>?_) (fun E=>?_)
 ·have u:k<(bl s).length:=by have:=ltB u;omega
  obtain⟨c,O⟩:=bG u;have hi:=Mn O;simp only[go_sem,h0,F,L,hi,RK];refine⟨⟨by omega,by omega⟩,fun _=>⟨by omega,by omega⟩,aA (fun J=>?_) (fun J=>?_)⟩
  ·simp only[go_sem];refine cB ?_;unfold eI lN;rw[UQ O (by simpa using J),Bool.and_false]
  ·simp only[go_sem,h0,F,L,aY k];exact⟨⟨k+1,u,rfl,fU O (by simpa using J) Z⟩,by simp only[aF];omega⟩
 ·have E:k=(bl s).length:=by rw[<-hs]at E;exact geB hk E
  subst E;rw[Xai]at Z;simp only[go_sem];refine cB ?_;unfold eI lN;rw[M,Sa Z];rfl
def yL:∀(l:List Nat) (x:Nat),kF (l++[x])=if x=0 then kF l else l++[x]
 | [],x=>by simp only[Xau,kF]
 | y::l,x=>by
  rw[Xaw,kF,yL l x];by_cases h:x=0
  ·rw[if_pos h,if_pos h,kF]
  ·rw[if_neg h,if_neg h];cases l <;> rfl
def UD(l:List Nat)(h:l.length<=4611686018427387904):PC prog 255 [.sl (l.map gB)] (.sl ((kF l).map gB)):=by
 refine pcd func255 rfl rfl ?_;simp only[go_sem];refine⟨fun ρ _=>∃k:Nat,k<=l.length/\ρ 0=.sl ((l.take k).map gB)/\kF (l.take k)=kF l,fun ρ _=>match ρ 0 with| .sl es=>es.length|_=>0,⟨l.length,Xad _,by rw[Xai];rfl,by rw[Xai]⟩,?_⟩;rintro ρ H ⟨k,hk,h0,J⟩;have u:(l.take k).length=k:=by rw[Xaj];omega
 cases k with
 | zero=>
  simp only[go_sem,h0,u,show decide (((0:Nat):Int)>0)=false from rfl];refine aA (fun F=>by cases F) (fun _=>?_);simp only[go_sem,h0];have M:kF l=[]:=by rw[<-J];rfl
  rw[M];exact .refl _
 | succ k=>
 have b1:IntKind.i64.wrap (((k+1:Nat):Int)-1)=(k:Int):=by rw[aV (by omega)];omega
 obtain⟨x,Z⟩:=bG (show k<l.length by omega);have O:(l.take (k+1))[k]?=some x:=by rw[List.getElem?_take,if_pos (by omega)];exact Z
 have L:l.take (k+1)=l.take k++[x]:=bK Z;simp only[go_sem,h0,u,b1,aJ O,show decide (((k+1:Nat):Int)>0)=true from decide_eq_true (by omega)];refine⟨⟨by omega,by omega⟩,aA (fun F=>?_) (fun F=>?_)⟩
 ·have E:x=0:=by simpa using F
  simp only[go_sem,h0,u,b1];refine⟨by omega,⟨⟨k,by omega,?_,?_⟩,?_⟩⟩
  ·rw[<-List.map_take,List.take_take,Xbu (by omega)]
  ·rw[L,yL,if_pos E]at J;exact J
  ·rw[<-List.map_take,Xaa,Xaj];omega
 ·have E:x≠0:=by simpa using F
  simp only[go_sem,h0];rw[L,yL,if_neg E]at J;rw[L,J];exact .refl _
abbrev nl(n:Nat):AV:=.sl ((bA bas n).map gB)
def Fg:nl 0=.sl []:=by simp only[nl,dZ];rfl
def D2{l:List Nat}(E:Lim bas l)(h:l.length<=4611686018427387904){n:Nat}(u:ofL bas l=n):PC prog 255 [.sl (l.map gB)] (nl n):=by
 have:=UD l h
 rwa [Mb (by decide) E u]at this
def cF(l:List Nat):Row:=⟨3,1,l.map gB⟩
def sH{H:aD}{k:Nat}{l:List Nat}{x:Nat}:aE H k (some ⟨3,1,l.map gB++[[int (x:Int)]]⟩) k=some (cF (l++[x])):=by rw[aB];simp only[cF,Xak,Xar,Xay];rfl
def QY(s:ByteArray)(hr:(bl s).all isD=true)(h:s.size<=4096):PC prog 254 [str s] (nl (eA s)):=by
 have hs:=eE s;refine pcb (fun t=>t == 3) func254 rfl rfl ?_;simp only[go_sem];refine aL fun j hj=>?_
 simp only[go_sem];refine⟨fun ρ H=>∃(m j:Nat) (o:List Nat),m<=(bl s).length/\ρ 0=str (s.extract 0 m)/\ρ 3=.os j/\H j=some (cF o)/\Lim bas o/\o.length<=(bl s).length-m/\ofL bas o+bas^o.length*dQ ((bl s).take m)=eA s,fun ρ _=>match ρ 0 with| .v (.string t)=>t.size|_=>0,⟨(bl s).length,j,[],Xad _,?_,by simp only[go_sem],aB _ _ _,by simp[Lim],by simp,?_⟩,?_⟩
 ·rw[show s.extract 0 (bl s).length=s from jB (by rw[fP,Xai,Xbk])];rfl
 ·rw[Xai];simp[ofL,eA]
 clear hj j;rintro ρ H ⟨m,j,o,hm,h0,E,M,ho,ae,hv⟩;have u:(s.extract 0 m).size=m:=by rw[<-eE,fP,Xbk,Xaj];omega
 simp only[go_sem,h0,E,u];refine aA (fun hb=>?_) (fun hb=>?_)
 ·have O:0<m:=by simpa using hb
  have e9:rY 0 (IntKind.i64.wrap ((m:Int)-9))=((m-9:Nat):Int):=by rw[aV (by omega)];unfold rY;split <;> omega
  simp only[go_sem,h0,E,u];refine⟨fun ρ H=>∃i:Nat,m-9<=i/\i<=m/\ρ 0=str (s.extract 0 m)/\ρ 3=.os j/\ρ 4=int (m-9:Nat)/\ρ 5=int (dQ (((bl s).take i).drop (m-9)):Nat)/\ρ 6=int i/\H j=some (cF o),fun ρ _=>m-aW (ρ 6),
   ⟨m-9,Xad _,by omega,by simp only[go_sem,h0],by simp only[go_sem,E],?_,?_,?_,M⟩,?_⟩
  ·simp only[go_sem,e9]
  ·simp only[go_sem];rw[List.drop_eq_nil_of_le (by rw[Xaj];omega)];rfl
  ·simp only[go_sem,e9]
  clear h0 E M;rintro ρ H ⟨i,ag,ac,h0,E,h4,h5,h6,M⟩;simp only[go_sem,h0,E,h4,h5,h6,u];refine aA (fun J=>?_) (fun L=>?_)
  ·have J:i<m:=ltB J;obtain⟨c,F⟩:=bG (show i<(bl s).length by omega);have hx:(bl (s.extract 0 m)).getD i 0=c:=by rw[fP,Xbk];exact Mn (by rw[List.getElem?_take,if_pos J];exact F)
   have hd:=lT.1 (Xbc.1 hr c (Xaf F));have ab:=AC (l:=((bl s).take i).drop (m-9)) (Xbc.2 fun c F=>Xbc.1 hr c (List.mem_of_mem_take (List.mem_of_mem_drop F)));have aa:10^(((bl s).take i).drop (m-9)).length<=10^9:=Xam (by omega) (by rw[List.length_drop,Xaj];omega);have e1:((bl s).take (i+1)).drop (m-9)=((bl s).take i).drop (m-9)++[c]:=by rw[bK F,List.drop_append_of_le_length (by rw[Xaj];omega)]
   have e2:IntKind.i64.wrap (IntKind.i64.wrap (10*((dQ (((bl s).take i).drop (m-9)):Nat):Int))+IntKind.i64.wrap (IntKind.u8.wrap ((c.toNat:Int)-48)))=((dQ (((bl s).take (i+1)).drop (m-9)):Nat):Int):=by rw[e1,pL,u8w hd.1 (by omega)];generalize dQ (((bl s).take i).drop (m-9))=V at *;rw[show IntKind.i64.wrap (10*(V:Int))=10*(V:Int)from aV (by omega),show IntKind.i64.wrap (((c.toNat-48:Nat):Int))=((c.toNat-48:Nat):Int)from aV (by omega),aV (by omega)];omega
   simp only[go_sem,h0,E,h4,h5,h6,u,hx,e2,aY i];exact⟨⟨by omega,by omega⟩,⟨i+1,by omega,by omega,rfl,rfl,M⟩,by simp only[aF];omega⟩
  ·have L:i=m:=geB ac L;subst L;simp only[go_sem,h0,E,h4,h5,h6,u];have hL:(((bl s).take i).drop (i-9)).length=i-(i-9):=by rw[List.length_drop,Xaj];omega
   have hA:(((bl s).take i).drop (i-9)).all isD=true:=Xbc.2 fun c F=>Xbc.1 hr c (List.mem_of_mem_take (List.mem_of_mem_drop F))
   have ab:=AC hA;have aa:10^(((bl s).take i).drop (i-9)).length<=10^9:=Xam (by omega) (by omega);have Z:dQ ((bl s).take i)=dQ ((bl s).take (i-9))*10^(((bl s).take i).drop (i-9)).length+dQ (((bl s).take i).drop (i-9)):=by
    rw[<-tA]
    congr 1
    conv=>lhs;rw[<-List.take_append_drop (i-9) ((bl s).take i)]
    rw[List.take_take,Xbu (by omega)]
   generalize dQ (((bl s).take i).drop (i-9))=x at *;refine cD M ⟨rfl,rfl⟩ ⟨rfl,trivial⟩ (by simp only[cF,Xaa,Xae,List.length_nil];omega) (fun j' af=>?_);simp only[go_sem,h0,E,h4,h5,h6,u];refine⟨⟨by omega,by omega⟩,⟨⟨i-9,j',o++[x],by omega,?_,rfl,sH,ho.snoc (show x<1000000000 by omega),?_,?_⟩,?_⟩⟩
   ·congr 2
    refine jB ?_;rw[fP,fP,fP];simp only[Xbk,List.take_take];rw[Xbu (by omega)]
   ·rw[Xac,Xae,List.length_nil];omega
   ·rw[<-hv,Z,pN,Xac,Xae,List.length_nil,Xbl];by_cases h9:9<=i
    ·rw[hL,show i-(i-9)=9 by omega]
     grind
    ·rw[show i-9=0 by omega];simp only[List.take_zero,dQ,List.foldl_nil]
     grind
   ·rw[<-eE,fP,fP];simp only[Xbk,Xaj];omega
 ·have O:m=0:=by simpa using hb
  subst O;simp only[go_sem,h0,E];refine PC.useF [j] (.cons _ _ _ _ (.row _ _ _ (by simp[M];rfl) (ConvE.refl _)) .nil) (D2 ho (by omega) (n:=eA s) (by rw[<-hv];simp[dQ])) ?_;simp only[go_sem];exact .refl _
def neN{a b:Nat}(h:((a:Int) != (b:Int))=true):a≠b:=by rw[bne_iff_ne]at h;omega
def eqN{a b:Nat}(h:((a:Int) != (b:Int))=false):a=b:=by rw[bne_eq_false_iff_eq]at h;omega
def SB{a b:Int}(h:a<=b):fV a b<=0:=by
 unfold fV;split
 ·omega
 ·rw[if_neg (by omega)];omega
def LC(n:Int):PC prog 97 [int n] (boo false):=by refine pcd func97 rfl rfl ?_;simp only[go_sem];exact cB (by simp)
def Fh(a b:Int):PC prog 45 [int a,int b] (int (fV a b)):=by
 refine pcd func45 rfl rfl ?_;simp only[go_sem];refine aN (LC a) ?_;simp only[go_sem];refine aN (LC b) ?_;simp only[go_sem];refine aA (fun h=>by cases h) (fun _=>?_);simp only[go_sem];refine aA (fun h=>by cases h) (fun _=>?_);simp only[go_sem];refine aA (fun h=>?_) (fun h=>?_)
 ·simp only[go_sem];exact cI (by rw[gG (by simpa using h)])
 ·simp only[go_sem];refine aA (fun u=>?_) (fun u=>?_)
  ·simp only[go_sem];exact cI (by rw[gD (by simpa using u)])
  ·simp only[go_sem];exact cI (by rw[nV (by simp at h u;omega)])
def Le(l:List Nat)(i:Nat)(hi:i<=4611686018427387904):PC prog 223 [.sl (l.map gB),int i] (int (l.getD i 0:Nat)):=by
 refine pcd func223 rfl rfl ?_;simp only[go_sem];refine aA (fun h=>?_) (fun h=>?_)
 ·have h:=ltB h;obtain⟨x,u⟩:=bG h;have E:=inB h;simp only[go_sem,aJ u,E];exact cI (by simp[List.getD,u])
 ·simp only[go_sem];have h:¬i<l.length:=by simpa using h
  exact cI (by simp[List.getD,List.getElem?_eq_none (by omega:l.length<=i)])
def Th{l r:List Nat}(O:Lim bas l)(M:Lim bas r)(u:l.length=r.length){k x y:Nat}(F:l[k]?=some x)(L:r[k]?=some y)(J:l.drop (k+1)=r.drop (k+1))(E:x≠y):fV (x:Int) y=fV (ofL bas l) (ofL bas r):=by
 rcases Nat.lt_or_gt_of_ne E with h|h
 ·have:=Eo (b:=bas) (by decide) O M u F L h J;rw[gG (by omega),gG (by omega)]
 ·have:=Eo (b:=bas) (by decide) M O u.symm L F h J.symm;rw[gD (by omega),gD (by omega)]
def yC(m n:Nat)(hm:(bA bas m).length<=1048576)(hn:(bA bas n).length<=1048576):PC prog 224 [nl m,nl n] (int (fV m n)):=by
 have om:=dH (b:=bas) (by decide) m;have on:=dH (b:=bas) (by decide) n;have lm:=dC (b:=bas) (by decide) m;have ln:=dC (b:=bas) (by decide) n;have ab:(bA bas m).length<(bA bas n).length->m<n:=CT (by decide);have M:(bA bas n).length<(bA bas m).length->n<m:=CT (by decide);simp only[nl];generalize bA bas m=a at *;generalize bA bas n=b at *;refine pcd func224 rfl rfl ?_;simp only[go_sem];refine aA (fun h=>?_) (fun h=>?_)
 ·simp only[go_sem];refine aN (Fh _ _) ?_;simp only[go_sem];refine cI ?_;have h:a.length≠b.length:=neN h;rcases Nat.lt_or_gt_of_ne h with h|h
  ·have:=ab h;rw[gG (by omega),gG (by omega)]
  ·have:=M h;rw[gD (by omega),gD (by omega)]
 have E:a.length=b.length:=eqN h;simp only[go_sem];refine⟨fun ρ _=>∃k:Nat,k<=a.length/\ρ 0=.sl (a.map gB)/\ρ 1=.sl (b.map gB)/\ρ 5=int ((k:Int)-1)/\a.drop k=b.drop k,fun ρ _=>match ρ 5 with| .v (.int _ z)=>(z+1).toNat|_=>0,⟨a.length,Xad _,by simp only[go_sem],by simp only[go_sem],by simp only[go_sem,zC (show a.length<=4611686018427387904 by omega)],by rw[List.drop_eq_nil_of_le (Xad _),List.drop_eq_nil_of_le (by omega)]⟩,?_⟩;rintro ρ H ⟨k,hk,h0,h1,h5,O⟩;simp only[go_sem,h0,h1,h5];refine aA (fun hb=>?_) (fun hb=>?_)
 ·have F:0<k:=by simp at hb;omega
  obtain⟨k,rfl⟩:∃j,k=j+1:=⟨k-1,by omega⟩;rw[show((k+1:Nat):Int)-1=(k:Int)by omega]at h5 |-;obtain⟨x,J⟩:=bG (show k<a.length by omega);obtain⟨y,L⟩:=bG (show k<b.length by omega);have b1:=inB (show k<a.length by omega);have b2:=inB (show k<b.length by omega);simp only[go_sem,h0,h1,h5];refine eZ (by rfl) (by kernel_rfl) ?_;simp only[go_sem,h0,h1,h5,aJ J,aJ L,b1,b2];refine aA (fun u=>?_) (fun u=>?_)
  ·simp only[go_sem,h0,h1,h5];refine eZ (by rfl) (by kernel_rfl) ?_;simp only[go_sem,h0,h1,h5,aJ J,aJ L,b1,b2];refine⟨_,(Fh x y).q rfl,?_⟩;simp only[go_sem];exact cI (by rw[Th lm ln E J L O (neN u),om,on])
  ·have Z:x=y:=eqN u;simp only[go_sem,h0,h1,h5,zC (show k<=4611686018427387904 by omega)];refine⟨⟨k,by omega,rfl,?_⟩,by omega⟩;have e1:a.drop k=x::a.drop (k+1):=by rw[List.drop_eq_getElem_cons (by omega)];congr 1;exact(List.getElem?_eq_some_iff.1 J).2
   have e2:b.drop k=y::b.drop (k+1):=by rw[List.drop_eq_getElem_cons (by omega)];congr 1;exact(List.getElem?_eq_some_iff.1 L).2
   rw[e1,e2,O,Z]
 ·have F:k=0:=by simp at hb;omega
  subst F;simp only[go_sem];refine cI ?_;have aa:a=b:=by simpa using O
  rw[nV];rw[<-om,<-on,aa]
def tw(a b:ByteArray)(n:Nat):List (List AV):=if gF a b=0 then(bA bas n).map gB else[]
def Bt{a b:ByteArray}{n:Nat}(h:gF a b=0):tw a b n=(bA bas n).map gB:=if_pos h
def Lv{a b:ByteArray}{n:Nat}(h:gF a b≠0):tw a b n=[]:=if_neg h
def I6(a b:ByteArray)(M:a.size<=1048576)(L:b.size<=1048576):PC prog 215 [str a,str b] (.tup [.sl (tw a b (eA a)),.sl (tw a b (eA b)),int (gF a b)]):=by
 refine pcd func215 rfl rfl ?_;simp only[go_sem];refine aN (wQ a (by omega)) ?_;simp only[go_sem];refine⟨_,fun _=>(wQ b (by omega)).q rfl,?_⟩;simp only[go_sem];refine aA (fun h=>?_) (fun h=>?_)
 ·simp only[go_sem];have e:gF a b=3:=by unfold gF;rw[if_pos h]
  rw[Lv (by rw[e];decide),Lv (by rw[e];decide),e];exact .refl _
 have u:eI a=true/\eI b=true:=by simpa using h
 simp only[go_sem];refine aA (fun F=>?_) (fun F=>?_)
 ·simp only[go_sem];have J:(decide (a.size>4096)||decide (b.size>4096))=true:=by simp at F |-;omega
  have e:gF a b=4:=by unfold gF;rw[if_neg (by rw[h];simp),if_pos J]
  rw[Lv (by rw[e];decide),Lv (by rw[e];decide),e];exact .refl _
 have E:a.size<=4096/\b.size<=4096:=by simp at F;omega
 have e:gF a b=0:=FF u.1 u.2 E.1 E.2;have d:∀{s:ByteArray},eI s=true->(bl s).all isD=true:=fun h=>by unfold eI lN at h;simp only[Xav]at h;exact h.2
 simp only[go_sem];refine aN (QY a (d u.1) E.1) ?_;simp only[go_sem];refine aN (QY b (d u.2) E.2) ?_;simp only[go_sem];rw[Bt e,Bt e,e];exact .refl _
def EF{H:aD}{j:Nat}:aE H j (some ⟨3,1,[]⟩) j=some (cF []):=aB _ _ _
def Mo(m k:Nat)(hm:(bA bas m).length<=1048576)(hk:k<bas):PC prog 257 [nl m,int k] (nl (m*k)):=by
 have hk:k<1000000000:=hk;have om:=dH (b:=bas) (by decide) m;have lm:=dC (b:=bas) (by decide) m;simp only[nl];generalize bA bas m=l at *;have ae:IntKind.i64.wrap ((l.length:Int)+1)=((l.length+1:Nat):Int):=nN (by omega);refine pcb (fun t=>t == 5) func257 rfl rfl ?_;simp only[go_sem];refine⟨by omega,aL fun j hj=>?_⟩;simp only[go_sem];refine⟨fun ρ H=>∃(i j c:Nat) (o:List Nat),i<=l.length/\ρ 1=int k/\ρ 13=.sl (l.map gB)/\ρ 14=int l.length/\ρ 5=.os j/\ρ 6=int c/\ρ 15=int i/\H j=some (cF o)/\Lim bas o/\o.length=i/\c<1000000000/\ofL bas o+bas^i*c=ofL bas (l.take i)*k,fun ρ _=>l.length-aW (ρ 15),
  ⟨0,j,0,[],Xab _,by simp only[go_sem],by simp only[go_sem],by simp only[go_sem,Xaa],by simp only[go_sem],by simp only[go_sem];rfl,by simp only[go_sem];rfl,EF,by simp[Lim],rfl,by omega,by simp[ofL]⟩,?_⟩
 clear hj j;rintro ρ H ⟨i,j,c,o,hi,h1,L,E,h5,O,F,Rj,ho,J,hc,hv⟩;simp only[go_sem,h1,L,E,h5,O,F];refine aA (fun u=>?_) (fun M=>?_)
 ·have u:=ltB u;obtain⟨n,hn⟩:=bG u;have b1:=inB u;have af:n<1000000000:=lm n (Xaf hn);have ac:n*k<=999999999*999999999:=Nat.mul_le_mul (by omega) (by omega);have e1:IntKind.i64.wrap (IntKind.i64.wrap ((n:Int)*(k:Int))+(c:Int))=((n*k+c:Nat):Int):=by rw[show(n:Int)*(k:Int)=((n*k:Nat):Int)from(Int.natCast_mul n k).symm];generalize n*k=p at *;rw[show IntKind.i64.wrap (p:Int)=(p:Int)from aV (by omega),aV (by omega)];omega
  have ab:=K8 (b:=bas) (by decide) hn J hv;simp only[go_sem,h1,L,E,h5,O,F,aJ hn,b1,e1];have hq:(n*k+c)/1000000000<1000000000:=by omega
  have e2:IntKind.i64.wrap ((((n*k+c:Nat):Int)).tdiv 1000000000)=(((n*k+c)/1000000000:Nat):Int):=by generalize n*k+c=p at *;rw[Xbz (by omega),aV (by omega)];omega
  have e3:(((n*k+c:Nat):Int)).tmod 1000000000=(((n*k+c)%1000000000:Nat):Int):=by rw[Int.tmod_eq_emod_of_nonneg (by omega)];omega
  simp only[e2,e3];refine⟨by decide,?_⟩;refine cD Rj ⟨rfl,rfl⟩ ⟨rfl,trivial⟩ (by simp only[cF,Xaa,Xae,List.length_nil];omega) (fun Z aa=>?_);simp only[go_sem,h1,L,E,h5,O,F,e2,aY i];refine⟨by decide,⟨i+1,Z,_,o++[(n*k+c)%bas],u,rfl,rfl,rfl,sH,ho.snoc (Nat.mod_lt _ (by decide)),by simp[J],hq,ab⟩,by simp only[aF];omega⟩
 ·have M:=geB hi M;subst M;simp only[go_sem,h5,O];refine cD Rj ⟨rfl,rfl⟩ ⟨rfl,trivial⟩ (by simp only[cF,Xaa,Xae,List.length_nil];omega) (fun Z aa=>?_);simp only[go_sem];have hT:Lim bas (o++[c]):=ho.snoc hc;have hV:ofL bas (o++[c])=m*k:=by rw[pN,J,hv,Xai,om]
  refine PC.useF [Z] (.cons _ _ _ _ (.row _ _ _ (by simp only[Xap,if_true];exact sH) (ConvE.refl _)) .nil) (D2 hT (by simp;omega) hV) ?_;simp only[go_sem];exact .refl _
def Ma(m n:Nat)(hm:(bA bas m).length<=1048576)(af:n<=m):PC prog 225 [nl m,nl n] (nl (m-n)):=by
 have om:=dH (b:=bas) (by decide) m;have on:=dH (b:=bas) (by decide) n;have lm:=dC (b:=bas) (by decide) m;have ln:=dC (b:=bas) (by decide) n;have ag:=dJ (b:=bas) (by decide) af;simp only[nl];generalize bA bas m=x at *;generalize bA bas n=y at *;refine pcb (fun t=>t == 5) func225 rfl rfl ?_;simp only[go_sem];refine⟨by omega,aL fun j hj=>?_⟩;simp only[go_sem];refine⟨fun ρ H=>∃(i j c:Nat) (o:List Nat),i<=x.length/\ρ 0=.sl (x.map gB)/\ρ 1=.sl (y.map gB)/\ρ 13=int x.length/\ρ 5=.os j/\ρ 6=int c/\ρ 14=int i/\H j=some (cF o)/\Lim bas o/\o.length=i/\c<=1/\ofL bas o+ofL bas (y.take i)=ofL bas (x.take i)+bas^i*c,fun ρ _=>x.length-aW (ρ 14),
  ⟨0,j,0,[],Xab _,by simp only[go_sem],by simp only[go_sem],by simp only[go_sem,Xaa],by simp only[go_sem],by simp only[go_sem];rfl,by simp only[go_sem];rfl,EF,by simp[Lim],rfl,by omega,by simp[ofL]⟩,?_⟩
 clear hj j;rintro ρ H ⟨i,j,c,o,hi,h0,h1,E,h5,L,u,Rj,ho,O,hc,hv⟩;simp only[go_sem,h0,h1,E,h5,L,u];refine aA (fun J=>?_) (fun Z=>?_)
 ·have J:=ltB J;obtain⟨a,ha⟩:=bG J;have ae:x.getD i 0=a:=by simp[List.getD,ha]
  have b1:=inB J;have ac:a<1000000000:=lm a (Xaf ha);have aa:y.getD i 0<1000000000:=ln.getD (by decide) i;simp only[go_sem,h0,h1,E,h5,L,u];refine eZ (by rfl) (by kernel_rfl) ?_;simp only[go_sem,h0,h1,E,h5,L,u,aJ ha,b1];refine⟨_,(Le y i (by omega)).q rfl,?_⟩;have aj:=F6 (b:=1000000000) ac aa hc;have ab:=FN (b:=1000000000) ac aa hc;have ah:=Kz (b:=bas) (x:=x) (y:=y) (c':=if a<y.getD i 0+c then 1 else 0) (d:=if a<y.getD i 0+c then a+1000000000-(y.getD i 0+c)else a-(y.getD i 0+c)) O hv (by rw[ae];exact ab.1);generalize y.getD i 0=yi at *;have e1:IntKind.i64.wrap (IntKind.i64.wrap ((a:Int)-(yi:Int))-(c:Int))=(a:Int)-yi-c:=by rw[show IntKind.i64.wrap ((a:Int)-(yi:Int))=(a:Int)-yi from aV (by omega),aV (by omega)]
  simp only[go_sem,h0,h1,E,h5,L,u,e1];refine gC (fun F H'=>F 0=.sl (x.map gB)/\F 1=.sl (y.map gB)/\F 13=int x.length/\F 5=.os j/\F 14=int i/\H' j=some (cF o)/\F 8=int (if a<yi+c then a+1000000000-(yi+c)else a-(yi+c):Nat)/\F 6=int (if a<yi+c then 1 else 0:Nat)) ?_ fun K hK=>aA (fun M=>?_) (fun M=>?_)
  rotate_left
  ·have M:a<yi+c:=by simp at M;omega
   have e2:IntKind.i64.wrap ((a:Int)-yi-c+1000000000)=((a+1000000000-(yi+c):Nat):Int):=by rw[aV (by omega)];omega
   simp only[go_sem,h0,h1,E,h5,L,u,e2];exact hK _ _ ⟨by simp only[go_sem,h0],by simp only[go_sem,h1],by simp only[go_sem,E],by simp only[go_sem,h5],by simp only[go_sem,u],Rj,by simp only[go_sem,if_pos M],by simp only[go_sem,if_pos M];rfl⟩
  ·have M:¬a<yi+c:=by simp at M;omega
   simp only[go_sem,h0,h1,E,h5,L,u];refine hK _ _ ⟨by simp only[go_sem,h0],by simp only[go_sem,h1],by simp only[go_sem,E],by simp only[go_sem,h5],by simp only[go_sem,u],Rj,?_,by simp only[go_sem,if_neg M];rfl⟩;simp only[go_sem,if_neg M]
   congr 2
   omega
  clear h0 h1 E h5 L u Rj;rintro ρ H ⟨h0,h1,E,h5,u,Rj,h8,L⟩;simp only[go_sem,h0,h1,E,h5,L,u,h8];refine cD Rj ⟨rfl,rfl⟩ ⟨rfl,trivial⟩ (by simp only[cF,Xaa,Xae,List.length_nil];omega) (fun j' ai=>?_);simp only[go_sem,h0,h1,E,h5,L,u,aY i];exact⟨⟨i+1,j',_,_,J,rfl,rfl,rfl,sH,ho.snoc ab.2,by simp[O],by split <;> omega,ah⟩,by simp only[aF];omega⟩
 ·have Z:=geB hi Z;subst Z;simp only[go_sem,h5];obtain⟨_,hV⟩:=NP (b:=bas) (by decide) ho lm O ag (by omega) hc hv;refine PC.useF [j] (.cons _ _ _ _ (.row _ _ _ (by simp only[Xap,if_true];exact Rj) (ConvE.refl _)) .nil) (D2 ho (by omega) (hV.trans (by rw[om,on]))) ?_;simp only[go_sem];exact .refl _
def VL{d r q:Nat}(h1:d*q<=r)(E:r<d*(q+1))(u:0<d):q=r/d:=by
 symm
 exact(Nat.div_eq_iff u).2 ⟨by rw[Nat.mul_comm];exact h1,by rw[Nat.mul_add,Nat.mul_one]at E;rw[Nat.mul_comm q d];omega⟩
def RZ(r d:Nat)(hr:(bA bas r).length<=1048576)(hd:0<d)(aa:(bA bas d).length<=1048575)(h:r<d*bas):PC prog 256 [nl r,nl d] (int (r/d:Nat)):=by
 refine pcd func256 rfl rfl ?_;simp only[go_sem];refine⟨fun ρ _=>∃a b:Nat,a<=b/\b<1000000000/\ρ 0=nl r/\ρ 1=nl d/\ρ 5=int a/\ρ 6=int b/\d*a<=r/\r<d*(b+1),fun ρ _=>aW (ρ 6)-aW (ρ 5),⟨0,999999999,by omega,by omega,by simp only[go_sem],by simp only[go_sem],by simp only[go_sem];rfl,by simp only[go_sem];rfl,by simp,h⟩,?_⟩;rintro ρ H ⟨a,b,Z,hb,h0,h1,h5,F,J,M⟩;simp only[go_sem,h0,h1,h5,F];refine aA (fun L=>?_) (fun E=>?_)
 ·have L:=ltB L;have e1:IntKind.i64.wrap ((IntKind.i64.wrap (IntKind.i64.wrap ((a:Int)+(b:Int))+1)).tdiv 2)=(((a+b+1)/2:Nat):Int):=by rw[show IntKind.i64.wrap ((a:Int)+(b:Int))=((a+b:Nat):Int)by rw[aV (by omega)];omega,nN (by omega),Xbz (by omega),aV (by omega)];omega
  simp only[go_sem,h0,h1,h5,F,e1];refine⟨by decide,?_⟩;have hm:(a+b+1)/2<bas:=show _<1000000000 by omega
  have ac:a<(a+b+1)/2:=by omega
  have ab:(a+b+1)/2<=b:=by omega
  generalize (a+b+1)/2=m at *;refine aN (Mo d m (by omega) hm) ?_;simp only[go_sem,h0,h1,h5,F];have O:(bA bas (d*m)).length<=1048576:=by
   have h1:=kS (b:=bas) (by decide) (dC (b:=bas) (by decide) d);rw[dH (by decide)]at h1;have h2:d*m<bas^((bA bas d).length+1):=by rw[Xbl];exact Xaz (Nat.mul_lt_mul_of_pos_left hm hd) (Nat.mul_le_mul_right _ (Nat.le_of_lt h1))
   have:=jY (b:=bas) (by decide) h2;omega
  refine aN (yC (d*m) r O hr) ?_;simp only[go_sem,h0,h1,h5,F];refine aA (fun u=>?_) (fun u=>?_)
  ·have u : d * m <= r := by
    rcases Xbd r (d*m)with h|h
    ·rw[gD (by omega)]at u;simp at u
    ·exact h
   simp only[go_sem,h0,h1,h5,F];exact⟨⟨m,b,by omega,hb,rfl,rfl,u,M⟩,by simp only[aF];omega⟩
  ·have u : r < d * m := by
    rcases Xbd r (d*m)with h|h
    ·exact h
    ·exfalso;exact of_decide_eq_false u (SB (by omega))
   simp only[go_sem,h0,h1,h5,F];refine⟨⟨a,m-1,by omega,by omega,rfl,?_,J,?_⟩,?_⟩
   ·rw[zC (by omega)];congr 2;omega
   ·rw[show m-1+1=m by omega];exact u
   ·rw[zC (by omega)];simp only[aF];omega
 ·have E:=geB Z E;subst E;simp only[go_sem,h5];exact cI (by rw[VL J M hd])
def Ay{u:List Nat}{k v q:Nat}(h:u[k]?=some v):({ cF u with es:=(cF u).es.set k (kI ((cF u).es.getD k []) 0 [int (q:Int)]) }:Row)=cF (u.set k q):=by simp only[cF,aJ h,List.map_set];rfl
def Iv(m n:Nat)(hm:(bA bas m).length<=1048570)(hn:0<n)(ap:(bA bas n).length<=1048570):PC prog 216 [nl m,nl n] (.tup [nl (m/n),nl (m%n)]):=by
 have om:=dH (b:=bas) (by decide) m;have lm:=dC (b:=bas) (by decide) m;rw[show nl m=.sl ((bA bas m).map gB)from rfl];generalize bA bas m=l at *;refine pcb (fun t=>t == 6||t == 23) func216 rfl rfl ?_;simp only[go_sem];refine⟨by omega,aL fun j hj=>?_⟩;simp only[go_sem];refine⟨fun ρ H=>∃(k r:Nat) (u:List Nat),k<=l.length/\ρ 0=.sl (l.map gB)/\ρ 1=nl n/\ρ 6=.os j/\ρ 7=nl r/\ρ 8=int ((k:Int)-1)/\H j=some (cF u)/\Lim bas u/\u.length=l.length/\r<n/\ofL bas (l.drop k)=ofL bas (u.drop k)*n+r/\u.take k=List.replicate k 0,fun ρ _=>match ρ 8 with| .v (.int _ z)=>(z+1).toNat|_=>0,
  ⟨l.length,0,List.replicate l.length 0,Xad _,by simp only[go_sem],by simp only[go_sem],by simp only[go_sem],?_,?_,?_,Lim.zeros (by decide) _,by simp,hn,by simp[ofL],by simp⟩,?_⟩
 ·simp only[go_sem];exact Fg.symm
 ·simp only[go_sem,zC (show l.length<=4611686018427387904 by omega)]
 ·rw[aB];simp only[cF,List.map_replicate];rfl
 clear hj;rintro ρ H ⟨k,r,u,hk,h0,h1,J,F,E,Rj,hq,ae,hr,hv,hz⟩;simp only[go_sem,h0,h1,J,F,E];refine aA (fun hb=>?_) (fun hb=>?_)
 ·have ah:0<k:=by simp at hb;omega
  obtain⟨k,rfl⟩:∃j,k=j+1:=⟨k-1,by omega⟩;rw[show((k+1:Nat):Int)-1=(k:Int)by omega]at E |-;obtain⟨x,hx⟩:=bG (show k<l.length by omega);have al:x<bas:=lm x (Xaf hx);have b1:=inB (show k<l.length by omega);have b2:=inB (show k<u.length by omega);have Z:u[k]?=some 0:=by
   have h1:(u.take (k+1))[k]?=(List.replicate (k+1) 0)[k]?:=by rw[hz]
   rw[List.getElem?_take,if_pos (by omega)]at h1;rw[h1];simp
  obtain⟨hV,hQ,hR⟩:=OU (b:=bas) (a:=n) (by decide) hx al hr (show k<u.length by omega) hv;have aw:(bA bas r).length<=1048570:=Xan (dJ (by decide) (Nat.le_of_lt hr)) ap;have ar:x+bas*r<n*bas:=by have:bas*(r+1)<=bas*n:=Nat.mul_le_mul_left _ hr;rw[Nat.mul_add]at this;rw[Nat.mul_comm n bas];omega
  have O:(u.set k ((x+bas*r)/n)).take k=List.replicate k 0:=by
   rw[List.take_set_of_le (by omega)];have h1:(u.take (k+1)).take k=(List.replicate (k+1) 0).take k:=by rw[hz]
   rw[List.take_take,Xbu (by omega)]at h1;rw[h1];simp
  have ak:ofL bas (x::bA bas r)=x+bas*r:=by rw[ofL,dH (by decide)]
  have af:Lim bas (x::bA bas r):=fun y hy=>by
   rcases Xao.1 hy with rfl|hy
   ·exact al
   ·exact dC (by decide) r y hy
  have ax:(bA bas (x+bas*r)).length<=1048575:=by refine Xan (jY (b:=bas) (k:=(bA bas r).length+1) (by decide) ?_) (by omega);have h1:=kS (b:=bas) (by decide) af;rw[ak]at h1;simpa using h1
  generalize ay:x+bas*r=R at *;have ag:R-n*(R/n)=R%n:=by have:=Nat.mod_add_div R n;omega
  have az:(bA bas (n*(R/n))).length<=1048576:=Xan (dJ (by decide) (Nat.mul_div_le R n)) (by omega);simp only[go_sem,h0,h1,J,F,E,aJ hx,b1];refine aL fun i hi=>?_
  simp only[go_sem,h0,h1,J,F,E];have ab:=eY (r':=⟨3,1,[[int (x:Int)]]⟩) Rj hi;refine cD (aB _ _ _) ⟨rfl,rfl⟩ (VO _) (by simp only[Xaa,Xae,List.length_nil];omega) (fun i2 an=>?_);have aj:=Bq ab (aO Rj hi).symm an (r':=⟨3,1,[[int (x:Int)]]++(bA bas r).map gB⟩);have au:j≠i2:=aO ab an;simp only[go_sem,h0,h1,J,F,E];refine PC.useF [i2] (.cons _ _ _ _ (.row _ _ _ (by simp only[Xap,if_true];exact aB _ _ _) (ConvE.refl _)) .nil) (D2 af (by simp;omega) ak) ?_;generalize am:(fun k=>if k∈[i2]then none else _)=HN;have L:HN j=some (cF u):=by rw[<-am];simp only[Xap,if_neg au];exact aj
  clear am aj ab Rj;simp only[go_sem,h0,h1,J,F,E];refine aN (yC R n (by omega) (by omega)) ?_;simp only[go_sem,h0,h1,J,F,E];refine aA (fun hc=>?_) (fun hc=>?_)
  ·have aa : R < n := by
    rcases Nat.lt_trichotomy R n with h|h|h
    ·exact h
    ·rw[nV (by omega)]at hc;cases hc
    ·rw[gD (by omega)]at hc;cases hc
   simp only[go_sem,h0,h1,J,F,E,zC (show k<=4611686018427387904 by omega)];have M:u.set k (R/n)=u:=by rw[Nat.div_eq_of_lt aa];obtain⟨h1,h2⟩:=List.getElem?_eq_some_iff.1 Z;rw[<-h2];exact List.set_getElem_self h1
   rw[M,Xbg aa]at hV;rw[M]at O;exact⟨⟨k,R,u,by omega,rfl,rfl,L,hq,ae,aa,hV,O⟩,by omega⟩
  simp only[go_sem,h0,h1,J,F,E];refine aA (fun ai=>?_) (fun ai=>?_)
  ·have ao : R = n := by have:=D8.1 (by simpa using ai);omega
   simp only[go_sem,h0,h1,J,F,E,L,show(cF u).es.length=u.length from Xaa _,b2];refine⟨rfl,cC so3 L (by simp only[cF,Xaa];exact⟨by simpa using b2.2,rfl,Xad 1⟩) ?_⟩;simp only[go_sem,h0,h1,J,F,E,zC (show k<=4611686018427387904 by omega)];have M:R/n=1:=by rw[ao];exact Nat.div_self hn
   have av:R%n=0:=by rw[ao];exact Nat.mod_self n
   rw[M,av]at hV;rw[M]at O;refine⟨⟨k,0,u.set k 1,by omega,Fg.symm,rfl,?_,hq.set (by decide),by simp[ae],hn,hV,O⟩,by omega⟩;exact congrArg some (Ay (q:=1) Z)
  simp only[go_sem,h0,h1,J,F,E,L];refine aN (RZ R n (by omega) hn (by omega) ar) ?_;simp only[go_sem,h0,h1,J,F,E,L,show(cF u).es.length=u.length from Xaa _,b2];refine⟨rfl,cC so3 L (by simp only[cF,Xaa];exact⟨by simpa using b2.2,rfl,Xad 1⟩) ?_⟩;generalize hP:aE HN j _=HP;have ac:HP j=some (cF (u.set k (R/n))):=by rw[<-hP,aB];exact congrArg some (Ay (q:=R/n) Z)
  have hg:(u.set k (R/n))[k]?=some (R/n):=List.getElem?_set_self (by omega);clear hP L;simp only[go_sem,h0,h1,J,F,E,ac];have aq:(cF (u.set k (R/n))).es.getD k []=gB (R/n):=aJ hg;have b3:0<=(k:Int)/\(k:Int)<((cF (u.set k (R/n))).es.length:Nat):=by simp only[cF,Xaa,Xal];exact b2
  simp only[go_sem,aq,b3];refine⟨rfl,⟨by omega,Nat.zero_lt_one⟩,?_⟩;refine aN (Mo n (R/n) (by omega) hQ) ?_;simp only[go_sem,h0,h1,J,F,E,ac];refine aN (Ma R (n*(R/n)) (by omega) (Nat.mul_div_le R n)) ?_;simp only[go_sem,h0,h1,J,F,E,zC (show k<=4611686018427387904 by omega),ag];exact⟨⟨k,R%n,u.set k (R/n),by omega,rfl,rfl,ac,hq.set hQ,by simp[ae],hR,hV,O⟩,by omega⟩
 ·have ah:k=0:=by simp at hb;omega
  subst ah;simp only[go_sem,h0,h1,J,F,E];obtain⟨e1,e2⟩:=RQ hr hv;rw[Xbk,Xbk,om]at e1;rw[Xbk,om]at e2;refine PC.useF [j] (.cons _ _ _ _ (.row _ _ _ (by simp only[Xap,if_true];exact Rj) (ConvE.refl _)) .nil) (D2 hq (by omega) e1) ?_;simp only[go_sem,F,e2];exact .refl _
end Go.Proofs.YtmhpdppobocokaaGreatDoor.Nu
end
section
namespace Go.Proofs
open Go.Shelf
def Tryz.lays169_ren:Go.Shelf.Ren:=⟨fun|169=>263|n=>n,fun|70=>381|9=>9|0=>0|72=>383|37=>304|127=>388|3=>3|5=>5|n=>n,fun|n=>n⟩
theorem Tryz.lays169:Go.Proofs.Lays.n169 Tryz.prog Tryz.lays169_ren:={
 mixed:=by kernel_rfl
 f169:=Tryz.func263.trans (congrArg some (by kernel_rfl))
 t0:=Tryz.underlying0
 a0:=Tryz.isAgg0
 z0:=Tryz.sizeOf0
 v0:=Tryz.zeroValue0
 t3:=Tryz.underlying3
 a3:=Tryz.isAgg3
 z3:=Tryz.sizeOf3
 v3:=Tryz.zeroValue3
 t9:=Tryz.underlying9
 a9:=Tryz.isAgg9
 z9:=Tryz.sizeOf9
 v9:=Tryz.zeroValue9
 t37:=Tryz.underlying304
 a37:=Tryz.isAgg304
 z37:=Tryz.sizeOf304
 v37:=Tryz.zeroValue304
 t70:=Tryz.underlying381
 a70:=Tryz.isAgg381
 z70:=Tryz.sizeOf381
 v70:=Tryz.zeroValue381
 t72:=Tryz.underlying383
 a72:=Tryz.isAgg383
 z72:=Tryz.sizeOf383
 v72:=Tryz.zeroValue383
 t127:=Tryz.underlying388
 a127:=Tryz.isAgg388
 z127:=Tryz.sizeOf388
 v127:=Tryz.zeroValue388 }
theorem Tryz.Builder_Extra_169:Builder.Extra Tryz.prog Tryz.lays169_ren:={
 sizeBuilder:=by kernel_rfl
 liesBuilder:=by kernel_rfl
 t5:=Tryz.underlying5
 a5:=Tryz.isAgg5
 z5:=Tryz.sizeOf5
 v5:=Tryz.zeroValue5
 infoByte:=by kernel_rfl
 cellsByte:=by kernel_rfl
 sizeByte:=by kernel_rfl
 neB5:=by decide }
open Go.RowKit in
theorem Tryz.Builder_String_any (B b:Nat) (l:List UInt8) (w:World) (h:Lib.IsBuilder 383 5 B b (Lib.byteCells l) w) (hBw:B<=w.heap.size):
    Calls Tryz.prog 263 #[.pointer (some ⟨b,0,none⟩)] w fun e w'=>e=.returned (.string ⟨l.toArray⟩)/\Below B w w':=Any.Builder_String_any Tryz.lays169 Tryz.Builder_Extra_169 B b l w h hBw
def Tryz.lays106_ren:Go.Shelf.Ren:=⟨fun|106=>226|213=>264|265=>287|n=>n,fun|9=>9|3=>3|n=>n,fun|n=>n⟩
theorem Tryz.lays106:Go.Proofs.Lays.n106 Tryz.prog Tryz.lays106_ren:={
 mixed:=by kernel_rfl
 f106:=Tryz.func226.trans (congrArg some (by kernel_rfl))
 f213:=Tryz.func264.trans (congrArg some (by kernel_rfl))
 f265:=Tryz.func287.trans (congrArg some (by kernel_rfl))
 t3:=Tryz.underlying3
 a3:=Tryz.isAgg3
 z3:=Tryz.sizeOf3
 v3:=Tryz.zeroValue3
 t9:=Tryz.underlying9
 a9:=Tryz.isAgg9
 z9:=Tryz.sizeOf9
 v9:=Tryz.zeroValue9 }
open Go.RowKit in
theorem Tryz.strings_Compare (a b:ByteArray) (w:World):
    Calls Tryz.prog 226 #[.string a,.string b] w fun e w'=>e=.returned (.int .i64 (Lib.compareBytes a.data.toList b.data.toList))/\w'=w:=Any.strings_Compare Tryz.lays106 a b w
def Tryz.lays103_ren:Go.Shelf.Ren:=⟨fun|103=>220|210=>259|206=>258|n=>n,fun|9=>9|4=>4|24=>339|3=>3|n=>n,fun|n=>n⟩
theorem Tryz.lays103:Go.Proofs.Lays.n103 Tryz.prog Tryz.lays103_ren:={
 mixed:=by kernel_rfl
 f103:=Tryz.func220.trans (congrArg some (by kernel_rfl))
 f206:=Tryz.func258.trans (congrArg some (by kernel_rfl))
 f210:=Tryz.func259.trans (congrArg some (by kernel_rfl))
 t3:=Tryz.underlying3
 a3:=Tryz.isAgg3
 z3:=Tryz.sizeOf3
 v3:=Tryz.zeroValue3
 t4:=Tryz.underlying4
 a4:=Tryz.isAgg4
 z4:=Tryz.sizeOf4
 v4:=Tryz.zeroValue4
 t9:=Tryz.underlying9
 a9:=Tryz.isAgg9
 z9:=Tryz.sizeOf9
 v9:=Tryz.zeroValue9
 t24:=Tryz.underlying339
 a24:=Tryz.isAgg339
 z24:=Tryz.sizeOf339
 v24:=Tryz.zeroValue339 }
open Go.RowKit in
theorem Tryz.strings_CutPrefix (s p:ByteArray) (w:World):
    Calls Tryz.prog 220 #[.string s,.string p] w fun e w'=>e=.returned (.tuple #[.string ⟨(Lib.trimPrefix s.data.toList p.data.toList).toArray⟩,.bool (Lib.hasPrefix s.data.toList p.data.toList)])/\w'=w:=Any.strings_CutPrefix Tryz.lays103 s p w
def Tryz.laysM171_ren:Go.Shelf.Ren:=⟨fun|171=>207|243=>251|246=>281|283=>304|284=>305|285=>306|286=>307|129=>181|317=>334|318=>335|319=>336|320=>107|337=>182|338=>183|n=>n,fun|3=>3|9=>9|2=>2|4=>4|171=>426|0=>0|53=>301|37=>304|5=>5|173=>428|212=>467|51=>299|20=>20|213=>468|46=>217|232=>349|233=>350|n=>n,fun|17=>5|18=>0|19=>1|n=>n⟩
theorem Tryz.laysM171:Go.Proofs.LaysM.n171 Tryz.prog Tryz.laysM171_ren:={
 mixed:=by kernel_rfl
 f129:=Tryz.func181.trans (congrArg some (by kernel_rfl))
 f171:=Tryz.func207.trans (congrArg some (by kernel_rfl))
 f243:=Tryz.func251.trans (congrArg some (by kernel_rfl))
 f246:=Tryz.func281.trans (congrArg some (by kernel_rfl))
 f283:=Tryz.func304.trans (congrArg some (by kernel_rfl))
 f284:=Tryz.func305.trans (congrArg some (by kernel_rfl))
 f285:=Tryz.func306.trans (congrArg some (by kernel_rfl))
 f286:=Tryz.func307.trans (congrArg some (by kernel_rfl))
 f317:=Tryz.func334.trans (congrArg some (by kernel_rfl))
 f318:=Tryz.func335.trans (congrArg some (by kernel_rfl))
 f319:=Tryz.func336.trans (congrArg some (by kernel_rfl))
 f320:=Tryz.func107.trans (congrArg some (by kernel_rfl))
 f337:=Tryz.func182.trans (congrArg some (by kernel_rfl))
 f338:=Tryz.func183.trans (congrArg some (by kernel_rfl))
 t0:=Tryz.underlying0
 a0:=Tryz.isAgg0
 z0:=Tryz.sizeOf0
 v0:=Tryz.zeroValue0
 t2:=Tryz.underlying2
 a2:=Tryz.isAgg2
 z2:=Tryz.sizeOf2
 v2:=Tryz.zeroValue2
 t3:=Tryz.underlying3
 a3:=Tryz.isAgg3
 z3:=Tryz.sizeOf3
 v3:=Tryz.zeroValue3
 t4:=Tryz.underlying4
 a4:=Tryz.isAgg4
 z4:=Tryz.sizeOf4
 v4:=Tryz.zeroValue4
 t5:=Tryz.underlying5
 a5:=Tryz.isAgg5
 z5:=Tryz.sizeOf5
 v5:=Tryz.zeroValue5
 t9:=Tryz.underlying9
 a9:=Tryz.isAgg9
 z9:=Tryz.sizeOf9
 v9:=Tryz.zeroValue9
 t20:=Tryz.underlying20
 a20:=Tryz.isAgg20
 z20:=Tryz.sizeOf20
 v20:=Tryz.zeroValue20
 t37:=Tryz.underlying304
 a37:=Tryz.isAgg304
 z37:=Tryz.sizeOf304
 v37:=Tryz.zeroValue304
 t46:=Tryz.underlying217
 a46:=Tryz.isAgg217
 z46:=Tryz.sizeOf217
 v46:=Tryz.zeroValue217
 t51:=Tryz.underlying299
 a51:=Tryz.isAgg299
 z51:=Tryz.sizeOf299
 v51:=Tryz.zeroValue299
 t53:=Tryz.underlying301
 a53:=Tryz.isAgg301
 z53:=Tryz.sizeOf301
 v53:=Tryz.zeroValue301
 t171:=Tryz.underlying426
 a171:=Tryz.isAgg426
 z171:=Tryz.sizeOf426
 v171:=Tryz.zeroValue426
 t173:=Tryz.underlying428
 a173:=Tryz.isAgg428
 z173:=Tryz.sizeOf428
 v173:=Tryz.zeroValue428
 t212:=Tryz.underlying467
 a212:=Tryz.isAgg467
 z212:=Tryz.sizeOf467
 v212:=Tryz.zeroValue467
 t213:=Tryz.underlying468
 a213:=Tryz.isAgg468
 z213:=Tryz.sizeOf468
 t232:=Tryz.underlying349
 a232:=Tryz.isAgg349
 z232:=Tryz.sizeOf349
 v232:=Tryz.zeroValue349
 t233:=Tryz.underlying350
 a233:=Tryz.isAgg350
 z233:=Tryz.sizeOf350
 v233:=Tryz.zeroValue350
 g17:=by kernel_rfl
 g18:=by kernel_rfl
 g19:=by kernel_rfl
 i0:=by kernel_rfl
 i2:=by kernel_rfl
 i3:=by kernel_rfl
 i4:=by kernel_rfl
 i5:=by kernel_rfl
 i9:=by kernel_rfl
 i20:=by kernel_rfl
 i37:=by kernel_rfl
 i46:=by kernel_rfl
 i51:=by kernel_rfl
 i53:=by kernel_rfl
 i171:=by kernel_rfl
 i173:=by kernel_rfl
 i212:=by kernel_rfl
 i232:=by kernel_rfl
 i233:=by kernel_rfl
 m17:=by kernel_rfl
 m18:=by kernel_rfl
 m19:=by kernel_rfl }
open Go.RowKit Go.Sort Go.Lib in
theorem Tryz.strconv_Itoa (n:Int) (h0: -9223372036854775808<=n) (h1:n<=9223372036854775807) (w:World) (htab:Lib.TabIs Tryz.prog w "internal/strconv.uint64pow10" .u64 Lib.pow10Tab):
    Calls Tryz.prog 207 #[.int .i64 n] w fun e w'=>e=.returned (.string ⟨(Lib.itoa n).toArray⟩)/\∃k os,w'=grow (w.drewN k) os:=Any.strconv_Itoa Tryz.laysM171 n h0 h1 w htab
def Tryz.lays219_ren:Go.Shelf.Ren:=⟨fun|219=>236|217=>268|225=>269|224=>270|267=>271|266=>288|314=>289|n=>n,fun|9=>9|3=>3|4=>4|5=>5|46=>217|146=>408|51=>299|n=>n,fun|1=>4|n=>n⟩
theorem Tryz.lays219:Go.Proofs.Lays.n219 Tryz.prog Tryz.lays219_ren:={
 mixed:=by kernel_rfl
 f217:=Tryz.func268.trans (congrArg some (by kernel_rfl))
 f219:=Tryz.func236.trans (congrArg some (by kernel_rfl))
 f224:=Tryz.func270.trans (congrArg some (by kernel_rfl))
 f225:=Tryz.func269.trans (congrArg some (by kernel_rfl))
 f266:=Tryz.func288.trans (congrArg some (by kernel_rfl))
 f267:=Tryz.func271.trans (congrArg some (by kernel_rfl))
 f314:=Tryz.func289.trans (congrArg some (by kernel_rfl))
 t3:=Tryz.underlying3
 a3:=Tryz.isAgg3
 z3:=Tryz.sizeOf3
 v3:=Tryz.zeroValue3
 t4:=Tryz.underlying4
 a4:=Tryz.isAgg4
 z4:=Tryz.sizeOf4
 v4:=Tryz.zeroValue4
 t5:=Tryz.underlying5
 a5:=Tryz.isAgg5
 z5:=Tryz.sizeOf5
 v5:=Tryz.zeroValue5
 t9:=Tryz.underlying9
 a9:=Tryz.isAgg9
 z9:=Tryz.sizeOf9
 v9:=Tryz.zeroValue9
 t46:=Tryz.underlying217
 a46:=Tryz.isAgg217
 z46:=Tryz.sizeOf217
 v46:=Tryz.zeroValue217
 t51:=Tryz.underlying299
 a51:=Tryz.isAgg299
 z51:=Tryz.sizeOf299
 v51:=Tryz.zeroValue299
 t146:=Tryz.underlying408
 a146:=Tryz.isAgg408
 z146:=Tryz.sizeOf408
 v146:=Tryz.zeroValue408
 g1:=by kernel_rfl }
open Go.RowKit Go.Lib in
theorem Tryz.stringslite_Index_one (s:ByteArray) (c:UInt8) (w:World):
    Calls Tryz.prog 236 #[.string s,.string ⟨#[c]⟩] w fun e w'=>e=.returned (.int .i64 (Lib.indexByte s.data.toList c))/\w'=w:=Any.stringslite_Index_one Tryz.lays219 s c w
def Tryz.lays144_ren:Go.Shelf.Ren:=⟨fun|144=>112|143=>190|219=>236|217=>268|225=>269|224=>270|267=>271|266=>288|314=>289|n=>n,fun|9=>9|4=>4|3=>3|5=>5|46=>217|146=>408|51=>299|n=>n,fun|1=>4|n=>n⟩
theorem Tryz.lays144:Go.Proofs.Lays.n144 Tryz.prog Tryz.lays144_ren:={
 mixed:=by kernel_rfl
 f143:=Tryz.func190.trans (congrArg some (by kernel_rfl))
 f144:=Tryz.func112.trans (congrArg some (by kernel_rfl))
 f217:=Tryz.func268.trans (congrArg some (by kernel_rfl))
 f219:=Tryz.func236.trans (congrArg some (by kernel_rfl))
 f224:=Tryz.func270.trans (congrArg some (by kernel_rfl))
 f225:=Tryz.func269.trans (congrArg some (by kernel_rfl))
 f266:=Tryz.func288.trans (congrArg some (by kernel_rfl))
 f267:=Tryz.func271.trans (congrArg some (by kernel_rfl))
 f314:=Tryz.func289.trans (congrArg some (by kernel_rfl))
 t3:=Tryz.underlying3
 a3:=Tryz.isAgg3
 z3:=Tryz.sizeOf3
 v3:=Tryz.zeroValue3
 t4:=Tryz.underlying4
 a4:=Tryz.isAgg4
 z4:=Tryz.sizeOf4
 v4:=Tryz.zeroValue4
 t5:=Tryz.underlying5
 a5:=Tryz.isAgg5
 z5:=Tryz.sizeOf5
 v5:=Tryz.zeroValue5
 t9:=Tryz.underlying9
 a9:=Tryz.isAgg9
 z9:=Tryz.sizeOf9
 v9:=Tryz.zeroValue9
 t46:=Tryz.underlying217
 a46:=Tryz.isAgg217
 z46:=Tryz.sizeOf217
 v46:=Tryz.zeroValue217
 t51:=Tryz.underlying299
 a51:=Tryz.isAgg299
 z51:=Tryz.sizeOf299
 v51:=Tryz.zeroValue299
 t146:=Tryz.underlying408
 a146:=Tryz.isAgg408
 z146:=Tryz.sizeOf408
 v146:=Tryz.zeroValue408
 g1:=by kernel_rfl }
open Go.RowKit Go.Lib in
theorem Tryz.strings_Contains_one (s:ByteArray) (c:UInt8) (w:World):
    Calls Tryz.prog 112 #[.string s,.string ⟨#[c]⟩] w fun e w'=>e=.returned (.bool (decide (0<=Lib.indexByte s.data.toList c)))/\w'=w:=Any.strings_Contains_one Tryz.lays144 s c w
def Tryz.lays101_ren:Go.Shelf.Ren:=⟨fun|101=>159|208=>218|206=>258|n=>n,fun|9=>9|4=>4|3=>3|n=>n,fun|n=>n⟩
theorem Tryz.lays101:Go.Proofs.Lays.n101 Tryz.prog Tryz.lays101_ren:={
 mixed:=by kernel_rfl
 f101:=Tryz.func159.trans (congrArg some (by kernel_rfl))
 f206:=Tryz.func258.trans (congrArg some (by kernel_rfl))
 f208:=Tryz.func218.trans (congrArg some (by kernel_rfl))
 t3:=Tryz.underlying3
 a3:=Tryz.isAgg3
 z3:=Tryz.sizeOf3
 v3:=Tryz.zeroValue3
 t4:=Tryz.underlying4
 a4:=Tryz.isAgg4
 z4:=Tryz.sizeOf4
 v4:=Tryz.zeroValue4
 t9:=Tryz.underlying9
 a9:=Tryz.isAgg9
 z9:=Tryz.sizeOf9
 v9:=Tryz.zeroValue9 }
open Go.RowKit Go.Lib in
theorem Tryz.strings_TrimPrefix (s p:ByteArray) (w:World):
    Calls Tryz.prog 159 #[.string s,.string p] w fun e w'=>e=.returned (.string ⟨(Lib.trimPrefix s.data.toList p.data.toList).toArray⟩)/\w'=w:=Any.strings_TrimPrefix Tryz.lays101 s p w
def Tryz.lays105_ren:Go.Shelf.Ren:=⟨fun|105=>262|212=>283|99=>284|165=>285|166=>261|170=>286|169=>263|263=>309|264=>310|206=>258|240=>282|241=>311|276=>308|277=>337|n=>n,fun|9=>9|3=>3|4=>4|20=>20|0=>0|46=>217|109=>405|5=>5|72=>383|76=>151|51=>299|146=>408|53=>301|148=>433|70=>381|37=>304|75=>150|127=>388|164=>430|80=>285|n=>n,fun|n=>n⟩
theorem Tryz.lays105:Go.Proofs.Lays.n105 Tryz.prog Tryz.lays105_ren:={
 mixed:=by kernel_rfl
 f99:=Tryz.func284.trans (congrArg some (by kernel_rfl))
 f105:=Tryz.func262.trans (congrArg some (by kernel_rfl))
 f165:=Tryz.func285.trans (congrArg some (by kernel_rfl))
 f166:=Tryz.func261.trans (congrArg some (by kernel_rfl))
 f169:=Tryz.func263.trans (congrArg some (by kernel_rfl))
 f170:=Tryz.func286.trans (congrArg some (by kernel_rfl))
 f206:=Tryz.func258.trans (congrArg some (by kernel_rfl))
 f212:=Tryz.func283.trans (congrArg some (by kernel_rfl))
 f240:=Tryz.func282.trans (congrArg some (by kernel_rfl))
 f241:=Tryz.func311.trans (congrArg some (by kernel_rfl))
 f263:=Tryz.func309.trans (congrArg some (by kernel_rfl))
 f264:=Tryz.func310.trans (congrArg some (by kernel_rfl))
 f276:=Tryz.func308.trans (congrArg some (by kernel_rfl))
 f277:=Tryz.func337.trans (congrArg some (by kernel_rfl))
 t0:=Tryz.underlying0
 a0:=Tryz.isAgg0
 z0:=Tryz.sizeOf0
 v0:=Tryz.zeroValue0
 t3:=Tryz.underlying3
 a3:=Tryz.isAgg3
 z3:=Tryz.sizeOf3
 v3:=Tryz.zeroValue3
 t4:=Tryz.underlying4
 a4:=Tryz.isAgg4
 z4:=Tryz.sizeOf4
 v4:=Tryz.zeroValue4
 t5:=Tryz.underlying5
 a5:=Tryz.isAgg5
 z5:=Tryz.sizeOf5
 v5:=Tryz.zeroValue5
 t9:=Tryz.underlying9
 a9:=Tryz.isAgg9
 z9:=Tryz.sizeOf9
 v9:=Tryz.zeroValue9
 t20:=Tryz.underlying20
 a20:=Tryz.isAgg20
 z20:=Tryz.sizeOf20
 v20:=Tryz.zeroValue20
 t37:=Tryz.underlying304
 a37:=Tryz.isAgg304
 z37:=Tryz.sizeOf304
 v37:=Tryz.zeroValue304
 t46:=Tryz.underlying217
 a46:=Tryz.isAgg217
 z46:=Tryz.sizeOf217
 v46:=Tryz.zeroValue217
 t51:=Tryz.underlying299
 a51:=Tryz.isAgg299
 z51:=Tryz.sizeOf299
 v51:=Tryz.zeroValue299
 t53:=Tryz.underlying301
 a53:=Tryz.isAgg301
 z53:=Tryz.sizeOf301
 v53:=Tryz.zeroValue301
 t70:=Tryz.underlying381
 a70:=Tryz.isAgg381
 z70:=Tryz.sizeOf381
 v70:=Tryz.zeroValue381
 t72:=Tryz.underlying383
 a72:=Tryz.isAgg383
 z72:=Tryz.sizeOf383
 v72:=Tryz.zeroValue383
 t75:=Tryz.underlying150
 a75:=Tryz.isAgg150
 z75:=Tryz.sizeOf150
 v75:=Tryz.zeroValue150
 t76:=Tryz.underlying151
 a76:=Tryz.isAgg151
 z76:=Tryz.sizeOf151
 v76:=Tryz.zeroValue151
 t109:=Tryz.underlying405
 a109:=Tryz.isAgg405
 z109:=Tryz.sizeOf405
 v109:=Tryz.zeroValue405
 t127:=Tryz.underlying388
 a127:=Tryz.isAgg388
 z127:=Tryz.sizeOf388
 v127:=Tryz.zeroValue388
 t146:=Tryz.underlying408
 a146:=Tryz.isAgg408
 z146:=Tryz.sizeOf408
 v146:=Tryz.zeroValue408
 t148:=Tryz.underlying433
 a148:=Tryz.isAgg433
 z148:=Tryz.sizeOf433
 v148:=Tryz.zeroValue433
 t164:=Tryz.underlying430
 a164:=Tryz.isAgg430
 z164:=Tryz.sizeOf430
 v164:=Tryz.zeroValue430 }
theorem Tryz.Builder_Extra_105:Builder.Extra Tryz.prog Tryz.lays105_ren:={
 sizeBuilder:=by kernel_rfl
 liesBuilder:=by kernel_rfl
 t5:=Tryz.underlying5
 a5:=Tryz.isAgg5
 z5:=Tryz.sizeOf5
 v5:=Tryz.zeroValue5
 infoByte:=by kernel_rfl
 cellsByte:=by kernel_rfl
 sizeByte:=by kernel_rfl
 neB5:=by decide }
open Go.RowKit Go.Lib in
theorem Tryz.strings_Repeat (s:ByteArray) (c:Nat) (w:World) (hc:c<=9223372036854775807) (hlen:s.size*c<=140737488355328):
    Calls Tryz.prog 262 #[.string s,.int .i64 c] w fun e w'=>e=.returned (.string ⟨(Lib.repeatL s.data.toList c).toArray⟩)/\Below w.heap.size w w':=Any.strings_Repeat Tryz.lays105 Tryz.Builder_Extra_105 s c w hc hlen
end Go.Proofs
end
namespace Go.Proofs.YtmhpdppobocokaaGreatDoor
open Go.Aw Go.Aw.D Go.Proofs Ty
namespace Nu
open Go.Proofs.Tryz
open Go.Nu Go.RowKit Go.Sort
def oM{T e:TypeId}{B b:Nat}{E:List Value}{w w':World}(h:Lib.IsBuilder T e B b E w)(J:Below w.heap.size w w'):Lib.IsBuilder T e B b E w':=by
 have u:∀p,Lib.BuilderAt T e B b p E w->Lib.BuilderAt T e B b p E w':=by
  rintro p ⟨h1,v,M,L,h4⟩;refine⟨h1,v,?_,⟨L.1,?_⟩,h4⟩
  ·rw[J.block b (Array.getElem?_eq_some_iff.1 M).1];exact M
  ·rcases L.2 with h5|⟨g,cap,cur,Z,e2,F,O⟩
   ·exact .inl h5
   ·exact .inr ⟨g,cap,cur,Z,e2,by rw[J.block g (Array.getElem?_eq_some_iff.1 F).1];exact F,O⟩
 exact h.imp (u _) (u _)
def iX{w:World}(k:Nat)(os:Array Obj):Below w.heap.size w (grow (w.drewN k) os):=by
 refine⟨rfl,rfl,rfl,?_,fun i hi=>?_⟩
 ·simp[grow]
 ·simp only[grow,World.heap_drewN];rw[Array.getElem?_append_left hi]
def E6{T e:TypeId}{B b:Nat}{l:List UInt8}{s:ByteArray}{w:World}(h:Lib.BuilderAt T e B b (.pointer (some ⟨b,0,none⟩)) (Lib.byteCells l++Lib.strCells s) w):Lib.IsBuilder T e B b (Lib.byteCells (l++bl s)) w:=by rw[Lib.strCells_eq,<-Lib.byteCells_append]at h;exact .inr h
def oK(B b:Nat)(l:List UInt8)(s:ByteArray)(w:World)(h:Lib.IsBuilder 383 5 B b (Lib.byteCells l) w)(u:l.length+s.size<=140737488355328)(E:B<=w.heap.size):
  Calls prog 261 #[.pointer (some ⟨b,0,none⟩),.string s] w fun e w'=>e=.returned (.tuple #[.int .i64 s.size,.nilIface])/\Lib.IsBuilder 383 5 B b (Lib.byteCells (l++bl s)) w'/\Below B w w':=
 (Any.Builder_WriteString (P:=prog) (ρ:=Tryz.lays105_ren) { Tryz.lays105 with } Tryz.Builder_Extra_105 B b (Lib.byteCells l) s w h (by rw[Lib.byteCells_length];exact u) E).mono fun e w' ⟨J,hB,F⟩=>⟨J,E6 hB,F⟩
def TA{l:List Nat}(h:Lim bas l)(K:Nat)(u:l.length<=K)(h1:1<=K):(Lib.decDigits (ofL bas l)).length<=9*K:=by refine(mM (by omega)).2 (Xaz (kS (by decide) h) ?_);rw[show bas=10^9 from rfl,<-Nat.pow_mul];exact Xam (by omega) (by omega)
def Cp(n k:Nat):List UInt8:=Lib.decDigits (ofL bas ((bA bas n).drop k))
def Nd{n k x:Nat}(E:k+1<(bA bas n).length)(u:(bA bas n)[k]?=some x):Cp n k=Cp n (k+1)++Vi x:=by have h1:=dC (b:=bas) (by decide) n x (Xaf u);unfold Cp;rw[tK bas u];exact P3 h1 (OF (by decide) E)
set_option maxHeartbeats 1600000 in
theorem Jg (n:Nat) (w:World) (b o c:Nat) (ac:(bA bas n).length<=1048576) (af:0<(bA bas n).length)
    (hz:∀(i x:Nat),(bA bas n)[i]?=some x->w.cell? ⟨b,o+i,none⟩=some (.int .i64 x)) (hb:b<w.heap.size)
    (M:Lib.TabIs prog w "internal/strconv.uint64pow10" .u64 Lib.pow10Tab):
    Calls prog 222 #[.slice (some ⟨b,o,none⟩) (bA bas n).length c] w fun e w'=>e=.returned (.string (dec n))/\Below w.heap.size w w':=by
  obtain⟨L,hL⟩:∃L,(bA bas n).length=L:=⟨_,rfl⟩
  have h0:Lib.IsBuilder 383 5 w.heap.size w.heap.size (Lib.byteCells []) (w.alloc (.cells #[.pointer none,.slice none 0 0] 383)):=Lib.fresh_isBuilder 383 5 w
  have b0:Below w.heap.size w (w.alloc (.cells #[.pointer none,.slice none 0 0] 383)):=(Below.refl _ w).alloc (Xad _) _
  obtain⟨x0,ab⟩:=bG (show L-1<(bA bas n).length by omega)
  have ap:=hz _ _ ab
  have aa:=dC (b:=bas) (by decide) n x0 (Xaf ab)
  have aa:x0<1000000000:=aa
  rw[hL]
  rw[hL]at af ac
  have an:((L:Int) == 0)=false:=by rw[beq_eq_false_iff_ne];omega
  go_enter func222,Tryz.ntmps222
  go_wp2_with (go_at_call 207;refine(Tryz.strconv_Itoa (x0:Int) (by omega) (by omega) _ (Lib.tabIs_alloc M _)).mono ?_)
  rintro e W1 ⟨rfl,k,os,rfl⟩
  have b1:Below w.heap.size w (grow ((w.alloc (.cells #[.pointer none,.slice none 0 0] 383)).drewN k) os):=b0.trans ⟨rfl,rfl,rfl,(iX k os).size,fun i hi=>(iX k os).block i (Xaz hi b0.size)⟩
  have h1:=oM h0 (iX k os)
  generalize grow _ os=W1 at *
  have hI:∀x:Nat,(Lib.itoa (x:Int))=Lib.decDigits x:=Lib.itoa_nonneg
  have ae:∀x:Nat,x<1000000000->(Lib.decDigits x).length<=9:=fun x hx=>(mM (k:=9) (by omega)).2 hx
  have F:Cp n (L-1)=Lib.decDigits x0:=by
    unfold Cp
    rw[tK bas ab,show L-1+1=L by omega,<-hL,List.drop_length]
    rfl
  have ah:(⟨(Lib.itoa (x0:Int)).toArray⟩:ByteArray).size<=9:=by rw[<-eE,gN,hI];exact ae _ aa
  have cW:=oK w.heap.size w.heap.size [] _ W1 h1 (by simp only[List.length_nil];omega:([]:List UInt8).length+(⟨(Lib.itoa (x0:Int)).toArray⟩:ByteArray).size<=_) b1.size
  go_wp2_with (go_at_call 261;refine cW.mono ?_)
  rintro e W2 ⟨rfl,h2,b2⟩
  rw[Xau,gN,hI,<-F]at h2
  have b2:=b1.trans b2
  have am:∀k,(Cp n k).length<=9437184:=fun k=>by
    have:=TA ((dC (b:=bas) (by decide) n).drop k) 1048576 (by rw[List.length_drop,hL];omega) (by omega)
    unfold Cp
    omega
  clear h0 b0 h1 b1 ah F
  go_wp2
  go_loopg [4] (L-1) (fun g s4 wx=>∃k:Nat,k<=L-1/\g=k/\s4=.int .i64 ((k:Int)-1)/\Lib.IsBuilder 383 5 w.heap.size w.heap.size (Lib.byteCells (Cp n k)) wx/\Below w.heap.size w wx)
  case atStart=>exact⟨L-1,Xad _,rfl,by congr 1;omega,h2,b2⟩
  clear h2 b2
  case round=>
    obtain⟨_,hk,rfl,rfl,hB,u⟩:=hrel
    cases gk with
    | zero=>
      have ai:Cp n 0=Lib.decDigits n:=by unfold Cp;rw[Xbk,dH (by decide)]
      rw[ai]at hB
      have cS:=Tryz.Builder_String_any w.heap.size w.heap.size (Lib.decDigits n) wr hB u.size
      go_wp2_with (go_at_call 263;refine cS.mono ?_)
      rintro e W3 ⟨rfl,E⟩
      go_wp2
      go_ret
      exact⟨rfl,u.trans E⟩
    | succ i=>
      obtain⟨x,hx⟩:=bG (show i<(bA bas n).length by omega)
      have hl:=(u.cell hb).trans (hz i x hx)
      have ak:x<1000000000:=dC (b:=bas) (by decide) n x (Xaf hx)
      have al:(((i+1:Nat):Int)-1)=(i:Int):=by omega
      have O:=Nd (n:=n) (by omega) hx
      have ag:Lib.TabIs prog wr "internal/strconv.uint64pow10" .u64 Lib.pow10Tab:=Go.Joins.tab_stays (g:=5) (by kernel_rfl) M u (Xad _)
      have ao:=am (i+1)
      rw[al]
      go_wp2_with (go_at_call 207;refine(Tryz.strconv_Itoa (x:Int) (by omega) (by omega) _ ag).mono ?_)
      rintro e W1 ⟨rfl,k,os,rfl⟩
      have b1:Below w.heap.size w (grow (wr.drewN k) os):=u.trans ⟨rfl,rfl,rfl,(iX k os).size,fun i hi=>(iX k os).block i (Xaz hi u.size)⟩
      have h1:=oM hB (iX k os)
      clear hB ag
      generalize grow _ os=W1 at *
      have aj:=ae x ak
      rw[hI x]
      go_wp2_with (go_at_call 262;fail)
      have e9:(9:Int)-((Lib.decDigits x).length:Nat)=((9-(Lib.decDigits x).length:Nat):Int):=by omega
      rw[e9]
      refine(Tryz.strings_Repeat ⟨#[48]⟩ (9-(Lib.decDigits x).length) W1 (by omega) (by show 1*_<=_;omega)).mono ?_
      rintro e W3 ⟨rfl,E⟩
      have h3:=oM h1 E
      have E:Below w.heap.size w W3:=b1.trans ⟨E.os,E.tape,E.output,E.size,fun i hi=>E.block i (Xaz hi b1.size)⟩
      have J:bl ⟨(Lib.repeatL (⟨#[48]⟩:ByteArray).data.toList (9-(Lib.decDigits x).length)).toArray⟩=List.replicate (9-(Lib.decDigits x).length) 48:=by
        rw[gN]
        have:=Lib.repeatL_replicate 48 1 (9-(Lib.decDigits x).length)
        rwa [Nat.mul_one]at this
      clear h1 b1
      generalize (⟨(Lib.repeatL (⟨#[48]⟩:ByteArray).data.toList (9-(Lib.decDigits x).length)).toArray⟩:ByteArray)=Z at *
      have hZ:Z.size<=9:=by rw[<-eE,J,Xas];omega
      have cW:=oK w.heap.size w.heap.size _ Z W3 h3 (by omega) E.size
      go_wp2_with (go_at_call 261;refine cW.mono ?_)
      rintro e W4 ⟨rfl,h4,b4⟩
      have b4:=E.trans b4
      clear cW h3 E
      have hX:(⟨(Lib.decDigits x).toArray⟩:ByteArray).size<=9:=by rw[<-eE,gN];exact aj
      have cW:=oK w.heap.size w.heap.size _ ⟨(Lib.decDigits x).toArray⟩ W4 h4 (by rw[Xac,eE];omega) b4.size
      go_wp2_with (go_at_call 261;refine cW.mono ?_)
      rintro e W5 ⟨rfl,h5,b5⟩
      have b5:=b4.trans b5
      rw[Xah,J,gN]at h5
      go_wp2
      go_roundg i
      case measure=>omega
      case rel=>exact⟨i,by omega,rfl,rfl,by rw[O];exact h5,b5⟩
def HL{S:Sg}{w:World}{b:Nat}:∀{l:List Nat} {o sz:Nat},0<sz->eB S w b sz o (l.map gB)->∀(i x:Nat),l[i]?=some x->w.cell? ⟨b,o+i,none⟩=some (.int .i64 x)
 | [],_,_,_,_,i,x,h=>by simp at h
 | y::l,o,sz,hp,h,i,x,hx=>by
  simp only[Xar,eB]at h;obtain⟨h1,F,L⟩:=h;have h1:sz=1:=h1.symm;subst h1;cases i with
  | zero=>simp only[List.getElem?_cons_zero,Option.some.injEq]at hx;subst hx;simp only[gB,bW]at F;obtain⟨⟨u,J,_,E⟩,_⟩:=F;simp only[rep]at E;subst E;exact J
  | succ i=>
   have:=HL (by omega) L i x (by simpa using hx)
   rwa [Xbn,Nat.add_comm 1 i]at this
def Rq{w:World}(h:∀t∈ND,mW w t.1=some t.2):Lib.TabIs prog w "internal/strconv.uint64pow10" .u64 Lib.pow10Tab:=by have h1:=h (5,QL) (by simp[ND]);unfold Lib.TabIs World.var?;rw[show prog.globalNamed "internal/strconv.uint64pow10" = some 5 by kernel_rfl];exact h1
def B9(n:Nat)(F:(bA bas n).length<=1048576):PC prog 222 [nl n] (str (dec n)):=by
 by_cases h0:n=0
 ·subst h0;rw[Fg];refine pcd func222 rfl rfl ?_;simp only[go_sem];refine aA (fun h=>?_) (fun h=>by simp at h);simp only[go_sem];refine cS ?_;refine jB ?_;rw[jH,Lib.decDigits_one (by omega)];rfl
 ·intro S w vals L hf ha;simp only[aR,rep]at ha;obtain⟨y,t,rfl,⟨ad,m,c,rfl,e1,e2,e3,O⟩,rfl⟩:=ha;have M:bA bas n≠[]:=fun e=>h0 ((pF (by decide)).1 e)
  have J:=Xbt.2 M;rw[Xaa]at e1;rcases O with O|⟨b,o,sz,rfl,Z,aa,E⟩
  ·simp only[List.map_eq_nil_iff]at O;exact absurd O M
  ·subst e1;refine(Jg n w b o c F J (HL aa E) (L.fz_lt b (L.ro_fz b Z)) (Rq fun t ht=>(L.tabs t ht).2)).mono fun e w' ⟨he,u⟩=>?_
   exact⟨_,_,bJ,S,he,rfl,L.after u.size fun k hk=>u.block k hk,by simp only[rep],L.grow u.os u.tape u.output u.size fun k hk=>u.block k hk,dK.refl _ _⟩
def wS(n:Nat)(u:(bA bas n).length<=1048576):PC prog 217 [nl n] (.tup [str (szN n).1,int (szN n).2]):=by
 refine pcd func217 rfl rfl ?_;simp only[go_sem];refine aN (B9 n u) ?_;simp only[go_sem];have E:=fJ n;refine aA (fun h=>?_) (fun h=>?_)
 ·have h:4096<(dec n).size:=by simp at h;omega
  simp only[go_sem];rw[show szN n=(emp,4)from if_neg fun e=>by have:=E.2 e;omega];exact .refl _
 ·have h:(dec n).size<=4096:=by simp at h;omega
  simp only[go_sem];rw[xY (E.1 h)];exact .refl _
end Nu
namespace Nu
open Go.Proofs.Tryz
open Go.Nu
def Lq{n K:Nat}(h:n<cE)(u:Tt<=9*K):(bA bas n).length<=K:=by refine jY (b:=bas) (k:=K) (by decide) (Xaz h ?_);rw[show bas=10^9 from rfl,<-Nat.pow_mul];exact Xam (show 0<10 by omega) u
def gP{n:Nat}(h:n<cE):(bA bas n).length<=457:=Lq h (by decide)
def Pw{H:aD}{o l:List Nat}(h:l=o):ConvE H (cF o).es (l.map gB):=h▸ConvE.refl _
def D1:∀l:List Nat,kF l=l.take (kF l).length
 | []=>rfl
 | x::l=>by
  have ih:=D1 l;rw[kF];split
  ·split <;> rfl
  ·rename_i y t e;rw[e]at ih;simp only[Xae,List.take_succ_cons]
   congr 1
def NU{l:List Nat}(h:l.length<=(kF l).length):kF l=l:=by rw[D1 l,Xba h]
def PE(a b:ByteArray)(ha:a.size<=1048576)(F:b.size<=1048576):PC prog 166 [str a,str b] (.tup [str (Jw a b).1,int (Jw a b).2]):=by
 refine pcb (fun t=>t == 9) func166 rfl rfl ?_;simp only[go_sem];refine aN (I6 a b ha F) ?_;simp only[go_sem];refine aA (fun h=>?_) (fun h=>?_)
 ·have h:gF a b≠0:=by simpa using h
  simp only[go_sem];rw[show Jw a b=(emp,gF a b)from if_neg h];exact .refl _
 have h:gF a b=0:=by simpa using h
 obtain⟨m,n,rfl,rfl,hm,hn⟩:=pB h;have ah:=gP hm;have ag:=gP hn;simp only[go_sem,Bt h,bZ];rw[show Jw (dec m) (dec n)=szN (m+n)by unfold Jw;rw[if_pos h,bZ,bZ]];have om:=dH (b:=bas) (by decide) m;have on:=dH (b:=bas) (by decide) n;have lm:=dC (b:=bas) (by decide) m;have ln:=dC (b:=bas) (by decide) n;have af:(bA bas m).length<=(bA bas m).length:=Xad _;have ae:(bA bas n).length<=(bA bas n).length:=Xad _;obtain⟨x,hx⟩:∃x,bA bas m=x:=⟨_,rfl⟩;obtain⟨y,hy⟩:∃y,bA bas n=y:=⟨_,rfl⟩;have af:x.length<=(bA bas m).length:=by rw[hx];exact Xad _
 have ae:y.length<=(bA bas n).length:=by rw[hy];exact Xad _
 rw[hx]at om lm ah;rw[hy]at on ln ag;simp only[hx,hy];refine aL fun j hj=>?_
 refine⟨fun ρ H=>∃(i j c:Nat) (o:List Nat),i<=max x.length y.length+1/\ρ 6=.sl (x.map gB)/\ρ 7=.sl (y.map gB)/\ρ 9=.os j/\ρ 10=int c/\ρ 11=int i/\H j=some (cF o)/\Lim bas o/\o.length=i/\c<=1/\ofL bas o+bas^i*c=ofL bas (x.take i)+ofL bas (y.take i)/\(i=max x.length y.length+1->c=0/\bas^max x.length y.length<=m+n),fun ρ _=>max x.length y.length+1-aW (ρ 11),
  ⟨0,j,0,[],Xab _,by simp only[go_sem],by simp only[go_sem],by simp only[go_sem],by simp only[go_sem];rfl,by simp only[go_sem];rfl,EF,by simp[Lim],rfl,by omega,by simp[ofL],by omega⟩,?_⟩
 clear hj j;rintro ρ H ⟨i,j,c,o,hi,h6,h7,Z,u,E,Rj,ho,M,hc,hv,J⟩;have ac:rY (x.length:Int) (y.length:Int)=((max x.length y.length:Nat):Int):=by unfold rY;split <;> omega
 simp only[go_sem,h6,h7,Z,u,E,ac];refine aA (fun F=>?_) (fun F=>?_)
 ·have F:i<max x.length y.length\/0<c:=by simpa using F
  have ao:i<=max x.length y.length:=by
   rcases F with F|F
   ·omega
   ·rcases Xbd (max x.length y.length) i with h|h
    ·have:=(J (by omega)).1;omega
    ·exact h
  have an:x.getD i 0<1000000000:=lm.getD (by decide) i;have al:y.getD i 0<1000000000:=ln.getD (by decide) i;have ak:=OZ (b:=bas) (by decide) M hv;have O:i+1=max x.length y.length+1->(x.getD i 0+y.getD i 0+c)/bas=0/\bas^max x.length y.length<=m+n:=fun e=>by
   have e:i=max x.length y.length:=by omega
   have ai:x.getD i 0=0:=by simp[List.getD,List.getElem?_eq_none (by omega:x.length<=i)]
   have aj:y.getD i 0=0:=by simp[List.getD,List.getElem?_eq_none (by omega:y.length<=i)]
   have ab:c=1:=by omega
   rw[ai,aj,ab];refine⟨by decide,?_⟩;rw[Xba (by omega),Xba (by omega),om,on,ab,e]at hv;omega
  simp only[go_sem,h6,h7,Z,u,E];refine aN (Le x i (by omega)) ?_;simp only[go_sem,h6,h7,Z,u,E];refine aN (Le y i (by omega)) ?_;have e1:IntKind.i64.wrap (IntKind.i64.wrap (((x.getD i 0:Nat):Int)+((y.getD i 0:Nat):Int))+(c:Int))=((x.getD i 0+y.getD i 0+c:Nat):Int):=by rw[show IntKind.i64.wrap (((x.getD i 0:Nat):Int)+((y.getD i 0:Nat):Int))=((x.getD i 0:Nat):Int)+((y.getD i 0:Nat):Int)from aV (by omega),aV (by omega)];omega
  have e2:IntKind.i64.wrap ((((x.getD i 0+y.getD i 0+c:Nat):Int)).tdiv 1000000000)=(((x.getD i 0+y.getD i 0+c)/1000000000:Nat):Int):=by rw[Xbz (by omega),aV (by omega)];omega
  have e3:(((x.getD i 0+y.getD i 0+c:Nat):Int)).tmod 1000000000=(((x.getD i 0+y.getD i 0+c)%1000000000:Nat):Int):=by rw[Int.tmod_eq_emod_of_nonneg (by omega)];omega
  have hq:(x.getD i 0+y.getD i 0+c)/1000000000<=1:=by omega
  simp only[go_sem,h6,h7,Z,u,E,e1,e2,e3];refine⟨by decide,?_⟩;refine cD Rj ⟨rfl,rfl⟩ ⟨rfl,trivial⟩ (by simp only[cF,Xaa,Xae,List.length_nil];omega) (fun j' am=>?_);simp only[go_sem,h6,h7,Z,u,E,e2,aY i];exact⟨by decide,⟨i+1,j',_,o++[(x.getD i 0+y.getD i 0+c)%bas],by omega,rfl,rfl,rfl,sH,ho.snoc (Nat.mod_lt _ (by decide)),by simp[M],hq,ak,O⟩,by simp only[aF];omega⟩
 ·have F : max x.length y.length <= i /\ c = 0 := by simp at F;omega
  obtain⟨F,rfl⟩:=F;rw[Nat.mul_zero,Nat.add_zero,Xba (by omega),Xba (by omega),om,on]at hv;have ht:=Mb (b:=bas) (by decide) ho hv;have aa:o.length<=(bA bas (m+n)).length:=by
   rcases Xbd (max x.length y.length) i with h|h
   ·have:=FS (b:=bas) (by decide) (J (by omega)).2;omega
   ·rw[M,show i=max x.length y.length by omega];exact Nat.max_le.2 ⟨Xan af (dJ (by decide) (Nat.le_add_right m n)),Xan ae (dJ (by decide) (Nat.le_add_left n m))⟩
  have L:bA bas (m+n)=o:=by rw[<-ht];refine NU ?_;rw[ht] ;exact aa
  simp only[go_sem,h6,h7,Z,u,E];refine PC.useF [j] (.cons _ _ _ _ (.row _ _ _ (by simp only[Xap,if_true];exact Rj) (Pw L)) .nil) (wS (m+n) (by rw[L];omega)) ?_;simp only[go_sem];exact .refl _
def O6(a b:ByteArray)(Z:a.size<=1048576)(O:b.size<=1048576):PC prog 167 [str a,str b] (.tup [str (JN a b).1,int (JN a b).2]):=by
 refine pcd func167 rfl rfl ?_;simp only[go_sem];refine aN (I6 a b Z O) ?_;simp only[go_sem];refine aA (fun h=>?_) (fun h=>?_)
 ·have h:gF a b≠0:=by simpa using h
  simp only[go_sem];rw[show JN a b=(emp,gF a b)from if_neg h];exact .refl _
 have h:gF a b=0:=by simpa using h
 obtain⟨m,n,rfl,rfl,hm,M⟩:=pB h;have L:=gP hm;have aa:=gP M;simp only[go_sem,Bt h,bZ];have e:JN (dec m) (dec n)=if m<n then(emp,2)else szN (m-n):=by unfold JN;rw[if_pos h,bZ,bZ]
 rw[e];refine aN (yC m n (by omega) (by omega)) ?_;simp only[go_sem];refine aA (fun u=>?_) (fun u=>?_)
 ·have E : m < n := by
   rcases Xbd m n with F|F
   ·exact F
   ·exfalso;have u:=of_decide_eq_true u;unfold fV at u;rw[if_neg (by omega)]at u;split at u <;> omega
  simp only[go_sem];rw[if_pos E];exact .refl _
 ·have J:¬m<n:=fun F=>of_decide_eq_false u (by rw[gG (by omega)];decide)
  simp only[go_sem];rw[if_neg J];refine aN (Ma m n (by omega) (by omega)) ?_;simp only[go_sem];refine aN (wS (m-n) (by have:=dJ (b:=bas) (by decide) (Nat.sub_le m n);omega)) ?_;simp only[go_sem];exact .refl _
def UA(a b:ByteArray)(L:a.size<=1048576)(J:b.size<=1048576):PC prog 165 [str a,str b] (.tup [str (Iq a b).1,str (Iq a b).2.1,int (Iq a b).2.2]):=by
 refine pcd func165 rfl rfl ?_;simp only[go_sem];refine aN (I6 a b L J) ?_;simp only[go_sem];refine aA (fun h=>?_) (fun h=>?_)
 ·have h:gF a b≠0:=by simpa using h
  simp only[go_sem];rw[show Iq a b=(emp,emp,gF a b)from if_neg h];exact .refl _
 have h:gF a b=0:=by simpa using h
 obtain⟨m,n,rfl,rfl,O,F⟩:=pB h;have E:=gP O;have M:=gP F;simp only[go_sem,Bt h,bZ,Xaa];have e:Iq (dec m) (dec n)=if n=0 then(emp,emp,10)else(dec (m/n),dec (m%n),0):=by unfold Iq;rw[if_pos h,bZ,bZ]
 rw[e];refine aA (fun u=>?_) (fun u=>?_)
 ·have h0:n=0:=(pF (b:=bas) (by decide)).1 (by simpa using u);simp only[go_sem];rw[if_pos h0];exact .refl _
 ·have h0:n≠0:=fun e=>by subst e;rw[dZ]at u;simp at u
  simp only[go_sem];rw[if_neg h0];refine aN (Iv m n (by omega) (by omega) (by omega)) ?_;simp only[go_sem];refine aN (B9 (m/n) (by have:=dJ (b:=bas) (by decide) (Nat.div_le_self m n);omega)) ?_;simp only[go_sem];refine aN (B9 (m%n) (by have:=dJ (b:=bas) (by decide) (Nat.mod_le m n);omega)) ?_;simp only[go_sem];exact .refl _
def Q6(a b:ByteArray)(ha:a.size<=1048576)(u:b.size<=1048576):PC prog 158 [str a,str b] (.tup [str (FO a b).1,int (FO a b).2]):=by
 refine pcd func158 rfl rfl ?_;simp only[go_sem];refine aN (I6 a b ha u) ?_;simp only[go_sem];refine aA (fun h=>?_) (fun h=>?_)
 ·have h:gF a b≠0:=by simpa using h
  simp only[go_sem];rw[show FO a b=(emp,gF a b)from if_neg h];exact .refl _
 have h:gF a b=0:=by simpa using h
 obtain⟨m,n,rfl,rfl,hm,hn⟩:=pB h;have O:=gP hm;have Z:=gP hn;simp only[go_sem,Bt h,bZ];have e:FO (dec m) (dec n)=szN (Nat.gcd m n):=by unfold FO;rw[if_pos h,bZ,bZ]
 rw[e];refine⟨fun ρ _=>∃p q:Nat,ρ 6=nl p/\ρ 7=nl q/\(bA bas p).length<=457/\(bA bas q).length<=457/\Nat.gcd p q=Nat.gcd m n,fun ρ _=>match ρ 7 with| .sl es=>ofL bas (es.map fun c=>aW (c.getD 0 .any))|_=>0,⟨m,n,by simp only[go_sem],by simp only[go_sem],O,Z,rfl⟩,?_⟩;rintro ρ H ⟨p,q,M,L,aa,E,hg⟩;have J:∀q:Nat,ofL bas (((bA bas q).map gB).map fun c=>aW (c.getD 0 .any))=q:=fun q=>by rw[List.map_map,show((fun c:List AV=>aW (c.getD 0 .any)) ∘ gB)=id from funext fun n=>by simp[gB,aW],List.map_id,dH (by decide)]
 simp only[go_sem,M,L,Xaa];refine aA (fun u=>?_) (fun u=>?_)
 ·have F : 0 < q := by
   rcases Xbv q with h0|h0
   ·subst h0;rw[dZ]at u;simp at u
   ·exact h0
  simp only[go_sem,M,L];refine aN (Iv p q (by omega) F (by omega)) ?_;simp only[go_sem,M,L];refine⟨⟨q,p%q,rfl,rfl,E,Xan (dJ (by decide) (Nat.le_of_lt (Nat.mod_lt p F))) E,?_⟩,?_⟩
  ·rw[<-hg,Nat.gcd_comm p q,Nat.gcd_rec q p,Nat.gcd_comm]
  ·rw[J,J];exact Nat.mod_lt p F
 ·have F : q = 0 := by
   have:(bA bas q).length=0:=by simp at u;simpa using u
   exact(pF (b:=bas) (by decide)).1 (List.eq_nil_of_length_eq_zero this)
  subst F;simp only[go_sem,M,L];rw[Nat.gcd_zero_right]at hg;rw[<-hg];refine aN (wS p (by omega)) ?_;simp only[go_sem];exact .refl _
def Sm{b:Nat}(F:0<b){l:List Nat}{q p:Nat}(h:ofL b l<b^q)(J:q<=p)(L:p<l.length):l[p]?=some 0:=by
 obtain⟨x,u⟩:=bG L;rcases Xbv x with h0|h0
 ·rw[u,h0]
 ·exfalso;have E:ofL b l=ofL b (l.take p)+b^p*ofL b (l.drop p):=by have:=kO b (l.take p) (l.drop p);rw[List.take_append_drop,Xaj,Xbu (by omega)]at this;exact this
  rw[tK b u]at E;have h1:b^p*1<=b^p*(x+b*ofL b (l.drop (p+1))):=Nat.mul_le_mul_left _ (by omega);have M:b^q<=b^p:=Xam F J;omega
def Um(a b:ByteArray)(ha:a.size<=1048576)(hb:b.size<=1048576):PC prog 280 [str a,str b] (.tup [str (JY a b).1,int (JY a b).2]):=by
 refine pcb (fun t=>t == 9) func280 rfl rfl ?_;simp only[go_sem];refine aN (I6 a b ha hb) ?_;simp only[go_sem];refine aA (fun h=>?_) (fun h=>?_)
 ·have h:gF a b≠0:=by simpa using h
  simp only[go_sem];rw[show JY a b=(emp,gF a b)from if_neg h];exact .refl _
 have h:gF a b=0:=by simpa using h
 obtain⟨m,n,rfl,rfl,hm,hn⟩:=pB h;have ax:=gP hm;have au:=gP hn;simp only[go_sem,Bt h,bZ,Xaa];rw[show JY (dec m) (dec n)=szN (m*n)by unfold JY;rw[if_pos h,bZ,bZ]];have om:=dH (b:=bas) (by decide) m;have on:=dH (b:=bas) (by decide) n;have lm:=dC (b:=bas) (by decide) m;have ln:=dC (b:=bas) (by decide) n;have aq:(bA bas (m*n)).length<=(bA bas m).length+(bA bas n).length:=by refine jY (by decide) ?_;have h1:=kS (b:=bas) (by decide) lm;have h2:=kS (b:=bas) (by decide) ln;rw[om]at h1;rw[on]at h2;rw[Nat.pow_add];exact Nat.mul_lt_mul'' h1 h2
 obtain⟨x,hx⟩:∃x,bA bas m=x:=⟨_,rfl⟩;obtain⟨y,hy⟩:∃y,bA bas n=y:=⟨_,rfl⟩;rw[hx]at om lm ax aq;rw[hy]at on ln au aq;have ew:IntKind.i64.wrap ((x.length:Int)+(y.length:Int))=((x.length+y.length:Nat):Int):=by rw[aV (by omega)];omega
 simp only[hx,hy,ew];refine⟨by omega,aL fun j hj=>?_⟩;simp only[go_sem];refine⟨fun ρ H=>∃(i:Nat) (O:List Nat),i<=x.length/\ρ 7=.sl (y.map gB)/\ρ 9=.os j/\ρ 32=.sl (x.map gB)/\ρ 33=int x.length/\ρ 34=int i/\H j=some (cF O)/\Lim bas O/\O.length=x.length+y.length/\ofL bas O=ofL bas (x.take i)*ofL bas y,fun ρ _=>x.length-aW (ρ 34),
  ⟨0,List.replicate (x.length+y.length) 0,Xab _,by simp only[go_sem],by simp only[go_sem],by simp only[go_sem],by simp only[go_sem,Xaa],by simp only[go_sem];rfl,?_,Lim.zeros (by decide) _,by simp,by simp[ofL,M7]⟩,?_⟩
 ·rw[aB];simp only[cF,List.map_replicate,D5];rfl
 clear hj;rintro ρ H ⟨i,O,hi,h7,h9,F,E,u,Rj,ho,ay,hv⟩;simp only[go_sem,h7,h9,F,E,u];refine aA (fun ab=>?_) (fun ao=>?_)
 ·have ab:=ltB ab;obtain⟨J,al⟩:=bG ab;have b1:=inB ab;have a5:J<1000000000:=lm J (Xaf al);have aw:O[i+y.length]?=some 0:=by refine Sm (b:=bas) (by decide) (q:=i+y.length) ?_ (Xad _) (by omega);rw[hv,Nat.pow_add];have h1:=kS (b:=bas) (by decide) (lm.take i);rw[Xaj,Xbu hi]at h1;exact Nat.mul_lt_mul'' h1 (kS (b:=bas) (by decide) ln)
  simp only[go_sem,h7,h9,F,E,u,aJ al,b1,Xaa];refine⟨fun ρ H=>∃(k c:Nat) (o:List Nat),k<=y.length/\ρ 7=.sl (y.map gB)/\ρ 9=.os j/\ρ 10=int i/\ρ 11=int J/\ρ 12=int c/\ρ 32=.sl (x.map gB)/\ρ 33=int x.length/\ρ 34=int i/\ρ 39=.sl (y.map gB)/\ρ 40=int y.length/\ρ 41=int k/\H j=some (cF o)/\Lim bas o/\o.length=x.length+y.length/\c<1000000000/\ofL bas o+bas^(i+k)*c=ofL bas O+bas^i*(J*ofL bas (y.take k))/\o[i+y.length]?=some 0,fun ρ _=>y.length-aW (ρ 41),
   ⟨0,0,O,Xab _,by simp only[go_sem,h7],by simp only[go_sem,h9],by simp only[go_sem],by simp only[go_sem],by simp only[go_sem];rfl,by simp only[go_sem,F],by simp only[go_sem,E],by simp only[go_sem,u],by simp only[go_sem,h7],by simp only[go_sem,Xaa],by simp only[go_sem];rfl,Rj,ho,ay,by omega,by simp[ofL],aw⟩,?_⟩
  clear h7 h9 F E u Rj;rintro ρ H ⟨k,c,o,hk,h7,h9,aa,af,ac,F,E,u,ag,ai,ae,Rj,hO,ap,hc,hV,hZ⟩;simp only[go_sem,h7,h9,aa,af,ac,F,E,u,ag,ai,ae];refine aA (fun Z=>?_) (fun ah=>?_)
  ·have Z:=ltB Z;obtain⟨M,ak⟩:=bG Z;have b2:=inB Z;have a0:M<1000000000:=ln M (Xaf ak);obtain⟨v,aj⟩:=bG (show i+k<o.length by omega);have a4:v<1000000000:=hO v (Xaf aj);have b3:0<=((i+k:Nat):Int)/\((i+k:Nat):Int)<((cF o).es.length:Nat):=by simp only[cF,Xaa];omega
   have ei:IntKind.i64.wrap ((i:Int)+(k:Int))=((i+k:Nat):Int):=by rw[aV (by omega)];omega
   have an:(cF o).es.getD (i+k) []=gB v:=aJ aj;have az:J*M<=999999999*999999999:=Nat.mul_le_mul (by omega) (by omega);have av:=PN (b:=bas) (by decide) aj ak hV;have e1:IntKind.i64.wrap (IntKind.i64.wrap ((v:Int)+IntKind.i64.wrap ((J:Int)*(M:Int)))+(c:Int))=((v+J*M+c:Nat):Int):=by rw[show(J:Int)*(M:Int)=((J*M:Nat):Int)from(Int.natCast_mul J M).symm];generalize J*M=p at *;rw[show IntKind.i64.wrap (p:Int)=(p:Int)from aV (by omega),show IntKind.i64.wrap ((v:Int)+(p:Int))=(v:Int)+p from aV (by omega),aV (by omega)];omega
   have hq:(v+J*M+c)/1000000000<1000000000:=by omega
   have e2:IntKind.i64.wrap ((((v+J*M+c:Nat):Int)).tdiv 1000000000)=(((v+J*M+c)/1000000000:Nat):Int):=by generalize v+J*M+c=p at *;rw[Xbz (by omega),aV (by omega)];omega
   have e3:(((v+J*M+c:Nat):Int)).tmod 1000000000=(((v+J*M+c)%1000000000:Nat):Int):=by rw[Int.tmod_eq_emod_of_nonneg (by omega)];omega
   simp only[go_sem,h7,h9,aa,af,ac,F,E,u,ag,ai,ae,aJ ak,b2,ei,Rj,b3,an,e1,e2,e3];have L:i+k<(cF o).es.length:=by simp only[cF,Xaa];omega
   refine⟨rfl,⟨L,Nat.zero_lt_one⟩,by decide,rfl,cC so3 Rj ⟨L,rfl,Xad 1⟩ ?_⟩;generalize hP:aE H j _=HP;have am:HP j=some (cF (o.set (i+k) ((v+J*M+c)%bas))):=by rw[<-hP,aB];exact congrArg some (Ay (q:=(v+J*M+c)%bas) aj)
   clear hP Rj;simp only[go_sem,h7,h9,aa,af,ac,F,E,u,ag,ai,ae,e2,aY k];refine⟨by decide,⟨k+1,_,_,Z,rfl,rfl,am,hO.set (Nat.mod_lt _ (by decide)),by simp[ap],hq,av,?_⟩,by simp only[aF];omega⟩;rw[List.getElem?_set_ne (by omega)];exact hZ
  ·have ah:=geB hk ah;subst ah;have ei:IntKind.i64.wrap ((i:Int)+(y.length:Int))=((i+y.length:Nat):Int):=by rw[aV (by omega)];omega
   have L:i+y.length<(cF o).es.length:=by simp only[cF,Xaa];omega
   have b3:0<=((i+y.length:Nat):Int)/\((i+y.length:Nat):Int)<((cF o).es.length:Nat):=by omega
   have an:(cF o).es.getD (i+y.length) []=gB 0:=aJ hZ;have e1:IntKind.i64.wrap (((0:Nat):Int)+(c:Int))=(c:Int):=by rw[aV (by omega)];omega
   simp only[go_sem,h7,h9,aa,af,ac,F,E,u,ag,ai,ae,Xaa,ei,Rj,b3,an,e1];refine⟨rfl,⟨L,Nat.zero_lt_one⟩,rfl,cC so3 Rj ⟨L,rfl,Xad 1⟩ ?_⟩;generalize hP:aE H j _=HP;have am:HP j=some (cF (o.set (i+y.length) c)):=by rw[<-hP,aB];exact congrArg some (Ay (q:=c) hZ)
   clear hP Rj;have ar:=S8 (b:=bas) hZ hV;simp only[go_sem,h7,h9,aa,af,ac,F,E,u,ag,ai,ae,aY i];refine⟨⟨i+1,_,ab,rfl,am,hO.set hc,by simp[ap],?_⟩,by simp only[aF];omega⟩;rw[ar,hv,gQ bas al,Nat.add_mul,Nat.mul_assoc]
 ·have ao:=geB hi ao;subst ao;simp only[go_sem,h9];rw[Xai,om,on]at hv;refine PC.useF [j] (.cons _ _ _ _ (.row _ _ _ (by simp only[Xap,if_true];exact Rj) (ConvE.refl _)) .nil) (D2 ho (by omega) hv) ?_;simp only[go_sem];refine aN (wS (m*n) (by omega)) ?_;simp only[go_sem];exact .refl _
end Nu
namespace Nu
open Go.Proofs.Tryz
open Go.Nu
open Go.RowKit (Below)
def GP(s:ByteArray):Lib.hasPrefix (bl s) [45]=fN s:=by
 unfold Lib.hasPrefix fN;cases bl s with
 | nil=>rfl
 | cons c r=>
  by_cases h:c=45
  ·subst h;rfl
  ·have h1:(some c == some (45:UInt8))=false:=by simpa using h
   have u:((45:UInt8) == c)=false:=by simpa using Ne.symm h
   simp only[List.isPrefixOf,List.head?_cons,h1,u,Bool.false_and]
def Eb(s:ByteArray):(⟨(Lib.trimPrefix (bl s) [45]).toArray⟩:ByteArray)=dL s:=by
 unfold Lib.trimPrefix dL;rw[GP];split
 ·rfl
 ·exact Vh s
def Kw(s:ByteArray):PC prog 220 [str s,str ⟨#[45]⟩] (.tup [str (dL s),boo (fN s)]):=by
 refine PC.lib (a:=[.string s,.string ⟨#[45]⟩]) (v:=.tuple #[.string (dL s),.bool (fN s)]) (fun S w=>⟨_,rfl,⟨_,_,rfl,rfl,⟨_,_,rfl,rfl,rfl⟩⟩⟩) fun w _=>(Tryz.strings_CutPrefix s ⟨#[45]⟩ w).mono fun e w' ⟨u,E⟩=>?_
 rw[E];refine⟨u.trans ?_,Below.refl _ _⟩;rw[show s.data.toList=bl s from rfl,show(⟨#[45]⟩:ByteArray).data.toList=[45]from rfl,Eb,GP]
def sR(s:ByteArray):PC prog 159 [str s,str ⟨#[45]⟩] (str (dL s)):=by
 refine PC.lib (a:=[.string s,.string ⟨#[45]⟩]) (v:=.string (dL s)) (fun S w=>rfl) fun w _=>(Tryz.strings_TrimPrefix s ⟨#[45]⟩ w).mono fun e w' ⟨u,E⟩=>?_
 rw[E];refine⟨u.trans ?_,Below.refl _ _⟩;rw[show s.data.toList=bl s from rfl,show(⟨#[45]⟩:ByteArray).data.toList=[45]from rfl,Eb]
def KD(n:Int)(h0: -9223372036854775808<=n)(h1:n<=9223372036854775807):PC prog 207 [int n] (str (zed n)):=by
 refine PC.lib (a:=[.int .i64 n]) (v:=.string (zed n)) (fun S w=>rfl) fun w u=>(Tryz.strconv_Itoa n h0 h1 w (Rq u)).mono fun e w' ⟨E,k,os,F⟩=>?_
 rw[F];exact⟨E,iX k os⟩
def UW(a b:ByteArray):PC prog 226 [str a,str b] (int (Lib.compareBytes (bl a) (bl b))):=by
 refine PC.lib (a:=[.string a,.string b]) (v:=.int .i64 (Lib.compareBytes (bl a) (bl b))) (fun S w=>rfl) fun w _=>(Tryz.strings_Compare a b w).mono fun e w' ⟨u,E⟩=>?_
 rw[E];exact⟨u,Below.refl _ _⟩
def tC:(⟨#[48]⟩:ByteArray)=dec 0:=jB (by rw[jH,Lib.decDigits_one (by omega)];rfl)
def Av:(⟨#[49]⟩:ByteArray)=dec 1:=jB (by rw[jH,Lib.decDigits_one (by omega)];rfl)
def oB(s:ByteArray):(bl s == [48])=eqB s (dec 0):=by unfold eqB;rw[<-tC];rfl
def KC(s:ByteArray):(bl s == [49])=eqB s (dec 1):=by unfold eqB;rw[<-Av];rfl
def FT(s:ByteArray):(dL s).size<=s.size:=by
 unfold dL;split
 ·rw[<-eE,<-eE,gN,List.length_drop];omega
 ·exact Xad _
def wZ(s:ByteArray)(h:s.size<=1048576):PC prog 161 [str s] (.tup [boo (fN s),str (dL s),boo (eD s)]):=by refine pcd func161 rfl rfl ?_;simp only[go_sem];refine aN (Kw s) ?_;simp only[go_sem];refine aN (wQ (dL s) (by have:=FT s;omega)) ?_;simp only[go_sem,oB];exact .refl _
def Pm(s:ByteArray)(h:s.size<=1048576):PC prog 113 [str s] (boo (eD s)):=by refine pcd func113 rfl rfl ?_;simp only[go_sem];refine aN (wZ s h) ?_;simp only[go_sem];exact .refl _
def Vv(n:Int)(h0: -9223372036854775808<=n)(h1:n<=9223372036854775807):PC prog 146 [int n] (str (zed n)):=by refine pcd func146 rfl rfl ?_;simp only[go_sem];refine aN (KD n h0 h1) ?_;simp only[go_sem];exact .refl _
def Mk(s:ByteArray)(h:s.size<=1048576):PC prog 92 [str s] (int (AX s)):=by
 refine pcd func92 rfl rfl ?_;simp only[go_sem];refine aN (wZ s h) ?_;simp only[go_sem,oB];refine aA (fun E=>?_) (fun E=>?_)
 ·simp only[go_sem];refine cI ?_;unfold AX;by_cases u:eD s=true
  ·rw[if_pos u];have L:eqB (dL s) (dec 0)=true:=by rw[u]at E;simpa using E
   have:fX s=0:=by unfold fX;rw[lQ.1 L,bZ];split <;> rfl
   rw[this];rfl
  ·rw[if_neg u]
 ·have u:eD s=true/\eqB (dL s) (dec 0)=false:=by simpa using E
  have J:eI (dL s)=true:=by have:=u.1;unfold eD at this;simp only[Xav]at this;exact this.1
  have M:0<eA (dL s):=by
   rcases Xbv (eA (dL s))with h0|h0
   ·have:=hJ J;rw[h0]at this;exact absurd this.symm (mO.1 u.2)
   ·exact h0
  simp only[go_sem];refine aA (fun F=>?_) (fun F=>?_)
  ·simp only[go_sem];refine cI ?_;unfold AX fX;rw[if_pos u.1,if_pos F,Int.sign_eq_neg_one_of_neg (by omega)]
  ·simp only[go_sem];refine cI ?_;unfold AX fX;rw[if_pos u.1,if_neg (by rw[F];simp),Int.sign_eq_one_of_pos (by omega)]
def sg(m:Bool)(n:Nat):Int:=if m=true then -(n:Int)else n
def SS(m:Bool)(n:Nat):(if(m&& !eqB (dec n) (dec 0))=true then(⟨#[45]⟩:ByteArray)++dec n else dec n)=zed (sg m n):=by
 unfold sg;by_cases u:n=0
 ·subst u;rw[show eqB (dec 0) (dec 0)=true from lQ.2 rfl];simp only[Xby,Bool.and_false,Xax,if_false];rw[<-dG];split <;> rfl
 ·rw[show eqB (dec n) (dec 0)=false from mO.2 fun e=>u (pY.1 e)];cases m with
  | true=>simp only[Bool.not_false,Bool.and_true,if_true];rw[AB (by omega)];refine jB ?_;rw[yI,gN,jH];rfl
  | false=>simp only[Bool.false_and,Xax,if_false];rw[dG]
def EB(m:Bool)(n:Nat)(J:(dec n).size<=1048576):PC prog 168 [.agg [boo m,str (dec n)]] (str (zed (sg m n))):=by
 refine pcb (fun t=>t == 1) func168 rfl rfl ?_;simp only[go_sem];refine aL fun j L=>?_
 have R:=aB bJ j (some ⟨284,2,[[boo m,str (dec n)]]⟩);generalize aE bJ j _=H1 at R |-;simp only[go_sem,R];have u:=SS m n;have F:(m&& !bl (dec n) == [48])=(m&& !eqB (dec n) (dec 0)):=by rw[<-oB]
 rw[F];refine aA (fun E=>?_) (fun E=>?_)
 ·rw[if_pos E]at u;simp only[go_sem,R];refine⟨by show((1+(dec n).size:Nat):Int)<=9223372036854775807;omega,?_⟩;exact cS u
 ·rw[if_neg (by rw[E];simp)]at u;simp only[go_sem,R];exact cS u
def Ox(m:Bool)(n:Nat):(sg m n).natAbs=n:=by unfold sg;split <;> omega
def pI(m:Bool)(n:Nat):PC prog 232 [.agg [boo m,str (szN n).1],int (szN n).2] (.tup [str (szZ (sg m n)).1,int (szZ (sg m n)).2]):=by
 by_cases u:n<cE
 ·have J:=(fJ n).2 u;rw[xY u,show szZ (sg m n)=(zed (sg m n),0)from if_pos (by rw[Ox];exact u)];refine pcb (fun t=>t == 2) func232 rfl rfl ?_;simp only[go_sem];refine aL fun j F=>?_
  have R:=aB bJ j (some ⟨284,2,[[boo m,str (dec n)]]⟩);generalize aE bJ j _=H1 at R |-;simp only[go_sem,R];refine aA (fun E=>by cases E) (fun _=>?_);simp only[go_sem,R];refine aN (EB m n (by omega)) ?_;simp only[go_sem];exact .refl _
 ·rw[show szN n=(emp,4)from if_neg u,show szZ (sg m n)=(emp,4)from if_neg (by rw[Ox];exact u)];refine pcb (fun t=>t == 2) func232 rfl rfl ?_;simp only[go_sem];refine aL fun j F=>?_
  simp only[go_sem];refine aA (fun E=>?_) (fun E=>by cases E);simp only[go_sem];exact .refl _
def zV(s:ByteArray):List AV:=[boo (fN s),str (dL s)]
def I3(s:ByteArray):(zV s).length=2:=(rfl)
def UJ(s:ByteArray):(zV s).getD 0 .any=boo (fN s):=(rfl)
def Uv(s:ByteArray):(zV s).getD 1 .any=str (dL s):=(rfl)
def QU(s:ByteArray):(zV s).take 2=zV s:=(rfl)
attribute [go_sem] I3 UJ Uv QU
def zZ(l:List ByteArray):Row:=⟨284,2,l.map zV⟩
def O4(s:ByteArray):Bool:=decide ((dL s).size>4096)
def An(l:List ByteArray):Int:=if l.any (fun s=> !eD s)=true then 3 else if l.any O4=true then 4 else 0
def zL(l:List ByteArray):List (List AV):=if An l=0 then l.map zV else[]
def Az{α:Type}{q:α->Bool}{l:List α}{k:Nat}{c:α}(h:l[k]?=some c)(u:q c=true):l.any q=true:=List.any_eq_true.2 ⟨c,Xaf h,u⟩
def wP{α:Type}{q:α->Bool}{l:List α}(h:∀c∈l,q c=false):l.any q=false:=by rw[List.any_eq_false];intro c u;rw[h c u];simp
def LA(l:List ByteArray)(hl:l.length<=1048576)(hs:∀s∈l,s.size<=1048576):PC prog 164 [.sl (l.map Go.Aw.D.cQ)] (.tup [.sl (zL l),int (An l)]):=by
 refine pcb (fun t=>t == 4) func164 rfl rfl ?_;simp only[go_sem];refine aL fun j hj=>?_
 simp only[go_sem];refine⟨fun ρ H=>∃(k j:Nat),k<=l.length/\ρ 12=.sl (l.map Go.Aw.D.cQ)/\ρ 13=int l.length/\ρ 4=.os j/\ρ 14=int k/\H j=some (zZ (l.take k))/\∀s∈l.take k,eD s=true,fun ρ _=>l.length-aW (ρ 14),
  ⟨0,j,Xab _,by simp only[go_sem],by simp only[go_sem,Xaa],by simp only[go_sem],by simp only[go_sem];rfl,aB _ _ _,by simp⟩,?_⟩
 clear hj j;rintro ρ H ⟨k,j,hk,M,O,F,L,Rj,hz⟩;simp only[go_sem,M,O,F,L];refine aA (fun u=>?_) (fun J=>?_)
 ·have u:=ltB u;obtain⟨s,E⟩:=bG u;have b1:=inB u;simp only[go_sem,M,O,F,L,aJ E,b1];refine aN (wZ s (hs s (Xaf E))) ?_;simp only[go_sem,M,O,F,L];refine aA (fun hb=>?_) (fun hb=>?_)
  ·simp only[go_sem];have e:An l=3:=by unfold An;rw[if_pos (Az E hb)]
   rw[show zL l=[]from if_neg (by rw[e];decide),e];exact .refl _
  ·simp only[go_sem,M,O,F,L];refine cD Rj ⟨rfl,rfl⟩ ⟨rfl,trivial⟩ (by simp only[zZ,Xaa,Xaj,Xae,List.length_nil];omega) (fun j' aj=>?_);simp only[go_sem,M,O,F,L,aY k];refine⟨⟨k+1,j',u,rfl,rfl,?_,fU E (by simpa using hb) hz⟩,by simp only[aF];omega⟩;rw[aB];simp only[zZ,bK E,Xak,Xar,Xay];rfl
 ·have J:=geB hk J;subst J;rw[Xai]at Rj hz;have hR:l.any (fun s=> !eD s)=false:=wP fun s hs=>by rw[hz s hs];rfl
  have af:((zZ l).es.length:Int)=l.length:=by simp[zZ]
  simp only[go_sem,F,Rj,af];refine⟨fun ρ H=>∃(k:Nat),k<=l.length/\ρ 4=.os j/\ρ 33=.os j/\ρ 34=int l.length/\ρ 35=int k/\H j=some (zZ l)/\∀s∈l.take k,O4 s=false,fun ρ _=>l.length-aW (ρ 35),
   ⟨0,Xab _,by simp only[go_sem,F],by simp only[go_sem],by simp only[go_sem],by simp only[go_sem];rfl,Rj,by simp⟩,?_⟩
  clear F Rj M O L;rintro ρ H ⟨k,hk,F,aa,Z,ab,Rj,ac⟩;simp only[go_sem,F,aa,Z,ab];refine aA (fun u=>?_) (fun J=>?_)
  ·have u:=ltB u;obtain⟨s,E⟩:=bG u;have b1:=inB u;have ai:(zZ l).es.getD k []=zV s:=aJ E;have b2:0<=(k:Int)/\(k:Int)<((zZ l).es.length:Nat):=by simp only[zZ,Xaa];exact b1
   simp only[go_sem,F,aa,Z,ab,Rj,b2,ai];have ae:k<(zZ l).es.length:=by simp only[zZ,Xaa];exact u
   refine⟨rfl,⟨ae,Xad 2⟩,?_⟩;refine aL fun i hi=>?_
   simp only[go_sem,F,aa,Z,ab];have ag:j≠i:=aO Rj hi;refine aZ (aB _ _ _) (by simp[I3]) ?_;generalize hG:aE (aE _ i _) i _=HG;have Ri:HG i=some (⟨284,2,[zV s]⟩:Row):=by rw[<-hG,aB];rfl
   have ah:HG j=some (zZ l):=by rw[<-hG,aC _ _ _ _ ag,aC _ _ _ _ ag];exact Rj
   clear hG hi Rj;simp only[go_sem,F,aa,Z,ab,Ri];have hd:decide (((dL s).size:Int)>4096)=O4 s:=by unfold O4;rw[decide_eq_decide];omega
   rw[hd];refine aA (fun hb=>?_) (fun hb=>?_)
   ·simp only[go_sem];have e:An l=4:=by unfold An;rw[if_neg (by rw[hR];simp),if_pos (Az E hb)]
    rw[show zL l=[]from if_neg (by rw[e];decide),e];exact .refl _
   ·simp only[go_sem,F,aa,Z,ab,aY k];exact⟨⟨k+1,u,rfl,ah,fU E hb ac⟩,by simp only[aF];omega⟩
  ·have J:=geB hk J;subst J;rw[Xai]at ac;simp only[go_sem,F];have e:An l=0:=by unfold An;rw[if_neg (by rw[hR];simp),if_neg (by rw[wP ac];simp)]
   rw[show zL l=l.map zV from if_pos e,e];exact .tup _ _ (.cons _ _ _ _ (.row _ _ _ Rj (ConvE.refl _)) (ConvL.refl _))
end Nu
end Go.Proofs.YtmhpdppobocokaaGreatDoor
