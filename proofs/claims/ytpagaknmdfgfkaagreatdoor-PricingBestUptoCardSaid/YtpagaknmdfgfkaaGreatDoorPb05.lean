import Derived.Lib.ItoaMem
import Derived.Laws.Strings
import Derived.Shelf.Strings.Builder1
import Derived.Shelf.Strings.Builder2
import Derived.Shelf.Small.Strs
import Derived.Shelf.Small.Wraps
import Derived.Shelf.Strings.BuilderF
import Derived.Shelf.Strings.BuilderK
import Derived.Shelf.Strings.Builder2Cap
import Derived.Shelf.Strconv.Itoa0
import Derived.Shelf.Strconv.Itoa1
import Derived.Shelf.LaysM
import Derived.Shelf.Strconv.Itoa2
import Derived.Shelf.Strconv.Itoa3
import Derived.Shelf.Strings.Search1
import Derived.Shelf.Strings.Search2
import Derived.Shelf.Strings.Search3
import Derived.Shelf.Strings.Cut
import Derived.Shelf.Strings.Shaped
import Derived.Shelf.Strings.Prefix
import Derived.Shelf.Bits.Mul64
import Derived.Shelf.Strings.Repeat
import Derived.Shelf.Strings.BuilderCap
import Derived.Ground.Names2Prog
import Derived.Shelf.Slices.SearchI
import Derived.Test.YtpagaknmdfgfkaaGreatDoorProg
import Derived.WalkKit
import Derived.BigCall
import Derived.Deep.LoopGhost
import Derived.Deep.DeepFit
import Derived.Lib.SmallJoins
import Derived.Test.YtpagaknmdfgfkaaGreatDoorPb04
set_option linter.unusedSimpArgs false
set_option linter.unusedVariables false
set_option linter.defProp false
set_option maxRecDepth 100000
section
namespace Go.Aw
open Go.RowKit
section
variable{P:Program}{S:Sg}{w:World}{H:aH}{f:FuncId}{args args':List AV}{K:AV->aH->Prop}
def St.frz(J:St S w H)(l:List Nat):St (S.froze fun k=>if k∈l then H k else none) w (fun k=>if k∈l then none else H k)/\Grow S w (S.froze fun k=>if k∈l then H k else none) w/\St S w fun k=>if k∈l then H k else none:=by
 let Hf:aH:=fun k=>if k∈l then H k else none
 let Hr:aH:=fun k=>if k∈l then none else H k
 have U:∀k r',Hf k=some r'->k∈l/\H k=some r':=fun k r' E=>by
  by_cases e:k∈l
  ·exact⟨e,by simpa[Hf,e]using E⟩
  ·simp[Hf,e]at E
 have I:∀k r',Hr k=some r'->¬k∈l/\H k=some r':=fun k r' E=>by
  by_cases e:k∈l
  ·simp[Hr,e]at E
  ·exact⟨e,by simpa[Hr,e]using E⟩
 refine⟨⟨?_,?_,fun k r' E=>(J.rows k r' (I k r' E).2).keep (S.le_froze Hf) (iL.refl S w) (fun _ _=>rfl),?_,fun k k' r1 O E X Y g F V=>J.disj k k' r1 O (I k r1 E).2 (I k' O X).2 Y g F V,J.tabs.keep (S.le_froze Hf) (iL.refl S w)⟩,⟨S.le_froze Hf,fun k E=>.inl E,rfl,rfl,rfl,Nat.le_refl _,fun _ _=>rfl,?_⟩,J.drop fun k r' E=>(U k r' E).2⟩
 ·rintro g (F|F)
  ·exact .inl (J.ro_fz g F)
  ·exact .inr F
 ·rintro g (F|⟨k,r',E,F⟩)
  ·exact J.fz_lt g F
  ·exact(J.rows k r' (U k r' E).2).block_lt F
 ·rintro k r' E g F (h1|⟨i,O,hi,Z⟩)
  ·exact J.free k r' (I k r' E).2 g F h1
  ·exact J.disj k i r' O (I k r' E).2 (U i O hi).2 (fun e=>(I k r' E).1 (e▸(U i O hi).1)) g F Z
 ·rintro g (F|⟨k,r',E,F⟩)
  ·exact .inl F
  ·exact .inr (J.free k r' (U k r' E).2 g F)
def bM.frz(l:List Nat)(V:ConvL (fun k=>if k∈l then H k else none) args args')(h:bM P f args' (fun k=>if k∈l then none else H k) K):bM P f args H K:=by
 intro S w vals X Z;obtain⟨h1,I,h3⟩:=X.frz l;refine(h _ w vals h1 (V.rep h3 Z)).mono fun e w' ⟨v,r,H',S',J,O,E,hv,U,Y⟩=>⟨v,r,H',S',J,O,E,hv,I.trans U,fun k F h0=>Y k F ?_⟩
 by_cases e:k∈l
 ·simp[e]
 ·simpa[e]using h0
def PC.useF{r:AV}(l:List Nat)(F:ConvL (fun k=>if k∈l then H k else none) args args')(h:PC P f args' r)(E:K r (fun k=>if k∈l then none else H k)):bM P f args H K:=bM.frz l F (PC.use h E)
def PC.lib{a:List Value}{r:AV}{v:Value}(V:∀S w,rep S w r v)(h:∀w,(∀t∈YJ,vG w t.1=some t.2)->Calls P f a.toArray w fun e w'=>e=.returned v/\Below w.heap.size w w'):PC P f (a.map .v) r:=by
 intro S w vals I Y J;obtain rfl:vals=a:=by
  clear h;induction a generalizing vals with
  | nil=>
   cases vals with
   | nil=>rfl
   | cons x r=>simp[bN]at J
  | cons x a ih=>simp only[List.map_cons,bN]at J;obtain⟨u,t,rfl,h1,O⟩:=J;simp only[rep]at h1;subst h1;rw[ih t O]
 refine(h w fun t X=>(I.tabs t X).2).mono fun e w' ⟨U,E⟩=>?_
 exact⟨v,r,bQ,S,U,rfl,I.after E.size fun k F=>E.block k F,V S w',I.grow E.os E.tape E.output E.size fun k F=>E.block k F,gV.refl _ _⟩
end
end Go.Aw
end
section
namespace Go.Nu
open Go Go.Lib
def ofL(b:Nat):List Nat->Nat
 | []=>0
 | x::r=>x+b*ofL b r
def Lim(b:Nat)(l:List Nat):Prop:=∀x∈l,x<b
def aY(b:Nat)(n:Nat):List Nat:=if h:n=0\/b<2 then[]else n%b::aY b (n/b)
termination_by n
decreasing_by exact Nat.div_lt_self (by omega) (by omega)
def oS:List Nat->List Nat
 | []=>[]
 | x::r=>match oS r with
   | []=>if x=0 then[]else[x]
   | y::t=>x::y::t
def sS(b:Nat):∀l r:List Nat,ofL b (l++r)=ofL b l+b^l.length*ofL b r
 | [],r=>by simp[ofL]
 | x::l,r=>by simp only[List.cons_append,ofL,sS b l r,List.length_cons,Nat.pow_succ,Nat.mul_add,Nat.add_assoc];rw[Nat.mul_comm (b^l.length) b,Nat.mul_assoc]
def vT(b:Nat)(l:List Nat)(x:Nat):ofL b (l++[x])=ofL b l+b^l.length*x:=by rw[sS];simp[ofL]
def kP{b:Nat}(E:0<b):∀{l:List Nat},Lim b l->ofL b l<b^l.length
 | [],_=>by simp[ofL]
 | x::l,h=>by
  have h1:=h x (by simp);have I:=kP E (l:=l) fun y F=>h y (by simp[F])
  simp only[ofL,List.length_cons,Nat.pow_succ];have:b*(ofL b l+1)<=b*b^l.length:=Nat.mul_le_mul_left _ I;rw[Nat.mul_add]at this;rw[Nat.mul_comm (b^l.length) b];omega
def lJ(b:Nat){l:List Nat}{k x:Nat}(h:l[k]?=some x):ofL b (l.take (k+1))=ofL b (l.take k)+b^k*x:=by rw[List.take_add_one,h];simp only[Option.toList];rw[vT,List.length_take,Nat.min_eq_left (Nat.le_of_lt (List.getElem?_eq_some_iff.1 h).1)]
def OP(b:Nat):∀(l:List Nat) (k x v:Nat),l[k]?=some x->ofL b (l.set k v)+b^k*x=ofL b l+b^k*v
 | [],k,x,v,h=>by simp at h
 | y::l,0,x,v,h=>by simp only[List.getElem?_cons_zero,Option.some.injEq]at h;subst h;simp only[List.set_cons_zero,ofL,Nat.pow_zero,Nat.one_mul];omega
 | y::l,k+1,x,v,h=>by
  have:=OP b l k x v (by simpa using h);have E:b*(ofL b (l.set k v)+b^k*x)=b*(ofL b l+b^k*v):=by rw[this]
  simp only[List.set_cons_succ,ofL,Nat.pow_succ];rw[Nat.mul_add,Nat.mul_add,<-Nat.mul_assoc,<-Nat.mul_assoc]at E;rw[Nat.mul_comm (b^k) b];omega
def Lb(b n:Nat):ofL b (List.replicate n 0)=0:=by
 induction n with
 | zero=>rfl
 | succ n ih=>simp[List.replicate_succ,ofL,ih]
def dZ(b:Nat):aY b 0=[]:=by rw[aY];simp
def oK{b n:Nat}(F:2<=b)(E:n≠0):aY b n=n%b::aY b (n/b):=by rw[aY,dif_neg (by omega)]
def cP{b:Nat}(I:2<=b)(n:Nat):Lim b (aY b n):=by
 induction n using Nat.strongRecOn with
 | _ n ih=>
  by_cases F:n=0
  ·subst F;rw[dZ];intro x E;cases E
  ·rw[oK I F];intro x E;rcases List.mem_cons.1 E with rfl|E
   ·exact Nat.mod_lt _ (by omega)
   ·exact ih (n/b) (Nat.div_lt_self (by omega) (by omega)) x E
def cU{b:Nat}(F:2<=b)(n:Nat):ofL b (aY b n)=n:=by
 induction n using Nat.strongRecOn with
 | _ n ih=>
  by_cases E:n=0
  ·subst E;rw[dZ];rfl
  ·rw[oK F E,ofL,ih (n/b) (Nat.div_lt_self (by omega) (by omega))];exact Nat.mod_add_div n b
def qD{b n:Nat}(E:2<=b):aY b n=[]↔n=0:=by
 constructor
 ·intro h;have:=cU E n;rw[h]at this;exact this.symm
 ·rintro rfl;exact dZ b
def Kg{b x m:Nat}(F:2<=b)(E:x<b)(h:x+b*m≠0):aY b (x+b*m)=x::aY b m:=by rw[oK F h,Nat.add_mul_mod_self_left,Nat.mod_eq_of_lt E,Nat.add_mul_div_left _ _ (by omega),Nat.div_eq_of_lt E,Nat.zero_add]
def J1{b:Nat}(F:2<=b):∀{l:List Nat},Lim b l->oS l=aY b (ofL b l)
 | [],_=>by rw[ofL,dZ];rfl
 | x::l,h=>by
  have ih:=J1 F (l:=l) fun y O=>h y (by simp[O])
  have J:=h x (by simp);rw[oS,ih];by_cases h0:ofL b l=0
  ·simp only[ofL,h0,dZ];by_cases E:x=0
   ·subst E;simp[dZ]
   ·rw[if_neg E,Kg F J (by omega),dZ]
  ·have I:aY b (ofL b l)≠[]:=fun e=>h0 ((qD F).1 e)
   rw[ofL,Kg F J (by have:0<b*ofL b l:=Nat.mul_pos (by omega) (by omega);omega)];split
   ·rename_i e;exact absurd e I
   ·rename_i e;rw[e]
def NB{b:Nat}(F:2<=b){l:List Nat}{n:Nat}(h:Lim b l)(E:ofL b l=n):oS l=aY b n:=by rw[J1 F h,E]
def iO{b:Nat}(F:2<=b){n k:Nat}(h:n<b^k):(aY b n).length<=k:=by
 induction k generalizing n with
 | zero => have : n = 0 := by simpa using h
           subst this;rw[dZ];exact Nat.le_refl _
 | succ k ih=>
   by_cases E:n=0
   . subst E;rw[dZ];exact Nat.zero_le _
   . rw[oK F E,List.length_cons];refine Nat.succ_le_succ (ih ?_);rw[Nat.div_lt_iff_lt_mul (by omega)]
     rwa [Nat.pow_succ]at h
def Ot{b:Nat}(E:2<=b){n k:Nat}(h:b^k<=n):k<(aY b n).length:=by have h1:=kP (b:=b) (by omega) (cP E n);rw[cU E]at h1;exact(Nat.pow_lt_pow_iff_right (by omega)).1 (Nat.lt_of_le_of_lt h h1)
def cR{b:Nat}(E:2<=b){m n:Nat}(h:m<=n):(aY b m).length<=(aY b n).length:=by refine iO E ?_;have h1:=kP (b:=b) (by omega) (cP E n);rw[cU E]at h1;omega
def VN{b:Nat}(E:2<=b){n:Nat}(F:n≠0):b^((aY b n).length-1)<=n:=by
 induction n using Nat.strongRecOn with
 | _ n ih=>
  rw[oK E F,List.length_cons,Nat.add_sub_cancel];by_cases h0:n/b=0
  ·rw[h0,dZ];simp;omega
  ·have:=ih (n/b) (Nat.div_lt_self (by omega) (by omega)) h0;have I:(aY b (n/b)).length=((aY b (n/b)).length-1)+1:=by
    have:aY b (n/b)≠[]:=fun e=>h0 ((qD E).1 e)
    have:=List.length_pos_iff.2 this;omega
   rw[I,Nat.pow_succ];exact Nat.le_trans (Nat.mul_le_mul_right b this) (Nat.div_mul_le_self n b)
def MT{b:Nat}(V:0<b){l r:List Nat}(Y:Lim b l)(hr:Lim b r)(I:l.length=r.length){k x y:Nat}(F:l[k]?=some x)(Z:r[k]?=some y)(E:x<y)(U:l.drop (k+1)=r.drop (k+1)):ofL b l<ofL b r:=by
 have hk:k<l.length:=(List.getElem?_eq_some_iff.1 F).1;have J:l=l.take (k+1)++l.drop (k+1):=(List.take_append_drop _ _).symm;have X:r=r.take (k+1)++r.drop (k+1):=(List.take_append_drop _ _).symm;rw[J,X,sS,sS,U,lJ b F,lJ b Z,List.length_take,List.length_take,Nat.min_eq_left (by omega),Nat.min_eq_left (by omega)];have h1:=kP V (l:=l.take k) fun z hz=>Y z (List.mem_of_mem_take hz)
 rw[List.length_take,Nat.min_eq_left (by omega)]at h1;have O:b^k*(x+1)<=b^k*y:=Nat.mul_le_mul_left _ E;rw[Nat.mul_add]at O;omega
def Mm{b:Nat}(E:2<=b){m n:Nat}(h:(aY b m).length<(aY b n).length):m<n:=by
 rcases Nat.lt_or_ge m n with h1|h1
 ·exact h1
 ·have:=cR E h1;omega
def Ht{α:Type}{p:List α->Prop}(h0:p [])(h1:∀l c,p l->p (l++[c]))(l:List α):p l:=by
 have:∀r:List α,p r.reverse:=fun r=>by
  induction r with
  | nil=>exact h0
  | cons c r ih=>rw[List.reverse_cons];exact h1 _ _ ih
 rw[<-List.reverse_reverse l];exact this _
def isD(c:UInt8):Bool:=decide (48<=c.toNat)&&decide (c.toNat<=57)
def iJ(l:List UInt8):Nat:=l.foldl (fun a c=>10*a+(c.toNat-48)) 0
def fA(l:List UInt8):Bool:=l != []&&(l.length == 1||l.getD 0 0 != 48)&&l.all isD
def dec(n:Nat):ByteArray:=⟨(decDigits n).toArray⟩
def oP(l:List UInt8)(c:UInt8):iJ (l++[c])=10*iJ l+(c.toNat-48):=by simp[iJ]
def Fj{α:Type}{l r:List α}{k:Nat}{d:α}(h:k<l.length):(l++r).getD k d=l.getD k d:=by simp only[List.getD,List.getElem?_append_left h]
def oF{d:Nat}(h:d<10):(UInt8.ofNat (48+d)).toNat=48+d:=by rw[UInt8.toNat_ofNat'];omega
def qP(n:Nat):iJ (decDigits n)=n:=by
 induction n using Nat.strongRecOn with
 | _ n ih=>
  rw[decDigits];split
  ·rename_i h;simp only[iJ,List.foldl_cons,List.foldl_nil,oF h];omega
  ·rename_i h;rw[oP,ih (n/10) (by omega),oF (by omega)];omega
def wY(n:Nat):(decDigits n).all isD=true:=by
 induction n using Nat.strongRecOn with
 | _ n ih=>
  rw[decDigits];split
  ·rename_i h;simp only[List.all_cons,List.all_nil,Bool.and_true,isD,oF h,Bool.and_eq_true,decide_eq_true_eq];omega
  ·rename_i h;rw[List.all_append,ih (n/10) (by omega)];simp only[List.all_cons,List.all_nil,Bool.and_true,Bool.true_and,isD,oF (show n%10<10 by omega),Bool.and_eq_true,decide_eq_true_eq];omega
def JN(n:Nat):decDigits n≠[]:=by rw[decDigits];split <;> simp
def iR(n:Nat):0<(decDigits n).length:=List.length_pos_iff.2 (JN n)
def aeB{n:Nat}(h:n≠0):(decDigits n).getD 0 0≠48:=by
 induction n using Nat.strongRecOn with
 | _ n ih=>
  rw[decDigits];split
  ·rename_i h1;simp only[List.getD_cons_zero];intro e;have:=oF h1;rw[e]at this;simp at this;omega
  ·rename_i h1;have E:=ih (n/10) (by omega) (by omega);have F:=iR (n/10);rw[Fj F];exact E
def Bu{n:Nat}:(decDigits n).length=1↔n<10:=by
 rw[decDigits];split
 ·simp_all
 ·rename_i h;have:=iR (n/10);simp only[List.length_append,List.length_cons,List.length_nil];omega
def aaX(n:Nat):fA (decDigits n)=true:=by
 unfold fA;simp only[Bool.and_eq_true,bne_iff_ne,ne_eq,Bool.or_eq_true,beq_iff_eq];refine⟨⟨JN n,?_⟩,wY n⟩;by_cases h:n=0
 ·left;rw[Bu];omega
 ·right;exact aeB h
def nI{c:UInt8}:isD c=true↔48<=c.toNat/\c.toNat<=57:=by simp[isD]
def aiN{c:UInt8}(h:isD c=true):UInt8.ofNat (48+(c.toNat-48))=c:=by rw[nI]at h;rw[show 48+(c.toNat-48)=c.toNat by omega];exact UInt8.ofNat_toNat
def agE:∀{l:List UInt8},l.all isD=true->l≠[]->l.getD 0 0≠48->10^(l.length-1)<=iJ l:=by
 intro l;induction l using Ht with
 | h0=>intro _ h;exact absurd rfl h
 | h1 l c ih=>
  intro E _ h0;rw[List.all_append]at E;simp only[Bool.and_eq_true,List.all_cons,List.all_nil,Bool.and_true]at E;rw[oP];by_cases F:l=[]
  ·subst F;simp only[List.nil_append,List.getD_cons_zero]at h0;simp only[List.nil_append,List.length_cons,List.length_nil,Nat.zero_add,Nat.sub_self,Nat.pow_zero];have:=nI.1 E.2;have h1:c.toNat≠48:=fun e=>h0 (UInt8.toNat.inj e)
   omega
  ·have I:=List.length_pos_iff.2 F;rw[Fj I]at h0;have:=ih E.1 F h0;simp only[List.length_append,List.length_cons,List.length_nil,Nat.zero_add,Nat.add_sub_cancel];rw[show l.length=(l.length-1)+1 by omega,Nat.pow_succ];omega
def Oi:∀{l:List UInt8},fA l=true->decDigits (iJ l)=l:=by
 intro l;induction l using Ht with
 | h0=>intro h;simp[fA]at h
 | h1 l c ih=>
  intro h;unfold fA at h;simp only[Bool.and_eq_true,bne_iff_ne,ne_eq,Bool.or_eq_true,beq_iff_eq,List.all_append,List.all_cons,List.all_nil,Bool.and_true]at h;obtain⟨⟨_,h1⟩,I,F⟩:=h;have V:=nI.1 F;by_cases E:l=[]
  ·subst E;rw[List.nil_append];rw[show iJ [c]=c.toNat-48 by simp[iJ],decDigits_one (by omega),aiN F]
  ·have J:=List.length_pos_iff.2 E;have h0:l.getD 0 0≠48:=by
    rcases h1 with h1|h1
    ·simp only[List.length_append,List.length_cons,List.length_nil]at h1;omega
    ·rwa [Fj J]at h1
   have U:=agE I E h0;have O:1<=iJ l:=Nat.le_trans (Nat.one_le_pow _ _ (by omega)) U;rw[oP,decDigits,dif_neg (by omega)];rw[show(10*iJ l+(c.toNat-48))/10=iJ l by omega,show(10*iJ l+(c.toNat-48))%10=c.toNat-48 by omega,aiN F,ih];unfold fA;simp only[Bool.and_eq_true,bne_iff_ne,ne_eq,Bool.or_eq_true,beq_iff_eq];exact⟨⟨E,.inr h0⟩,I⟩
def lE{n k:Nat}(I:1<=k):(decDigits n).length<=k↔n<10^k:=by
 rw[decDigits_length];constructor
 ·intro h;exact Nat.lt_of_lt_of_le (lt_pow_nDigits n) (Nat.pow_le_pow_right (by omega) h)
 ·intro h;by_cases h0:n<10
  ·rw[nDigits_small h0];exact I
  ·induction k generalizing n with
   | zero=>omega
   | succ k ih=>
    by_cases E:k=0
    ·subst E;simp at h;omega
    ·rw[nDigits_big h0];rw[Nat.pow_succ]at h;have:=Nat.succ_le_succ (show nDigits (n/10)<=k from by
      by_cases F:n/10<10
      ·rw[nDigits_small F];omega
      ·exact ih (by omega) (by omega) F)
     exact this
def bl(s:ByteArray):List UInt8:=s.data.toList
def lD{a b:ByteArray}(h:bl a=bl b):a=b:=by cases a;cases b;simp only[bl]at h;rw[Array.toList_inj.1 h]
def cV(s:ByteArray):(bl s).length=s.size:=by unfold bl;rw[Array.length_toList];rfl
def eqB(a b:ByteArray):Bool:=bl a == bl b
def lR{a b:ByteArray}:eqB a b=true↔a=b:=by unfold eqB;rw[beq_iff_eq];exact⟨lD,fun h=>by rw[h]⟩
def nY{a b:ByteArray}:eqB a b=false↔a≠b:=by rw[<-Bool.not_eq_true,lR]
def kC(l:List UInt8):bl ⟨l.toArray⟩=l:=by simp[bl]
def mV(a b:ByteArray):bl (a++b)=bl a++bl b:=by unfold bl;rw[ByteArray.data_append,Array.toList_append]
def auY(s:ByteArray):(⟨(bl s).toArray⟩:ByteArray)=s:=lD (kC _)
def emp:ByteArray:=ByteArray.empty
def atX:bl emp=[]:=rfl
def gC(s:ByteArray)(a b:Nat):bl (s.extract a b)=((bl s).take b).drop a:=by simp[bl,ByteArray.data_extract,Array.toList_extract,List.extract_eq_take_drop,List.drop_take]
def akS:Nat:=4096
def dA:Nat:=10^akS
def Ob{n k:Nat}(h:n<10^k)(E:k<=4096):n<dA:=Nat.lt_of_lt_of_le h (Nat.pow_le_pow_right (show 0<10 by omega) (show k<=akS from E))
def alC:0<dA:=Nat.pow_pos (show 0<10 by omega)
def eA(s:ByteArray):Bool:=fA (bl s)
def fG(s:ByteArray):Nat:=iJ (bl s)
def iT(n:Nat):bl (dec n)=decDigits n:=kC _
def mK(n:Nat):eA (dec n)=true:=by unfold eA;rw[iT];exact aaX n
def cE(n:Nat):fG (dec n)=n:=by unfold fG;rw[iT];exact qP n
def jO{s:ByteArray}(h:eA s=true):dec (fG s)=s:=lD (by rw[iT];exact Oi h)
def jM(n:Nat):(dec n).size=(decDigits n).length:=by rw[<-cV,iT]
def iX(n:Nat):(dec n).size<=4096↔n<dA:=by rw[jM];exact lE (k:=akS) (by decide)
def AF{s:ByteArray}(h:eA s=true):s.size<=4096↔fG s<dA:=by
 have:=iX (fG s)
 rwa [jO h]at this
def sV{m n:Nat}:dec m=dec n↔m=n:=⟨fun h=>by rw[<-cE m,h,cE],fun h=>by rw[h]⟩
def szN(n:Nat):ByteArray×Int:=if n<dA then(dec n,0)else(emp,4)
def kB(a b:ByteArray):Int:=if(!eA a|| !eA b)=true then 3 else if(decide (a.size>4096)||decide (b.size>4096))=true then 4 else 0
def TH(a b:ByteArray):ByteArray×Int:=if kB a b=0 then szN (fG a+fG b)else(emp,kB a b)
def Vn(a b:ByteArray):ByteArray×Int:=if kB a b=0 then(if fG a<fG b then(emp,2)else szN (fG a-fG b))else(emp,kB a b)
def TX(a b:ByteArray):ByteArray×Int:=if kB a b=0 then szN (fG a*fG b)else(emp,kB a b)
def ES(a b:ByteArray):ByteArray×ByteArray×Int:=if kB a b=0 then(if fG b=0 then(emp,emp,10)else(dec (fG a/fG b),dec (fG a%fG b),0))else(emp,emp,kB a b)
def Ba(a b:ByteArray):ByteArray×Int:=if kB a b=0 then szN (Nat.gcd (fG a) (fG b))else(emp,kB a b)
def HF{a b:ByteArray}(E:eA a=true)(F:eA b=true)(I:a.size<=4096)(sb:b.size<=4096):kB a b=0:=by unfold kB;rw[E,F];simp;omega
def yQ{m n:Nat}(E:m<dA)(F:n<dA):kB (dec m) (dec n)=0:=HF (mK m) (mK n) ((iX m).2 E) ((iX n).2 F)
def sR{a b:ByteArray}(h:kB a b=0):∃m n,a=dec m/\b=dec n/\m<dA/\n<dA:=by
 unfold kB at h;split at h
 ·cases h
 ·rename_i h1;split at h
  ·cases h
  ·rename_i E;simp only[Bool.or_eq_true,Bool.not_eq_true',not_or,Bool.not_eq_false,decide_eq_true_eq,Nat.not_lt]at h1 E;exact⟨fG a,fG b,(jO h1.1).symm,(jO h1.2).symm,(AF h1.1).1 E.1,(AF h1.2).1 E.2⟩
def AD{n:Nat}(h:n<dA):szN n=(dec n,0):=if_pos h
def fU(s:ByteArray):Bool:=(bl s).head? == some 45
def eM(s:ByteArray):ByteArray:=if fU s=true then⟨((bl s).drop 1).toArray⟩else s
def fH(s:ByteArray):Bool:=eA (eM s)&& !(fU s&&eqB (eM s) (dec 0))
def gG(s:ByteArray):Int:=if fU s=true then -(fG (eM s):Int)else fG (eM s)
def zed(n:Int):ByteArray:=⟨(itoa n).toArray⟩
def dF(n:Nat):zed n=dec n:=by unfold zed;rw[itoa_nonneg];rfl
def EH{n:Nat}(h:1<=n):zed (-(n:Int))=⟨((45:UInt8)::decDigits n).toArray⟩:=by unfold zed;rw[itoa_neg n h]
def EQ(n:Nat):fU (dec n)=false:=by
 unfold fU;rw[iT];have h1:=wY n;have E:=JN n;cases h:decDigits n with
 | nil=>exact absurd h E
 | cons c r=>rw[h]at h1;simp only[List.all_cons,Bool.and_eq_true]at h1;have:=nI.1 h1.1;simp only[List.head?_cons,beq_eq_false_iff_ne,ne_eq,Option.some.injEq];intro e;rw[e]at this;simp at this
def Q5(n:Nat):eM (dec n)=dec n:=by unfold eM;rw[EQ];rfl
def HI(l:List UInt8):fU ⟨((45:UInt8)::l).toArray⟩=true:=by unfold fU;rw[kC];rfl
def Y2(l:List UInt8):eM ⟨((45:UInt8)::l).toArray⟩=⟨l.toArray⟩:=by unfold eM;rw[HI,if_pos rfl,kC];rfl
def sE(n:Int):fU (zed n)=decide (n<0):=by
 rcases Int.lt_or_le n 0 with h|h
 ·obtain⟨m,rfl⟩:∃m:Nat,n= -(m:Int):=⟨n.natAbs,by omega⟩;rw[EH (by omega),HI];simp;omega
 ·obtain⟨m,rfl⟩:∃m:Nat,n=m:=⟨n.toNat,by omega⟩;rw[dF,EQ];simp
def jP(n:Int):eM (zed n)=dec n.natAbs:=by
 rcases Int.lt_or_le n 0 with h|h
 ·obtain⟨m,rfl⟩:∃m:Nat,n= -(m:Int):=⟨n.natAbs,by omega⟩;rw[EH (by omega),Y2,Int.natAbs_neg,Int.natAbs_natCast];rfl
 ·obtain⟨m,rfl⟩:∃m:Nat,n=m:=⟨n.toNat,by omega⟩;rw[dF,Q5,Int.natAbs_natCast]
def pY(n:Int):fH (zed n)=true:=by
 unfold fH;rw[jP,sE,mK];simp only[Bool.true_and,Bool.not_eq_true',Bool.and_eq_false_iff,decide_eq_false_iff_not];by_cases h:n<0
 ·right;refine nY.2 fun e=>?_
  rw[sV]at e;omega
 ·left;exact h
def cL(n:Int):gG (zed n)=n:=by
 unfold gG;rw[jP,sE,cE];split
 ·rename_i h;simp only[decide_eq_true_eq]at h;omega
 ·rename_i h;simp only[decide_eq_true_eq]at h;omega
def vO{s:ByteArray}(h:fH s=true):zed (gG s)=s:=by
 unfold fH at h;simp only[Bool.and_eq_true,Bool.not_eq_true',Bool.and_eq_false_iff]at h;obtain⟨h1,F⟩:=h;have I:=jO h1;unfold gG;by_cases E:fU s=true
 ·have V : eM s ≠ dec 0 := by
   rcases F with F|F
   ·rw[E]at F;cases F
   ·exact nY.1 F
  rw[if_pos E];have U:1<=fG (eM s):=by
   rcases Nat.eq_zero_or_pos (fG (eM s))with J|J
   ·exact absurd (by rw[<-I,J]) V
   ·exact J
  rw[EH U];refine lD ?_;rw[kC,<-iT,I];unfold eM;rw[if_pos E,kC];unfold fU at E;cases O:bl s with
  | nil=>rw[O]at E;cases E
  | cons c r=>rw[O]at E;simp only[List.head?_cons,beq_iff_eq,Option.some.injEq]at E;subst E;rfl
 ·rw[if_neg E,dF,I];unfold eM;rw[if_neg E]
def acD{m n:Int}:zed m=zed n↔m=n:=⟨fun h=>by rw[<-cL m,h,cL],fun h=>by rw[h]⟩
def szZ(n:Int):ByteArray×Int:=if n.natAbs<dA then(zed n,0)else(emp,4)
def kL(a b:ByteArray):Int:=if(!fH a|| !fH b)=true then 3 else if(decide ((eM a).size>4096)||decide ((eM b).size>4096))=true then 4 else 0
def KK(a b:ByteArray):ByteArray×Int:=if kL a b=0 then szZ (gG a+gG b)else(emp,kL a b)
def ZV(a b:ByteArray):ByteArray×Int:=if kL a b=0 then szZ (gG a-gG b)else(emp,kL a b)
def xV(a b:ByteArray):ByteArray×Int:=if kL a b=0 then szZ (gG a*gG b)else(emp,kL a b)
def wL(a b:ByteArray):ByteArray×ByteArray×Int:=if kL a b=0 then(if gG b=0 then(emp,emp,10)else(zed ((gG a).fdiv (gG b)),zed ((gG a).fmod (gG b)),0))else(emp,emp,kL a b)
def hU(a b:Int):Int:=if a<b then -1 else if b<a then 1 else 0
def PB(a b:ByteArray):Int:=if fH a=true/\fH b=true then hU (gG a) (gG b)else 0
def Bd(a:ByteArray):Int:=if fH a=true then(gG a).sign else 0
def rB{m n:Int}(E:m.natAbs<dA)(F:n.natAbs<dA):kL (zed m) (zed n)=0:=by unfold kL;rw[pY,pY,jP,jP];have:=(iX m.natAbs).2 E;have:=(iX n.natAbs).2 F;simp;omega
def qK{a b:ByteArray}(h:kL a b=0):∃m n:Int,a=zed m/\b=zed n/\m.natAbs<dA/\n.natAbs<dA:=by
 unfold kL at h;split at h
 ·cases h
 ·rename_i h1;split at h
  ·cases h
  ·rename_i E;simp only[Bool.or_eq_true,Bool.not_eq_true',not_or,Bool.not_eq_false,decide_eq_true_eq,Nat.not_lt]at h1 E;have F:=vO h1.1;have I:=vO h1.2;refine⟨gG a,gG b,F.symm,I.symm,?_,?_⟩
   ·have:=E.1;rw[<-F,jP]at this;exact(iX _).1 this
   ·have:=E.2;rw[<-I,jP]at this;exact(iX _).1 this
def eK:UInt8:=47
def lO(s:ByteArray):Bool:=(bl s).any (· == eK)
def gM(s:ByteArray):ByteArray:=⟨((bl s).takeWhile (· != eK)).toArray⟩
def gK(s:ByteArray):ByteArray:=if lO s=true then⟨(((bl s).dropWhile (· != eK)).drop 1).toArray⟩else dec 1
def bZ(s:ByteArray):Bool:=(fH (gM s)&&eA (gK s)&&decide ((eM (gM s)).size<=4096)&&decide ((gK s).size<=4096)) &&
 (!lO s||(!eqB (gK s) (dec 0)&& !eqB (gK s) (dec 1)&& !eqB (gM s) (dec 0)&&Nat.gcd (gG (gM s)).natAbs (fG (gK s)) == 1))
def tO(s:ByteArray):Rat:=mkRat (gG (gM s)) (fG (gK s))
def slB:ByteArray:=⟨#[47]⟩
def lM(x:Rat):ByteArray:=if x.den=1 then zed x.num else zed x.num++slB++dec x.den
def tZ(x:Rat):Prop:=x.num.natAbs<dA/\x.den<dA
def zV{α:Type}{p:α->Bool}:∀{l:List α},(∀c∈l,p c=true)->l.takeWhile p=l
 | [],_=>rfl
 | a::l,h=>by rw[List.takeWhile_cons,if_pos (h a (by simp)),zV fun c E=>h c (by simp[E])]
def FH{α:Type}{p:α->Bool}:∀{l:List α} {c:α},c∈l.takeWhile p->p c=true
 | [],c,h=>by simp at h
 | a::l,c,h=>by
  rw[List.takeWhile_cons]at h;split at h
  ·rename_i E;rcases List.mem_cons.1 h with rfl|h
   ·exact E
   ·exact FH h
  ·cases h
def Ql{c:UInt8}(h:isD c=true):(c != eK)=true:=by have:=nI.1 h;simp only[bne_iff_ne,ne_eq];intro e;rw[e]at this;simp[eK]at this
def GZ(n:Nat):∀c∈decDigits n,(c != eK)=true:=fun c E=>Ql (List.all_eq_true.1 (wY n) c E)
def uP(n:Int):∀c∈itoa n,(c != eK)=true:=by
 intro c E;unfold itoa at E;split at E
 ·rcases List.mem_cons.1 E with rfl|E
  ·decide
  ·exact GZ _ c E
 ·exact GZ _ c E
def II(n:Int):bl (zed n)=itoa n:=kC _
def asI:bl slB=[eK]:=rfl
def MG{l r:List UInt8}(h:∀c∈l,(c != eK)=true):(l++eK::r).takeWhile (· != eK)=l:=by rw[List.takeWhile_append_of_pos h];simp
def L2{l r:List UInt8}(h:∀c∈l,(c != eK)=true):(l++eK::r).dropWhile (· != eK)=eK::r:=by rw[List.dropWhile_append_of_pos h];simp
def qA{l:List UInt8}(h:∀c∈l,(c != eK)=true):l.any (· == eK)=false:=by rw[List.any_eq_false];intro c E e;have:=h c E;simp at this e;exact this e
def xH(x:Rat):bl (lM x)=if x.den=1 then itoa x.num else itoa x.num++eK::decDigits x.den:=by
 unfold lM;split
 ·exact II _
 ·rw[mV,mV,II,iT,asI];simp
def If(x:Rat):lO (lM x)= !(x.den == 1):=by
 unfold lO;rw[xH];split
 ·rename_i h;rw[qA (uP _),h];rfl
 ·rename_i h;rw[List.any_append];simp[h]
def LI(x:Rat):gM (lM x)=zed x.num:=by
 refine lD ?_;unfold gM;rw[kC,xH,II];split
 ·exact zV (uP _)
 ·exact MG (uP _)
def My(x:Rat):gK (lM x)=dec x.den:=by
 unfold gK;rw[If,xH];by_cases h:x.den=1
 ·simp[h]
 ·simp only[h,beq_eq_false_iff_ne.2 h,Bool.not_false,if_true,if_false];rw[L2 (uP _)];rfl
def fW(x:Rat):tO (lM x)=x:=by unfold tO;rw[LI,My,cL,cE,Rat.mkRat_self]
def rV(n:Int):(eM (zed n)).size<=4096↔n.natAbs<dA:=by rw[jP];exact iX _
def qE{x:Rat}(h:tZ x):bZ (lM x)=true:=by
 unfold bZ;rw[LI,My,pY,mK,If,cL,cE];simp only[Bool.true_and,Bool.and_eq_true,decide_eq_true_eq,Bool.or_eq_true,Bool.not_not,beq_iff_eq,Bool.not_eq_true',nY,ne_eq];refine⟨⟨(rV _).2 h.1,(iX _).2 h.2⟩,?_⟩;by_cases h1:x.den=1
 ·exact .inl h1
 ·refine .inr ⟨⟨⟨?_,?_⟩,?_⟩,x.reduced⟩
  ·rw[sV];exact x.den_nz
  ·rw[sV];exact h1
  ·rw[<-dF,acD];intro h0;apply h1;have:=x.reduced;rw[h0]at this;simpa[Nat.Coprime]using this
def fM{s:ByteArray}(h:bZ s=true):∃x:Rat,s=lM x/\tZ x/\gM s=zed x.num/\gK s=dec x.den:=by
 unfold bZ at h;simp only[Bool.and_eq_true,decide_eq_true_eq,Bool.or_eq_true,Bool.not_eq_true',nY,ne_eq,beq_iff_eq]at h;obtain⟨⟨⟨⟨h1,h2⟩,h3⟩,h4⟩,I⟩:=h;have ep:=vO h1;have eq:=jO h2;have F:(gG (gM s)).natAbs.Coprime (fG (gK s))/\fG (gK s)≠0:=by
  rcases I with I|⟨⟨⟨Y,_⟩,_⟩,h7⟩
  ·have J:gK s=dec 1:=by unfold gK;rw[if_neg (by rw[I];simp)]
   rw[J,cE];exact⟨Nat.coprime_one_right _,by omega⟩
  ·exact⟨h7,fun e=>Y (by rw[<-eq,e])⟩
 let x:Rat:=⟨gG (gM s),fG (gK s),F.2,F.1⟩
 have J:gM s=zed x.num:=ep.symm;have O:gK s=dec x.den:=eq.symm;refine⟨x,lD ?_,⟨?_,?_⟩,J,O⟩
 ·rw[xH];have Z:bl (gM s)=(bl s).takeWhile (· != eK):=kC _;rw[J,II]at Z;by_cases E:lO s=true
  ·have hd:bl (gK s)=((bl s).dropWhile (· != eK)).drop 1:=by unfold gK;rw[if_pos E,kC]
   rw[O,iT]at hd;have X:x.den≠1:=fun e=>by
    rcases I with I|⟨⟨⟨_,Y⟩,_⟩,_⟩
    ·rw[E]at I;cases I
    ·exact Y (by rw[O,e])
   rw[if_neg X,Z,hd]
   conv=>lhs;rw[<-List.takeWhile_append_dropWhile (p:=(· != eK)) (l:=bl s)]
   congr 1
   cases hw:(bl s).dropWhile (· != eK)with
   | nil=>exfalso;unfold lO at E;obtain⟨c,V,U⟩:=List.any_eq_true.1 E;rw[<-List.takeWhile_append_dropWhile (p:=(· != eK)) (l:=bl s),hw,List.append_nil]at V;have:=FH V;simp at this U;exact this U
   | cons c r=>
    have h0:(c != eK)=false:=by have:=List.head?_dropWhile_not (p:=(· != eK)) (l:=bl s);rw[hw]at this;simpa using this
    have:c=eK:=by simpa using h0
    rw[this];rfl
  ·have E:lO s=false:=by simpa using E
   have X:x.den=1:=by
    have:gK s=dec 1:=by unfold gK;rw[E];rfl
    rw[O]at this;exact sV.1 this
   rw[if_pos X,Z]
   symm
   refine zV ?_;intro c V;unfold lO at E;rw[List.any_eq_false]at E;have:=E c V;simp at this |-;exact this
 ·rw[J]at h3;exact(rV _).1 h3
 ·rw[O]at h4;exact(iX _).1 h4
def aiH{x y:Rat}:lM x=lM y↔x=y:=⟨fun h=>by rw[<-fW x,h,fW],fun h=>by rw[h]⟩
def nV(n:Int):Bool:= !decide (n.natAbs<dA)
def yR(x y:Rat):ByteArray×Int:=if(nV (x.num*y.den)||nV (y.num*x.den)||nV (x.num*y.den+y.num*x.den)||nV (x.den*y.den))=true then(emp,4)else(lM (x+y),0)
def vR(a b:ByteArray):ByteArray×Int:=if(bZ a&&bZ b)=true then yR (tO a) (tO b)else(emp,3)
def D6(a b:ByteArray):ByteArray×Int:=if(bZ a&&bZ b)=true then yR (tO a) (-tO b)else(emp,3)
def GJ(x y:Rat):ByteArray×Int:=if(nV (x.num*y.num)||nV (x.den*y.den))=true then(emp,4)else(lM (x*y),0)
def wK(a b:ByteArray):ByteArray×Int:=if(bZ a&&bZ b)=true then GJ (tO a) (tO b)else(emp,3)
def Om(x y:Rat):Int:=if x<y then -1 else if y<x then 1 else 0
def FW(a b:ByteArray):Int:=if(bZ a&&bZ b)=true then Om (tO a) (tO b)else 0
def Lg(a:ByteArray):Int:=if bZ a=true then(tO a).num.sign else 0
def Yj{n:Int}{d:Nat}(E:d≠0):n.fdiv (Nat.gcd n.natAbs d:Nat)=(mkRat n d).num:=by rw[Rat.num_mkRat,if_neg E,Nat.gcd_comm];exact Int.fdiv_eq_ediv_of_nonneg _ (by omega)
def Xo{n:Int}{d:Nat}(E:d≠0):(d:Int).fdiv (Nat.gcd n.natAbs d:Nat)=((mkRat n d).den:Int):=by rw[Rat.den_mkRat,if_neg E,Nat.gcd_comm,Int.fdiv_eq_ediv_of_nonneg _ (by omega)];rfl
def DR{n:Int}{d:Nat}(F:d≠0)(I:n.natAbs<dA)(E:d<dA):tZ (mkRat n d):=by
 constructor
 ·rw[Rat.num_mkRat,if_neg F];have:(n/((d.gcd n.natAbs:Nat):Int)).natAbs<=n.natAbs:=by
   rw[Int.natAbs_ediv_of_dvd]
   ·exact Nat.div_le_self _ _
   ·exact Int.ofNat_dvd_left.2 (Nat.gcd_dvd_right _ _)
  omega
 ·rw[Rat.den_mkRat,if_neg F];exact Nat.lt_of_le_of_lt (Nat.div_le_self _ _) E
def WW{n:Int}{d:Nat}(E:d≠0):0<Nat.gcd n.natAbs d:=Nat.gcd_pos_of_pos_right _ (by omega)
def Lz{n:Int}{d:Nat}(E:d≠0)(h:d<dA):Nat.gcd n.natAbs d<dA:=Nat.lt_of_le_of_lt (Nat.gcd_le_right _ (by omega)) h
def iH{n:Int}:nV n=false↔n.natAbs<dA:=by simp[nV]
def O4(x y:Rat):x+y=mkRat (x.num*y.den+y.num*x.den) (x.den*y.den):=Rat.add_def' x y
def UZ(x y:Rat):x*y=mkRat (x.num*y.num) (x.den*y.den):=Rat.mul_def' x y
def Cq(x y:Rat):((x.den:Int)*y.den).natAbs=x.den*y.den:=by rw[Int.natAbs_mul,Int.natAbs_natCast,Int.natAbs_natCast]
def FB(x y:Rat):x.den*y.den≠0:=Nat.mul_ne_zero x.den_nz y.den_nz
def Ix{x y:Rat}(h:(yR x y).2=0):yR x y=(lM (x+y),0)/\tZ (x+y):=by
 unfold yR at h |-;split at h
 ·cases h
 ·rename_i E;rw[if_neg E];simp only[Bool.or_eq_true,not_or,Bool.not_eq_true,iH]at E;exact⟨rfl,by rw[O4];exact DR (FB x y) E.1.2 (by rw[<-Cq];exact E.2)⟩
def Qu{x y:Rat}(h:(GJ x y).2=0):GJ x y=(lM (x*y),0)/\tZ (x*y):=by
 unfold GJ at h |-;split at h
 ·cases h
 ·rename_i E;rw[if_neg E];simp only[Bool.or_eq_true,not_or,Bool.not_eq_true,iH]at E;exact⟨rfl,by rw[UZ];exact DR (FB x y) E.1 (by rw[<-Cq];exact E.2)⟩
def J7(p q r s:Int):Int:=hU (p*s) (r*q)
def rF{p q:Int}(E:0<q):p=p.fdiv q*q+p.fmod q/\0<=p.fmod q/\p.fmod q<q:=
 ⟨by rw[Int.mul_comm];exact(Int.mul_fdiv_add_fmod p q).symm,Int.fmod_nonneg_of_pos _ E,Int.fmod_lt_of_pos _ E⟩
def jD{a b:Int}(h:a<b):hU a b= -1:=if_pos h
def jF{a b:Int}(h:b<a):hU a b=1:=by unfold hU;rw[if_neg (by omega),if_pos h]
def qS{a b:Int}(h:a=b):hU a b=0:=by unfold hU;rw[if_neg (by omega),if_neg (by omega)]
def Fw{a b:Int}:hU a b=0↔a=b:=by
 unfold hU;constructor
 ·intro h;split at h
  ·cases h
  ·split at h
   ·cases h
   ·omega
 ·intro h;rw[if_neg (by omega),if_neg (by omega)]
def Yz(a b:Int):hU b a= -hU a b:=by
 rcases Int.lt_trichotomy a b with h|h|h
 ·rw[jD h,jF h];rfl
 ·rw[qS h,qS h.symm];rfl
 ·rw[jF h,jD h]
def P9{p q r s:Int}(F:0<q)(E:0<s)(h:p.fdiv q<r.fdiv s):p*s<r*q:=by
 obtain⟨I,a1,O⟩:=rF (p:=p) F;obtain⟨U,a2,V⟩:=rF (p:=r) E;have h1:p*s<(p.fdiv q+1)*q*s:=by refine Int.mul_lt_mul_of_pos_right ?_ E;rw[Int.add_mul];omega
 have J:(p.fdiv q+1)*q*s<=r.fdiv s*q*s:=Int.mul_le_mul_of_nonneg_right (Int.mul_le_mul_of_nonneg_right (by omega) (by omega)) (by omega);have X:r.fdiv s*q*s<=r*q:=by rw[Int.mul_right_comm];exact Int.mul_le_mul_of_nonneg_right (by omega) (by omega)
 omega
def JO{p q r s:Int}(E:0<q)(F:0<s)(h:p.fdiv q≠r.fdiv s):J7 p q r s=hU (p.fdiv q) (r.fdiv s):=by
 unfold J7;rcases Int.lt_or_gt_of_ne h with h|h
 ·rw[jD h,jD (P9 E F h)]
 ·rw[jF h,jF (P9 F E h)]
def LX{p q r s:Int}(J:0<q)(U:0<s)(h:p.fdiv q=r.fdiv s):J7 p q r s=hU (p.fmod q*s) (r.fmod s*q):=by
 obtain⟨E,_,_⟩:=rF (p:=p) J;obtain⟨I,_,_⟩:=rF (p:=r) U;unfold J7;have h1:p*s=p.fdiv q*q*s+p.fmod q*s:=by
  conv=>lhs;rw[E]
  rw[Int.add_mul]
 have F:r*q=p.fdiv q*q*s+r.fmod s*q:=by
  conv=>lhs;rw[I]
  rw[Int.add_mul,<-h,Int.mul_right_comm]
 rw[h1,F];unfold hU;have O:(p.fdiv q*q*s+p.fmod q*s<p.fdiv q*q*s+r.fmod s*q)↔p.fmod q*s<r.fmod s*q:=by omega
 have V:(p.fdiv q*q*s+r.fmod s*q<p.fdiv q*q*s+p.fmod q*s)↔r.fmod s*q<p.fmod q*s:=by omega
 simp only[O,V]
def Ls(x q y s:Int):hU (x*s) (y*q)= -J7 q x s y:=by unfold J7;rw[Int.mul_comm q y,Int.mul_comm s x];exact Yz _ _
def T2(x y:Rat):Om x y=J7 x.num x.den y.num y.den:=by unfold Om J7 hU;simp only[Rat.lt_iff]
def adJ(n:Int):n.sign=hU n 0:=by
 rcases Int.lt_trichotomy n 0 with h|h|h
 ·rw[jD h,Int.sign_eq_neg_one_of_neg h]
 ·subst h;rfl
 ·rw[jF h,Int.sign_eq_one_of_pos h]
def YG(x:Rat):Om x 0=x.num.sign:=by rw[T2,adJ];unfold J7;simp
def uW(b:Nat)(l:List Nat)(k:Nat):ofL b (l.take (k+1))=ofL b (l.take k)+b^k*l.getD k 0:=by
 cases h:l[k]? with
 | none=>have E:=List.getElem?_eq_none_iff.1 h;rw[List.take_of_length_le (by omega),List.take_of_length_le (by omega)];simp[List.getD,h]
 | some x=>rw[lJ b h];simp[List.getD,h]
def Lim.getD{b:Nat}(F:0<b){l:List Nat}(h:Lim b l)(k:Nat):l.getD k 0<b:=by
 cases E:l[k]? with
 | none=>simpa[List.getD,E]using F
 | some x=>simpa[List.getD,E]using h x (List.mem_of_getElem? E)
def Lim.snoc{b:Nat}{l:List Nat}(h:Lim b l){x:Nat}(F:x<b):Lim b (l++[x]):=fun y E=>by
 rcases List.mem_append.1 E with E|E
 ·exact h y E
 ·rw[List.mem_singleton.1 E];exact F
def Lim.set{b:Nat}{l:List Nat}(h:Lim b l){x k:Nat}(F:x<b):Lim b (l.set k x):=fun y E=>by
 rcases List.mem_or_eq_of_mem_set E with E|rfl
 ·exact h y E
 ·exact F
def Lim.take{b:Nat}{l:List Nat}(h:Lim b l)(k:Nat):Lim b (l.take k):=fun y E=>h y (List.mem_of_mem_take E)
def Lim.drop{b:Nat}{l:List Nat}(h:Lim b l)(k:Nat):Lim b (l.drop k):=fun y E=>h y (List.mem_of_mem_drop E)
def Lim.zeros{b:Nat}(F:0<b)(n:Nat):Lim b (List.replicate n 0):=fun y E=>by rw[(List.mem_replicate.1 E).2];exact F
def Bh(b:Nat){l:List Nat}{k x:Nat}(h:l[k]?=some x):ofL b (l.drop k)=x+b*ofL b (l.drop (k+1)):=by obtain⟨F,E⟩:=List.getElem?_eq_some_iff.1 h;rw[List.drop_eq_getElem_cons F,E,ofL]
def Wj{b:Nat}(I:0<b){l o:List Nat}{i n k c:Nat}(F:l[i]?=some n)(E:o.length=i)(h:ofL b o+b^i*c=ofL b (l.take i)*k):
  ofL b (o++[(n*k+c)%b])+b^(i+1)*((n*k+c)/b)=ofL b (l.take (i+1))*k:=by
 rw[vT,lJ b F,E,Nat.pow_succ];have e:=Nat.mod_add_div (n*k+c) b;have J:b^i*((n*k+c)%b+b*((n*k+c)/b))=b^i*(n*k+c):=by rw[e]
 grind
def RK{b:Nat}(F:0<b){x y o:List Nat}{i c:Nat}(E:o.length=i)(h:ofL b o+b^i*c=ofL b (x.take i)+ofL b (y.take i)):
  ofL b (o++[(x.getD i 0+y.getD i 0+c)%b])+b^(i+1)*((x.getD i 0+y.getD i 0+c)/b)=ofL b (x.take (i+1))+ofL b (y.take (i+1)):=by
 rw[vT,uW,uW,E,Nat.pow_succ];have e:=Nat.mod_add_div (x.getD i 0+y.getD i 0+c) b;have I:b^i*((x.getD i 0+y.getD i 0+c)%b+b*((x.getD i 0+y.getD i 0+c)/b))=b^i*(x.getD i 0+y.getD i 0+c):=by rw[e]
 grind
def Dr{b:Nat}{x y o:List Nat}{i c c' d:Nat}(E:o.length=i)(h:ofL b o+ofL b (y.take i)=ofL b (x.take i)+b^i*c)(F:d+y.getD i 0+c=x.getD i 0+b*c'):
  ofL b (o++[d])+ofL b (y.take (i+1))=ofL b (x.take (i+1))+b^(i+1)*c':=by
 rw[vT,uW,uW,E,Nat.pow_succ];have I:b^i*(d+y.getD i 0+c)=b^i*(x.getD i 0+b*c'):=by rw[F]
 grind
def Gy{b x y c:Nat}(E:x<b)(F:y<b)(I:c<=1):(if(x:Int)-y-c<0 then(x:Int)-y-c+b else(x:Int)-y-c)=((if x<y+c then x+b-(y+c)else x-(y+c):Nat):Int):=by split <;> split <;> omega
def Ag{b x y c:Nat}(E:x<b)(F:y<b)(I:c<=1):(if x<y+c then x+b-(y+c)else x-(y+c))+y+c=x+b*(if x<y+c then 1 else 0)/\(if x<y+c then x+b-(y+c)else x-(y+c))<b:=by split <;> constructor <;> omega
def E5{b:Nat}(X:2<=b){x y o:List Nat}{c:Nat}(O:Lim b o)(U:Lim b x)(I:o.length=x.length)(F:y.length<=x.length)(J:ofL b y<=ofL b x)(V:c<=1)(h:ofL b o+ofL b (y.take x.length)=ofL b (x.take x.length)+b^x.length*c):
  c=0/\ofL b o=ofL b x-ofL b y:=by
 rw[List.take_of_length_le F,List.take_length]at h;have h1:=kP (by omega) O;rw[I]at h1;rcases Nat.eq_zero_or_pos c with E|E
 ·subst E;rw[Nat.mul_zero]at h;omega
 ·have:c=1:=by omega
  subst this;rw[Nat.mul_one]at h;omega
def Tj{b:Nat}(U:0<b){y out E:List Nat}{i k x c v F:Nat}(J:out[i+k]?=some v)(I:y[k]?=some F)(h:ofL b out+b^(i+k)*c=ofL b E+b^i*(x*ofL b (y.take k))):
  ofL b (out.set (i+k) ((v+x*F+c)%b))+b^(i+(k+1))*((v+x*F+c)/b)=ofL b E+b^i*(x*ofL b (y.take (k+1))):=by
 have h1:=OP b out (i+k) v ((v+x*F+c)%b) J;have e:=Nat.mod_add_div (v+x*F+c) b;have V:b^(i+k)*((v+x*F+c)%b+b*((v+x*F+c)/b))=b^(i+k)*(v+x*F+c):=by rw[e]
 rw[lJ b I,show i+(k+1)=(i+k)+1 by omega,Nat.pow_succ];have O:b^(i+k)=b^i*b^k:=Nat.pow_add b i k
 grind
def WF{b:Nat}{y out E:List Nat}{i x c:Nat}(F:out[i+y.length]?=some 0)(h:ofL b out+b^(i+y.length)*c=ofL b E+b^i*(x*ofL b (y.take y.length))):
  ofL b (out.set (i+y.length) c)=ofL b E+b^i*(x*ofL b y):=by
 have h1:=OP b out (i+y.length) 0 c F;rw[List.take_length]at h;rw[<-h];omega
def SX{b r a:Nat}(X:2<=b){l:List Nat}{i x:Nat}{E:List Nat}(I:l[i]?=some x)(V:x<b)(O:r<a)(J:i<E.length)(h:ofL b (l.drop (i+1))=ofL b (E.drop (i+1))*a+r):
  ofL b (l.drop i)=ofL b ((E.set i ((x+b*r)/a)).drop i)*a+(x+b*r)%a/\(x+b*r)/a<b/\(x+b*r)%a<a:=by
 have F:0<a:=by omega
 have U:(E.set i ((x+b*r)/a))[i]?=some ((x+b*r)/a):=by simp[J]
 refine⟨?_,?_,Nat.mod_lt _ F⟩
 ·rw[Bh b I,Bh b U,h,List.drop_set_of_lt (by omega)];have e:=Nat.mod_add_div (x+b*r) a
  grind
 ·rw[Nat.div_lt_iff_lt_mul F];have:b*(r+1)<=b*a:=Nat.mul_le_mul_left _ O;rw[Nat.mul_add]at this;omega
def amJ{q r a n:Nat}(E:r<a)(h:n=q*a+r):q=n/a/\r=n%a:=by
 subst h;have F:0<a:=by omega
 constructor
 ·rw[Nat.add_comm,Nat.add_mul_div_right _ _ F,Nat.div_eq_of_lt E,Nat.zero_add]
 ·rw[Nat.add_comm,Nat.add_mul_mod_self_right,Nat.mod_eq_of_lt E]
def aiQ(l:List UInt8):∀a:Nat,l.foldl (fun a c=>10*a+(c.toNat-48)) a=a*10^l.length+iJ l:=by
 induction l with
 | nil=>intro a;simp[iJ]
 | cons c l ih=>
  intro a;have h1:=ih (10*a+(c.toNat-48));have E:=ih (10*0+(c.toNat-48));simp only[List.foldl_cons,iJ]at h1 E |-;rw[h1,E,List.length_cons,Nat.pow_succ]
  grind
def xN(a b:List UInt8):iJ (a++b)=iJ a*10^b.length+iJ b:=by rw[iJ,List.foldl_append];exact aiQ b _
def HB{l:List UInt8}(h:l.all isD=true):iJ l<10^l.length:=by
 induction l using Ht with
 | h0=>simp[iJ]
 | h1 l c ih=>rw[List.all_append]at h;simp only[Bool.and_eq_true,List.all_cons,List.all_nil,Bool.and_true]at h;have:=ih h.1;have E:=nI.1 h.2;rw[oP,List.length_append,List.length_cons,List.length_nil,Nat.pow_succ];omega
def QJ:Nat->Nat->List UInt8
 | 0,_=>[]
 | k+1,x=>QJ k (x/10)++[UInt8.ofNat (48+x%10)]
def Nh:∀(k x m:Nat),x<10^k->m≠0->decDigits (x+10^k*m)=decDigits m++QJ k x
 | 0,x,m,hx,hm=>by
  have:x=0:=by simpa using hx
  subst this;simp[QJ]
 | k+1,x,m,hx,hm=>by
  rw[Nat.pow_succ]at hx;have h1:10^(k+1)*m=10*(10^k*m):=by rw[Nat.pow_succ,Nat.mul_comm (10^k) 10,Nat.mul_assoc]
  have E:0<10^k*m:=Nat.mul_pos (Nat.pow_pos (by omega)) (by omega);rw[h1,decDigits,dif_neg (by omega),show(x+10*(10^k*m))/10=x/10+10^k*m by omega,show(x+10*(10^k*m))%10=x%10 by omega,Nh k (x/10) m (by omega) hm,QJ,List.append_assoc]
def ZG(k:Nat):QJ k 0=List.replicate k 48:=by
 induction k with
 | zero=>rfl
 | succ k ih=>rw[QJ,Nat.zero_div,ih,List.replicate_succ'];rfl
def Wy:∀(k x:Nat),1<=k->x<10^k->QJ k x=List.replicate (k-(decDigits x).length) 48++decDigits x
 | 0,x,hk,hx=>by omega
 | k+1,x,hk,hx=>by
  rw[QJ];by_cases F:x<10
  ·rw[show x/10=0 by omega,ZG,decDigits_one F];simp[Nat.mod_eq_of_lt F]
  ·have E : 1 <= k := by
    rcases Nat.eq_zero_or_pos k with h|h
    ·subst h;simp at hx;omega
    ·exact h
   rw[Nat.pow_succ]at hx;rw[Wy k (x/10) E (by omega)]
   conv=>rhs;rw[decDigits,dif_neg F]
   rw[List.length_append,List.length_cons,List.length_nil,List.append_assoc,show k+1-((decDigits (x/10)).length+(0+1))=k-(decDigits (x/10)).length by omega]
def awJ(x:Nat):List UInt8:=List.replicate (9-(decDigits x).length) 48++decDigits x
def ajI{x m:Nat}(E:x<1000000000)(F:m≠0):decDigits (x+1000000000*m)=decDigits m++awJ x:=by have:=Nh 9 x m E F;rw[Wy 9 x (by omega) E]at this;exact this
def afR{b:Nat}(E:2<=b){n k:Nat}(F:k<(aY b n).length):ofL b ((aY b n).drop k)≠0:=by
 intro h;have J:n≠0:=fun e=>by subst e;rw[dZ]at F;simp at F
 have h1:=VN E J;have I:ofL b (aY b n)=ofL b ((aY b n).take k)+b^k*ofL b ((aY b n).drop k):=by have:=sS b ((aY b n).take k) ((aY b n).drop k);rw[List.take_append_drop,List.length_take,Nat.min_eq_left (by omega)]at this;exact this
 rw[cU E,h,Nat.mul_zero,Nat.add_zero]at I;have O:=kP (b:=b) (by omega) ((cP E n).take k);rw[List.length_take,Nat.min_eq_left (by omega),<-I]at O;have:b^k<=b^((aY b n).length-1):=Nat.pow_le_pow_right (by omega) (by omega);omega
def dl(l:List UInt8):List Nat:=(l.map fun c=>c.toNat-48).reverse
def JW(l:List UInt8):(dl l).length=l.length:=by simp[dl]
def Vo(l:List UInt8):ofL 10 (dl l)=iJ l:=by
 induction l using Ht with
 | h0=>rfl
 | h1 l c ih=>rw[oP,<-ih];simp only[dl,List.map_append,List.map_cons,List.map_nil,List.reverse_append,List.reverse_cons,List.reverse_nil,List.nil_append,List.singleton_append,ofL];omega
def Vz{l:List UInt8}(h:l.all isD=true):Lim 10 (dl l):=by intro x E;simp only[dl,List.mem_reverse,List.mem_map]at E;obtain⟨c,F,rfl⟩:=E;have:=nI.1 (List.all_eq_true.1 h c F);omega
def txt(l:List Nat):List UInt8:=(l.map fun x=>UInt8.ofNat (48+x)).reverse
def aoM{l:List Nat}(h:Lim 10 l):(txt l).all isD=true:=by rw[List.all_eq_true];intro c E;simp only[txt,List.mem_reverse,List.mem_map]at E;obtain⟨x,F,rfl⟩:=E;have:=h x F;rw[nI,oF this];omega
def arW{l:List Nat}(h:Lim 10 l):dl (txt l)=l:=by
 simp only[dl,txt,List.map_reverse,List.reverse_reverse,List.map_map]
 conv=>rhs;rw[<-List.map_id l]
 refine List.map_congr_left fun x E=>?_
 simp only[Function.comp,oF (h x E),id];omega
def ajR{l:List Nat}(h:Lim 10 l):iJ (txt l)=ofL 10 l:=by rw[<-Vo,arW h]
def F3{n:Nat}(E:n≠0):txt (aY 10 n)=decDigits n:=by
 induction n using Nat.strongRecOn with
 | _ n ih=>
  rw[oK (by omega) E,decDigits];simp only[txt,List.map_cons,List.reverse_cons];split
  ·rename_i h;rw[show n/10=0 by omega,dZ,Nat.mod_eq_of_lt h];rfl
  ·rename_i h;rw[<-ih (n/10) (by omega) (by omega)];rfl
end Go.Nu
end
section
namespace Go.Proofs.YtpagaknmdfgfkaaGreatDoor.Nu
open Go.Proofs.Tryz
open Go.Aw Go.Aw.D Go.Proofs Ty Go.Nu
abbrev bas:Nat:=1000000000
def gB(n:Nat):List AV:=[int n]
def Sf(n:Nat):(gB n).length=1:=(rfl)
def arR(n:Nat):(gB n).getD 0 .any=int n:=(rfl)
attribute [go_sem] Sf arR
def cI{H:aH}{k:IntKind}{a b:Int}(h:a=b):Conv H (.v (.int k a)) (.v (.int k b)):=h▸.refl _
def cB{H:aH}{a b:Bool}(h:a=b):Conv H (.v (.bool a)) (.v (.bool b)):=h▸.refl _
def cS{H:aH}{a b:ByteArray}(h:a=b):Conv H (.v (.string a)) (.v (.string b)):=h▸.refl _
def ltB{k n:Nat}(h:decide ((k:Int)<(n:Int))=true):k<n:=by simpa using h
def geB{k n:Nat}(E:k<=n)(h:decide ((k:Int)<(n:Int))=false):k=n:=by
 have:¬k<n:=by simpa using h
 omega
def avT(s:ByteArray):s.toList=bl s:=ByteArray.toList_eq s
def avN(l:List Nat):dL 1 (l.map gB):=Al Sf l
def awD(s:ByteArray)(k:Nat):s.data.getD k 0=(bl s).getD k 0:=by simp[bl,Array.getD_eq_getD_getElem?,List.getD]
def arY(a:Array UInt8):bl ⟨a⟩=a.toList:=rfl
attribute [go_sem] avT awD arY
def Ul{α:Type}{q:α->Bool}{l:List α}{k:Nat}{c:α}(h:l[k]?=some c)(E:q c=false):l.all q=false:=by
 cases F:l.all q with
 | false=>rfl
 | true=>have:=Xaj.1 F c (Xac h);rw[E]at this;cases this
def OU{α:Type}{q:α->Bool}{l:List α}(h:∀c∈l,q c=true):l.all q=true:=Xaj.2 h
def gR{α:Type}{p:α->Prop}{l:List α}{k:Nat}{x:α}(I:l[k]?=some x)(F:p x)(h:∀x∈l.take k,p x):∀x∈l.take (k+1),p x:=by
 rw[bA I];intro y E;rcases Xba.1 E with E|E
 ·exact h y E
 ·rw[Xaw.1 E];exact F
def avX{c:UInt8}{n:Nat}(E:n<256):(((c.toNat:Int) == (n:Int))=true)↔c=UInt8.ofNat n:=by
 rw[Xat];constructor
 ·intro h;have:c.toNat=n:=by omega
  rw[<-this,UInt8.ofNat_toNat]
 ·intro h;rw[h,UInt8.toNat_ofNat'];omega
def VE(l:List UInt8):(l == []||(((l.getD 0 0).toNat:Int) == 48&& !(l == [48])))= !(l != []&&(l.length == 1||l.getD 0 0 != 48)):=by
 cases l with
 | nil=>rfl
 | cons c r=>
  have E:(((c.toNat:Int) == 48)=true)↔c=48:=avX (n:=48) (by omega);by_cases h:c=48
  ·subst h;cases r <;> rfl
  ·have h1 : ((c.toNat : Int) == 48) = false := by rw[<-Xch,E];exact h
   simp[h1,h]
def NK(c:UInt8):(decide ((c.toNat:Int)<48)||decide ((c.toNat:Int)>57))= !isD c:=by unfold isD;rw[Xap];simp only[Xbu,decide_eq_true_eq,Xay,Xcx,decide_eq_false_iff_not];omega
def u8w{n:Nat}(h:48<=n)(E:n<256):IntKind.u8.wrap ((n:Int)-48)=((n-48:Nat):Int):=by have e:IntKind.u8.wrap ((n:Int)-48)=((n:Int)-48)%256:=rfl;rw[e];omega
def tD{l:List UInt8}{k:Nat}{c:UInt8}(h:l[k]?=some c):l.getD k 0=c:=by simp[List.getD,h]
def Ef(s:ByteArray)(h:s.size<=4611686018427387904):PC prog 97 [str s] (boo (eA s)):=by
 have Z:=cV s;refine pcd func97 rfl rfl ?_;simp only[go_sem];refine⟨fun h0=>⟨by omega,?_⟩,?_⟩
 ·have:bl s≠[]:=by simpa using h0
  have:=List.length_pos_iff.2 this;omega
 rw[VE];refine aA (fun O=>?_) (fun O=>?_)
 ·simp only[go_sem];refine cB ?_;unfold eA fA;rw[Xay]at O;rw[O];rfl
 rw[Xbq]at O;simp only[go_sem];refine⟨fun ρ _=>∃k:Nat,k<=(bl s).length/\ρ 0=str s/\ρ 16=int s.size/\ρ 17=int k/\∀c∈(bl s).take k,isD c=true,fun ρ _=>(bl s).length-aR (ρ 17),⟨0,Xaa _,rfl,rfl,rfl,by simp⟩,?_⟩;rintro ρ H ⟨k,Y,h0,U,J,X⟩;simp only[go_sem,U,J];refine aA (fun F=>?_) (fun E=>?_)
 ·have F:k<(bl s).length:=by have:=ltB F;omega
  obtain⟨c,V⟩:=aK F;have hi:=tD V;simp only[go_sem,h0,J,hi,NK];refine⟨⟨by omega,by omega⟩,fun _=>⟨by omega,by omega⟩,aA (fun I=>?_) (fun I=>?_)⟩
  ·simp only[go_sem];refine cB ?_;unfold eA fA;rw[Ul V (by simpa using I),Bool.and_false]
  ·simp only[go_sem,h0,U,J,aQ k];exact⟨⟨k+1,F,rfl,gR V (by simpa using I) X⟩,by simp only[aN];omega⟩
 ·have E:k=(bl s).length:=by rw[<-Z]at E;exact geB Y E
  subst E;rw[Xad]at X;simp only[go_sem];refine cB ?_;unfold eA fA;rw[O,OU X];rfl
def yO:∀(l:List Nat) (x:Nat),oS (l++[x])=if x=0 then oS l else l++[x]
 | [],x=>by simp only[Xcj,oS]
 | y::l,x=>by
  rw[List.cons_append,oS,yO l x];by_cases h:x=0
  ·rw[if_pos h,if_pos h,oS]
  ·rw[if_neg h,if_neg h];cases l <;> rfl
def auI(l:List Nat)(h:l.length<=4611686018427387904):PC prog 219 [.sl (l.map gB)] (.sl ((oS l).map gB)):=by
 refine pcd func219 rfl rfl ?_;simp only[go_sem];refine⟨fun ρ _=>∃k:Nat,k<=l.length/\ρ 0=.sl ((l.take k).map gB)/\oS (l.take k)=oS l,fun ρ _=>match ρ 0 with| .sl es=>es.length|_=>0,⟨l.length,Xaf _,by rw[Xad];rfl,by rw[Xad]⟩,?_⟩;rintro ρ H ⟨k,Z,h0,J⟩;have F:(l.take k).length=k:=by rw[Xas];omega
 cases k with
 | zero=>
  simp only[go_sem,h0,show decide (((0:Nat):Int)>0)=false from rfl];refine aA (fun I=>by cases I) (fun _=>?_);simp only[go_sem,h0];have V:oS l=[]:=by rw[<-J];rfl
  rw[V];exact .refl _
 | succ k=>
 have Y:IntKind.i64.wrap (((k+1:Nat):Int)-1)=(k:Int):=by rw[aW (by omega)];omega
 obtain⟨x,X⟩:=aK (show k<l.length by omega);have U:(l.take (k+1))[k]?=some x:=by rw[List.getElem?_take,if_pos (by omega)];exact X
 have O:l.take (k+1)=l.take k++[x]:=bA X;simp only[go_sem,h0,F,Y,aD U,show decide (((k+1:Nat):Int)>0)=true from decide_eq_true (by omega)];refine⟨⟨by omega,by omega⟩,aA (fun I=>?_) (fun I=>?_)⟩
 ·have E:x=0:=by simpa using I
  simp only[go_sem,h0,F,Y];refine⟨by omega,⟨⟨k,by omega,?_,?_⟩,?_⟩⟩
  ·rw[<-List.map_take,List.take_take,Xcr (by omega)]
  ·rw[O,yO,if_pos E]at J;exact J
  ·rw[<-List.map_take,Xab,Xas];omega
 ·have E:x≠0:=by simpa using I
  simp only[go_sem,h0];rw[O,yO,if_neg E]at J;rw[O,J];exact .refl _
abbrev nl(n:Nat):AV:=.sl ((aY bas n).map gB)
def OB:nl 0=.sl []:=by simp only[nl,dZ];rfl
def M7{l:List Nat}(F:Lim bas l)(h:l.length<=4611686018427387904){n:Nat}(E:ofL bas l=n):PC prog 219 [.sl (l.map gB)] (nl n):=by
 have:=auI l h
 rwa [NB (by decide) F E]at this
def bY(l:List Nat):Row:=⟨3,1,l.map gB⟩
def rI{H:aH}{k:Nat}{l:List Nat}{x:Nat}:aM H k (some ⟨3,1,l.map gB++[[int (x:Int)]]⟩) k=some (bY (l++[x])):=by rw[aB];simp only[bY,Xal,Xbf,Xbv];rfl
def acU(s:ByteArray)(hr:(bl s).all isD=true)(h:s.size<=4096):PC prog 218 [str s] (nl (fG s)):=by
 have hs:=cV s;refine pcb (fun t=>t == 3) func218 rfl rfl ?_;simp only[go_sem];refine aL fun j hj=>?_
 simp only[go_sem];refine⟨fun ρ H=>∃(m j:Nat) (o:List Nat),m<=(bl s).length/\ρ 0=str (s.extract 0 m)/\ρ 3=.os j/\H j=some (bY o)/\Lim bas o/\o.length<=(bl s).length-m/\ofL bas o+bas^o.length*iJ ((bl s).take m)=fG s,fun ρ _=>match ρ 0 with| .v (.string t)=>t.size|_=>0,⟨(bl s).length,j,[],Xaf _,?_,rfl,aB _ _ _,by simp[Lim],by simp,?_⟩,?_⟩
 ·rw[show s.extract 0 (bl s).length=s from lD (by rw[gC,Xad,Xbw])];rfl
 ·rw[Xad];simp[ofL,fG]
 clear hj j;rintro ρ H ⟨m,j,o,hm,h0,U,O,ho,ac,hv⟩;have E:(s.extract 0 m).size=m:=by rw[<-cV,gC,Xbw,Xas];omega
 simp only[go_sem,h0,E];refine aA (fun hb=>?_) (fun hb=>?_)
 ·have X:0<m:=by simpa using hb
  have e9:eV 0 (IntKind.i64.wrap ((m:Int)-9))=((m-9:Nat):Int):=by rw[aW (by omega)];unfold eV;split <;> omega
  simp only[go_sem,h0,E];refine⟨fun ρ H=>∃i:Nat,m-9<=i/\i<=m/\ρ 0=str (s.extract 0 m)/\ρ 3=.os j/\ρ 4=int (m-9:Nat)/\ρ 5=int (iJ (((bl s).take i).drop (m-9)):Nat)/\ρ 6=int i/\H j=some (bY o),fun ρ _=>m-aR (ρ 6),
   ⟨m-9,Xaf _,by omega,h0,U,?_,?_,?_,O⟩,?_⟩
  ·simp only[go_sem,e9]
  ·simp only[go_sem];rw[List.drop_eq_nil_of_le (by rw[Xas];omega)];rfl
  ·simp only[go_sem,e9]
  clear h0 U O;rintro ρ H ⟨i,ad,aa,h0,U,h4,h5,h6,O⟩;simp only[go_sem,h0,h6,E];refine aA (fun J=>?_) (fun F=>?_)
  ·have J:i<m:=ltB J;obtain⟨c,I⟩:=aK (show i<(bl s).length by omega);have hx:(bl (s.extract 0 m)).getD i 0=c:=by rw[gC,Xbw];exact tD (by rw[List.getElem?_take,if_pos J];exact I)
   have hd:=nI.1 (Xaj.1 hr c (Xac I));have Z:=HB (l:=((bl s).take i).drop (m-9)) (Xaj.2 fun c I=>Xaj.1 hr c (List.mem_of_mem_take (List.mem_of_mem_drop I)));have ab:10^(((bl s).take i).drop (m-9)).length<=10^9:=Xau (by omega) (by rw[Xbj,Xas];omega);have e1:((bl s).take (i+1)).drop (m-9)=((bl s).take i).drop (m-9)++[c]:=by rw[bA I,List.drop_append_of_le_length (by rw[Xas];omega)]
   have e2:IntKind.i64.wrap (IntKind.i64.wrap (10*((iJ (((bl s).take i).drop (m-9)):Nat):Int))+IntKind.i64.wrap (IntKind.u8.wrap ((c.toNat:Int)-48)))=((iJ (((bl s).take (i+1)).drop (m-9)):Nat):Int):=by rw[e1,oP,u8w hd.1 (by omega)];generalize iJ (((bl s).take i).drop (m-9))=V at *;rw[show IntKind.i64.wrap (10*(V:Int))=10*(V:Int)from aW (by omega),show IntKind.i64.wrap (((c.toNat-48:Nat):Int))=((c.toNat-48:Nat):Int)from aW (by omega),aW (by omega)];omega
   simp only[go_sem,h0,U,h4,h5,h6,E,hx,e2,aQ i];exact⟨⟨by omega,by omega⟩,⟨i+1,by omega,by omega,rfl,rfl,O⟩,by simp only[aN];omega⟩
  ·have F:i=m:=geB aa F;subst F;simp only[go_sem,U,h5,];have hL:(((bl s).take i).drop (i-9)).length=i-(i-9):=by rw[Xbj,Xas];omega
   have hA:(((bl s).take i).drop (i-9)).all isD=true:=Xaj.2 fun c I=>Xaj.1 hr c (List.mem_of_mem_take (List.mem_of_mem_drop I))
   have Z:=HB hA;have ab:10^(((bl s).take i).drop (i-9)).length<=10^9:=Xau (by omega) (by omega);have Y:iJ ((bl s).take i)=iJ ((bl s).take (i-9))*10^(((bl s).take i).drop (i-9)).length+iJ (((bl s).take i).drop (i-9)):=by
    rw[<-xN]
    congr 1
    conv=>lhs;rw[<-Xcs (i-9) ((bl s).take i)]
    rw[List.take_take,Xcr (by omega)]
   generalize iJ (((bl s).take i).drop (i-9))=x at *;refine aZ O ⟨rfl,rfl⟩ ⟨rfl,trivial⟩ (by simp only[bY,Xab,Xah,List.length_nil];omega) (fun j' ae=>?_);simp only[go_sem,h0,h4,E];refine⟨⟨by omega,by omega⟩,⟨⟨i-9,j',o++[x],by omega,?_,rfl,rI,ho.snoc (show x<1000000000 by omega),?_,?_⟩,?_⟩⟩
   ·congr 2
    refine lD ?_;rw[gC,gC,gC];simp only[Xbw,List.take_take];rw[Xcr (by omega)]
   ·rw[Xae,Xah,List.length_nil];omega
   ·rw[<-hv,Y,vT,Xae,Xah,List.length_nil,Xbk];by_cases h9:9<=i
    ·rw[hL,show i-(i-9)=9 by omega]
     grind
    ·rw[show i-9=0 by omega];simp only[List.take_zero,iJ,List.foldl_nil]
     grind
   ·rw[<-cV,gC,gC];simp only[Xbw,Xas];omega
 ·have X:m=0:=by simpa using hb
  subst X;simp only[go_sem,U];refine PC.useF [j] (.cons _ _ _ _ (.row _ _ _ (by simp[O];rfl) (ConvE.refl _)) .nil) (M7 ho (by omega) (n:=fG s) (by rw[<-hv];simp[iJ])) ?_;simp only[go_sem];exact .refl _
def neN{a b:Nat}(h:((a:Int) != (b:Int))=true):a≠b:=by rw[bne_iff_ne]at h;omega
def eqN{a b:Nat}(h:((a:Int) != (b:Int))=false):a=b:=by rw[bne_eq_false_iff_eq]at h;omega
def anY{a b:Int}(h:a<=b):hU a b<=0:=by
 unfold hU;split
 ·omega
 ·rw[if_neg (by omega)];omega
def WP(n:Int):PC prog 279 [int n] (boo false):=by refine pcd func279 rfl rfl ?_;simp only[go_sem];exact cB (by simp)
def Fm(a b:Int):PC prog 238 [int a,int b] (int (hU a b)):=by
 refine pcd func238 rfl rfl ?_;simp only[go_sem];refine aG (WP a) ?_;simp only[go_sem];refine aG (WP b) ?_;simp only[go_sem];refine aA (fun h=>by cases h) (fun _=>?_);simp only[go_sem];refine aA (fun h=>by cases h) (fun _=>?_);simp only[go_sem];apply aA <;> intro h
 ·simp only[go_sem];exact cI (by rw[jD (by simpa using h)])
 ·simp only[go_sem];apply aA <;> intro E
  ·simp only[go_sem];exact cI (by rw[jF (by simpa using E)])
  ·simp only[go_sem];exact cI (by rw[qS (by simp at h E;omega)])
def Wc(l:List Nat)(i:Nat)(hi:i<=4611686018427387904):PC prog 196 [.sl (l.map gB),int i] (int (l.getD i 0:Nat)):=by
 refine pcd func196 rfl rfl ?_;simp only[go_sem];apply aA <;> intro h
 ·have h:=ltB h;obtain⟨x,E⟩:=aK h;have F:=inB h;simp only[go_sem,aD E,F];exact cI (by simp[List.getD,E])
 ·simp only[go_sem];have h:¬i<l.length:=by simpa using h
  exact cI (by simp[List.getD,List.getElem?_eq_none (by omega:l.length<=i)])
def aoC{l r:List Nat}(J:Lim bas l)(V:Lim bas r)(E:l.length=r.length){k x y:Nat}(I:l[k]?=some x)(U:r[k]?=some y)(O:l.drop (k+1)=r.drop (k+1))(F:x≠y):hU (x:Int) y=hU (ofL bas l) (ofL bas r):=by
 rcases Nat.lt_or_gt_of_ne F with h|h
 ·have:=MT (b:=bas) (by decide) J V E I U h O;rw[jD (by omega),jD (by omega)]
 ·have:=MT (b:=bas) (by decide) V J E.symm U I h O.symm;rw[jF (by omega),jF (by omega)]
def E1(m n:Nat)(hm:(aY bas m).length<=1048576)(hn:(aY bas n).length<=1048576):PC prog 197 [nl m,nl n] (int (hU m n)):=by
 have om:=cU (b:=bas) (by decide) m;have on:=cU (b:=bas) (by decide) n;have lm:=cP (b:=bas) (by decide) m;have ln:=cP (b:=bas) (by decide) n;have aa:(aY bas m).length<(aY bas n).length->m<n:=Mm (by decide);have X:(aY bas n).length<(aY bas m).length->n<m:=Mm (by decide);simp only[nl];generalize aY bas m=a at *;generalize aY bas n=b at *;refine pcd func197 rfl rfl ?_;simp only[go_sem];apply aA <;> intro h
 ·simp only[go_sem];refine aG (Fm _ _) ?_;simp only[go_sem];refine cI ?_;have h:a.length≠b.length:=neN h;rcases Nat.lt_or_gt_of_ne h with h|h
  ·have:=aa h;rw[jD (by omega),jD (by omega)]
  ·have:=X h;rw[jF (by omega),jF (by omega)]
 have E:a.length=b.length:=eqN h;simp only[go_sem];refine⟨fun ρ _=>∃k:Nat,k<=a.length/\ρ 0=.sl (a.map gB)/\ρ 1=.sl (b.map gB)/\ρ 5=int ((k:Int)-1)/\a.drop k=b.drop k,fun ρ _=>match ρ 5 with| .v (.int _ z)=>(z+1).toNat|_=>0,⟨a.length,Xaf _,rfl,rfl,by simp only[go_sem,vH (show a.length<=4611686018427387904 by omega)],by rw[List.drop_eq_nil_of_le (Xaf _),List.drop_eq_nil_of_le (by omega)]⟩,?_⟩;rintro ρ H ⟨k,hk,h0,h1,I,V⟩;simp only[go_sem,I];apply aA <;> intro hb
 ·have F:0<k:=by simp at hb;omega
  obtain⟨k,rfl⟩:∃j,k=j+1:=⟨k-1,by omega⟩;rw[show((k+1:Nat):Int)-1=(k:Int)by omega]at I |-;obtain⟨x,O⟩:=aK (show k<a.length by omega);obtain⟨y,U⟩:=aK (show k<b.length by omega);have b1:=inB (show k<a.length by omega);have b2:=inB (show k<b.length by omega);simp only[go_sem];refine dR ?_;simp only[go_sem,h0,h1,I,aD O,aD U,b1,b2];apply aA <;> intro J
  ·simp only[go_sem];refine dR ?_;simp only[go_sem,h0,h1,I,aD O,aD U,b1,b2];refine⟨_,(Fm x y).q rfl,?_⟩;simp only[go_sem];exact cI (by rw[aoC lm ln E O U V (neN J),om,on])
  ·have Y:x=y:=eqN J;simp only[go_sem,h0,h1,I,vH (show k<=4611686018427387904 by omega)];refine⟨⟨k,by omega,rfl,?_⟩,by omega⟩;have e1:a.drop k=x::a.drop (k+1):=by rw[Xci (by omega)];congr 1;exact(List.getElem?_eq_some_iff.1 O).2
   have e2:b.drop k=y::b.drop (k+1):=by rw[Xci (by omega)];congr 1;exact(List.getElem?_eq_some_iff.1 U).2
   rw[e1,e2,V,Y]
 ·have F:k=0:=by simp at hb;omega
  subst F;simp only[go_sem];refine cI ?_;have Z:a=b:=by simpa using V
  rw[qS];rw[<-om,<-on,Z]
def tw(a b:ByteArray)(n:Nat):List (List AV):=if kB a b=0 then(aY bas n).map gB else[]
def Jp{a b:ByteArray}{n:Nat}(h:kB a b=0):tw a b n=(aY bas n).map gB:=if_pos h
def Yh{a b:ByteArray}{n:Nat}(h:kB a b≠0):tw a b n=[]:=if_neg h
def Qb(a b:ByteArray)(U:a.size<=1048576)(O:b.size<=1048576):PC prog 163 [str a,str b] (.tup [.sl (tw a b (fG a)),.sl (tw a b (fG b)),int (kB a b)]):=by
 refine pcd func163 rfl rfl ?_;simp only[go_sem];refine aG (Ef a (by omega)) ?_;simp only[go_sem];refine⟨_,fun _=>(Ef b (by omega)).q rfl,?_⟩;simp only[go_sem];apply aA <;> intro h
 ·simp only[go_sem];have e:kB a b=3:=by unfold kB;rw[if_pos h]
  rw[Yh (by rw[e];decide),Yh (by rw[e];decide),e];exact .refl _
 have E:eA a=true/\eA b=true:=by simpa using h
 simp only[go_sem];apply aA <;> intro J
 ·simp only[go_sem];have I:(decide (a.size>4096)||decide (b.size>4096))=true:=by simp at J |-;omega
  have e:kB a b=4:=by unfold kB;rw[if_neg (by rw[h];simp),if_pos I]
  rw[Yh (by rw[e];decide),Yh (by rw[e];decide),e];exact .refl _
 have F:a.size<=4096/\b.size<=4096:=by simp at J;omega
 have e:kB a b=0:=HF E.1 E.2 F.1 F.2;have d:∀{s:ByteArray},eA s=true->(bl s).all isD=true:=fun h=>by unfold eA fA at h;simp only[Xai]at h;exact h.2
 simp only[go_sem];refine aG (acU a (d E.1) F.1) ?_;simp only[go_sem];refine aG (acU b (d E.2) F.2) ?_;simp only[go_sem];rw[Jp e,Jp e,e];exact .refl _
def Cy{H:aH}{j:Nat}:aM H j (some ⟨3,1,[]⟩) j=some (bY []):=aB _ _ _
def WO(m k:Nat)(hm:(aY bas m).length<=1048576)(hk:k<bas):PC prog 221 [nl m,int k] (nl (m*k)):=by
 have hk:k<1000000000:=hk;have om:=cU (b:=bas) (by decide) m;have lm:=cP (b:=bas) (by decide) m;simp only[nl];generalize aY bas m=l at *;have ac:IntKind.i64.wrap ((l.length:Int)+1)=((l.length+1:Nat):Int):=mS (by omega);refine pcb (fun t=>t == 5) func221 rfl rfl ?_;simp only[go_sem];refine⟨by omega,aL fun j hj=>?_⟩;simp only[go_sem];refine⟨fun ρ H=>∃(i j c:Nat) (o:List Nat),i<=l.length/\ρ 1=int k/\ρ 13=.sl (l.map gB)/\ρ 14=int l.length/\ρ 5=.os j/\ρ 6=int c/\ρ 15=int i/\H j=some (bY o)/\Lim bas o/\o.length=i/\c<1000000000/\ofL bas o+bas^i*c=ofL bas (l.take i)*k,fun ρ _=>l.length-aR (ρ 15),
  ⟨0,j,0,[],Xaa _,rfl,rfl,rfl,rfl,by simp only[go_sem];rfl,by simp only[go_sem];rfl,Cy,by simp[Lim],rfl,by omega,by simp[ofL]⟩,?_⟩
 rintro ρ H ⟨i,j,c,o,hi,h1,O,J,h5,h6,E,Rj,ho,F,hc,hv⟩;simp only[go_sem,J,E];refine jQ hi (fun I=>?_) (fun X=>?_)
 ·obtain⟨n,Z⟩:=aK I;have b1:=inB I;have ab:n<1000000000:=lm n (Xac Z);have aa:n*k<=999999999*999999999:=Nat.mul_le_mul (by omega) (by omega);have e1:IntKind.i64.wrap (IntKind.i64.wrap ((n:Int)*(k:Int))+(c:Int))=((n*k+c:Nat):Int):=by rw[show(n:Int)*(k:Int)=((n*k:Nat):Int)from(Int.natCast_mul n k).symm];generalize n*k=p at *;rw[show IntKind.i64.wrap (p:Int)=(p:Int)from aW (by omega),aW (by omega)];omega
  have U:=Wj (b:=bas) (by decide) Z F hv;simp only[go_sem,h1,O,h5,h6,E,aD Z,b1,e1];have hq:(n*k+c)/1000000000<1000000000:=by omega
  have e2:IntKind.i64.wrap ((((n*k+c:Nat):Int)).tdiv 1000000000)=(((n*k+c)/1000000000:Nat):Int):=by generalize n*k+c=p at *;rw[Xbz (by omega),aW (by omega)];omega
  have e3:(((n*k+c:Nat):Int)).tmod 1000000000=(((n*k+c)%1000000000:Nat):Int):=by rw[Xck (by omega)];omega
  simp only[e3];refine⟨by decide,?_⟩;refine aZ Rj ⟨rfl,rfl⟩ ⟨rfl,trivial⟩ (by simp only[bY,Xab,Xah,List.length_nil];omega) (fun V Y=>?_);simp only[go_sem,h1,O,J,E,e2,aQ i];refine⟨by decide,⟨i+1,V,_,o++[(n*k+c)%bas],I,rfl,rfl,rfl,rI,ho.snoc (Xbx _ (by decide)),by simp[F],hq,U⟩,by simp only[aN];omega⟩
 ·subst X;simp only[go_sem,h5,h6];refine aZ Rj ⟨rfl,rfl⟩ ⟨rfl,trivial⟩ (by simp only[bY,Xab,Xah,List.length_nil];omega) (fun V Y=>?_);simp only[go_sem];have hT:Lim bas (o++[c]):=ho.snoc hc;have hV:ofL bas (o++[c])=m*k:=by rw[vT,F,hv,Xad,om]
  refine PC.useF [V] (.cons _ _ _ _ (.row _ _ _ (by simp only[Xaw,if_true];exact rI) (ConvE.refl _)) .nil) (M7 hT (by simp;omega) hV) ?_;simp only[go_sem];exact .refl _
def Ho(m n:Nat)(hm:(aY bas m).length<=1048576)(ae:n<=m):PC prog 198 [nl m,nl n] (nl (m-n)):=by
 have om:=cU (b:=bas) (by decide) m;have on:=cU (b:=bas) (by decide) n;have lm:=cP (b:=bas) (by decide) m;have ln:=cP (b:=bas) (by decide) n;have af:=cR (b:=bas) (by decide) ae;simp only[nl];generalize aY bas m=x at *;generalize aY bas n=y at *;refine pcb (fun t=>t == 5) func198 rfl rfl ?_;simp only[go_sem];refine⟨by omega,aL fun j hj=>?_⟩;simp only[go_sem];refine⟨fun ρ H=>∃(i j c:Nat) (o:List Nat),i<=x.length/\ρ 0=.sl (x.map gB)/\ρ 1=.sl (y.map gB)/\ρ 13=int x.length/\ρ 5=.os j/\ρ 6=int c/\ρ 14=int i/\H j=some (bY o)/\Lim bas o/\o.length=i/\c<=1/\ofL bas o+ofL bas (y.take i)=ofL bas (x.take i)+bas^i*c,fun ρ _=>x.length-aR (ρ 14),
  ⟨0,j,0,[],Xaa _,rfl,rfl,rfl,rfl,by simp only[go_sem];rfl,by simp only[go_sem];rfl,Cy,by simp[Lim],rfl,by omega,by simp[ofL]⟩,?_⟩
 rintro ρ H ⟨i,j,c,o,hi,h0,h1,I,Y,h6,F,X,ho,O,hc,hv⟩;simp only[go_sem,I,F];refine jQ hi (fun U=>?_) (fun ac=>?_)
 ·obtain⟨a,ha⟩:=aK U;have ad:x.getD i 0=a:=by simp[List.getD,ha]
  have b1:=inB U;have aa:a<1000000000:=lm a (Xac ha);have Z:y.getD i 0<1000000000:=ln.getD (by decide) i;simp only[go_sem,F];refine kI (by rfl) (by kernel_rfl) ?_;simp only[go_sem,h0,h1,aD ha,b1];refine⟨_,(Wc y i (by omega)).q rfl,?_⟩;have ag:=Gy (b:=1000000000) aa Z hc;have V:=Ag (b:=1000000000) aa Z hc;have ab:=Dr (b:=bas) (x:=x) (y:=y) (c':=if a<y.getD i 0+c then 1 else 0) (d:=if a<y.getD i 0+c then a+1000000000-(y.getD i 0+c)else a-(y.getD i 0+c)) O hv (by rw[ad];exact V.1);generalize y.getD i 0=yi at *;have e1:IntKind.i64.wrap (IntKind.i64.wrap ((a:Int)-(yi:Int))-(c:Int))=(a:Int)-yi-c:=by rw[show IntKind.i64.wrap ((a:Int)-(yi:Int))=(a:Int)-yi from aW (by omega),aW (by omega)]
  simp only[go_sem,h6,e1];refine bK (fun E H'=>E 0=.sl (x.map gB)/\E 1=.sl (y.map gB)/\E 13=int x.length/\E 5=.os j/\E 14=int i/\H' j=some (bY o)/\E 8=int (if a<yi+c then a+1000000000-(yi+c)else a-(yi+c):Nat)/\E 6=int (if a<yi+c then 1 else 0:Nat)) ?_ fun K hK=>aA (fun J=>?_) (fun J=>?_)
  rotate_left
  ·have J:a<yi+c:=by simp at J;omega
   have e2:IntKind.i64.wrap ((a:Int)-yi-c+1000000000)=((a+1000000000-(yi+c):Nat):Int):=by rw[aW (by omega)];omega
   simp only[go_sem,e2];exact hK _ _ ⟨h0,h1,I,Y,F,X,by simp only[go_sem,if_pos J],by simp only[go_sem,if_pos J];rfl⟩
  ·have J:¬a<yi+c:=by simp at J;omega
   simp only[go_sem,];refine hK _ _ ⟨h0,h1,I,Y,F,X,?_,by simp only[go_sem,if_neg J];rfl⟩;simp only[go_sem,if_neg J]
   congr 2
   omega
  rintro ρ H ⟨h0,h1,I,Y,F,X,h8,h6⟩;simp only[go_sem,Y,h8];refine aZ X ⟨rfl,rfl⟩ ⟨rfl,trivial⟩ (by simp only[bY,Xab,Xah,List.length_nil];omega) (fun j' ah=>?_);simp only[go_sem,h0,h1,I,h6,F,aQ i];exact⟨⟨i+1,j',_,_,U,rfl,rfl,rfl,rI,ho.snoc V.2,by simp[O],by split <;> omega,ab⟩,by simp only[aN];omega⟩
 ·subst ac;simp only[go_sem,Y];obtain⟨_,hV⟩:=E5 (b:=bas) (by decide) ho lm O af (by omega) hc hv;refine PC.useF [j] (.cons _ _ _ _ (.row _ _ _ (by simp only[Xaw,if_true];exact X) (ConvE.refl _)) .nil) (M7 ho (by omega) (hV.trans (by rw[om,on]))) ?_;simp only[go_sem];exact .refl _
def half{d r q:Nat}(h1:d*q<=r)(F:r<d*(q+1))(E:0<d):q=r/d:=by
 symm
 exact(Nat.div_eq_iff E).2 ⟨by rw[Nat.mul_comm];exact h1,by rw[Nat.mul_add,Nat.mul_one]at F;rw[Nat.mul_comm q d];omega⟩
def Hy(r d:Nat)(hr:(aY bas r).length<=1048576)(Y:0<d)(ab:(aY bas d).length<=1048575)(h:r<d*bas):PC prog 220 [nl r,nl d] (int (r/d:Nat)):=by
 refine pcd func220 rfl rfl ?_;simp only[go_sem];refine⟨fun ρ _=>∃a b:Nat,a<=b/\b<1000000000/\ρ 0=nl r/\ρ 1=nl d/\ρ 5=int a/\ρ 6=int b/\d*a<=r/\r<d*(b+1),fun ρ _=>aR (ρ 6)-aR (ρ 5),⟨0,999999999,by omega,by omega,rfl,rfl,by simp only[go_sem];rfl,by simp only[go_sem];rfl,by simp,h⟩,?_⟩;rintro ρ H ⟨a,b,V,hb,h0,h1,J,U,F,I⟩;simp only[go_sem,J,U];refine jQ V (fun ad=>?_) (fun O=>?_)
 ·have e1 : IntKind.i64.wrap ((IntKind.i64.wrap (IntKind.i64.wrap ((a : Int) + (b : Int)) + 1)).tdiv 2) = (((a + b + 1) / 2 : Nat) : Int) := by rw[show IntKind.i64.wrap ((a:Int)+(b:Int))=((a+b:Nat):Int)by rw[aW (by omega)];omega,mS (by omega),Xbz (by omega),aW (by omega)];omega
  simp only[go_sem,h1,J,U,e1];refine⟨by decide,?_⟩;have Z:(a+b+1)/2<bas:=show _<1000000000 by omega
  have aa:a<(a+b+1)/2:=by omega
  have ac:(a+b+1)/2<=b:=by omega
  generalize (a+b+1)/2=m at *;refine aG (WO d m (by omega) Z) ?_;simp only[go_sem,h0,];have X:(aY bas (d*m)).length<=1048576:=by
   have h1:=kP (b:=bas) (by decide) (cP (b:=bas) (by decide) d);rw[cU (by decide)]at h1;have h2:d*m<bas^((aY bas d).length+1):=by rw[Xbk];exact Xbs (Nat.mul_lt_mul_of_pos_left Z Y) (Xcy _ (Nat.le_of_lt h1))
   have:=iO (b:=bas) (by decide) h2;omega
  refine aG (E1 (d*m) r X hr) ?_;simp only[go_sem,];refine aA (fun E=>?_) (fun E=>?_)
  ·have E : d * m <= r := by
    rcases Xav r (d*m)with h|h
    ·rw[jF (by omega)]at E;simp at E
    ·exact h
   simp only[go_sem,h0,h1,U];exact⟨⟨m,b,by omega,hb,rfl,rfl,E,I⟩,by simp only[aN];omega⟩
  ·have E : r < d * m := by
    rcases Xav r (d*m)with h|h
    ·exact h
    ·exfalso;exact of_decide_eq_false E (anY (by omega))
   simp only[go_sem,h0,h1,J];refine⟨⟨a,m-1,by omega,by omega,rfl,?_,F,?_⟩,?_⟩
   ·rw[vH (by omega)];congr 2;omega
   ·rw[show m-1+1=m by omega];exact E
   ·rw[vH (by omega)];simp only[aN];omega
 ·subst O;simp only[go_sem,J];exact cI (by rw[half F I Y])
def CL{E:List Nat}{k v q:Nat}(h:E[k]?=some v):({ bY E with es:=(bY E).es.set k (oV ((bY E).es.getD k []) 0 [int (q:Int)]) }:Row)=bY (E.set k q):=by simp only[bY,aD h,List.map_set];rfl
def SQ(m n:Nat)(hm:(aY bas m).length<=1048570)(hn:0<n)(ak:(aY bas n).length<=1048570):PC prog 164 [nl m,nl n] (.tup [nl (m/n),nl (m%n)]):=by
 have om:=cU (b:=bas) (by decide) m;have lm:=cP (b:=bas) (by decide) m;rw[show nl m=.sl ((aY bas m).map gB)from rfl];generalize aY bas m=l at *;refine pcb (fun t=>t == 6||t == 23) func164 rfl rfl ?_;simp only[go_sem];refine⟨by omega,aL fun j hj=>?_⟩;simp only[go_sem];refine⟨fun ρ H=>∃(k r:Nat) (E:List Nat),k<=l.length/\ρ 0=.sl (l.map gB)/\ρ 1=nl n/\ρ 6=.os j/\ρ 7=nl r/\ρ 8=int ((k:Int)-1)/\H j=some (bY E)/\Lim bas E/\E.length=l.length/\r<n/\ofL bas (l.drop k)=ofL bas (E.drop k)*n+r/\E.take k=List.replicate k 0,fun ρ _=>match ρ 8 with| .v (.int _ z)=>(z+1).toNat|_=>0,
  ⟨l.length,0,List.replicate l.length 0,Xaf _,rfl,rfl,rfl,?_,?_,?_,Lim.zeros (by decide) _,by simp,hn,by simp[ofL],by simp⟩,?_⟩
 ·simp only[go_sem];exact OB.symm
 ·simp only[go_sem,vH (show l.length<=4611686018427387904 by omega)]
 ·rw[aB];simp only[bY,List.map_replicate];rfl
 rintro ρ H ⟨k,r,E,hk,h0,h1,U,h7,O,Rj,hq,V,hr,hv,hz⟩;simp only[go_sem,O];refine aA (fun hb=>?_) (fun hb=>?_)
 ·have ad:0<k:=by simp at hb;omega
  obtain⟨k,rfl⟩:∃j,k=j+1:=⟨k-1,by omega⟩;rw[show((k+1:Nat):Int)-1=(k:Int)by omega]at O |-;obtain⟨x,hx⟩:=aK (show k<l.length by omega);have ai:x<bas:=lm x (Xac hx);have b1:=inB (show k<l.length by omega);have b2:=inB (show k<E.length by omega);have X:E[k]?=some 0:=by
   have h1:(E.take (k+1))[k]?=(List.replicate (k+1) 0)[k]?:=by rw[hz]
   rw[List.getElem?_take,if_pos (by omega)]at h1;rw[h1];simp
  obtain⟨hV,hQ,hR⟩:=SX (b:=bas) (a:=n) (by decide) hx ai hr (show k<E.length by omega) hv;have au:(aY bas r).length<=1048570:=Xam (cR (by decide) (Nat.le_of_lt hr)) ak;have am:x+bas*r<n*bas:=by have:bas*(r+1)<=bas*n:=Nat.mul_le_mul_left _ hr;rw[Nat.mul_add]at this;rw[Nat.mul_comm n bas];omega
  have J:(E.set k ((x+bas*r)/n)).take k=List.replicate k 0:=by
   rw[List.take_set_of_le (by omega)];have h1:(E.take (k+1)).take k=(List.replicate (k+1) 0).take k:=by rw[hz]
   rw[List.take_take,Xcr (by omega)]at h1;rw[h1];simp
  have ae:ofL bas (x::aY bas r)=x+bas*r:=by rw[ofL,cU (by decide)]
  have ah:Lim bas (x::aY bas r):=fun y hy=>by
   rcases Xbg.1 hy with rfl|hy
   ·exact ai
   ·exact cP (by decide) r y hy
  have aq:(aY bas (x+bas*r)).length<=1048575:=by refine Xam (iO (b:=bas) (k:=(aY bas r).length+1) (by decide) ?_) (by omega);have h1:=kP (b:=bas) (by decide) ah;rw[ae]at h1;simpa using h1
  generalize ar:x+bas*r=R at *;have ab:R-n*(R/n)=R%n:=by have:=Nat.mod_add_div R n;omega
  have av:(aY bas (n*(R/n))).length<=1048576:=Xam (cR (by decide) (Nat.mul_div_le R n)) (by omega);simp only[go_sem,h0,O,aD hx,b1];refine aL fun i hi=>?_
  simp only[go_sem,h7];have ag:=eY (r':=⟨3,1,[[int (x:Int)]]⟩) Rj hi;refine aZ (aB _ _ _) ⟨rfl,rfl⟩ (avN _) (by simp;omega) (fun i2 af=>?_);have ap:=dK ag (bE Rj hi).symm af (r':=⟨3,1,[[int (x:Int)]]++(aY bas r).map gB⟩);have aj:j≠i2:=bE ag af;simp only[go_sem,];refine PC.useF [i2] (.cons _ _ _ _ (.row _ _ _ (by simp only[Xaw,if_true];exact aB _ _ _) (ConvE.refl _)) .nil) (M7 ah (by simp;omega) ae) ?_;generalize ao:(fun k=>if k∈[i2]then none else _)=HN;have I:HN j=some (bY E):=by rw[<-ao];simp only[Xaw,if_neg aj];exact ap
  simp only[go_sem,h1,];refine aG (E1 R n (by omega) (by omega)) ?_;simp only[go_sem,];refine aA (fun hc=>?_) (fun hc=>?_)
  ·have Y : R < n := by
    rcases Nat.lt_trichotomy R n with h|h|h
    ·exact h
    ·rw[qS (by omega)]at hc;cases hc
    ·rw[jF (by omega)]at hc;cases hc
   simp only[go_sem,h0,h1,U,O,vH (show k<=4611686018427387904 by omega)];have F:E.set k (R/n)=E:=by rw[Nat.div_eq_of_lt Y];obtain⟨h1,h2⟩:=List.getElem?_eq_some_iff.1 X;rw[<-h2];exact List.set_getElem_self h1
   rw[F,Xbl Y]at hV;rw[F]at J;exact⟨⟨k,R,E,by omega,rfl,rfl,I,hq,V,Y,hV,J⟩,by omega⟩
  simp only[go_sem,];refine aA (fun ac=>?_) (fun ac=>?_)
  ·have aa : R = n := by have:=Fw.1 (by simpa using ac);omega
   simp only[go_sem,U,O,I,show(bY E).es.length=E.length from Xab _,b2];refine⟨rfl,dS so3 I (by simp only[bY,Xab];exact⟨by simpa using b2.2,rfl,Xaf 1⟩) ?_⟩;simp only[go_sem,h0,h1,U,O,vH (show k<=4611686018427387904 by omega)];have F:R/n=1:=by rw[aa];exact Nat.div_self hn
   have al:R%n=0:=by rw[aa];exact Nat.mod_self n
   rw[F,al]at hV;rw[F]at J;refine⟨⟨k,0,E.set k 1,by omega,OB.symm,rfl,?_,hq.set (by decide),by simp[V],hn,hV,J⟩,by omega⟩;exact congrArg some (CL (q:=1) X)
  simp only[go_sem,h1,U,O];refine aG (Hy R n (by omega) hn (by omega) am) ?_;simp only[go_sem,I,show(bY E).es.length=E.length from Xab _,b2];refine⟨rfl,dS so3 I (by simp only[bY,Xab];exact⟨by simpa using b2.2,rfl,Xaf 1⟩) ?_⟩;generalize hP:aM HN j _=HP;have Z:HP j=some (bY (E.set k (R/n))):=by rw[<-hP,aB];exact congrArg some (CL (q:=R/n) X)
  have hg:(E.set k (R/n))[k]?=some (R/n):=List.getElem?_set_self (by omega);simp only[go_sem,h1,U,O,Z];have an:(bY (E.set k (R/n))).es.getD k []=gB (R/n):=aD hg;have b3:0<=(k:Int)/\(k:Int)<((bY (E.set k (R/n))).es.length:Nat):=by simp only[bY,Xab,List.length_set];exact b2
  simp only[go_sem,an,b3];refine⟨rfl,⟨by omega,Nat.zero_lt_one⟩,?_⟩;refine aG (WO n (R/n) (by omega) hQ) ?_;simp only[go_sem,];refine aG (Ho R (n*(R/n)) (by omega) (Nat.mul_div_le R n)) ?_;simp only[go_sem,h0,h1,U,O,vH (show k<=4611686018427387904 by omega),ab];exact⟨⟨k,R%n,E.set k (R/n),by omega,rfl,rfl,Z,hq.set hQ,by simp[V],hR,hV,J⟩,by omega⟩
 ·have ad:k=0:=by simp at hb;omega
  subst ad;simp only[go_sem,U,];obtain⟨e1,e2⟩:=amJ hr hv;rw[Xbw,Xbw,om]at e1;rw[Xbw,om]at e2;refine PC.useF [j] (.cons _ _ _ _ (.row _ _ _ (by simp only[Xaw,if_true];exact Rj) (ConvE.refl _)) .nil) (M7 hq (by omega) e1) ?_;simp only[go_sem,h7,e2];exact .refl _
end Go.Proofs.YtpagaknmdfgfkaaGreatDoor.Nu
end
section
namespace Go.Proofs
open Go.Shelf
def Tryz.lays169_ren:Go.Shelf.Ren:=⟨fun|169=>237|n=>n,fun|70=>271|9=>9|0=>0|72=>273|37=>167|127=>304|3=>3|5=>5|n=>n,fun|n=>n⟩
theorem Tryz.lays169:Go.Proofs.Lays.n169 Tryz.prog Tryz.lays169_ren:={
 mixed:=by kernel_rfl
 f169:=Tryz.func237.trans (congrArg some (by kernel_rfl))
 t0:=Tryz.underlying0
 a0:=Tryz.isAgg0
 z0:=Tryz.sizeOf0
 v0:=Tryz.zeroValue0
 t3:=Tryz.underlying3
 a3:=Tryz.isAgg3
 z3:=Tryz.sizeOf3
 v3:=Tryz.zeroValue3
 t9:=Tryz.underlying9
 a9:=Tryz.isAgg9
 z9:=Tryz.sizeOf9
 v9:=Tryz.zeroValue9
 t37:=Tryz.underlying167
 a37:=Tryz.isAgg167
 z37:=Tryz.sizeOf167
 v37:=Tryz.zeroValue167
 t70:=Tryz.underlying271
 a70:=Tryz.isAgg271
 z70:=Tryz.sizeOf271
 v70:=Tryz.zeroValue271
 t72:=Tryz.underlying273
 a72:=Tryz.isAgg273
 z72:=Tryz.sizeOf273
 v72:=Tryz.zeroValue273
 t127:=Tryz.underlying304
 a127:=Tryz.isAgg304
 z127:=Tryz.sizeOf304
 v127:=Tryz.zeroValue304 }
theorem Tryz.Builder_Extra_169:Builder.Extra Tryz.prog Tryz.lays169_ren:={
 sizeBuilder:=by kernel_rfl
 liesBuilder:=by kernel_rfl
 t5:=Tryz.underlying5
 a5:=Tryz.isAgg5
 z5:=Tryz.sizeOf5
 v5:=Tryz.zeroValue5
 infoByte:=by kernel_rfl
 cellsByte:=by kernel_rfl
 sizeByte:=by kernel_rfl
 neB5:=by decide }
open Go.RowKit in
theorem Tryz.Builder_String_any (B b:Nat) (l:List UInt8) (w:World) (h:Lib.IsBuilder 273 5 B b (Lib.byteCells l) w) (hBw:B<=w.heap.size):
    Calls Tryz.prog 237 #[.pointer (some ⟨b,0,none⟩)] w fun e w'=>e=.returned (.string ⟨l.toArray⟩)/\Below B w w':=Any.Builder_String_any Tryz.lays169 Tryz.Builder_Extra_169 B b l w h hBw
def Tryz.lays106_ren:Go.Shelf.Ren:=⟨fun|106=>199|213=>239|265=>280|n=>n,fun|9=>9|3=>3|n=>n,fun|n=>n⟩
theorem Tryz.lays106:Go.Proofs.Lays.n106 Tryz.prog Tryz.lays106_ren:={
 mixed:=by kernel_rfl
 f106:=Tryz.func199.trans (congrArg some (by kernel_rfl))
 f213:=Tryz.func239.trans (congrArg some (by kernel_rfl))
 f265:=Tryz.func280.trans (congrArg some (by kernel_rfl))
 t3:=Tryz.underlying3
 a3:=Tryz.isAgg3
 z3:=Tryz.sizeOf3
 v3:=Tryz.zeroValue3
 t9:=Tryz.underlying9
 a9:=Tryz.isAgg9
 z9:=Tryz.sizeOf9
 v9:=Tryz.zeroValue9 }
open Go.RowKit in
theorem Tryz.strings_Compare (a b:ByteArray) (w:World):
    Calls Tryz.prog 199 #[.string a,.string b] w fun e w'=>e=.returned (.int .i64 (Lib.compareBytes a.data.toList b.data.toList))/\w'=w:=Any.strings_Compare Tryz.lays106 a b w
def Tryz.lays103_ren:Go.Shelf.Ren:=⟨fun|103=>168|210=>223|206=>222|n=>n,fun|9=>9|4=>4|24=>213|3=>3|n=>n,fun|n=>n⟩
theorem Tryz.lays103:Go.Proofs.Lays.n103 Tryz.prog Tryz.lays103_ren:={
 mixed:=by kernel_rfl
 f103:=Tryz.func168.trans (congrArg some (by kernel_rfl))
 f206:=Tryz.func222.trans (congrArg some (by kernel_rfl))
 f210:=Tryz.func223.trans (congrArg some (by kernel_rfl))
 t3:=Tryz.underlying3
 a3:=Tryz.isAgg3
 z3:=Tryz.sizeOf3
 v3:=Tryz.zeroValue3
 t4:=Tryz.underlying4
 a4:=Tryz.isAgg4
 z4:=Tryz.sizeOf4
 v4:=Tryz.zeroValue4
 t9:=Tryz.underlying9
 a9:=Tryz.isAgg9
 z9:=Tryz.sizeOf9
 v9:=Tryz.zeroValue9
 t24:=Tryz.underlying213
 a24:=Tryz.isAgg213
 z24:=Tryz.sizeOf213
 v24:=Tryz.zeroValue213 }
open Go.RowKit in
theorem Tryz.strings_CutPrefix (s p:ByteArray) (w:World):
    Calls Tryz.prog 168 #[.string s,.string p] w fun e w'=>e=.returned (.tuple #[.string ⟨(Lib.trimPrefix s.data.toList p.data.toList).toArray⟩,.bool (Lib.hasPrefix s.data.toList p.data.toList)])/\w'=w:=Any.strings_CutPrefix Tryz.lays103 s p w
def Tryz.laysM171_ren:Go.Shelf.Ren:=⟨fun|171=>194|243=>234|246=>273|283=>316|284=>317|285=>318|286=>319|129=>351|317=>350|318=>352|319=>353|320=>354|337=>374|338=>375|n=>n,fun|3=>3|9=>9|2=>2|4=>4|171=>340|0=>0|53=>341|37=>167|5=>5|173=>344|212=>364|51=>308|20=>20|213=>365|46=>206|232=>386|233=>387|n=>n,fun|17=>1|18=>2|19=>3|n=>n⟩
theorem Tryz.laysM171:Go.Proofs.LaysM.n171 Tryz.prog Tryz.laysM171_ren:={
 mixed:=by kernel_rfl
 f129:=Tryz.func351.trans (congrArg some (by kernel_rfl))
 f171:=Tryz.func194.trans (congrArg some (by kernel_rfl))
 f243:=Tryz.func234.trans (congrArg some (by kernel_rfl))
 f246:=Tryz.func273.trans (congrArg some (by kernel_rfl))
 f283:=Tryz.func316.trans (congrArg some (by kernel_rfl))
 f284:=Tryz.func317.trans (congrArg some (by kernel_rfl))
 f285:=Tryz.func318.trans (congrArg some (by kernel_rfl))
 f286:=Tryz.func319.trans (congrArg some (by kernel_rfl))
 f317:=Tryz.func350.trans (congrArg some (by kernel_rfl))
 f318:=Tryz.func352.trans (congrArg some (by kernel_rfl))
 f319:=Tryz.func353.trans (congrArg some (by kernel_rfl))
 f320:=Tryz.func354.trans (congrArg some (by kernel_rfl))
 f337:=Tryz.func374.trans (congrArg some (by kernel_rfl))
 f338:=Tryz.func375.trans (congrArg some (by kernel_rfl))
 t0:=Tryz.underlying0
 a0:=Tryz.isAgg0
 z0:=Tryz.sizeOf0
 v0:=Tryz.zeroValue0
 t2:=Tryz.underlying2
 a2:=Tryz.isAgg2
 z2:=Tryz.sizeOf2
 v2:=Tryz.zeroValue2
 t3:=Tryz.underlying3
 a3:=Tryz.isAgg3
 z3:=Tryz.sizeOf3
 v3:=Tryz.zeroValue3
 t4:=Tryz.underlying4
 a4:=Tryz.isAgg4
 z4:=Tryz.sizeOf4
 v4:=Tryz.zeroValue4
 t5:=Tryz.underlying5
 a5:=Tryz.isAgg5
 z5:=Tryz.sizeOf5
 v5:=Tryz.zeroValue5
 t9:=Tryz.underlying9
 a9:=Tryz.isAgg9
 z9:=Tryz.sizeOf9
 v9:=Tryz.zeroValue9
 t20:=Tryz.underlying20
 a20:=Tryz.isAgg20
 z20:=Tryz.sizeOf20
 v20:=Tryz.zeroValue20
 t37:=Tryz.underlying167
 a37:=Tryz.isAgg167
 z37:=Tryz.sizeOf167
 v37:=Tryz.zeroValue167
 t46:=Tryz.underlying206
 a46:=Tryz.isAgg206
 z46:=Tryz.sizeOf206
 v46:=Tryz.zeroValue206
 t51:=Tryz.underlying308
 a51:=Tryz.isAgg308
 z51:=Tryz.sizeOf308
 v51:=Tryz.zeroValue308
 t53:=Tryz.underlying341
 a53:=Tryz.isAgg341
 z53:=Tryz.sizeOf341
 v53:=Tryz.zeroValue341
 t171:=Tryz.underlying340
 a171:=Tryz.isAgg340
 z171:=Tryz.sizeOf340
 v171:=Tryz.zeroValue340
 t173:=Tryz.underlying344
 a173:=Tryz.isAgg344
 z173:=Tryz.sizeOf344
 v173:=Tryz.zeroValue344
 t212:=Tryz.underlying364
 a212:=Tryz.isAgg364
 z212:=Tryz.sizeOf364
 v212:=Tryz.zeroValue364
 t213:=Tryz.underlying365
 a213:=Tryz.isAgg365
 z213:=Tryz.sizeOf365
 t232:=Tryz.underlying386
 a232:=Tryz.isAgg386
 z232:=Tryz.sizeOf386
 v232:=Tryz.zeroValue386
 t233:=Tryz.underlying387
 a233:=Tryz.isAgg387
 z233:=Tryz.sizeOf387
 v233:=Tryz.zeroValue387
 g17:=by kernel_rfl
 g18:=by kernel_rfl
 g19:=by kernel_rfl
 i0:=by kernel_rfl
 i2:=by kernel_rfl
 i3:=by kernel_rfl
 i4:=by kernel_rfl
 i5:=by kernel_rfl
 i9:=by kernel_rfl
 i20:=by kernel_rfl
 i37:=by kernel_rfl
 i46:=by kernel_rfl
 i51:=by kernel_rfl
 i53:=by kernel_rfl
 i171:=by kernel_rfl
 i173:=by kernel_rfl
 i212:=by kernel_rfl
 i232:=by kernel_rfl
 i233:=by kernel_rfl
 m17:=by kernel_rfl
 m18:=by kernel_rfl
 m19:=by kernel_rfl }
open Go.RowKit Go.Sort Go.Lib in
theorem Tryz.strconv_Itoa (n:Int) (h0: -9223372036854775808<=n) (h1:n<=9223372036854775807) (w:World) (htab:Lib.TabIs Tryz.prog w "internal/strconv.uint64pow10" .u64 Lib.pow10Tab):
    Calls Tryz.prog 194 #[.int .i64 n] w fun e w'=>e=.returned (.string ⟨(Lib.itoa n).toArray⟩)/\∃k os,w'=grow (w.drewN k) os:=Any.strconv_Itoa Tryz.laysM171 n h0 h1 w htab
def Tryz.lays219_ren:Go.Shelf.Ren:=⟨fun|219=>217|217=>254|225=>255|224=>256|267=>257|266=>292|314=>293|n=>n,fun|9=>9|3=>3|4=>4|5=>5|46=>206|146=>309|51=>308|n=>n,fun|1=>0|n=>n⟩
theorem Tryz.lays219:Go.Proofs.Lays.n219 Tryz.prog Tryz.lays219_ren:={
 mixed:=by kernel_rfl
 f217:=Tryz.func254.trans (congrArg some (by kernel_rfl))
 f219:=Tryz.func217.trans (congrArg some (by kernel_rfl))
 f224:=Tryz.func256.trans (congrArg some (by kernel_rfl))
 f225:=Tryz.func255.trans (congrArg some (by kernel_rfl))
 f266:=Tryz.func292.trans (congrArg some (by kernel_rfl))
 f267:=Tryz.func257.trans (congrArg some (by kernel_rfl))
 f314:=Tryz.func293.trans (congrArg some (by kernel_rfl))
 t3:=Tryz.underlying3
 a3:=Tryz.isAgg3
 z3:=Tryz.sizeOf3
 v3:=Tryz.zeroValue3
 t4:=Tryz.underlying4
 a4:=Tryz.isAgg4
 z4:=Tryz.sizeOf4
 v4:=Tryz.zeroValue4
 t5:=Tryz.underlying5
 a5:=Tryz.isAgg5
 z5:=Tryz.sizeOf5
 v5:=Tryz.zeroValue5
 t9:=Tryz.underlying9
 a9:=Tryz.isAgg9
 z9:=Tryz.sizeOf9
 v9:=Tryz.zeroValue9
 t46:=Tryz.underlying206
 a46:=Tryz.isAgg206
 z46:=Tryz.sizeOf206
 v46:=Tryz.zeroValue206
 t51:=Tryz.underlying308
 a51:=Tryz.isAgg308
 z51:=Tryz.sizeOf308
 v51:=Tryz.zeroValue308
 t146:=Tryz.underlying309
 a146:=Tryz.isAgg309
 z146:=Tryz.sizeOf309
 v146:=Tryz.zeroValue309
 g1:=by kernel_rfl }
open Go.RowKit Go.Lib in
theorem Tryz.stringslite_Index_one (s:ByteArray) (c:UInt8) (w:World):
    Calls Tryz.prog 217 #[.string s,.string ⟨#[c]⟩] w fun e w'=>e=.returned (.int .i64 (Lib.indexByte s.data.toList c))/\w'=w:=Any.stringslite_Index_one Tryz.lays219 s c w
def Tryz.lays144_ren:Go.Shelf.Ren:=⟨fun|144=>96|143=>162|219=>217|217=>254|225=>255|224=>256|267=>257|266=>292|314=>293|n=>n,fun|9=>9|4=>4|3=>3|5=>5|46=>206|146=>309|51=>308|n=>n,fun|1=>0|n=>n⟩
theorem Tryz.lays144:Go.Proofs.Lays.n144 Tryz.prog Tryz.lays144_ren:={
 mixed:=by kernel_rfl
 f143:=Tryz.func162.trans (congrArg some (by kernel_rfl))
 f144:=Tryz.func96.trans (congrArg some (by kernel_rfl))
 f217:=Tryz.func254.trans (congrArg some (by kernel_rfl))
 f219:=Tryz.func217.trans (congrArg some (by kernel_rfl))
 f224:=Tryz.func256.trans (congrArg some (by kernel_rfl))
 f225:=Tryz.func255.trans (congrArg some (by kernel_rfl))
 f266:=Tryz.func292.trans (congrArg some (by kernel_rfl))
 f267:=Tryz.func257.trans (congrArg some (by kernel_rfl))
 f314:=Tryz.func293.trans (congrArg some (by kernel_rfl))
 t3:=Tryz.underlying3
 a3:=Tryz.isAgg3
 z3:=Tryz.sizeOf3
 v3:=Tryz.zeroValue3
 t4:=Tryz.underlying4
 a4:=Tryz.isAgg4
 z4:=Tryz.sizeOf4
 v4:=Tryz.zeroValue4
 t5:=Tryz.underlying5
 a5:=Tryz.isAgg5
 z5:=Tryz.sizeOf5
 v5:=Tryz.zeroValue5
 t9:=Tryz.underlying9
 a9:=Tryz.isAgg9
 z9:=Tryz.sizeOf9
 v9:=Tryz.zeroValue9
 t46:=Tryz.underlying206
 a46:=Tryz.isAgg206
 z46:=Tryz.sizeOf206
 v46:=Tryz.zeroValue206
 t51:=Tryz.underlying308
 a51:=Tryz.isAgg308
 z51:=Tryz.sizeOf308
 v51:=Tryz.zeroValue308
 t146:=Tryz.underlying309
 a146:=Tryz.isAgg309
 z146:=Tryz.sizeOf309
 v146:=Tryz.zeroValue309
 g1:=by kernel_rfl }
open Go.RowKit Go.Lib in
theorem Tryz.strings_Contains_one (s:ByteArray) (c:UInt8) (w:World):
    Calls Tryz.prog 96 #[.string s,.string ⟨#[c]⟩] w fun e w'=>e=.returned (.bool (decide (0<=Lib.indexByte s.data.toList c)))/\w'=w:=Any.strings_Contains_one Tryz.lays144 s c w
def Tryz.lays101_ren:Go.Shelf.Ren:=⟨fun|101=>99|208=>166|206=>222|n=>n,fun|9=>9|4=>4|3=>3|n=>n,fun|n=>n⟩
theorem Tryz.lays101:Go.Proofs.Lays.n101 Tryz.prog Tryz.lays101_ren:={
 mixed:=by kernel_rfl
 f101:=Tryz.func99.trans (congrArg some (by kernel_rfl))
 f206:=Tryz.func222.trans (congrArg some (by kernel_rfl))
 f208:=Tryz.func166.trans (congrArg some (by kernel_rfl))
 t3:=Tryz.underlying3
 a3:=Tryz.isAgg3
 z3:=Tryz.sizeOf3
 v3:=Tryz.zeroValue3
 t4:=Tryz.underlying4
 a4:=Tryz.isAgg4
 z4:=Tryz.sizeOf4
 v4:=Tryz.zeroValue4
 t9:=Tryz.underlying9
 a9:=Tryz.isAgg9
 z9:=Tryz.sizeOf9
 v9:=Tryz.zeroValue9 }
open Go.RowKit Go.Lib in
theorem Tryz.strings_TrimPrefix (s p:ByteArray) (w:World):
    Calls Tryz.prog 99 #[.string s,.string p] w fun e w'=>e=.returned (.string ⟨(Lib.trimPrefix s.data.toList p.data.toList).toArray⟩)/\w'=w:=Any.strings_TrimPrefix Tryz.lays101 s p w
def Tryz.lays105_ren:Go.Shelf.Ren:=⟨fun|105=>236|212=>275|99=>276|165=>277|166=>235|170=>278|169=>237|263=>321|264=>322|206=>222|240=>274|241=>323|276=>320|277=>355|n=>n,fun|9=>9|3=>3|4=>4|20=>20|0=>0|46=>206|109=>300|5=>5|72=>273|76=>276|51=>308|146=>309|53=>341|148=>349|70=>271|37=>167|75=>275|127=>304|164=>346|80=>195|n=>n,fun|n=>n⟩
theorem Tryz.lays105:Go.Proofs.Lays.n105 Tryz.prog Tryz.lays105_ren:={
 mixed:=by kernel_rfl
 f99:=Tryz.func276.trans (congrArg some (by kernel_rfl))
 f105:=Tryz.func236.trans (congrArg some (by kernel_rfl))
 f165:=Tryz.func277.trans (congrArg some (by kernel_rfl))
 f166:=Tryz.func235.trans (congrArg some (by kernel_rfl))
 f169:=Tryz.func237.trans (congrArg some (by kernel_rfl))
 f170:=Tryz.func278.trans (congrArg some (by kernel_rfl))
 f206:=Tryz.func222.trans (congrArg some (by kernel_rfl))
 f212:=Tryz.func275.trans (congrArg some (by kernel_rfl))
 f240:=Tryz.func274.trans (congrArg some (by kernel_rfl))
 f241:=Tryz.func323.trans (congrArg some (by kernel_rfl))
 f263:=Tryz.func321.trans (congrArg some (by kernel_rfl))
 f264:=Tryz.func322.trans (congrArg some (by kernel_rfl))
 f276:=Tryz.func320.trans (congrArg some (by kernel_rfl))
 f277:=Tryz.func355.trans (congrArg some (by kernel_rfl))
 t0:=Tryz.underlying0
 a0:=Tryz.isAgg0
 z0:=Tryz.sizeOf0
 v0:=Tryz.zeroValue0
 t3:=Tryz.underlying3
 a3:=Tryz.isAgg3
 z3:=Tryz.sizeOf3
 v3:=Tryz.zeroValue3
 t4:=Tryz.underlying4
 a4:=Tryz.isAgg4
 z4:=Tryz.sizeOf4
 v4:=Tryz.zeroValue4
 t5:=Tryz.underlying5
 a5:=Tryz.isAgg5
 z5:=Tryz.sizeOf5
 v5:=Tryz.zeroValue5
 t9:=Tryz.underlying9
 a9:=Tryz.isAgg9
 z9:=Tryz.sizeOf9
 v9:=Tryz.zeroValue9
 t20:=Tryz.underlying20
 a20:=Tryz.isAgg20
 z20:=Tryz.sizeOf20
 v20:=Tryz.zeroValue20
 t37:=Tryz.underlying167
 a37:=Tryz.isAgg167
 z37:=Tryz.sizeOf167
 v37:=Tryz.zeroValue167
 t46:=Tryz.underlying206
 a46:=Tryz.isAgg206
 z46:=Tryz.sizeOf206
 v46:=Tryz.zeroValue206
 t51:=Tryz.underlying308
 a51:=Tryz.isAgg308
 z51:=Tryz.sizeOf308
 v51:=Tryz.zeroValue308
 t53:=Tryz.underlying341
 a53:=Tryz.isAgg341
 z53:=Tryz.sizeOf341
 v53:=Tryz.zeroValue341
 t70:=Tryz.underlying271
 a70:=Tryz.isAgg271
 z70:=Tryz.sizeOf271
 v70:=Tryz.zeroValue271
 t72:=Tryz.underlying273
 a72:=Tryz.isAgg273
 z72:=Tryz.sizeOf273
 v72:=Tryz.zeroValue273
 t75:=Tryz.underlying275
 a75:=Tryz.isAgg275
 z75:=Tryz.sizeOf275
 v75:=Tryz.zeroValue275
 t76:=Tryz.underlying276
 a76:=Tryz.isAgg276
 z76:=Tryz.sizeOf276
 v76:=Tryz.zeroValue276
 t109:=Tryz.underlying300
 a109:=Tryz.isAgg300
 z109:=Tryz.sizeOf300
 v109:=Tryz.zeroValue300
 t127:=Tryz.underlying304
 a127:=Tryz.isAgg304
 z127:=Tryz.sizeOf304
 v127:=Tryz.zeroValue304
 t146:=Tryz.underlying309
 a146:=Tryz.isAgg309
 z146:=Tryz.sizeOf309
 v146:=Tryz.zeroValue309
 t148:=Tryz.underlying349
 a148:=Tryz.isAgg349
 z148:=Tryz.sizeOf349
 v148:=Tryz.zeroValue349
 t164:=Tryz.underlying346
 a164:=Tryz.isAgg346
 z164:=Tryz.sizeOf346
 v164:=Tryz.zeroValue346 }
theorem Tryz.Builder_Extra_105:Builder.Extra Tryz.prog Tryz.lays105_ren:={
 sizeBuilder:=by kernel_rfl
 liesBuilder:=by kernel_rfl
 t5:=Tryz.underlying5
 a5:=Tryz.isAgg5
 z5:=Tryz.sizeOf5
 v5:=Tryz.zeroValue5
 infoByte:=by kernel_rfl
 cellsByte:=by kernel_rfl
 sizeByte:=by kernel_rfl
 neB5:=by decide }
open Go.RowKit Go.Lib in
theorem Tryz.strings_Repeat (s:ByteArray) (c:Nat) (w:World) (hc:c<=9223372036854775807) (hlen:s.size*c<=140737488355328):
    Calls Tryz.prog 236 #[.string s,.int .i64 c] w fun e w'=>e=.returned (.string ⟨(Lib.repeatL s.data.toList c).toArray⟩)/\Below w.heap.size w w':=Any.strings_Repeat Tryz.lays105 Tryz.Builder_Extra_105 s c w hc hlen
end Go.Proofs
end
namespace Go.Proofs.YtpagaknmdfgfkaaGreatDoor
open Go.Aw Go.Aw.D Go.Proofs Ty
namespace Nu
open Go.Proofs.Tryz
open Go.Nu Go.RowKit Go.Sort
def yD{T e:TypeId}{B b:Nat}{bs:List Value}{w w':World}(h:Lib.IsBuilder T e B b bs w)(J:Below w.heap.size w w'):Lib.IsBuilder T e B b bs w':=by
 have E:∀p,Lib.BuilderAt T e B b p bs w->Lib.BuilderAt T e B b p bs w':=by
  rintro p ⟨h1,v,F,O,Y⟩;refine⟨h1,v,?_,⟨O.1,?_⟩,Y⟩
  ·rw[J.block b (Array.getElem?_eq_some_iff.1 F).1];exact F
  ·rcases O.2 with Z|⟨g,cap,cur,U,V,I,X⟩
   ·exact .inl Z
   ·exact .inr ⟨g,cap,cur,U,V,by rw[J.block g (Array.getElem?_eq_some_iff.1 I).1];exact I,X⟩
 exact h.imp (E _) (E _)
def pZ{w:World}(k:Nat)(os:Array Obj):Below w.heap.size w (grow (w.drewN k) os):=by
 refine⟨rfl,rfl,rfl,?_,fun i hi=>?_⟩
 ·simp[grow]
 ·simp only[grow,World.heap_drewN];rw[Array.getElem?_append_left hi]
def OS{T e:TypeId}{B b:Nat}{l:List UInt8}{s:ByteArray}{w:World}(h:Lib.BuilderAt T e B b (.pointer (some ⟨b,0,none⟩)) (Lib.byteCells l++Lib.strCells s) w):Lib.IsBuilder T e B b (Lib.byteCells (l++bl s)) w:=by rw[Lib.strCells_eq,<-Lib.byteCells_append]at h;exact .inr h
def yB(B b:Nat)(l:List UInt8)(s:ByteArray)(w:World)(h:Lib.IsBuilder 273 5 B b (Lib.byteCells l) w)(E:l.length+s.size<=140737488355328)(F:B<=w.heap.size):
  Calls prog 235 #[.pointer (some ⟨b,0,none⟩),.string s] w fun e w'=>e=.returned (.tuple #[.int .i64 s.size,.nilIface])/\Lib.IsBuilder 273 5 B b (Lib.byteCells (l++bl s)) w'/\Below B w w':=
 (Any.Builder_WriteString (P:=prog) (ρ:=Tryz.lays105_ren) { Tryz.lays105 with } Tryz.Builder_Extra_105 B b (Lib.byteCells l) s w h (by rw[Lib.byteCells_length];exact E) F).mono fun e w' ⟨O,J,I⟩=>⟨O,OS J,I⟩
def anW{l:List Nat}(h:Lim bas l)(K:Nat)(E:l.length<=K)(h1:1<=K):(Lib.decDigits (ofL bas l)).length<=9*K:=by refine(lE (by omega)).2 (Xbs (kP (by decide) h) ?_);rw[show bas=10^9 from rfl,<-Nat.pow_mul];exact Xau (by omega) (by omega)
def Kr(n k:Nat):List UInt8:=Lib.decDigits (ofL bas ((aY bas n).drop k))
def Z1{n k x:Nat}(F:k+1<(aY bas n).length)(E:(aY bas n)[k]?=some x):Kr n k=Kr n (k+1)++awJ x:=by have h1:=cP (b:=bas) (by decide) n x (Xac E);unfold Kr;rw[Bh bas E];exact ajI h1 (afR (by decide) F)
set_option maxHeartbeats 1600000 in
theorem Q2 (n:Nat) (w:World) (b o c:Nat) (aa:(aY bas n).length<=1048576) (ac:0<(aY bas n).length)
    (hz:∀(i x:Nat),(aY bas n)[i]?=some x->w.cell? ⟨b,o+i,none⟩=some (.int .i64 x)) (hb:b<w.heap.size)
    (J:Lib.TabIs prog w "internal/strconv.uint64pow10" .u64 Lib.pow10Tab):
    Calls prog 195 #[.slice (some ⟨b,o,none⟩) (aY bas n).length c] w fun e w'=>e=.returned (.string (dec n))/\Below w.heap.size w w':=by
  obtain⟨L,hL⟩:∃L,(aY bas n).length=L:=⟨_,rfl⟩
  have h0:Lib.IsBuilder 273 5 w.heap.size w.heap.size (Lib.byteCells []) (w.alloc (.cells #[.pointer none,.slice none 0 0] 273)):=Lib.fresh_isBuilder 273 5 w
  have b0:Below w.heap.size w (w.alloc (.cells #[.pointer none,.slice none 0 0] 273)):=(Below.refl _ w).alloc (Xaf _) _
  obtain⟨X,V⟩:=aK (show L-1<(aY bas n).length by omega)
  have am:=hz _ _ V
  have U:=cP (b:=bas) (by decide) n X (Xac V)
  have U:X<1000000000:=U
  rw[hL]
  rw[hL]at ac aa
  have an:((L:Int) == 0)=false:=by rw[beq_eq_false_iff_ne];omega
  go_enter func195,Tryz.ntmps195
  go_wp2_with (go_at_call 194;refine(Tryz.strconv_Itoa (X:Int) (by omega) (by omega) _ (Lib.tabIs_alloc J _)).mono ?_)
  rintro e W1 ⟨rfl,k,os,rfl⟩
  have b1:Below w.heap.size w (grow ((w.alloc (.cells #[.pointer none,.slice none 0 0] 273)).drewN k) os):=b0.trans ⟨rfl,rfl,rfl,(pZ k os).size,fun i hi=>(pZ k os).block i (Xbs hi b0.size)⟩
  have h1:=yD h0 (pZ k os)
  generalize grow _ os=W1 at *
  have hI:∀x:Nat,(Lib.itoa (x:Int))=Lib.decDigits x:=Lib.itoa_nonneg
  have ab:∀x:Nat,x<1000000000->(Lib.decDigits x).length<=9:=fun x Y=>(lE (k:=9) (by omega)).2 Y
  have ad:Kr n (L-1)=Lib.decDigits X:=by
    unfold Kr
    rw[Bh bas V,show L-1+1=L by omega,<-hL,Xcl]
    rfl
  have ak:(⟨(Lib.itoa (X:Int)).toArray⟩:ByteArray).size<=9:=by rw[<-cV,kC,hI];exact ab _ U
  have cW:=yB w.heap.size w.heap.size [] _ W1 h1 (by simp;omega:([]:List UInt8).length+(⟨(Lib.itoa (X:Int)).toArray⟩:ByteArray).size<=_) b1.size
  go_wp2_with (go_at_call 235;refine cW.mono ?_)
  rintro e W2 ⟨rfl,h2,b2⟩
  rw[Xcj,kC,hI,<-ad]at h2
  have b2:=b1.trans b2
  have af:∀k,(Kr n k).length<=9437184:=fun k=>by
    have:=anW ((cP (b:=bas) (by decide) n).drop k) 1048576 (by rw[Xbj,hL];omega) (by omega)
    unfold Kr
    omega
  go_wp2
  go_loopg [4] (L-1) (fun g s4 wx=>∃k:Nat,k<=L-1/\g=k/\s4=.int .i64 ((k:Int)-1)/\Lib.IsBuilder 273 5 w.heap.size w.heap.size (Lib.byteCells (Kr n k)) wx/\Below w.heap.size w wx)
  case atStart=>exact⟨L-1,Xaf _,rfl,by congr 1;omega,h2,b2⟩
  case round=>
    obtain⟨_,hk,rfl,rfl,hB,E⟩:=hrel
    cases gk with
    | zero=>
      have ag:Kr n 0=Lib.decDigits n:=by unfold Kr;rw[Xbw,cU (by decide)]
      rw[ag]at hB
      have cS:=Tryz.Builder_String_any w.heap.size w.heap.size (Lib.decDigits n) wr hB E.size
      go_wp2_with (go_at_call 237;refine cS.mono ?_)
      rintro e W3 ⟨rfl,F⟩
      go_wp2
      go_ret
      exact⟨rfl,E.trans F⟩
    | succ i=>
      obtain⟨x,Y⟩:=aK (show i<(aY bas n).length by omega)
      have hl:=(E.cell hb).trans (hz i x Y)
      have ah:x<1000000000:=cP (b:=bas) (by decide) n x (Xac Y)
      have ai:(((i+1:Nat):Int)-1)=(i:Int):=by omega
      have O:=Z1 (n:=n) (by omega) Y
      have aj:Lib.TabIs prog wr "internal/strconv.uint64pow10" .u64 Lib.pow10Tab:=Go.Joins.tab_stays (g:=1) (by kernel_rfl) J E (Xaf _)
      have al:=af (i+1)
      rw[ai]
      go_wp2_with (go_at_call 194;refine(Tryz.strconv_Itoa (x:Int) (by omega) (by omega) _ aj).mono ?_)
      rintro e W1 ⟨rfl,k,os,rfl⟩
      have b1:Below w.heap.size w (grow (wr.drewN k) os):=E.trans ⟨rfl,rfl,rfl,(pZ k os).size,fun i hi=>(pZ k os).block i (Xbs hi E.size)⟩
      have h1:=yD hB (pZ k os)
      generalize grow _ os=W1 at *
      have ae:=ab x ah
      rw[hI x]
      go_wp2_with (go_at_call 236;fail)
      have e9:(9:Int)-((Lib.decDigits x).length:Nat)=((9-(Lib.decDigits x).length:Nat):Int):=by omega
      rw[e9]
      refine(Tryz.strings_Repeat ⟨#[48]⟩ (9-(Lib.decDigits x).length) W1 (by omega) (by show 1*_<=_;omega)).mono ?_
      rintro e W3 ⟨rfl,F⟩
      have h3:=yD h1 F
      have F:Below w.heap.size w W3:=b1.trans ⟨F.os,F.tape,F.output,F.size,fun i hi=>F.block i (Xbs hi b1.size)⟩
      have I:bl ⟨(Lib.repeatL (⟨#[48]⟩:ByteArray).data.toList (9-(Lib.decDigits x).length)).toArray⟩=List.replicate (9-(Lib.decDigits x).length) 48:=by
        rw[kC]
        have:=Lib.repeatL_replicate 48 1 (9-(Lib.decDigits x).length)
        rwa [Nat.mul_one]at this
      generalize (⟨(Lib.repeatL (⟨#[48]⟩:ByteArray).data.toList (9-(Lib.decDigits x).length)).toArray⟩:ByteArray)=Z at *
      have hZ:Z.size<=9:=by rw[<-cV,I,Xct];omega
      have cW:=yB w.heap.size w.heap.size _ Z W3 h3 (by omega) F.size
      go_wp2_with (go_at_call 235;refine cW.mono ?_)
      rintro e W4 ⟨rfl,h4,b4⟩
      have b4:=F.trans b4
      have hX:(⟨(Lib.decDigits x).toArray⟩:ByteArray).size<=9:=by rw[<-cV,kC];exact ae
      have cW:=yB w.heap.size w.heap.size _ ⟨(Lib.decDigits x).toArray⟩ W4 h4 (by rw[Xae,cV];omega) b4.size
      go_wp2_with (go_at_call 235;refine cW.mono ?_)
      rintro e W5 ⟨rfl,h5,b5⟩
      have b5:=b4.trans b5
      rw[Xax,I,kC]at h5
      go_wp2
      go_roundg i
      case measure=>omega
      case rel=>exact⟨i,by omega,rfl,rfl,by rw[O];exact h5,b5⟩
def Td{S:Sg}{w:World}{b:Nat}:∀{l:List Nat} {o sz:Nat},0<sz->jE S w b sz o (l.map gB)->∀(i x:Nat),l[i]?=some x->w.cell? ⟨b,o+i,none⟩=some (.int .i64 x)
 | [],_,_,_,_,i,x,h=>by simp at h
 | y::l,o,sz,hp,h,i,x,hx=>by
  simp only[Xbf,jE]at h;obtain⟨h1,E,J⟩:=h;have h1:sz=1:=h1.symm;subst h1;cases i with
  | zero=>simp only[List.getElem?_cons_zero,Option.some.injEq]at hx;subst hx;simp only[gB,dP]at E;obtain⟨⟨u,I,_,F⟩,_⟩:=E;simp only[rep]at F;subst F;exact I
  | succ i=>
   have:=Td (by omega) J i x (by simpa using hx)
   rwa [Nat.add_assoc,Xcm 1 i]at this
def ajV{w:World}(h:∀t∈YJ,vG w t.1=some t.2):Lib.TabIs prog w "internal/strconv.uint64pow10" .u64 Lib.pow10Tab:=by have h1:=h (1,akF) (by simp[YJ]);unfold Lib.TabIs World.var?;rw[show prog.globalNamed "internal/strconv.uint64pow10" = some 1 by kernel_rfl];exact h1
def JG(n:Nat)(F:(aY bas n).length<=1048576):PC prog 195 [nl n] (str (dec n)):=by
 by_cases h0:n=0
 ·subst h0;rw[OB];refine pcd func195 rfl rfl ?_;simp only[go_sem];refine aA (fun h=>?_) (fun h=>by simp at h);simp only[go_sem];refine cS ?_;refine lD ?_;rw[iT,Lib.decDigits_one (by omega)];rfl
 ·intro S w vals O hf ha;simp only[bN,rep]at ha;obtain⟨y,t,rfl,⟨ad,m,c,rfl,e1,e2,e3,V⟩,rfl⟩:=ha;have U:aY bas n≠[]:=fun e=>h0 ((qD (by decide)).1 e)
  have I:=List.length_pos_iff.2 U;rw[Xab]at e1;rcases V with V|⟨b,o,sz,rfl,X,Z,J⟩
  ·simp only[List.map_eq_nil_iff]at V;exact absurd V U
  ·subst e1;refine(Q2 n w b o c F I (Td Z J) (O.fz_lt b (O.ro_fz b X)) (ajV fun t ht=>(O.tabs t ht).2)).mono fun e w' ⟨he,E⟩=>?_
   exact⟨_,_,bQ,S,he,rfl,O.after E.size fun k Y=>E.block k Y,by simp only[rep],O.grow E.os E.tape E.output E.size fun k Y=>E.block k Y,gV.refl _ _⟩
def Er(n:Nat)(F:(aY bas n).length<=1048576):PC prog 165 [nl n] (.tup [str (szN n).1,int (szN n).2]):=by
 refine pcd func165 rfl rfl ?_;simp only[go_sem];refine aG (JG n F) ?_;simp only[go_sem];have E:=iX n;refine aA (fun h=>?_) (fun h=>?_)
 ·have h:4096<(dec n).size:=by simp at h;omega
  simp only[go_sem];rw[show szN n=(emp,4)from if_neg fun e=>by have:=E.2 e;omega];exact .refl _
 ·have h:(dec n).size<=4096:=by simp at h;omega
  simp only[go_sem];rw[AD (E.1 h)];exact .refl _
end Nu
namespace Nu
open Go.Proofs.Tryz
open Go.Nu
def VV{n K:Nat}(h:n<dA)(E:akS<=9*K):(aY bas n).length<=K:=by refine iO (b:=bas) (k:=K) (by decide) (Xbs h ?_);rw[show bas=10^9 from rfl,<-Nat.pow_mul];exact Xau (show 0<10 by omega) E
def mW{n:Nat}(h:n<dA):(aY bas n).length<=457:=VV h (by decide)
def agS{H:aH}{o l:List Nat}(h:l=o):ConvE H (bY o).es (l.map gB):=h▸ConvE.refl _
def Mb:∀l:List Nat,oS l=l.take (oS l).length
 | []=>rfl
 | x::l=>by
  have ih:=Mb l;rw[oS];split
  ·split <;> rfl
  ·rename_i y t e;rw[e]at ih;simp only[Xah,List.take_succ_cons]
   congr 1
def Zl{l:List Nat}(h:l.length<=(oS l).length):oS l=l:=by rw[Mb l,Xan h]
def aeC(a b:ByteArray)(ha:a.size<=1048576)(F:b.size<=1048576):PC prog 135 [str a,str b] (.tup [str (TH a b).1,int (TH a b).2]):=by
 refine pcb (fun t=>t == 9) func135 rfl rfl ?_;simp only[go_sem];refine aG (Qb a b ha F) ?_;simp only[go_sem];apply aA <;> intro h
 ·have h:kB a b≠0:=by simpa using h
  simp only[go_sem];rw[show TH a b=(emp,kB a b)from if_neg h];exact .refl _
 have h:kB a b=0:=by simpa using h
 obtain⟨m,n,rfl,rfl,hm,hn⟩:=sR h;have ag:=mW hm;have ae:=mW hn;simp only[go_sem,Jp h,cE];rw[show TH (dec m) (dec n)=szN (m+n)by unfold TH;rw[if_pos h,cE,cE]];have om:=cU (b:=bas) (by decide) m;have on:=cU (b:=bas) (by decide) n;have lm:=cP (b:=bas) (by decide) m;have ln:=cP (b:=bas) (by decide) n;have Y:(aY bas m).length<=(aY bas m).length:=Xaf _;have ab:(aY bas n).length<=(aY bas n).length:=Xaf _;obtain⟨x,hx⟩:∃x,aY bas m=x:=⟨_,rfl⟩;obtain⟨y,hy⟩:∃y,aY bas n=y:=⟨_,rfl⟩;have Y:x.length<=(aY bas m).length:=by rw[hx];exact Xaf _
 have ab:y.length<=(aY bas n).length:=by rw[hy];exact Xaf _
 rw[hx]at om lm ag;rw[hy]at on ln ae;simp only[hx,hy];refine aL fun j hj=>?_
 refine⟨fun ρ H=>∃(i j c:Nat) (o:List Nat),i<=max x.length y.length+1/\ρ 6=.sl (x.map gB)/\ρ 7=.sl (y.map gB)/\ρ 9=.os j/\ρ 10=int c/\ρ 11=int i/\H j=some (bY o)/\Lim bas o/\o.length=i/\c<=1/\ofL bas o+bas^i*c=ofL bas (x.take i)+ofL bas (y.take i)/\(i=max x.length y.length+1->c=0/\bas^max x.length y.length<=m+n),fun ρ _=>max x.length y.length+1-aR (ρ 11),
  ⟨0,j,0,[],Xaa _,rfl,rfl,rfl,by simp only[go_sem];rfl,by simp only[go_sem];rfl,Cy,by simp[Lim],rfl,by omega,by simp[ofL],by omega⟩,?_⟩
 rintro ρ H ⟨i,j,c,o,hi,h6,h7,h9,Z,J,Rj,ho,O,hc,hv,E⟩;have V:eV (x.length:Int) (y.length:Int)=((max x.length y.length:Nat):Int):=by unfold eV;split <;> omega
 simp only[go_sem,h6,h7,Z,J,V];apply aA <;> intro F
 ·have F:i<max x.length y.length\/0<c:=by simpa using F
  have ah:i<=max x.length y.length:=by
   rcases F with F|F
   ·omega
   ·rcases Xav (max x.length y.length) i with h|h
    ·have:=(E (by omega)).1;omega
    ·exact h
  have aj:x.getD i 0<1000000000:=lm.getD (by decide) i;have ai:y.getD i 0<1000000000:=ln.getD (by decide) i;have ac:=RK (b:=bas) (by decide) O hv;have U:i+1=max x.length y.length+1->(x.getD i 0+y.getD i 0+c)/bas=0/\bas^max x.length y.length<=m+n:=fun e=>by
   have e:i=max x.length y.length:=by omega
   have af:x.getD i 0=0:=by simp[List.getD,List.getElem?_eq_none (by omega:x.length<=i)]
   have ad:y.getD i 0=0:=by simp[List.getD,List.getElem?_eq_none (by omega:y.length<=i)]
   have aa:c=1:=by omega
   rw[af,ad,aa];refine⟨by decide,?_⟩;rw[Xan (by omega),Xan (by omega),om,on,aa,e]at hv;omega
  simp only[go_sem,h6,J];refine aG (Wc x i (by omega)) ?_;simp only[go_sem,h7,J];refine aG (Wc y i (by omega)) ?_;have e1:IntKind.i64.wrap (IntKind.i64.wrap (((x.getD i 0:Nat):Int)+((y.getD i 0:Nat):Int))+(c:Int))=((x.getD i 0+y.getD i 0+c:Nat):Int):=by rw[show IntKind.i64.wrap (((x.getD i 0:Nat):Int)+((y.getD i 0:Nat):Int))=((x.getD i 0:Nat):Int)+((y.getD i 0:Nat):Int)from aW (by omega),aW (by omega)];omega
  have e2:IntKind.i64.wrap ((((x.getD i 0+y.getD i 0+c:Nat):Int)).tdiv 1000000000)=(((x.getD i 0+y.getD i 0+c)/1000000000:Nat):Int):=by rw[Xbz (by omega),aW (by omega)];omega
  have e3:(((x.getD i 0+y.getD i 0+c:Nat):Int)).tmod 1000000000=(((x.getD i 0+y.getD i 0+c)%1000000000:Nat):Int):=by rw[Xck (by omega)];omega
  have hq:(x.getD i 0+y.getD i 0+c)/1000000000<=1:=by omega
  simp only[go_sem,h9,Z,e1,e3];refine⟨by decide,?_⟩;refine aZ Rj ⟨rfl,rfl⟩ ⟨rfl,trivial⟩ (by simp only[bY,Xab,Xah,List.length_nil];omega) (fun j' ak=>?_);simp only[go_sem,h6,h7,J,e2,aQ i];exact⟨by decide,⟨i+1,j',_,o++[(x.getD i 0+y.getD i 0+c)%bas],by omega,rfl,rfl,rfl,rI,ho.snoc (Xbx _ (by decide)),by simp[O],hq,ac,U⟩,by simp only[aN];omega⟩
 ·have F : max x.length y.length <= i /\ c = 0 := by simp at F;omega
  obtain⟨F,rfl⟩:=F;rw[Nat.mul_zero,Nat.add_zero,Xan (by omega),Xan (by omega),om,on]at hv;have ht:=NB (b:=bas) (by decide) ho hv;have X:o.length<=(aY bas (m+n)).length:=by
   rcases Xav (max x.length y.length) i with h|h
   ·have:=Ot (b:=bas) (by decide) (E (by omega)).2;omega
   ·rw[O,show i=max x.length y.length by omega];exact Nat.max_le.2 ⟨Xam Y (cR (by decide) (Nat.le_add_right m n)),Xam ab (cR (by decide) (Nat.le_add_left n m))⟩
  have I:aY bas (m+n)=o:=by rw[<-ht];refine Zl ?_;rw[ht] ;exact X
  simp only[go_sem,h9,];refine PC.useF [j] (.cons _ _ _ _ (.row _ _ _ (by simp only[Xaw,if_true];exact Rj) (agS I)) .nil) (Er (m+n) (by rw[I];omega)) ?_;simp only[go_sem];exact .refl _
def ahC(a b:ByteArray)(Z:a.size<=1048576)(V:b.size<=1048576):PC prog 136 [str a,str b] (.tup [str (Vn a b).1,int (Vn a b).2]):=by
 refine pcd func136 rfl rfl ?_;simp only[go_sem];refine aG (Qb a b Z V) ?_;simp only[go_sem];apply aA <;> intro h
 ·have h:kB a b≠0:=by simpa using h
  simp only[go_sem];rw[show Vn a b=(emp,kB a b)from if_neg h];exact .refl _
 have h:kB a b=0:=by simpa using h
 obtain⟨m,n,rfl,rfl,U,Y⟩:=sR h;have X:=mW U;have O:=mW Y;simp only[go_sem,Jp h,cE];have e:Vn (dec m) (dec n)=if m<n then(emp,2)else szN (m-n):=by unfold Vn;rw[if_pos h,cE,cE]
 rw[e];refine aG (E1 m n (by omega) (by omega)) ?_;simp only[go_sem];apply aA <;> intro E
 ·have F : m < n := by
   rcases Xav m n with J|J
   ·exact J
   ·exfalso;have E:=of_decide_eq_true E;unfold hU at E;rw[if_neg (by omega)]at E;split at E <;> omega
  simp only[go_sem];rw[if_pos F];exact .refl _
 ·have I:¬m<n:=fun J=>of_decide_eq_false E (by rw[jD (by omega)];decide)
  simp only[go_sem];rw[if_neg I];refine aG (Ho m n (by omega) (by omega)) ?_;simp only[go_sem];refine aG (Er (m-n) (by have:=cR (b:=bas) (by decide) (Nat.sub_le m n);omega)) ?_;simp only[go_sem];exact .refl _
def atS(a b:ByteArray)(V:a.size<=1048576)(J:b.size<=1048576):PC prog 134 [str a,str b] (.tup [str (ES a b).1,str (ES a b).2.1,int (ES a b).2.2]):=by
 refine pcd func134 rfl rfl ?_;simp only[go_sem];refine aG (Qb a b V J) ?_;simp only[go_sem];apply aA <;> intro h
 ·have h:kB a b≠0:=by simpa using h
  simp only[go_sem];rw[show ES a b=(emp,emp,kB a b)from if_neg h];exact .refl _
 have h:kB a b=0:=by simpa using h
 obtain⟨m,n,rfl,rfl,I,U⟩:=sR h;have O:=mW I;have F:=mW U;simp only[go_sem,Jp h,cE,Xab];have e:ES (dec m) (dec n)=if n=0 then(emp,emp,10)else(dec (m/n),dec (m%n),0):=by unfold ES;rw[if_pos h,cE,cE]
 rw[e];apply aA <;> intro E
 ·have h0:n=0:=(qD (b:=bas) (by decide)).1 (by simpa using E);simp only[go_sem];rw[if_pos h0];exact .refl _
 ·have h0:n≠0:=fun e=>by subst e;rw[dZ]at E;simp at E
  simp only[go_sem];rw[if_neg h0];refine aG (SQ m n (by omega) (by omega) (by omega)) ?_;simp only[go_sem];refine aG (JG (m/n) (by have:=cR (b:=bas) (by decide) (Xcq m n);omega)) ?_;simp only[go_sem];refine aG (JG (m%n) (by have:=cR (b:=bas) (by decide) (Nat.mod_le m n);omega)) ?_;simp only[go_sem];exact .refl _
def akT(a b:ByteArray)(Z:a.size<=1048576)(E:b.size<=1048576):PC prog 98 [str a,str b] (.tup [str (Ba a b).1,int (Ba a b).2]):=by
 refine pcd func98 rfl rfl ?_;simp only[go_sem];refine aG (Qb a b Z E) ?_;simp only[go_sem];apply aA <;> intro h
 ·have h:kB a b≠0:=by simpa using h
  simp only[go_sem];rw[show Ba a b=(emp,kB a b)from if_neg h];exact .refl _
 have h:kB a b=0:=by simpa using h
 obtain⟨m,n,rfl,rfl,hm,hn⟩:=sR h;have X:=mW hm;have U:=mW hn;simp only[go_sem,Jp h,cE];have e:Ba (dec m) (dec n)=szN (Nat.gcd m n):=by unfold Ba;rw[if_pos h,cE,cE]
 rw[e];refine⟨fun ρ _=>∃p q:Nat,ρ 6=nl p/\ρ 7=nl q/\(aY bas p).length<=457/\(aY bas q).length<=457/\Nat.gcd p q=Nat.gcd m n,fun ρ _=>match ρ 7 with| .sl es=>ofL bas (es.map fun c=>aR (c.getD 0 .any))|_=>0,⟨m,n,rfl,rfl,X,U,rfl⟩,?_⟩;rintro ρ H ⟨p,q,Y,O,aa,J,V⟩;have F:∀q:Nat,ofL bas (((aY bas q).map gB).map fun c=>aR (c.getD 0 .any))=q:=fun q=>by rw[List.map_map,show((fun c:List AV=>aR (c.getD 0 .any)) ∘ gB)=id from funext fun n=>by simp[gB,aR],List.map_id,cU (by decide)]
 simp only[go_sem,O,Xab];apply aA <;> intro E
 ·have I : 0 < q := by
   rcases Xcu q with h0|h0
   ·subst h0;rw[dZ]at E;simp at E
   ·exact h0
  simp only[go_sem,Y,O];refine aG (SQ p q (by omega) I (by omega)) ?_;simp only[go_sem,O];refine⟨⟨q,p%q,rfl,rfl,J,Xam (cR (by decide) (Nat.le_of_lt (Xbx p I))) J,?_⟩,?_⟩
  ·rw[<-V,Nat.gcd_comm p q,Nat.gcd_rec q p,Nat.gcd_comm]
  ·rw[F,F];exact Xbx p I
 ·have I : q = 0 := by
   have:(aY bas q).length=0:=by simp at E;simpa using E
   exact(qD (b:=bas) (by decide)).1 (Xcz this)
  subst I;simp only[go_sem,Y];rw[Nat.gcd_zero_right]at V;rw[<-V];refine aG (Er p (by omega)) ?_;simp only[go_sem];exact .refl _
def X8{b:Nat}(J:0<b){l:List Nat}{q p:Nat}(h:ofL b l<b^q)(O:q<=p)(F:p<l.length):l[p]?=some 0:=by
 obtain⟨x,E⟩:=aK F;rcases Xcu x with h0|h0
 ·rw[E,h0]
 ·exfalso;have I:ofL b l=ofL b (l.take p)+b^p*ofL b (l.drop p):=by have:=sS b (l.take p) (l.drop p);rw[Xcs,Xas,Xcr (by omega)]at this;exact this
  rw[Bh b E]at I;have h1:b^p*1<=b^p*(x+b*ofL b (l.drop (p+1))):=Nat.mul_le_mul_left _ (by omega);have U:b^q<=b^p:=Xau J O;omega
def atZ(a b:ByteArray)(ha:a.size<=1048576)(hb:b.size<=1048576):PC prog 272 [str a,str b] (.tup [str (TX a b).1,int (TX a b).2]):=by
 refine pcb (fun t=>t == 9) func272 rfl rfl ?_;simp only[go_sem];refine aG (Qb a b ha hb) ?_;simp only[go_sem];refine aA (fun h=>?_) (fun h=>?_)
 ·have h:kB a b≠0:=by simpa using h
  simp only[go_sem];rw[show TX a b=(emp,kB a b)from if_neg h];exact .refl _
 have h:kB a b=0:=by simpa using h
 obtain⟨m,n,rfl,rfl,hm,hn⟩:=sR h;have au:=mW hm;have ap:=mW hn;simp only[go_sem,Jp h,cE,Xab];rw[show TX (dec m) (dec n)=szN (m*n)by unfold TX;rw[if_pos h,cE,cE]];have om:=cU (b:=bas) (by decide) m;have on:=cU (b:=bas) (by decide) n;have lm:=cP (b:=bas) (by decide) m;have ln:=cP (b:=bas) (by decide) n;have ai:(aY bas (m*n)).length<=(aY bas m).length+(aY bas n).length:=by refine iO (by decide) ?_;have h1:=kP (b:=bas) (by decide) lm;have h2:=kP (b:=bas) (by decide) ln;rw[om]at h1;rw[on]at h2;rw[Nat.pow_add];exact Nat.mul_lt_mul'' h1 h2
 obtain⟨x,hx⟩:∃x,aY bas m=x:=⟨_,rfl⟩;obtain⟨y,hy⟩:∃y,aY bas n=y:=⟨_,rfl⟩;rw[hx]at om lm au ai;rw[hy]at on ln ap ai;have ew:IntKind.i64.wrap ((x.length:Int)+(y.length:Int))=((x.length+y.length:Nat):Int):=by rw[aW (by omega)];omega
 simp only[hx,hy,ew];refine⟨by omega,aL fun j hj=>?_⟩;simp only[go_sem];refine⟨fun ρ H=>∃(i:Nat) (out:List Nat),i<=x.length/\ρ 7=.sl (y.map gB)/\ρ 9=.os j/\ρ 32=.sl (x.map gB)/\ρ 33=int x.length/\ρ 34=int i/\H j=some (bY out)/\Lim bas out/\out.length=x.length+y.length/\ofL bas out=ofL bas (x.take i)*ofL bas y,fun ρ _=>x.length-aR (ρ 34),
  ⟨0,List.replicate (x.length+y.length) 0,Xaa _,rfl,rfl,rfl,rfl,by simp only[go_sem];rfl,?_,Lim.zeros (by decide) _,by simp,by simp[ofL,Lb]⟩,?_⟩
 ·rw[aB];simp only[bY,List.map_replicate];rfl
 rintro ρ H ⟨i,out,hi,h7,h9,Y,X,O,Rj,ho,aq,hv⟩;simp only[go_sem,X,O];refine aA (fun V=>?_) (fun ab=>?_)
 ·have V:=ltB V;obtain⟨E,aa⟩:=aK V;have b1:=inB V;have ay:E<1000000000:=lm E (Xac aa);have ar:out[i+y.length]?=some 0:=by refine X8 (b:=bas) (by decide) (q:=i+y.length) ?_ (Xaf _) (by omega);rw[hv,Nat.pow_add];have h1:=kP (b:=bas) (by decide) (lm.take i);rw[Xas,Xcr hi]at h1;exact Nat.mul_lt_mul'' h1 (kP (b:=bas) (by decide) ln)
  simp only[go_sem,h7,Y,O,aD aa,b1,Xab];refine⟨fun ρ H=>∃(k c:Nat) (o:List Nat),k<=y.length/\ρ 7=.sl (y.map gB)/\ρ 9=.os j/\ρ 10=int i/\ρ 11=int E/\ρ 12=int c/\ρ 32=.sl (x.map gB)/\ρ 33=int x.length/\ρ 34=int i/\ρ 39=.sl (y.map gB)/\ρ 40=int y.length/\ρ 41=int k/\H j=some (bY o)/\Lim bas o/\o.length=x.length+y.length/\c<1000000000/\ofL bas o+bas^(i+k)*c=ofL bas out+bas^i*(E*ofL bas (y.take k))/\o[i+y.length]?=some 0,fun ρ _=>y.length-aR (ρ 41),
   ⟨0,0,out,Xaa _,h7,h9,rfl,rfl,by simp only[go_sem];rfl,Y,X,O,rfl,rfl,by simp only[go_sem];rfl,Rj,ho,aq,by omega,by simp[ofL],ar⟩,?_⟩
  rintro ρ H ⟨k,c,o,hk,h7,h9,ad,ah,ak,Y,X,O,aj,al,af,Rj,hO,am,hc,hV,hZ⟩;simp only[go_sem,al,af];refine aA (fun F=>?_) (fun U=>?_)
  ·have F:=ltB F;obtain⟨J,ac⟩:=aK F;have b2:=inB F;have ax:J<1000000000:=ln J (Xac ac);obtain⟨v,Z⟩:=aK (show i+k<o.length by omega);have aw:v<1000000000:=hO v (Xac Z);have b3:0<=((i+k:Nat):Int)/\((i+k:Nat):Int)<((bY o).es.length:Nat):=by simp only[bY,Xab];omega
   have ei:IntKind.i64.wrap ((i:Int)+(k:Int))=((i+k:Nat):Int):=by rw[aW (by omega)];omega
   have ae:(bY o).es.getD (i+k) []=gB v:=aD Z;have av:E*J<=999999999*999999999:=Nat.mul_le_mul (by omega) (by omega);have ao:=Tj (b:=bas) (by decide) Z ac hV;have e1:IntKind.i64.wrap (IntKind.i64.wrap ((v:Int)+IntKind.i64.wrap ((E:Int)*(J:Int)))+(c:Int))=((v+E*J+c:Nat):Int):=by rw[show(E:Int)*(J:Int)=((E*J:Nat):Int)from(Int.natCast_mul E J).symm];generalize E*J=p at *;rw[show IntKind.i64.wrap (p:Int)=(p:Int)from aW (by omega),show IntKind.i64.wrap ((v:Int)+(p:Int))=(v:Int)+p from aW (by omega),aW (by omega)];omega
   have hq:(v+E*J+c)/1000000000<1000000000:=by omega
   have e2:IntKind.i64.wrap ((((v+E*J+c:Nat):Int)).tdiv 1000000000)=(((v+E*J+c)/1000000000:Nat):Int):=by generalize v+E*J+c=p at *;rw[Xbz (by omega),aW (by omega)];omega
   have e3:(((v+E*J+c:Nat):Int)).tmod 1000000000=(((v+E*J+c)%1000000000:Nat):Int):=by rw[Xck (by omega)];omega
   simp only[go_sem,h9,ad,ah,ak,aj,af,aD ac,b2,ei,Rj,b3,ae,e1,e3];have I:i+k<(bY o).es.length:=by simp only[bY,Xab];omega
   refine⟨rfl,⟨I,Nat.zero_lt_one⟩,by decide,rfl,dS so3 Rj ⟨I,rfl,Xaf 1⟩ ?_⟩;generalize hP:aM H j _=HP;have ag:HP j=some (bY (o.set (i+k) ((v+E*J+c)%bas))):=by rw[<-hP,aB];exact congrArg some (CL (q:=(v+E*J+c)%bas) Z)
   simp only[go_sem,h7,h9,ad,ah,Y,X,O,aj,al,af,e2,aQ k];refine⟨by decide,⟨k+1,_,_,F,rfl,rfl,ag,hO.set (Xbx _ (by decide)),by simp[am],hq,ao,?_⟩,by simp only[aN];omega⟩;rw[List.getElem?_set_ne (by omega)];exact hZ
  ·have U:=geB hk U;subst U;have ei:IntKind.i64.wrap ((i:Int)+(y.length:Int))=((i+y.length:Nat):Int):=by rw[aW (by omega)];omega
   have I:i+y.length<(bY o).es.length:=by simp only[bY,Xab];omega
   have b3:0<=((i+y.length:Nat):Int)/\((i+y.length:Nat):Int)<((bY o).es.length:Nat):=by omega
   have ae:(bY o).es.getD (i+y.length) []=gB 0:=aD hZ;have e1:IntKind.i64.wrap (((0:Nat):Int)+(c:Int))=(c:Int):=by rw[aW (by omega)];omega
   simp only[go_sem,h7,h9,ad,ak,Xab,ei,Rj,b3,ae,e1];refine⟨rfl,⟨I,Nat.zero_lt_one⟩,rfl,dS so3 Rj ⟨I,rfl,Xaf 1⟩ ?_⟩;generalize hP:aM H j _=HP;have ag:HP j=some (bY (o.set (i+y.length) c)):=by rw[<-hP,aB];exact congrArg some (CL (q:=c) hZ)
   have an:=WF (b:=bas) hZ hV;simp only[go_sem,h7,h9,Y,X,O,aQ i];refine⟨⟨i+1,_,V,rfl,ag,hO.set hc,by simp[am],?_⟩,by simp only[aN];omega⟩;rw[an,hv,lJ bas aa,Nat.add_mul,Nat.mul_assoc]
 ·have ab:=geB hi ab;subst ab;simp only[go_sem,h9];rw[Xad,om,on]at hv;refine PC.useF [j] (.cons _ _ _ _ (.row _ _ _ (by simp only[Xaw,if_true];exact Rj) (ConvE.refl _)) .nil) (M7 ho (by omega) hv) ?_;simp only[go_sem];refine aG (Er (m*n) (by omega)) ?_;simp only[go_sem];exact .refl _
end Nu
namespace Nu
open Go.Proofs.Tryz
open Go.Nu
open Go.RowKit (Below)
def Tc(s:ByteArray):Lib.hasPrefix (bl s) [45]=fU s:=by
 unfold Lib.hasPrefix fU;cases bl s with
 | nil=>rfl
 | cons c r=>
  by_cases h:c=45
  ·subst h;rfl
  ·have h1:(some c == some (45:UInt8))=false:=by simpa using h
   have E:((45:UInt8) == c)=false:=by simpa using Ne.symm h
   simp only[List.isPrefixOf,List.head?_cons,h1,E,Bool.false_and]
def Np(s:ByteArray):(⟨(Lib.trimPrefix (bl s) [45]).toArray⟩:ByteArray)=eM s:=by
 unfold Lib.trimPrefix eM;rw[Tc];split
 ·rfl
 ·exact auY s
def UB(s:ByteArray):PC prog 168 [str s,str ⟨#[45]⟩] (.tup [str (eM s),boo (fU s)]):=by
 refine PC.lib (a:=[.string s,.string ⟨#[45]⟩]) (v:=.tuple #[.string (eM s),.bool (fU s)]) (fun S w=>⟨_,rfl,⟨_,_,rfl,rfl,⟨_,_,rfl,rfl,rfl⟩⟩⟩) fun w _=>(Tryz.strings_CutPrefix s ⟨#[45]⟩ w).mono fun e w' ⟨F,E⟩=>?_
 rw[E];refine⟨F.trans ?_,Below.refl _ _⟩;rw[show s.data.toList=bl s from rfl,show(⟨#[45]⟩:ByteArray).data.toList=[45]from rfl,Np,Tc]
def BD(s:ByteArray):PC prog 99 [str s,str ⟨#[45]⟩] (str (eM s)):=by
 refine PC.lib (a:=[.string s,.string ⟨#[45]⟩]) (v:=.string (eM s)) (fun S w=>rfl) fun w _=>(Tryz.strings_TrimPrefix s ⟨#[45]⟩ w).mono fun e w' ⟨F,E⟩=>?_
 rw[E];refine⟨F.trans ?_,Below.refl _ _⟩;rw[show s.data.toList=bl s from rfl,show(⟨#[45]⟩:ByteArray).data.toList=[45]from rfl,Np]
def UR(n:Int)(h0: -9223372036854775808<=n)(h1:n<=9223372036854775807):PC prog 194 [int n] (str (zed n)):=by
 refine PC.lib (a:=[.int .i64 n]) (v:=.string (zed n)) (fun S w=>rfl) fun w F=>(Tryz.strconv_Itoa n h0 h1 w (ajV F)).mono fun e w' ⟨I,k,os,E⟩=>?_
 rw[E];exact⟨I,pZ k os⟩
def Ui(a b:ByteArray):PC prog 199 [str a,str b] (int (Lib.compareBytes (bl a) (bl b))):=by
 refine PC.lib (a:=[.string a,.string b]) (v:=.int .i64 (Lib.compareBytes (bl a) (bl b))) (fun S w=>rfl) fun w _=>(Tryz.strings_Compare a b w).mono fun e w' ⟨F,E⟩=>?_
 rw[E];exact⟨F,Below.refl _ _⟩
def wF:(⟨#[48]⟩:ByteArray)=dec 0:=lD (by rw[iT,Lib.decDigits_one (by omega)];rfl)
def DI:(⟨#[49]⟩:ByteArray)=dec 1:=lD (by rw[iT,Lib.decDigits_one (by omega)];rfl)
def oO(s:ByteArray):(bl s == [48])=eqB s (dec 0):=by unfold eqB;rw[<-wF];rfl
def Fy(s:ByteArray):(bl s == [49])=eqB s (dec 1):=by unfold eqB;rw[<-DI];rfl
def D8(s:ByteArray):(eM s).size<=s.size:=by
 unfold eM;split
 ·rw[<-cV,<-cV,kC,Xbj];omega
 ·exact Xaf _
def EN(s:ByteArray)(h:s.size<=1048576):PC prog 101 [str s] (.tup [boo (fU s),str (eM s),boo (fH s)]):=by refine pcd func101 rfl rfl ?_;simp only[go_sem];refine aG (UB s) ?_;simp only[go_sem];refine aG (Ef (eM s) (by have:=D8 s;omega)) ?_;simp only[go_sem,oO];exact .refl _
def agL(s:ByteArray)(h:s.size<=1048576):PC prog 94 [str s] (boo (fH s)):=by refine pcd func94 rfl rfl ?_;simp only[go_sem];refine aG (EN s h) ?_;simp only[go_sem];exact .refl _
def avL(n:Int)(h0: -9223372036854775808<=n)(h1:n<=9223372036854775807):PC prog 132 [int n] (str (zed n)):=by refine pcd func132 rfl rfl ?_;simp only[go_sem];refine aG (UR n h0 h1) ?_;simp only[go_sem];exact .refl _
def aoG(s:ByteArray)(h:s.size<=1048576):PC prog 55 [str s] (int (Bd s)):=by
 refine pcd func55 rfl rfl ?_;simp only[go_sem];refine aG (EN s h) ?_;simp only[go_sem,oO];apply aA <;> intro F
 ·simp only[go_sem];refine cI ?_;unfold Bd;by_cases E:fH s=true
  ·rw[if_pos E];have O:eqB (eM s) (dec 0)=true:=by rw[E]at F;simpa using F
   have:gG s=0:=by unfold gG;rw[lR.1 O,cE];split <;> rfl
   rw[this];rfl
  ·rw[if_neg E]
 ·have E:fH s=true/\eqB (eM s) (dec 0)=false:=by simpa using F
  have J:eA (eM s)=true:=by have:=E.1;unfold fH at this;simp only[Xai]at this;exact this.1
  have U:0<fG (eM s):=by
   rcases Xcu (fG (eM s))with h0|h0
   ·have:=jO J;rw[h0]at this;exact absurd this.symm (nY.1 E.2)
   ·exact h0
  simp only[go_sem];apply aA <;> intro I
  ·simp only[go_sem];refine cI ?_;unfold Bd gG;rw[if_pos E.1,if_pos I,Int.sign_eq_neg_one_of_neg (by omega)]
  ·simp only[go_sem];refine cI ?_;unfold Bd gG;rw[if_pos E.1,if_neg (by rw[I];simp),Int.sign_eq_one_of_pos (by omega)]
def sg(m:Bool)(n:Nat):Int:=if m=true then -(n:Int)else n
def anE(m:Bool)(n:Nat):(if(m&& !eqB (dec n) (dec 0))=true then(⟨#[45]⟩:ByteArray)++dec n else dec n)=zed (sg m n):=by
 unfold sg;by_cases E:n=0
 ·subst E;rw[show eqB (dec 0) (dec 0)=true from lR.2 rfl];simp only[Xcb,Bool.and_false,Xaz,if_false];rw[<-dF];split <;> rfl
 ·rw[show eqB (dec n) (dec 0)=false from nY.2 fun e=>E (sV.1 e)];cases m with
  | true=>simp only[Xda,Xbm,if_true];rw[EH (by omega)];refine lD ?_;rw[mV,kC,iT];rfl
  | false=>simp only[Bool.false_and,Xaz,if_false];rw[dF]
def TU(m:Bool)(n:Nat)(J:(dec n).size<=1048576):PC prog 137 [.agg [boo m,str (dec n)]] (str (zed (sg m n))):=by
 refine pcb (fun t=>t == 1) func137 rfl rfl ?_;simp only[go_sem];refine aL fun j O=>?_
 have R:=aB bQ j (some ⟨194,2,[[boo m,str (dec n)]]⟩);generalize aM bQ j _=H1 at R |-;simp only[go_sem,R];have E:=anE m n;have I:(m&& !bl (dec n) == [48])=(m&& !eqB (dec n) (dec 0)):=by rw[<-oO]
 rw[I];apply aA <;> intro F
 ·rw[if_pos F]at E;simp only[go_sem,R];refine⟨by show((1+(dec n).size:Nat):Int)<=9223372036854775807;omega,?_⟩;exact cS E
 ·rw[if_neg (by rw[F];simp)]at E;simp only[go_sem,R];exact cS E
def adA(m:Bool)(n:Nat):(sg m n).natAbs=n:=by unfold sg;split <;> omega
def Iz(m:Bool)(n:Nat):PC prog 233 [.agg [boo m,str (szN n).1],int (szN n).2] (.tup [str (szZ (sg m n)).1,int (szZ (sg m n)).2]):=by
 by_cases E:n<dA
 ·have J:=(iX n).2 E;rw[AD E,show szZ (sg m n)=(zed (sg m n),0)from if_pos (by rw[adA];exact E)];refine pcb (fun t=>t == 2) func233 rfl rfl ?_;simp only[go_sem];refine aL fun j I=>?_
  have R:=aB bQ j (some ⟨194,2,[[boo m,str (dec n)]]⟩);generalize aM bQ j _=H1 at R |-;simp only[go_sem];refine aA (fun F=>by cases F) (fun _=>?_);simp only[go_sem,R];refine aG (TU m n (by omega)) ?_;simp only[go_sem];exact .refl _
 ·rw[show szN n=(emp,4)from if_neg E,show szZ (sg m n)=(emp,4)from if_neg (by rw[adA];exact E)];refine pcb (fun t=>t == 2) func233 rfl rfl ?_;simp only[go_sem];refine aL fun j I=>?_
  simp only[go_sem];refine aA (fun F=>?_) (fun F=>by cases F);simp only[go_sem];exact .refl _
def G3(s:ByteArray):List AV:=[boo (fU s),str (eM s)]
def RL(s:ByteArray):(G3 s).length=2:=(rfl)
def arL(s:ByteArray):(G3 s).getD 0 .any=boo (fU s):=(rfl)
def atD(s:ByteArray):(G3 s).getD 1 .any=str (eM s):=(rfl)
def ahR(s:ByteArray):(G3 s).take 2=G3 s:=(rfl)
attribute [go_sem] RL arL atD ahR
def Hc(l:List ByteArray):Row:=⟨194,2,l.map G3⟩
def ahP(s:ByteArray):Bool:=decide ((eM s).size>4096)
def K0(l:List ByteArray):Int:=if l.any (fun s=> !fH s)=true then 3 else if l.any ahP=true then 4 else 0
def zL(l:List ByteArray):List (List AV):=if K0 l=0 then l.map G3 else[]
def xC{α:Type}{q:α->Bool}{l:List α}{k:Nat}{c:α}(h:l[k]?=some c)(E:q c=true):l.any q=true:=Xao.2 ⟨c,Xac h,E⟩
def vM{α:Type}{q:α->Bool}{l:List α}(h:∀c∈l,q c=false):l.any q=false:=by rw[Xbb];intro c E;rw[h c E];simp
def anP(l:List ByteArray)(hl:l.length<=1048576)(hs:∀s∈l,s.size<=1048576):PC prog 133 [.sl (l.map Go.Aw.D.fE)] (.tup [.sl (zL l),int (K0 l)]):=by
 refine pcb (fun t=>t == 4) func133 rfl rfl ?_;simp only[go_sem];refine aL fun j hj=>?_
 simp only[go_sem];refine⟨fun ρ H=>∃(k j:Nat),k<=l.length/\ρ 12=.sl (l.map Go.Aw.D.fE)/\ρ 13=int l.length/\ρ 4=.os j/\ρ 14=int k/\H j=some (Hc (l.take k))/\∀s∈l.take k,fH s=true,fun ρ _=>l.length-aR (ρ 14),
  ⟨0,j,Xaa _,rfl,rfl,rfl,by simp only[go_sem];rfl,aB _ _ _,by simp⟩,?_⟩
 rintro ρ H ⟨k,j,hk,ac,ad,Z,Y,I,hz⟩;simp only[go_sem,ad,Y];refine jQ hk (fun F=>?_) (fun J=>?_)
 ·obtain⟨s,E⟩:=aK F;have b1:=inB F;simp only[go_sem,ac,Y,aD E,b1];refine aG (EN s (hs s (Xac E))) ?_;simp only[go_sem,];refine aA (fun X=>?_) (fun X=>?_)
  ·simp only[go_sem];have e:K0 l=3:=by unfold K0;rw[if_pos (xC E X)]
   rw[show zL l=[]from if_neg (by rw[e];decide),e];exact .refl _
  ·simp only[go_sem,Z];refine aZ I ⟨rfl,rfl⟩ ⟨rfl,trivial⟩ (by simp only[Hc,Xab,Xas,Xah,List.length_nil];omega) (fun j' ai=>?_);simp only[go_sem,ac,ad,Y,aQ k];refine⟨⟨k+1,j',F,rfl,rfl,?_,gR E (by simpa using X) hz⟩,by simp only[aN];omega⟩;rw[aB];simp only[Hc,bA E,Xal,Xbf,Xbv];rfl
 ·subst J;rw[Xad]at I hz;have hR:l.any (fun s=> !fH s)=false:=vM fun s hs=>by rw[hz s hs];rfl
  have ab:((Hc l).es.length:Int)=l.length:=by simp[Hc]
  simp only[go_sem,Z,I,ab];refine⟨fun ρ H=>∃(k:Nat),k<=l.length/\ρ 4=.os j/\ρ 33=.os j/\ρ 34=int l.length/\ρ 35=int k/\H j=some (Hc l)/\∀s∈l.take k,ahP s=false,fun ρ _=>l.length-aR (ρ 35),
   ⟨0,Xaa _,Z,rfl,rfl,by simp only[go_sem];rfl,I,by simp⟩,?_⟩
  rintro ρ H ⟨k,hk,Z,af,ae,U,I,V⟩;simp only[go_sem,ae,U];refine jQ hk (fun F=>?_) (fun J=>?_)
  ·obtain⟨s,E⟩:=aK F;have b1:=inB F;have ah:(Hc l).es.getD k []=G3 s:=aD E;have b2:0<=(k:Int)/\(k:Int)<((Hc l).es.length:Nat):=by simp only[Hc,Xab];exact b1
   simp only[go_sem,af,U,I,b2,ah];have O:k<(Hc l).es.length:=by simp only[Hc,Xab];exact F
   refine⟨rfl,⟨O,Xaf 2⟩,?_⟩;refine aL fun i hi=>?_
   simp only[go_sem,];have aa:j≠i:=bE I hi;refine aI (aB _ _ _) (by simp[RL]) ?_;generalize hG:aM (aM _ i _) i _=HG;have Ri:HG i=some (⟨194,2,[G3 s]⟩:Row):=by rw[<-hG,aB];rfl
   have ag:HG j=some (Hc l):=by rw[<-hG,aJ _ _ _ _ aa,aJ _ _ _ _ aa];exact I
   simp only[go_sem,Ri];have hd:decide (((eM s).size:Int)>4096)=ahP s:=by unfold ahP;rw[decide_eq_decide];omega
   rw[hd];refine aA (fun X=>?_) (fun X=>?_)
   ·simp only[go_sem];have e:K0 l=4:=by unfold K0;rw[if_neg (by rw[hR];simp),if_pos (xC E X)]
    rw[show zL l=[]from if_neg (by rw[e];decide),e];exact .refl _
   ·simp only[go_sem,Z,af,ae,U,aQ k];exact⟨⟨k+1,F,rfl,ag,gR E X V⟩,by simp only[aN];omega⟩
  ·subst J;rw[Xad]at V;simp only[go_sem,Z];have e:K0 l=0:=by unfold K0;rw[if_neg (by rw[hR];simp),if_neg (by rw[vM V];simp)]
   rw[show zL l=l.map G3 from if_pos e,e];exact .tup _ _ (.cons _ _ _ _ (.row _ _ _ I (ConvE.refl _)) (ConvL.refl _))
end Nu
end Go.Proofs.YtpagaknmdfgfkaaGreatDoor
