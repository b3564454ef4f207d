import Derived.Lib.ItoaMem
import Derived.Laws.Strings
import Derived.Shelf.Strings.Builder1
import Derived.Shelf.Strings.Builder2
import Derived.Shelf.Small.Strs
import Derived.Shelf.Small.Wraps
import Derived.Shelf.Strings.BuilderF
import Derived.Shelf.Strings.BuilderK
import Derived.Shelf.Strings.Builder2Cap
import Derived.Shelf.Strconv.Itoa0
import Derived.Shelf.Strconv.Itoa1
import Derived.Shelf.LaysM
import Derived.Shelf.Strconv.Itoa2
import Derived.Shelf.Strconv.Itoa3
import Derived.Shelf.Strings.Search1
import Derived.Shelf.Strings.Search2
import Derived.Shelf.Strings.Search3
import Derived.Shelf.Strings.Cut
import Derived.Shelf.Strings.Shaped
import Derived.Shelf.Strings.Prefix
import Derived.Shelf.Bits.Mul64
import Derived.Shelf.Strings.Repeat
import Derived.Shelf.Strings.BuilderCap
import Derived.Ground.Names2Prog
import Derived.Shelf.Slices.SearchI
import Derived.Test.YtpagaknmdfgfkaaGreatDoorProg
import Derived.WalkKit
import Derived.BigCall
import Derived.Deep.LoopGhost
import Derived.Deep.DeepFit
import Derived.Lib.SmallJoins
import Derived.Test.YtpagaknmdfgfkaaGreatDoorPn04
set_option linter.unusedSimpArgs false
set_option linter.unusedVariables false
set_option linter.defProp false
set_option maxRecDepth 100000
section
namespace Go.Aw
open Go.RowKit
section
variable{P:Program}{S:Sg}{w:World}{H:aG}{f:FuncId}{args args':List AV}{K:AV->aG->Prop}
def St.frz(J:St S w H)(l:List Nat):St (S.froze fun k=>if k∈l then H k else none) w (fun k=>if k∈l then none else H k)/\Grow S w (S.froze fun k=>if k∈l then H k else none) w/\St S w fun k=>if k∈l then H k else none:=by
 let Hf:aG:=fun k=>if k∈l then H k else none
 let Hr:aG:=fun k=>if k∈l then none else H k
 have T:∀k r',Hf k=some r'->k∈l/\H k=some r':=fun k r' E=>by grind
 have I:∀k r',Hr k=some r'->¬k∈l/\H k=some r':=fun k r' E=>by grind
 refine⟨⟨?_,?_,fun k r' E=>(J.rows k r' (I k r' E).2).keep (S.le_froze Hf) (iL.refl S w) (fun _ _=>rfl),?_,fun k k' r1 O E X Y g F Z=>J.disj k k' r1 O (I k r1 E).2 (I k' O X).2 Y g F Z,J.tabs.keep (S.le_froze Hf) (iL.refl S w)⟩,⟨S.le_froze Hf,fun k E=>.inl E,rfl,rfl,rfl,Nat.le_refl _,fun _ _=>rfl,?_⟩,J.drop fun k r' E=>(T k r' E).2⟩
 ·rintro g (F|F)
  ·exact .inl (J.ro_fz g F)
  ·exact .inr F
 ·rintro g (F|⟨k,r',E,F⟩)
  ·exact J.fz_lt g F
  ·exact(J.rows k r' (T k r' E).2).block_lt F
 ·rintro k r' E g F (h1|⟨i,O,hi,h2⟩)
  ·exact J.free k r' (I k r' E).2 g F h1
  ·exact J.disj k i r' O (I k r' E).2 (T i O hi).2 (fun e=>(I k r' E).1 (e▸(T i O hi).1)) g F h2
 ·rintro g (F|⟨k,r',E,F⟩)
  ·grind
  ·exact .inr (J.free k r' (T k r' E).2 g F)
def bK.frz(l:List Nat)(O:ConvL (fun k=>if k∈l then H k else none) args args')(h:bK P f args' (fun k=>if k∈l then none else H k) K):bK P f args H K:=by
 intro S w vals Y ha;obtain⟨h1,X,F⟩:=Y.frz l;refine(h _ w vals h1 (O.rep F ha)).mono fun e w' ⟨v,r,H',S',he,I,E,T,Z,hn⟩=>⟨v,r,H',S',he,I,E,T,X.trans Z,fun k J h0=>hn k J ?_⟩
 grind
def PC.useF{r:AV}(l:List Nat)(E:ConvL (fun k=>if k∈l then H k else none) args args')(h:PC P f args' r)(F:K r (fun k=>if k∈l then none else H k)):bK P f args H K:=bK.frz l E (PC.use h F)
def PC.lib{a:List Value}{r:AV}{v:Value}(O:∀S w,rep S w r v)(h:∀w,(∀t∈aaH,vO w t.1=some t.2)->Calls P f a.toArray w fun e w'=>e=.returned v/\Below w.heap.size w w'):PC P f (a.map .v) r:=by
 intro S w vals I X Y;obtain rfl:vals=a:=by clear h;induction a generalizing vals<;>grind[bO,rep]
 refine(h w fun t J=>(I.tabs t J).2).mono fun e w' ⟨T,E⟩=>?_
 exact⟨v,r,bQ,S,T,rfl,I.after E.size fun k F=>E.block k F,O S w',I.grow E.os E.tape E.output E.size fun k F=>E.block k F,gY.refl _ _⟩
end
end Go.Aw
end
section
namespace Go.Nu
open Go Go.Lib
def ofL(b:Nat):List Nat->Nat
 | []=>0
 | x::r=>x+b*ofL b r
def Lim(b:Nat)(l:List Nat):Prop:=∀x∈l,x<b
def aZ(b:Nat)(n:Nat):List Nat:=if h:n=0\/b<2 then[]else n%b::aZ b (n/b)
termination_by n
decreasing_by exact Nat.div_lt_self (by omega) (by omega)
def oT:List Nat->List Nat
 | []=>[]
 | x::r=>match oT r with
   | []=>if x=0 then[]else[x]
   | y::t=>x::y::t
theorem sH(b:Nat):∀l r:List Nat,ofL b (l++r)=ofL b l+b^l.length*ofL b r
 | [],r=>by simp[ofL]
 | x::l,r=>by simp only[List.cons_append,ofL,sH b l r,List.length_cons,Nat.pow_succ,Nat.mul_add,Nat.add_assoc];rw[Nat.mul_comm (b^l.length) b,Nat.mul_assoc]
theorem vT(b:Nat)(l:List Nat)(x:Nat):ofL b (l++[x])=ofL b l+b^l.length*x:=by grind[sH,ofL]
theorem kM{b:Nat}(E:0<b):∀{l:List Nat},Lim b l->ofL b l<b^l.length
 | [],_=>by simp[ofL]
 | x::l,h=>by
  have h1:=h x (by simp);have I:=kM E (l:=l) fun y F=>h y (by simp[F])
  simp only[ofL,List.length_cons,Nat.pow_succ];have:b*(ofL b l+1)<=b*b^l.length:=Nat.mul_le_mul_left _ I;rw[Nat.mul_add]at this;rw[Nat.mul_comm (b^l.length) b];omega
def lJ(b:Nat){l:List Nat}{k x:Nat}(h:l[k]?=some x):ofL b (l.take (k+1))=ofL b (l.take k)+b^k*x:=by grind[List.take_add_one,vT]
def N4(b:Nat):∀(l:List Nat) (k x v:Nat),l[k]?=some x->ofL b (l.set k v)+b^k*x=ofL b l+b^k*v
 | [],k,x,v,h=>by grind
 | y::l,0,x,v,h=>by simp only[List.getElem?_cons_zero,Option.some.injEq]at h;subst h;simp only[List.set_cons_zero,ofL,Nat.pow_zero,Nat.one_mul];omega
 | y::l,k+1,x,v,h=>by
  have:=N4 b l k x v (by simpa using h);have E:b*(ofL b (l.set k v)+b^k*x)=b*(ofL b l+b^k*v):=by rw[this]
  simp only[List.set_cons_succ,ofL,Nat.pow_succ];rw[Nat.mul_add,Nat.mul_add,<-Nat.mul_assoc,<-Nat.mul_assoc]at E;rw[Nat.mul_comm (b^k) b];omega
def Mi(b n:Nat):ofL b (List.replicate n 0)=0:=by induction n<;>grind[ofL]
theorem eG(b:Nat):aZ b 0=[]:=by grind[aZ]
theorem oE{b n:Nat}(E:2<=b)(F:n≠0):aZ b n=n%b::aZ b (n/b):=by rw[aZ,dif_neg (by omega)]
theorem cK{b:Nat}(I:2<=b)(n:Nat):Lim b (aZ b n):=by
 induction n using Nat.strongRecOn with
 | _ n ih=>
  by_cases F:n=0
  ·subst F;rw[eG];intro x E;cases E
  ·rw[oE I F];intro x E;rcases List.mem_cons.1 E with rfl|E
   ·exact Nat.mod_lt _ (by omega)
   ·exact ih (n/b) (Nat.div_lt_self (by omega) (by omega)) x E
theorem cR{b:Nat}(E:2<=b)(n:Nat):ofL b (aZ b n)=n:=by induction n using Nat.strongRecOn<;>grind[eG,oE,ofL,Nat.div_lt_self,Nat.mod_add_div]
theorem qL{b n:Nat}(E:2<=b):aZ b n=[]↔n=0:=by
 constructor
 ·intro h;have:=cR E n;rw[h]at this;exact this.symm
 grind[eG]
def Kr{b x m:Nat}(F:2<=b)(E:x<b)(h:x+b*m≠0):aZ b (x+b*m)=x::aZ b m:=by rw[oE F h,Nat.add_mul_mod_self_left,Nat.mod_eq_of_lt E,Nat.add_mul_div_left _ _ (by omega),Nat.div_eq_of_lt E,Nat.zero_add]
theorem Io{b:Nat}(E:2<=b):∀{l:List Nat},Lim b l->oT l=aZ b (ofL b l)
 | [],_=>by rw[ofL,eG];rfl
 | x::l,h=>by
  have ih:=Io E (l:=l) fun y O=>h y (by grind)
  have I:=h x (by simp);rw[oT,ih];by_cases h0:ofL b l=0
  ·simp only[ofL,h0,eG];by_cases F:x=0
   ·grind[eG]
   ·rw[if_neg F,Kr E I (by omega),eG]
  ·have J:aZ b (ofL b l)≠[]:=fun e=>h0 ((qL E).1 e)
   rw[ofL,Kr E I (by have:0<b*ofL b l:=Nat.mul_pos (by omega) (by omega);omega)]
   grind
def NR{b:Nat}(E:2<=b){l:List Nat}{n:Nat}(h:Lim b l)(F:ofL b l=n):oT l=aZ b n:=by grind[Io]
def iQ{b:Nat}(E:2<=b){n k:Nat}(h:n<b^k):(aZ b n).length<=k:=by
 induction k generalizing n with
 | zero=>simp_all[eG]
 | succ k ih=>
  by_cases F:n=0
  ·grind
  grind[oE,Nat.div_lt_iff_lt_mul]
def Pb{b:Nat}(E:2<=b){n k:Nat}(h:b^k<=n):k<(aZ b n).length:=by have h1:=kM (b:=b) (by omega) (cK E n);rw[cR E]at h1;exact(Nat.pow_lt_pow_iff_right (by omega)).1 (Nat.lt_of_le_of_lt h h1)
theorem cQ{b:Nat}(E:2<=b){m n:Nat}(h:m<=n):(aZ b m).length<=(aZ b n).length:=by
 refine iQ E ?_
 grind[kM,cK,cR]
def Vv{b:Nat}(E:2<=b){n:Nat}(F:n≠0):b^((aZ b n).length-1)<=n:=by
 induction n using Nat.strongRecOn with
 | _ n ih=>
  rw[oE E F,List.length_cons,Nat.add_sub_cancel];by_cases h0:n/b=0
  ·rw[h0,eG];simp;omega
  ·have:=ih (n/b) (Nat.div_lt_self (by omega) (by omega)) h0;have I:(aZ b (n/b)).length=((aZ b (n/b)).length-1)+1:=by grind[qL,List.length_pos_iff]
   rw[I,Nat.pow_succ];exact Nat.le_trans (Nat.mul_le_mul_right b this) (Nat.div_mul_le_self n b)
def LL{b:Nat}(Y:0<b){l r:List Nat}(X:Lim b l)(hr:Lim b r)(I:l.length=r.length){k x y:Nat}(F:l[k]?=some x)(Z:r[k]?=some y)(E:x<y)(T:l.drop (k+1)=r.drop (k+1)):ofL b l<ofL b r:=by
 have hk:k<l.length:=(List.getElem?_eq_some_iff.1 F).1;have O:l=l.take (k+1)++l.drop (k+1):=(List.take_append_drop _ _).symm;have e2:r=r.take (k+1)++r.drop (k+1):=(List.take_append_drop _ _).symm;rw[O,e2,sH,sH,T,lJ b F,lJ b Z,List.length_take,List.length_take,Nat.min_eq_left (by omega),Nat.min_eq_left (by omega)];have h1:=kM Y (l:=l.take k) fun z J=>X z (List.mem_of_mem_take J)
 rw[List.length_take,Nat.min_eq_left (by omega)]at h1;have h2:b^k*(x+1)<=b^k*y:=Nat.mul_le_mul_left _ E
 grind
def MZ{b:Nat}(E:2<=b){m n:Nat}(h:(aZ b m).length<(aZ b n).length):m<n:=by grind[Nat.lt_or_ge,cQ]
def HL{α:Type}{p:List α->Prop}(h0:p [])(h1:∀l c,p l->p (l++[c]))(l:List α):p l:=by
 have:∀r:List α,p r.reverse:=fun r=>by induction r<;>grind
 rw[<-List.reverse_reverse l]
 grind
def isD(c:UInt8):Bool:=decide (48<=c.toNat)&&decide (c.toNat<=57)
def jY(l:List UInt8):Nat:=l.foldl (fun a c=>10*a+(c.toNat-48)) 0
def eZ(l:List UInt8):Bool:=l != []&&(l.length == 1||l.getD 0 0 != 48)&&l.all isD
def dec(n:Nat):ByteArray:=⟨(decDigits n).toArray⟩
def qI(l:List UInt8)(c:UInt8):jY (l++[c])=10*jY l+(c.toNat-48):=by simp[jY]
def aaZ{α:Type}{l r:List α}{k:Nat}{d:α}(h:k<l.length):(l++r).getD k d=l.getD k d:=by grind
theorem qA{d:Nat}(h:d<10):(UInt8.ofNat (48+d)).toNat=48+d:=by grind[UInt8.toNat_ofNat']
theorem tY(n:Nat):jY (decDigits n)=n:=by induction n using Nat.strongRecOn<;>grind[decDigits,jY,qA]
theorem AU(n:Nat):(decDigits n).all isD=true:=by
 induction n using Nat.strongRecOn with
 | _ n ih=>
  rw[decDigits];split
  ·rename_i h;simp only[List.all_cons,List.all_nil,Bool.and_true,isD,qA h,Bool.and_eq_true,decide_eq_true_eq];omega
  ·rename_i h;rw[List.all_append,ih (n/10) (by omega)];simp only[List.all_cons,List.all_nil,Bool.and_true,Bool.true_and,isD,qA (show n%10<10 by omega),Bool.and_eq_true,decide_eq_true_eq];omega
theorem J0(n:Nat):decDigits n≠[]:=by rw[decDigits];split <;> simp
theorem kX(n:Nat):0<(decDigits n).length:=List.length_pos_iff.2 (J0 n)
theorem ajD{n:Nat}(h:n≠0):(decDigits n).getD 0 0≠48:=by
 induction n using Nat.strongRecOn with
 | _ n ih=>
  rw[decDigits];split
  ·rename_i h1;simp only[List.getD_cons_zero];intro e;have:=qA h1;simp_all
  grind[kX]
theorem BH{n:Nat}:(decDigits n).length=1↔n<10:=by grind[decDigits]
theorem abE(n:Nat):eZ (decDigits n)=true:=by
 unfold eZ;simp only[Bool.and_eq_true,bne_iff_ne,ne_eq,Bool.or_eq_true,beq_iff_eq]
 grind[J0,AU,BH,ajD]
theorem nC{c:UInt8}:isD c=true↔48<=c.toNat/\c.toNat<=57:=by simp[isD]
theorem akY{c:UInt8}(h:isD c=true):UInt8.ofNat (48+(c.toNat-48))=c:=by grind[nC,UInt8.ofNat_toNat]
def agE:∀{l:List UInt8},l.all isD=true->l≠[]->l.getD 0 0≠48->10^(l.length-1)<=jY l:=by
 intro l;induction l using HL with
 | h0=>simp
 | h1 l c ih=>
  intro E _ h0;rw[List.all_append]at E;simp only[Bool.and_eq_true,List.all_cons,List.all_nil,Bool.and_true]at E;rw[qI];by_cases F:l=[]
  ·subst F;simp only[List.nil_append,List.getD_cons_zero]at h0;simp only[List.nil_append,List.length_cons,List.length_nil,Nat.zero_add,Nat.sub_self,Nat.pow_zero];have:=nC.1 E.2;have h1:c.toNat≠48:=fun e=>h0 (UInt8.toNat.inj e)
   omega
  ·have I:=List.length_pos_iff.2 F;rw[aaZ I]at h0;have:=ih E.1 F h0;simp only[List.length_append,List.length_cons,List.length_nil,Nat.zero_add,Nat.add_sub_cancel];rw[show l.length=(l.length-1)+1 by omega,Nat.pow_succ];omega
def N8:∀{l:List UInt8},eZ l=true->decDigits (jY l)=l:=by
 intro l;induction l using HL with
 | h0=>grind[eZ]
 | h1 l c ih=>
  intro h;unfold eZ at h;simp only[Bool.and_eq_true,bne_iff_ne,ne_eq,Bool.or_eq_true,beq_iff_eq,List.all_append,List.all_cons,List.all_nil,Bool.and_true]at h;obtain⟨⟨_,h1⟩,J,E⟩:=h;have X:=nC.1 E;by_cases F:l=[]
  ·grind[jY,decDigits_one,akY]
  ·have T:=List.length_pos_iff.2 F;have h0:l.getD 0 0≠48:=by grind
   have I:=agE J F h0;have O:1<=jY l:=Nat.le_trans (Nat.one_le_pow _ _ (by omega)) I;rw[qI,decDigits,dif_neg (by omega)];rw[show(10*jY l+(c.toNat-48))/10=jY l by omega,show(10*jY l+(c.toNat-48))%10=c.toNat-48 by omega,akY E,ih];simp_all[eZ]
theorem lF{n k:Nat}(E:1<=k):(decDigits n).length<=k↔n<10^k:=by
 rw[decDigits_length];constructor
 ·grind[Nat.lt_of_lt_of_le,lt_pow_nDigits,Nat.pow_le_pow_right]
 ·intro h;by_cases h0:n<10
  ·grind[nDigits_small]
  ·induction k generalizing n<;>grind[nDigits]
def bl(s:ByteArray):List UInt8:=s.data.toList
theorem lB{a b:ByteArray}(h:bl a=bl b):a=b:=by cases a<;>simp_all[bl]
theorem dF(s:ByteArray):(bl s).length=s.size:=by rfl
def eqB(a b:ByteArray):Bool:=bl a == bl b
theorem lP{a b:ByteArray}:eqB a b=true↔a=b:=by
 unfold eqB;rw[beq_iff_eq]
 grind[lB]
theorem nX{a b:ByteArray}:eqB a b=false↔a≠b:=by rw[<-Bool.not_eq_true,lP]
theorem lU(l:List UInt8):bl ⟨l.toArray⟩=l:=by rfl
theorem mT(a b:ByteArray):bl (a++b)=bl a++bl b:=by rfl
theorem awR(s:ByteArray):(⟨(bl s).toArray⟩:ByteArray)=s:=lB (lU _)
def emp:ByteArray:=ByteArray.empty
def atP:bl emp=[]:=rfl
def gD(s:ByteArray)(a b:Nat):bl (s.extract a b)=((bl s).take b).drop a:=by grind[bl,ByteArray.data_extract,Array.toList_extract,List.drop_take]
def akS:Nat:=4096
def cY:Nat:=10^akS
def O4{n k:Nat}(h:n<10^k)(E:k<=4096):n<cY:=Nat.lt_of_lt_of_le h (Nat.pow_le_pow_right (show 0<10 by omega) (show k<=akS from E))
def aqL:0<cY:=Nat.pow_pos (show 0<10 by omega)
def eA(s:ByteArray):Bool:=eZ (bl s)
def gL(s:ByteArray):Nat:=jY (bl s)
theorem jL(n:Nat):bl (dec n)=decDigits n:=lU _
def mI(n:Nat):eA (dec n)=true:=by grind[eA,jL,abE]
theorem cX(n:Nat):gL (dec n)=n:=by grind[gL,jL,tY]
theorem kB{s:ByteArray}(h:eA s=true):dec (gL s)=s:=lB (by rw[jL];exact N8 h)
def jE(n:Nat):(dec n).size=(decDigits n).length:=by rfl
theorem jZ(n:Nat):(dec n).size<=4096↔n<cY:=by rw[jE];exact lF (k:=akS) (by decide)
theorem DG{s:ByteArray}(h:eA s=true):s.size<=4096↔gL s<cY:=by grind[jZ,kB]
theorem sC{m n:Nat}:dec m=dec n↔m=n:=⟨fun h=>by grind[cX],fun h=>by rw[h]⟩
def szN(n:Nat):ByteArray×Int:=if n<cY then(dec n,0)else(emp,4)
def jT(a b:ByteArray):Int:=if(!eA a|| !eA b)=true then 3 else if(decide (a.size>4096)||decide (b.size>4096))=true then 4 else 0
def Ut(a b:ByteArray):ByteArray×Int:=if jT a b=0 then szN (gL a+gL b)else(emp,jT a b)
def Uz(a b:ByteArray):ByteArray×Int:=if jT a b=0 then(if gL a<gL b then(emp,2)else szN (gL a-gL b))else(emp,jT a b)
def VD(a b:ByteArray):ByteArray×Int:=if jT a b=0 then szN (gL a*gL b)else(emp,jT a b)
def ER(a b:ByteArray):ByteArray×ByteArray×Int:=if jT a b=0 then(if gL b=0 then(emp,emp,10)else(dec (gL a/gL b),dec (gL a%gL b),0))else(emp,emp,jT a b)
def Bd(a b:ByteArray):ByteArray×Int:=if jT a b=0 then szN (Nat.gcd (gL a) (gL b))else(emp,jT a b)
def HW{a b:ByteArray}(F:eA a=true)(E:eA b=true)(J:a.size<=4096)(I:b.size<=4096):jT a b=0:=by grind[jT]
def zE{m n:Nat}(E:m<cY)(F:n<cY):jT (dec m) (dec n)=0:=HW (mI m) (mI n) ((jZ m).2 E) ((jZ n).2 F)
def sO{a b:ByteArray}(h:jT a b=0):∃m n,a=dec m/\b=dec n/\m<cY/\n<cY:=by
 unfold jT at h;split at h
 ·cases h
 ·rename_i h1;split at h
  ·cases h
  ·rename_i E;simp only[Bool.or_eq_true,Bool.not_eq_true',not_or,Bool.not_eq_false,decide_eq_true_eq,Nat.not_lt]at h1 E
   grind[kB,DG]
def Ah{n:Nat}(h:n<cY):szN n=(dec n,0):=if_pos h
def fY(s:ByteArray):Bool:=(bl s).head? == some 45
def fT(s:ByteArray):ByteArray:=if fY s=true then⟨((bl s).drop 1).toArray⟩else s
def fC(s:ByteArray):Bool:=eA (fT s)&& !(fY s&&eqB (fT s) (dec 0))
def gN(s:ByteArray):Int:=if fY s=true then -(gL (fT s):Int)else gL (fT s)
def zed(n:Int):ByteArray:=⟨(itoa n).toArray⟩
theorem dJ(n:Nat):zed n=dec n:=by rfl
theorem Ek{n:Nat}(h:1<=n):zed (-(n:Int))=⟨((45:UInt8)::decDigits n).toArray⟩:=by grind[zed,itoa_neg]
theorem E8(n:Nat):fY (dec n)=false:=by
 unfold fY;rw[jL];have h1:=AU n;have E:=J0 n;cases h:decDigits n with
 | nil=>rfl
 | cons c r=>rw[h]at h1;simp only[List.all_cons,Bool.and_eq_true]at h1;have:=nC.1 h1.1;simp only[List.head?_cons,beq_eq_false_iff_ne,ne_eq,Option.some.injEq];intro e;simp_all
theorem SG(n:Nat):fT (dec n)=dec n:=by grind[fT,E8]
theorem VK(l:List UInt8):fY ⟨((45:UInt8)::l).toArray⟩=true:=by rfl
def ZO(l:List UInt8):fT ⟨((45:UInt8)::l).toArray⟩=⟨l.toArray⟩:=by rfl
theorem rT(n:Int):fY (zed n)=decide (n<0):=by
 rcases Int.lt_or_le n 0 with h|h
 ·obtain⟨m,rfl⟩:∃m:Nat,n= -(m:Int):=⟨n.natAbs,by omega⟩
  grind[Ek,VK]
 ·obtain⟨m,rfl⟩:∃m:Nat,n=m:=⟨n.toNat,by omega⟩
  grind[dJ,E8]
theorem kR(n:Int):fT (zed n)=dec n.natAbs:=by
 rcases Int.lt_or_le n 0 with h|h
 ·obtain⟨m,rfl⟩:∃m:Nat,n= -(m:Int):=⟨n.natAbs,by omega⟩;rw[Ek (by omega),ZO,Int.natAbs_neg,Int.natAbs_natCast];rfl
 grind[dJ,SG]
theorem sR(n:Int):fC (zed n)=true:=by
 unfold fC;rw[kR,rT,mI];simp only[Bool.true_and,Bool.not_eq_true',Bool.and_eq_false_iff,decide_eq_false_iff_not]
 grind[nX,sC]
theorem cG(n:Int):gN (zed n)=n:=by
 unfold gN;rw[kR,rT,cX]
 grind
def vX{s:ByteArray}(h:fC s=true):zed (gN s)=s:=by
 unfold fC at h;simp only[Bool.and_eq_true,Bool.not_eq_true',Bool.and_eq_false_iff]at h;obtain⟨h1,T⟩:=h;have I:=kB h1;unfold gN;by_cases E:fY s=true
 ·have O:fT s≠dec 0:=by grind[nX]
  rw[if_pos E];have F:1<=gL (fT s):=by grind
  rw[Ek F];refine lB ?_;rw[lU,<-jL,I];unfold fT;rw[if_pos E,lU];unfold fY at E;cases J:bl s<;>grind
 simp_all[dJ,fT]
def adR{m n:Int}:zed m=zed n↔m=n:=⟨fun h=>by grind[cG],fun h=>by rw[h]⟩
def szZ(n:Int):ByteArray×Int:=if n.natAbs<cY then(zed n,0)else(emp,4)
def kJ(a b:ByteArray):Int:=if(!fC a|| !fC b)=true then 3 else if(decide ((fT a).size>4096)||decide ((fT b).size>4096))=true then 4 else 0
def KV(a b:ByteArray):ByteArray×Int:=if kJ a b=0 then szZ (gN a+gN b)else(emp,kJ a b)
def Y8(a b:ByteArray):ByteArray×Int:=if kJ a b=0 then szZ (gN a-gN b)else(emp,kJ a b)
def xW(a b:ByteArray):ByteArray×Int:=if kJ a b=0 then szZ (gN a*gN b)else(emp,kJ a b)
def wQ(a b:ByteArray):ByteArray×ByteArray×Int:=if kJ a b=0 then(if gN b=0 then(emp,emp,10)else(zed ((gN a).fdiv (gN b)),zed ((gN a).fmod (gN b)),0))else(emp,emp,kJ a b)
def hY(a b:Int):Int:=if a<b then -1 else if b<a then 1 else 0
def Tq(a b:ByteArray):Int:=if fC a=true/\fC b=true then hY (gN a) (gN b)else 0
def BI(a:ByteArray):Int:=if fC a=true then(gN a).sign else 0
def rF{m n:Int}(E:m.natAbs<cY)(F:n.natAbs<cY):kJ (zed m) (zed n)=0:=by grind[kJ,sR,kR,jZ]
def qD{a b:ByteArray}(h:kJ a b=0):∃m n:Int,a=zed m/\b=zed n/\m.natAbs<cY/\n.natAbs<cY:=by
 unfold kJ at h;split at h
 ·cases h
 ·rename_i h1;split at h
  ·cases h
  ·rename_i E;simp only[Bool.or_eq_true,Bool.not_eq_true',not_or,Bool.not_eq_false,decide_eq_true_eq,Nat.not_lt]at h1 E;have I:=vX h1.1;have F:=vX h1.2
   grind[kR,jZ]
def fG:UInt8:=47
def lV(s:ByteArray):Bool:=(bl s).any (· == fG)
def gX(s:ByteArray):ByteArray:=⟨((bl s).takeWhile (· != fG)).toArray⟩
def gQ(s:ByteArray):ByteArray:=if lV s=true then⟨(((bl s).dropWhile (· != fG)).drop 1).toArray⟩else dec 1
def bV(s:ByteArray):Bool:=(fC (gX s)&&eA (gQ s)&&decide ((fT (gX s)).size<=4096)&&decide ((gQ s).size<=4096)) &&
 (!lV s||(!eqB (gQ s) (dec 0)&& !eqB (gQ s) (dec 1)&& !eqB (gX s) (dec 0)&&Nat.gcd (gN (gX s)).natAbs (gL (gQ s)) == 1))
def oK(s:ByteArray):Rat:=mkRat (gN (gX s)) (gL (gQ s))
def slB:ByteArray:=⟨#[47]⟩
def lO(x:Rat):ByteArray:=if x.den=1 then zed x.num else zed x.num++slB++dec x.den
def uD(x:Rat):Prop:=x.num.natAbs<cY/\x.den<cY
theorem Ar{α:Type}{p:α->Bool}:∀{l:List α},(∀c∈l,p c=true)->l.takeWhile p=l
 | [],_=>rfl
 | a::l,h=>by rw[List.takeWhile_cons,if_pos (h a (by simp)),Ar fun c E=>h c (by simp[E])]
theorem FM{α:Type}{p:α->Bool}:∀{l:List α} {c:α},c∈l.takeWhile p->p c=true
 | [],c,h=>by simp at h
 | a::l,c,h=>by
  rw[List.takeWhile_cons]at h;split at h
  ·rename_i E;rcases List.mem_cons.1 h with rfl|h
   ·exact E
   ·exact FM h
  ·cases h
def SW{c:UInt8}(h:isD c=true):(c != fG)=true:=by have:=nC.1 h;simp only[bne_iff_ne,ne_eq];intro e;rw[e]at this;simp[fG]at this
def G0(n:Nat):∀c∈decDigits n,(c != fG)=true:=fun c E=>SW (List.all_eq_true.1 (AU n) c E)
def uU(n:Int):∀c∈itoa n,(c != fG)=true:=by
 intro c E;unfold itoa at E;split at E
 ·rcases List.mem_cons.1 E with rfl|E
  ·decide
  ·exact G0 _ c E
 ·exact G0 _ c E
def IW(n:Int):bl (zed n)=itoa n:=lU _
def auA:bl slB=[fG]:=rfl
def M6{l r:List UInt8}(h:∀c∈l,(c != fG)=true):(l++fG::r).takeWhile (· != fG)=l:=by rw[List.takeWhile_append_of_pos h];simp
def LE{l r:List UInt8}(h:∀c∈l,(c != fG)=true):(l++fG::r).dropWhile (· != fG)=fG::r:=by rw[List.dropWhile_append_of_pos h];simp
def rZ{l:List UInt8}(h:∀c∈l,(c != fG)=true):l.any (· == fG)=false:=by rw[List.any_eq_false];intro c E e;have:=h c E;simp at this e;exact this e
def xH(x:Rat):bl (lO x)=if x.den=1 then itoa x.num else itoa x.num++fG::decDigits x.den:=by
 unfold lO;split
 ·exact IW _
 ·rw[mT,mT,IW,jL,auA];simp
def JI(x:Rat):lV (lO x)= !(x.den == 1):=by
 unfold lV;rw[xH];split
 ·rename_i h;rw[rZ (uU _),h];rfl
 ·rename_i h;rw[List.any_append];simp[h]
def LT(x:Rat):gX (lO x)=zed x.num:=by
 refine lB ?_;unfold gX;rw[lU,xH,IW];split
 ·exact Ar (uU _)
 ·exact M6 (uU _)
def Mb(x:Rat):gQ (lO x)=dec x.den:=by
 unfold gQ;rw[JI,xH];by_cases h:x.den=1
 ·simp[h]
 ·simp only[h,beq_eq_false_iff_ne.2 h,Bool.not_false,if_true,if_false];rw[LE (uU _)];rfl
def fN(x:Rat):oK (lO x)=x:=by unfold oK;rw[LT,Mb,cG,cX,Rat.mkRat_self]
theorem rW(n:Int):(fT (zed n)).size<=4096↔n.natAbs<cY:=by rw[kR];exact jZ _
def qF{x:Rat}(h:uD x):bV (lO x)=true:=by
 unfold bV;rw[LT,Mb,sR,mI,JI,cG,cX];simp only[Bool.true_and,Bool.and_eq_true,decide_eq_true_eq,Bool.or_eq_true,Bool.not_not,beq_iff_eq,Bool.not_eq_true',nX,ne_eq];refine⟨⟨(rW _).2 h.1,(jZ _).2 h.2⟩,?_⟩;by_cases h1:x.den=1
 ·exact .inl h1
 ·refine .inr ⟨⟨⟨?_,?_⟩,?_⟩,x.reduced⟩
  ·rw[sC];exact x.den_nz
  ·rw[sC];exact h1
  ·rw[<-dJ,adR];intro h0;apply h1;have:=x.reduced;rw[h0]at this;simpa[Nat.Coprime]using this
def fF{s:ByteArray}(h:bV s=true):∃x:Rat,s=lO x/\uD x/\gX s=zed x.num/\gQ s=dec x.den:=by
 unfold bV at h;simp only[Bool.and_eq_true,decide_eq_true_eq,Bool.or_eq_true,Bool.not_eq_true',nX,ne_eq,beq_iff_eq]at h;obtain⟨⟨⟨⟨h1,h2⟩,h3⟩,h4⟩,I⟩:=h;have ep:=vX h1;have eq:=kB h2;have F:(gN (gX s)).natAbs.Coprime (gL (gQ s))/\gL (gQ s)≠0:=by
  rcases I with I|⟨⟨⟨Z,_⟩,_⟩,h7⟩
  ·have J:gQ s=dec 1:=by unfold gQ;rw[if_neg (by rw[I];simp)]
   rw[J,cX];exact⟨Nat.coprime_one_right _,by omega⟩
  ·exact⟨h7,fun e=>Z (by rw[<-eq,e])⟩
 let x:Rat:=⟨gN (gX s),gL (gQ s),F.2,F.1⟩
 have J:gX s=zed x.num:=ep.symm;have T:gQ s=dec x.den:=eq.symm;refine⟨x,lB ?_,⟨?_,?_⟩,J,T⟩
 ·rw[xH];have hn:bl (gX s)=(bl s).takeWhile (· != fG):=lU _;rw[J,IW]at hn;by_cases E:lV s=true
  ·have hd:bl (gQ s)=((bl s).dropWhile (· != fG)).drop 1:=by unfold gQ;rw[if_pos E,lU]
   rw[T,jL]at hd;have Y:x.den≠1:=fun e=>by
    rcases I with I|⟨⟨⟨_,Z⟩,_⟩,_⟩
    ·rw[E]at I;cases I
    ·exact Z (by rw[T,e])
   rw[if_neg Y,hn,hd]
   conv=>lhs;rw[<-List.takeWhile_append_dropWhile (p:=(· != fG)) (l:=bl s)]
   congr 1
   cases hw:(bl s).dropWhile (· != fG)with
   | nil=>exfalso;unfold lV at E;obtain⟨c,X,O⟩:=List.any_eq_true.1 E;rw[<-List.takeWhile_append_dropWhile (p:=(· != fG)) (l:=bl s),hw,List.append_nil]at X;have:=FM X;simp at this O;exact this O
   | cons c r=>
    have h0:(c != fG)=false:=by have:=List.head?_dropWhile_not (p:=(· != fG)) (l:=bl s);rw[hw]at this;simpa using this
    have:c=fG:=by simpa using h0
    rw[this];rfl
  ·have E:lV s=false:=by simpa using E
   have Y:x.den=1:=by
    have:gQ s=dec 1:=by unfold gQ;rw[E];rfl
    rw[T]at this;exact sC.1 this
   rw[if_pos Y,hn]
   symm
   refine Ar ?_;intro c X;unfold lV at E;rw[List.any_eq_false]at E;have:=E c X;simp at this |-;exact this
 ·rw[J]at h3;exact(rW _).1 h3
 ·rw[T]at h4;exact(jZ _).1 h4
def afJ{x y:Rat}:lO x=lO y↔x=y:=⟨fun h=>by rw[<-fN x,h,fN],fun h=>by rw[h]⟩
def nQ(n:Int):Bool:= !decide (n.natAbs<cY)
def yQ(x y:Rat):ByteArray×Int:=if(nQ (x.num*y.den)||nQ (y.num*x.den)||nQ (x.num*y.den+y.num*x.den)||nQ (x.den*y.den))=true then(emp,4)else(lO (x+y),0)
def wO(a b:ByteArray):ByteArray×Int:=if(bV a&&bV b)=true then yQ (oK a) (oK b)else(emp,3)
def DT(a b:ByteArray):ByteArray×Int:=if(bV a&&bV b)=true then yQ (oK a) (-oK b)else(emp,3)
def Hi(x y:Rat):ByteArray×Int:=if(nQ (x.num*y.num)||nQ (x.den*y.den))=true then(emp,4)else(lO (x*y),0)
def wN(a b:ByteArray):ByteArray×Int:=if(bV a&&bV b)=true then Hi (oK a) (oK b)else(emp,3)
def PE(x y:Rat):Int:=if x<y then -1 else if y<x then 1 else 0
def Hz(a b:ByteArray):Int:=if(bV a&&bV b)=true then PE (oK a) (oK b)else 0
def C5(a:ByteArray):Int:=if bV a=true then(oK a).num.sign else 0
def Yj{n:Int}{d:Nat}(E:d≠0):n.fdiv (Nat.gcd n.natAbs d:Nat)=(mkRat n d).num:=by rw[Rat.num_mkRat,if_neg E,Nat.gcd_comm];exact Int.fdiv_eq_ediv_of_nonneg _ (by omega)
def X4{n:Int}{d:Nat}(E:d≠0):(d:Int).fdiv (Nat.gcd n.natAbs d:Nat)=((mkRat n d).den:Int):=by rw[Rat.den_mkRat,if_neg E,Nat.gcd_comm,Int.fdiv_eq_ediv_of_nonneg _ (by omega)];rfl
def DY{n:Int}{d:Nat}(F:d≠0)(I:n.natAbs<cY)(E:d<cY):uD (mkRat n d):=by
 constructor
 ·rw[Rat.num_mkRat,if_neg F];have:(n/((d.gcd n.natAbs:Nat):Int)).natAbs<=n.natAbs:=by
   rw[Int.natAbs_ediv_of_dvd]
   ·exact Nat.div_le_self _ _
   ·exact Int.ofNat_dvd_left.2 (Nat.gcd_dvd_right _ _)
  omega
 ·rw[Rat.den_mkRat,if_neg F];exact Nat.lt_of_le_of_lt (Nat.div_le_self _ _) E
def Xu{n:Int}{d:Nat}(E:d≠0):0<Nat.gcd n.natAbs d:=Nat.gcd_pos_of_pos_right _ (by omega)
def MD{n:Int}{d:Nat}(E:d≠0)(h:d<cY):Nat.gcd n.natAbs d<cY:=Nat.lt_of_le_of_lt (Nat.gcd_le_right _ (by omega)) h
def iK{n:Int}:nQ n=false↔n.natAbs<cY:=by simp[nQ]
def PG(x y:Rat):x+y=mkRat (x.num*y.den+y.num*x.den) (x.den*y.den):=Rat.add_def' x y
def WG(x y:Rat):x*y=mkRat (x.num*y.num) (x.den*y.den):=Rat.mul_def' x y
def CN(x y:Rat):((x.den:Int)*y.den).natAbs=x.den*y.den:=by rw[Int.natAbs_mul,Int.natAbs_natCast,Int.natAbs_natCast]
def F7(x y:Rat):x.den*y.den≠0:=Nat.mul_ne_zero x.den_nz y.den_nz
def IC{x y:Rat}(h:(yQ x y).2=0):yQ x y=(lO (x+y),0)/\uD (x+y):=by
 unfold yQ at h |-;split at h
 ·cases h
 ·rename_i E;rw[if_neg E];simp only[Bool.or_eq_true,not_or,Bool.not_eq_true,iK]at E;exact⟨rfl,by rw[PG];exact DY (F7 x y) E.1.2 (by rw[<-CN];exact E.2)⟩
def QN{x y:Rat}(h:(Hi x y).2=0):Hi x y=(lO (x*y),0)/\uD (x*y):=by
 unfold Hi at h |-;split at h
 ·cases h
 ·rename_i E;rw[if_neg E];simp only[Bool.or_eq_true,not_or,Bool.not_eq_true,iK]at E;exact⟨rfl,by rw[WG];exact DY (F7 x y) E.1 (by rw[<-CN];exact E.2)⟩
def J7(p q r s:Int):Int:=hY (p*s) (r*q)
def qN{p q:Int}(E:0<q):p=p.fdiv q*q+p.fmod q/\0<=p.fmod q/\p.fmod q<q:=
 ⟨by rw[Int.mul_comm];exact(Int.mul_fdiv_add_fmod p q).symm,Int.fmod_nonneg_of_pos _ E,Int.fmod_lt_of_pos _ E⟩
theorem kH{a b:Int}(h:a<b):hY a b= -1:=if_pos h
theorem kD{a b:Int}(h:b<a):hY a b=1:=by unfold hY;rw[if_neg (by omega),if_pos h]
theorem tH{a b:Int}(h:a=b):hY a b=0:=by unfold hY;rw[if_neg (by omega),if_neg (by omega)]
def Gf{a b:Int}:hY a b=0↔a=b:=by
 unfold hY;constructor
 ·intro h;split at h
  ·cases h
  ·split at h
   ·cases h
   ·omega
 ·intro h;rw[if_neg (by omega),if_neg (by omega)]
def acA(a b:Int):hY b a= -hY a b:=by
 rcases Int.lt_trichotomy a b with h|h|h
 ·rw[kH h,kD h];rfl
 ·rw[tH h,tH h.symm];rfl
 ·rw[kD h,kH h]
def Qf{p q r s:Int}(F:0<q)(E:0<s)(h:p.fdiv q<r.fdiv s):p*s<r*q:=by
 obtain⟨J,a1,I⟩:=qN (p:=p) F;obtain⟨Y,a2,X⟩:=qN (p:=r) E;have h1:p*s<(p.fdiv q+1)*q*s:=by refine Int.mul_lt_mul_of_pos_right ?_ E;rw[Int.add_mul];omega
 have T:(p.fdiv q+1)*q*s<=r.fdiv s*q*s:=Int.mul_le_mul_of_nonneg_right (Int.mul_le_mul_of_nonneg_right (by omega) (by omega)) (by omega);have O:r.fdiv s*q*s<=r*q:=by rw[Int.mul_right_comm];exact Int.mul_le_mul_of_nonneg_right (by omega) (by omega)
 omega
def Ip{p q r s:Int}(F:0<q)(E:0<s)(h:p.fdiv q≠r.fdiv s):J7 p q r s=hY (p.fdiv q) (r.fdiv s):=by
 unfold J7;rcases Int.lt_or_gt_of_ne h with h|h
 ·rw[kH h,kH (Qf F E h)]
 ·rw[kD h,kD (Qf E F h)]
def LK{p q r s:Int}(T:0<q)(I:0<s)(h:p.fdiv q=r.fdiv s):J7 p q r s=hY (p.fmod q*s) (r.fmod s*q):=by
 obtain⟨F,_,_⟩:=qN (p:=p) T;obtain⟨X,_,_⟩:=qN (p:=r) I;unfold J7;have h1:p*s=p.fdiv q*q*s+p.fmod q*s:=by
  conv=>lhs;rw[F]
  rw[Int.add_mul]
 have J:r*q=p.fdiv q*q*s+r.fmod s*q:=by
  conv=>lhs;rw[X]
  rw[Int.add_mul,<-h,Int.mul_right_comm]
 rw[h1,J];unfold hY;have E:(p.fdiv q*q*s+p.fmod q*s<p.fdiv q*q*s+r.fmod s*q)↔p.fmod q*s<r.fmod s*q:=by omega
 have O:(p.fdiv q*q*s+r.fmod s*q<p.fdiv q*q*s+p.fmod q*s)↔r.fmod s*q<p.fmod q*s:=by omega
 simp only[E,O]
def MB(x q y s:Int):hY (x*s) (y*q)= -J7 q x s y:=by unfold J7;rw[Int.mul_comm q y,Int.mul_comm s x];exact acA _ _
def Wb(x y:Rat):PE x y=J7 x.num x.den y.num y.den:=by unfold PE J7 hY;simp only[Rat.lt_iff]
def ahN(n:Int):n.sign=hY n 0:=by
 rcases Int.lt_trichotomy n 0 with h|h|h
 ·rw[kH h,Int.sign_eq_neg_one_of_neg h]
 ·subst h;rfl
 ·rw[kD h,Int.sign_eq_one_of_pos h]
def LU(x:Rat):PE x 0=x.num.sign:=by rw[Wb,ahN];unfold J7;simp
def vC(b:Nat)(l:List Nat)(k:Nat):ofL b (l.take (k+1))=ofL b (l.take k)+b^k*l.getD k 0:=by
 cases h:l[k]? with
 | none=>have E:=List.getElem?_eq_none_iff.1 h;rw[List.take_of_length_le (by omega),List.take_of_length_le (by omega)];simp[List.getD,h]
 | some x=>rw[lJ b h];simp[List.getD,h]
def Lim.getD{b:Nat}(F:0<b){l:List Nat}(h:Lim b l)(k:Nat):l.getD k 0<b:=by
 cases E:l[k]? with
 | none=>simpa[List.getD,E]using F
 | some x=>simpa[List.getD,E]using h x (List.mem_of_getElem? E)
def Lim.snoc{b:Nat}{l:List Nat}(h:Lim b l){x:Nat}(F:x<b):Lim b (l++[x]):=fun y E=>by
 rcases List.mem_append.1 E with E|E
 ·exact h y E
 ·rw[List.mem_singleton.1 E];exact F
def Lim.set{b:Nat}{l:List Nat}(h:Lim b l){x k:Nat}(F:x<b):Lim b (l.set k x):=fun y E=>by
 rcases List.mem_or_eq_of_mem_set E with E|rfl
 ·exact h y E
 ·exact F
def Lim.take{b:Nat}{l:List Nat}(h:Lim b l)(k:Nat):Lim b (l.take k):=fun y E=>h y (List.mem_of_mem_take E)
def Lim.drop{b:Nat}{l:List Nat}(h:Lim b l)(k:Nat):Lim b (l.drop k):=fun y E=>h y (List.mem_of_mem_drop E)
def Lim.zeros{b:Nat}(E:0<b)(n:Nat):Lim b (List.replicate n 0):=fun y F=>by rw[(List.mem_replicate.1 F).2];exact E
def Bl(b:Nat){l:List Nat}{k x:Nat}(h:l[k]?=some x):ofL b (l.drop k)=x+b*ofL b (l.drop (k+1)):=by obtain⟨F,E⟩:=List.getElem?_eq_some_iff.1 h;rw[List.drop_eq_getElem_cons F,E,ofL]
def Vn{b:Nat}(I:0<b){l o:List Nat}{i n k c:Nat}(E:l[i]?=some n)(F:o.length=i)(h:ofL b o+b^i*c=ofL b (l.take i)*k):
  ofL b (o++[(n*k+c)%b])+b^(i+1)*((n*k+c)/b)=ofL b (l.take (i+1))*k:=by
 rw[vT,lJ b E,F,Nat.pow_succ];have e:=Nat.mod_add_div (n*k+c) b;have J:b^i*((n*k+c)%b+b*((n*k+c)/b))=b^i*(n*k+c):=by rw[e]
 grind
def RX{b:Nat}(F:0<b){x y o:List Nat}{i c:Nat}(E:o.length=i)(h:ofL b o+b^i*c=ofL b (x.take i)+ofL b (y.take i)):
  ofL b (o++[(x.getD i 0+y.getD i 0+c)%b])+b^(i+1)*((x.getD i 0+y.getD i 0+c)/b)=ofL b (x.take (i+1))+ofL b (y.take (i+1)):=by
 rw[vT,vC,vC,E,Nat.pow_succ];have e:=Nat.mod_add_div (x.getD i 0+y.getD i 0+c) b;have I:b^i*((x.getD i 0+y.getD i 0+c)%b+b*((x.getD i 0+y.getD i 0+c)/b))=b^i*(x.getD i 0+y.getD i 0+c):=by rw[e]
 grind
def Dm{b:Nat}{x y o:List Nat}{i c c' d:Nat}(E:o.length=i)(h:ofL b o+ofL b (y.take i)=ofL b (x.take i)+b^i*c)(F:d+y.getD i 0+c=x.getD i 0+b*c'):
  ofL b (o++[d])+ofL b (y.take (i+1))=ofL b (x.take (i+1))+b^(i+1)*c':=by
 rw[vT,vC,vC,E,Nat.pow_succ];have I:b^i*(d+y.getD i 0+c)=b^i*(x.getD i 0+b*c'):=by rw[F]
 grind
def GC{b x y c:Nat}(E:x<b)(I:y<b)(F:c<=1):(if(x:Int)-y-c<0 then(x:Int)-y-c+b else(x:Int)-y-c)=((if x<y+c then x+b-(y+c)else x-(y+c):Nat):Int):=by split <;> split <;> omega
def zT{b x y c:Nat}(E:x<b)(I:y<b)(F:c<=1):(if x<y+c then x+b-(y+c)else x-(y+c))+y+c=x+b*(if x<y+c then 1 else 0)/\(if x<y+c then x+b-(y+c)else x-(y+c))<b:=by split <;> constructor <;> omega
def Fx{b:Nat}(T:2<=b){x y o:List Nat}{c:Nat}(J:Lim b o)(X:Lim b x)(O:o.length=x.length)(F:y.length<=x.length)(I:ofL b y<=ofL b x)(Y:c<=1)(h:ofL b o+ofL b (y.take x.length)=ofL b (x.take x.length)+b^x.length*c):
  c=0/\ofL b o=ofL b x-ofL b y:=by
 rw[List.take_of_length_le F,List.take_length]at h;have h1:=kM (by omega) J;rw[O]at h1;rcases Nat.eq_zero_or_pos c with E|E
 ·subst E;rw[Nat.mul_zero]at h;omega
 ·have:c=1:=by omega
  subst this;rw[Nat.mul_one]at h;omega
def QT{b:Nat}(O:0<b){y out E:List Nat}{i k x c v F:Nat}(I:out[i+k]?=some v)(J:y[k]?=some F)(h:ofL b out+b^(i+k)*c=ofL b E+b^i*(x*ofL b (y.take k))):
  ofL b (out.set (i+k) ((v+x*F+c)%b))+b^(i+(k+1))*((v+x*F+c)/b)=ofL b E+b^i*(x*ofL b (y.take (k+1))):=by
 have h1:=N4 b out (i+k) v ((v+x*F+c)%b) I;have e:=Nat.mod_add_div (v+x*F+c) b;have X:b^(i+k)*((v+x*F+c)%b+b*((v+x*F+c)/b))=b^(i+k)*(v+x*F+c):=by rw[e]
 rw[lJ b J,show i+(k+1)=(i+k)+1 by omega,Nat.pow_succ];have T:b^(i+k)=b^i*b^k:=Nat.pow_add b i k
 grind
def YN{b:Nat}{y out E:List Nat}{i x c:Nat}(F:out[i+y.length]?=some 0)(h:ofL b out+b^(i+y.length)*c=ofL b E+b^i*(x*ofL b (y.take y.length))):
  ofL b (out.set (i+y.length) c)=ofL b E+b^i*(x*ofL b y):=by
 have h1:=N4 b out (i+y.length) 0 c F;rw[List.take_length]at h;rw[<-h];omega
def Tn{b r a:Nat}(Y:2<=b){l:List Nat}{i x:Nat}{E:List Nat}(J:l[i]?=some x)(X:x<b)(O:r<a)(T:i<E.length)(h:ofL b (l.drop (i+1))=ofL b (E.drop (i+1))*a+r):
  ofL b (l.drop i)=ofL b ((E.set i ((x+b*r)/a)).drop i)*a+(x+b*r)%a/\(x+b*r)/a<b/\(x+b*r)%a<a:=by
 have F:0<a:=by omega
 have I:(E.set i ((x+b*r)/a))[i]?=some ((x+b*r)/a):=by simp[T]
 refine⟨?_,?_,Nat.mod_lt _ F⟩
 ·rw[Bl b J,Bl b I,h,List.drop_set_of_lt (by omega)];have e:=Nat.mod_add_div (x+b*r) a
  grind
 ·rw[Nat.div_lt_iff_lt_mul F];have:b*(r+1)<=b*a:=Nat.mul_le_mul_left _ O;rw[Nat.mul_add]at this;omega
def aqB{q r a n:Nat}(E:r<a)(h:n=q*a+r):q=n/a/\r=n%a:=by
 subst h;have F:0<a:=by omega
 constructor
 ·rw[Nat.add_comm,Nat.add_mul_div_right _ _ F,Nat.div_eq_of_lt E,Nat.zero_add]
 ·rw[Nat.add_comm,Nat.add_mul_mod_self_right,Nat.mod_eq_of_lt E]
def afP(l:List UInt8):∀a:Nat,l.foldl (fun a c=>10*a+(c.toNat-48)) a=a*10^l.length+jY l:=by
 induction l with
 | nil=>intro a;simp[jY]
 | cons c l ih=>
  intro a;have h1:=ih (10*a+(c.toNat-48));have E:=ih (10*0+(c.toNat-48));simp only[List.foldl_cons,jY]at h1 E |-;rw[h1,E,List.length_cons,Nat.pow_succ]
  grind
def wY(a b:List UInt8):jY (a++b)=jY a*10^b.length+jY b:=by rw[jY,List.foldl_append];exact afP b _
def HK{l:List UInt8}(h:l.all isD=true):jY l<10^l.length:=by
 induction l using HL with
 | h0=>simp[jY]
 | h1 l c ih=>rw[List.all_append]at h;simp only[Bool.and_eq_true,List.all_cons,List.all_nil,Bool.and_true]at h;have:=ih h.1;have E:=nC.1 h.2;rw[qI,List.length_append,List.length_cons,List.length_nil,Nat.pow_succ];omega
def Qz:Nat->Nat->List UInt8
 | 0,_=>[]
 | k+1,x=>Qz k (x/10)++[UInt8.ofNat (48+x%10)]
def Ms:∀(k x m:Nat),x<10^k->m≠0->decDigits (x+10^k*m)=decDigits m++Qz k x
 | 0,x,m,hx,hm=>by
  have:x=0:=by simpa using hx
  subst this;simp[Qz]
 | k+1,x,m,hx,hm=>by
  rw[Nat.pow_succ]at hx;have h1:10^(k+1)*m=10*(10^k*m):=by rw[Nat.pow_succ,Nat.mul_comm (10^k) 10,Nat.mul_assoc]
  have E:0<10^k*m:=Nat.mul_pos (Nat.pow_pos (by omega)) (by omega);rw[h1,decDigits,dif_neg (by omega),show(x+10*(10^k*m))/10=x/10+10^k*m by omega,show(x+10*(10^k*m))%10=x%10 by omega,Ms k (x/10) m (by omega) hm,Qz,List.append_assoc]
def aaB(k:Nat):Qz k 0=List.replicate k 48:=by
 induction k with
 | zero=>rfl
 | succ k ih=>rw[Qz,Nat.zero_div,ih,List.replicate_succ'];rfl
def X8:∀(k x:Nat),1<=k->x<10^k->Qz k x=List.replicate (k-(decDigits x).length) 48++decDigits x
 | 0,x,hk,hx=>by omega
 | k+1,x,hk,hx=>by
  rw[Qz];by_cases F:x<10
  ·rw[show x/10=0 by omega,aaB,decDigits_one F];simp[Nat.mod_eq_of_lt F]
  ·have E : 1 <= k := by
    rcases Nat.eq_zero_or_pos k with h|h
    ·subst h;simp at hx;omega
    ·exact h
   rw[Nat.pow_succ]at hx;rw[X8 k (x/10) E (by omega)]
   conv=>rhs;rw[decDigits,dif_neg F]
   rw[List.length_append,List.length_cons,List.length_nil,List.append_assoc,show k+1-((decDigits (x/10)).length+(0+1))=k-(decDigits (x/10)).length by omega]
def awS(x:Nat):List UInt8:=List.replicate (9-(decDigits x).length) 48++decDigits x
def aiZ{x m:Nat}(E:x<1000000000)(F:m≠0):decDigits (x+1000000000*m)=decDigits m++awS x:=by have:=Ms 9 x m E F;rw[X8 9 x (by omega) E]at this;exact this
def akQ{b:Nat}(E:2<=b){n k:Nat}(F:k<(aZ b n).length):ofL b ((aZ b n).drop k)≠0:=by
 intro h;have O:n≠0:=fun e=>by subst e;rw[eG]at F;simp at F
 have h1:=Vv E O;have I:ofL b (aZ b n)=ofL b ((aZ b n).take k)+b^k*ofL b ((aZ b n).drop k):=by have:=sH b ((aZ b n).take k) ((aZ b n).drop k);rw[List.take_append_drop,List.length_take,Nat.min_eq_left (by omega)]at this;exact this
 rw[cR E,h,Nat.mul_zero,Nat.add_zero]at I;have J:=kM (b:=b) (by omega) ((cK E n).take k);rw[List.length_take,Nat.min_eq_left (by omega),<-I]at J;have:b^k<=b^((aZ b n).length-1):=Nat.pow_le_pow_right (by omega) (by omega);omega
def dl(l:List UInt8):List Nat:=(l.map fun c=>c.toNat-48).reverse
def JV(l:List UInt8):(dl l).length=l.length:=by simp[dl]
def Wq(l:List UInt8):ofL 10 (dl l)=jY l:=by
 induction l using HL with
 | h0=>rfl
 | h1 l c ih=>rw[qI,<-ih];simp only[dl,List.map_append,List.map_cons,List.map_nil,List.reverse_append,List.reverse_cons,List.reverse_nil,List.nil_append,List.singleton_append,ofL];omega
def Wy{l:List UInt8}(h:l.all isD=true):Lim 10 (dl l):=by intro x E;simp only[dl,List.mem_reverse,List.mem_map]at E;obtain⟨c,F,rfl⟩:=E;have:=nC.1 (List.all_eq_true.1 h c F);omega
def txt(l:List Nat):List UInt8:=(l.map fun x=>UInt8.ofNat (48+x)).reverse
def apO{l:List Nat}(h:Lim 10 l):(txt l).all isD=true:=by rw[List.all_eq_true];intro c E;simp only[txt,List.mem_reverse,List.mem_map]at E;obtain⟨x,F,rfl⟩:=E;have:=h x F;rw[nC,qA this];omega
def avR{l:List Nat}(h:Lim 10 l):dl (txt l)=l:=by
 simp only[dl,txt,List.map_reverse,List.reverse_reverse,List.map_map]
 conv=>rhs;rw[<-List.map_id l]
 refine List.map_congr_left fun x E=>?_
 simp only[Function.comp,qA (h x E),id];omega
def ahS{l:List Nat}(h:Lim 10 l):jY (txt l)=ofL 10 l:=by rw[<-Wq,avR h]
def Gj{n:Nat}(E:n≠0):txt (aZ 10 n)=decDigits n:=by
 induction n using Nat.strongRecOn with
 | _ n ih=>
  rw[oE (by omega) E,decDigits];simp only[txt,List.map_cons,List.reverse_cons];split
  ·rename_i h;rw[show n/10=0 by omega,eG,Nat.mod_eq_of_lt h];rfl
  ·rename_i h;rw[<-ih (n/10) (by omega) (by omega)];rfl
end Go.Nu
end
section
namespace Go.Proofs.YtpagaknmdfgfkaaGreatDoor.Nu
open Go.Proofs.Tryz
open Go.Aw Go.Aw.D Go.Proofs Ty Go.Nu
abbrev bas:Nat:=1000000000
def gC(n:Nat):List AV:=[int n]
def Tw(n:Nat):(gC n).length=1:=(rfl)
def asJ(n:Nat):(gC n).getD 0 .any=int n:=(rfl)
attribute [go_sem] Tw asJ
theorem cI{H:aG}{k:IntKind}{a b:Int}(h:a=b):Conv H (.v (.int k a)) (.v (.int k b)):=h▸.refl _
theorem cB{H:aG}{a b:Bool}(h:a=b):Conv H (.v (.bool a)) (.v (.bool b)):=h▸.refl _
def cS{H:aG}{a b:ByteArray}(h:a=b):Conv H (.v (.string a)) (.v (.string b)):=h▸.refl _
def ltB{k n:Nat}(h:decide ((k:Int)<(n:Int))=true):k<n:=by grind
def geB{k n:Nat}(E:k<=n)(h:decide ((k:Int)<(n:Int))=false):k=n:=by grind
def axA(s:ByteArray):s.toList=bl s:=ByteArray.toList_eq s
def axL(l:List Nat):dM 1 (l.map gC):=zS Tw l
def awF(s:ByteArray)(k:Nat):s.data.getD k 0=(bl s).getD k 0:=by grind[bl,Array.getD_eq_getD_getElem?]
def auN(a:Array UInt8):bl ⟨a⟩=a.toList:=rfl
attribute [go_sem] axA awF auN
def VT{α:Type}{q:α->Bool}{l:List α}{k:Nat}{c:α}(h:l[k]?=some c)(E:q c=false):l.all q=false:=by grind
def OV{α:Type}{q:α->Bool}{l:List α}(h:∀c∈l,q c=true):l.all q=true:=Xaj.2 h
def gS{α:Type}{p:α->Prop}{l:List α}{k:Nat}{x:α}(E:l[k]?=some x)(F:p x)(h:∀x∈l.take k,p x):∀x∈l.take (k+1),p x:=by
 rw[bA E]
 grind
def awY{c:UInt8}{n:Nat}(E:n<256):(((c.toNat:Int) == (n:Int))=true)↔c=UInt8.ofNat n:=by
 rw[Xav]
 grind[UInt8.ofNat_toNat,UInt8.toNat_ofNat']
def Wt(l:List UInt8):(l == []||(((l.getD 0 0).toNat:Int) == 48&& !(l == [48])))= !(l != []&&(l.length == 1||l.getD 0 0 != 48)):=by
 cases l with
 | nil=>rfl
 | cons c r=>
  have E:(((c.toNat:Int) == 48)=true)↔c=48:=awY (n:=48) (by omega)
  grind
def O9(c:UInt8):(decide ((c.toNat:Int)<48)||decide ((c.toNat:Int)>57))= !isD c:=by
 unfold isD
 grind
def u8w{n:Nat}(h:48<=n)(E:n<256):IntKind.u8.wrap ((n:Int)-48)=((n-48:Nat):Int):=by have e:IntKind.u8.wrap ((n:Int)-48)=((n:Int)-48)%256:=rfl;omega
def tG{l:List UInt8}{k:Nat}{c:UInt8}(h:l[k]?=some c):l.getD k 0=c:=by grind
def DZ(s:ByteArray)(h:s.size<=4611686018427387904):PC prog 97 [str s] (boo (eA s)):=by
 have hs:=dF s;refine pcd func97 rfl rfl ?_;simp only[go_sem];refine⟨fun h0=>⟨by omega,?_⟩,?_⟩
 ·have:bl s≠[]:=by simpa using h0
  have:=List.length_pos_iff.2 this;omega
 rw[Wt];refine aA (fun O=>?_) (fun O=>?_)
 ·simp only[go_sem];refine cB ?_;unfold eA eZ;rw[Xax]at O;rw[O];rfl
 rw[Xbw]at O;simp only[go_sem];refine⟨fun ρ _=>∃k:Nat,k<=(bl s).length/\ρ 0=str s/\ρ 16=int s.size/\ρ 17=int k/\∀c∈(bl s).take k,isD c=true,fun ρ _=>(bl s).length-aR (ρ 17),⟨0,Xaa _,rfl,rfl,rfl,by simp⟩,?_⟩;rintro ρ H ⟨k,Z,h0,T,J,X⟩;simp only[go_sem,T,J];refine aA (fun F=>?_) (fun E=>?_)
 ·have F:k<(bl s).length:=by have:=ltB F;omega
  obtain⟨c,Y⟩:=aK F;have hi:=tG Y;simp only[go_sem,h0,J,hi,O9];refine⟨⟨by omega,by omega⟩,fun _=>⟨by omega,by omega⟩,aA (fun I=>?_) (fun I=>?_)⟩
  ·simp only[go_sem];refine cB ?_;unfold eA eZ;rw[VT Y (by simpa using I),Bool.and_false]
  ·simp only[go_sem,h0,T,J,aQ k];exact⟨⟨k+1,F,rfl,gS Y (by simpa using I) X⟩,by simp only[aL];omega⟩
 ·have E:k=(bl s).length:=by rw[<-hs]at E;exact geB Z E
  subst E;rw[Xad]at X;simp only[go_sem];refine cB ?_;unfold eA eZ;rw[O,OV X];rfl
def zH:∀(l:List Nat) (x:Nat),oT (l++[x])=if x=0 then oT l else l++[x]
 | [],x=>by simp only[Xbn,oT]
 | y::l,x=>by
  rw[Xch,oT,zH l x];by_cases h:x=0
  ·rw[if_pos h,if_pos h,oT]
  ·rw[if_neg h,if_neg h];cases l <;> rfl
def avZ(l:List Nat)(h:l.length<=4611686018427387904):PC prog 219 [.sl (l.map gC)] (.sl ((oT l).map gC)):=by
 refine pcd func219 rfl rfl ?_;simp only[go_sem];refine⟨fun ρ _=>∃k:Nat,k<=l.length/\ρ 0=.sl ((l.take k).map gC)/\oT (l.take k)=oT l,fun ρ _=>match ρ 0 with| .sl es=>es.length|_=>0,⟨l.length,Xaf _,by rw[Xad];rfl,by rw[Xad]⟩,?_⟩;rintro ρ H ⟨k,hk,h0,F⟩;have I:(l.take k).length=k:=by rw[Xap];omega
 cases k with
 | zero=>
  simp only[go_sem,h0,show decide (((0:Nat):Int)>0)=false from rfl];refine aA (fun J=>by cases J) (fun _=>?_);simp only[go_sem,h0];have T:oT l=[]:=by rw[<-F];rfl
  rw[T];exact .refl _
 | succ k=>
 have Z:IntKind.i64.wrap (((k+1:Nat):Int)-1)=(k:Int):=by rw[aU (by omega)];omega
 obtain⟨x,Y⟩:=aK (show k<l.length by omega);have X:(l.take (k+1))[k]?=some x:=by rw[List.getElem?_take,if_pos (by omega)];exact Y
 have O:l.take (k+1)=l.take k++[x]:=bA Y;simp only[go_sem,h0,I,Z,aC X,show decide (((k+1:Nat):Int)>0)=true from decide_eq_true (by omega)];refine⟨⟨by omega,by omega⟩,aA (fun J=>?_) (fun J=>?_)⟩
 ·have E:x=0:=by simpa using J
  simp only[go_sem,h0,I,Z];refine⟨by omega,⟨⟨k,by omega,?_,?_⟩,?_⟩⟩
  ·rw[<-List.map_take,List.take_take,Xcr (by omega)]
  ·rw[O,zH,if_pos E]at F;exact F
  ·rw[<-List.map_take,Xab,Xap];omega
 ·have E:x≠0:=by simpa using J
  simp only[go_sem,h0];rw[O,zH,if_neg E]at F;rw[O,F];exact .refl _
abbrev nl(n:Nat):AV:=.sl ((aZ bas n).map gC)
def OX:nl 0=.sl []:=by simp only[nl,eG];rfl
def MA{l:List Nat}(F:Lim bas l)(h:l.length<=4611686018427387904){n:Nat}(E:ofL bas l=n):PC prog 219 [.sl (l.map gC)] (nl n):=by
 have:=avZ l h
 rwa [NR (by decide) F E]at this
def bY(l:List Nat):Row:=⟨3,1,l.map gC⟩
def rM{H:aG}{k:Nat}{l:List Nat}{x:Nat}:aM H k (some ⟨3,1,l.map gC++[[int (x:Int)]]⟩) k=some (bY (l++[x])):=by rw[aB];simp only[bY,Xam,Xba,Xbz];rfl
def agU(s:ByteArray)(hr:(bl s).all isD=true)(h:s.size<=4096):PC prog 218 [str s] (nl (gL s)):=by
 have hs:=dF s;refine pcb (fun t=>t == 3) func218 rfl rfl ?_;simp only[go_sem];refine aN fun j hj=>?_
 simp only[go_sem];refine⟨fun ρ H=>∃(m j:Nat) (o:List Nat),m<=(bl s).length/\ρ 0=str (s.extract 0 m)/\ρ 3=.os j/\H j=some (bY o)/\Lim bas o/\o.length<=(bl s).length-m/\ofL bas o+bas^o.length*jY ((bl s).take m)=gL s,fun ρ _=>match ρ 0 with| .v (.string t)=>t.size|_=>0,⟨(bl s).length,j,[],Xaf _,?_,rfl,aB _ _ _,by simp[Lim],by simp,?_⟩,?_⟩
 ·rw[show s.extract 0 (bl s).length=s from lB (by rw[gD,Xad,Xbx])];rfl
 ·rw[Xad];simp[ofL,gL]
 clear hj j;rintro ρ H ⟨m,j,o,hm,h0,O,T,ho,ac,hv⟩;have E:(s.extract 0 m).size=m:=by rw[<-dF,gD,Xbx,Xap];omega
 simp only[go_sem,h0,E];refine aA (fun hb=>?_) (fun hb=>?_)
 ·have Y:0<m:=by simpa using hb
  have e9:eN 0 (IntKind.i64.wrap ((m:Int)-9))=((m-9:Nat):Int):=by rw[aU (by omega)];unfold eN;split <;> omega
  simp only[go_sem,h0,E];refine⟨fun ρ H=>∃i:Nat,m-9<=i/\i<=m/\ρ 0=str (s.extract 0 m)/\ρ 3=.os j/\ρ 4=int (m-9:Nat)/\ρ 5=int (jY (((bl s).take i).drop (m-9)):Nat)/\ρ 6=int i/\H j=some (bY o),fun ρ _=>m-aR (ρ 6),
   ⟨m-9,Xaf _,by omega,h0,O,?_,?_,?_,T⟩,?_⟩
  ·simp only[go_sem,e9]
  ·simp only[go_sem];rw[List.drop_eq_nil_of_le (by rw[Xap];omega)];rfl
  ·simp only[go_sem,e9]
  clear h0 O T;rintro ρ H ⟨i,ad,ab,h0,O,h4,h5,h6,T⟩;simp only[go_sem,h0,h6,E];refine aA (fun J=>?_) (fun F=>?_)
  ·have J:i<m:=ltB J;obtain⟨c,I⟩:=aK (show i<(bl s).length by omega);have hx:(bl (s.extract 0 m)).getD i 0=c:=by rw[gD,Xbx];exact tG (by rw[List.getElem?_take,if_pos J];exact I)
   have hd:=nC.1 (Xaj.1 hr c (Xac I));have aa:=HK (l:=((bl s).take i).drop (m-9)) (Xaj.2 fun c I=>Xaj.1 hr c (Xco (List.mem_of_mem_drop I)));have Z:10^(((bl s).take i).drop (m-9)).length<=10^9:=Xau (by omega) (by rw[Xbr,Xap];omega);have e1:((bl s).take (i+1)).drop (m-9)=((bl s).take i).drop (m-9)++[c]:=by rw[bA I,List.drop_append_of_le_length (by rw[Xap];omega)]
   have e2:IntKind.i64.wrap (IntKind.i64.wrap (10*((jY (((bl s).take i).drop (m-9)):Nat):Int))+IntKind.i64.wrap (IntKind.u8.wrap ((c.toNat:Int)-48)))=((jY (((bl s).take (i+1)).drop (m-9)):Nat):Int):=by rw[e1,qI,u8w hd.1 (by omega)];generalize jY (((bl s).take i).drop (m-9))=V at *;rw[show IntKind.i64.wrap (10*(V:Int))=10*(V:Int)from aU (by omega),show IntKind.i64.wrap (((c.toNat-48:Nat):Int))=((c.toNat-48:Nat):Int)from aU (by omega),aU (by omega)];omega
   simp only[go_sem,h0,O,h4,h5,h6,E,hx,e2,aQ i];exact⟨⟨by omega,by omega⟩,⟨i+1,by omega,by omega,rfl,rfl,T⟩,by simp only[aL];omega⟩
  ·have F:i=m:=geB ab F;subst F;simp only[go_sem,O,h5,];have hL:(((bl s).take i).drop (i-9)).length=i-(i-9):=by rw[Xbr,Xap];omega
   have hA:(((bl s).take i).drop (i-9)).all isD=true:=Xaj.2 fun c I=>Xaj.1 hr c (Xco (List.mem_of_mem_drop I))
   have aa:=HK hA;have Z:10^(((bl s).take i).drop (i-9)).length<=10^9:=Xau (by omega) (by omega);have X:jY ((bl s).take i)=jY ((bl s).take (i-9))*10^(((bl s).take i).drop (i-9)).length+jY (((bl s).take i).drop (i-9)):=by
    rw[<-wY]
    congr 1
    conv=>lhs;rw[<-Xci (i-9) ((bl s).take i)]
    rw[List.take_take,Xcr (by omega)]
   generalize jY (((bl s).take i).drop (i-9))=x at *;refine aY T ⟨rfl,rfl⟩ ⟨rfl,trivial⟩ (by simp only[bY,Xab,Xai,List.length_nil];omega) (fun j' ae=>?_);simp only[go_sem,h0,h4,E];refine⟨⟨by omega,by omega⟩,⟨⟨i-9,j',o++[x],by omega,?_,rfl,rM,ho.snoc (show x<1000000000 by omega),?_,?_⟩,?_⟩⟩
   ·congr 2
    refine lB ?_;rw[gD,gD,gD];simp only[Xbx,List.take_take];rw[Xcr (by omega)]
   ·rw[Xae,Xai,List.length_nil];omega
   ·rw[<-hv,X,vT,Xae,Xai,List.length_nil,Xbj];by_cases h9:9<=i
    ·rw[hL,show i-(i-9)=9 by omega]
     grind
    ·rw[show i-9=0 by omega];simp only[List.take_zero,jY,List.foldl_nil]
     grind
   ·rw[<-dF,gD,gD];simp only[Xbx,Xap];omega
 ·have Y:m=0:=by simpa using hb
  subst Y;simp only[go_sem,O];refine PC.useF [j] (.cons _ _ _ _ (.row _ _ _ (by simp[T];rfl) (ConvE.refl _)) .nil) (MA ho (by omega) (n:=gL s) (by rw[<-hv];simp[jY])) ?_;simp only[go_sem];exact .refl _
def neN{a b:Nat}(h:((a:Int) != (b:Int))=true):a≠b:=by grind
def eqN{a b:Nat}(h:((a:Int) != (b:Int))=false):a=b:=by grind
theorem amZ{a b:Int}(h:a<=b):hY a b<=0:=by unfold hY;omega
def Yf(n:Int):PC prog 279 [int n] (boo false):=by
 refine pcd func279 rfl rfl ?_;simp only[go_sem]
 grind[cB]
def Fb(a b:Int):PC prog 238 [int a,int b] (int (hY a b)):=by
 refine pcd func238 rfl rfl ?_;simp only[go_sem];refine aH (Yf a) ?_;simp only[go_sem];refine aH (Yf b) ?_;simp only[go_sem];refine aA (fun h=>by cases h) (fun _=>?_);simp only[go_sem];refine aA (fun h=>by cases h) (fun _=>?_);simp only[go_sem];apply aA <;> intro h
 ·simp only[go_sem]
  grind[cI,kH]
 ·simp only[go_sem];apply aA <;> intro E
  ·simp only[go_sem]
   grind[cI,kD]
  ·simp only[go_sem]
   grind[cI,tH]
def VI(l:List Nat)(i:Nat)(I:i<=4611686018427387904):PC prog 196 [.sl (l.map gC),int i] (int (l.getD i 0:Nat)):=by
 refine pcd func196 rfl rfl ?_;simp only[go_sem];apply aA <;> intro h
 ·have h:=ltB h;obtain⟨x,F⟩:=aK h;have E:=inB h;simp only[go_sem,aC F,E]
  grind[cI]
 ·simp only[go_sem]
  grind[cI]
theorem aoB{l r:List Nat}(X:Lim bas l)(J:Lim bas r)(E:l.length=r.length){k x y:Nat}(I:l[k]?=some x)(T:r[k]?=some y)(O:l.drop (k+1)=r.drop (k+1))(F:x≠y):hY (x:Int) y=hY (ofL bas l) (ofL bas r):=by
 rcases Nat.lt_or_gt_of_ne F with h|h
 ·have:=LL (b:=bas) (by decide) X J E I T h O
  grind[kH]
 ·have:=LL (b:=bas) (by decide) J X E.symm T I h O.symm
  grind[kD]
def Fi(m n:Nat)(hm:(aZ bas m).length<=1048576)(hn:(aZ bas n).length<=1048576):PC prog 197 [nl m,nl n] (int (hY m n)):=by
 have om:=cR (b:=bas) (by decide) m;have on:=cR (b:=bas) (by decide) n;have lm:=cK (b:=bas) (by decide) m;have ln:=cK (b:=bas) (by decide) n;have aa:(aZ bas m).length<(aZ bas n).length->m<n:=MZ (by decide);have Z:(aZ bas n).length<(aZ bas m).length->n<m:=MZ (by decide);simp only[nl];generalize aZ bas m=a at *;generalize aZ bas n=b at *;refine pcd func197 rfl rfl ?_;simp only[go_sem];apply aA <;> intro h
 ·simp only[go_sem];refine aH (Fb _ _) ?_;simp only[go_sem]
  grind[cI,kH,kD]
 have X:a.length=b.length:=eqN h;simp only[go_sem];refine⟨fun ρ _=>∃k:Nat,k<=a.length/\ρ 0=.sl (a.map gC)/\ρ 1=.sl (b.map gC)/\ρ 5=int ((k:Int)-1)/\a.drop k=b.drop k,fun ρ _=>match ρ 5 with| .v (.int _ z)=>(z+1).toNat|_=>0,⟨a.length,Xaf _,rfl,rfl,by simp only[go_sem,xK (show a.length<=4611686018427387904 by omega)],by rw[List.drop_eq_nil_of_le (Xaf _),List.drop_eq_nil_of_le (by omega)]⟩,?_⟩;rintro ρ H ⟨k,hk,h0,h1,E,hd⟩;simp only[go_sem,E];apply aA <;> intro hb
 ·have F:0<k:=by grind
  obtain⟨k,rfl⟩:∃j,k=j+1:=⟨k-1,by omega⟩;rw[show((k+1:Nat):Int)-1=(k:Int)by omega]at E |-;obtain⟨x,J⟩:=aK (show k<a.length by omega);obtain⟨y,Y⟩:=aK (show k<b.length by omega);have T:=inB (show k<a.length by omega);have O:=inB (show k<b.length by omega);simp only[go_sem];refine dK ?_;simp only[go_sem,h0,h1,E,aC J,aC Y,T,O];apply aA <;> intro I
  ·simp only[go_sem];refine dK ?_;simp only[go_sem,h0,h1,E,aC J,aC Y,T,O];refine⟨_,(Fb x y).q rfl,?_⟩;simp only[go_sem]
   grind[cI,aoB]
  ·have ab:x=y:=eqN I;simp only[go_sem,h0,h1,E,xK (show k<=4611686018427387904 by omega)]
   grind[Xck]
 ·have F:k=0:=by grind
  subst F;simp only[go_sem]
  grind[cI,tH]
def tw(a b:ByteArray)(n:Nat):List (List AV):=if jT a b=0 then(aZ bas n).map gC else[]
def Ij{a b:ByteArray}{n:Nat}(h:jT a b=0):tw a b n=(aZ bas n).map gC:=if_pos h
def XV{a b:ByteArray}{n:Nat}(h:jT a b≠0):tw a b n=[]:=if_neg h
def QK(a b:ByteArray)(T:a.size<=1048576)(J:b.size<=1048576):PC prog 163 [str a,str b] (.tup [.sl (tw a b (gL a)),.sl (tw a b (gL b)),int (jT a b)]):=by
 refine pcd func163 rfl rfl ?_;simp only[go_sem];refine aH (DZ a (by omega)) ?_;simp only[go_sem];refine⟨_,fun _=>(DZ b (by omega)).q rfl,?_⟩;simp only[go_sem];apply aA <;> intro h
 ·simp only[go_sem];have e:jT a b=3:=by simp_all[jT]
  rw[XV (by omega),XV (by omega),e];exact .refl _
 have F:eA a=true/\eA b=true:=by grind
 simp only[go_sem];apply aA <;> intro O
 ·simp only[go_sem];have I:(decide (a.size>4096)||decide (b.size>4096))=true:=by grind
  have e:jT a b=4:=by simp_all[jT]
  rw[XV (by omega),XV (by omega),e];exact .refl _
 have E:a.size<=4096/\b.size<=4096:=by grind
 have e:jT a b=0:=HW F.1 F.2 E.1 E.2;have d:∀{s:ByteArray},eA s=true->(bl s).all isD=true:=fun h=>by simp_all[eA,eZ]
 simp only[go_sem];refine aH (agU a (d F.1) E.1) ?_;simp only[go_sem];refine aH (agU b (d F.2) E.2) ?_;simp only[go_sem];rw[Ij e,Ij e,e];exact .refl _
def CL{H:aG}{j:Nat}:aM H j (some ⟨3,1,[]⟩) j=some (bY []):=aB _ _ _
def XG(m k:Nat)(hm:(aZ bas m).length<=1048576)(hk:k<bas):PC prog 221 [nl m,int k] (nl (m*k)):=by
 have hk:k<1000000000:=hk;have om:=cR (b:=bas) (by decide) m;have lm:=cK (b:=bas) (by decide) m;simp only[nl];generalize aZ bas m=l at *;have ad:IntKind.i64.wrap ((l.length:Int)+1)=((l.length+1:Nat):Int):=mC (by omega);refine pcb (fun t=>t == 5) func221 rfl rfl ?_;simp only[go_sem];refine⟨by omega,aN fun j hj=>?_⟩;simp only[go_sem];refine⟨fun ρ H=>∃(i j c:Nat) (o:List Nat),i<=l.length/\ρ 1=int k/\ρ 13=.sl (l.map gC)/\ρ 14=int l.length/\ρ 5=.os j/\ρ 6=int c/\ρ 15=int i/\H j=some (bY o)/\Lim bas o/\o.length=i/\c<1000000000/\ofL bas o+bas^i*c=ofL bas (l.take i)*k,fun ρ _=>l.length-aR (ρ 15),
  ⟨0,j,0,[],Xaa _,rfl,rfl,rfl,rfl,by simp only[go_sem];rfl,by simp only[go_sem];rfl,CL,by simp[Lim],rfl,by omega,by simp[ofL]⟩,?_⟩
 rintro ρ H ⟨i,j,c,o,hi,h1,J,I,h5,h6,F,Rj,ho,O,hc,hv⟩;simp only[go_sem,I,F];refine jC hi (fun E=>?_) (fun T=>?_)
 ·obtain⟨n,Z⟩:=aK E;have b1:=inB E;have ac:n<1000000000:=lm n (Xac Z);have ab:n*k<=999999999*999999999:=Nat.mul_le_mul (by omega) (by omega);have e1:IntKind.i64.wrap (IntKind.i64.wrap ((n:Int)*(k:Int))+(c:Int))=((n*k+c:Nat):Int):=by grind[aU]
  have Y:=Vn (b:=bas) (by decide) Z O hv;simp only[go_sem,h1,J,h5,h6,F,aC Z,b1,e1];have hq:(n*k+c)/1000000000<1000000000:=by omega
  have e2:IntKind.i64.wrap ((((n*k+c:Nat):Int)).tdiv 1000000000)=(((n*k+c)/1000000000:Nat):Int):=by grind[aU]
  have e3:(((n*k+c:Nat):Int)).tmod 1000000000=(((n*k+c)%1000000000:Nat):Int):=by rfl
  simp only[e3];refine⟨by decide,?_⟩;refine aY Rj ⟨rfl,rfl⟩ ⟨rfl,trivial⟩ (by grind[bY]) (fun X aa=>?_);simp only[go_sem,h1,J,I,F,e2,aQ i];refine⟨by decide,⟨i+1,X,_,o++[(n*k+c)%bas],E,rfl,rfl,rfl,rM,ho.snoc (Xby _ (by decide)),by grind,hq,Y⟩,by grind[aL]⟩
 ·subst T;simp only[go_sem,h5,h6];refine aY Rj ⟨rfl,rfl⟩ ⟨rfl,trivial⟩ (by grind[bY]) (fun X aa=>?_);simp only[go_sem];have hT:Lim bas (o++[c]):=ho.snoc hc;have hV:ofL bas (o++[c])=m*k:=by grind[vT]
  refine PC.useF [X] (.cons _ _ _ _ (.row _ _ _ (by simp only[Xaw,if_true];exact rM) (ConvE.refl _)) .nil) (MA hT (by grind) hV) ?_;simp only[go_sem];exact .refl _
def Ic(m n:Nat)(hm:(aZ bas m).length<=1048576)(ac:n<=m):PC prog 198 [nl m,nl n] (nl (m-n)):=by
 have om:=cR (b:=bas) (by decide) m;have on:=cR (b:=bas) (by decide) n;have lm:=cK (b:=bas) (by decide) m;have ln:=cK (b:=bas) (by decide) n;have ab:=cQ (b:=bas) (by decide) ac;simp only[nl];generalize aZ bas m=x at *;generalize aZ bas n=y at *;refine pcb (fun t=>t == 5) func198 rfl rfl ?_;simp only[go_sem];refine⟨by omega,aN fun j hj=>?_⟩;simp only[go_sem];refine⟨fun ρ H=>∃(i j c:Nat) (o:List Nat),i<=x.length/\ρ 0=.sl (x.map gC)/\ρ 1=.sl (y.map gC)/\ρ 13=int x.length/\ρ 5=.os j/\ρ 6=int c/\ρ 14=int i/\H j=some (bY o)/\Lim bas o/\o.length=i/\c<=1/\ofL bas o+ofL bas (y.take i)=ofL bas (x.take i)+bas^i*c,fun ρ _=>x.length-aR (ρ 14),
  ⟨0,j,0,[],Xaa _,rfl,rfl,rfl,rfl,by simp only[go_sem];rfl,by simp only[go_sem];rfl,CL,by simp[Lim],rfl,by omega,by simp[ofL]⟩,?_⟩
 rintro ρ H ⟨i,j,c,o,hi,h0,h1,I,X,h6,F,Rj,ho,O,hc,hv⟩;simp only[go_sem,I,F];refine jC hi (fun T=>?_) (fun ad=>?_)
 ·obtain⟨a,ha⟩:=aK T;have af:x.getD i 0=a:=by simp[List.getD,ha]
  have b1:=inB T;have Z:a<1000000000:=lm a (Xac ha);have aa:y.getD i 0<1000000000:=ln.getD (by decide) i;simp only[go_sem,F];refine jK (by rfl) (by kernel_rfl) ?_;simp only[go_sem,h0,h1,aC ha,b1];refine⟨_,(VI y i (by omega)).q rfl,?_⟩;have ag:=GC (b:=1000000000) Z aa hc;have Y:=zT (b:=1000000000) Z aa hc;have ae:=Dm (b:=bas) (x:=x) (y:=y) (c':=if a<y.getD i 0+c then 1 else 0) (d:=if a<y.getD i 0+c then a+1000000000-(y.getD i 0+c)else a-(y.getD i 0+c)) O hv (by rw[af];exact Y.1);generalize y.getD i 0=yi at *;have e1:IntKind.i64.wrap (IntKind.i64.wrap ((a:Int)-(yi:Int))-(c:Int))=(a:Int)-yi-c:=by rw[show IntKind.i64.wrap ((a:Int)-(yi:Int))=(a:Int)-yi from aU (by omega),aU (by omega)]
  simp only[go_sem,h6,e1];refine bN (fun E H'=>E 0=.sl (x.map gC)/\E 1=.sl (y.map gC)/\E 13=int x.length/\E 5=.os j/\E 14=int i/\H' j=some (bY o)/\E 8=int (if a<yi+c then a+1000000000-(yi+c)else a-(yi+c):Nat)/\E 6=int (if a<yi+c then 1 else 0:Nat)) ?_ fun K hK=>aA (fun J=>?_) (fun J=>?_)
  rotate_left
  ·have J:a<yi+c:=by simp at J;omega
   have e2:IntKind.i64.wrap ((a:Int)-yi-c+1000000000)=((a+1000000000-(yi+c):Nat):Int):=by rw[aU (by omega)];omega
   simp only[go_sem,e2];exact hK _ _ ⟨h0,h1,I,X,F,Rj,by simp only[go_sem,if_pos J],by simp only[go_sem,if_pos J];rfl⟩
  ·have J:¬a<yi+c:=by simp at J;omega
   simp only[go_sem,];refine hK _ _ ⟨h0,h1,I,X,F,Rj,?_,by simp only[go_sem,if_neg J];rfl⟩;simp only[go_sem,if_neg J]
   congr 2
   omega
  rintro ρ H ⟨h0,h1,I,X,F,Rj,h8,h6⟩;simp only[go_sem,X,h8];refine aY Rj ⟨rfl,rfl⟩ ⟨rfl,trivial⟩ (by simp only[bY,Xab,Xai,List.length_nil];omega) (fun j' ah=>?_);simp only[go_sem,h0,h1,I,h6,F,aQ i];exact⟨⟨i+1,j',_,_,T,rfl,rfl,rfl,rM,ho.snoc Y.2,by simp[O],by split <;> omega,ae⟩,by simp only[aL];omega⟩
 ·subst ad;simp only[go_sem,X];obtain⟨_,hV⟩:=Fx (b:=bas) (by decide) ho lm O ab (by omega) hc hv;refine PC.useF [j] (.cons _ _ _ _ (.row _ _ _ (by simp only[Xaw,if_true];exact Rj) (ConvE.refl _)) .nil) (MA ho (by omega) (hV.trans (by rw[om,on]))) ?_;simp only[go_sem];exact .refl _
theorem half{d r q:Nat}(h1:d*q<=r)(F:r<d*(q+1))(E:0<d):q=r/d:=by
 symm
 exact(Nat.div_eq_iff E).2 ⟨by grind,by grind⟩
def HZ(r d:Nat)(hr:(aZ bas r).length<=1048576)(hd:0<d)(ac:(aZ bas d).length<=1048575)(h:r<d*bas):PC prog 220 [nl r,nl d] (int (r/d:Nat)):=by
 refine pcd func220 rfl rfl ?_;simp only[go_sem];refine⟨fun ρ _=>∃a b:Nat,a<=b/\b<1000000000/\ρ 0=nl r/\ρ 1=nl d/\ρ 5=int a/\ρ 6=int b/\d*a<=r/\r<d*(b+1),fun ρ _=>aR (ρ 6)-aR (ρ 5),⟨0,999999999,by omega,by omega,rfl,rfl,by simp only[go_sem];rfl,by simp only[go_sem];rfl,by simp,h⟩,?_⟩;rintro ρ H ⟨a,b,Y,hb,h0,h1,E,X,T,J⟩;simp only[go_sem,E,X];refine jC Y (fun ad=>?_) (fun O=>?_)
 ·have e1 : IntKind.i64.wrap ((IntKind.i64.wrap (IntKind.i64.wrap ((a : Int) + (b : Int)) + 1)).tdiv 2) = (((a + b + 1) / 2 : Nat) : Int) := by rw[show IntKind.i64.wrap ((a:Int)+(b:Int))=((a+b:Nat):Int)by rw[aU (by omega)];omega,mC (by omega),Xce (by omega),aU (by omega)];omega
  simp only[go_sem,h1,E,X,e1];refine⟨by decide,?_⟩;have Z:(a+b+1)/2<bas:=show _<1000000000 by omega
  have ab:a<(a+b+1)/2:=by omega
  have aa:(a+b+1)/2<=b:=by omega
  generalize (a+b+1)/2=m at *;refine aH (XG d m (by omega) Z) ?_;simp only[go_sem,h0,];have I:(aZ bas (d*m)).length<=1048576:=by
   have h1:=kM (b:=bas) (by decide) (cK (b:=bas) (by decide) d);rw[cR (by decide)]at h1;have h2:d*m<bas^((aZ bas d).length+1):=by rw[Xbj];exact Xbu (Nat.mul_lt_mul_of_pos_left Z hd) (Xcx _ (Nat.le_of_lt h1))
   have:=iQ (b:=bas) (by decide) h2;omega
  refine aH (Fi (d*m) r I hr) ?_;simp only[go_sem,];refine aA (fun F=>?_) (fun F=>?_)
  ·have F:d*m<=r:=by grind[kD]
   simp only[go_sem,h0,h1,X];exact⟨⟨m,b,by omega,hb,rfl,rfl,F,J⟩,by grind[aL]⟩
  ·have F:r<d*m:=by grind[amZ]
   simp only[go_sem,h0,h1,E];refine⟨⟨a,m-1,by omega,by omega,rfl,?_,T,?_⟩,?_⟩
   all_goals grind[xK,aL]
 ·subst O;simp only[go_sem,E]
  grind[cI,half]
def CO{E:List Nat}{k v q:Nat}(h:E[k]?=some v):({ bY E with es:=(bY E).es.set k (oN ((bY E).es.getD k []) 0 [int (q:Int)]) }:Row)=bY (E.set k q):=by simp only[bY,aC h,List.map_set];rfl
def TL(m n:Nat)(hm:(aZ bas m).length<=1048570)(hn:0<n)(ak:(aZ bas n).length<=1048570):PC prog 164 [nl m,nl n] (.tup [nl (m/n),nl (m%n)]):=by
 have om:=cR (b:=bas) (by decide) m;have lm:=cK (b:=bas) (by decide) m;rw[show nl m=.sl ((aZ bas m).map gC)from rfl];generalize aZ bas m=l at *;refine pcb (fun t=>t == 6||t == 23) func164 rfl rfl ?_;simp only[go_sem];refine⟨by omega,aN fun j hj=>?_⟩;simp only[go_sem];refine⟨fun ρ H=>∃(k r:Nat) (E:List Nat),k<=l.length/\ρ 0=.sl (l.map gC)/\ρ 1=nl n/\ρ 6=.os j/\ρ 7=nl r/\ρ 8=int ((k:Int)-1)/\H j=some (bY E)/\Lim bas E/\E.length=l.length/\r<n/\ofL bas (l.drop k)=ofL bas (E.drop k)*n+r/\E.take k=List.replicate k 0,fun ρ _=>match ρ 8 with| .v (.int _ z)=>(z+1).toNat|_=>0,
  ⟨l.length,0,List.replicate l.length 0,Xaf _,rfl,rfl,rfl,?_,?_,?_,Lim.zeros (by decide) _,by simp,hn,by simp[ofL],by simp⟩,?_⟩
 ·simp only[go_sem];exact OX.symm
 ·simp only[go_sem,xK (show l.length<=4611686018427387904 by omega)]
 ·rw[aB];simp only[bY,List.map_replicate];rfl
 rintro ρ H ⟨k,r,E,hk,h0,h1,T,h7,O,Rj,hq,Y,hr,hv,hz⟩;simp only[go_sem,O];refine aA (fun hb=>?_) (fun hb=>?_)
 ·have ag:0<k:=by simp at hb;omega
  obtain⟨k,rfl⟩:∃j,k=j+1:=⟨k-1,by omega⟩;rw[show((k+1:Nat):Int)-1=(k:Int)by omega]at O |-;obtain⟨x,hx⟩:=aK (show k<l.length by omega);have af:x<bas:=lm x (Xac hx);have b1:=inB (show k<l.length by omega);have b2:=inB (show k<E.length by omega);have Z:E[k]?=some 0:=by
   have h1:(E.take (k+1))[k]?=(List.replicate (k+1) 0)[k]?:=by rw[hz]
   rw[List.getElem?_take,if_pos (by omega)]at h1;rw[h1];simp
  obtain⟨hV,hQ,hR⟩:=Tn (b:=bas) (a:=n) (by decide) hx af hr (show k<E.length by omega) hv;have ar:(aZ bas r).length<=1048570:=Xal (cQ (by decide) (Nat.le_of_lt hr)) ak;have an:x+bas*r<n*bas:=by have:bas*(r+1)<=bas*n:=Nat.mul_le_mul_left _ hr;rw[Nat.mul_add]at this;rw[Nat.mul_comm n bas];omega
  have I:(E.set k ((x+bas*r)/n)).take k=List.replicate k 0:=by
   rw[List.take_set_of_le (by omega)];have h1:(E.take (k+1)).take k=(List.replicate (k+1) 0).take k:=by rw[hz]
   rw[List.take_take,Xcr (by omega)]at h1;rw[h1];simp
  have ai:ofL bas (x::aZ bas r)=x+bas*r:=by rw[ofL,cR (by decide)]
  have aj:Lim bas (x::aZ bas r):=fun y hy=>by
   rcases Xbc.1 hy with rfl|hy
   ·exact af
   ·exact cK (by decide) r y hy
  have au:(aZ bas (x+bas*r)).length<=1048575:=by refine Xal (iQ (b:=bas) (k:=(aZ bas r).length+1) (by decide) ?_) (by omega);have h1:=kM (b:=bas) (by decide) aj;rw[ai]at h1;simpa using h1
  generalize aw:x+bas*r=R at *;have aa:R-n*(R/n)=R%n:=by have:=Nat.mod_add_div R n;omega
  have av:(aZ bas (n*(R/n))).length<=1048576:=Xal (cQ (by decide) (Nat.mul_div_le R n)) (by omega);simp only[go_sem,h0,O,aC hx,b1];refine aN fun i hi=>?_
  simp only[go_sem,h7];have ac:=eT (r':=⟨3,1,[[int (x:Int)]]⟩) Rj hi;refine aY (aB _ _ _) ⟨rfl,rfl⟩ (axL _) (by simp;omega) (fun i2 ah=>?_);have al:=dL ac (bE Rj hi).symm ah (r':=⟨3,1,[[int (x:Int)]]++(aZ bas r).map gC⟩);have aq:j≠i2:=bE ac ah;simp only[go_sem,];refine PC.useF [i2] (.cons _ _ _ _ (.row _ _ _ (by simp only[Xaw,if_true];exact aB _ _ _) (ConvE.refl _)) .nil) (MA aj (by simp;omega) ai) ?_;generalize am:(fun k=>if k∈[i2]then none else _)=HN;have J:HN j=some (bY E):=by rw[<-am];simp only[Xaw,if_neg aq];exact al
  simp only[go_sem,h1,];refine aH (Fi R n (by omega) (by omega)) ?_;simp only[go_sem,];refine aA (fun hc=>?_) (fun hc=>?_)
  ·have X : R < n := by
    rcases Nat.lt_trichotomy R n with h|h|h
    ·exact h
    ·rw[tH (by omega)]at hc;cases hc
    ·rw[kD (by omega)]at hc;cases hc
   simp only[go_sem,h0,h1,T,O,xK (show k<=4611686018427387904 by omega)];have F:E.set k (R/n)=E:=by rw[Nat.div_eq_of_lt X];obtain⟨h1,h2⟩:=List.getElem?_eq_some_iff.1 Z;rw[<-h2];exact List.set_getElem_self h1
   rw[F,Xbk X]at hV;rw[F]at I;exact⟨⟨k,R,E,by omega,rfl,rfl,J,hq,Y,X,hV,I⟩,by omega⟩
  simp only[go_sem,];refine aA (fun ab=>?_) (fun ab=>?_)
  ·have ae : R = n := by have:=Gf.1 (by simpa using ab);omega
   simp only[go_sem,T,O,J,show(bY E).es.length=E.length from Xab _,b2];refine⟨rfl,dP so3 J (by simp only[bY,Xab];exact⟨by simpa using b2.2,rfl,Xaf 1⟩) ?_⟩;simp only[go_sem,h0,h1,T,O,xK (show k<=4611686018427387904 by omega)];have F:R/n=1:=by rw[ae];exact Nat.div_self hn
   have ap:R%n=0:=by rw[ae];exact Nat.mod_self n
   rw[F,ap]at hV;rw[F]at I;refine⟨⟨k,0,E.set k 1,by omega,OX.symm,rfl,?_,hq.set (by decide),by simp[Y],hn,hV,I⟩,by omega⟩;exact congrArg some (CO (q:=1) Z)
  simp only[go_sem,h1,T,O];refine aH (HZ R n (by omega) hn (by omega) an) ?_;simp only[go_sem,J,show(bY E).es.length=E.length from Xab _,b2];refine⟨rfl,dP so3 J (by simp only[bY,Xab];exact⟨by simpa using b2.2,rfl,Xaf 1⟩) ?_⟩;generalize hP:aM HN j _=HP;have ad:HP j=some (bY (E.set k (R/n))):=by rw[<-hP,aB];exact congrArg some (CO (q:=R/n) Z)
  have hg:(E.set k (R/n))[k]?=some (R/n):=List.getElem?_set_self (by omega);simp only[go_sem,h1,T,O,ad];have ao:(bY (E.set k (R/n))).es.getD k []=gC (R/n):=aC hg;have b3:0<=(k:Int)/\(k:Int)<((bY (E.set k (R/n))).es.length:Nat):=by simp only[bY,Xab,Xcb];exact b2
  simp only[go_sem,ao,b3];refine⟨rfl,⟨by omega,Nat.zero_lt_one⟩,?_⟩;refine aH (XG n (R/n) (by omega) hQ) ?_;simp only[go_sem,];refine aH (Ic R (n*(R/n)) (by omega) (Nat.mul_div_le R n)) ?_;simp only[go_sem,h0,h1,T,O,xK (show k<=4611686018427387904 by omega),aa];exact⟨⟨k,R%n,E.set k (R/n),by omega,rfl,rfl,ad,hq.set hQ,by simp[Y],hR,hV,I⟩,by omega⟩
 ·have ag:k=0:=by simp at hb;omega
  subst ag;simp only[go_sem,T,];obtain⟨e1,e2⟩:=aqB hr hv;rw[Xbx,Xbx,om]at e1;rw[Xbx,om]at e2;refine PC.useF [j] (.cons _ _ _ _ (.row _ _ _ (by simp only[Xaw,if_true];exact Rj) (ConvE.refl _)) .nil) (MA hq (by omega) e1) ?_;simp only[go_sem,h7,e2];exact .refl _
end Go.Proofs.YtpagaknmdfgfkaaGreatDoor.Nu
end
section
namespace Go.Proofs
open Go.Shelf
def Tryz.lays169_ren:Go.Shelf.Ren:=⟨fun|169=>237|n=>n,fun|70=>271|9=>9|0=>0|72=>273|37=>167|127=>304|3=>3|5=>5|n=>n,fun|n=>n⟩
theorem Tryz.lays169:Go.Proofs.Lays.n169 Tryz.prog Tryz.lays169_ren:={
 mixed:=by kernel_rfl
 f169:=Tryz.func237.trans (congrArg some (by kernel_rfl))
 t0:=Tryz.underlying0
 a0:=Tryz.isAgg0
 z0:=Tryz.sizeOf0
 v0:=Tryz.zeroValue0
 t3:=Tryz.underlying3
 a3:=Tryz.isAgg3
 z3:=Tryz.sizeOf3
 v3:=Tryz.zeroValue3
 t9:=Tryz.underlying9
 a9:=Tryz.isAgg9
 z9:=Tryz.sizeOf9
 v9:=Tryz.zeroValue9
 t37:=Tryz.underlying167
 a37:=Tryz.isAgg167
 z37:=Tryz.sizeOf167
 v37:=Tryz.zeroValue167
 t70:=Tryz.underlying271
 a70:=Tryz.isAgg271
 z70:=Tryz.sizeOf271
 v70:=Tryz.zeroValue271
 t72:=Tryz.underlying273
 a72:=Tryz.isAgg273
 z72:=Tryz.sizeOf273
 v72:=Tryz.zeroValue273
 t127:=Tryz.underlying304
 a127:=Tryz.isAgg304
 z127:=Tryz.sizeOf304
 v127:=Tryz.zeroValue304 }
theorem Tryz.Builder_Extra_169:Builder.Extra Tryz.prog Tryz.lays169_ren:={
 sizeBuilder:=by kernel_rfl
 liesBuilder:=by kernel_rfl
 t5:=Tryz.underlying5
 a5:=Tryz.isAgg5
 z5:=Tryz.sizeOf5
 v5:=Tryz.zeroValue5
 infoByte:=by kernel_rfl
 cellsByte:=by kernel_rfl
 sizeByte:=by kernel_rfl
 neB5:=by decide }
open Go.RowKit in
theorem Tryz.Builder_String_any (B b:Nat) (l:List UInt8) (w:World) (h:Lib.IsBuilder 273 5 B b (Lib.byteCells l) w) (hBw:B<=w.heap.size):
    Calls Tryz.prog 237 #[.pointer (some ⟨b,0,none⟩)] w fun e w'=>e=.returned (.string ⟨l.toArray⟩)/\Below B w w':=Any.Builder_String_any Tryz.lays169 Tryz.Builder_Extra_169 B b l w h hBw
def Tryz.lays106_ren:Go.Shelf.Ren:=⟨fun|106=>199|213=>239|265=>280|n=>n,fun|9=>9|3=>3|n=>n,fun|n=>n⟩
theorem Tryz.lays106:Go.Proofs.Lays.n106 Tryz.prog Tryz.lays106_ren:={
 mixed:=by kernel_rfl
 f106:=Tryz.func199.trans (congrArg some (by kernel_rfl))
 f213:=Tryz.func239.trans (congrArg some (by kernel_rfl))
 f265:=Tryz.func280.trans (congrArg some (by kernel_rfl))
 t3:=Tryz.underlying3
 a3:=Tryz.isAgg3
 z3:=Tryz.sizeOf3
 v3:=Tryz.zeroValue3
 t9:=Tryz.underlying9
 a9:=Tryz.isAgg9
 z9:=Tryz.sizeOf9
 v9:=Tryz.zeroValue9 }
open Go.RowKit in
theorem Tryz.strings_Compare (a b:ByteArray) (w:World):
    Calls Tryz.prog 199 #[.string a,.string b] w fun e w'=>e=.returned (.int .i64 (Lib.compareBytes a.data.toList b.data.toList))/\w'=w:=Any.strings_Compare Tryz.lays106 a b w
def Tryz.lays103_ren:Go.Shelf.Ren:=⟨fun|103=>168|210=>223|206=>222|n=>n,fun|9=>9|4=>4|24=>213|3=>3|n=>n,fun|n=>n⟩
theorem Tryz.lays103:Go.Proofs.Lays.n103 Tryz.prog Tryz.lays103_ren:={
 mixed:=by kernel_rfl
 f103:=Tryz.func168.trans (congrArg some (by kernel_rfl))
 f206:=Tryz.func222.trans (congrArg some (by kernel_rfl))
 f210:=Tryz.func223.trans (congrArg some (by kernel_rfl))
 t3:=Tryz.underlying3
 a3:=Tryz.isAgg3
 z3:=Tryz.sizeOf3
 v3:=Tryz.zeroValue3
 t4:=Tryz.underlying4
 a4:=Tryz.isAgg4
 z4:=Tryz.sizeOf4
 v4:=Tryz.zeroValue4
 t9:=Tryz.underlying9
 a9:=Tryz.isAgg9
 z9:=Tryz.sizeOf9
 v9:=Tryz.zeroValue9
 t24:=Tryz.underlying213
 a24:=Tryz.isAgg213
 z24:=Tryz.sizeOf213
 v24:=Tryz.zeroValue213 }
open Go.RowKit in
theorem Tryz.strings_CutPrefix (s p:ByteArray) (w:World):
    Calls Tryz.prog 168 #[.string s,.string p] w fun e w'=>e=.returned (.tuple #[.string ⟨(Lib.trimPrefix s.data.toList p.data.toList).toArray⟩,.bool (Lib.hasPrefix s.data.toList p.data.toList)])/\w'=w:=Any.strings_CutPrefix Tryz.lays103 s p w
def Tryz.laysM171_ren:Go.Shelf.Ren:=⟨fun|171=>194|243=>234|246=>273|283=>316|284=>317|285=>318|286=>319|129=>351|317=>350|318=>352|319=>353|320=>354|337=>374|338=>375|n=>n,fun|3=>3|9=>9|2=>2|4=>4|171=>340|0=>0|53=>341|37=>167|5=>5|173=>344|212=>364|51=>308|20=>20|213=>365|46=>206|232=>386|233=>387|n=>n,fun|17=>1|18=>2|19=>3|n=>n⟩
theorem Tryz.laysM171:Go.Proofs.LaysM.n171 Tryz.prog Tryz.laysM171_ren:={
 mixed:=by kernel_rfl
 f129:=Tryz.func351.trans (congrArg some (by kernel_rfl))
 f171:=Tryz.func194.trans (congrArg some (by kernel_rfl))
 f243:=Tryz.func234.trans (congrArg some (by kernel_rfl))
 f246:=Tryz.func273.trans (congrArg some (by kernel_rfl))
 f283:=Tryz.func316.trans (congrArg some (by kernel_rfl))
 f284:=Tryz.func317.trans (congrArg some (by kernel_rfl))
 f285:=Tryz.func318.trans (congrArg some (by kernel_rfl))
 f286:=Tryz.func319.trans (congrArg some (by kernel_rfl))
 f317:=Tryz.func350.trans (congrArg some (by kernel_rfl))
 f318:=Tryz.func352.trans (congrArg some (by kernel_rfl))
 f319:=Tryz.func353.trans (congrArg some (by kernel_rfl))
 f320:=Tryz.func354.trans (congrArg some (by kernel_rfl))
 f337:=Tryz.func374.trans (congrArg some (by kernel_rfl))
 f338:=Tryz.func375.trans (congrArg some (by kernel_rfl))
 t0:=Tryz.underlying0
 a0:=Tryz.isAgg0
 z0:=Tryz.sizeOf0
 v0:=Tryz.zeroValue0
 t2:=Tryz.underlying2
 a2:=Tryz.isAgg2
 z2:=Tryz.sizeOf2
 v2:=Tryz.zeroValue2
 t3:=Tryz.underlying3
 a3:=Tryz.isAgg3
 z3:=Tryz.sizeOf3
 v3:=Tryz.zeroValue3
 t4:=Tryz.underlying4
 a4:=Tryz.isAgg4
 z4:=Tryz.sizeOf4
 v4:=Tryz.zeroValue4
 t5:=Tryz.underlying5
 a5:=Tryz.isAgg5
 z5:=Tryz.sizeOf5
 v5:=Tryz.zeroValue5
 t9:=Tryz.underlying9
 a9:=Tryz.isAgg9
 z9:=Tryz.sizeOf9
 v9:=Tryz.zeroValue9
 t20:=Tryz.underlying20
 a20:=Tryz.isAgg20
 z20:=Tryz.sizeOf20
 v20:=Tryz.zeroValue20
 t37:=Tryz.underlying167
 a37:=Tryz.isAgg167
 z37:=Tryz.sizeOf167
 v37:=Tryz.zeroValue167
 t46:=Tryz.underlying206
 a46:=Tryz.isAgg206
 z46:=Tryz.sizeOf206
 v46:=Tryz.zeroValue206
 t51:=Tryz.underlying308
 a51:=Tryz.isAgg308
 z51:=Tryz.sizeOf308
 v51:=Tryz.zeroValue308
 t53:=Tryz.underlying341
 a53:=Tryz.isAgg341
 z53:=Tryz.sizeOf341
 v53:=Tryz.zeroValue341
 t171:=Tryz.underlying340
 a171:=Tryz.isAgg340
 z171:=Tryz.sizeOf340
 v171:=Tryz.zeroValue340
 t173:=Tryz.underlying344
 a173:=Tryz.isAgg344
 z173:=Tryz.sizeOf344
 v173:=Tryz.zeroValue344
 t212:=Tryz.underlying364
 a212:=Tryz.isAgg364
 z212:=Tryz.sizeOf364
 v212:=Tryz.zeroValue364
 t213:=Tryz.underlying365
 a213:=Tryz.isAgg365
 z213:=Tryz.sizeOf365
 t232:=Tryz.underlying386
 a232:=Tryz.isAgg386
 z232:=Tryz.sizeOf386
 v232:=Tryz.zeroValue386
 t233:=Tryz.underlying387
 a233:=Tryz.isAgg387
 z233:=Tryz.sizeOf387
 v233:=Tryz.zeroValue387
 g17:=by kernel_rfl
 g18:=by kernel_rfl
 g19:=by kernel_rfl
 i0:=by kernel_rfl
 i2:=by kernel_rfl
 i3:=by kernel_rfl
 i4:=by kernel_rfl
 i5:=by kernel_rfl
 i9:=by kernel_rfl
 i20:=by kernel_rfl
 i37:=by kernel_rfl
 i46:=by kernel_rfl
 i51:=by kernel_rfl
 i53:=by kernel_rfl
 i171:=by kernel_rfl
 i173:=by kernel_rfl
 i212:=by kernel_rfl
 i232:=by kernel_rfl
 i233:=by kernel_rfl
 m17:=by kernel_rfl
 m18:=by kernel_rfl
 m19:=by kernel_rfl }
open Go.RowKit Go.Sort Go.Lib in
theorem Tryz.strconv_Itoa (n:Int) (h0: -9223372036854775808<=n) (h1:n<=9223372036854775807) (w:World) (htab:Lib.TabIs Tryz.prog w "internal/strconv.uint64pow10" .u64 Lib.pow10Tab):
    Calls Tryz.prog 194 #[.int .i64 n] w fun e w'=>e=.returned (.string ⟨(Lib.itoa n).toArray⟩)/\∃k os,w'=grow (w.drewN k) os:=Any.strconv_Itoa Tryz.laysM171 n h0 h1 w htab
def Tryz.lays219_ren:Go.Shelf.Ren:=⟨fun|219=>217|217=>254|225=>255|224=>256|267=>257|266=>292|314=>293|n=>n,fun|9=>9|3=>3|4=>4|5=>5|46=>206|146=>309|51=>308|n=>n,fun|1=>0|n=>n⟩
theorem Tryz.lays219:Go.Proofs.Lays.n219 Tryz.prog Tryz.lays219_ren:={
 mixed:=by kernel_rfl
 f217:=Tryz.func254.trans (congrArg some (by kernel_rfl))
 f219:=Tryz.func217.trans (congrArg some (by kernel_rfl))
 f224:=Tryz.func256.trans (congrArg some (by kernel_rfl))
 f225:=Tryz.func255.trans (congrArg some (by kernel_rfl))
 f266:=Tryz.func292.trans (congrArg some (by kernel_rfl))
 f267:=Tryz.func257.trans (congrArg some (by kernel_rfl))
 f314:=Tryz.func293.trans (congrArg some (by kernel_rfl))
 t3:=Tryz.underlying3
 a3:=Tryz.isAgg3
 z3:=Tryz.sizeOf3
 v3:=Tryz.zeroValue3
 t4:=Tryz.underlying4
 a4:=Tryz.isAgg4
 z4:=Tryz.sizeOf4
 v4:=Tryz.zeroValue4
 t5:=Tryz.underlying5
 a5:=Tryz.isAgg5
 z5:=Tryz.sizeOf5
 v5:=Tryz.zeroValue5
 t9:=Tryz.underlying9
 a9:=Tryz.isAgg9
 z9:=Tryz.sizeOf9
 v9:=Tryz.zeroValue9
 t46:=Tryz.underlying206
 a46:=Tryz.isAgg206
 z46:=Tryz.sizeOf206
 v46:=Tryz.zeroValue206
 t51:=Tryz.underlying308
 a51:=Tryz.isAgg308
 z51:=Tryz.sizeOf308
 v51:=Tryz.zeroValue308
 t146:=Tryz.underlying309
 a146:=Tryz.isAgg309
 z146:=Tryz.sizeOf309
 v146:=Tryz.zeroValue309
 g1:=by kernel_rfl }
open Go.RowKit Go.Lib in
theorem Tryz.stringslite_Index_one (s:ByteArray) (c:UInt8) (w:World):
    Calls Tryz.prog 217 #[.string s,.string ⟨#[c]⟩] w fun e w'=>e=.returned (.int .i64 (Lib.indexByte s.data.toList c))/\w'=w:=Any.stringslite_Index_one Tryz.lays219 s c w
def Tryz.lays144_ren:Go.Shelf.Ren:=⟨fun|144=>96|143=>162|219=>217|217=>254|225=>255|224=>256|267=>257|266=>292|314=>293|n=>n,fun|9=>9|4=>4|3=>3|5=>5|46=>206|146=>309|51=>308|n=>n,fun|1=>0|n=>n⟩
theorem Tryz.lays144:Go.Proofs.Lays.n144 Tryz.prog Tryz.lays144_ren:={
 mixed:=by kernel_rfl
 f143:=Tryz.func162.trans (congrArg some (by kernel_rfl))
 f144:=Tryz.func96.trans (congrArg some (by kernel_rfl))
 f217:=Tryz.func254.trans (congrArg some (by kernel_rfl))
 f219:=Tryz.func217.trans (congrArg some (by kernel_rfl))
 f224:=Tryz.func256.trans (congrArg some (by kernel_rfl))
 f225:=Tryz.func255.trans (congrArg some (by kernel_rfl))
 f266:=Tryz.func292.trans (congrArg some (by kernel_rfl))
 f267:=Tryz.func257.trans (congrArg some (by kernel_rfl))
 f314:=Tryz.func293.trans (congrArg some (by kernel_rfl))
 t3:=Tryz.underlying3
 a3:=Tryz.isAgg3
 z3:=Tryz.sizeOf3
 v3:=Tryz.zeroValue3
 t4:=Tryz.underlying4
 a4:=Tryz.isAgg4
 z4:=Tryz.sizeOf4
 v4:=Tryz.zeroValue4
 t5:=Tryz.underlying5
 a5:=Tryz.isAgg5
 z5:=Tryz.sizeOf5
 v5:=Tryz.zeroValue5
 t9:=Tryz.underlying9
 a9:=Tryz.isAgg9
 z9:=Tryz.sizeOf9
 v9:=Tryz.zeroValue9
 t46:=Tryz.underlying206
 a46:=Tryz.isAgg206
 z46:=Tryz.sizeOf206
 v46:=Tryz.zeroValue206
 t51:=Tryz.underlying308
 a51:=Tryz.isAgg308
 z51:=Tryz.sizeOf308
 v51:=Tryz.zeroValue308
 t146:=Tryz.underlying309
 a146:=Tryz.isAgg309
 z146:=Tryz.sizeOf309
 v146:=Tryz.zeroValue309
 g1:=by kernel_rfl }
open Go.RowKit Go.Lib in
theorem Tryz.strings_Contains_one (s:ByteArray) (c:UInt8) (w:World):
    Calls Tryz.prog 96 #[.string s,.string ⟨#[c]⟩] w fun e w'=>e=.returned (.bool (decide (0<=Lib.indexByte s.data.toList c)))/\w'=w:=Any.strings_Contains_one Tryz.lays144 s c w
def Tryz.lays101_ren:Go.Shelf.Ren:=⟨fun|101=>99|208=>166|206=>222|n=>n,fun|9=>9|4=>4|3=>3|n=>n,fun|n=>n⟩
theorem Tryz.lays101:Go.Proofs.Lays.n101 Tryz.prog Tryz.lays101_ren:={
 mixed:=by kernel_rfl
 f101:=Tryz.func99.trans (congrArg some (by kernel_rfl))
 f206:=Tryz.func222.trans (congrArg some (by kernel_rfl))
 f208:=Tryz.func166.trans (congrArg some (by kernel_rfl))
 t3:=Tryz.underlying3
 a3:=Tryz.isAgg3
 z3:=Tryz.sizeOf3
 v3:=Tryz.zeroValue3
 t4:=Tryz.underlying4
 a4:=Tryz.isAgg4
 z4:=Tryz.sizeOf4
 v4:=Tryz.zeroValue4
 t9:=Tryz.underlying9
 a9:=Tryz.isAgg9
 z9:=Tryz.sizeOf9
 v9:=Tryz.zeroValue9 }
open Go.RowKit Go.Lib in
theorem Tryz.strings_TrimPrefix (s p:ByteArray) (w:World):
    Calls Tryz.prog 99 #[.string s,.string p] w fun e w'=>e=.returned (.string ⟨(Lib.trimPrefix s.data.toList p.data.toList).toArray⟩)/\w'=w:=Any.strings_TrimPrefix Tryz.lays101 s p w
def Tryz.lays105_ren:Go.Shelf.Ren:=⟨fun|105=>236|212=>275|99=>276|165=>277|166=>235|170=>278|169=>237|263=>321|264=>322|206=>222|240=>274|241=>323|276=>320|277=>355|n=>n,fun|9=>9|3=>3|4=>4|20=>20|0=>0|46=>206|109=>300|5=>5|72=>273|76=>276|51=>308|146=>309|53=>341|148=>349|70=>271|37=>167|75=>275|127=>304|164=>346|80=>195|n=>n,fun|n=>n⟩
theorem Tryz.lays105:Go.Proofs.Lays.n105 Tryz.prog Tryz.lays105_ren:={
 mixed:=by kernel_rfl
 f99:=Tryz.func276.trans (congrArg some (by kernel_rfl))
 f105:=Tryz.func236.trans (congrArg some (by kernel_rfl))
 f165:=Tryz.func277.trans (congrArg some (by kernel_rfl))
 f166:=Tryz.func235.trans (congrArg some (by kernel_rfl))
 f169:=Tryz.func237.trans (congrArg some (by kernel_rfl))
 f170:=Tryz.func278.trans (congrArg some (by kernel_rfl))
 f206:=Tryz.func222.trans (congrArg some (by kernel_rfl))
 f212:=Tryz.func275.trans (congrArg some (by kernel_rfl))
 f240:=Tryz.func274.trans (congrArg some (by kernel_rfl))
 f241:=Tryz.func323.trans (congrArg some (by kernel_rfl))
 f263:=Tryz.func321.trans (congrArg some (by kernel_rfl))
 f264:=Tryz.func322.trans (congrArg some (by kernel_rfl))
 f276:=Tryz.func320.trans (congrArg some (by kernel_rfl))
 f277:=Tryz.func355.trans (congrArg some (by kernel_rfl))
 t0:=Tryz.underlying0
 a0:=Tryz.isAgg0
 z0:=Tryz.sizeOf0
 v0:=Tryz.zeroValue0
 t3:=Tryz.underlying3
 a3:=Tryz.isAgg3
 z3:=Tryz.sizeOf3
 v3:=Tryz.zeroValue3
 t4:=Tryz.underlying4
 a4:=Tryz.isAgg4
 z4:=Tryz.sizeOf4
 v4:=Tryz.zeroValue4
 t5:=Tryz.underlying5
 a5:=Tryz.isAgg5
 z5:=Tryz.sizeOf5
 v5:=Tryz.zeroValue5
 t9:=Tryz.underlying9
 a9:=Tryz.isAgg9
 z9:=Tryz.sizeOf9
 v9:=Tryz.zeroValue9
 t20:=Tryz.underlying20
 a20:=Tryz.isAgg20
 z20:=Tryz.sizeOf20
 v20:=Tryz.zeroValue20
 t37:=Tryz.underlying167
 a37:=Tryz.isAgg167
 z37:=Tryz.sizeOf167
 v37:=Tryz.zeroValue167
 t46:=Tryz.underlying206
 a46:=Tryz.isAgg206
 z46:=Tryz.sizeOf206
 v46:=Tryz.zeroValue206
 t51:=Tryz.underlying308
 a51:=Tryz.isAgg308
 z51:=Tryz.sizeOf308
 v51:=Tryz.zeroValue308
 t53:=Tryz.underlying341
 a53:=Tryz.isAgg341
 z53:=Tryz.sizeOf341
 v53:=Tryz.zeroValue341
 t70:=Tryz.underlying271
 a70:=Tryz.isAgg271
 z70:=Tryz.sizeOf271
 v70:=Tryz.zeroValue271
 t72:=Tryz.underlying273
 a72:=Tryz.isAgg273
 z72:=Tryz.sizeOf273
 v72:=Tryz.zeroValue273
 t75:=Tryz.underlying275
 a75:=Tryz.isAgg275
 z75:=Tryz.sizeOf275
 v75:=Tryz.zeroValue275
 t76:=Tryz.underlying276
 a76:=Tryz.isAgg276
 z76:=Tryz.sizeOf276
 v76:=Tryz.zeroValue276
 t109:=Tryz.underlying300
 a109:=Tryz.isAgg300
 z109:=Tryz.sizeOf300
 v109:=Tryz.zeroValue300
 t127:=Tryz.underlying304
 a127:=Tryz.isAgg304
 z127:=Tryz.sizeOf304
 v127:=Tryz.zeroValue304
 t146:=Tryz.underlying309
 a146:=Tryz.isAgg309
 z146:=Tryz.sizeOf309
 v146:=Tryz.zeroValue309
 t148:=Tryz.underlying349
 a148:=Tryz.isAgg349
 z148:=Tryz.sizeOf349
 v148:=Tryz.zeroValue349
 t164:=Tryz.underlying346
 a164:=Tryz.isAgg346
 z164:=Tryz.sizeOf346
 v164:=Tryz.zeroValue346 }
theorem Tryz.Builder_Extra_105:Builder.Extra Tryz.prog Tryz.lays105_ren:={
 sizeBuilder:=by kernel_rfl
 liesBuilder:=by kernel_rfl
 t5:=Tryz.underlying5
 a5:=Tryz.isAgg5
 z5:=Tryz.sizeOf5
 v5:=Tryz.zeroValue5
 infoByte:=by kernel_rfl
 cellsByte:=by kernel_rfl
 sizeByte:=by kernel_rfl
 neB5:=by decide }
open Go.RowKit Go.Lib in
theorem Tryz.strings_Repeat (s:ByteArray) (c:Nat) (w:World) (hc:c<=9223372036854775807) (hlen:s.size*c<=140737488355328):
    Calls Tryz.prog 236 #[.string s,.int .i64 c] w fun e w'=>e=.returned (.string ⟨(Lib.repeatL s.data.toList c).toArray⟩)/\Below w.heap.size w w':=Any.strings_Repeat Tryz.lays105 Tryz.Builder_Extra_105 s c w hc hlen
end Go.Proofs
end
namespace Go.Proofs.YtpagaknmdfgfkaaGreatDoor
open Go.Aw Go.Aw.D Go.Proofs Ty
namespace Nu
open Go.Proofs.Tryz
open Go.Nu Go.RowKit Go.Sort
def yJ{T e:TypeId}{B b:Nat}{bs:List Value}{w w':World}(h:Lib.IsBuilder T e B b bs w)(I:Below w.heap.size w w'):Lib.IsBuilder T e B b bs w':=by
 have E:∀p,Lib.BuilderAt T e B b p bs w->Lib.BuilderAt T e B b p bs w':=by
  rintro p ⟨h1,v,O,F,h4⟩;refine⟨h1,v,?_,⟨F.1,?_⟩,h4⟩
  ·rw[I.block b (Array.getElem?_eq_some_iff.1 O).1];exact O
  ·rcases F.2 with X|⟨g,cap,cur,Y,e2,J,Z⟩
   ·exact .inl X
   ·exact .inr ⟨g,cap,cur,Y,e2,by rw[I.block g (Array.getElem?_eq_some_iff.1 J).1];exact J,Z⟩
 exact h.imp (E _) (E _)
def pT{w:World}(k:Nat)(os:Array Obj):Below w.heap.size w (grow (w.drewN k) os):=by
 refine⟨rfl,rfl,rfl,?_,fun i E=>?_⟩
 ·simp[grow]
 ·simp only[grow,World.heap_drewN];rw[Array.getElem?_append_left E]
def Po{T e:TypeId}{B b:Nat}{l:List UInt8}{s:ByteArray}{w:World}(h:Lib.BuilderAt T e B b (.pointer (some ⟨b,0,none⟩)) (Lib.byteCells l++Lib.strCells s) w):Lib.IsBuilder T e B b (Lib.byteCells (l++bl s)) w:=by rw[Lib.strCells_eq,<-Lib.byteCells_append]at h;exact .inr h
def yK(B b:Nat)(l:List UInt8)(s:ByteArray)(w:World)(h:Lib.IsBuilder 273 5 B b (Lib.byteCells l) w)(E:l.length+s.size<=140737488355328)(F:B<=w.heap.size):
  Calls prog 235 #[.pointer (some ⟨b,0,none⟩),.string s] w fun e w'=>e=.returned (.tuple #[.int .i64 s.size,.nilIface])/\Lib.IsBuilder 273 5 B b (Lib.byteCells (l++bl s)) w'/\Below B w w':=
 (Any.Builder_WriteString (P:=prog) (ρ:=Tryz.lays105_ren) { Tryz.lays105 with } Tryz.Builder_Extra_105 B b (Lib.byteCells l) s w h (by rw[Lib.byteCells_length];exact E) F).mono fun e w' ⟨O,J,I⟩=>⟨O,Po J,I⟩
def amX{l:List Nat}(h:Lim bas l)(K:Nat)(E:l.length<=K)(h1:1<=K):(Lib.decDigits (ofL bas l)).length<=9*K:=by refine(lF (by omega)).2 (Xbu (kM (by decide) h) ?_);rw[show bas=10^9 from rfl,<-Nat.pow_mul];exact Xau (by omega) (by omega)
def Ld(n k:Nat):List UInt8:=Lib.decDigits (ofL bas ((aZ bas n).drop k))
def acI{n k x:Nat}(F:k+1<(aZ bas n).length)(E:(aZ bas n)[k]?=some x):Ld n k=Ld n (k+1)++awS x:=by have h1:=cK (b:=bas) (by decide) n x (Xac E);unfold Ld;rw[Bl bas E];exact aiZ h1 (akQ (by decide) F)
set_option maxHeartbeats 1600000 in
theorem QZ (n:Nat) (w:World) (b o c:Nat) (ad:(aZ bas n).length<=1048576) (aa:0<(aZ bas n).length)
    (hz:∀(i x:Nat),(aZ bas n)[i]?=some x->w.cell? ⟨b,o+i,none⟩=some (.int .i64 x)) (hb:b<w.heap.size)
    (J:Lib.TabIs prog w "internal/strconv.uint64pow10" .u64 Lib.pow10Tab):
    Calls prog 195 #[.slice (some ⟨b,o,none⟩) (aZ bas n).length c] w fun e w'=>e=.returned (.string (dec n))/\Below w.heap.size w w':=by
  obtain⟨L,hL⟩:∃L,(aZ bas n).length=L:=⟨_,rfl⟩
  have h0:Lib.IsBuilder 273 5 w.heap.size w.heap.size (Lib.byteCells []) (w.alloc (.cells #[.pointer none,.slice none 0 0] 273)):=Lib.fresh_isBuilder 273 5 w
  have b0:Below w.heap.size w (w.alloc (.cells #[.pointer none,.slice none 0 0] 273)):=(Below.refl _ w).alloc (Xaf _) _
  obtain⟨Y,X⟩:=aK (show L-1<(aZ bas n).length by omega)
  have al:=hz _ _ X
  have O:=cK (b:=bas) (by decide) n Y (Xac X)
  have O:Y<1000000000:=O
  rw[hL]
  rw[hL]at aa ad
  have an:((L:Int) == 0)=false:=by rw[beq_eq_false_iff_ne];omega
  go_enter func195,Tryz.ntmps195
  go_wp2_with (go_at_call 194;refine(Tryz.strconv_Itoa (Y:Int) (by omega) (by omega) _ (Lib.tabIs_alloc J _)).mono ?_)
  rintro e W1 ⟨rfl,k,os,rfl⟩
  have b1:Below w.heap.size w (grow ((w.alloc (.cells #[.pointer none,.slice none 0 0] 273)).drewN k) os):=b0.trans ⟨rfl,rfl,rfl,(pT k os).size,fun i hi=>(pT k os).block i (Xbu hi b0.size)⟩
  have h1:=yJ h0 (pT k os)
  generalize grow _ os=W1 at *
  have hI:∀x:Nat,(Lib.itoa (x:Int))=Lib.decDigits x:=Lib.itoa_nonneg
  have ab:∀x:Nat,x<1000000000->(Lib.decDigits x).length<=9:=fun x hx=>(lF (k:=9) (by omega)).2 hx
  have ac:Ld n (L-1)=Lib.decDigits Y:=by
    unfold Ld
    rw[Bl bas X,show L-1+1=L by omega,<-hL,Xcj]
    rfl
  have ak:(⟨(Lib.itoa (Y:Int)).toArray⟩:ByteArray).size<=9:=by rw[<-dF,lU,hI];exact ab _ O
  have cW:=yK w.heap.size w.heap.size [] _ W1 h1 (by simp;omega:([]:List UInt8).length+(⟨(Lib.itoa (Y:Int)).toArray⟩:ByteArray).size<=_) b1.size
  go_wp2_with (go_at_call 235;refine cW.mono ?_)
  rintro e W2 ⟨rfl,h2,b2⟩
  rw[Xbn,lU,hI,<-ac]at h2
  have b2:=b1.trans b2
  have ae:∀k,(Ld n k).length<=9437184:=fun k=>by
    have:=amX ((cK (b:=bas) (by decide) n).drop k) 1048576 (by rw[Xbr,hL];omega) (by omega)
    unfold Ld
    omega
  go_wp2
  go_loopg [4] (L-1) (fun g s4 wx=>∃k:Nat,k<=L-1/\g=k/\s4=.int .i64 ((k:Int)-1)/\Lib.IsBuilder 273 5 w.heap.size w.heap.size (Lib.byteCells (Ld n k)) wx/\Below w.heap.size w wx)
  case atStart=>exact⟨L-1,Xaf _,rfl,by congr 1;omega,h2,b2⟩
  case round=>
    obtain⟨_,hk,rfl,rfl,hB,E⟩:=hrel
    cases gk with
    | zero=>
      have ah:Ld n 0=Lib.decDigits n:=by unfold Ld;rw[Xbx,cR (by decide)]
      rw[ah]at hB
      have cS:=Tryz.Builder_String_any w.heap.size w.heap.size (Lib.decDigits n) wr hB E.size
      go_wp2_with (go_at_call 237;refine cS.mono ?_)
      rintro e W3 ⟨rfl,F⟩
      go_wp2
      go_ret
      exact⟨rfl,E.trans F⟩
    | succ i=>
      obtain⟨x,hx⟩:=aK (show i<(aZ bas n).length by omega)
      have hl:=(E.cell hb).trans (hz i x hx)
      have aj:x<1000000000:=cK (b:=bas) (by decide) n x (Xac hx)
      have ag:(((i+1:Nat):Int)-1)=(i:Int):=by omega
      have T:=acI (n:=n) (by omega) hx
      have af:Lib.TabIs prog wr "internal/strconv.uint64pow10" .u64 Lib.pow10Tab:=Go.Joins.tab_stays (g:=1) (by kernel_rfl) J E (Xaf _)
      have am:=ae (i+1)
      rw[ag]
      go_wp2_with (go_at_call 194;refine(Tryz.strconv_Itoa (x:Int) (by omega) (by omega) _ af).mono ?_)
      rintro e W1 ⟨rfl,k,os,rfl⟩
      have b1:Below w.heap.size w (grow (wr.drewN k) os):=E.trans ⟨rfl,rfl,rfl,(pT k os).size,fun i hi=>(pT k os).block i (Xbu hi E.size)⟩
      have h1:=yJ hB (pT k os)
      generalize grow _ os=W1 at *
      have ai:=ab x aj
      rw[hI x]
      go_wp2_with (go_at_call 236;fail)
      have e9:(9:Int)-((Lib.decDigits x).length:Nat)=((9-(Lib.decDigits x).length:Nat):Int):=by omega
      rw[e9]
      refine(Tryz.strings_Repeat ⟨#[48]⟩ (9-(Lib.decDigits x).length) W1 (by omega) (by show 1*_<=_;omega)).mono ?_
      rintro e W3 ⟨rfl,F⟩
      have h3:=yJ h1 F
      have F:Below w.heap.size w W3:=b1.trans ⟨F.os,F.tape,F.output,F.size,fun i hi=>F.block i (Xbu hi b1.size)⟩
      have I:bl ⟨(Lib.repeatL (⟨#[48]⟩:ByteArray).data.toList (9-(Lib.decDigits x).length)).toArray⟩=List.replicate (9-(Lib.decDigits x).length) 48:=by
        rw[lU]
        have:=Lib.repeatL_replicate 48 1 (9-(Lib.decDigits x).length)
        rwa [Nat.mul_one]at this
      generalize (⟨(Lib.repeatL (⟨#[48]⟩:ByteArray).data.toList (9-(Lib.decDigits x).length)).toArray⟩:ByteArray)=Z at *
      have hZ:Z.size<=9:=by rw[<-dF,I,List.length_replicate];omega
      have cW:=yK w.heap.size w.heap.size _ Z W3 h3 (by omega) F.size
      go_wp2_with (go_at_call 235;refine cW.mono ?_)
      rintro e W4 ⟨rfl,h4,b4⟩
      have b4:=F.trans b4
      have hX:(⟨(Lib.decDigits x).toArray⟩:ByteArray).size<=9:=by rw[<-dF,lU];exact ai
      have cW:=yK w.heap.size w.heap.size _ ⟨(Lib.decDigits x).toArray⟩ W4 h4 (by rw[Xae,dF];omega) b4.size
      go_wp2_with (go_at_call 235;refine cW.mono ?_)
      rintro e W5 ⟨rfl,h5,b5⟩
      have b5:=b4.trans b5
      rw[Xaq,I,lU]at h5
      go_wp2
      go_roundg i
      case measure=>omega
      case rel=>exact⟨i,by omega,rfl,rfl,by rw[T];exact h5,b5⟩
def SS{S:Sg}{w:World}{b:Nat}:∀{l:List Nat} {o sz:Nat},0<sz->jD S w b sz o (l.map gC)->∀(i x:Nat),l[i]?=some x->w.cell? ⟨b,o+i,none⟩=some (.int .i64 x)
 | [],_,_,_,_,i,x,h=>by simp at h
 | y::l,o,sz,hp,h,i,x,hx=>by
  simp only[Xba,jD]at h;obtain⟨h1,F,I⟩:=h;have h1:sz=1:=h1.symm;subst h1;cases i with
  | zero=>simp only[List.getElem?_cons_zero,Option.some.injEq]at hx;subst hx;simp only[gC,dU]at F;obtain⟨⟨u,J,_,E⟩,_⟩:=F;simp only[rep]at E;subst E;exact J
  | succ i=>
   have:=SS (by omega) I i x (by simpa using hx)
   rwa [Nat.add_assoc,Xcl 1 i]at this
def adM{w:World}(h:∀t∈aaH,vO w t.1=some t.2):Lib.TabIs prog w "internal/strconv.uint64pow10" .u64 Lib.pow10Tab:=by have h1:=h (1,adF) (by simp[aaH]);unfold Lib.TabIs World.var?;rw[show prog.globalNamed "internal/strconv.uint64pow10" = some 1 by kernel_rfl];exact h1
def IT(n:Nat)(T:(aZ bas n).length<=1048576):PC prog 195 [nl n] (str (dec n)):=by
 by_cases h0:n=0
 ·subst h0;rw[OX];refine pcd func195 rfl rfl ?_;simp only[go_sem];refine aA (fun h=>?_) (fun h=>by simp at h);simp only[go_sem];refine cS ?_;refine lB ?_;rw[jL,Lib.decDigits_one (by omega)];rfl
 ·intro S w vals J hf ha;simp only[bO,rep]at ha;obtain⟨y,t,rfl,⟨ad,m,c,rfl,e1,e2,e3,X⟩,rfl⟩:=ha;have O:aZ bas n≠[]:=fun e=>h0 ((qL (by decide)).1 e)
  have F:=List.length_pos_iff.2 O;rw[Xab]at e1;rcases X with X|⟨b,o,sz,rfl,aa,Y,I⟩
  ·simp only[List.map_eq_nil_iff]at X;exact absurd X O
  ·subst e1;refine(QZ n w b o c T F (SS Y I) (J.fz_lt b (J.ro_fz b aa)) (adM fun t ht=>(J.tabs t ht).2)).mono fun e w' ⟨he,E⟩=>?_
   exact⟨_,_,bQ,S,he,rfl,J.after E.size fun k Z=>E.block k Z,by simp only[rep],J.grow E.os E.tape E.output E.size fun k Z=>E.block k Z,gY.refl _ _⟩
def Ec(n:Nat)(F:(aZ bas n).length<=1048576):PC prog 165 [nl n] (.tup [str (szN n).1,int (szN n).2]):=by
 refine pcd func165 rfl rfl ?_;simp only[go_sem];refine aH (IT n F) ?_;simp only[go_sem];have E:=jZ n;refine aA (fun h=>?_) (fun h=>?_)
 ·have h:4096<(dec n).size:=by simp at h;omega
  simp only[go_sem];rw[show szN n=(emp,4)from if_neg fun e=>by have:=E.2 e;omega];exact .refl _
 ·have h:(dec n).size<=4096:=by simp at h;omega
  simp only[go_sem];rw[Ah (E.1 h)];exact .refl _
end Nu
namespace Nu
open Go.Proofs.Tryz
open Go.Nu
def Vd{n K:Nat}(h:n<cY)(E:akS<=9*K):(aZ bas n).length<=K:=by refine iQ (b:=bas) (k:=K) (by decide) (Xbu h ?_);rw[show bas=10^9 from rfl,<-Nat.pow_mul];exact Xau (show 0<10 by omega) E
def mR{n:Nat}(h:n<cY):(aZ bas n).length<=457:=Vd h (by decide)
def alG{H:aG}{o l:List Nat}(h:l=o):ConvE H (bY o).es (l.map gC):=h▸ConvE.refl _
def MI:∀l:List Nat,oT l=l.take (oT l).length
 | []=>rfl
 | x::l=>by
  have ih:=MI l;rw[oT];split
  ·split <;> rfl
  ·rename_i y t e;rw[e]at ih;simp only[Xai,List.take_succ_cons]
   congr 1
theorem abG{l:List Nat}(h:l.length<=(oT l).length):oT l=l:=by rw[MI l,Xan h]
def ahI(a b:ByteArray)(ha:a.size<=1048576)(O:b.size<=1048576):PC prog 135 [str a,str b] (.tup [str (Ut a b).1,int (Ut a b).2]):=by
 refine pcb (fun t=>t == 9) func135 rfl rfl ?_;simp only[go_sem];refine aH (QK a b ha O) ?_;simp only[go_sem];apply aA <;> intro h
 ·have h:jT a b≠0:=by grind
  simp only[go_sem];rw[show Ut a b=(emp,jT a b)from if_neg h];exact .refl _
 have h:jT a b=0:=by grind
 obtain⟨m,n,rfl,rfl,hm,hn⟩:=sO h;have af:=mR hm;have ab:=mR hn;simp only[go_sem,Ij h,cX];rw[show Ut (dec m) (dec n)=szN (m+n)by simp_all[Ut,cX]];have om:=cR (b:=bas) (by decide) m;have on:=cR (b:=bas) (by decide) n;have lm:=cK (b:=bas) (by decide) m;have ln:=cK (b:=bas) (by decide) n;have aa:(aZ bas m).length<=(aZ bas m).length:=Xaf _;have T:(aZ bas n).length<=(aZ bas n).length:=Xaf _;obtain⟨x,hx⟩:∃x,aZ bas m=x:=⟨_,rfl⟩;obtain⟨y,hy⟩:∃y,aZ bas n=y:=⟨_,rfl⟩;have aa:x.length<=(aZ bas m).length:=by grind
 have T:y.length<=(aZ bas n).length:=by grind
 rw[hx]at om lm af;rw[hy]at on ln ab;simp only[hx,hy];refine aN fun j hj=>?_
 refine⟨fun ρ H=>∃(i j c:Nat) (o:List Nat),i<=max x.length y.length+1/\ρ 6=.sl (x.map gC)/\ρ 7=.sl (y.map gC)/\ρ 9=.os j/\ρ 10=int c/\ρ 11=int i/\H j=some (bY o)/\Lim bas o/\o.length=i/\c<=1/\ofL bas o+bas^i*c=ofL bas (x.take i)+ofL bas (y.take i)/\(i=max x.length y.length+1->c=0/\bas^max x.length y.length<=m+n),fun ρ _=>max x.length y.length+1-aR (ρ 11),
  ⟨0,j,0,[],Xaa _,rfl,rfl,rfl,by simp only[go_sem];rfl,by simp only[go_sem];rfl,CL,by simp[Lim],rfl,by omega,by simp[ofL],by omega⟩,?_⟩
 rintro ρ H ⟨i,j,c,o,hi,h6,h7,h9,Y,E,Rj,ho,X,hc,hv,J⟩;have Z:eN (x.length:Int) (y.length:Int)=((max x.length y.length:Nat):Int):=by grind[eN]
 simp only[go_sem,h6,h7,Y,E,Z];apply aA <;> intro O
 ·have O:i<max x.length y.length\/0<c:=by grind
  have al:i<=max x.length y.length:=by omega
  have ak:x.getD i 0<1000000000:=lm.getD (by decide) i;have ai:y.getD i 0<1000000000:=ln.getD (by decide) i;have ac:=RX (b:=bas) (by decide) X hv;have F:i+1=max x.length y.length+1->(x.getD i 0+y.getD i 0+c)/bas=0/\bas^max x.length y.length<=m+n:=fun e=>by
   have e:i=max x.length y.length:=by omega
   have ad:x.getD i 0=0:=by grind
   have ae:y.getD i 0=0:=by grind
   have ag:c=1:=by omega
   rw[ad,ae,ag]
   grind[Xan]
  simp only[go_sem,h6,E];refine aH (VI x i (by omega)) ?_;simp only[go_sem,h7,E];refine aH (VI y i (by omega)) ?_;have e1:IntKind.i64.wrap (IntKind.i64.wrap (((x.getD i 0:Nat):Int)+((y.getD i 0:Nat):Int))+(c:Int))=((x.getD i 0+y.getD i 0+c:Nat):Int):=by rw[show IntKind.i64.wrap (((x.getD i 0:Nat):Int)+((y.getD i 0:Nat):Int))=((x.getD i 0:Nat):Int)+((y.getD i 0:Nat):Int)from aU (by omega),aU (by omega)];omega
  have e2:IntKind.i64.wrap ((((x.getD i 0+y.getD i 0+c:Nat):Int)).tdiv 1000000000)=(((x.getD i 0+y.getD i 0+c)/1000000000:Nat):Int):=by grind[aU]
  have e3:(((x.getD i 0+y.getD i 0+c:Nat):Int)).tmod 1000000000=(((x.getD i 0+y.getD i 0+c)%1000000000:Nat):Int):=by rfl
  have hq:(x.getD i 0+y.getD i 0+c)/1000000000<=1:=by omega
  simp only[go_sem,h9,Y,e1,e3];refine⟨by decide,?_⟩;refine aY Rj ⟨rfl,rfl⟩ ⟨rfl,trivial⟩ (by grind[bY]) (fun j' aj=>?_);simp only[go_sem,h6,h7,E,e2,aQ i];exact⟨by decide,⟨i+1,j',_,o++[(x.getD i 0+y.getD i 0+c)%bas],by omega,rfl,rfl,rfl,rM,ho.snoc (Xby _ (by decide)),by grind,hq,ac,F⟩,by grind[aL]⟩
 ·have O:max x.length y.length<=i/\c=0:=by grind
  obtain⟨O,rfl⟩:=O;rw[Nat.mul_zero,Nat.add_zero,Xan (by omega),Xan (by omega),om,on]at hv;have ht:=NR (b:=bas) (by decide) ho hv;have ah:o.length<=(aZ bas (m+n)).length:=by
   rcases Xay (max x.length y.length) i with h|h
   ·have:=Pb (b:=bas) (by decide) (J (by omega)).2;omega
   ·rw[X,show i=max x.length y.length by omega];exact Nat.max_le.2 ⟨Xal aa (cQ (by decide) (Nat.le_add_right m n)),Xal T (cQ (by decide) (Nat.le_add_left n m))⟩
  have I:aZ bas (m+n)=o:=by grind[abG]
  simp only[go_sem,h9,];refine PC.useF [j] (.cons _ _ _ _ (.row _ _ _ (by grind) (alG I)) .nil) (Ec (m+n) (by grind)) ?_;simp only[go_sem];exact .refl _
def afX(a b:ByteArray)(Y:a.size<=1048576)(O:b.size<=1048576):PC prog 136 [str a,str b] (.tup [str (Uz a b).1,int (Uz a b).2]):=by
 refine pcd func136 rfl rfl ?_;simp only[go_sem];refine aH (QK a b Y O) ?_;simp only[go_sem];apply aA <;> intro h
 ·have h:jT a b≠0:=by grind
  simp only[go_sem];rw[show Uz a b=(emp,jT a b)from if_neg h];exact .refl _
 have h:jT a b=0:=by grind
 obtain⟨m,n,rfl,rfl,hm,X⟩:=sO h;have Z:=mR hm;have T:=mR X;simp only[go_sem,Ij h,cX];have e:Uz (dec m) (dec n)=if m<n then(emp,2)else szN (m-n):=by simp_all[Uz,cX]
 rw[e];refine aH (Fi m n (by omega) (by omega)) ?_;simp only[go_sem];apply aA <;> intro E
 ·have J : m < n := by
   rcases Xay m n with F|F
   ·exact F
   ·exfalso;have E:=of_decide_eq_true E;unfold hY at E;omega
  simp only[go_sem];rw[if_pos J];exact .refl _
 ·have I:¬m<n:=fun F=>of_decide_eq_false E (by grind[kH])
  simp only[go_sem];rw[if_neg I];refine aH (Ic m n (by omega) (by omega)) ?_;simp only[go_sem];refine aH (Ec (m-n) (by have:=cQ (b:=bas) (by decide) (Nat.sub_le m n);omega)) ?_;simp only[go_sem];exact .refl _
def atJ(a b:ByteArray)(T:a.size<=1048576)(E:b.size<=1048576):PC prog 134 [str a,str b] (.tup [str (ER a b).1,str (ER a b).2.1,int (ER a b).2.2]):=by
 refine pcd func134 rfl rfl ?_;simp only[go_sem];refine aH (QK a b T E) ?_;simp only[go_sem];apply aA <;> intro h
 ·have h:jT a b≠0:=by grind
  simp only[go_sem];rw[show ER a b=(emp,emp,jT a b)from if_neg h];exact .refl _
 have h:jT a b=0:=by grind
 obtain⟨m,n,rfl,rfl,O,I⟩:=sO h;have J:=mR O;have F:=mR I;simp only[go_sem,Ij h,cX,Xab];have e:ER (dec m) (dec n)=if n=0 then(emp,emp,10)else(dec (m/n),dec (m%n),0):=by simp_all[ER,cX]
 rw[e];apply aA <;> intro X
 ·have h0:n=0:=(qL (b:=bas) (by decide)).1 (by simp_all);simp only[go_sem];rw[if_pos h0];exact .refl _
 ·have h0:n≠0:=fun e=>by grind[eG]
  simp only[go_sem];rw[if_neg h0];refine aH (TL m n (by omega) (by omega) (by omega)) ?_;simp only[go_sem];refine aH (IT (m/n) (by have:=cQ (b:=bas) (by decide) (Xcp m n);omega)) ?_;simp only[go_sem];refine aH (IT (m%n) (by have:=cQ (b:=bas) (by decide) (Nat.mod_le m n);omega)) ?_;simp only[go_sem];exact .refl _
def alL(a b:ByteArray)(ha:a.size<=1048576)(T:b.size<=1048576):PC prog 98 [str a,str b] (.tup [str (Bd a b).1,int (Bd a b).2]):=by
 refine pcd func98 rfl rfl ?_;simp only[go_sem];refine aH (QK a b ha T) ?_;simp only[go_sem];apply aA <;> intro h
 ·have h:jT a b≠0:=by grind
  simp only[go_sem];rw[show Bd a b=(emp,jT a b)from if_neg h];exact .refl _
 have h:jT a b=0:=by grind
 obtain⟨m,n,rfl,rfl,Z,hn⟩:=sO h;have O:=mR Z;have I:=mR hn;simp only[go_sem,Ij h,cX];have e:Bd (dec m) (dec n)=szN (Nat.gcd m n):=by simp_all[Bd,cX]
 rw[e];refine⟨fun ρ _=>∃p q:Nat,ρ 6=nl p/\ρ 7=nl q/\(aZ bas p).length<=457/\(aZ bas q).length<=457/\Nat.gcd p q=Nat.gcd m n,fun ρ _=>match ρ 7 with| .sl es=>ofL bas (es.map fun c=>aR (c.getD 0 .any))|_=>0,⟨m,n,rfl,rfl,O,I,rfl⟩,?_⟩;rintro ρ H ⟨p,q,X,J,aa,E,Y⟩;have ab:∀q:Nat,ofL bas (((aZ bas q).map gC).map fun c=>aR (c.getD 0 .any))=q:=fun q=>by rw[List.map_map,show((fun c:List AV=>aR (c.getD 0 .any)) ∘ gC)=id from funext fun n=>by rfl,List.map_id,cR (by decide)]
 simp only[go_sem,J,Xab];apply aA <;> intro T
 ·have F:0<q:=by grind[eG]
  simp only[go_sem,X,J];refine aH (TL p q (by omega) F (by omega)) ?_;simp only[go_sem,J];refine⟨⟨q,p%q,rfl,rfl,E,Xal (cQ (by decide) (Nat.le_of_lt (Xby p F))) E,?_⟩,?_⟩
  ·grind[Nat.gcd_comm,Nat.gcd_rec]
  simp_all[Xby]
 ·have F : q = 0 := by
   have:(aZ bas q).length=0:=by grind
   simp_all[qL,bas]
  subst F;simp only[go_sem,X];rw[Nat.gcd_zero_right]at Y;rw[<-Y];refine aH (Ec p (by omega)) ?_;simp only[go_sem];exact .refl _
def Xr{b:Nat}(F:0<b){l:List Nat}{q p:Nat}(h:ofL b l<b^q)(J:q<=p)(O:p<l.length):l[p]?=some 0:=by
 obtain⟨x,E⟩:=aK O;rcases Nat.eq_zero_or_pos x with h0|h0
 ·rw[E,h0]
 ·exfalso;have I:ofL b l=ofL b (l.take p)+b^p*ofL b (l.drop p):=by have:=sH b (l.take p) (l.drop p);rw[Xci,Xap,Xcr (by omega)]at this;exact this
  rw[Bl b E]at I;have h1:b^p*1<=b^p*(x+b*ofL b (l.drop (p+1))):=Nat.mul_le_mul_left _ (by omega);have T:b^q<=b^p:=Xau F J;omega
def auE(a b:ByteArray)(ha:a.size<=1048576)(hb:b.size<=1048576):PC prog 272 [str a,str b] (.tup [str (VD a b).1,int (VD a b).2]):=by
 refine pcb (fun t=>t == 9) func272 rfl rfl ?_;simp only[go_sem];refine aH (QK a b ha hb) ?_;simp only[go_sem];refine aA (fun h=>?_) (fun h=>?_)
 ·have h:jT a b≠0:=by simpa using h
  simp only[go_sem];rw[show VD a b=(emp,jT a b)from if_neg h];exact .refl _
 have h:jT a b=0:=by simpa using h
 obtain⟨m,n,rfl,rfl,hm,hn⟩:=sO h;have av:=mR hm;have aq:=mR hn;simp only[go_sem,Ij h,cX,Xab];rw[show VD (dec m) (dec n)=szN (m*n)by unfold VD;rw[if_pos h,cX,cX]];have om:=cR (b:=bas) (by decide) m;have on:=cR (b:=bas) (by decide) n;have lm:=cK (b:=bas) (by decide) m;have ln:=cK (b:=bas) (by decide) n;have aj:(aZ bas (m*n)).length<=(aZ bas m).length+(aZ bas n).length:=by refine iQ (by decide) ?_;have h1:=kM (b:=bas) (by decide) lm;have h2:=kM (b:=bas) (by decide) ln;rw[om]at h1;rw[on]at h2;rw[Nat.pow_add];exact Nat.mul_lt_mul'' h1 h2
 obtain⟨x,hx⟩:∃x,aZ bas m=x:=⟨_,rfl⟩;obtain⟨y,hy⟩:∃y,aZ bas n=y:=⟨_,rfl⟩;rw[hx]at om lm av aj;rw[hy]at on ln aq aj;have ew:IntKind.i64.wrap ((x.length:Int)+(y.length:Int))=((x.length+y.length:Nat):Int):=by rw[aU (by omega)];omega
 simp only[hx,hy,ew];refine⟨by omega,aN fun j hj=>?_⟩;simp only[go_sem];refine⟨fun ρ H=>∃(i:Nat) (out:List Nat),i<=x.length/\ρ 7=.sl (y.map gC)/\ρ 9=.os j/\ρ 32=.sl (x.map gC)/\ρ 33=int x.length/\ρ 34=int i/\H j=some (bY out)/\Lim bas out/\out.length=x.length+y.length/\ofL bas out=ofL bas (x.take i)*ofL bas y,fun ρ _=>x.length-aR (ρ 34),
  ⟨0,List.replicate (x.length+y.length) 0,Xaa _,rfl,rfl,rfl,rfl,by simp only[go_sem];rfl,?_,Lim.zeros (by decide) _,by simp,by simp[ofL,Mi]⟩,?_⟩
 ·rw[aB];simp only[bY,List.map_replicate];rfl
 rintro ρ H ⟨i,out,hi,h7,h9,T,Y,O,Rj,ho,ap,hv⟩;simp only[go_sem,Y,O];refine aA (fun Z=>?_) (fun ab=>?_)
 ·have Z:=ltB Z;obtain⟨E,ah⟩:=aK Z;have b1:=inB Z;have ax:E<1000000000:=lm E (Xac ah);have ar:out[i+y.length]?=some 0:=by refine Xr (b:=bas) (by decide) (q:=i+y.length) ?_ (Xaf _) (by omega);rw[hv,Nat.pow_add];have h1:=kM (b:=bas) (by decide) (lm.take i);rw[Xap,Xcr hi]at h1;exact Nat.mul_lt_mul'' h1 (kM (b:=bas) (by decide) ln)
  simp only[go_sem,h7,T,O,aC ah,b1,Xab];refine⟨fun ρ H=>∃(k c:Nat) (o:List Nat),k<=y.length/\ρ 7=.sl (y.map gC)/\ρ 9=.os j/\ρ 10=int i/\ρ 11=int E/\ρ 12=int c/\ρ 32=.sl (x.map gC)/\ρ 33=int x.length/\ρ 34=int i/\ρ 39=.sl (y.map gC)/\ρ 40=int y.length/\ρ 41=int k/\H j=some (bY o)/\Lim bas o/\o.length=x.length+y.length/\c<1000000000/\ofL bas o+bas^(i+k)*c=ofL bas out+bas^i*(E*ofL bas (y.take k))/\o[i+y.length]?=some 0,fun ρ _=>y.length-aR (ρ 41),
   ⟨0,0,out,Xaa _,h7,h9,rfl,rfl,by simp only[go_sem];rfl,T,Y,O,rfl,rfl,by simp only[go_sem];rfl,Rj,ho,ap,by omega,by simp[ofL],ar⟩,?_⟩
  rintro ρ H ⟨k,c,o,hk,h7,h9,ag,ak,ao,T,Y,O,an,al,af,Rj,hO,am,hc,hV,hZ⟩;simp only[go_sem,al,af];refine aA (fun I=>?_) (fun X=>?_)
  ·have I:=ltB I;obtain⟨J,ad⟩:=aK I;have b2:=inB I;have az:J<1000000000:=ln J (Xac ad);obtain⟨v,aa⟩:=aK (show i+k<o.length by omega);have ay:v<1000000000:=hO v (Xac aa);have b3:0<=((i+k:Nat):Int)/\((i+k:Nat):Int)<((bY o).es.length:Nat):=by simp only[bY,Xab];omega
   have ei:IntKind.i64.wrap ((i:Int)+(k:Int))=((i+k:Nat):Int):=by rw[aU (by omega)];omega
   have ae:(bY o).es.getD (i+k) []=gC v:=aC aa;have aw:E*J<=999999999*999999999:=Nat.mul_le_mul (by omega) (by omega);have au:=QT (b:=bas) (by decide) aa ad hV;have e1:IntKind.i64.wrap (IntKind.i64.wrap ((v:Int)+IntKind.i64.wrap ((E:Int)*(J:Int)))+(c:Int))=((v+E*J+c:Nat):Int):=by rw[show(E:Int)*(J:Int)=((E*J:Nat):Int)from(Int.natCast_mul E J).symm];generalize E*J=p at *;rw[show IntKind.i64.wrap (p:Int)=(p:Int)from aU (by omega),show IntKind.i64.wrap ((v:Int)+(p:Int))=(v:Int)+p from aU (by omega),aU (by omega)];omega
   have hq:(v+E*J+c)/1000000000<1000000000:=by omega
   have e2:IntKind.i64.wrap ((((v+E*J+c:Nat):Int)).tdiv 1000000000)=(((v+E*J+c)/1000000000:Nat):Int):=by generalize v+E*J+c=p at *;rw[Xce (by omega),aU (by omega)];omega
   have e3:(((v+E*J+c:Nat):Int)).tmod 1000000000=(((v+E*J+c)%1000000000:Nat):Int):=by rw[Xcs (by omega)];omega
   simp only[go_sem,h9,ag,ak,ao,an,af,aC ad,b2,ei,Rj,b3,ae,e1,e3];have F:i+k<(bY o).es.length:=by simp only[bY,Xab];omega
   refine⟨rfl,⟨F,Nat.zero_lt_one⟩,by decide,rfl,dP so3 Rj ⟨F,rfl,Xaf 1⟩ ?_⟩;generalize hP:aM H j _=HP;have ac:HP j=some (bY (o.set (i+k) ((v+E*J+c)%bas))):=by rw[<-hP,aB];exact congrArg some (CO (q:=(v+E*J+c)%bas) aa)
   simp only[go_sem,h7,h9,ag,ak,T,Y,O,an,al,af,e2,aQ k];refine⟨by decide,⟨k+1,_,_,I,rfl,rfl,ac,hO.set (Xby _ (by decide)),by simp[am],hq,au,?_⟩,by simp only[aL];omega⟩;rw[List.getElem?_set_ne (by omega)];exact hZ
  ·have X:=geB hk X;subst X;have ei:IntKind.i64.wrap ((i:Int)+(y.length:Int))=((i+y.length:Nat):Int):=by rw[aU (by omega)];omega
   have F:i+y.length<(bY o).es.length:=by simp only[bY,Xab];omega
   have b3:0<=((i+y.length:Nat):Int)/\((i+y.length:Nat):Int)<((bY o).es.length:Nat):=by omega
   have ae:(bY o).es.getD (i+y.length) []=gC 0:=aC hZ;have e1:IntKind.i64.wrap (((0:Nat):Int)+(c:Int))=(c:Int):=by rw[aU (by omega)];omega
   simp only[go_sem,h7,h9,ag,ao,Xab,ei,Rj,b3,ae,e1];refine⟨rfl,⟨F,Nat.zero_lt_one⟩,rfl,dP so3 Rj ⟨F,rfl,Xaf 1⟩ ?_⟩;generalize hP:aM H j _=HP;have ac:HP j=some (bY (o.set (i+y.length) c)):=by rw[<-hP,aB];exact congrArg some (CO (q:=c) hZ)
   have ai:=YN (b:=bas) hZ hV;simp only[go_sem,h7,h9,T,Y,O,aQ i];refine⟨⟨i+1,_,Z,rfl,ac,hO.set hc,by simp[am],?_⟩,by simp only[aL];omega⟩;rw[ai,hv,lJ bas ah,Nat.add_mul,Nat.mul_assoc]
 ·have ab:=geB hi ab;subst ab;simp only[go_sem,h9];rw[Xad,om,on]at hv;refine PC.useF [j] (.cons _ _ _ _ (.row _ _ _ (by simp only[Xaw,if_true];exact Rj) (ConvE.refl _)) .nil) (MA ho (by omega) hv) ?_;simp only[go_sem];refine aH (Ec (m*n) (by omega)) ?_;simp only[go_sem];exact .refl _
end Nu
namespace Nu
open Go.Proofs.Tryz
open Go.Nu
open Go.RowKit (Below)
theorem PR(s:ByteArray):Lib.hasPrefix (bl s) [45]=fY s:=by unfold Lib.hasPrefix fY;cases bl s<;>grind
def LP(s:ByteArray):(⟨(Lib.trimPrefix (bl s) [45]).toArray⟩:ByteArray)=fT s:=by grind[Lib.trimPrefix,fT,PR,awR]
def WI(s:ByteArray):PC prog 168 [str s,str ⟨#[45]⟩] (.tup [str (fT s),boo (fY s)]):=by
 refine PC.lib (a:=[.string s,.string ⟨#[45]⟩]) (v:=.tuple #[.string (fT s),.bool (fY s)]) (fun S w=>⟨_,rfl,⟨_,_,rfl,rfl,⟨_,_,rfl,rfl,rfl⟩⟩⟩) fun w _=>(Tryz.strings_CutPrefix s ⟨#[45]⟩ w).mono fun e w' ⟨F,E⟩=>?_
 rw[E];refine⟨F.trans ?_,Below.refl _ _⟩;rw[show s.data.toList=bl s from rfl,show(⟨#[45]⟩:ByteArray).data.toList=[45]from rfl,LP,PR]
def Cd(s:ByteArray):PC prog 99 [str s,str ⟨#[45]⟩] (str (fT s)):=by
 refine PC.lib (a:=[.string s,.string ⟨#[45]⟩]) (v:=.string (fT s)) (fun S w=>rfl) fun w _=>(Tryz.strings_TrimPrefix s ⟨#[45]⟩ w).mono fun e w' ⟨F,E⟩=>?_
 rw[E];refine⟨F.trans ?_,Below.refl _ _⟩;rw[show s.data.toList=bl s from rfl,show(⟨#[45]⟩:ByteArray).data.toList=[45]from rfl,LP]
def UF(n:Int)(h0: -9223372036854775808<=n)(h1:n<=9223372036854775807):PC prog 194 [int n] (str (zed n)):=by
 refine PC.lib (a:=[.int .i64 n]) (v:=.string (zed n)) (fun S w=>rfl) fun w F=>(Tryz.strconv_Itoa n h0 h1 w (adM F)).mono fun e w' ⟨I,k,os,E⟩=>?_
 rw[E];exact⟨I,pT k os⟩
def VO(a b:ByteArray):PC prog 199 [str a,str b] (int (Lib.compareBytes (bl a) (bl b))):=by
 refine PC.lib (a:=[.string a,.string b]) (v:=.int .i64 (Lib.compareBytes (bl a) (bl b))) (fun S w=>rfl) fun w _=>(Tryz.strings_Compare a b w).mono fun e w' ⟨F,E⟩=>?_
 rw[E];exact⟨F,Below.refl _ _⟩
def tS:(⟨#[48]⟩:ByteArray)=dec 0:=lB (by rw[jL,Lib.decDigits_one (by omega)];rfl)
theorem EX:(⟨#[49]⟩:ByteArray)=dec 1:=lB (by rw[jL,Lib.decDigits_one (by omega)];rfl)
def oD(s:ByteArray):(bl s == [48])=eqB s (dec 0):=by unfold eqB;rw[<-tS];rfl
def Fm(s:ByteArray):(bl s == [49])=eqB s (dec 1):=by unfold eqB;rw[<-EX];rfl
theorem DR(s:ByteArray):(fT s).size<=s.size:=by
 unfold fT;split
 ·grind[dF,lU]
 simp
def EE(s:ByteArray)(h:s.size<=1048576):PC prog 101 [str s] (.tup [boo (fY s),str (fT s),boo (fC s)]):=by refine pcd func101 rfl rfl ?_;simp only[go_sem];refine aH (WI s) ?_;simp only[go_sem];refine aH (DZ (fT s) (by grind[DR])) ?_;simp only[go_sem,oD];exact .refl _
def afK(s:ByteArray)(h:s.size<=1048576):PC prog 94 [str s] (boo (fC s)):=by refine pcd func94 rfl rfl ?_;simp only[go_sem];refine aH (EE s h) ?_;simp only[go_sem];exact .refl _
def awP(n:Int)(h0: -9223372036854775808<=n)(h1:n<=9223372036854775807):PC prog 132 [int n] (str (zed n)):=by refine pcd func132 rfl rfl ?_;simp only[go_sem];refine aH (UF n h0 h1) ?_;simp only[go_sem];exact .refl _
def anW(s:ByteArray)(h:s.size<=1048576):PC prog 55 [str s] (int (BI s)):=by
 refine pcd func55 rfl rfl ?_;simp only[go_sem];refine aH (EE s h) ?_;simp only[go_sem,oD];apply aA <;> intro F
 ·simp only[go_sem];refine cI ?_;unfold BI;by_cases E:fC s=true
  ·rw[if_pos E]
   grind[gN,lP,cX]
  grind
 ·have E:fC s=true/\eqB (fT s) (dec 0)=false:=by grind
  have I:eA (fT s)=true:=by simp_all[fC]
  have O:0<gL (fT s):=by grind[kB,nX]
  simp only[go_sem];apply aA <;> intro J
  ·simp only[go_sem];simp_all[cI,BI,gN,Int.sign_eq_neg_one_of_neg]
  ·simp only[go_sem];simp_all[cI,BI,gN,Int.sign_eq_one_of_pos]
def sg(m:Bool)(n:Nat):Int:=if m=true then -(n:Int)else n
def apJ(m:Bool)(n:Nat):(if(m&& !eqB (dec n) (dec 0))=true then(⟨#[45]⟩:ByteArray)++dec n else dec n)=zed (sg m n):=by
 unfold sg;by_cases E:n=0
 ·subst E;rw[show eqB (dec 0) (dec 0)=true from lP.2 rfl];simp only[Xct,Bool.and_false,Xbg,if_false];rw[<-dJ];simp
 ·rw[show eqB (dec n) (dec 0)=false from nX.2 fun e=>E (sC.1 e)];cases m with
  | true=>
   simp only[Xcy,Xbh,if_true]
   grind[Ek,lB,mT,lU,jL]
  | false=>rfl
def WN(m:Bool)(n:Nat)(O:(dec n).size<=1048576):PC prog 137 [.agg [boo m,str (dec n)]] (str (zed (sg m n))):=by
 refine pcb (fun t=>t == 1) func137 rfl rfl ?_;simp only[go_sem];refine aN fun j J=>?_
 have R:=aB bQ j (some ⟨194,2,[[boo m,str (dec n)]]⟩);generalize aM bQ j _=H1 at R |-;simp only[go_sem,R];have E:=apJ m n;have I:(m&& !bl (dec n) == [48])=(m&& !eqB (dec n) (dec 0)):=by rw[<-oD]
 rw[I];apply aA <;> intro F
 ·rw[if_pos F]at E;simp only[go_sem,R];refine⟨by simp_all;omega,?_⟩;exact cS E
 ·rw[if_neg (by grind)]at E;simp only[go_sem,R];exact cS E
theorem ahV(m:Bool)(n:Nat):(sg m n).natAbs=n:=by grind[sg]
def Jp(m:Bool)(n:Nat):PC prog 233 [.agg [boo m,str (szN n).1],int (szN n).2] (.tup [str (szZ (sg m n)).1,int (szZ (sg m n)).2]):=by
 by_cases F:n<cY
 ·have I:=(jZ n).2 F;rw[Ah F,show szZ (sg m n)=(zed (sg m n),0)from if_pos (by grind[ahV])];refine pcb (fun t=>t == 2) func233 rfl rfl ?_;simp only[go_sem];refine aN fun j J=>?_
  have R:=aB bQ j (some ⟨194,2,[[boo m,str (dec n)]]⟩);generalize aM bQ j _=H1 at R |-;simp only[go_sem];refine aA (fun E=>by cases E) (fun _=>?_);simp only[go_sem,R];refine aH (WN m n (by omega)) ?_;simp only[go_sem];exact .refl _
 ·rw[show szN n=(emp,4)from if_neg F,show szZ (sg m n)=(emp,4)from if_neg (by grind[ahV])];refine pcb (fun t=>t == 2) func233 rfl rfl ?_;simp only[go_sem];refine aN fun j J=>?_
  simp only[go_sem];refine aA (fun E=>?_) (fun E=>by cases E);simp only[go_sem];exact .refl _
def Hu(s:ByteArray):List AV:=[boo (fY s),str (fT s)]
def QE(s:ByteArray):(Hu s).length=2:=(rfl)
def auO(s:ByteArray):(Hu s).getD 0 .any=boo (fY s):=(rfl)
def asL(s:ByteArray):(Hu s).getD 1 .any=str (fT s):=(rfl)
def adL(s:ByteArray):(Hu s).take 2=Hu s:=(rfl)
attribute [go_sem] QE auO asL adL
def K5(l:List ByteArray):Row:=⟨194,2,l.map Hu⟩
def acN(s:ByteArray):Bool:=decide ((fT s).size>4096)
def Lc(l:List ByteArray):Int:=if l.any (fun s=> !fC s)=true then 3 else if l.any acN=true then 4 else 0
def zL(l:List ByteArray):List (List AV):=if Lc l=0 then l.map Hu else[]
def CQ{α:Type}{q:α->Bool}{l:List α}{k:Nat}{c:α}(h:l[k]?=some c)(E:q c=true):l.any q=true:=Xas.2 ⟨c,Xac h,E⟩
def wK{α:Type}{q:α->Bool}{l:List α}(h:∀c∈l,q c=false):l.any q=false:=by grind
def aqO(l:List ByteArray)(hl:l.length<=1048576)(hs:∀s∈l,s.size<=1048576):PC prog 133 [.sl (l.map Go.Aw.D.fJ)] (.tup [.sl (zL l),int (Lc l)]):=by
 refine pcb (fun t=>t == 4) func133 rfl rfl ?_;simp only[go_sem];refine aN fun j hj=>?_
 simp only[go_sem];refine⟨fun ρ H=>∃(k j:Nat),k<=l.length/\ρ 12=.sl (l.map Go.Aw.D.fJ)/\ρ 13=int l.length/\ρ 4=.os j/\ρ 14=int k/\H j=some (K5 (l.take k))/\∀s∈l.take k,fC s=true,fun ρ _=>l.length-aR (ρ 14),
  ⟨0,j,Xaa _,rfl,rfl,rfl,by simp only[go_sem];rfl,aB _ _ _,by simp⟩,?_⟩
 rintro ρ H ⟨k,j,hk,aa,af,Y,O,I,hz⟩;simp only[go_sem,af,O];refine jC hk (fun E=>?_) (fun J=>?_)
 ·obtain⟨s,F⟩:=aK E;have b1:=inB E;simp only[go_sem,aa,O,aC F,b1];refine aH (EE s (hs s (Xac F))) ?_;simp only[go_sem,];refine aA (fun hb=>?_) (fun hb=>?_)
  ·simp only[go_sem];have e:Lc l=3:=by unfold Lc;grind
   rw[show zL l=[]from if_neg (by omega),e];exact .refl _
  ·simp only[go_sem,Y];refine aY I ⟨rfl,rfl⟩ ⟨rfl,trivial⟩ (by grind[K5]) (fun j' ai=>?_);simp only[go_sem,aa,af,O,aQ k];refine⟨⟨k+1,j',E,rfl,rfl,?_,gS F (by grind) hz⟩,by grind[aL]⟩;rw[aB];simp only[K5,bA F,Xam,Xba,Xbz];rfl
 ·subst J;rw[Xad]at I hz;have hR:l.any (fun s=> !fC s)=false:=wK fun s hs=>by grind
  have ab:((K5 l).es.length:Int)=l.length:=by simp[K5]
  simp only[go_sem,Y,I,ab];refine⟨fun ρ H=>∃(k:Nat),k<=l.length/\ρ 4=.os j/\ρ 33=.os j/\ρ 34=int l.length/\ρ 35=int k/\H j=some (K5 l)/\∀s∈l.take k,acN s=false,fun ρ _=>l.length-aR (ρ 35),
   ⟨0,Xaa _,Y,rfl,rfl,by simp only[go_sem];rfl,I,by simp⟩,?_⟩
  rintro ρ H ⟨k,hk,Y,ae,ac,T,I,ad⟩;simp only[go_sem,ac,T];refine jC hk (fun E=>?_) (fun J=>?_)
  ·obtain⟨s,F⟩:=aK E;have b1:=inB E;have ah:(K5 l).es.getD k []=Hu s:=aC F;have b2:0<=(k:Int)/\(k:Int)<((K5 l).es.length:Nat):=by omega
   simp only[go_sem,ae,T,I,b2,ah];have X:k<(K5 l).es.length:=by omega
   refine⟨rfl,⟨X,Xaf 2⟩,?_⟩;refine aN fun i hi=>?_
   simp only[go_sem,];have Z:j≠i:=bE I hi;refine aI (aB _ _ _) (by simp[QE]) ?_;generalize hG:aM (aM _ i _) i _=HG;have Ri:HG i=some (⟨194,2,[Hu s]⟩:Row):=by rw[<-hG,aB];rfl
   have ag:HG j=some (K5 l):=by rw[<-hG,aJ _ _ _ _ Z,aJ _ _ _ _ Z];exact I
   simp only[go_sem,Ri];have hd:decide (((fT s).size:Int)>4096)=acN s:=by unfold acN;grind
   rw[hd];refine aA (fun hb=>?_) (fun hb=>?_)
   ·simp only[go_sem];have e:Lc l=4:=by unfold Lc;grind
    rw[show zL l=[]from if_neg (by omega),e];exact .refl _
   ·simp only[go_sem,Y,ae,ac,T,aQ k];exact⟨⟨k+1,E,rfl,ag,gS F hb ad⟩,by grind[aL]⟩
  ·subst J;rw[Xad]at ad;simp only[go_sem,Y];have e:Lc l=0:=by simp_all[Lc,wK]
   rw[show zL l=l.map Hu from if_pos e,e];exact .tup _ _ (.cons _ _ _ _ (.row _ _ _ I (ConvE.refl _)) (ConvL.refl _))
end Nu
end Go.Proofs.YtpagaknmdfgfkaaGreatDoor
