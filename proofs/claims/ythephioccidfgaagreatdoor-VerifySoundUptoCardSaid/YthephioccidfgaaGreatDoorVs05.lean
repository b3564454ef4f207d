import Derived.Lib.ItoaMem
import Derived.Laws.Strings
import Derived.Shelf.Strings.Builder1
import Derived.Shelf.Strings.Builder2
import Derived.Shelf.Small.Strs
import Derived.Shelf.Small.Wraps
import Derived.Shelf.Strings.BuilderF
import Derived.Shelf.Strings.BuilderK
import Derived.Shelf.Strings.Builder2Cap
import Derived.Shelf.Strconv.Itoa0
import Derived.Shelf.Strconv.Itoa1
import Derived.Shelf.LaysM
import Derived.Shelf.Strconv.Itoa2
import Derived.Shelf.Strconv.Itoa3
import Derived.Shelf.Strings.Search1
import Derived.Shelf.Strings.Search2
import Derived.Shelf.Strings.Search3
import Derived.Shelf.Strings.Cut
import Derived.Shelf.Strings.Shaped
import Derived.Shelf.Strings.Prefix
import Derived.Shelf.Bits.Mul64
import Derived.Shelf.Strings.Repeat
import Derived.Shelf.Strings.BuilderCap
import Derived.Ground.Names2Prog
import Derived.Shelf.Slices.SearchI
import Derived.Test.YthephioccidfgaaGreatDoorProg
import Derived.WalkKit
import Derived.BigCall
import Derived.Deep.LoopGhost
import Derived.Deep.DeepFit
import Derived.Lib.SmallJoins
import Derived.Test.YthephioccidfgaaGreatDoorVs04
set_option linter.unusedSimpArgs false
set_option linter.unusedVariables false
set_option linter.defProp false
set_option maxRecDepth 100000
section
namespace Go.Nu
open Go Go.Lib
def ofL(b:Nat):List Nat->Nat
 | []=>0
 | x::r=>x+b*ofL b r
def Lim(b:Nat)(l:List Nat):Prop:=∀x∈l,x<b
def bT(b:Nat)(n:Nat):List Nat:=if h:n=0\/b<2 then[]else n%b::bT b (n/b)
termination_by n
decreasing_by exact Nat.div_lt_self (by omega) (by omega)
def sC:List Nat->List Nat
 | []=>[]
 | x::r=>match sC r with
   | []=>if x=0 then[]else[x]
   | y::t=>x::y::t
theorem sE(b:Nat):∀l r:List Nat,ofL b (l++r)=ofL b l+b^l.length*ofL b r
 | [],r=>by simp[ofL]
 | x::l,r=>by simp only[List.cons_append,ofL,sE b l r,List.length_cons,Nat.pow_succ,Nat.mul_add,Nat.add_assoc];rw[Nat.mul_comm (b^l.length) b,Nat.mul_assoc]
theorem zF(b:Nat)(l:List Nat)(x:Nat):ofL b (l++[x])=ofL b l+b^l.length*x:=by grind[sE,ofL]
theorem sW{b:Nat}(E:0<b):∀{l:List Nat},Lim b l->ofL b l<b^l.length
 | [],_=>by simp[ofL]
 | x::l,h=>by
  have h1:=h x (by simp);have A:=sW E (l:=l) fun y F=>h y (by simp[F])
  simp only[ofL,List.length_cons,Nat.pow_succ];have:b*(ofL b l+1)<=b*b^l.length:=Nat.mul_le_mul_left _ A;rw[Nat.mul_add]at this;rw[Nat.mul_comm (b^l.length) b];omega
def mP(b:Nat){l:List Nat}{k x:Nat}(h:l[k]?=some x):ofL b (l.take (k+1))=ofL b (l.take k)+b^k*x:=by grind[List.take_add_one,zF]
def Pm(b:Nat):∀(l:List Nat) (k x v:Nat),l[k]?=some x->ofL b (l.set k v)+b^k*x=ofL b l+b^k*v
 | [],k,x,v,h=>by grind
 | y::l,0,x,v,h=>by simp only[List.getElem?_cons_zero,Option.some.injEq]at h;subst h;simp only[List.set_cons_zero,ofL,Nat.pow_zero,Nat.one_mul];omega
 | y::l,k+1,x,v,h=>by
  have:=Pm b l k x v (by simpa using h);have A:b*(ofL b (l.set k v)+b^k*x)=b*(ofL b l+b^k*v):=by rw[this]
  simp only[List.set_cons_succ,ofL,Nat.pow_succ];rw[Nat.mul_add,Nat.mul_add,<-Nat.mul_assoc,<-Nat.mul_assoc]at A;rw[Nat.mul_comm (b^k) b];omega
def acP(b n:Nat):ofL b (List.replicate n 0)=0:=by induction n<;>grind[ofL]
theorem iC(b:Nat):bT b 0=[]:=by grind[bT]
theorem Ac{b n:Nat}(A:2<=b)(E:n≠0):bT b n=n%b::bT b (n/b):=by rw[bT,dif_neg (by omega)]
theorem fC{b:Nat}(F:2<=b)(n:Nat):Lim b (bT b n):=by
 induction n using Nat.strongRecOn with
 | _ n ih=>
  by_cases E:n=0
  ·subst E;rw[iC];intro x A;cases A
  ·rw[Ac F E];intro x A;rcases List.mem_cons.1 A with rfl|A
   ·exact Nat.mod_lt _ (by omega)
   ·exact ih (n/b) (Nat.div_lt_self (by omega) (by omega)) x A
theorem fQ{b:Nat}(A:2<=b)(n:Nat):ofL b (bT b n)=n:=by induction n using Nat.strongRecOn<;>grind[iC,Ac,ofL,Nat.div_lt_self,Nat.mod_add_div]
theorem zA{b n:Nat}(A:2<=b):bT b n=[]↔n=0:=by
 constructor
 ·intro h;have:=fQ A n;rw[h]at this;exact this.symm
 grind[iC]
def K5{b x m:Nat}(E:2<=b)(A:x<b)(h:x+b*m≠0):bT b (x+b*m)=x::bT b m:=by rw[Ac E h,Nat.add_mul_mod_self_left,Nat.mod_eq_of_lt A,Nat.add_mul_div_left _ _ (by omega),Nat.div_eq_of_lt A,Nat.zero_add]
theorem JQ{b:Nat}(A:2<=b):∀{l:List Nat},Lim b l->sC l=bT b (ofL b l)
 | [],_=>by rw[ofL,iC];rfl
 | x::l,h=>by
  have ih:=JQ A (l:=l) fun y O=>h y (by grind)
  have F:=h x (by simp);rw[sC,ih];by_cases h0:ofL b l=0
  ·simp only[ofL,h0,iC];by_cases E:x=0
   ·grind[iC]
   ·rw[if_neg E,K5 A F (by omega),iC]
  ·have J:bT b (ofL b l)≠[]:=fun e=>h0 ((zA A).1 e)
   rw[ofL,K5 A F (by have:0<b*ofL b l:=Nat.mul_pos (by omega) (by omega);omega)]
   grind
def YJ{b:Nat}(A:2<=b){l:List Nat}{n:Nat}(h:Lim b l)(E:ofL b l=n):sC l=bT b n:=by grind[JQ]
def rT{b:Nat}(A:2<=b){n k:Nat}(h:n<b^k):(bT b n).length<=k:=by
 induction k generalizing n with
 | zero=>simp_all[iC]
 | succ k ih=>
  by_cases E:n=0
  ·grind
  grind[Ac,Nat.div_lt_iff_lt_mul]
def PW{b:Nat}(A:2<=b){n k:Nat}(h:b^k<=n):k<(bT b n).length:=by have h1:=sW (b:=b) (by omega) (fC A n);rw[fQ A]at h1;exact(Nat.pow_lt_pow_iff_right (by omega)).1 (Nat.lt_of_le_of_lt h h1)
theorem fT{b:Nat}(A:2<=b){m n:Nat}(h:m<=n):(bT b m).length<=(bT b n).length:=by
 refine rT A ?_
 grind[sW,fC,fQ]
def WK{b:Nat}(A:2<=b){n:Nat}(E:n≠0):b^((bT b n).length-1)<=n:=by
 induction n using Nat.strongRecOn with
 | _ n ih=>
  rw[Ac A E,List.length_cons,Nat.add_sub_cancel];by_cases h0:n/b=0
  ·rw[h0,iC];simp;omega
  ·have:=ih (n/b) (Nat.div_lt_self (by omega) (by omega)) h0;have F:(bT b (n/b)).length=((bT b (n/b)).length-1)+1:=by grind[zA,List.length_pos_iff]
   rw[F,Nat.pow_succ];exact Nat.le_trans (Nat.mul_le_mul_right b this) (Nat.div_mul_le_self n b)
def NY{b:Nat}(J:0<b){l r:List Nat}(T:Lim b l)(hr:Lim b r)(E:l.length=r.length){k x y:Nat}(F:l[k]?=some x)(Z:r[k]?=some y)(A:x<y)(O:l.drop (k+1)=r.drop (k+1)):ofL b l<ofL b r:=by
 have hk:k<l.length:=(List.getElem?_eq_some_iff.1 F).1;have X:l=l.take (k+1)++l.drop (k+1):=(List.take_append_drop _ _).symm;have Y:r=r.take (k+1)++r.drop (k+1):=(List.take_append_drop _ _).symm;rw[X,Y,sE,sE,O,mP b F,mP b Z,List.length_take,List.length_take,Nat.min_eq_left (by omega),Nat.min_eq_left (by omega)];have h1:=sW J (l:=l.take k) fun z U=>T z (List.mem_of_mem_take U)
 rw[List.length_take,Nat.min_eq_left (by omega)]at h1;have h2:b^k*(x+1)<=b^k*y:=Nat.mul_le_mul_left _ A
 grind
def Ni{b:Nat}(A:2<=b){m n:Nat}(h:(bT b m).length<(bT b n).length):m<n:=by grind[Nat.lt_or_ge,fT]
def Qf{α:Type}{p:List α->Prop}(h0:p [])(h1:∀l c,p l->p (l++[c]))(l:List α):p l:=by
 have:∀r:List α,p r.reverse:=fun r=>by induction r<;>grind
 rw[<-List.reverse_reverse l]
 grind
def isD(c:UInt8):Bool:=decide (48<=c.toNat)&&decide (c.toNat<=57)
def jH(l:List UInt8):Nat:=l.foldl (fun a c=>10*a+(c.toNat-48)) 0
def gV(l:List UInt8):Bool:=l != []&&(l.length == 1||l.getD 0 0 != 48)&&l.all isD
def dec(n:Nat):ByteArray:=⟨(decDigits n).toArray⟩
def Dd(l:List UInt8)(c:UInt8):jH (l++[c])=10*jH l+(c.toNat-48):=by simp[jH]
def aeS{α:Type}{l r:List α}{k:Nat}{d:α}(h:k<l.length):(l++r).getD k d=l.getD k d:=by grind
theorem CO{d:Nat}(h:d<10):(UInt8.ofNat (48+d)).toNat=48+d:=by grind[UInt8.toNat_ofNat']
theorem KQ(n:Nat):jH (decDigits n)=n:=by induction n using Nat.strongRecOn<;>grind[decDigits,jH,CO]
theorem xO(n:Nat):(decDigits n).all isD=true:=by
 induction n using Nat.strongRecOn with
 | _ n ih=>
  rw[decDigits];split
  ·rename_i h;simp only[List.all_cons,List.all_nil,Bool.and_true,isD,CO h,Bool.and_eq_true,decide_eq_true_eq];omega
  ·rename_i h;rw[List.all_append,ih (n/10) (by omega)];simp only[List.all_cons,List.all_nil,Bool.and_true,Bool.true_and,isD,CO (show n%10<10 by omega),Bool.and_eq_true,decide_eq_true_eq];omega
theorem VY(n:Nat):decDigits n≠[]:=by rw[decDigits];split <;> simp
theorem BQ(n:Nat):0<(decDigits n).length:=List.length_pos_iff.2 (VY n)
theorem ahA{n:Nat}(h:n≠0):(decDigits n).getD 0 0≠48:=by
 induction n using Nat.strongRecOn with
 | _ n ih=>
  rw[decDigits];split
  ·rename_i h1;simp only[List.getD_cons_zero];intro e;have:=CO h1;simp_all
  grind[BQ]
theorem Uo{n:Nat}:(decDigits n).length=1↔n<10:=by grind[decDigits]
theorem afP(n:Nat):gV (decDigits n)=true:=by
 unfold gV;simp only[Bool.and_eq_true,bne_iff_ne,ne_eq,Bool.or_eq_true,beq_iff_eq]
 grind[VY,xO,Uo,ahA]
theorem uY{c:UInt8}:isD c=true↔48<=c.toNat/\c.toNat<=57:=by simp[isD]
theorem aqL{c:UInt8}(h:isD c=true):UInt8.ofNat (48+(c.toNat-48))=c:=by grind[uY,UInt8.ofNat_toNat]
def akH:∀{l:List UInt8},l.all isD=true->l≠[]->l.getD 0 0≠48->10^(l.length-1)<=jH l:=by
 intro l;induction l using Qf with
 | h0=>simp
 | h1 l c ih=>
  intro A _ h0;rw[List.all_append]at A;simp only[Bool.and_eq_true,List.all_cons,List.all_nil,Bool.and_true]at A;rw[Dd];by_cases E:l=[]
  ·subst E;simp only[List.nil_append,List.getD_cons_zero]at h0;simp only[List.nil_append,List.length_cons,List.length_nil,Nat.zero_add,Nat.sub_self,Nat.pow_zero];have:=uY.1 A.2;have h1:c.toNat≠48:=fun e=>h0 (UInt8.toNat.inj e)
   omega
  ·have F:=List.length_pos_iff.2 E;rw[aeS F]at h0;have:=ih A.1 E h0;simp only[List.length_append,List.length_cons,List.length_nil,Nat.zero_add,Nat.add_sub_cancel];rw[show l.length=(l.length-1)+1 by omega,Nat.pow_succ];omega
def PQ:∀{l:List UInt8},gV l=true->decDigits (jH l)=l:=by
 intro l;induction l using Qf with
 | h0=>grind[gV]
 | h1 l c ih=>
  intro h;unfold gV at h;simp only[Bool.and_eq_true,bne_iff_ne,ne_eq,Bool.or_eq_true,beq_iff_eq,List.all_append,List.all_cons,List.all_nil,Bool.and_true]at h;obtain⟨⟨_,h1⟩,E,h3⟩:=h;have O:=uY.1 h3;by_cases A:l=[]
  ·grind[jH,decDigits_one,aqL]
  ·have T:=List.length_pos_iff.2 A;have h0:l.getD 0 0≠48:=by grind
   have J:=akH E A h0;have F:1<=jH l:=Nat.le_trans (Nat.one_le_pow _ _ (by omega)) J;rw[Dd,decDigits,dif_neg (by omega)];rw[show(10*jH l+(c.toNat-48))/10=jH l by omega,show(10*jH l+(c.toNat-48))%10=c.toNat-48 by omega,aqL h3,ih];simp_all[gV]
def vW{n k:Nat}(A:1<=k):(decDigits n).length<=k↔n<10^k:=by
 rw[decDigits_length];constructor
 ·grind[Nat.lt_of_lt_of_le,lt_pow_nDigits,Nat.pow_le_pow_right]
 ·intro h;by_cases h0:n<10
  ·grind[nDigits_small]
  ·induction k generalizing n<;>grind[nDigits]
def bl(s:ByteArray):List UInt8:=s.data.toList
theorem oU{a b:ByteArray}(h:bl a=bl b):a=b:=by cases a<;>simp_all[bl]
theorem jZ(s:ByteArray):(bl s).length=s.size:=by rfl
def eqB(a b:ByteArray):Bool:=bl a == bl b
theorem xU{a b:ByteArray}:eqB a b=true↔a=b:=by
 unfold eqB;rw[beq_iff_eq]
 grind[oU]
theorem vQ{a b:ByteArray}:eqB a b=false↔a≠b:=by rw[<-Bool.not_eq_true,xU]
theorem oZ(l:List UInt8):bl ⟨l.toArray⟩=l:=by rfl
def GP(a b:ByteArray):bl (a++b)=bl a++bl b:=by rfl
def aBi(s:ByteArray):(⟨(bl s).toArray⟩:ByteArray)=s:=oU (oZ _)
def emp:ByteArray:=ByteArray.empty
def lC(s:ByteArray)(a b:Nat):bl (s.extract a b)=((bl s).take b).drop a:=by grind[bl,ByteArray.data_extract,Array.toList_extract,List.drop_take]
def avM:Nat:=4096
def dA:Nat:=10^avM
def Gh{n k:Nat}(h:n<10^k)(A:k<=4096):n<dA:=Nat.lt_of_lt_of_le h (Nat.pow_le_pow_right (show 0<10 by omega) (show k<=avM from A))
def Yy:0<dA:=Nat.pow_pos (show 0<10 by omega)
def iH(s:ByteArray):Bool:=gV (bl s)
def kM(s:ByteArray):Nat:=jH (bl s)
theorem sR(n:Nat):bl (dec n)=decDigits n:=oZ _
def wH(n:Nat):iH (dec n)=true:=by grind[iH,sR,afP]
theorem dW(n:Nat):kM (dec n)=n:=by grind[kM,sR,KQ]
theorem pA{s:ByteArray}(h:iH s=true):dec (kM s)=s:=oU (by rw[sR];exact PQ h)
def I6(n:Nat):(dec n).size=(decDigits n).length:=by rfl
theorem mK(n:Nat):(dec n).size<=4096↔n<dA:=by rw[I6];exact vW (k:=avM) (by decide)
theorem Jb{s:ByteArray}(h:iH s=true):s.size<=4096↔kM s<dA:=by grind[mK,pA]
theorem Au{m n:Nat}:dec m=dec n↔m=n:=⟨fun h=>by grind[dW],fun h=>by rw[h]⟩
def szN(n:Nat):ByteArray×Int:=if n<dA then(dec n,0)else(emp,4)
def mF(a b:ByteArray):Int:=if(!iH a|| !iH b)=true then 3 else if(decide (a.size>4096)||decide (b.size>4096))=true then 4 else 0
def XA(a b:ByteArray):ByteArray×Int:=if mF a b=0 then szN (kM a+kM b)else(emp,mF a b)
def Vs(a b:ByteArray):ByteArray×Int:=if mF a b=0 then(if kM a<kM b then(emp,2)else szN (kM a-kM b))else(emp,mF a b)
def Vn(a b:ByteArray):ByteArray×Int:=if mF a b=0 then szN (kM a*kM b)else(emp,mF a b)
def Tz(a b:ByteArray):ByteArray×ByteArray×Int:=if mF a b=0 then(if kM b=0 then(emp,emp,10)else(dec (kM a/kM b),dec (kM a%kM b),0))else(emp,emp,mF a b)
def Po(a b:ByteArray):ByteArray×Int:=if mF a b=0 then szN (Nat.gcd (kM a) (kM b))else(emp,mF a b)
def Qd{a b:ByteArray}(F:iH a=true)(A:iH b=true)(E:a.size<=4096)(J:b.size<=4096):mF a b=0:=by grind[mF]
def BL{m n:Nat}(E:m<dA)(A:n<dA):mF (dec m) (dec n)=0:=Qd (wH m) (wH n) ((mK m).2 E) ((mK n).2 A)
def zV{a b:ByteArray}(h:mF a b=0):∃m n,a=dec m/\b=dec n/\m<dA/\n<dA:=by
 unfold mF at h;split at h
 ·cases h
 ·rename_i h1;split at h
  ·cases h
  ·rename_i A;simp only[Bool.or_eq_true,Bool.not_eq_true',not_or,Bool.not_eq_false,decide_eq_true_eq,Nat.not_lt]at h1 A
   grind[pA,Jb]
def Ge{n:Nat}(h:n<dA):szN n=(dec n,0):=if_pos h
def lJ(s:ByteArray):Bool:=(bl s).head? == some 45
def iR(s:ByteArray):ByteArray:=if lJ s=true then⟨((bl s).drop 1).toArray⟩else s
def gT(s:ByteArray):Bool:=iH (iR s)&& !(lJ s&&eqB (iR s) (dec 0))
def nI(s:ByteArray):Int:=if lJ s=true then -(kM (iR s):Int)else kM (iR s)
def zed(n:Int):ByteArray:=⟨(itoa n).toArray⟩
theorem gH(n:Nat):zed n=dec n:=by rfl
theorem IM{n:Nat}(h:1<=n):zed (-(n:Int))=⟨((45:UInt8)::decDigits n).toArray⟩:=by grind[zed,itoa_neg]
theorem Em(n:Nat):lJ (dec n)=false:=by
 unfold lJ;rw[sR];have h1:=xO n;have A:=VY n;cases h:decDigits n with
 | nil=>rfl
 | cons c r=>rw[h]at h1;simp only[List.all_cons,Bool.and_eq_true]at h1;have:=uY.1 h1.1;simp only[List.head?_cons,beq_eq_false_iff_ne,ne_eq,Option.some.injEq];intro e;simp_all
theorem TP(n:Nat):iR (dec n)=dec n:=by grind[iR,Em]
theorem Xt(l:List UInt8):lJ ⟨((45:UInt8)::l).toArray⟩=true:=by rfl
def abP(l:List UInt8):iR ⟨((45:UInt8)::l).toArray⟩=⟨l.toArray⟩:=by rfl
def D8(n:Int):lJ (zed n)=decide (n<0):=by
 rcases Int.lt_or_le n 0 with h|h
 ·obtain⟨m,rfl⟩:∃m:Nat,n= -(m:Int):=⟨n.natAbs,by omega⟩
  grind[IM,Xt]
 ·obtain⟨m,rfl⟩:∃m:Nat,n=m:=⟨n.toNat,by omega⟩
  grind[gH,Em]
theorem vY(n:Int):iR (zed n)=dec n.natAbs:=by
 rcases Int.lt_or_le n 0 with h|h
 ·obtain⟨m,rfl⟩:∃m:Nat,n= -(m:Int):=⟨n.natAbs,by omega⟩;rw[IM (by omega),abP,Int.natAbs_neg,Int.natAbs_natCast];rfl
 grind[gH,TP]
theorem wC(n:Int):gT (zed n)=true:=by
 unfold gT;rw[vY,D8,wH];simp only[Bool.true_and,Bool.not_eq_true',Bool.and_eq_false_iff,decide_eq_false_iff_not]
 grind[vQ,Au]
theorem dT(n:Int):nI (zed n)=n:=by
 unfold nI;rw[vY,D8,dW]
 grind
def Jg{s:ByteArray}(h:gT s=true):zed (nI s)=s:=by
 unfold gT at h;simp only[Bool.and_eq_true,Bool.not_eq_true',Bool.and_eq_false_iff]at h;obtain⟨h1,J⟩:=h;have E:=pA h1;unfold nI;by_cases A:lJ s=true
 ·have h3:iR s≠dec 0:=by grind[vQ]
  rw[if_pos A];have F:1<=kM (iR s):=by grind
  rw[IM F];refine oU ?_;rw[oZ,<-sR,E];unfold iR;rw[if_pos A,oZ];unfold lJ at A;cases O:bl s<;>grind
 simp_all[gH,iR]
def alD{m n:Int}:zed m=zed n↔m=n:=⟨fun h=>by grind[dT],fun h=>by rw[h]⟩
def szZ(n:Int):ByteArray×Int:=if n.natAbs<dA then(zed n,0)else(emp,4)
def uA(a b:ByteArray):Int:=if(!gT a|| !gT b)=true then 3 else if(decide ((iR a).size>4096)||decide ((iR b).size>4096))=true then 4 else 0
def JI(a b:ByteArray):ByteArray×Int:=if uA a b=0 then szZ (nI a+nI b)else(emp,uA a b)
def Cf(a b:ByteArray):ByteArray×Int:=if uA a b=0 then szZ (nI a*nI b)else(emp,uA a b)
def qZ(a b:ByteArray):ByteArray×ByteArray×Int:=if uA a b=0 then(if nI b=0 then(emp,emp,10)else(zed ((nI a).fdiv (nI b)),zed ((nI a).fmod (nI b)),0))else(emp,emp,uA a b)
def lB(a b:Int):Int:=if a<b then -1 else if b<a then 1 else 0
def apB(a b:ByteArray):Int:=if gT a=true/\gT b=true then lB (nI a) (nI b)else 0
def Sp(a:ByteArray):Int:=if gT a=true then(nI a).sign else 0
def yW{m n:Int}(E:m.natAbs<dA)(A:n.natAbs<dA):uA (zed m) (zed n)=0:=by grind[uA,wC,vY,mK]
def FY{a b:ByteArray}(h:uA a b=0):∃m n:Int,a=zed m/\b=zed n/\m.natAbs<dA/\n.natAbs<dA:=by
 unfold uA at h;split at h
 ·cases h
 ·rename_i h1;split at h
  ·cases h
  ·rename_i A;simp only[Bool.or_eq_true,Bool.not_eq_true',not_or,Bool.not_eq_false,decide_eq_true_eq,Nat.not_lt]at h1 A;have F:=Jg h1.1;have E:=Jg h1.2
   grind[vY,mK]
def gJ:UInt8:=47
def oL(s:ByteArray):Bool:=(bl s).any (· == gJ)
def kW(s:ByteArray):ByteArray:=⟨((bl s).takeWhile (· != gJ)).toArray⟩
def kG(s:ByteArray):ByteArray:=if oL s=true then⟨(((bl s).dropWhile (· != gJ)).drop 1).toArray⟩else dec 1
def cO(s:ByteArray):Bool:=(gT (kW s)&&iH (kG s)&&decide ((iR (kW s)).size<=4096)&&decide ((kG s).size<=4096)) &&
 (!oL s||(!eqB (kG s) (dec 0)&& !eqB (kG s) (dec 1)&& !eqB (kW s) (dec 0)&&Nat.gcd (nI (kW s)).natAbs (kM (kG s)) == 1))
def kQ(s:ByteArray):Rat:=mkRat (nI (kW s)) (kM (kG s))
def slB:ByteArray:=⟨#[47]⟩
def rE(x:Rat):ByteArray:=if x.den=1 then zed x.num else zed x.num++slB++dec x.den
def Cz(x:Rat):Prop:=x.num.natAbs<dA/\x.den<dA
def A8{α:Type}{p:α->Bool}:∀{l:List α},(∀c∈l,p c=true)->l.takeWhile p=l
 | [],_=>rfl
 | a::l,h=>by rw[List.takeWhile_cons,if_pos (h a (by simp)),A8 fun c A=>h c (by simp[A])]
theorem Gc{α:Type}{p:α->Bool}:∀{l:List α} {c:α},c∈l.takeWhile p->p c=true
 | [],c,h=>by simp at h
 | a::l,c,h=>by
  rw[List.takeWhile_cons]at h;split at h
  ·rename_i A;rcases List.mem_cons.1 h with rfl|h
   ·exact A
   ·exact Gc h
  ·cases h
def UL{c:UInt8}(h:isD c=true):(c != gJ)=true:=by have:=uY.1 h;simp only[bne_iff_ne,ne_eq];intro e;rw[e]at this;simp[gJ]at this
def H6(n:Nat):∀c∈decDigits n,(c != gJ)=true:=fun c A=>UL (List.all_eq_true.1 (xO n) c A)
def uS(n:Int):∀c∈itoa n,(c != gJ)=true:=by
 intro c A;unfold itoa at A;split at A
 ·rcases List.mem_cons.1 A with rfl|A
  ·decide
  ·exact H6 _ c A
 ·exact H6 _ c A
def PT(n:Int):bl (zed n)=itoa n:=oZ _
def azB:bl slB=[gJ]:=rfl
def adW{l r:List UInt8}(h:∀c∈l,(c != gJ)=true):(l++gJ::r).takeWhile (· != gJ)=l:=by rw[List.takeWhile_append_of_pos h];simp
def acU{l r:List UInt8}(h:∀c∈l,(c != gJ)=true):(l++gJ::r).dropWhile (· != gJ)=gJ::r:=by rw[List.dropWhile_append_of_pos h];simp
def Ja{l:List UInt8}(h:∀c∈l,(c != gJ)=true):l.any (· == gJ)=false:=by rw[List.any_eq_false];intro c A e;have:=h c A;simp at this e;exact this e
def IX(x:Rat):bl (rE x)=if x.den=1 then itoa x.num else itoa x.num++gJ::decDigits x.den:=by
 unfold rE;split
 ·exact PT _
 ·rw[GP,GP,PT,sR,azB];simp
def Jr(x:Rat):oL (rE x)= !(x.den == 1):=by
 unfold oL;rw[IX];split
 ·rename_i h;rw[Ja (uS _),h];rfl
 ·rename_i h;rw[List.any_append];simp[h]
def Od(x:Rat):kW (rE x)=zed x.num:=by
 refine oU ?_;unfold kW;rw[oZ,IX,PT];split
 ·exact A8 (uS _)
 ·exact adW (uS _)
def L3(x:Rat):kG (rE x)=dec x.den:=by
 unfold kG;rw[Jr,IX];by_cases h:x.den=1
 ·simp[h]
 ·simp only[h,beq_eq_false_iff_ne.2 h,Bool.not_false,if_true,if_false];rw[acU (uS _)];rfl
def iP(x:Rat):kQ (rE x)=x:=by unfold kQ;rw[Od,L3,dT,dW,Rat.mkRat_self]
theorem zM(n:Int):(iR (zed n)).size<=4096↔n.natAbs<dA:=by rw[vY];exact mK _
def pX{x:Rat}(h:Cz x):cO (rE x)=true:=by
 unfold cO;rw[Od,L3,wC,wH,Jr,dT,dW];simp only[Bool.true_and,Bool.and_eq_true,decide_eq_true_eq,Bool.or_eq_true,Bool.not_not,beq_iff_eq,Bool.not_eq_true',vQ,ne_eq];refine⟨⟨(zM _).2 h.1,(mK _).2 h.2⟩,?_⟩;by_cases h1:x.den=1
 ·exact .inl h1
 ·refine .inr ⟨⟨⟨?_,?_⟩,?_⟩,x.reduced⟩
  ·rw[Au];exact x.den_nz
  ·rw[Au];exact h1
  ·rw[<-gH,alD];intro h0;apply h1;have:=x.reduced;rw[h0]at this;simpa[Nat.Coprime]using this
def iJ{s:ByteArray}(h:cO s=true):∃x:Rat,s=rE x/\Cz x/\kW s=zed x.num/\kG s=dec x.den:=by
 unfold cO at h;simp only[Bool.and_eq_true,decide_eq_true_eq,Bool.or_eq_true,Bool.not_eq_true',vQ,ne_eq,beq_iff_eq]at h;obtain⟨⟨⟨⟨h1,h2⟩,h3⟩,h4⟩,F⟩:=h;have ep:=Jg h1;have eq:=pA h2;have E:(nI (kW s)).natAbs.Coprime (kM (kG s))/\kM (kG s)≠0:=by
  rcases F with F|⟨⟨⟨X,_⟩,_⟩,h7⟩
  ·have J:kG s=dec 1:=by unfold kG;rw[if_neg (by rw[F];simp)]
   rw[J,dW];exact⟨Nat.coprime_one_right _,by omega⟩
  ·exact⟨h7,fun e=>X (by rw[<-eq,e])⟩
 let x:Rat:=⟨nI (kW s),kM (kG s),E.2,E.1⟩
 have J:kW s=zed x.num:=ep.symm;have T:kG s=dec x.den:=eq.symm;refine⟨x,oU ?_,⟨?_,?_⟩,J,T⟩
 ·rw[IX];have Z:bl (kW s)=(bl s).takeWhile (· != gJ):=oZ _;rw[J,PT]at Z;by_cases A:oL s=true
  ·have hd:bl (kG s)=((bl s).dropWhile (· != gJ)).drop 1:=by unfold kG;rw[if_pos A,oZ]
   rw[T,sR]at hd;have Y:x.den≠1:=fun e=>by
    rcases F with F|⟨⟨⟨_,X⟩,_⟩,_⟩
    ·rw[A]at F;cases F
    ·exact X (by rw[T,e])
   rw[if_neg Y,Z,hd]
   conv=>lhs;rw[<-List.takeWhile_append_dropWhile (p:=(· != gJ)) (l:=bl s)]
   congr 1
   cases hw:(bl s).dropWhile (· != gJ)with
   | nil=>exfalso;unfold oL at A;obtain⟨c,U,O⟩:=List.any_eq_true.1 A;rw[<-List.takeWhile_append_dropWhile (p:=(· != gJ)) (l:=bl s),hw,List.append_nil]at U;have:=Gc U;simp at this O;exact this O
   | cons c r=>
    have h0:(c != gJ)=false:=by have:=List.head?_dropWhile_not (p:=(· != gJ)) (l:=bl s);rw[hw]at this;simpa using this
    have:c=gJ:=by simpa using h0
    rw[this];rfl
  ·have A:oL s=false:=by simpa using A
   have Y:x.den=1:=by
    have:kG s=dec 1:=by unfold kG;rw[A];rfl
    rw[T]at this;exact Au.1 this
   rw[if_pos Y,Z]
   symm
   refine A8 ?_;intro c U;unfold oL at A;rw[List.any_eq_false]at A;have:=A c U;simp at this |-;exact this
 ·rw[J]at h3;exact(zM _).1 h3
 ·rw[T]at h4;exact(mK _).1 h4
def aoT{x y:Rat}:rE x=rE y↔x=y:=⟨fun h=>by rw[<-iP x,h,iP],fun h=>by rw[h]⟩
def tM(n:Int):Bool:= !decide (n.natAbs<dA)
def nH(x y:Rat):ByteArray×Int:=if(tM (x.num*y.den)||tM (y.num*x.den)||tM (x.num*y.den+y.num*x.den)||tM (x.den*y.den))=true then(emp,4)else(rE (x+y),0)
def Bt(a b:ByteArray):ByteArray×Int:=if(cO a&&cO b)=true then nH (kQ a) (kQ b)else(emp,3)
def subR(a b:ByteArray):ByteArray×Int:=if(cO a&&cO b)=true then nH (kQ a) (-kQ b)else(emp,3)
def Mk(x y:Rat):ByteArray×Int:=if(tM (x.num*y.num)||tM (x.den*y.den))=true then(emp,4)else(rE (x*y),0)
def zO(a b:ByteArray):ByteArray×Int:=if(cO a&&cO b)=true then Mk (kQ a) (kQ b)else(emp,3)
def VP(x y:Rat):Int:=if x<y then -1 else if y<x then 1 else 0
def DW(a b:ByteArray):Int:=if(cO a&&cO b)=true then VP (kQ a) (kQ b)else 0
def DD(a:ByteArray):Int:=if cO a=true then(kQ a).num.sign else 0
def auA{n:Int}{d:Nat}(A:d≠0):n.fdiv (Nat.gcd n.natAbs d:Nat)=(mkRat n d).num:=by rw[Rat.num_mkRat,if_neg A,Nat.gcd_comm];exact Int.fdiv_eq_ediv_of_nonneg _ (by omega)
def awF{n:Int}{d:Nat}(A:d≠0):(d:Int).fdiv (Nat.gcd n.natAbs d:Nat)=((mkRat n d).den:Int):=by rw[Rat.den_mkRat,if_neg A,Nat.gcd_comm,Int.fdiv_eq_ediv_of_nonneg _ (by omega)];rfl
def JC{n:Int}{d:Nat}(E:d≠0)(F:n.natAbs<dA)(A:d<dA):Cz (mkRat n d):=by
 constructor
 ·rw[Rat.num_mkRat,if_neg E];have:(n/((d.gcd n.natAbs:Nat):Int)).natAbs<=n.natAbs:=by
   rw[Int.natAbs_ediv_of_dvd]
   ·exact Nat.div_le_self _ _
   ·exact Int.ofNat_dvd_left.2 (Nat.gcd_dvd_right _ _)
  omega
 ·rw[Rat.den_mkRat,if_neg E];exact Nat.lt_of_le_of_lt (Nat.div_le_self _ _) A
def auZ{n:Int}{d:Nat}(A:d≠0):0<Nat.gcd n.natAbs d:=Nat.gcd_pos_of_pos_right _ (by omega)
def afM{n:Int}{d:Nat}(A:d≠0)(h:d<dA):Nat.gcd n.natAbs d<dA:=Nat.lt_of_le_of_lt (Nat.gcd_le_right _ (by omega)) h
def pG{n:Int}:tM n=false↔n.natAbs<dA:=by simp[tM]
def apW(x y:Rat):x+y=mkRat (x.num*y.den+y.num*x.den) (x.den*y.den):=Rat.add_def' x y
def ahI(x y:Rat):x*y=mkRat (x.num*y.num) (x.den*y.den):=Rat.mul_def' x y
def IS(x y:Rat):((x.den:Int)*y.den).natAbs=x.den*y.den:=by rw[Int.natAbs_mul,Int.natAbs_natCast,Int.natAbs_natCast]
def Pv(x y:Rat):x.den*y.den≠0:=Nat.mul_ne_zero x.den_nz y.den_nz
def Xj{x y:Rat}(h:(nH x y).2=0):nH x y=(rE (x+y),0)/\Cz (x+y):=by
 unfold nH at h |-;split at h
 ·cases h
 ·rename_i A;rw[if_neg A];simp only[Bool.or_eq_true,not_or,Bool.not_eq_true,pG]at A;exact⟨rfl,by rw[apW];exact JC (Pv x y) A.1.2 (by rw[<-IS];exact A.2)⟩
def Uy{x y:Rat}(h:(Mk x y).2=0):Mk x y=(rE (x*y),0)/\Cz (x*y):=by
 unfold Mk at h |-;split at h
 ·cases h
 ·rename_i A;rw[if_neg A];simp only[Bool.or_eq_true,not_or,Bool.not_eq_true,pG]at A;exact⟨rfl,by rw[ahI];exact JC (Pv x y) A.1 (by rw[<-IS];exact A.2)⟩
def Lw(p q r s:Int):Int:=lB (p*s) (r*q)
def vX{p q:Int}(A:0<q):p=p.fdiv q*q+p.fmod q/\0<=p.fmod q/\p.fmod q<q:=
 ⟨by rw[Int.mul_comm];exact(Int.mul_fdiv_add_fmod p q).symm,Int.fmod_nonneg_of_pos _ A,Int.fmod_lt_of_pos _ A⟩
theorem oA{a b:Int}(h:a<b):lB a b= -1:=if_pos h
theorem nD{a b:Int}(h:b<a):lB a b=1:=by unfold lB;rw[if_neg (by omega),if_pos h]
theorem Ao{a b:Int}(h:a=b):lB a b=0:=by unfold lB;rw[if_neg (by omega),if_neg (by omega)]
def N9{a b:Int}:lB a b=0↔a=b:=by
 unfold lB;constructor
 ·intro h;split at h
  ·cases h
  ·split at h
   ·cases h
   ·omega
 ·intro h;rw[if_neg (by omega),if_neg (by omega)]
def adJ(a b:Int):lB b a= -lB a b:=by
 rcases Int.lt_trichotomy a b with h|h|h
 ·rw[oA h,nD h];rfl
 ·rw[Ao h,Ao h.symm];rfl
 ·rw[nD h,oA h]
def SG{p q r s:Int}(E:0<q)(A:0<s)(h:p.fdiv q<r.fdiv s):p*s<r*q:=by
 obtain⟨T,a1,O⟩:=vX (p:=p) E;obtain⟨U,a2,J⟩:=vX (p:=r) A;have h1:p*s<(p.fdiv q+1)*q*s:=by refine Int.mul_lt_mul_of_pos_right ?_ A;rw[Int.add_mul];omega
 have F:(p.fdiv q+1)*q*s<=r.fdiv s*q*s:=Int.mul_le_mul_of_nonneg_right (Int.mul_le_mul_of_nonneg_right (by omega) (by omega)) (by omega);have h3:r.fdiv s*q*s<=r*q:=by rw[Int.mul_right_comm];exact Int.mul_le_mul_of_nonneg_right (by omega) (by omega)
 omega
def VD{p q r s:Int}(E:0<q)(A:0<s)(h:p.fdiv q≠r.fdiv s):Lw p q r s=lB (p.fdiv q) (r.fdiv s):=by
 unfold Lw;rcases Int.lt_or_gt_of_ne h with h|h
 ·rw[oA h,oA (SG E A h)]
 ·rw[nD h,nD (SG A E h)]
def agP{p q r s:Int}(E:0<q)(O:0<s)(h:p.fdiv q=r.fdiv s):Lw p q r s=lB (p.fmod q*s) (r.fmod s*q):=by
 obtain⟨J,_,_⟩:=vX (p:=p) E;obtain⟨T,_,_⟩:=vX (p:=r) O;unfold Lw;have h1:p*s=p.fdiv q*q*s+p.fmod q*s:=by
  conv=>lhs;rw[J]
  rw[Int.add_mul]
 have A:r*q=p.fdiv q*q*s+r.fmod s*q:=by
  conv=>lhs;rw[T]
  rw[Int.add_mul,<-h,Int.mul_right_comm]
 rw[h1,A];unfold lB;have F:(p.fdiv q*q*s+p.fmod q*s<p.fdiv q*q*s+r.fmod s*q)↔p.fmod q*s<r.fmod s*q:=by omega
 have c2:(p.fdiv q*q*s+r.fmod s*q<p.fdiv q*q*s+p.fmod q*s)↔r.fmod s*q<p.fmod q*s:=by omega
 simp only[F,c2]
def afA(x q y s:Int):lB (x*s) (y*q)= -Lw q x s y:=by unfold Lw;rw[Int.mul_comm q y,Int.mul_comm s x];exact adJ _ _
def aqX(x y:Rat):VP x y=Lw x.num x.den y.num y.den:=by unfold VP Lw lB;simp only[Rat.lt_iff]
def CU(b:Nat)(l:List Nat)(k:Nat):ofL b (l.take (k+1))=ofL b (l.take k)+b^k*l.getD k 0:=by
 cases h:l[k]? with
 | none=>have A:=List.getElem?_eq_none_iff.1 h;rw[List.take_of_length_le (by omega),List.take_of_length_le (by omega)];simp[List.getD,h]
 | some x=>rw[mP b h];simp[List.getD,h]
def Lim.getD{b:Nat}(E:0<b){l:List Nat}(h:Lim b l)(k:Nat):l.getD k 0<b:=by
 cases A:l[k]? with
 | none=>simpa[List.getD,A]using E
 | some x=>simpa[List.getD,A]using h x (List.mem_of_getElem? A)
def Lim.snoc{b:Nat}{l:List Nat}(h:Lim b l){x:Nat}(E:x<b):Lim b (l++[x]):=fun y A=>by
 rcases List.mem_append.1 A with A|A
 ·exact h y A
 ·rw[List.mem_singleton.1 A];exact E
def Lim.set{b:Nat}{l:List Nat}(h:Lim b l){x k:Nat}(E:x<b):Lim b (l.set k x):=fun y A=>by
 rcases List.mem_or_eq_of_mem_set A with A|rfl
 ·exact h y A
 ·exact E
def Lim.take{b:Nat}{l:List Nat}(h:Lim b l)(k:Nat):Lim b (l.take k):=fun y A=>h y (List.mem_of_mem_take A)
def Lim.drop{b:Nat}{l:List Nat}(h:Lim b l)(k:Nat):Lim b (l.drop k):=fun y A=>h y (List.mem_of_mem_drop A)
def Lim.zeros{b:Nat}(A:0<b)(n:Nat):Lim b (List.replicate n 0):=fun y E=>by rw[(List.mem_replicate.1 E).2];exact A
def BT(b:Nat){l:List Nat}{k x:Nat}(h:l[k]?=some x):ofL b (l.drop k)=x+b*ofL b (l.drop (k+1)):=by obtain⟨A,E⟩:=List.getElem?_eq_some_iff.1 h;rw[List.drop_eq_getElem_cons A,E,ofL]
def WR{b:Nat}(F:0<b){l o:List Nat}{i n k c:Nat}(E:l[i]?=some n)(A:o.length=i)(h:ofL b o+b^i*c=ofL b (l.take i)*k):
  ofL b (o++[(n*k+c)%b])+b^(i+1)*((n*k+c)/b)=ofL b (l.take (i+1))*k:=by
 rw[zF,mP b E,A,Nat.pow_succ];have e:=Nat.mod_add_div (n*k+c) b;have J:b^i*((n*k+c)%b+b*((n*k+c)/b))=b^i*(n*k+c):=by rw[e]
 grind
def alM{b:Nat}(E:0<b){x y o:List Nat}{i c:Nat}(A:o.length=i)(h:ofL b o+b^i*c=ofL b (x.take i)+ofL b (y.take i)):
  ofL b (o++[(x.getD i 0+y.getD i 0+c)%b])+b^(i+1)*((x.getD i 0+y.getD i 0+c)/b)=ofL b (x.take (i+1))+ofL b (y.take (i+1)):=by
 rw[zF,CU,CU,A,Nat.pow_succ];have e:=Nat.mod_add_div (x.getD i 0+y.getD i 0+c) b;have F:b^i*((x.getD i 0+y.getD i 0+c)%b+b*((x.getD i 0+y.getD i 0+c)/b))=b^i*(x.getD i 0+y.getD i 0+c):=by rw[e]
 grind
def Wz{b:Nat}{x y o:List Nat}{i c c' d:Nat}(E:o.length=i)(h:ofL b o+ofL b (y.take i)=ofL b (x.take i)+b^i*c)(A:d+y.getD i 0+c=x.getD i 0+b*c'):
  ofL b (o++[d])+ofL b (y.take (i+1))=ofL b (x.take (i+1))+b^(i+1)*c':=by
 rw[zF,CU,CU,E,Nat.pow_succ];have F:b^i*(d+y.getD i 0+c)=b^i*(x.getD i 0+b*c'):=by rw[A]
 grind
def TW{b x y c:Nat}(F:x<b)(E:y<b)(A:c<=1):(if(x:Int)-y-c<0 then(x:Int)-y-c+b else(x:Int)-y-c)=((if x<y+c then x+b-(y+c)else x-(y+c):Nat):Int):=by split <;> split <;> omega
def Px{b x y c:Nat}(F:x<b)(E:y<b)(A:c<=1):(if x<y+c then x+b-(y+c)else x-(y+c))+y+c=x+b*(if x<y+c then 1 else 0)/\(if x<y+c then x+b-(y+c)else x-(y+c))<b:=by split <;> constructor <;> omega
def abG{b:Nat}(U:2<=b){x y o:List Nat}{c:Nat}(J:Lim b o)(X:Lim b x)(F:o.length=x.length)(E:y.length<=x.length)(O:ofL b y<=ofL b x)(T:c<=1)(h:ofL b o+ofL b (y.take x.length)=ofL b (x.take x.length)+b^x.length*c):
  c=0/\ofL b o=ofL b x-ofL b y:=by
 rw[List.take_of_length_le E,List.take_length]at h;have h1:=sW (by omega) J;rw[F]at h1;rcases Nat.eq_zero_or_pos c with A|A
 ·subst A;rw[Nat.mul_zero]at h;omega
 ·have:c=1:=by omega
  subst this;rw[Nat.mul_one]at h;omega
def ajP{b:Nat}(T:0<b){y out E:List Nat}{i k x c v A:Nat}(F:out[i+k]?=some v)(J:y[k]?=some A)(h:ofL b out+b^(i+k)*c=ofL b E+b^i*(x*ofL b (y.take k))):
  ofL b (out.set (i+k) ((v+x*A+c)%b))+b^(i+(k+1))*((v+x*A+c)/b)=ofL b E+b^i*(x*ofL b (y.take (k+1))):=by
 have h1:=Pm b out (i+k) v ((v+x*A+c)%b) F;have e:=Nat.mod_add_div (v+x*A+c) b;have U:b^(i+k)*((v+x*A+c)%b+b*((v+x*A+c)/b))=b^(i+k)*(v+x*A+c):=by rw[e]
 rw[mP b J,show i+(k+1)=(i+k)+1 by omega,Nat.pow_succ];have O:b^(i+k)=b^i*b^k:=Nat.pow_add b i k
 grind
def awA{b:Nat}{y out A:List Nat}{i x c:Nat}(E:out[i+y.length]?=some 0)(h:ofL b out+b^(i+y.length)*c=ofL b A+b^i*(x*ofL b (y.take y.length))):
  ofL b (out.set (i+y.length) c)=ofL b A+b^i*(x*ofL b y):=by
 have h1:=Pm b out (i+y.length) 0 c E;rw[List.take_length]at h;rw[<-h];omega
def aiH{b r a:Nat}(X:2<=b){l:List Nat}{i x:Nat}{A:List Nat}(J:l[i]?=some x)(O:x<b)(T:r<a)(U:i<A.length)(h:ofL b (l.drop (i+1))=ofL b (A.drop (i+1))*a+r):
  ofL b (l.drop i)=ofL b ((A.set i ((x+b*r)/a)).drop i)*a+(x+b*r)%a/\(x+b*r)/a<b/\(x+b*r)%a<a:=by
 have E:0<a:=by omega
 have F:(A.set i ((x+b*r)/a))[i]?=some ((x+b*r)/a):=by simp[U]
 refine⟨?_,?_,Nat.mod_lt _ E⟩
 ·rw[BT b J,BT b F,h,List.drop_set_of_lt (by omega)];have e:=Nat.mod_add_div (x+b*r) a
  grind
 ·rw[Nat.div_lt_iff_lt_mul E];have:b*(r+1)<=b*a:=Nat.mul_le_mul_left _ T;rw[Nat.mul_add]at this;omega
def asI{q r a n:Nat}(A:r<a)(h:n=q*a+r):q=n/a/\r=n%a:=by
 subst h;have E:0<a:=by omega
 constructor
 ·rw[Nat.add_comm,Nat.add_mul_div_right _ _ E,Nat.div_eq_of_lt A,Nat.zero_add]
 ·rw[Nat.add_comm,Nat.add_mul_mod_self_right,Nat.mod_eq_of_lt A]
def akV(l:List UInt8):∀a:Nat,l.foldl (fun a c=>10*a+(c.toNat-48)) a=a*10^l.length+jH l:=by
 induction l with
 | nil=>intro a;simp[jH]
 | cons c l ih=>
  intro a;have h1:=ih (10*a+(c.toNat-48));have A:=ih (10*0+(c.toNat-48));simp only[List.foldl_cons,jH]at h1 A |-;rw[h1,A,List.length_cons,Nat.pow_succ]
  grind
def By(a b:List UInt8):jH (a++b)=jH a*10^b.length+jH b:=by rw[jH,List.foldl_append];exact akV b _
def IR{l:List UInt8}(h:l.all isD=true):jH l<10^l.length:=by
 induction l using Qf with
 | h0=>simp[jH]
 | h1 l c ih=>rw[List.all_append]at h;simp only[Bool.and_eq_true,List.all_cons,List.all_nil,Bool.and_true]at h;have:=ih h.1;have A:=uY.1 h.2;rw[Dd,List.length_append,List.length_cons,List.length_nil,Nat.pow_succ];omega
def Tw:Nat->Nat->List UInt8
 | 0,_=>[]
 | k+1,x=>Tw k (x/10)++[UInt8.ofNat (48+x%10)]
def Np:∀(k x m:Nat),x<10^k->m≠0->decDigits (x+10^k*m)=decDigits m++Tw k x
 | 0,x,m,hx,hm=>by
  have:x=0:=by simpa using hx
  subst this;simp[Tw]
 | k+1,x,m,hx,hm=>by
  rw[Nat.pow_succ]at hx;have h1:10^(k+1)*m=10*(10^k*m):=by rw[Nat.pow_succ,Nat.mul_comm (10^k) 10,Nat.mul_assoc]
  have A:0<10^k*m:=Nat.mul_pos (Nat.pow_pos (by omega)) (by omega);rw[h1,decDigits,dif_neg (by omega),show(x+10*(10^k*m))/10=x/10+10^k*m by omega,show(x+10*(10^k*m))%10=x%10 by omega,Np k (x/10) m (by omega) hm,Tw,List.append_assoc]
def aaY(k:Nat):Tw k 0=List.replicate k 48:=by
 induction k with
 | zero=>rfl
 | succ k ih=>rw[Tw,Nat.zero_div,ih,List.replicate_succ'];rfl
def Yn:∀(k x:Nat),1<=k->x<10^k->Tw k x=List.replicate (k-(decDigits x).length) 48++decDigits x
 | 0,x,hk,hx=>by omega
 | k+1,x,hk,hx=>by
  rw[Tw];by_cases E:x<10
  ·rw[show x/10=0 by omega,aaY,decDigits_one E];simp[Nat.mod_eq_of_lt E]
  ·have A : 1 <= k := by
    rcases Nat.eq_zero_or_pos k with h|h
    ·subst h;simp at hx;omega
    ·exact h
   rw[Nat.pow_succ]at hx;rw[Yn k (x/10) A (by omega)]
   conv=>rhs;rw[decDigits,dif_neg E]
   rw[List.length_append,List.length_cons,List.length_nil,List.append_assoc,show k+1-((decDigits (x/10)).length+(0+1))=k-(decDigits (x/10)).length by omega]
def aBz(x:Nat):List UInt8:=List.replicate (9-(decDigits x).length) 48++decDigits x
def alY{x m:Nat}(A:x<1000000000)(E:m≠0):decDigits (x+1000000000*m)=decDigits m++aBz x:=by have:=Np 9 x m A E;rw[Yn 9 x (by omega) A]at this;exact this
def anT{b:Nat}(A:2<=b){n k:Nat}(F:k<(bT b n).length):ofL b ((bT b n).drop k)≠0:=by
 intro h;have J:n≠0:=fun e=>by subst e;rw[iC]at F;simp at F
 have h1:=WK A J;have E:ofL b (bT b n)=ofL b ((bT b n).take k)+b^k*ofL b ((bT b n).drop k):=by have:=sE b ((bT b n).take k) ((bT b n).drop k);rw[List.take_append_drop,List.length_take,Nat.min_eq_left (by omega)]at this;exact this
 rw[fQ A,h,Nat.mul_zero,Nat.add_zero]at E;have h3:=sW (b:=b) (by omega) ((fC A n).take k);rw[List.length_take,Nat.min_eq_left (by omega),<-E]at h3;have:b^k<=b^((bT b n).length-1):=Nat.pow_le_pow_right (by omega) (by omega);omega
def dl(l:List UInt8):List Nat:=(l.map fun c=>c.toNat-48).reverse
end Go.Nu
end
section
namespace Go.Aw
open Go.RowKit
section
variable{P:Program}{S:Sg}{w:World}{H:aG}{f:FuncId}{args args':List AV}{K:AV->aG->Prop}
def St.frz(J:St S w H)(l:List Nat):St (S.froze fun k=>if k∈l then H k else none) w (fun k=>if k∈l then none else H k)/\Grow S w (S.froze fun k=>if k∈l then H k else none) w/\St S w fun k=>if k∈l then H k else none:=by
 let Hf:aG:=fun k=>if k∈l then H k else none
 let Hr:aG:=fun k=>if k∈l then none else H k
 have O:∀k r',Hf k=some r'->k∈l/\H k=some r':=fun k r' A=>by grind
 have F:∀k r',Hr k=some r'->¬k∈l/\H k=some r':=fun k r' A=>by grind
 refine⟨⟨?_,?_,fun k r' A=>(J.rows k r' (F k r' A).2).keep (S.le_froze Hf) (gZ.refl S w) (fun _ _=>rfl),?_,fun k k' Y r2 A U X g E T=>J.disj k k' Y r2 (F k Y A).2 (F k' r2 U).2 X g E T,J.tabs.keep (S.le_froze Hf) (gZ.refl S w)⟩,⟨S.le_froze Hf,fun k A=>.inl A,rfl,rfl,rfl,Nat.le_refl _,fun _ _=>rfl,?_⟩,J.drop fun k r' A=>(O k r' A).2⟩
 ·rintro g (E|E)
  ·exact .inl (J.ro_fz g E)
  ·exact .inr E
 ·rintro g (E|⟨k,r',A,E⟩)
  ·exact J.fz_lt g E
  ·exact(J.rows k r' (O k r' A).2).block_lt E
 ·rintro k r' A g E (h1|⟨i,r2,Z,h2⟩)
  ·exact J.free k r' (F k r' A).2 g E h1
  ·exact J.disj k i r' r2 (F k r' A).2 (O i r2 Z).2 (fun e=>(F k r' A).1 (e▸(O i r2 Z).1)) g E h2
 ·rintro g (E|⟨k,r',A,E⟩)
  ·grind
  ·exact .inr (J.free k r' (O k r' A).2 g E)
def bK.frz(l:List Nat)(U:ConvL (fun k=>if k∈l then H k else none) args args')(h:bK P f args' (fun k=>if k∈l then none else H k) K):bK P f args H K:=by
 intro S w vals Y Z;obtain⟨h1,E,h3⟩:=Y.frz l;refine(h _ w vals h1 (U.rep h3 Z)).mono fun e w' ⟨v,r,H',S',X,O,A,J,F,hn⟩=>⟨v,r,H',S',X,O,A,J,E.trans F,fun k T h0=>hn k T ?_⟩
 grind
def PC.useF{r:AV}(l:List Nat)(A:ConvL (fun k=>if k∈l then H k else none) args args')(h:PC P f args' r)(E:K r (fun k=>if k∈l then none else H k)):bK P f args H K:=bK.frz l A (PC.use h E)
def PC.lib{a:List Value}{r:AV}{v:Value}(O:∀S w,rep S w r v)(h:∀w,(∀t∈adI,vU w t.1=some t.2)->Calls P f a.toArray w fun e w'=>e=.returned v/\Below w.heap.size w w'):PC P f (a.map .v) r:=by
 intro S w vals F X U;obtain rfl:vals=a:=by clear h;induction a generalizing vals<;>grind[bJ,rep]
 refine(h w fun t J=>(F.tabs t J).2).mono fun e w' ⟨T,A⟩=>?_
 exact⟨v,r,bY,S,T,rfl,F.after A.size fun k E=>A.block k E,O S w',F.grow A.os A.tape A.output A.size fun k E=>A.block k E,gC.refl _ _⟩
end
end Go.Aw
end
section
namespace Go.Proofs.YthephioccidfgaaGreatDoor.Nu
open Go.Proofs.Tryz
open Go.Aw Go.Aw.D Go.Proofs Ty Go.Nu
abbrev bas:Nat:=1000000000
def mI(n:Nat):List AV:=[int n]
def QI(n:Nat):(mI n).length=1:=(rfl)
def aAE(n:Nat):(mI n).getD 0 .any=int n:=(rfl)
attribute [go_sem] QI aAE
theorem cI{H:aG}{k:IntKind}{a b:Int}(h:a=b):Conv H (.v (.int k a)) (.v (.int k b)):=h▸.refl _
theorem cB{H:aG}{a b:Bool}(h:a=b):Conv H (.v (.bool a)) (.v (.bool b)):=h▸.refl _
def cS{H:aG}{a b:ByteArray}(h:a=b):Conv H (.v (.string a)) (.v (.string b)):=h▸.refl _
def ltB{k n:Nat}(h:decide ((k:Int)<(n:Int))=true):k<n:=by grind
def geB{k n:Nat}(A:k<=n)(h:decide ((k:Int)<(n:Int))=false):k=n:=by grind
def amU(s:ByteArray):s.toList=bl s:=ByteArray.toList_eq s
def allN(l:List Nat):cQ 1 (l.map mI):=DL QI l
def aA7(s:ByteArray)(k:Nat):s.data.getD k 0=(bl s).getD k 0:=by grind[bl,Array.getD_eq_getD_getElem?]
def ayP(a:Array UInt8):bl ⟨a⟩=a.toList:=rfl
attribute [go_sem] amU aA7 ayP
def azF{α:Type}{q:α->Bool}{l:List α}{k:Nat}{c:α}(h:l[k]?=some c)(A:q c=false):l.all q=false:=by grind
def awE{α:Type}{q:α->Bool}{l:List α}(h:∀c∈l,q c=true):l.all q=true:=Xaj.2 h
def gP{α:Type}{p:α->Prop}{l:List α}{k:Nat}{x:α}(A:l[k]?=some x)(E:p x)(h:∀x∈l.take k,p x):∀x∈l.take (k+1),p x:=by
 rw[aZ A]
 grind
def aBw{c:UInt8}{n:Nat}(A:n<256):(((c.toNat:Int) == (n:Int))=true)↔c=UInt8.ofNat n:=by
 rw[Xay]
 grind[UInt8.ofNat_toNat,UInt8.toNat_ofNat']
def Vh(l:List UInt8):(l == []||(((l.getD 0 0).toNat:Int) == 48&& !(l == [48])))= !(l != []&&(l.length == 1||l.getD 0 0 != 48)):=by
 cases l with
 | nil=>rfl
 | cons c r=>
  have A:(((c.toNat:Int) == 48)=true)↔c=48:=aBw (n:=48) (by omega)
  grind
def atN(c:UInt8):(decide ((c.toNat:Int)<48)||decide ((c.toNat:Int)>57))= !isD c:=by
 unfold isD
 grind
def u8w{n:Nat}(h:48<=n)(A:n<256):IntKind.u8.wrap ((n:Int)-48)=((n-48:Nat):Int):=by have e:IntKind.u8.wrap ((n:Int)-48)=((n:Int)-48)%256:=rfl;omega
def ZD{l:List UInt8}{k:Nat}{c:UInt8}(h:l[k]?=some c):l.getD k 0=c:=by grind
def Fm(s:ByteArray)(h:s.size<=4611686018427387904):PC prog 149 [str s] (boo (iH s)):=by
 have Z:=jZ s;refine pcd func149 rfl rfl ?_;simp only[go_sem];refine⟨fun h0=>⟨by omega,?_⟩,?_⟩
 ·have:bl s≠[]:=by simpa using h0
  have:=List.length_pos_iff.2 this;omega
 rw[Vh];refine aA (fun O=>?_) (fun O=>?_)
 ·simp only[go_sem];refine cB ?_;unfold iH gV;rw[Xau]at O;rw[O];rfl
 rw[Xbj]at O;simp only[go_sem];refine⟨fun ρ _=>∃k:Nat,k<=(bl s).length/\ρ 0=str s/\ρ 16=int s.size/\ρ 17=int k/\∀c∈(bl s).take k,isD c=true,fun ρ _=>(bl s).length-aU (ρ 17),⟨0,Xab _,rfl,rfl,rfl,by simp⟩,?_⟩;rintro ρ H ⟨k,Y,h0,T,J,U⟩;simp only[go_sem,T,J];refine aA (fun E=>?_) (fun A=>?_)
 ·have E:k<(bl s).length:=by have:=ltB E;omega
  obtain⟨c,X⟩:=aI E;have hi:=ZD X;simp only[go_sem,h0,J,hi,atN];refine⟨⟨by omega,by omega⟩,fun _=>⟨by omega,by omega⟩,aA (fun F=>?_) (fun F=>?_)⟩
  ·simp only[go_sem];refine cB ?_;unfold iH gV;rw[azF X (by simpa using F),Bool.and_false]
  ·simp only[go_sem,h0,T,J,aW k];exact⟨⟨k+1,E,rfl,gP X (by simpa using F) U⟩,by simp only[aN];omega⟩
 ·have A:k=(bl s).length:=by rw[<-Z]at A;exact geB Y A
  subst A;rw[Xad]at U;simp only[go_sem];refine cB ?_;unfold iH gV;rw[O,awE U];rfl
def Gu:∀(l:List Nat) (x:Nat),sC (l++[x])=if x=0 then sC l else l++[x]
 | [],x=>by simp only[Xbn,sC]
 | y::l,x=>by
  rw[List.cons_append,sC,Gu l x];by_cases h:x=0
  ·rw[if_pos h,if_pos h,sC]
  ·rw[if_neg h,if_neg h];cases l <;> rfl
def aAO(l:List Nat)(h:l.length<=4611686018427387904):PC prog 221 [.sl (l.map mI)] (.sl ((sC l).map mI)):=by
 refine pcd func221 rfl rfl ?_;simp only[go_sem];refine⟨fun ρ _=>∃k:Nat,k<=l.length/\ρ 0=.sl ((l.take k).map mI)/\sC (l.take k)=sC l,fun ρ _=>match ρ 0 with| .sl es=>es.length|_=>0,⟨l.length,Xae _,by rw[Xad];rfl,by rw[Xad]⟩,?_⟩;rintro ρ H ⟨k,Z,h0,F⟩;have J:(l.take k).length=k:=by rw[Xav];omega
 cases k with
 | zero=>
  simp only[go_sem,h0,show decide (((0:Nat):Int)>0)=false from rfl];refine aA (fun E=>by cases E) (fun _=>?_);simp only[go_sem,h0];have U:sC l=[]:=by rw[<-F];rfl
  rw[U];exact .refl _
 | succ k=>
 have X:IntKind.i64.wrap (((k+1:Nat):Int)-1)=(k:Int):=by rw[bD (by omega)];omega
 obtain⟨x,Y⟩:=aI (show k<l.length by omega);have O:(l.take (k+1))[k]?=some x:=by rw[List.getElem?_take,if_pos (by omega)];exact Y
 have T:l.take (k+1)=l.take k++[x]:=aZ Y;simp only[go_sem,h0,J,X,aC O,show decide (((k+1:Nat):Int)>0)=true from decide_eq_true (by omega)];refine⟨⟨by omega,by omega⟩,aA (fun E=>?_) (fun E=>?_)⟩
 ·have A:x=0:=by simpa using E
  simp only[go_sem,h0,J,X];refine⟨by omega,⟨⟨k,by omega,?_,?_⟩,?_⟩⟩
  ·rw[<-List.map_take,List.take_take,Nat.min_eq_left (by omega)]
  ·rw[T,Gu,if_pos A]at F;exact F
  ·rw[<-List.map_take,Xaa,Xav];omega
 ·have A:x≠0:=by simpa using E
  simp only[go_sem,h0];rw[T,Gu,if_neg A]at F;rw[T,F];exact .refl _
abbrev nl(n:Nat):AV:=.sl ((bT bas n).map mI)
def PY:nl 0=.sl []:=by simp only[nl,iC];rfl
def Nj{l:List Nat}(A:Lim bas l)(h:l.length<=4611686018427387904){n:Nat}(E:ofL bas l=n):PC prog 221 [.sl (l.map mI)] (nl n):=by
 have:=aAO l h
 rwa [YJ (by decide) A E]at this
def dG(l:List Nat):Row:=⟨3,1,l.map mI⟩
def Cm{H:aG}{k:Nat}{l:List Nat}{x:Nat}:aH H k (some ⟨3,1,l.map mI++[[int (x:Int)]]⟩) k=some (dG (l++[x])):=by rw[aB];simp only[dG,Xaw,Xaq,List.map_nil];rfl
def ajE(s:ByteArray)(X:(bl s).all isD=true)(h:s.size<=4096):PC prog 220 [str s] (nl (kM s)):=by
 have hs:=jZ s;refine pcb (fun t=>t == 3) func220 rfl rfl ?_;simp only[go_sem];refine aJ fun j hj=>?_
 simp only[go_sem];refine⟨fun ρ H=>∃(m j:Nat) (o:List Nat),m<=(bl s).length/\ρ 0=str (s.extract 0 m)/\ρ 3=.os j/\H j=some (dG o)/\Lim bas o/\o.length<=(bl s).length-m/\ofL bas o+bas^o.length*jH ((bl s).take m)=kM s,fun ρ _=>match ρ 0 with| .v (.string t)=>t.size|_=>0,⟨(bl s).length,j,[],Xae _,?_,rfl,aB _ _ _,by simp[Lim],by simp,?_⟩,?_⟩
 ·rw[show s.extract 0 (bl s).length=s from oU (by rw[lC,Xad,Xby])];rfl
 ·rw[Xad];simp[ofL,kM]
 clear hj j;rintro ρ H ⟨m,j,o,hm,h0,h3,O,ho,ac,hv⟩;have A:(s.extract 0 m).size=m:=by rw[<-jZ,lC,Xby,Xav];omega
 simp only[go_sem,h0,A];refine aA (fun Z=>?_) (fun Z=>?_)
 ·have U:0<m:=by simpa using Z
  have e9:eF 0 (IntKind.i64.wrap ((m:Int)-9))=((m-9:Nat):Int):=by rw[bD (by omega)];unfold eF;split <;> omega
  simp only[go_sem,h0,A];refine⟨fun ρ H=>∃i:Nat,m-9<=i/\i<=m/\ρ 0=str (s.extract 0 m)/\ρ 3=.os j/\ρ 4=int (m-9:Nat)/\ρ 5=int (jH (((bl s).take i).drop (m-9)):Nat)/\ρ 6=int i/\H j=some (dG o),fun ρ _=>m-aU (ρ 6),
   ⟨m-9,Xae _,by omega,h0,h3,?_,?_,?_,O⟩,?_⟩
  ·simp only[go_sem,e9]
  ·simp only[go_sem];rw[List.drop_eq_nil_of_le (by rw[Xav];omega)];rfl
  ·simp only[go_sem,e9]
  clear h0 h3 O;rintro ρ H ⟨i,af,ab,h0,h3,h4,h5,h6,O⟩;simp only[go_sem,h0,h6,A];refine aA (fun J=>?_) (fun F=>?_)
  ·have J:i<m:=ltB J;obtain⟨c,E⟩:=aI (show i<(bl s).length by omega);have hx:(bl (s.extract 0 m)).getD i 0=c:=by rw[lC,Xby];exact ZD (by rw[List.getElem?_take,if_pos J];exact E)
   have hd:=uY.1 (Xaj.1 X c (Xac E));have aa:=IR (l:=((bl s).take i).drop (m-9)) (Xaj.2 fun c E=>Xaj.1 X c (List.mem_of_mem_take (List.mem_of_mem_drop E)));have Y:10^(((bl s).take i).drop (m-9)).length<=10^9:=Xas (by omega) (by rw[List.length_drop,Xav];omega);have e1:((bl s).take (i+1)).drop (m-9)=((bl s).take i).drop (m-9)++[c]:=by rw[aZ E,List.drop_append_of_le_length (by rw[Xav];omega)]
   have e2:IntKind.i64.wrap (IntKind.i64.wrap (10*((jH (((bl s).take i).drop (m-9)):Nat):Int))+IntKind.i64.wrap (IntKind.u8.wrap ((c.toNat:Int)-48)))=((jH (((bl s).take (i+1)).drop (m-9)):Nat):Int):=by rw[e1,Dd,u8w hd.1 (by omega)];generalize jH (((bl s).take i).drop (m-9))=V at *;rw[show IntKind.i64.wrap (10*(V:Int))=10*(V:Int)from bD (by omega),show IntKind.i64.wrap (((c.toNat-48:Nat):Int))=((c.toNat-48:Nat):Int)from bD (by omega),bD (by omega)];omega
   simp only[go_sem,h0,h3,h4,h5,h6,A,hx,e2,aW i];exact⟨⟨by omega,by omega⟩,⟨i+1,by omega,by omega,rfl,rfl,O⟩,by simp only[aN];omega⟩
  ·have F:i=m:=geB ab F;subst F;simp only[go_sem,h3,h5,];have hL:(((bl s).take i).drop (i-9)).length=i-(i-9):=by rw[List.length_drop,Xav];omega
   have hA:(((bl s).take i).drop (i-9)).all isD=true:=Xaj.2 fun c E=>Xaj.1 X c (List.mem_of_mem_take (List.mem_of_mem_drop E))
   have aa:=IR hA;have Y:10^(((bl s).take i).drop (i-9)).length<=10^9:=Xas (by omega) (by omega);have T:jH ((bl s).take i)=jH ((bl s).take (i-9))*10^(((bl s).take i).drop (i-9)).length+jH (((bl s).take i).drop (i-9)):=by
    rw[<-By]
    congr 1
    conv=>lhs;rw[<-List.take_append_drop (i-9) ((bl s).take i)]
    rw[List.take_take,Nat.min_eq_left (by omega)]
   generalize jH (((bl s).take i).drop (i-9))=x at *;refine bC O ⟨rfl,rfl⟩ ⟨rfl,trivial⟩ (by simp only[dG,Xaa,Xag,List.length_nil];omega) (fun j' ae=>?_);simp only[go_sem,h0,h4,A];refine⟨⟨by omega,by omega⟩,⟨⟨i-9,j',o++[x],by omega,?_,rfl,Cm,ho.snoc (show x<1000000000 by omega),?_,?_⟩,?_⟩⟩
   ·congr 2
    refine oU ?_;rw[lC,lC,lC];simp only[Xby,List.take_take];rw[Nat.min_eq_left (by omega)]
   ·rw[Xaf,Xag,List.length_nil];omega
   ·rw[<-hv,T,zF,Xaf,Xag,List.length_nil,Nat.pow_succ];by_cases h9:9<=i
    ·rw[hL,show i-(i-9)=9 by omega]
     grind
    ·rw[show i-9=0 by omega];simp only[List.take_zero,jH,List.foldl_nil]
     grind
   ·rw[<-jZ,lC,lC];simp only[Xby,Xav];omega
 ·have U:m=0:=by simpa using Z
  subst U;simp only[go_sem,h3];refine PC.useF [j] (.cons _ _ _ _ (.row _ _ _ (by simp[O];rfl) (ConvE.refl _)) .nil) (Nj ho (by omega) (n:=kM s) (by rw[<-hv];simp[jH])) ?_;simp only[go_sem];exact .refl _
def neN{a b:Nat}(h:((a:Int) != (b:Int))=true):a≠b:=by grind
def eqN{a b:Nat}(h:((a:Int) != (b:Int))=false):a=b:=by grind
theorem awC{a b:Int}(h:a<=b):lB a b<=0:=by
 unfold lB;split
 ·omega
 ·rw[if_neg (by omega)];omega
def Yu(n:Int):PC prog 249 [int n] (boo false):=by refine pcd func249 rfl rfl ?_;simp only[go_sem];exact cB (by simp)
def GD(a b:Int):PC prog 230 [int a,int b] (int (lB a b)):=by
 refine pcd func230 rfl rfl ?_;simp only[go_sem];refine aO (Yu a) ?_;simp only[go_sem];refine aO (Yu b) ?_;simp only[go_sem];refine aA (fun h=>by cases h) (fun _=>?_);simp only[go_sem];refine aA (fun h=>by cases h) (fun _=>?_);simp only[go_sem];apply aA <;> intro h
 ·simp only[go_sem]
  grind[cI,oA]
 ·simp only[go_sem];apply aA <;> intro A
  ·simp only[go_sem]
   grind[cI,nD]
  ·simp only[go_sem];exact cI (by rw[Ao (by simp at h A;omega)])
def X2(l:List Nat)(i:Nat)(F:i<=4611686018427387904):PC prog 200 [.sl (l.map mI),int i] (int (l.getD i 0:Nat)):=by
 refine pcd func200 rfl rfl ?_;simp only[go_sem];apply aA <;> intro h
 ·have h:=ltB h;obtain⟨x,E⟩:=aI h;have A:=inB h;simp only[go_sem,aC E,A]
  grind[cI]
 ·simp only[go_sem]
  grind[cI]
theorem asW{l r:List Nat}(O:Lim bas l)(T:Lim bas r)(A:l.length=r.length){k x y:Nat}(J:l[k]?=some x)(U:r[k]?=some y)(F:l.drop (k+1)=r.drop (k+1))(E:x≠y):lB (x:Int) y=lB (ofL bas l) (ofL bas r):=by
 rcases Nat.lt_or_gt_of_ne E with h|h
 ·have:=NY (b:=bas) (by decide) O T A J U h F
  grind[oA]
 ·have:=NY (b:=bas) (by decide) T O A.symm U J h F.symm;rw[nD (by omega),nD (by omega)]
def GM(m n:Nat)(hm:(bT bas m).length<=1048576)(hn:(bT bas n).length<=1048576):PC prog 201 [nl m,nl n] (int (lB m n)):=by
 have om:=fQ (b:=bas) (by decide) m;have on:=fQ (b:=bas) (by decide) n;have lm:=fC (b:=bas) (by decide) m;have ln:=fC (b:=bas) (by decide) n;have Z:(bT bas m).length<(bT bas n).length->m<n:=Ni (by decide);have aa:(bT bas n).length<(bT bas m).length->n<m:=Ni (by decide);simp only[nl];generalize bT bas m=a at *;generalize bT bas n=b at *;refine pcd func201 rfl rfl ?_;simp only[go_sem];apply aA <;> intro h
 ·simp only[go_sem];refine aO (GD _ _) ?_;simp only[go_sem]
  grind[cI,oA,nD]
 have J:a.length=b.length:=eqN h;simp only[go_sem];refine⟨fun ρ _=>∃k:Nat,k<=a.length/\ρ 0=.sl (a.map mI)/\ρ 1=.sl (b.map mI)/\ρ 5=int ((k:Int)-1)/\a.drop k=b.drop k,fun ρ _=>match ρ 5 with| .v (.int _ z)=>(z+1).toNat|_=>0,⟨a.length,Xae _,rfl,rfl,by simp only[go_sem,xZ (show a.length<=4611686018427387904 by omega)],by rw[List.drop_eq_nil_of_le (Xae _),List.drop_eq_nil_of_le (by omega)]⟩,?_⟩;rintro ρ H ⟨k,hk,h0,h1,E,hd⟩;simp only[go_sem,E];apply aA <;> intro hb
 ·have A:0<k:=by grind
  obtain⟨k,rfl⟩:∃j,k=j+1:=⟨k-1,by omega⟩;rw[show((k+1:Nat):Int)-1=(k:Int)by omega]at E |-;obtain⟨x,U⟩:=aI (show k<a.length by omega);obtain⟨y,X⟩:=aI (show k<b.length by omega);have T:=inB (show k<a.length by omega);have O:=inB (show k<b.length by omega);simp only[go_sem];refine kB ?_;simp only[go_sem,h0,h1,E,aC U,aC X,T,O];apply aA <;> intro F
  ·simp only[go_sem];refine kB ?_;simp only[go_sem,h0,h1,E,aC U,aC X,T,O];refine⟨_,(GD x y).q rfl,?_⟩;simp only[go_sem]
   grind[cI,asW]
  ·have Y:x=y:=eqN F;simp only[go_sem,h0,h1,E,xZ (show k<=4611686018427387904 by omega)]
   grind[List.drop_eq_getElem_cons]
 ·have A:k=0:=by grind
  subst A;simp only[go_sem]
  grind[cI,Ao]
def tw(a b:ByteArray)(n:Nat):List (List AV):=if mF a b=0 then(bT bas n).map mI else[]
def Kt{a b:ByteArray}{n:Nat}(h:mF a b=0):tw a b n=(bT bas n).map mI:=if_pos h
def Yh{a b:ByteArray}{n:Nat}(h:mF a b≠0):tw a b n=[]:=if_neg h
def KF(a b:ByteArray)(O:a.size<=1048576)(J:b.size<=1048576):PC prog 190 [str a,str b] (.tup [.sl (tw a b (kM a)),.sl (tw a b (kM b)),int (mF a b)]):=by
 refine pcd func190 rfl rfl ?_;simp only[go_sem];refine aO (Fm a (by omega)) ?_;simp only[go_sem];refine⟨_,fun _=>(Fm b (by omega)).q rfl,?_⟩;simp only[go_sem];apply aA <;> intro h
 ·simp only[go_sem];have e:mF a b=3:=by simp_all[mF]
  rw[Yh (by omega),Yh (by omega),e];exact .refl _
 have A:iH a=true/\iH b=true:=by grind
 simp only[go_sem];apply aA <;> intro F
 ·simp only[go_sem];have E:(decide (a.size>4096)||decide (b.size>4096))=true:=by grind
  have e:mF a b=4:=by simp_all[mF]
  rw[Yh (by omega),Yh (by omega),e];exact .refl _
 have h3:a.size<=4096/\b.size<=4096:=by grind
 have e:mF a b=0:=Qd A.1 A.2 h3.1 h3.2;have d:∀{s:ByteArray},iH s=true->(bl s).all isD=true:=fun h=>by simp_all[iH,gV]
 simp only[go_sem];refine aO (ajE a (d A.1) h3.1) ?_;simp only[go_sem];refine aO (ajE b (d A.2) h3.2) ?_;simp only[go_sem];rw[Kt e,Kt e,e];exact .refl _
def Oy{H:aG}{j:Nat}:aH H j (some ⟨3,1,[]⟩) j=some (dG []):=aB _ _ _
def YK(m k:Nat)(hm:(bT bas m).length<=1048576)(Z:k<bas):PC prog 223 [nl m,int k] (nl (m*k)):=by
 have Z:k<1000000000:=Z;have om:=fQ (b:=bas) (by decide) m;have lm:=fC (b:=bas) (by decide) m;simp only[nl];generalize bT bas m=l at *;have ab:IntKind.i64.wrap ((l.length:Int)+1)=((l.length+1:Nat):Int):=qK (by omega);refine pcb (fun t=>t == 5) func223 rfl rfl ?_;simp only[go_sem];refine⟨by omega,aJ fun j hj=>?_⟩;simp only[go_sem];refine⟨fun ρ H=>∃(i j c:Nat) (o:List Nat),i<=l.length/\ρ 1=int k/\ρ 13=.sl (l.map mI)/\ρ 14=int l.length/\ρ 5=.os j/\ρ 6=int c/\ρ 15=int i/\H j=some (dG o)/\Lim bas o/\o.length=i/\c<1000000000/\ofL bas o+bas^i*c=ofL bas (l.take i)*k,fun ρ _=>l.length-aU (ρ 15),
  ⟨0,j,0,[],Xab _,rfl,rfl,rfl,rfl,by simp only[go_sem];rfl,by simp only[go_sem];rfl,Oy,by simp[Lim],rfl,by omega,by simp[ofL]⟩,?_⟩
 rintro ρ H ⟨i,j,c,o,hi,h1,F,J,h5,h6,E,Rj,ho,O,hc,hv⟩;simp only[go_sem,J,E];refine tP hi (fun A=>?_) (fun T=>?_)
 ·obtain⟨n,Y⟩:=aI A;have b1:=inB A;have ac:n<1000000000:=lm n (Xac Y);have aa:n*k<=999999999*999999999:=Nat.mul_le_mul (by omega) (by omega);have e1:IntKind.i64.wrap (IntKind.i64.wrap ((n:Int)*(k:Int))+(c:Int))=((n*k+c:Nat):Int):=by grind[bD]
  have X:=WR (b:=bas) (by decide) Y O hv;simp only[go_sem,h1,F,h5,h6,E,aC Y,b1,e1];have hq:(n*k+c)/1000000000<1000000000:=by omega
  have e2:IntKind.i64.wrap ((((n*k+c:Nat):Int)).tdiv 1000000000)=(((n*k+c)/1000000000:Nat):Int):=by grind[bD]
  have e3:(((n*k+c:Nat):Int)).tmod 1000000000=(((n*k+c)%1000000000:Nat):Int):=by rfl
  simp only[e3];refine⟨by decide,?_⟩;refine bC Rj ⟨rfl,rfl⟩ ⟨rfl,trivial⟩ (by grind[dG]) (fun j' U=>?_);simp only[go_sem,h1,F,J,E,e2,aW i];refine⟨by decide,⟨i+1,j',_,o++[(n*k+c)%bas],A,rfl,rfl,rfl,Cm,ho.snoc (Nat.mod_lt _ (by decide)),by grind,hq,X⟩,by grind[aN]⟩
 ·subst T;simp only[go_sem,h5,h6];refine bC Rj ⟨rfl,rfl⟩ ⟨rfl,trivial⟩ (by grind[dG]) (fun j' U=>?_);simp only[go_sem];have hT:Lim bas (o++[c]):=ho.snoc hc;have hV:ofL bas (o++[c])=m*k:=by grind[zF]
  refine PC.useF [j'] (.cons _ _ _ _ (.row _ _ _ (by simp only[Xbs,if_true];exact Cm) (ConvE.refl _)) .nil) (Nj hT (by grind) hV) ?_;simp only[go_sem];exact .refl _
def IU(m n:Nat)(hm:(bT bas m).length<=1048576)(ae:n<=m):PC prog 202 [nl m,nl n] (nl (m-n)):=by
 have om:=fQ (b:=bas) (by decide) m;have on:=fQ (b:=bas) (by decide) n;have lm:=fC (b:=bas) (by decide) m;have ln:=fC (b:=bas) (by decide) n;have aa:=fT (b:=bas) (by decide) ae;simp only[nl];generalize bT bas m=x at *;generalize bT bas n=y at *;refine pcb (fun t=>t == 5) func202 rfl rfl ?_;simp only[go_sem];refine⟨by omega,aJ fun j hj=>?_⟩;simp only[go_sem];refine⟨fun ρ H=>∃(i j c:Nat) (o:List Nat),i<=x.length/\ρ 0=.sl (x.map mI)/\ρ 1=.sl (y.map mI)/\ρ 13=int x.length/\ρ 5=.os j/\ρ 6=int c/\ρ 14=int i/\H j=some (dG o)/\Lim bas o/\o.length=i/\c<=1/\ofL bas o+ofL bas (y.take i)=ofL bas (x.take i)+bas^i*c,fun ρ _=>x.length-aU (ρ 14),
  ⟨0,j,0,[],Xab _,rfl,rfl,rfl,rfl,by simp only[go_sem];rfl,by simp only[go_sem];rfl,Oy,by simp[Lim],rfl,by omega,by simp[ofL]⟩,?_⟩
 rintro ρ H ⟨i,j,c,o,hi,h0,h1,F,h5,h6,E,Z,ho,T,hc,hv⟩;simp only[go_sem,F,E];refine tP hi (fun O=>?_) (fun ab=>?_)
 ·obtain⟨a,ha⟩:=aI O;have ac:x.getD i 0=a:=by simp[List.getD,ha]
  have b1:=inB O;have X:a<1000000000:=lm a (Xac ha);have Y:y.getD i 0<1000000000:=ln.getD (by decide) i;simp only[go_sem,E];refine mC (by rfl) (by kernel_rfl) ?_;simp only[go_sem,h0,h1,aC ha,b1];refine⟨_,(X2 y i (by omega)).q rfl,?_⟩;have ah:=TW (b:=1000000000) X Y hc;have U:=Px (b:=1000000000) X Y hc;have af:=Wz (b:=bas) (x:=x) (y:=y) (c':=if a<y.getD i 0+c then 1 else 0) (d:=if a<y.getD i 0+c then a+1000000000-(y.getD i 0+c)else a-(y.getD i 0+c)) T hv (by rw[ac];exact U.1);generalize y.getD i 0=yi at *;have e1:IntKind.i64.wrap (IntKind.i64.wrap ((a:Int)-(yi:Int))-(c:Int))=(a:Int)-yi-c:=by rw[show IntKind.i64.wrap ((a:Int)-(yi:Int))=(a:Int)-yi from bD (by omega),bD (by omega)]
  simp only[go_sem,h6,e1];refine bQ (fun A H'=>A 0=.sl (x.map mI)/\A 1=.sl (y.map mI)/\A 13=int x.length/\A 5=.os j/\A 14=int i/\H' j=some (dG o)/\A 8=int (if a<yi+c then a+1000000000-(yi+c)else a-(yi+c):Nat)/\A 6=int (if a<yi+c then 1 else 0:Nat)) ?_ fun K hK=>aA (fun J=>?_) (fun J=>?_)
  rotate_left
  ·have J:a<yi+c:=by simp at J;omega
   have e2:IntKind.i64.wrap ((a:Int)-yi-c+1000000000)=((a+1000000000-(yi+c):Nat):Int):=by rw[bD (by omega)];omega
   simp only[go_sem,e2];exact hK _ _ ⟨h0,h1,F,h5,E,Z,by simp only[go_sem,if_pos J],by simp only[go_sem,if_pos J];rfl⟩
  ·have J:¬a<yi+c:=by simp at J;omega
   simp only[go_sem,];refine hK _ _ ⟨h0,h1,F,h5,E,Z,?_,by simp only[go_sem,if_neg J];rfl⟩;simp only[go_sem,if_neg J]
   congr 2
   omega
  rintro ρ H ⟨h0,h1,F,h5,E,Z,h8,h6⟩;simp only[go_sem,h5,h8];refine bC Z ⟨rfl,rfl⟩ ⟨rfl,trivial⟩ (by simp only[dG,Xaa,Xag,List.length_nil];omega) (fun j' ag=>?_);simp only[go_sem,h0,h1,F,h6,E,aW i];exact⟨⟨i+1,j',_,_,O,rfl,rfl,rfl,Cm,ho.snoc U.2,by simp[T],by split <;> omega,af⟩,by simp only[aN];omega⟩
 ·subst ab;simp only[go_sem,h5];obtain⟨_,hV⟩:=abG (b:=bas) (by decide) ho lm T aa (by omega) hc hv;refine PC.useF [j] (.cons _ _ _ _ (.row _ _ _ (by simp only[Xbs,if_true];exact Z) (ConvE.refl _)) .nil) (Nj ho (by omega) (hV.trans (by rw[om,on]))) ?_;simp only[go_sem];exact .refl _
theorem half{d r q:Nat}(h1:d*q<=r)(A:r<d*(q+1))(E:0<d):q=r/d:=by
 symm
 exact(Nat.div_eq_iff E).2 ⟨by rw[Nat.mul_comm];exact h1,by rw[Nat.mul_add,Nat.mul_one]at A;rw[Nat.mul_comm q d];omega⟩
def IW(r d:Nat)(hr:(bT bas r).length<=1048576)(hd:0<d)(ac:(bT bas d).length<=1048575)(h:r<d*bas):PC prog 222 [nl r,nl d] (int (r/d:Nat)):=by
 refine pcd func222 rfl rfl ?_;simp only[go_sem];refine⟨fun ρ _=>∃a b:Nat,a<=b/\b<1000000000/\ρ 0=nl r/\ρ 1=nl d/\ρ 5=int a/\ρ 6=int b/\d*a<=r/\r<d*(b+1),fun ρ _=>aU (ρ 6)-aU (ρ 5),⟨0,999999999,by omega,by omega,rfl,rfl,by simp only[go_sem];rfl,by simp only[go_sem];rfl,by simp,h⟩,?_⟩;rintro ρ H ⟨a,b,J,hb,h0,h1,E,F,O,X⟩;simp only[go_sem,E,F];refine tP J (fun ab=>?_) (fun T=>?_)
 ·have e1 : IntKind.i64.wrap ((IntKind.i64.wrap (IntKind.i64.wrap ((a : Int) + (b : Int)) + 1)).tdiv 2) = (((a + b + 1) / 2 : Nat) : Int) := by rw[show IntKind.i64.wrap ((a:Int)+(b:Int))=((a+b:Nat):Int)by rw[bD (by omega)];omega,qK (by omega),Xcf (by omega),bD (by omega)];omega
  simp only[go_sem,h1,E,F,e1];refine⟨by decide,?_⟩;have Y:(a+b+1)/2<bas:=show _<1000000000 by omega
  have ae:a<(a+b+1)/2:=by omega
  have aa:(a+b+1)/2<=b:=by omega
  generalize (a+b+1)/2=m at *;refine aO (YK d m (by omega) Y) ?_;simp only[go_sem,h0,];have U:(bT bas (d*m)).length<=1048576:=by
   have h1:=sW (b:=bas) (by decide) (fC (b:=bas) (by decide) d);rw[fQ (by decide)]at h1;have Z:d*m<bas^((bT bas d).length+1):=by rw[Nat.pow_succ];exact Xbh (Nat.mul_lt_mul_of_pos_left Y hd) (Nat.mul_le_mul_right _ (Nat.le_of_lt h1))
   have:=rT (b:=bas) (by decide) Z;omega
  refine aO (GM (d*m) r U hr) ?_;simp only[go_sem,];refine aA (fun A=>?_) (fun A=>?_)
  ·have A:d*m<=r:=by grind[nD]
   simp only[go_sem,h0,h1,F];exact⟨⟨m,b,by omega,hb,rfl,rfl,A,X⟩,by grind[aN]⟩
  ·have A:r<d*m:=by grind[awC]
   simp only[go_sem,h0,h1,E];refine⟨⟨a,m-1,by omega,by omega,rfl,?_,O,?_⟩,?_⟩
   all_goals grind[xZ,aN]
 ·subst T;simp only[go_sem,E]
  grind[cI,half]
def IN{A:List Nat}{k v q:Nat}(h:A[k]?=some v):({ dG A with es:=(dG A).es.set k (oY ((dG A).es.getD k []) 0 [int (q:Int)]) }:Row)=dG (A.set k q):=by simp only[dG,aC h,List.map_set];rfl
def SF(m n:Nat)(hm:(bT bas m).length<=1048570)(hn:0<n)(ao:(bT bas n).length<=1048570):PC prog 191 [nl m,nl n] (.tup [nl (m/n),nl (m%n)]):=by
 have om:=fQ (b:=bas) (by decide) m;have lm:=fC (b:=bas) (by decide) m;rw[show nl m=.sl ((bT bas m).map mI)from rfl];generalize bT bas m=l at *;refine pcb (fun t=>t == 6||t == 23) func191 rfl rfl ?_;simp only[go_sem];refine⟨by omega,aJ fun j hj=>?_⟩;simp only[go_sem];refine⟨fun ρ H=>∃(k r:Nat) (A:List Nat),k<=l.length/\ρ 0=.sl (l.map mI)/\ρ 1=nl n/\ρ 6=.os j/\ρ 7=nl r/\ρ 8=int ((k:Int)-1)/\H j=some (dG A)/\Lim bas A/\A.length=l.length/\r<n/\ofL bas (l.drop k)=ofL bas (A.drop k)*n+r/\A.take k=List.replicate k 0,fun ρ _=>match ρ 8 with| .v (.int _ z)=>(z+1).toNat|_=>0,
  ⟨l.length,0,List.replicate l.length 0,Xae _,rfl,rfl,rfl,?_,?_,?_,Lim.zeros (by decide) _,by simp,hn,by simp[ofL],by simp⟩,?_⟩
 ·simp only[go_sem];exact PY.symm
 ·simp only[go_sem,xZ (show l.length<=4611686018427387904 by omega)]
 ·rw[aB];simp only[dG,List.map_replicate];rfl
 rintro ρ H ⟨k,r,A,hk,h0,h1,X,h7,O,Rj,hq,T,hr,hv,hz⟩;simp only[go_sem,O];refine aA (fun hb=>?_) (fun hb=>?_)
 ·have af:0<k:=by simp at hb;omega
  obtain⟨k,rfl⟩:∃j,k=j+1:=⟨k-1,by omega⟩;rw[show((k+1:Nat):Int)-1=(k:Int)by omega]at O |-;obtain⟨x,hx⟩:=aI (show k<l.length by omega);have ag:x<bas:=lm x (Xac hx);have b1:=inB (show k<l.length by omega);have b2:=inB (show k<A.length by omega);have Y:A[k]?=some 0:=by
   have h1:(A.take (k+1))[k]?=(List.replicate (k+1) 0)[k]?:=by rw[hz]
   rw[List.getElem?_take,if_pos (by omega)]at h1;rw[h1];simp
  obtain⟨Z,hQ,hR⟩:=aiH (b:=bas) (a:=n) (by decide) hx ag hr (show k<A.length by omega) hv;have aw:(bT bas r).length<=1048570:=Xal (fT (by decide) (Nat.le_of_lt hr)) ao;have ar:x+bas*r<n*bas:=by have:bas*(r+1)<=bas*n:=Nat.mul_le_mul_left _ hr;rw[Nat.mul_add]at this;rw[Nat.mul_comm n bas];omega
  have J:(A.set k ((x+bas*r)/n)).take k=List.replicate k 0:=by
   rw[List.take_set_of_le (by omega)];have h1:(A.take (k+1)).take k=(List.replicate (k+1) 0).take k:=by rw[hz]
   rw[List.take_take,Nat.min_eq_left (by omega)]at h1;rw[h1];simp
  have ab:ofL bas (x::bT bas r)=x+bas*r:=by rw[ofL,fQ (by decide)]
  have ac:Lim bas (x::bT bas r):=fun y hy=>by
   rcases Xba.1 hy with rfl|hy
   ·exact ag
   ·exact fC (by decide) r y hy
  have au:(bT bas (x+bas*r)).length<=1048575:=by refine Xal (rT (b:=bas) (k:=(bT bas r).length+1) (by decide) ?_) (by omega);have h1:=sW (b:=bas) (by decide) ac;rw[ab]at h1;simpa using h1
  generalize ax:x+bas*r=R at *;have aa:R-n*(R/n)=R%n:=by have:=Nat.mod_add_div R n;omega
  have av:(bT bas (n*(R/n))).length<=1048576:=Xal (fT (by decide) (Nat.mul_div_le R n)) (by omega);simp only[go_sem,h0,O,aC hx,b1];refine aJ fun i hi=>?_
  simp only[go_sem,h7];have ai:=jW (r':=⟨3,1,[[int (x:Int)]]⟩) Rj hi;refine bC (aB _ _ _) ⟨rfl,rfl⟩ (allN _) (by simp;omega) (fun i2 ak=>?_);have an:=dF ai (aV Rj hi).symm ak (r':=⟨3,1,[[int (x:Int)]]++(bT bas r).map mI⟩);have am:j≠i2:=aV ai ak;simp only[go_sem,];refine PC.useF [i2] (.cons _ _ _ _ (.row _ _ _ (by simp only[Xbs,if_true];exact aB _ _ _) (ConvE.refl _)) .nil) (Nj ac (by simp;omega) ab) ?_;generalize ap:(fun k=>if k∈[i2]then none else _)=HN;have F:HN j=some (dG A):=by rw[<-ap];simp only[Xbs,if_neg am];exact an
  simp only[go_sem,h1,];refine aO (GM R n (by omega) (by omega)) ?_;simp only[go_sem,];refine aA (fun hc=>?_) (fun hc=>?_)
  ·have U : R < n := by
    rcases Nat.lt_trichotomy R n with h|h|h
    ·exact h
    ·rw[Ao (by omega)]at hc;cases hc
    ·rw[nD (by omega)]at hc;cases hc
   simp only[go_sem,h0,h1,X,O,xZ (show k<=4611686018427387904 by omega)];have E:A.set k (R/n)=A:=by rw[Nat.div_eq_of_lt U];obtain⟨h1,h2⟩:=List.getElem?_eq_some_iff.1 Y;rw[<-h2];exact List.set_getElem_self h1
   rw[E,Xbf U]at Z;rw[E]at J;exact⟨⟨k,R,A,by omega,rfl,rfl,F,hq,T,U,Z,J⟩,by omega⟩
  simp only[go_sem,];refine aA (fun ah=>?_) (fun ah=>?_)
  ·have ae : R = n := by have:=N9.1 (by simpa using ah);omega
   simp only[go_sem,X,O,F,show(dG A).es.length=A.length from Xaa _,b2];refine⟨rfl,cC so3 F (by simp only[dG,Xaa];exact⟨by simpa using b2.2,rfl,Xae 1⟩) ?_⟩;simp only[go_sem,h0,h1,X,O,xZ (show k<=4611686018427387904 by omega)];have E:R/n=1:=by rw[ae];exact Nat.div_self hn
   have aq:R%n=0:=by rw[ae];exact Nat.mod_self n
   rw[E,aq]at Z;rw[E]at J;refine⟨⟨k,0,A.set k 1,by omega,PY.symm,rfl,?_,hq.set (by decide),by simp[T],hn,Z,J⟩,by omega⟩;exact congrArg some (IN (q:=1) Y)
  simp only[go_sem,h1,X,O];refine aO (IW R n (by omega) hn (by omega) ar) ?_;simp only[go_sem,F,show(dG A).es.length=A.length from Xaa _,b2];refine⟨rfl,cC so3 F (by simp only[dG,Xaa];exact⟨by simpa using b2.2,rfl,Xae 1⟩) ?_⟩;generalize hP:aH HN j _=HP;have aj:HP j=some (dG (A.set k (R/n))):=by rw[<-hP,aB];exact congrArg some (IN (q:=R/n) Y)
  have hg:(A.set k (R/n))[k]?=some (R/n):=List.getElem?_set_self (by omega);simp only[go_sem,h1,X,O,aj];have al:(dG (A.set k (R/n))).es.getD k []=mI (R/n):=aC hg;have b3:0<=(k:Int)/\(k:Int)<((dG (A.set k (R/n))).es.length:Nat):=by simp only[dG,Xaa,Xbm];exact b2
  simp only[go_sem,al,b3];refine⟨rfl,⟨by omega,Nat.zero_lt_one⟩,?_⟩;refine aO (YK n (R/n) (by omega) hQ) ?_;simp only[go_sem,];refine aO (IU R (n*(R/n)) (by omega) (Nat.mul_div_le R n)) ?_;simp only[go_sem,h0,h1,X,O,xZ (show k<=4611686018427387904 by omega),aa];exact⟨⟨k,R%n,A.set k (R/n),by omega,rfl,rfl,aj,hq.set hQ,by simp[T],hR,Z,J⟩,by omega⟩
 ·have af:k=0:=by simp at hb;omega
  subst af;simp only[go_sem,X,];obtain⟨e1,e2⟩:=asI hr hv;rw[Xby,Xby,om]at e1;rw[Xby,om]at e2;refine PC.useF [j] (.cons _ _ _ _ (.row _ _ _ (by simp only[Xbs,if_true];exact Rj) (ConvE.refl _)) .nil) (Nj hq (by omega) e1) ?_;simp only[go_sem,h7,e2];exact .refl _
end Go.Proofs.YthephioccidfgaaGreatDoor.Nu
end
section
namespace Go.Proofs
open Go.Shelf
def Tryz.lays169_ren:Go.Shelf.Ren:=⟨fun|169=>229|n=>n,fun|70=>314|9=>9|0=>0|72=>316|37=>176|127=>336|3=>3|5=>5|n=>n,fun|n=>n⟩
theorem Tryz.lays169:Go.Proofs.Lays.n169 Tryz.prog Tryz.lays169_ren:={
 mixed:=by kernel_rfl
 f169:=Tryz.func229.trans (congrArg some (by kernel_rfl))
 t0:=Tryz.underlying0
 a0:=Tryz.isAgg0
 z0:=Tryz.sizeOf0
 v0:=Tryz.zeroValue0
 t3:=Tryz.underlying3
 a3:=Tryz.isAgg3
 z3:=Tryz.sizeOf3
 v3:=Tryz.zeroValue3
 t9:=Tryz.underlying9
 a9:=Tryz.isAgg9
 z9:=Tryz.sizeOf9
 v9:=Tryz.zeroValue9
 t37:=Tryz.underlying176
 a37:=Tryz.isAgg176
 z37:=Tryz.sizeOf176
 v37:=Tryz.zeroValue176
 t70:=Tryz.underlying314
 a70:=Tryz.isAgg314
 z70:=Tryz.sizeOf314
 v70:=Tryz.zeroValue314
 t72:=Tryz.underlying316
 a72:=Tryz.isAgg316
 z72:=Tryz.sizeOf316
 v72:=Tryz.zeroValue316
 t127:=Tryz.underlying336
 a127:=Tryz.isAgg336
 z127:=Tryz.sizeOf336
 v127:=Tryz.zeroValue336 }
theorem Tryz.Builder_Extra_169:Builder.Extra Tryz.prog Tryz.lays169_ren:={
 sizeBuilder:=by kernel_rfl
 liesBuilder:=by kernel_rfl
 t5:=Tryz.underlying5
 a5:=Tryz.isAgg5
 z5:=Tryz.sizeOf5
 v5:=Tryz.zeroValue5
 infoByte:=by kernel_rfl
 cellsByte:=by kernel_rfl
 sizeByte:=by kernel_rfl
 neB5:=by decide }
open Go.RowKit in
theorem Tryz.Builder_String_any (B b:Nat) (l:List UInt8) (w:World) (h:Lib.IsBuilder 316 5 B b (Lib.byteCells l) w) (hBw:B<=w.heap.size):
    Calls Tryz.prog 229 #[.pointer (some ⟨b,0,none⟩)] w fun e w'=>e=.returned (.string ⟨l.toArray⟩)/\Below B w w':=Any.Builder_String_any Tryz.lays169 Tryz.Builder_Extra_169 B b l w h hBw
def Tryz.lays106_ren:Go.Shelf.Ren:=⟨fun|106=>204|213=>231|265=>250|n=>n,fun|9=>9|3=>3|n=>n,fun|n=>n⟩
theorem Tryz.lays106:Go.Proofs.Lays.n106 Tryz.prog Tryz.lays106_ren:={
 mixed:=by kernel_rfl
 f106:=Tryz.func204.trans (congrArg some (by kernel_rfl))
 f213:=Tryz.func231.trans (congrArg some (by kernel_rfl))
 f265:=Tryz.func250.trans (congrArg some (by kernel_rfl))
 t3:=Tryz.underlying3
 a3:=Tryz.isAgg3
 z3:=Tryz.sizeOf3
 v3:=Tryz.zeroValue3
 t9:=Tryz.underlying9
 a9:=Tryz.isAgg9
 z9:=Tryz.sizeOf9
 v9:=Tryz.zeroValue9 }
open Go.RowKit in
theorem Tryz.strings_Compare (a b:ByteArray) (w:World):
    Calls Tryz.prog 204 #[.string a,.string b] w fun e w'=>e=.returned (.int .i64 (Lib.compareBytes a.data.toList b.data.toList))/\w'=w:=Any.strings_Compare Tryz.lays106 a b w
def Tryz.lays103_ren:Go.Shelf.Ren:=⟨fun|103=>198|210=>226|206=>224|n=>n,fun|9=>9|4=>4|24=>292|3=>3|n=>n,fun|n=>n⟩
theorem Tryz.lays103:Go.Proofs.Lays.n103 Tryz.prog Tryz.lays103_ren:={
 mixed:=by kernel_rfl
 f103:=Tryz.func198.trans (congrArg some (by kernel_rfl))
 f206:=Tryz.func224.trans (congrArg some (by kernel_rfl))
 f210:=Tryz.func226.trans (congrArg some (by kernel_rfl))
 t3:=Tryz.underlying3
 a3:=Tryz.isAgg3
 z3:=Tryz.sizeOf3
 v3:=Tryz.zeroValue3
 t4:=Tryz.underlying4
 a4:=Tryz.isAgg4
 z4:=Tryz.sizeOf4
 v4:=Tryz.zeroValue4
 t9:=Tryz.underlying9
 a9:=Tryz.isAgg9
 z9:=Tryz.sizeOf9
 v9:=Tryz.zeroValue9
 t24:=Tryz.underlying292
 a24:=Tryz.isAgg292
 z24:=Tryz.sizeOf292
 v24:=Tryz.zeroValue292 }
open Go.RowKit in
theorem Tryz.strings_CutPrefix (s p:ByteArray) (w:World):
    Calls Tryz.prog 198 #[.string s,.string p] w fun e w'=>e=.returned (.tuple #[.string ⟨(Lib.trimPrefix s.data.toList p.data.toList).toArray⟩,.bool (Lib.hasPrefix s.data.toList p.data.toList)])/\w'=w:=Any.strings_CutPrefix Tryz.lays103 s p w
def Tryz.laysM171_ren:Go.Shelf.Ren:=⟨fun|171=>163|243=>205|246=>232|283=>251|284=>252|285=>253|286=>254|129=>266|317=>265|318=>267|319=>268|320=>269|337=>274|338=>275|n=>n,fun|3=>3|9=>9|2=>2|4=>4|171=>337|0=>0|53=>338|37=>176|5=>5|173=>341|212=>357|51=>349|20=>20|213=>358|46=>331|232=>366|233=>367|n=>n,fun|17=>1|18=>2|19=>3|n=>n⟩
theorem Tryz.laysM171:Go.Proofs.LaysM.n171 Tryz.prog Tryz.laysM171_ren:={
 mixed:=by kernel_rfl
 f129:=Tryz.func266.trans (congrArg some (by kernel_rfl))
 f171:=Tryz.func163.trans (congrArg some (by kernel_rfl))
 f243:=Tryz.func205.trans (congrArg some (by kernel_rfl))
 f246:=Tryz.func232.trans (congrArg some (by kernel_rfl))
 f283:=Tryz.func251.trans (congrArg some (by kernel_rfl))
 f284:=Tryz.func252.trans (congrArg some (by kernel_rfl))
 f285:=Tryz.func253.trans (congrArg some (by kernel_rfl))
 f286:=Tryz.func254.trans (congrArg some (by kernel_rfl))
 f317:=Tryz.func265.trans (congrArg some (by kernel_rfl))
 f318:=Tryz.func267.trans (congrArg some (by kernel_rfl))
 f319:=Tryz.func268.trans (congrArg some (by kernel_rfl))
 f320:=Tryz.func269.trans (congrArg some (by kernel_rfl))
 f337:=Tryz.func274.trans (congrArg some (by kernel_rfl))
 f338:=Tryz.func275.trans (congrArg some (by kernel_rfl))
 t0:=Tryz.underlying0
 a0:=Tryz.isAgg0
 z0:=Tryz.sizeOf0
 v0:=Tryz.zeroValue0
 t2:=Tryz.underlying2
 a2:=Tryz.isAgg2
 z2:=Tryz.sizeOf2
 v2:=Tryz.zeroValue2
 t3:=Tryz.underlying3
 a3:=Tryz.isAgg3
 z3:=Tryz.sizeOf3
 v3:=Tryz.zeroValue3
 t4:=Tryz.underlying4
 a4:=Tryz.isAgg4
 z4:=Tryz.sizeOf4
 v4:=Tryz.zeroValue4
 t5:=Tryz.underlying5
 a5:=Tryz.isAgg5
 z5:=Tryz.sizeOf5
 v5:=Tryz.zeroValue5
 t9:=Tryz.underlying9
 a9:=Tryz.isAgg9
 z9:=Tryz.sizeOf9
 v9:=Tryz.zeroValue9
 t20:=Tryz.underlying20
 a20:=Tryz.isAgg20
 z20:=Tryz.sizeOf20
 v20:=Tryz.zeroValue20
 t37:=Tryz.underlying176
 a37:=Tryz.isAgg176
 z37:=Tryz.sizeOf176
 v37:=Tryz.zeroValue176
 t46:=Tryz.underlying331
 a46:=Tryz.isAgg331
 z46:=Tryz.sizeOf331
 v46:=Tryz.zeroValue331
 t51:=Tryz.underlying349
 a51:=Tryz.isAgg349
 z51:=Tryz.sizeOf349
 v51:=Tryz.zeroValue349
 t53:=Tryz.underlying338
 a53:=Tryz.isAgg338
 z53:=Tryz.sizeOf338
 v53:=Tryz.zeroValue338
 t171:=Tryz.underlying337
 a171:=Tryz.isAgg337
 z171:=Tryz.sizeOf337
 v171:=Tryz.zeroValue337
 t173:=Tryz.underlying341
 a173:=Tryz.isAgg341
 z173:=Tryz.sizeOf341
 v173:=Tryz.zeroValue341
 t212:=Tryz.underlying357
 a212:=Tryz.isAgg357
 z212:=Tryz.sizeOf357
 v212:=Tryz.zeroValue357
 t213:=Tryz.underlying358
 a213:=Tryz.isAgg358
 z213:=Tryz.sizeOf358
 t232:=Tryz.underlying366
 a232:=Tryz.isAgg366
 z232:=Tryz.sizeOf366
 v232:=Tryz.zeroValue366
 t233:=Tryz.underlying367
 a233:=Tryz.isAgg367
 z233:=Tryz.sizeOf367
 v233:=Tryz.zeroValue367
 g17:=by kernel_rfl
 g18:=by kernel_rfl
 g19:=by kernel_rfl
 i0:=by kernel_rfl
 i2:=by kernel_rfl
 i3:=by kernel_rfl
 i4:=by kernel_rfl
 i5:=by kernel_rfl
 i9:=by kernel_rfl
 i20:=by kernel_rfl
 i37:=by kernel_rfl
 i46:=by kernel_rfl
 i51:=by kernel_rfl
 i53:=by kernel_rfl
 i171:=by kernel_rfl
 i173:=by kernel_rfl
 i212:=by kernel_rfl
 i232:=by kernel_rfl
 i233:=by kernel_rfl
 m17:=by kernel_rfl
 m18:=by kernel_rfl
 m19:=by kernel_rfl }
open Go.RowKit Go.Sort Go.Lib in
theorem Tryz.strconv_Itoa (n:Int) (h0: -9223372036854775808<=n) (h1:n<=9223372036854775807) (w:World) (htab:Lib.TabIs Tryz.prog w "internal/strconv.uint64pow10" .u64 Lib.pow10Tab):
    Calls Tryz.prog 163 #[.int .i64 n] w fun e w'=>e=.returned (.string ⟨(Lib.itoa n).toArray⟩)/\∃k os,w'=grow (w.drewN k) os:=Any.strconv_Itoa Tryz.laysM171 n h0 h1 w htab
def Tryz.lays219_ren:Go.Shelf.Ren:=⟨fun|219=>219|217=>239|225=>240|224=>241|267=>242|266=>259|314=>260|n=>n,fun|9=>9|3=>3|4=>4|5=>5|46=>331|146=>350|51=>349|n=>n,fun|1=>0|n=>n⟩
theorem Tryz.lays219:Go.Proofs.Lays.n219 Tryz.prog Tryz.lays219_ren:={
 mixed:=by kernel_rfl
 f217:=Tryz.func239.trans (congrArg some (by kernel_rfl))
 f219:=Tryz.func219.trans (congrArg some (by kernel_rfl))
 f224:=Tryz.func241.trans (congrArg some (by kernel_rfl))
 f225:=Tryz.func240.trans (congrArg some (by kernel_rfl))
 f266:=Tryz.func259.trans (congrArg some (by kernel_rfl))
 f267:=Tryz.func242.trans (congrArg some (by kernel_rfl))
 f314:=Tryz.func260.trans (congrArg some (by kernel_rfl))
 t3:=Tryz.underlying3
 a3:=Tryz.isAgg3
 z3:=Tryz.sizeOf3
 v3:=Tryz.zeroValue3
 t4:=Tryz.underlying4
 a4:=Tryz.isAgg4
 z4:=Tryz.sizeOf4
 v4:=Tryz.zeroValue4
 t5:=Tryz.underlying5
 a5:=Tryz.isAgg5
 z5:=Tryz.sizeOf5
 v5:=Tryz.zeroValue5
 t9:=Tryz.underlying9
 a9:=Tryz.isAgg9
 z9:=Tryz.sizeOf9
 v9:=Tryz.zeroValue9
 t46:=Tryz.underlying331
 a46:=Tryz.isAgg331
 z46:=Tryz.sizeOf331
 v46:=Tryz.zeroValue331
 t51:=Tryz.underlying349
 a51:=Tryz.isAgg349
 z51:=Tryz.sizeOf349
 v51:=Tryz.zeroValue349
 t146:=Tryz.underlying350
 a146:=Tryz.isAgg350
 z146:=Tryz.sizeOf350
 v146:=Tryz.zeroValue350
 g1:=by kernel_rfl }
open Go.RowKit Go.Lib in
theorem Tryz.stringslite_Index_one (s:ByteArray) (c:UInt8) (w:World):
    Calls Tryz.prog 219 #[.string s,.string ⟨#[c]⟩] w fun e w'=>e=.returned (.int .i64 (Lib.indexByte s.data.toList c))/\w'=w:=Any.stringslite_Index_one Tryz.lays219 s c w
def Tryz.lays144_ren:Go.Shelf.Ren:=⟨fun|144=>148|143=>189|219=>219|217=>239|225=>240|224=>241|267=>242|266=>259|314=>260|n=>n,fun|9=>9|4=>4|3=>3|5=>5|46=>331|146=>350|51=>349|n=>n,fun|1=>0|n=>n⟩
theorem Tryz.lays144:Go.Proofs.Lays.n144 Tryz.prog Tryz.lays144_ren:={
 mixed:=by kernel_rfl
 f143:=Tryz.func189.trans (congrArg some (by kernel_rfl))
 f144:=Tryz.func148.trans (congrArg some (by kernel_rfl))
 f217:=Tryz.func239.trans (congrArg some (by kernel_rfl))
 f219:=Tryz.func219.trans (congrArg some (by kernel_rfl))
 f224:=Tryz.func241.trans (congrArg some (by kernel_rfl))
 f225:=Tryz.func240.trans (congrArg some (by kernel_rfl))
 f266:=Tryz.func259.trans (congrArg some (by kernel_rfl))
 f267:=Tryz.func242.trans (congrArg some (by kernel_rfl))
 f314:=Tryz.func260.trans (congrArg some (by kernel_rfl))
 t3:=Tryz.underlying3
 a3:=Tryz.isAgg3
 z3:=Tryz.sizeOf3
 v3:=Tryz.zeroValue3
 t4:=Tryz.underlying4
 a4:=Tryz.isAgg4
 z4:=Tryz.sizeOf4
 v4:=Tryz.zeroValue4
 t5:=Tryz.underlying5
 a5:=Tryz.isAgg5
 z5:=Tryz.sizeOf5
 v5:=Tryz.zeroValue5
 t9:=Tryz.underlying9
 a9:=Tryz.isAgg9
 z9:=Tryz.sizeOf9
 v9:=Tryz.zeroValue9
 t46:=Tryz.underlying331
 a46:=Tryz.isAgg331
 z46:=Tryz.sizeOf331
 v46:=Tryz.zeroValue331
 t51:=Tryz.underlying349
 a51:=Tryz.isAgg349
 z51:=Tryz.sizeOf349
 v51:=Tryz.zeroValue349
 t146:=Tryz.underlying350
 a146:=Tryz.isAgg350
 z146:=Tryz.sizeOf350
 v146:=Tryz.zeroValue350
 g1:=by kernel_rfl }
open Go.RowKit Go.Lib in
theorem Tryz.strings_Contains_one (s:ByteArray) (c:UInt8) (w:World):
    Calls Tryz.prog 148 #[.string s,.string ⟨#[c]⟩] w fun e w'=>e=.returned (.bool (decide (0<=Lib.indexByte s.data.toList c)))/\w'=w:=Any.strings_Contains_one Tryz.lays144 s c w
def Tryz.lays101_ren:Go.Shelf.Ren:=⟨fun|101=>151|208=>193|206=>224|n=>n,fun|9=>9|4=>4|3=>3|n=>n,fun|n=>n⟩
theorem Tryz.lays101:Go.Proofs.Lays.n101 Tryz.prog Tryz.lays101_ren:={
 mixed:=by kernel_rfl
 f101:=Tryz.func151.trans (congrArg some (by kernel_rfl))
 f206:=Tryz.func224.trans (congrArg some (by kernel_rfl))
 f208:=Tryz.func193.trans (congrArg some (by kernel_rfl))
 t3:=Tryz.underlying3
 a3:=Tryz.isAgg3
 z3:=Tryz.sizeOf3
 v3:=Tryz.zeroValue3
 t4:=Tryz.underlying4
 a4:=Tryz.isAgg4
 z4:=Tryz.sizeOf4
 v4:=Tryz.zeroValue4
 t9:=Tryz.underlying9
 a9:=Tryz.isAgg9
 z9:=Tryz.sizeOf9
 v9:=Tryz.zeroValue9 }
open Go.RowKit Go.Lib in
theorem Tryz.strings_TrimPrefix (s p:ByteArray) (w:World):
    Calls Tryz.prog 151 #[.string s,.string p] w fun e w'=>e=.returned (.string ⟨(Lib.trimPrefix s.data.toList p.data.toList).toArray⟩)/\w'=w:=Any.strings_TrimPrefix Tryz.lays101 s p w
def Tryz.lays105_ren:Go.Shelf.Ren:=⟨fun|105=>228|212=>245|99=>246|165=>247|166=>227|170=>248|169=>229|263=>262|264=>263|206=>224|240=>244|241=>264|276=>261|277=>273|n=>n,fun|9=>9|3=>3|4=>4|20=>20|0=>0|46=>331|109=>332|5=>5|72=>316|76=>319|51=>349|146=>350|53=>338|148=>355|70=>314|37=>176|75=>318|127=>336|164=>352|80=>254|n=>n,fun|n=>n⟩
theorem Tryz.lays105:Go.Proofs.Lays.n105 Tryz.prog Tryz.lays105_ren:={
 mixed:=by kernel_rfl
 f99:=Tryz.func246.trans (congrArg some (by kernel_rfl))
 f105:=Tryz.func228.trans (congrArg some (by kernel_rfl))
 f165:=Tryz.func247.trans (congrArg some (by kernel_rfl))
 f166:=Tryz.func227.trans (congrArg some (by kernel_rfl))
 f169:=Tryz.func229.trans (congrArg some (by kernel_rfl))
 f170:=Tryz.func248.trans (congrArg some (by kernel_rfl))
 f206:=Tryz.func224.trans (congrArg some (by kernel_rfl))
 f212:=Tryz.func245.trans (congrArg some (by kernel_rfl))
 f240:=Tryz.func244.trans (congrArg some (by kernel_rfl))
 f241:=Tryz.func264.trans (congrArg some (by kernel_rfl))
 f263:=Tryz.func262.trans (congrArg some (by kernel_rfl))
 f264:=Tryz.func263.trans (congrArg some (by kernel_rfl))
 f276:=Tryz.func261.trans (congrArg some (by kernel_rfl))
 f277:=Tryz.func273.trans (congrArg some (by kernel_rfl))
 t0:=Tryz.underlying0
 a0:=Tryz.isAgg0
 z0:=Tryz.sizeOf0
 v0:=Tryz.zeroValue0
 t3:=Tryz.underlying3
 a3:=Tryz.isAgg3
 z3:=Tryz.sizeOf3
 v3:=Tryz.zeroValue3
 t4:=Tryz.underlying4
 a4:=Tryz.isAgg4
 z4:=Tryz.sizeOf4
 v4:=Tryz.zeroValue4
 t5:=Tryz.underlying5
 a5:=Tryz.isAgg5
 z5:=Tryz.sizeOf5
 v5:=Tryz.zeroValue5
 t9:=Tryz.underlying9
 a9:=Tryz.isAgg9
 z9:=Tryz.sizeOf9
 v9:=Tryz.zeroValue9
 t20:=Tryz.underlying20
 a20:=Tryz.isAgg20
 z20:=Tryz.sizeOf20
 v20:=Tryz.zeroValue20
 t37:=Tryz.underlying176
 a37:=Tryz.isAgg176
 z37:=Tryz.sizeOf176
 v37:=Tryz.zeroValue176
 t46:=Tryz.underlying331
 a46:=Tryz.isAgg331
 z46:=Tryz.sizeOf331
 v46:=Tryz.zeroValue331
 t51:=Tryz.underlying349
 a51:=Tryz.isAgg349
 z51:=Tryz.sizeOf349
 v51:=Tryz.zeroValue349
 t53:=Tryz.underlying338
 a53:=Tryz.isAgg338
 z53:=Tryz.sizeOf338
 v53:=Tryz.zeroValue338
 t70:=Tryz.underlying314
 a70:=Tryz.isAgg314
 z70:=Tryz.sizeOf314
 v70:=Tryz.zeroValue314
 t72:=Tryz.underlying316
 a72:=Tryz.isAgg316
 z72:=Tryz.sizeOf316
 v72:=Tryz.zeroValue316
 t75:=Tryz.underlying318
 a75:=Tryz.isAgg318
 z75:=Tryz.sizeOf318
 v75:=Tryz.zeroValue318
 t76:=Tryz.underlying319
 a76:=Tryz.isAgg319
 z76:=Tryz.sizeOf319
 v76:=Tryz.zeroValue319
 t109:=Tryz.underlying332
 a109:=Tryz.isAgg332
 z109:=Tryz.sizeOf332
 v109:=Tryz.zeroValue332
 t127:=Tryz.underlying336
 a127:=Tryz.isAgg336
 z127:=Tryz.sizeOf336
 v127:=Tryz.zeroValue336
 t146:=Tryz.underlying350
 a146:=Tryz.isAgg350
 z146:=Tryz.sizeOf350
 v146:=Tryz.zeroValue350
 t148:=Tryz.underlying355
 a148:=Tryz.isAgg355
 z148:=Tryz.sizeOf355
 v148:=Tryz.zeroValue355
 t164:=Tryz.underlying352
 a164:=Tryz.isAgg352
 z164:=Tryz.sizeOf352
 v164:=Tryz.zeroValue352 }
theorem Tryz.Builder_Extra_105:Builder.Extra Tryz.prog Tryz.lays105_ren:={
 sizeBuilder:=by kernel_rfl
 liesBuilder:=by kernel_rfl
 t5:=Tryz.underlying5
 a5:=Tryz.isAgg5
 z5:=Tryz.sizeOf5
 v5:=Tryz.zeroValue5
 infoByte:=by kernel_rfl
 cellsByte:=by kernel_rfl
 sizeByte:=by kernel_rfl
 neB5:=by decide }
open Go.RowKit Go.Lib in
theorem Tryz.strings_Repeat (s:ByteArray) (c:Nat) (w:World) (hc:c<=9223372036854775807) (hlen:s.size*c<=140737488355328):
    Calls Tryz.prog 228 #[.string s,.int .i64 c] w fun e w'=>e=.returned (.string ⟨(Lib.repeatL s.data.toList c).toArray⟩)/\Below w.heap.size w w':=Any.strings_Repeat Tryz.lays105 Tryz.Builder_Extra_105 s c w hc hlen
end Go.Proofs
end
namespace Go.Proofs.YthephioccidfgaaGreatDoor
open Go.Aw Go.Aw.D Go.Proofs Ty
namespace Nu
open Go.Proofs.Tryz
open Go.Nu Go.RowKit Go.Sort
def yT{T e:TypeId}{B b:Nat}{bs:List Value}{w w':World}(h:Lib.IsBuilder T e B b bs w)(F:Below w.heap.size w w'):Lib.IsBuilder T e B b bs w':=by
 have A:∀p,Lib.BuilderAt T e B b p bs w->Lib.BuilderAt T e B b p bs w':=by
  rintro p ⟨h1,v,E,h3,O⟩;refine⟨h1,v,?_,⟨h3.1,?_⟩,O⟩
  ·rw[F.block b (Array.getElem?_eq_some_iff.1 E).1];exact E
  ·rcases h3.2 with X|⟨g,cap,cur,Y,Z,J,U⟩
   ·exact .inl X
   ·exact .inr ⟨g,cap,cur,Y,Z,by rw[F.block g (Array.getElem?_eq_some_iff.1 J).1];exact J,U⟩
 exact h.imp (A _) (A _)
def pK{w:World}(k:Nat)(os:Array Obj):Below w.heap.size w (grow (w.drewN k) os):=by
 refine⟨rfl,rfl,rfl,?_,fun i A=>?_⟩
 ·simp[grow]
 ·simp only[grow,World.heap_drewN];rw[Array.getElem?_append_left A]
def OP{T e:TypeId}{B b:Nat}{l:List UInt8}{s:ByteArray}{w:World}(h:Lib.BuilderAt T e B b (.pointer (some ⟨b,0,none⟩)) (Lib.byteCells l++Lib.strCells s) w):Lib.IsBuilder T e B b (Lib.byteCells (l++bl s)) w:=by rw[Lib.strCells_eq,<-Lib.byteCells_append]at h;exact .inr h
def yQ(B b:Nat)(l:List UInt8)(s:ByteArray)(w:World)(h:Lib.IsBuilder 316 5 B b (Lib.byteCells l) w)(A:l.length+s.size<=140737488355328)(E:B<=w.heap.size):
  Calls prog 227 #[.pointer (some ⟨b,0,none⟩),.string s] w fun e w'=>e=.returned (.tuple #[.int .i64 s.size,.nilIface])/\Lib.IsBuilder 316 5 B b (Lib.byteCells (l++bl s)) w'/\Below B w w':=
 (Any.Builder_WriteString (P:=prog) (ρ:=Tryz.lays105_ren) { Tryz.lays105 with } Tryz.Builder_Extra_105 B b (Lib.byteCells l) s w h (by rw[Lib.byteCells_length];exact A) E).mono fun e w' ⟨J,O,F⟩=>⟨J,OP O,F⟩
def avF{l:List Nat}(h:Lim bas l)(K:Nat)(A:l.length<=K)(h1:1<=K):(Lib.decDigits (ofL bas l)).length<=9*K:=by refine(vW (by omega)).2 (Xbh (sW (by decide) h) ?_);rw[show bas=10^9 from rfl,<-Nat.pow_mul];exact Xas (by omega) (by omega)
def L2(n k:Nat):List UInt8:=Lib.decDigits (ofL bas ((bT bas n).drop k))
def abB{n k x:Nat}(E:k+1<(bT bas n).length)(A:(bT bas n)[k]?=some x):L2 n k=L2 n (k+1)++aBz x:=by have h1:=fC (b:=bas) (by decide) n x (Xac A);unfold L2;rw[BT bas A];exact alY h1 (anT (by decide) E)
set_option maxHeartbeats 1600000 in
theorem Th (n:Nat) (w:World) (b o c:Nat) (aa:(bT bas n).length<=1048576) (ac:0<(bT bas n).length)
    (hz:∀(i x:Nat),(bT bas n)[i]?=some x->w.cell? ⟨b,o+i,none⟩=some (.int .i64 x)) (hb:b<w.heap.size)
    (J:Lib.TabIs prog w "internal/strconv.uint64pow10" .u64 Lib.pow10Tab):
    Calls prog 199 #[.slice (some ⟨b,o,none⟩) (bT bas n).length c] w fun e w'=>e=.returned (.string (dec n))/\Below w.heap.size w w':=by
  obtain⟨L,hL⟩:∃L,(bT bas n).length=L:=⟨_,rfl⟩
  have h0:Lib.IsBuilder 316 5 w.heap.size w.heap.size (Lib.byteCells []) (w.alloc (.cells #[.pointer none,.slice none 0 0] 316)):=Lib.fresh_isBuilder 316 5 w
  have b0:Below w.heap.size w (w.alloc (.cells #[.pointer none,.slice none 0 0] 316)):=(Below.refl _ w).alloc (Xae _) _
  obtain⟨X,O⟩:=aI (show L-1<(bT bas n).length by omega)
  have an:=hz _ _ O
  have T:=fC (b:=bas) (by decide) n X (Xac O)
  have T:X<1000000000:=T
  rw[hL]
  rw[hL]at ac aa
  have ao:((L:Int) == 0)=false:=by rw[beq_eq_false_iff_ne];omega
  go_enter func199,Tryz.ntmps199
  go_wp2_with (go_at_call 163;refine(Tryz.strconv_Itoa (X:Int) (by omega) (by omega) _ (Lib.tabIs_alloc J _)).mono ?_)
  rintro e Y ⟨rfl,k,os,rfl⟩
  have b1:Below w.heap.size w (grow ((w.alloc (.cells #[.pointer none,.slice none 0 0] 316)).drewN k) os):=b0.trans ⟨rfl,rfl,rfl,(pK k os).size,fun i hi=>(pK k os).block i (Xbh hi b0.size)⟩
  have h1:=yT h0 (pK k os)
  generalize grow _ os=Y at *
  have hI:∀x:Nat,(Lib.itoa (x:Int))=Lib.decDigits x:=Lib.itoa_nonneg
  have ae:∀x:Nat,x<1000000000->(Lib.decDigits x).length<=9:=fun x hx=>(vW (k:=9) (by omega)).2 hx
  have ab:L2 n (L-1)=Lib.decDigits X:=by
    unfold L2
    rw[BT bas O,show L-1+1=L by omega,<-hL,Xca]
    rfl
  have al:(⟨(Lib.itoa (X:Int)).toArray⟩:ByteArray).size<=9:=by rw[<-jZ,oZ,hI];exact ae _ T
  have cW:=yQ w.heap.size w.heap.size [] _ Y h1 (by simp only[List.length_nil];omega:([]:List UInt8).length+(⟨(Lib.itoa (X:Int)).toArray⟩:ByteArray).size<=_) b1.size
  go_wp2_with (go_at_call 227;refine cW.mono ?_)
  rintro e W2 ⟨rfl,h2,b2⟩
  rw[Xbn,oZ,hI,<-ab]at h2
  have b2:=b1.trans b2
  have aj:∀k,(L2 n k).length<=9437184:=fun k=>by
    have:=avF ((fC (b:=bas) (by decide) n).drop k) 1048576 (by rw[List.length_drop,hL];omega) (by omega)
    unfold L2
    omega
  go_wp2
  go_loopg [4] (L-1) (fun g s4 wx=>∃k:Nat,k<=L-1/\g=k/\s4=.int .i64 ((k:Int)-1)/\Lib.IsBuilder 316 5 w.heap.size w.heap.size (Lib.byteCells (L2 n k)) wx/\Below w.heap.size w wx)
  case atStart=>exact⟨L-1,Xae _,rfl,by congr 1;omega,h2,b2⟩
  case round=>
    obtain⟨_,hk,rfl,rfl,hB,A⟩:=hrel
    cases gk with
    | zero=>
      have ag:L2 n 0=Lib.decDigits n:=by unfold L2;rw[Xby,fQ (by decide)]
      rw[ag]at hB
      have cS:=Tryz.Builder_String_any w.heap.size w.heap.size (Lib.decDigits n) wr hB A.size
      go_wp2_with (go_at_call 229;refine cS.mono ?_)
      rintro e W3 ⟨rfl,E⟩
      go_wp2
      go_ret
      exact⟨rfl,A.trans E⟩
    | succ i=>
      obtain⟨x,hx⟩:=aI (show i<(bT bas n).length by omega)
      have hl:=(A.cell hb).trans (hz i x hx)
      have af:x<1000000000:=fC (b:=bas) (by decide) n x (Xac hx)
      have ah:(((i+1:Nat):Int)-1)=(i:Int):=by omega
      have U:=abB (n:=n) (by omega) hx
      have ak:Lib.TabIs prog wr "internal/strconv.uint64pow10" .u64 Lib.pow10Tab:=Go.Joins.tab_stays (g:=1) (by kernel_rfl) J A (Xae _)
      have am:=aj (i+1)
      rw[ah]
      go_wp2_with (go_at_call 163;refine(Tryz.strconv_Itoa (x:Int) (by omega) (by omega) _ ak).mono ?_)
      rintro e Y ⟨rfl,k,os,rfl⟩
      have b1:Below w.heap.size w (grow (wr.drewN k) os):=A.trans ⟨rfl,rfl,rfl,(pK k os).size,fun i hi=>(pK k os).block i (Xbh hi A.size)⟩
      have h1:=yT hB (pK k os)
      generalize grow _ os=Y at *
      have ai:=ae x af
      rw[hI x]
      go_wp2_with (go_at_call 228;fail)
      have e9:(9:Int)-((Lib.decDigits x).length:Nat)=((9-(Lib.decDigits x).length:Nat):Int):=by omega
      rw[e9]
      refine(Tryz.strings_Repeat ⟨#[48]⟩ (9-(Lib.decDigits x).length) Y (by omega) (by show 1*_<=_;omega)).mono ?_
      rintro e W3 ⟨rfl,E⟩
      have h3:=yT h1 E
      have E:Below w.heap.size w W3:=b1.trans ⟨E.os,E.tape,E.output,E.size,fun i hi=>E.block i (Xbh hi b1.size)⟩
      have F:bl ⟨(Lib.repeatL (⟨#[48]⟩:ByteArray).data.toList (9-(Lib.decDigits x).length)).toArray⟩=List.replicate (9-(Lib.decDigits x).length) 48:=by
        rw[oZ]
        have:=Lib.repeatL_replicate 48 1 (9-(Lib.decDigits x).length)
        rwa [Nat.mul_one]at this
      generalize (⟨(Lib.repeatL (⟨#[48]⟩:ByteArray).data.toList (9-(Lib.decDigits x).length)).toArray⟩:ByteArray)=Z at *
      have hZ:Z.size<=9:=by rw[<-jZ,F,Xbw];omega
      have cW:=yQ w.heap.size w.heap.size _ Z W3 h3 (by omega) E.size
      go_wp2_with (go_at_call 227;refine cW.mono ?_)
      rintro e W4 ⟨rfl,h4,b4⟩
      have b4:=E.trans b4
      have hX:(⟨(Lib.decDigits x).toArray⟩:ByteArray).size<=9:=by rw[<-jZ,oZ];exact ai
      have cW:=yQ w.heap.size w.heap.size _ ⟨(Lib.decDigits x).toArray⟩ W4 h4 (by rw[Xaf,jZ];omega) b4.size
      go_wp2_with (go_at_call 227;refine cW.mono ?_)
      rintro e W5 ⟨rfl,h5,b5⟩
      have b5:=b4.trans b5
      rw[Xbk,F,oZ]at h5
      go_wp2
      go_roundg i
      case measure=>omega
      case rel=>exact⟨i,by omega,rfl,rfl,by rw[U];exact h5,b5⟩
def RK{S:Sg}{w:World}{b:Nat}:∀{l:List Nat} {o sz:Nat},0<sz->iY S w b sz o (l.map mI)->∀(i x:Nat),l[i]?=some x->w.cell? ⟨b,o+i,none⟩=some (.int .i64 x)
 | [],_,_,_,_,i,x,h=>by simp at h
 | y::l,o,sz,hp,h,i,x,hx=>by
  simp only[Xaq,iY]at h;obtain⟨h1,A,h3⟩:=h;have h1:sz=1:=h1.symm;subst h1;cases i with
  | zero=>simp only[List.getElem?_cons_zero,Option.some.injEq]at hx;subst hx;simp only[mI,dD]at A;obtain⟨⟨u,F,_,E⟩,_⟩:=A;simp only[rep]at E;subst E;exact F
  | succ i=>
   have:=RK (by omega) h3 i x (by simpa using hx)
   rwa [Nat.add_assoc,Nat.add_comm 1 i]at this
def ajN{w:World}(h:∀t∈adI,vU w t.1=some t.2):Lib.TabIs prog w "internal/strconv.uint64pow10" .u64 Lib.pow10Tab:=by have h1:=h (1,aiQ) (by simp[adI]);unfold Lib.TabIs World.var?;rw[show prog.globalNamed "internal/strconv.uint64pow10" = some 1 by kernel_rfl];exact h1
def K7(n:Nat)(E:(bT bas n).length<=1048576):PC prog 199 [nl n] (str (dec n)):=by
 by_cases h0:n=0
 ·subst h0;rw[PY];refine pcd func199 rfl rfl ?_;simp only[go_sem];refine aA (fun h=>?_) (fun h=>by simp at h);simp only[go_sem];refine cS ?_;refine oU ?_;rw[sR,Lib.decDigits_one (by omega)];rfl
 ·intro S w vals O hf ha;simp only[bJ,rep]at ha;obtain⟨y,t,rfl,⟨ad,m,c,rfl,e1,e2,e3,U⟩,rfl⟩:=ha;have T:bT bas n≠[]:=fun e=>h0 ((zA (by decide)).1 e)
  have J:=List.length_pos_iff.2 T;rw[Xaa]at e1;rcases U with U|⟨b,o,sz,rfl,Z,Y,F⟩
  ·simp only[Xbx]at U;exact absurd U T
  ·subst e1;refine(Th n w b o c E J (RK Y F) (O.fz_lt b (O.ro_fz b Z)) (ajN fun t ht=>(O.tabs t ht).2)).mono fun e w' ⟨he,A⟩=>?_
   exact⟨_,_,bY,S,he,rfl,O.after A.size fun k X=>A.block k X,by simp only[rep],O.grow A.os A.tape A.output A.size fun k X=>A.block k X,gC.refl _ _⟩
def Eu(n:Nat)(A:(bT bas n).length<=1048576):PC prog 192 [nl n] (.tup [str (szN n).1,int (szN n).2]):=by
 refine pcd func192 rfl rfl ?_;simp only[go_sem];refine aO (K7 n A) ?_;simp only[go_sem];have E:=mK n;refine aA (fun h=>?_) (fun h=>?_)
 ·have h:4096<(dec n).size:=by simp at h;omega
  simp only[go_sem];rw[show szN n=(emp,4)from if_neg fun e=>by have:=E.2 e;omega];exact .refl _
 ·have h:(dec n).size<=4096:=by simp at h;omega
  simp only[go_sem];rw[Ge (E.1 h)];exact .refl _
end Nu
namespace Nu
open Go.Proofs.Tryz
open Go.Nu
def Wv{n K:Nat}(h:n<dA)(A:avM<=9*K):(bT bas n).length<=K:=by refine rT (b:=bas) (k:=K) (by decide) (Xbh h ?_);rw[show bas=10^9 from rfl,<-Nat.pow_mul];exact Xas (show 0<10 by omega) A
def mS{n:Nat}(h:n<dA):(bT bas n).length<=457:=Wv h (by decide)
def aiJ{H:aG}{o l:List Nat}(h:l=o):ConvE H (dG o).es (l.map mI):=h▸ConvE.refl _
def Mp:∀l:List Nat,sC l=l.take (sC l).length
 | []=>rfl
 | x::l=>by
  have ih:=Mp l;rw[sC];split
  ·split <;> rfl
  ·rename_i y t e;rw[e]at ih;simp only[Xag,List.take_succ_cons]
   congr 1
theorem agD{l:List Nat}(h:l.length<=(sC l).length):sC l=l:=by rw[Mp l,Xbb h]
def anX(a b:ByteArray)(ha:a.size<=1048576)(O:b.size<=1048576):PC prog 158 [str a,str b] (.tup [str (XA a b).1,int (XA a b).2]):=by
 refine pcb (fun t=>t == 9) func158 rfl rfl ?_;simp only[go_sem];refine aO (KF a b ha O) ?_;simp only[go_sem];apply aA <;> intro h
 ·have h:mF a b≠0:=by grind
  simp only[go_sem];rw[show XA a b=(emp,mF a b)from if_neg h];exact .refl _
 have h:mF a b=0:=by grind
 obtain⟨m,n,rfl,rfl,hm,hn⟩:=zV h;have ab:=mS hm;have af:=mS hn;simp only[go_sem,Kt h,dW];rw[show XA (dec m) (dec n)=szN (m+n)by simp_all[XA,dW]];have om:=fQ (b:=bas) (by decide) m;have on:=fQ (b:=bas) (by decide) n;have lm:=fC (b:=bas) (by decide) m;have ln:=fC (b:=bas) (by decide) n;have Z:(bT bas m).length<=(bT bas m).length:=Xae _;have U:(bT bas n).length<=(bT bas n).length:=Xae _;obtain⟨x,hx⟩:∃x,bT bas m=x:=⟨_,rfl⟩;obtain⟨y,hy⟩:∃y,bT bas n=y:=⟨_,rfl⟩;have Z:x.length<=(bT bas m).length:=by grind
 have U:y.length<=(bT bas n).length:=by grind
 rw[hx]at om lm ab;rw[hy]at on ln af;simp only[hx,hy];refine aJ fun j hj=>?_
 refine⟨fun ρ H=>∃(i j c:Nat) (o:List Nat),i<=max x.length y.length+1/\ρ 6=.sl (x.map mI)/\ρ 7=.sl (y.map mI)/\ρ 9=.os j/\ρ 10=int c/\ρ 11=int i/\H j=some (dG o)/\Lim bas o/\o.length=i/\c<=1/\ofL bas o+bas^i*c=ofL bas (x.take i)+ofL bas (y.take i)/\(i=max x.length y.length+1->c=0/\bas^max x.length y.length<=m+n),fun ρ _=>max x.length y.length+1-aU (ρ 11),
  ⟨0,j,0,[],Xab _,rfl,rfl,rfl,by simp only[go_sem];rfl,by simp only[go_sem];rfl,Oy,by simp[Lim],rfl,by omega,by simp[ofL],by omega⟩,?_⟩
 rintro ρ H ⟨i,j,c,o,hi,h6,h7,h9,X,A,Rj,ho,T,hc,hv,F⟩;have Y:eF (x.length:Int) (y.length:Int)=((max x.length y.length:Nat):Int):=by grind[eF]
 simp only[go_sem,h6,h7,X,A,Y];apply aA <;> intro O
 ·have O:i<max x.length y.length\/0<c:=by grind
  have al:i<=max x.length y.length:=by omega
  have ai:x.getD i 0<1000000000:=lm.getD (by decide) i;have aj:y.getD i 0<1000000000:=ln.getD (by decide) i;have ag:=alM (b:=bas) (by decide) T hv;have E:i+1=max x.length y.length+1->(x.getD i 0+y.getD i 0+c)/bas=0/\bas^max x.length y.length<=m+n:=fun e=>by
   have e:i=max x.length y.length:=by omega
   have ac:x.getD i 0=0:=by grind
   have ae:y.getD i 0=0:=by grind
   have aa:c=1:=by omega
   rw[ac,ae,aa]
   grind[Xbb]
  simp only[go_sem,h6,A];refine aO (X2 x i (by omega)) ?_;simp only[go_sem,h7,A];refine aO (X2 y i (by omega)) ?_;have e1:IntKind.i64.wrap (IntKind.i64.wrap (((x.getD i 0:Nat):Int)+((y.getD i 0:Nat):Int))+(c:Int))=((x.getD i 0+y.getD i 0+c:Nat):Int):=by rw[show IntKind.i64.wrap (((x.getD i 0:Nat):Int)+((y.getD i 0:Nat):Int))=((x.getD i 0:Nat):Int)+((y.getD i 0:Nat):Int)from bD (by omega),bD (by omega)];omega
  have e2:IntKind.i64.wrap ((((x.getD i 0+y.getD i 0+c:Nat):Int)).tdiv 1000000000)=(((x.getD i 0+y.getD i 0+c)/1000000000:Nat):Int):=by grind[bD]
  have e3:(((x.getD i 0+y.getD i 0+c:Nat):Int)).tmod 1000000000=(((x.getD i 0+y.getD i 0+c)%1000000000:Nat):Int):=by rfl
  have hq:(x.getD i 0+y.getD i 0+c)/1000000000<=1:=by omega
  simp only[go_sem,h9,X,e1,e3];refine⟨by decide,?_⟩;refine bC Rj ⟨rfl,rfl⟩ ⟨rfl,trivial⟩ (by grind[dG]) (fun j' ak=>?_);simp only[go_sem,h6,h7,A,e2,aW i];exact⟨by decide,⟨i+1,j',_,o++[(x.getD i 0+y.getD i 0+c)%bas],by omega,rfl,rfl,rfl,Cm,ho.snoc (Nat.mod_lt _ (by decide)),by grind,hq,ag,E⟩,by grind[aN]⟩
 ·have O:max x.length y.length<=i/\c=0:=by grind
  obtain⟨O,rfl⟩:=O;rw[Nat.mul_zero,Nat.add_zero,Xbb (by omega),Xbb (by omega),om,on]at hv;have ht:=YJ (b:=bas) (by decide) ho hv;have ah:o.length<=(bT bas (m+n)).length:=by
   rcases Xcb (max x.length y.length) i with h|h
   ·have:=PW (b:=bas) (by decide) (F (by omega)).2;omega
   ·rw[T,show i=max x.length y.length by omega];exact Nat.max_le.2 ⟨Xal Z (fT (by decide) (Nat.le_add_right m n)),Xal U (fT (by decide) (Nat.le_add_left n m))⟩
  have J:bT bas (m+n)=o:=by grind[agD]
  simp only[go_sem,h9,];refine PC.useF [j] (.cons _ _ _ _ (.row _ _ _ (by grind) (aiJ J)) .nil) (Eu (m+n) (by grind)) ?_;simp only[go_sem];exact .refl _
def aiR(a b:ByteArray)(T:a.size<=1048576)(J:b.size<=1048576):PC prog 159 [str a,str b] (.tup [str (Vs a b).1,int (Vs a b).2]):=by
 refine pcd func159 rfl rfl ?_;simp only[go_sem];refine aO (KF a b T J) ?_;simp only[go_sem];apply aA <;> intro h
 ·have h:mF a b≠0:=by grind
  simp only[go_sem];rw[show Vs a b=(emp,mF a b)from if_neg h];exact .refl _
 have h:mF a b=0:=by grind
 obtain⟨m,n,rfl,rfl,O,U⟩:=zV h;have Y:=mS O;have X:=mS U;simp only[go_sem,Kt h,dW];have e:Vs (dec m) (dec n)=if m<n then(emp,2)else szN (m-n):=by simp_all[Vs,dW]
 rw[e];refine aO (GM m n (by omega) (by omega)) ?_;simp only[go_sem];apply aA <;> intro A
 ·have F : m < n := by
   rcases Xcb m n with h3|h3
   ·exact h3
   ·exfalso;have A:=of_decide_eq_true A;unfold lB at A;omega
  simp only[go_sem];rw[if_pos F];exact .refl _
 ·have E:¬m<n:=fun h3=>of_decide_eq_false A (by grind[oA])
  simp only[go_sem];rw[if_neg E];refine aO (IU m n (by omega) (by omega)) ?_;simp only[go_sem];refine aO (Eu (m-n) (by have:=fT (b:=bas) (by decide) (Nat.sub_le m n);omega)) ?_;simp only[go_sem];exact .refl _
def azV(a b:ByteArray)(F:a.size<=1048576)(A:b.size<=1048576):PC prog 157 [str a,str b] (.tup [str (Tz a b).1,str (Tz a b).2.1,int (Tz a b).2.2]):=by
 refine pcd func157 rfl rfl ?_;simp only[go_sem];refine aO (KF a b F A) ?_;simp only[go_sem];apply aA <;> intro h
 ·have h:mF a b≠0:=by grind
  simp only[go_sem];rw[show Tz a b=(emp,emp,mF a b)from if_neg h];exact .refl _
 have h:mF a b=0:=by grind
 obtain⟨m,n,rfl,rfl,E,J⟩:=zV h;have T:=mS E;have O:=mS J;simp only[go_sem,Kt h,dW,Xaa];have e:Tz (dec m) (dec n)=if n=0 then(emp,emp,10)else(dec (m/n),dec (m%n),0):=by simp_all[Tz,dW]
 rw[e];apply aA <;> intro U
 ·have h0:n=0:=(zA (b:=bas) (by decide)).1 (by simp_all);simp only[go_sem];rw[if_pos h0];exact .refl _
 ·have h0:n≠0:=fun e=>by grind[iC]
  simp only[go_sem];rw[if_neg h0];refine aO (SF m n (by omega) (by omega) (by omega)) ?_;simp only[go_sem];refine aO (K7 (m/n) (by have:=fT (b:=bas) (by decide) (Nat.div_le_self m n);omega)) ?_;simp only[go_sem];refine aO (K7 (m%n) (by have:=fT (b:=bas) (by decide) (Nat.mod_le m n);omega)) ?_;simp only[go_sem];exact .refl _
def ajO(a b:ByteArray)(ha:a.size<=1048576)(U:b.size<=1048576):PC prog 150 [str a,str b] (.tup [str (Po a b).1,int (Po a b).2]):=by
 refine pcd func150 rfl rfl ?_;simp only[go_sem];refine aO (KF a b ha U) ?_;simp only[go_sem];apply aA <;> intro h
 ·have h:mF a b≠0:=by grind
  simp only[go_sem];rw[show Po a b=(emp,mF a b)from if_neg h];exact .refl _
 have h:mF a b=0:=by grind
 obtain⟨m,n,rfl,rfl,hm,hn⟩:=zV h;have F:=mS hm;have O:=mS hn;simp only[go_sem,Kt h,dW];have e:Po (dec m) (dec n)=szN (Nat.gcd m n):=by simp_all[Po,dW]
 rw[e];refine⟨fun ρ _=>∃p q:Nat,ρ 6=nl p/\ρ 7=nl q/\(bT bas p).length<=457/\(bT bas q).length<=457/\Nat.gcd p q=Nat.gcd m n,fun ρ _=>match ρ 7 with| .sl es=>ofL bas (es.map fun c=>aU (c.getD 0 .any))|_=>0,⟨m,n,rfl,rfl,F,O,rfl⟩,?_⟩;rintro ρ H ⟨p,q,T,J,Z,A,X⟩;have Y:∀q:Nat,ofL bas (((bT bas q).map mI).map fun c=>aU (c.getD 0 .any))=q:=fun q=>by rw[List.map_map,show((fun c:List AV=>aU (c.getD 0 .any)) ∘ mI)=id from funext fun n=>by rfl,List.map_id,fQ (by decide)]
 simp only[go_sem,J,Xaa];apply aA <;> intro U
 ·have E:0<q:=by grind[iC]
  simp only[go_sem,T,J];refine aO (SF p q (by omega) E (by omega)) ?_;simp only[go_sem,J];refine⟨⟨q,p%q,rfl,rfl,A,Xal (fT (by decide) (Nat.le_of_lt (Nat.mod_lt p E))) A,?_⟩,?_⟩
  ·grind[Nat.gcd_comm,Nat.gcd_rec]
  simp_all[Nat.mod_lt]
 ·have E : q = 0 := by
   have:(bT bas q).length=0:=by grind
   simp_all[zA,bas]
  subst E;simp only[go_sem,T];rw[Nat.gcd_zero_right]at X;rw[<-X];refine aO (Eu p (by omega)) ?_;simp only[go_sem];exact .refl _
def avJ{b:Nat}(E:0<b){l:List Nat}{q p:Nat}(h:ofL b l<b^q)(F:q<=p)(O:p<l.length):l[p]?=some 0:=by
 obtain⟨x,A⟩:=aI O;rcases Nat.eq_zero_or_pos x with h0|h0
 ·rw[A,h0]
 ·exfalso;have J:ofL b l=ofL b (l.take p)+b^p*ofL b (l.drop p):=by have:=sE b (l.take p) (l.drop p);rw[List.take_append_drop,Xav,Nat.min_eq_left (by omega)]at this;exact this
  rw[BT b A]at J;have h1:b^p*1<=b^p*(x+b*ofL b (l.drop (p+1))):=Nat.mul_le_mul_left _ (by omega);have T:b^q<=b^p:=Xas E F;omega
def aAG(a b:ByteArray)(ha:a.size<=1048576)(hb:b.size<=1048576):PC prog 243 [str a,str b] (.tup [str (Vn a b).1,int (Vn a b).2]):=by
 refine pcb (fun t=>t == 9) func243 rfl rfl ?_;simp only[go_sem];refine aO (KF a b ha hb) ?_;simp only[go_sem];refine aA (fun h=>?_) (fun h=>?_)
 ·have h:mF a b≠0:=by simpa using h
  simp only[go_sem];rw[show Vn a b=(emp,mF a b)from if_neg h];exact .refl _
 have h:mF a b=0:=by simpa using h
 obtain⟨m,n,rfl,rfl,hm,hn⟩:=zV h;have au:=mS hm;have ar:=mS hn;simp only[go_sem,Kt h,dW,Xaa];rw[show Vn (dec m) (dec n)=szN (m*n)by unfold Vn;rw[if_pos h,dW,dW]];have om:=fQ (b:=bas) (by decide) m;have on:=fQ (b:=bas) (by decide) n;have lm:=fC (b:=bas) (by decide) m;have ln:=fC (b:=bas) (by decide) n;have an:(bT bas (m*n)).length<=(bT bas m).length+(bT bas n).length:=by refine rT (by decide) ?_;have h1:=sW (b:=bas) (by decide) lm;have h2:=sW (b:=bas) (by decide) ln;rw[om]at h1;rw[on]at h2;rw[Nat.pow_add];exact Nat.mul_lt_mul'' h1 h2
 obtain⟨x,hx⟩:∃x,bT bas m=x:=⟨_,rfl⟩;obtain⟨y,hy⟩:∃y,bT bas n=y:=⟨_,rfl⟩;rw[hx]at om lm au an;rw[hy]at on ln ar an;have ew:IntKind.i64.wrap ((x.length:Int)+(y.length:Int))=((x.length+y.length:Nat):Int):=by rw[bD (by omega)];omega
 simp only[hx,hy,ew];refine⟨by omega,aJ fun j hj=>?_⟩;simp only[go_sem];refine⟨fun ρ H=>∃(i:Nat) (out:List Nat),i<=x.length/\ρ 7=.sl (y.map mI)/\ρ 9=.os j/\ρ 32=.sl (x.map mI)/\ρ 33=int x.length/\ρ 34=int i/\H j=some (dG out)/\Lim bas out/\out.length=x.length+y.length/\ofL bas out=ofL bas (x.take i)*ofL bas y,fun ρ _=>x.length-aU (ρ 34),
  ⟨0,List.replicate (x.length+y.length) 0,Xab _,rfl,rfl,rfl,rfl,by simp only[go_sem];rfl,?_,Lim.zeros (by decide) _,by simp,by simp[ofL,acP]⟩,?_⟩
 ·rw[aB];simp only[dG,List.map_replicate];rfl
 rintro ρ H ⟨i,out,hi,h7,h9,Y,U,O,Rj,ho,ap,hv⟩;simp only[go_sem,U,O];refine aA (fun X=>?_) (fun ac=>?_)
 ·have X:=ltB X;obtain⟨A,ab⟩:=aI X;have b1:=inB X;have ax:A<1000000000:=lm A (Xac ab);have av:out[i+y.length]?=some 0:=by refine avJ (b:=bas) (by decide) (q:=i+y.length) ?_ (Xae _) (by omega);rw[hv,Nat.pow_add];have h1:=sW (b:=bas) (by decide) (lm.take i);rw[Xav,Nat.min_eq_left hi]at h1;exact Nat.mul_lt_mul'' h1 (sW (b:=bas) (by decide) ln)
  simp only[go_sem,h7,Y,O,aC ab,b1,Xaa];refine⟨fun ρ H=>∃(k c:Nat) (o:List Nat),k<=y.length/\ρ 7=.sl (y.map mI)/\ρ 9=.os j/\ρ 10=int i/\ρ 11=int A/\ρ 12=int c/\ρ 32=.sl (x.map mI)/\ρ 33=int x.length/\ρ 34=int i/\ρ 39=.sl (y.map mI)/\ρ 40=int y.length/\ρ 41=int k/\H j=some (dG o)/\Lim bas o/\o.length=x.length+y.length/\c<1000000000/\ofL bas o+bas^(i+k)*c=ofL bas out+bas^i*(A*ofL bas (y.take k))/\o[i+y.length]?=some 0,fun ρ _=>y.length-aU (ρ 41),
   ⟨0,0,out,Xab _,h7,h9,rfl,rfl,by simp only[go_sem];rfl,Y,U,O,rfl,rfl,by simp only[go_sem];rfl,Rj,ho,ap,by omega,by simp[ofL],av⟩,?_⟩
  rintro ρ H ⟨k,c,o,hk,h7,h9,af,al,ai,Y,U,O,ak,ao,ag,Rj,hO,aj,hc,hV,hZ⟩;simp only[go_sem,ao,ag];refine aA (fun J=>?_) (fun T=>?_)
  ·have J:=ltB J;obtain⟨F,ah⟩:=aI J;have b2:=inB J;have ay:F<1000000000:=ln F (Xac ah);obtain⟨v,Z⟩:=aI (show i+k<o.length by omega);have az:v<1000000000:=hO v (Xac Z);have b3:0<=((i+k:Nat):Int)/\((i+k:Nat):Int)<((dG o).es.length:Nat):=by simp only[dG,Xaa];omega
   have ei:IntKind.i64.wrap ((i:Int)+(k:Int))=((i+k:Nat):Int):=by rw[bD (by omega)];omega
   have ae:(dG o).es.getD (i+k) []=mI v:=aC Z;have aw:A*F<=999999999*999999999:=Nat.mul_le_mul (by omega) (by omega);have aq:=ajP (b:=bas) (by decide) Z ah hV;have e1:IntKind.i64.wrap (IntKind.i64.wrap ((v:Int)+IntKind.i64.wrap ((A:Int)*(F:Int)))+(c:Int))=((v+A*F+c:Nat):Int):=by rw[show(A:Int)*(F:Int)=((A*F:Nat):Int)from(Int.natCast_mul A F).symm];generalize A*F=p at *;rw[show IntKind.i64.wrap (p:Int)=(p:Int)from bD (by omega),show IntKind.i64.wrap ((v:Int)+(p:Int))=(v:Int)+p from bD (by omega),bD (by omega)];omega
   have hq:(v+A*F+c)/1000000000<1000000000:=by omega
   have e2:IntKind.i64.wrap ((((v+A*F+c:Nat):Int)).tdiv 1000000000)=(((v+A*F+c)/1000000000:Nat):Int):=by generalize v+A*F+c=p at *;rw[Xcf (by omega),bD (by omega)];omega
   have e3:(((v+A*F+c:Nat):Int)).tmod 1000000000=(((v+A*F+c)%1000000000:Nat):Int):=by rw[Int.tmod_eq_emod_of_nonneg (by omega)];omega
   simp only[go_sem,h9,af,al,ai,ak,ag,aC ah,b2,ei,Rj,b3,ae,e1,e3];have E:i+k<(dG o).es.length:=by simp only[dG,Xaa];omega
   refine⟨rfl,⟨E,Nat.zero_lt_one⟩,by decide,rfl,cC so3 Rj ⟨E,rfl,Xae 1⟩ ?_⟩;generalize hP:aH H j _=HP;have aa:HP j=some (dG (o.set (i+k) ((v+A*F+c)%bas))):=by rw[<-hP,aB];exact congrArg some (IN (q:=(v+A*F+c)%bas) Z)
   simp only[go_sem,h7,h9,af,al,Y,U,O,ak,ao,ag,e2,aW k];refine⟨by decide,⟨k+1,_,_,J,rfl,rfl,aa,hO.set (Nat.mod_lt _ (by decide)),by simp[aj],hq,aq,?_⟩,by simp only[aN];omega⟩;rw[List.getElem?_set_ne (by omega)];exact hZ
  ·have T:=geB hk T;subst T;have ei:IntKind.i64.wrap ((i:Int)+(y.length:Int))=((i+y.length:Nat):Int):=by rw[bD (by omega)];omega
   have E:i+y.length<(dG o).es.length:=by simp only[dG,Xaa];omega
   have b3:0<=((i+y.length:Nat):Int)/\((i+y.length:Nat):Int)<((dG o).es.length:Nat):=by omega
   have ae:(dG o).es.getD (i+y.length) []=mI 0:=aC hZ;have e1:IntKind.i64.wrap (((0:Nat):Int)+(c:Int))=(c:Int):=by rw[bD (by omega)];omega
   simp only[go_sem,h7,h9,af,ai,Xaa,ei,Rj,b3,ae,e1];refine⟨rfl,⟨E,Nat.zero_lt_one⟩,rfl,cC so3 Rj ⟨E,rfl,Xae 1⟩ ?_⟩;generalize hP:aH H j _=HP;have aa:HP j=some (dG (o.set (i+y.length) c)):=by rw[<-hP,aB];exact congrArg some (IN (q:=c) hZ)
   have am:=awA (b:=bas) hZ hV;simp only[go_sem,h7,h9,Y,U,O,aW i];refine⟨⟨i+1,_,X,rfl,aa,hO.set hc,by simp[aj],?_⟩,by simp only[aN];omega⟩;rw[am,hv,mP bas ab,Nat.add_mul,Nat.mul_assoc]
 ·have ac:=geB hi ac;subst ac;simp only[go_sem,h9];rw[Xad,om,on]at hv;refine PC.useF [j] (.cons _ _ _ _ (.row _ _ _ (by simp only[Xbs,if_true];exact Rj) (ConvE.refl _)) .nil) (Nj ho (by omega) hv) ?_;simp only[go_sem];refine aO (Eu (m*n) (by omega)) ?_;simp only[go_sem];exact .refl _
end Nu
namespace Nu
open Go.Proofs.Tryz
open Go.Nu
open Go.RowKit (Below)
def UQ(s:ByteArray):Lib.hasPrefix (bl s) [45]=lJ s:=by
 unfold Lib.hasPrefix lJ;cases bl s with
 | nil=>rfl
 | cons c r=>
  by_cases h:c=45
  ·subst h;rfl
  ·have h1:(some c == some (45:UInt8))=false:=by simpa using h
   have A:((45:UInt8) == c)=false:=by simpa using Ne.symm h
   simp only[List.isPrefixOf,List.head?_cons,h1,A,Bool.false_and]
def L9(s:ByteArray):(⟨(Lib.trimPrefix (bl s) [45]).toArray⟩:ByteArray)=iR s:=by
 unfold Lib.trimPrefix iR;rw[UQ];split
 ·rfl
 ·exact aBi s
def Vd(s:ByteArray):PC prog 198 [str s,str ⟨#[45]⟩] (.tup [str (iR s),boo (lJ s)]):=by
 refine PC.lib (a:=[.string s,.string ⟨#[45]⟩]) (v:=.tuple #[.string (iR s),.bool (lJ s)]) (fun S w=>⟨_,rfl,⟨_,_,rfl,rfl,⟨_,_,rfl,rfl,rfl⟩⟩⟩) fun w _=>(Tryz.strings_CutPrefix s ⟨#[45]⟩ w).mono fun e w' ⟨A,E⟩=>?_
 rw[E];refine⟨A.trans ?_,Below.refl _ _⟩;rw[show s.data.toList=bl s from rfl,show(⟨#[45]⟩:ByteArray).data.toList=[45]from rfl,L9,UQ]
def CD(s:ByteArray):PC prog 151 [str s,str ⟨#[45]⟩] (str (iR s)):=by
 refine PC.lib (a:=[.string s,.string ⟨#[45]⟩]) (v:=.string (iR s)) (fun S w=>rfl) fun w _=>(Tryz.strings_TrimPrefix s ⟨#[45]⟩ w).mono fun e w' ⟨A,E⟩=>?_
 rw[E];refine⟨A.trans ?_,Below.refl _ _⟩;rw[show s.data.toList=bl s from rfl,show(⟨#[45]⟩:ByteArray).data.toList=[45]from rfl,L9]
def W0(n:Int)(h0: -9223372036854775808<=n)(h1:n<=9223372036854775807):PC prog 163 [int n] (str (zed n)):=by
 refine PC.lib (a:=[.int .i64 n]) (v:=.string (zed n)) (fun S w=>rfl) fun w F=>(Tryz.strconv_Itoa n h0 h1 w (ajN F)).mono fun e w' ⟨A,k,os,E⟩=>?_
 rw[E];exact⟨A,pK k os⟩
def Vv(a b:ByteArray):PC prog 204 [str a,str b] (int (Lib.compareBytes (bl a) (bl b))):=by
 refine PC.lib (a:=[.string a,.string b]) (v:=.int .i64 (Lib.compareBytes (bl a) (bl b))) (fun S w=>rfl) fun w _=>(Tryz.strings_Compare a b w).mono fun e w' ⟨A,E⟩=>?_
 rw[E];exact⟨A,Below.refl _ _⟩
def JK:(⟨#[48]⟩:ByteArray)=dec 0:=oU (by rw[sR,Lib.decDigits_one (by omega)];rfl)
theorem I5:(⟨#[49]⟩:ByteArray)=dec 1:=oU (by rw[sR,Lib.decDigits_one (by omega)];rfl)
def AE(s:ByteArray):(bl s == [48])=eqB s (dec 0):=by unfold eqB;rw[<-JK];rfl
def VK(s:ByteArray):(bl s == [49])=eqB s (dec 1):=by unfold eqB;rw[<-I5];rfl
theorem Qs(s:ByteArray):(iR s).size<=s.size:=by
 unfold iR;split
 ·rw[<-jZ,<-jZ,oZ,List.length_drop];omega
 ·exact Xae _
def EQ(s:ByteArray)(h:s.size<=1048576):PC prog 155 [str s] (.tup [boo (lJ s),str (iR s),boo (gT s)]):=by refine pcd func155 rfl rfl ?_;simp only[go_sem];refine aO (Vd s) ?_;simp only[go_sem];refine aO (Fm (iR s) (by grind[Qs])) ?_;simp only[go_sem,AE];exact .refl _
def ajK(s:ByteArray)(h:s.size<=1048576):PC prog 146 [str s] (boo (gT s)):=by refine pcd func146 rfl rfl ?_;simp only[go_sem];refine aO (EQ s h) ?_;simp only[go_sem];exact .refl _
def aBE(n:Int)(h0: -9223372036854775808<=n)(h1:n<=9223372036854775807):PC prog 114 [int n] (str (zed n)):=by refine pcd func114 rfl rfl ?_;simp only[go_sem];refine aO (W0 n h0 h1) ?_;simp only[go_sem];exact .refl _
def awI(s:ByteArray)(h:s.size<=1048576):PC prog 108 [str s] (int (Sp s)):=by
 refine pcd func108 rfl rfl ?_;simp only[go_sem];refine aO (EQ s h) ?_;simp only[go_sem,AE];apply aA <;> intro E
 ·simp only[go_sem];refine cI ?_;unfold Sp;by_cases A:gT s=true
  ·rw[if_pos A]
   grind[nI,xU,dW]
  grind
 ·have A:gT s=true/\eqB (iR s) (dec 0)=false:=by grind
  have J:iH (iR s)=true:=by simp_all[gT]
  have F:0<kM (iR s):=by grind[pA,vQ]
  simp only[go_sem];apply aA <;> intro O
  ·simp only[go_sem];simp_all[cI,Sp,nI,Int.sign_eq_neg_one_of_neg]
  ·simp only[go_sem];simp_all[cI,Sp,nI,Int.sign_eq_one_of_pos]
def sg(m:Bool)(n:Nat):Int:=if m=true then -(n:Int)else n
def awH(m:Bool)(n:Nat):(if(m&& !eqB (dec n) (dec 0))=true then(⟨#[45]⟩:ByteArray)++dec n else dec n)=zed (sg m n):=by
 unfold sg;by_cases A:n=0
 ·subst A;rw[show eqB (dec 0) (dec 0)=true from xU.2 rfl];simp only[Xcl,Bool.and_false,Xbi,if_false];rw[<-gH];simp
 ·rw[show eqB (dec n) (dec 0)=false from vQ.2 fun e=>A (Au.1 e)];cases m with
  | true=>simp only[Xcg,Xbo,if_true];rw[IM (by omega)];refine oU ?_;rw[GP,oZ,sR];rfl
  | false=>simp only[Bool.false_and,Xbi,if_false];rw[gH]
def X8(m:Bool)(n:Nat)(O:(dec n).size<=1048576):PC prog 160 [.agg [boo m,str (dec n)]] (str (zed (sg m n))):=by
 refine pcb (fun t=>t == 1) func160 rfl rfl ?_;simp only[go_sem];refine aJ fun j J=>?_
 have R:=aB bY j (some ⟨253,2,[[boo m,str (dec n)]]⟩);generalize aH bY j _=H1 at R |-;simp only[go_sem,R];have A:=awH m n;have F:(m&& !bl (dec n) == [48])=(m&& !eqB (dec n) (dec 0)):=by rw[<-AE]
 rw[F];apply aA <;> intro E
 ·rw[if_pos E]at A;simp only[go_sem,R];refine⟨by simp_all;omega,?_⟩;exact cS A
 ·rw[if_neg (by grind)]at A;simp only[go_sem,R];exact cS A
def apG(m:Bool)(n:Nat):(sg m n).natAbs=n:=by unfold sg;split <;> omega
def KI(m:Bool)(n:Nat):PC prog 203 [.agg [boo m,str (szN n).1],int (szN n).2] (.tup [str (szZ (sg m n)).1,int (szZ (sg m n)).2]):=by
 by_cases A:n<dA
 ·have J:=(mK n).2 A;rw[Ge A,show szZ (sg m n)=(zed (sg m n),0)from if_pos (by rw[apG];exact A)];refine pcb (fun t=>t == 2) func203 rfl rfl ?_;simp only[go_sem];refine aJ fun j F=>?_
  have R:=aB bY j (some ⟨253,2,[[boo m,str (dec n)]]⟩);generalize aH bY j _=H1 at R |-;simp only[go_sem];refine aA (fun E=>by cases E) (fun _=>?_);simp only[go_sem,R];refine aO (X8 m n (by omega)) ?_;simp only[go_sem];exact .refl _
 ·rw[show szN n=(emp,4)from if_neg A,show szZ (sg m n)=(emp,4)from if_neg (by rw[apG];exact A)];refine pcb (fun t=>t == 2) func203 rfl rfl ?_;simp only[go_sem];refine aJ fun j F=>?_
  simp only[go_sem];refine aA (fun E=>?_) (fun E=>by cases E);simp only[go_sem];exact .refl _
def IB(s:ByteArray):List AV:=[boo (lJ s),str (iR s)]
def RO(s:ByteArray):(IB s).length=2:=(rfl)
def aAX(s:ByteArray):(IB s).getD 0 .any=boo (lJ s):=(rfl)
def azX(s:ByteArray):(IB s).getD 1 .any=str (iR s):=(rfl)
def akK(s:ByteArray):(IB s).take 2=IB s:=(rfl)
attribute [go_sem] RO aAX azX akK
def L0(l:List ByteArray):Row:=⟨253,2,l.map IB⟩
def aoP(s:ByteArray):Bool:=decide ((iR s).size>4096)
def LK(l:List ByteArray):Int:=if l.any (fun s=> !gT s)=true then 3 else if l.any aoP=true then 4 else 0
def zL(l:List ByteArray):List (List AV):=if LK l=0 then l.map IB else[]
def ZV{α:Type}{q:α->Bool}{l:List α}{k:Nat}{c:α}(h:l[k]?=some c)(A:q c=true):l.any q=true:=Xak.2 ⟨c,Xac h,A⟩
def Fa{α:Type}{q:α->Bool}{l:List α}(h:∀c∈l,q c=false):l.any q=false:=by rw[Xap];intro c A;rw[h c A];simp
def avR(l:List ByteArray)(hl:l.length<=1048576)(hs:∀s∈l,s.size<=1048576):PC prog 156 [.sl (l.map Go.Aw.D.dZ)] (.tup [.sl (zL l),int (LK l)]):=by
 refine pcb (fun t=>t == 4) func156 rfl rfl ?_;simp only[go_sem];refine aJ fun j hj=>?_
 simp only[go_sem];refine⟨fun ρ H=>∃(k j:Nat),k<=l.length/\ρ 12=.sl (l.map Go.Aw.D.dZ)/\ρ 13=int l.length/\ρ 4=.os j/\ρ 14=int k/\H j=some (L0 (l.take k))/\∀s∈l.take k,gT s=true,fun ρ _=>l.length-aU (ρ 14),
  ⟨0,j,Xab _,rfl,rfl,rfl,by simp only[go_sem];rfl,aB _ _ _,by simp⟩,?_⟩
 rintro ρ H ⟨k,j,hk,ab,aa,X,T,J,hz⟩;simp only[go_sem,aa,T];refine tP hk (fun A=>?_) (fun F=>?_)
 ·obtain⟨s,E⟩:=aI A;have b1:=inB A;simp only[go_sem,ab,T,aC E,b1];refine aO (EQ s (hs s (Xac E))) ?_;simp only[go_sem,];refine aA (fun hb=>?_) (fun hb=>?_)
  ·simp only[go_sem];have e:LK l=3:=by unfold LK;grind
   rw[show zL l=[]from if_neg (by omega),e];exact .refl _
  ·simp only[go_sem,X];refine bC J ⟨rfl,rfl⟩ ⟨rfl,trivial⟩ (by grind[L0]) (fun j' ai=>?_);simp only[go_sem,ab,aa,T,aW k];refine⟨⟨k+1,j',A,rfl,rfl,?_,gP E (by grind) hz⟩,by grind[aN]⟩;rw[aB];simp only[L0,aZ E,Xaw,Xaq,List.map_nil];rfl
 ·subst F;rw[Xad]at J hz;have hR:l.any (fun s=> !gT s)=false:=Fa fun s hs=>by grind
  have ac:((L0 l).es.length:Int)=l.length:=by simp[L0]
  simp only[go_sem,X,J,ac];refine⟨fun ρ H=>∃(k:Nat),k<=l.length/\ρ 4=.os j/\ρ 33=.os j/\ρ 34=int l.length/\ρ 35=int k/\H j=some (L0 l)/\∀s∈l.take k,aoP s=false,fun ρ _=>l.length-aU (ρ 35),
   ⟨0,Xab _,X,rfl,rfl,by simp only[go_sem];rfl,J,by simp⟩,?_⟩
  rintro ρ H ⟨k,hk,X,af,Z,U,J,ae⟩;simp only[go_sem,Z,U];refine aA (fun A=>?_) (fun F=>?_)
  ·have A:=ltB A;obtain⟨s,E⟩:=aI A;have b1:=inB A;have ag:(L0 l).es.getD k []=IB s:=aC E;have b2:0<=(k:Int)/\(k:Int)<((L0 l).es.length:Nat):=by omega
   simp only[go_sem,af,U,J,b2,ag];have O:k<(L0 l).es.length:=by omega
   refine⟨rfl,⟨O,Xae 2⟩,?_⟩;refine aJ fun i hi=>?_
   simp only[go_sem,];have Y:j≠i:=aV J hi;refine aM (aB _ _ _) (by simp[RO]) ?_;generalize hG:aH (aH _ i _) i _=HG;have Ri:HG i=some (⟨253,2,[IB s]⟩:Row):=by rw[<-hG,aB];rfl
   have ah:HG j=some (L0 l):=by rw[<-hG,aD _ _ _ _ Y,aD _ _ _ _ Y];exact J
   simp only[go_sem,Ri];have hd:decide (((iR s).size:Int)>4096)=aoP s:=by unfold aoP;grind
   rw[hd];refine aA (fun hb=>?_) (fun hb=>?_)
   ·simp only[go_sem];have e:LK l=4:=by unfold LK;grind
    rw[show zL l=[]from if_neg (by omega),e];exact .refl _
   ·simp only[go_sem,X,af,Z,U,aW k];exact⟨⟨k+1,A,rfl,ah,gP E hb ae⟩,by grind[aN]⟩
  ·have F:=geB hk F;subst F;rw[Xad]at ae;simp only[go_sem,X];have e:LK l=0:=by simp_all[LK,Fa]
   rw[show zL l=l.map IB from if_pos e,e];exact .tup _ _ (.cons _ _ _ _ (.row _ _ _ J (ConvE.refl _)) (ConvL.refl _))
end Nu
end Go.Proofs.YthephioccidfgaaGreatDoor
