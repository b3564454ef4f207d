import Derived.Test.YtgncgpcpbadfnaaGreatDoorVc06
set_option linter.unusedSimpArgs false
set_option linter.unusedVariables false
set_option linter.defProp false
set_option maxRecDepth 100000
section
namespace Go.Proofs.YtgncgpcpbadfnaaGreatDoor
open Go.Proofs.Tryz
open Go.Aw Go.Aw.D Go.Proofs Ty
def inR(n lo hi:Int):Bool:=decide (n>=lo)&&decide (n<=hi)
def nH(n lo A:Int):PC prog 55 [int n,int lo,int A] (boo (inR n lo A)):=by refine pcd func55 rfl rfl ?_;simp only[go_sem];exact .refl _
def F6(n lo A:Int):PC prog 95 [int n,int lo,int A] (boo (inR n lo A)):=by refine pcd func95 rfl rfl ?_;simp only[go_sem];exact .refl _
def YT(n:Int):PC prog 91 [int n] (boo (inR n 0 4096)):=by refine pcd func91 rfl rfl ?_;simp only[go_sem];exact .refl _
def Df(c:Int):Bool:=decide (c>=48)&&decide (c<=57)
def E0(c:Int):PC prog 136 [.v (.int .u8 c)] (boo (Df c)):=by refine pcd func136 rfl rfl ?_;simp only[go_sem];exact .refl _
def CD(c:Int):Bool:=decide (c>=97)&&decide (c<=122)||decide (c>=65)&&decide (c<=90)||c == 95
def Xw(c:Int):PC prog 137 [.v (.int .u8 c)] (boo (CD c)):=by refine pcd func137 rfl rfl ?_;simp only[go_sem];exact .refl _
def kI(s:Stop):Bool:=s.place == -1&&s.start == 0&&s.close == 0&&s.service == 0
def T9(s:Stop):Bool:=decide (s.place<0)||decide (s.start<0)||decide (s.start>s.close)||decide (s.close>4096)||decide (s.service<0)||decide (s.service>4096)
def fM(s:Stop):Int:=if kI s then 0 else if T9 s then 2 else 0
def LA(s:Stop):PC prog 96 [.agg (dQ s)] (int (fM s)):=by
 refine pcd func96 rfl rfl ?_;simp only[go_sem];refine aA (fun h=>?_) (fun h=>?_)
 ·simp only[go_sem];have:fM s=0:=if_pos h;rw[this];exact .refl _
 ·simp only[go_sem];refine aA (fun A=>?_) (fun A=>?_)
  ·simp only[go_sem];have:fM s=2:=by unfold fM;rw[if_neg (by simp[kI,h])];exact if_pos A
   rw[this];exact .refl _
  ·simp only[go_sem];have:fM s=0:=by unfold fM;rw[if_neg (by simp[kI,h]),if_neg (by simp only[T9,A];simp)]
   rw[this];exact .refl _
def Gc(n:Int):ByteArray:=strOfNums [IntKind.u8.wrap (IntKind.i64.wrap (48+n))]
def iX(n:Nat):ByteArray:=if n<10 then Gc n else iX (n/10)++Gc (n%10:Nat)
def DJ(x:Int):(strOfNums [x]).size=1:=by simp[strOfNums];rfl
def En(n:Int):(Gc n).size=1:=DJ _
def Am{n:Nat}(h:10<=n):iX n=iX (n/10)++Gc (n%10:Nat):=by rw[iX,if_neg (by omega)]
def uN{n:Nat}(h:n<10):iX n=Gc n:=by rw[iX,if_pos h]
def mV(n:Nat):(iX n).size<=n+1:=by
 induction n using Nat.strongRecOn with
 | ind n ih=>
  rcases Xbb n 10 with h|h
  ·rw[uN h,En];omega
  ·rw[Am h,ByteArray.size_append,En];have:=ih (n/10) (by omega);omega
def RL(m:Nat):(m:Int).tmod 10=((m%10:Nat):Int):=by rw[Xcb (by omega)];rfl
def RQ(m:Nat):(m:Int).tdiv 10=((m/10:Nat):Int):=by rw[Xbz (by omega)];rfl
def Oo{k:Nat}(h:k<=4611686018427387904):IntKind.i64.wrap (k:Int)=(k:Int):=bG (by omega)
def vR:IntKind.i64.max=9223372036854775807:=by decide
def acT(n:Nat)(M:n<=4611686018427387904):PC prog 97 [int n] (str (iX n)):=by
 refine pcd func97 rfl rfl ?_;simp only[go_sem];refine⟨fun ρ _=>∃(m:Nat) (s:ByteArray),ρ 0=int m/\ρ 3=str s/\iX n=iX m++s/\s.size+m<=n,
  fun ρ _=>aT (ρ 0),⟨n,ByteArray.empty,rfl,rfl,by simp,by simp⟩,?_⟩
 rintro ρ H ⟨k,s,h0,F,I,J⟩;simp only[go_sem,h0,F];refine aA (fun E=>?_) (fun A=>?_)
 ·have E : 10 <= k := by
   have:(10:Int)<=k:=by simpa using E
   omega
  simp only[go_sem,h0,F,RQ,RL,Oo (show k/10<=4611686018427387904 by omega),aF];refine⟨by omega,?_,by omega,⟨k/10,_,rfl,rfl,?_,?_⟩,by omega⟩
  ·rw[DJ,vR];omega
  ·rw[I,Am E,ByteArray.append_assoc];rfl
  ·rw[ByteArray.size_append,DJ];omega
 ·have A : k < 10 := by
   have:¬(10:Int)<=k:=by simpa using A
   omega
  simp only[go_sem,h0,F];refine⟨by rw[DJ,vR];omega,?_⟩;rw[I,uN A];exact .refl _
def Zy:AV->Nat
 | .v (.bool true)=>1
 | _=>0
def rF(n:Nat)(X:n<=4611686018427387904):PC prog 57 [int n] (str (iX n)):=by
 refine pcd func57 rfl rfl ?_;simp only[go_sem];refine⟨fun ρ _=>∃(b:Bool) (m:Nat) (s:ByteArray),ρ 0=int n/\ρ 5=boo b/\ρ 4=int m/\ρ 3=str s/\(b=true->iX n=iX m++s/\s.size+m<=n)/\(b=false->iX n=s),
  fun ρ _=>aT (ρ 4)+Zy (ρ 5),⟨true,n,ByteArray.empty,rfl,rfl,rfl,rfl,fun _=>by simp,by simp⟩,?_⟩
 rintro ρ H ⟨b,k,s,h0,F,E,J,O,T⟩;simp only[go_sem,h0,J,E,F];refine aA (fun A=>?_) (fun A=>?_)
 ·subst A;obtain⟨M,U⟩:=O rfl;simp only[go_sem,h0,J,E,F,RQ,RL];refine⟨by omega,?_⟩;refine aA (fun A=>?_) (fun A=>?_)
  ·exfalso;simp at A;omega
  ·simp only[go_sem,h0,J,E,F,RQ,RL,Oo (show k/10<=4611686018427387904 by omega),aF];refine⟨by rw[DJ,vR];omega,by omega,⟨_,k/10,_,rfl,rfl,rfl,?_,?_⟩,?_⟩
   ·intro A;have:10<=k:=by simp at A;omega
    refine⟨?_,?_⟩
    ·rw[M,Am this,ByteArray.append_assoc];rfl
    ·rw[ByteArray.size_append,DJ];omega
   ·intro A;have I:k<10:=by simp at A;omega
    rw[M,uN I,Xbc I];rfl
   ·rcases Xbb k 10 with h|h
    ·have:k/10=0:=by omega
     simp[this,Zy]
    ·simp only[Zy];split <;> omega
 ·simp only[go_sem,h0,J,E,F];refine aA (fun A=>?_) (fun A=>?_)
  ·exfalso;simp at A;omega
  ·simp only[go_sem,h0,J,E,F];rw[T (by assumption)];exact .refl _
def fE(l:List Int)(d:Int):Bool:=if(l.length:Int)=d then l.all fun n=> !(decide (n<0)||decide (n>1000))else false
def GQ{α:Type}{p:α->Bool}{l:List α}(h:∀x∈l,p x=true):l.all p=true:=Xaj.2 h
def FQ{α:Type}{p:α->Bool}{l:List α}{x:α}(h:x∈l)(A:p x=false):l.all p=false:=by
 cases E:l.all p with
 | false=>rfl
 | true=>rw[Xaj.1 E x h]at A;cases A
def iV{α:Type}{l:List α}{k:Nat}{x:α}(h:l[k]?=some x):x∈l:=Xac h
def mG{α:Type}{q:α->Prop}{l:List α}{k:Nat}{x:α}(E:l[k]?=some x)(h:∀y∈l.take k,q y)(F:q x):∀y∈l.take (k+1),q y:=by
 rw[bE E];intro y A;rcases Xat.1 A with A|A
 ·exact h y A
 ·simp at A;subst A;exact F
def bA{k n:Nat}(h:decide ((k:Int)<(n:Int))=true):k<n:=by simpa using h
def bB{k n:Nat}(A:k<=n)(h:decide ((k:Int)<(n:Int))=false):k=n:=by
 have:¬k<n:=by simpa using h
 omega
def Cj(l:List Int)(d:Int)(X:l.length<=1048576):PC prog 94 [.sl (l.map aQ),int d] (boo (fE l d)):=by
 refine pcd func94 rfl rfl ?_;simp only[go_sem];refine aA (fun F=>?_) (fun F=>?_)
 ·simp only[go_sem];have:fE l d=false:=by unfold fE;rw[if_neg (by simpa using F)]
  rw[this];exact .refl _
 ·have F:(l.length:Int)=d:=by simpa using F
  simp only[go_sem];refine⟨fun ρ _=>∃k:Nat,k<=l.length/\ρ 0=.sl (l.map aQ)/\ρ 5=int k/\∀n∈l.take k,(decide (n<0)||decide (n>1000))=false,fun ρ _=>l.length-aT (ρ 5),⟨0,Xab _,rfl,rfl,by simp⟩,?_⟩;rintro ρ H ⟨k,U,h0,J,O⟩;simp only[go_sem,h0,J];refine aA (fun A=>?_) (fun E=>?_)
  ·have A:=bA A;obtain⟨r,I⟩:=aM A;have T:=inB A;simp only[go_sem,h0,J,T,aC I];refine aA (fun M=>?_) (fun M=>?_)
   ·simp only[go_sem];have:fE l d=false:=by unfold fE;rw[if_pos F];exact FQ (iV I) (by simp only[M];rfl)
    rw[this];exact .refl _
   ·simp only[go_sem,h0,J,aV k];exact⟨⟨k+1,A,rfl,mG I O M⟩,by simp only[aF];omega⟩
  ·have E:=bB U E;subst E;simp only[go_sem];have:fE l d=true:=by unfold fE;rw[if_pos F];exact GQ fun n h=>by rw[O n (by simpa using h)];rfl
   rw[this];exact .refl _
def yZ(l:List Int)(d:Int):Bool:=if(!inR l.length 1 3||(l.length:Int) != d)=true then false else l.all fun n=>inR n 0 1000
def ajU(l:List Int)(d:Int)(X:l.length<=1048576):PC prog 93 [.sl (l.map aQ),int d] (boo (yZ l d)):=by
 refine pcd func93 rfl rfl ?_;simp only[go_sem];refine aP (nH _ _ _) ?_;simp only[go_sem];refine aA (fun F=>?_) (fun F=>?_)
 ·simp only[go_sem];have:yZ l d=false:=by unfold yZ;rw[if_pos F]
  rw[this];exact .refl _
 ·simp only[go_sem];refine⟨fun ρ _=>∃k:Nat,k<=l.length/\ρ 0=.sl (l.map aQ)/\ρ 5=int k/\∀n∈l.take k,inR n 0 1000=true,fun ρ _=>l.length-aT (ρ 5),⟨0,Xab _,rfl,rfl,by simp⟩,?_⟩;rintro ρ H ⟨k,U,h0,J,O⟩;simp only[go_sem,h0,J];refine aA (fun A=>?_) (fun E=>?_)
  ·have A:=bA A;obtain⟨r,I⟩:=aM A;have T:=inB A;simp only[go_sem,h0,J,T,aC I];refine aP (nH _ _ _) ?_;simp only[go_sem];refine aA (fun M=>?_) (fun M=>?_)
   ·simp only[go_sem];have:yZ l d=false:=by unfold yZ;rw[if_neg (by rw[F];simp)];exact FQ (iV I) (by simpa using M)
    rw[this];exact .refl _
   ·simp only[go_sem,h0,J,aV k];exact⟨⟨k+1,A,rfl,mG I O (by simpa using M)⟩,by simp only[aF];omega⟩
  ·have E:=bB U E;subst E;simp only[go_sem];have:yZ l d=true:=by unfold yZ;rw[if_neg (by rw[F];simp)];exact GQ fun n h=>O n (by simpa using h)
   rw[this];exact .refl _
def tR(s:ByteArray)(i:Nat):Int:=((s.data.getD i 0).toNat:Int)
def kW(s:ByteArray):Bool:=if(decide ((s.size:Int)<1)||decide ((s.size:Int)>16)||Df (tR s 0))=true then false else(List.range s.size).all fun i=>CD (tR s i)||Df (tR s i)
def oV{n k:Nat}(h:k<n):(List.range n)[k]?=some k:=by simp[h]
def Ry(s:ByteArray)(U:s.size<=1048576):PC prog 89 [str s] (boo (kW s)):=by
 refine pcd func89 rfl rfl ?_;simp only[go_sem];refine⟨fun h=>⟨by omega,by simp at h;omega⟩,_,fun _=>(E0 _).q rfl,?_⟩;simp only[go_sem];refine aA (fun F=>?_) (fun F=>?_)
 ·simp only[go_sem];have:kW s=false:=by unfold kW;rw[if_pos (by exact F)]
  rw[this];exact .refl _
 ·simp only[go_sem];refine⟨fun ρ _=>∃k:Nat,k<=s.size/\ρ 0=str s/\ρ 3=int k/\∀i∈(List.range s.size).take k,(CD (tR s i)||Df (tR s i))=true,fun ρ _=>s.size-aT (ρ 3),⟨0,Xab _,rfl,rfl,by simp⟩,?_⟩;rintro ρ H ⟨k,T,h0,I,M⟩;simp only[go_sem,h0,I];refine aA (fun A=>?_) (fun E=>?_)
  ·have A:=bA A;have O:=inB A;simp only[go_sem,h0,I,O];refine aP (Xw _) ?_;simp only[go_sem,h0,I,O];refine⟨_,fun _=>(E0 _).q rfl,?_⟩;simp only[go_sem];refine aA (fun J=>?_) (fun J=>?_)
   ·simp only[go_sem];have:kW s=false:=by unfold kW;rw[if_neg (by intro h;exact absurd (h.symm.trans F) (by simp))];exact FQ (iV (oV A)) (by simpa[tR]using J)
    rw[this];exact .refl _
   ·simp only[go_sem,h0,I,aV k];exact⟨⟨k+1,A,rfl,mG (oV A) M (by
     have:(!CD (tR s k)&& !Df (tR s k))=false:=J
     revert this;cases CD (tR s k) <;> cases Df (tR s k) <;> simp)⟩,by simp only[aF];omega⟩
  ·have E:=bB T E;subst E;simp only[go_sem];have:kW s=true:=by unfold kW;rw[if_neg (by intro h;exact absurd (h.symm.trans F) (by simp))];exact GQ fun n h=>M n (by rw[Xaq (by simp)];exact h)
   rw[this];exact .refl _
def jP(l:List VType):Int:=match l with|[]=>0|t::_=>t.cap.length
def J2(l:List VType):PC prog 37 [.sl (l.map aZ)] (int (jP l)):=by
 refine pcd func37 rfl rfl ?_;simp only[go_sem];cases l with
 | nil=>
  simp only[go_sem];refine aA (fun A=>?_) (fun A=>?_)
  ·simp only[go_sem];exact .refl _
  ·simp at A
 | cons t l=>
  refine aA (fun A=>?_) (fun A=>?_)
  ·simp at A;omega
  ·simp only[go_sem];exact⟨⟨by omega,by omega⟩,.refl _⟩
def dC(l:List VType)(k:Nat)(s:ByteArray):Bool:=(l.take k).any fun t=>t.name.toList == s.toList
def J6(l:List VType)(m:Nat)(s:ByteArray)(Z:m<=l.length)(Y:l.length<=1048576):PC prog 92 [.sl (l.map aZ),int m,str s] (boo (dC l m s)):=by
 refine pcd func92 rfl rfl ?_;simp only[go_sem];refine⟨fun ρ _=>∃k:Nat,k<=m/\ρ 0=.sl (l.map aZ)/\ρ 1=int m/\ρ 2=str s/\ρ 7=int k/\∀t∈l.take k,(t.name.toList == s.toList)=false,fun ρ _=>m-aT (ρ 7),⟨0,Xab _,rfl,rfl,rfl,rfl,by simp⟩,?_⟩;rintro ρ H ⟨k,X,h0,h1,M,I,O⟩;simp only[go_sem,h0,h1,M,I];refine aA (fun A=>?_) (fun E=>?_)
 ·have A:=bA A;obtain⟨r,F⟩:=aM (show k<l.length by omega);have T:=inB (show k<l.length by omega);simp only[go_sem,h0,h1,M,I,T,aC F];refine aA (fun J=>?_) (fun J=>?_)
  ·simp only[go_sem];have:dC l m s=true:=by refine Xao.2 ⟨r,?_,J⟩;exact Xac (i:=k) (by rw[List.getElem?_take];simp[A,F])
   rw[this];exact .refl _
  ·simp only[go_sem,h0,h1,M,I,aV k];exact⟨⟨k+1,A,rfl,mG F O J⟩,by simp only[aF];omega⟩
 ·have E:=bB X E;subst E;simp only[go_sem];have:dC l k s=false:=Xax.2 fun t U=>by simp[O t U]
  rw[this];exact .refl _
def pM(p:Point):Bool:=decide (p.t<0)||decide (p.t>4096)||decide (p.a<p.t)||decide (p.a>IntKind.i64.wrap (p.t+4096))
def KY(p q:Point):Bool:=decide (p.t<=q.t)||decide (p.a<q.a)
def dM(l:List Point)(i:Nat):Point:=l.getD i ⟨0,0⟩
def Fp(n lo hi:Int):Bool:=decide (n<lo)||decide (n>hi)
def gB(l:List Point)(i:Nat):List Fault:=
 opt (pM (dM l i)) ⟨2,iX i⟩++opt (decide ((i:Int)>0)&&KY (dM l i) (dM l (i-1))) ⟨13,iX i⟩
def jD(l:List Point):List Fault:=opt (Fp l.length 1 16) ⟨4,ByteArray.empty⟩++(List.range l.length).flatMap (gB l)
def ZS(l:List Point)(i:Nat):(gB l i).length<=2:=by unfold gB;rw[Xaf];have:=bW (pM (dM l i)) (⟨2,iX i⟩:Fault);have:=bW (decide ((i:Int)>0)&&KY (dM l i) (dM l (i-1))) (⟨13,iX i⟩:Fault);omega
def eC{α A:Type}{f:α->List A}{c:Nat}(h:∀x,(f x).length<=c):∀l:List α,(l.flatMap f).length<=c*l.length
 | []=>by simp
 | x::r=>by have h1:=h x;have E:=eC h r;simp only[List.flatMap_cons,Xaf,Xad,Nat.mul_add,Nat.mul_one];omega
def gM{A:Type}(f:Nat->List A)(k:Nat):(List.range (k+1)).flatMap f=(List.range k).flatMap f++f k:=by rw[Xbt,List.flatMap_append];simp
def dO{l:List Point}{k:Nat}{p:Point}(h:l[k]?=some p):dM l k=p:=by simp[dM,List.getD,h]
def Xv(l:List Point)(hl:l.length<=1048576):NC prog 90 [.sl (l.map bV)] (bK (jD l)) .os:=by
 refine ncb (fun t=>t == 3) func90 rfl rfl ?_;simp only[go_sem];refine aJ fun j hj=>?_
 simp only[go_sem];refine bN (fun ρ H=>∃j,ρ 0=.sl (l.map bV)/\ρ 3=.os j/\H j=some (bK (opt (Fp l.length 1 16) ⟨4,ByteArray.empty⟩))) ?_ fun K U=>aA (fun O=>?_) (fun O=>?_)
 ·rintro ρ H ⟨j,h0,A,I⟩;simp only[go_sem,h0,A];generalize X:opt (Fp l.length 1 16) (⟨4,ByteArray.empty⟩:Fault)=pre at I;have ah:pre.length<=1:=by rw[<-X];exact bW _ _
  refine⟨fun ρ H=>∃k:Nat,k<=l.length/\ρ 0=.sl (l.map bV)/\ρ 4=int k/\∃j,ρ 3=.os j/\H j=some (bK (pre++(List.range k).flatMap (gB l))),fun ρ _=>l.length-aT (ρ 4),⟨0,Xab _,by simp only[go_sem,h0],by simp only[go_sem];rfl,j,by simp only[go_sem,A],by simpa using I⟩,?_⟩;rintro ρ H ⟨k,hk,h0,E,j,A,I⟩;generalize Z:pre++(List.range k).flatMap (gB l)=es at I;have ag:es.length<=2*k+1:=by have:=eC (ZS l) (List.range k);rw[<-Z,Xaf];rw[Xas]at this;omega
  simp only[go_sem,h0,A,E];refine aA (fun M=>?_) (fun Y=>?_)
  ·have M:=bA M;obtain⟨p,hp⟩:=aM M;have b1:=inB M;simp only[go_sem,h0,A,E,b1,aC hp];refine aJ fun i hi=>?_
   simp only[go_sem];refine aN (r:=⟨119,2,[[int 0,int 0]]⟩) (by rw[aB]) (by simp[fZ]) ?_;simp only[go_sem];have J:j≠i:=aR I hi;have af:aI (aI H i (some ⟨119,2,[[int 0,int 0]]⟩)) i (some ⟨119,2,[bV p]⟩) j=some (bK es):=by rw[aD _ _ _ _ J,aD _ _ _ _ J,I]
   refine bN (fun F H'=>∃j',F 0=.sl (l.map bV)/\F 4=int k/\F 3=.os j'/\F 5=.op i 0 0/\H' i=some ⟨119,2,[bV p]⟩/\j'≠i /\
    H' j'=some (bK (es++opt (pM p) ⟨2,iX k⟩))) ?_ fun K U=>aA (fun O=>?_) (fun O=>?_)
   ·rintro ρ H ⟨j,h0,E,A,h5,hi,J,I⟩;generalize ae:es++opt (pM p) ⟨2,iX k⟩=fs at I;have ai:fs.length<=2*k+2:=by have:=bW (pM p) (⟨2,iX k⟩:Fault);rw[<-ae,Xaf];omega
    simp only[go_sem];refine dF (by rfl) (by kernel_rfl) ?_;simp only[go_sem,h0,A,E,h5,hi];obtain⟨q,hq⟩:=aM (show k-1<l.length by omega);simp only[go_sem,h0,A,E,h5,hi,XC (show k<=4611686018427387904 by omega),aC hq];have aa:k<=4611686018427387904:=by omega
    have hg:decide ((k:Int)>0)=true->0<=IntKind.i64.wrap ((k:Int)-1)/\IntKind.i64.wrap ((k:Int)-1)<(l.length:Int):=fun h=>by
     have:(k:Int)>0:=by simpa using h
     rw[nT aa];omega
    have ac:pre++(List.range (k+1)).flatMap (gB l)=fs++opt (decide ((k:Int)>0)&&KY p q) ⟨13,iX k⟩:=by rw[gM,<-Xar,Z,<-ae,gB,dO hp,dO hq,Xar]
    refine⟨hg,fun h=>hg h.1,lK (fun F H'=>F 0=.sl (l.map bV)/\F 4=int k/\∃j,F 3=.os j/\H' j=some (bK (pre++(List.range (k+1)).flatMap (gB l)))) ?_ fun K U _ _=>aA (fun O=>?_) (fun O=>?_)⟩
    ·rintro ρ H ⟨h0,E,j,A,I⟩;simp only[go_sem,h0,A,E,mX aa];exact⟨⟨k+1,M,rfl,j,rfl,I⟩,by simp only[aF];omega⟩
    ·simp only[go_sem,h0,A,E];refine aP (rF _ (by omega)) ?_;simp only[go_sem,h0,A,E];refine aX I ⟨rfl,rfl⟩ (by simp only[go_sem]) (by simp only[Xaa,Xad,List.length_nil];omega) (fun j' T=>?_);simp only[go_sem,h0,A,E];refine U _ _ ⟨by simp only[go_sem,h0],by simp only[go_sem,E],j',by simp only[go_sem],?_⟩;rw[ac,gX (by exact O)];exact eF (l':=[⟨13,iX k⟩]) rfl
    ·simp only[go_sem];refine U _ _ ⟨by simp only[go_sem,h0],by simp only[go_sem,E],j,by simp only[go_sem,A],?_⟩;rw[ac,gY (by exact O),Xak,I]
   ·simp only[go_sem,h0,A,E];refine aP (rF _ (by omega)) ?_;simp only[go_sem,h0,A,E];refine aX af ⟨rfl,rfl⟩ (by simp only[go_sem]) (by simp only[Xaa,Xad,List.length_nil];omega) (fun j' T=>?_);simp only[go_sem,h0,A,E];have ab:=aB (aI H i (some ⟨119,2,[[int 0,int 0]]⟩)) i (some ⟨119,2,[bV p]⟩);refine U _ _ ⟨j',by simp only[go_sem,h0],by simp only[go_sem,E],by simp only[go_sem],by simp only[go_sem],cT ab J T,(aR ab T).symm,?_⟩;rw[gX (show pM p=true from O)];exact eF (l':=[⟨2,iX k⟩]) rfl
   ·simp only[go_sem];refine U _ _ ⟨j,by simp only[go_sem,h0],by simp only[go_sem,E],by simp only[go_sem,A],by simp only[go_sem],by rw[aB],J,?_⟩;rw[af,gY (show pM p=false from O),Xak]
  ·have Y:=bB hk Y;subst Y;simp only[go_sem,A];exact⟨_,rfl,by rw[I,<-Z,<-X];rfl⟩
 ·simp only[go_sem];refine aX (r:=bK []) (by simp only[go_sem];rfl) ⟨rfl,rfl⟩ (by simp only[go_sem]) (by simp) (fun j' T=>?_);simp only[go_sem];refine U _ _ ⟨j',rfl,rfl,?_⟩;rw[gX (by exact O)];exact eF (l:=[]) (l':=[⟨4,ByteArray.empty⟩]) rfl
 ·simp only[go_sem];refine U _ _ ⟨j,rfl,rfl,?_⟩;rw[gY (by exact O),aB];rfl
def II(l:List ByteArray)(i:Nat):ByteArray:=l.getD i ByteArray.empty
def DH{l:List ByteArray}{k:Nat}{p:ByteArray}(h:l[k]?=some p):II l k=p:=by simp[II,List.getD,h]
def rW(i:Nat):ByteArray:=⟨#[112,108,97,99,101,32]⟩++iX i
def sC(l:List ByteArray)(i:Nat):Bool:=(l.take i).any fun s=>s.toList == (II l i).toList
def fI(l:List ByteArray)(i:Nat):List Fault:=match kW (II l i)with
 | false=>[⟨5,rW i⟩]
 | true=>opt (sC l i) ⟨6,rW i⟩
def Ua(l:List ByteArray)(i:Nat):(fI l i).length<=1:=by
 unfold fI;split
 ·simp
 ·exact bW _ _
def wS(l:List ByteArray):List Fault:=opt (decide ((l.length:Int)>24)) ⟨4,⟨#[112,108,97,99,101,115]⟩⟩++(List.range l.length).flatMap (fI l)
def GD{α:Type}{p:α->Bool}{l:List α}{k:Nat}{x:α}(h:l[k]?=some x):(l.take (k+1)).any p=((l.take k).any p||p x):=by rw[bE h,List.any_append];simp
def Ou(i:Nat):(rW i).size<=i+7:=by have:=mV i;unfold rW;rw[ByteArray.size_append];have:(⟨#[112,108,97,99,101,32]⟩:ByteArray).size=6:=rfl;omega
def Ya(n:Network)(hl:n.places.length<=1048576)(hs:∀s∈n.places,s.size<=1048576):NC prog 53 [.agg (aY n)] (bK (wS n.places)) .os:=by
 refine ncb (fun t=>t == 3) func53 rfl rfl ?_;simp only[go_sem];refine aJ fun j hj=>?_
 simp only[go_sem];refine bN (fun ρ H=>∃j,ρ 1=.rp (aY n) 0/\ρ 3=.os j/\H j=some (bK (opt (decide ((n.places.length:Int)>24)) ⟨4,⟨#[112,108,97,99,101,115]⟩⟩))) ?_ fun K hK=>aA (fun M=>?_) (fun M=>?_)
 ·rintro ρ H ⟨j,h1,A,O⟩;simp only[go_sem,h1,A];generalize T:opt (decide ((n.places.length:Int)>24)) (⟨4,⟨#[112,108,97,99,101,115]⟩⟩:Fault)=pre at O;have af:pre.length<=1:=by rw[<-T];exact bW _ _
  refine⟨fun ρ H=>∃k:Nat,k<=n.places.length/\ρ 1=.rp (aY n) 0/\ρ 4=int k/\∃j,ρ 3=.os j/\H j=some (bK (pre++(List.range k).flatMap (fI n.places))),fun ρ _=>n.places.length-aT (ρ 4),⟨0,Xab _,by simp only[go_sem,h1],by simp only[go_sem];rfl,j,by simp only[go_sem,A],by simpa using O⟩,?_⟩;rintro ρ H ⟨k,hk,h1,E,j,A,O⟩;generalize X:pre++(List.range k).flatMap (fI n.places)=es at O;have ae:es.length<=k+1:=by have:=eC (Ua n.places) (List.range k);rw[<-X,Xaf];rw[Xas]at this;omega
  simp only[go_sem,h1,A,E];refine aA (fun F=>?_) (fun U=>?_)
  ·have F:=bA F;obtain⟨p,hp⟩:=aM F;have b1:=inB F;have aa:k<=4611686018427387904:=by omega
   have ag:=mV k;have Z:pre++(List.range (k+1)).flatMap (fI n.places)=es++fI n.places k:=by rw[gM,<-Xar,X]
   simp only[go_sem,h1,A,E];refine aP (rF _ (by omega)) ?_;simp only[go_sem,h1,A,E,b1,aC hp];refine⟨by rw[vR];show((6+(iX k).size:Nat):Int)<=_;omega,?_⟩;refine aP (Ry p (hs p (iV hp))) ?_;simp only[go_sem,h1,A,E];refine aA (fun M=>?_) (fun M=>?_)
   ·simp only[go_sem,h1,A,E];refine aX O ⟨rfl,rfl⟩ (by simp only[go_sem]) (by simp only[Xaa,Xad,List.length_nil];omega) (fun j' ac=>?_);simp only[go_sem,h1,A,E,mX aa];refine⟨⟨k+1,F,rfl,j',rfl,?_⟩,by simp only[aF];omega⟩;have hn:kW (II n.places k)=false:=by rw[DH hp];simpa using M
    rw[Z,fI,hn];exact eF (l':=[⟨5,rW k⟩]) rfl
   ·simp only[go_sem,h1,A,E];have hn:kW (II n.places k)=true:=by rw[DH hp];simpa using M
    refine⟨fun ρ H'=>∃m:Nat,m<=k/\ρ 1=.rp (aY n) 0/\ρ 3=.os j/\ρ 4=int k/\ρ 5=str (rW k)/\ρ 6=boo ((n.places.take m).any fun s=>s.toList == p.toList)/\ρ 7=int m/\H'=H,fun ρ _=>k-aT (ρ 7),⟨0,Xab _,by simp only[go_sem,h1],by simp only[go_sem,A],by simp only[go_sem,E],by simp only[go_sem];rfl,by simp only[go_sem];rfl,by simp only[go_sem];rfl,rfl⟩,?_⟩;rintro ρ H' ⟨m,hm,h1,A,E,h5,h6,h7,rfl⟩;simp only[go_sem,h1,A,E,h5,h6,h7];refine aA (fun I=>?_) (fun J=>?_)
    ·have I:=bA I;obtain⟨q,hq⟩:=aM (show m<n.places.length by omega);have b2:=inB (show m<n.places.length by omega);simp only[go_sem];refine dF (by rfl) (by kernel_rfl) ?_;simp only[go_sem,h1,A,E,h5,h6,h7,b1,b2,aC hp,aC hq,aV m];refine⟨⟨m+1,I,?_,rfl⟩,by simp only[aF];omega⟩;rw[GD hq]
    ·have J:=bB hm J;subst J;simp only[go_sem,h6];have ab:sC n.places m=(n.places.take m).any fun s=>s.toList == p.toList:=by unfold sC;rw[DH hp]
     refine lK (fun Y H'=>Y 1=.rp (aY n) 0/\Y 4=int m/\∃j,Y 3=.os j/\H' j=some (bK (pre++(List.range (m+1)).flatMap (fI n.places)))) ?_ fun K hK _ _=>aA (fun M=>?_) (fun M=>?_)
     ·rintro ρ H ⟨h1,E,j,A,O⟩;simp only[go_sem,h1,A,E,mX aa];exact⟨⟨m+1,F,rfl,j,rfl,O⟩,by simp only[aF];omega⟩
     ·simp only[go_sem,h1,A,E,h5];refine aX O ⟨rfl,rfl⟩ (by simp only[go_sem]) (by simp only[Xaa,Xad,List.length_nil];omega) (fun j' ac=>?_);simp only[go_sem];refine hK _ _ ⟨by simp only[go_sem,h1],by simp only[go_sem,E],j',by simp only[go_sem],?_⟩;rw[Z,fI,hn];show _=some (bK (es++opt (sC n.places m) ⟨6,rW m⟩));rw[gX (ab.trans M)];exact eF (l':=[⟨6,rW m⟩]) rfl
     ·simp only[go_sem];refine hK _ _ ⟨by simp only[go_sem,h1],by simp only[go_sem,E],j,by simp only[go_sem,A],?_⟩;rw[Z,fI,hn];show _=some (bK (es++opt (sC n.places m) ⟨6,rW m⟩));rw[gY (ab.trans M),Xak,O]
  ·have U:=bB hk U;subst U;simp only[go_sem,A];exact⟨_,rfl,by rw[O,<-X,<-T];rfl⟩
 ·simp only[go_sem];refine aX (r:=bK []) (by simp only[go_sem];rfl) ⟨rfl,rfl⟩ (by simp only[go_sem]) (by simp) (fun j' ac=>?_);simp only[go_sem];refine hK _ _ ⟨j',rfl,rfl,?_⟩;rw[gX (by exact M)];exact eF (l:=[]) (l':=[⟨4,⟨#[112,108,97,99,101,115]⟩⟩]) rfl
 ·simp only[go_sem];refine hK _ _ ⟨j,rfl,rfl,?_⟩;rw[gY (by exact M),aB];rfl
def Qj(l:List VType)(i:Nat):VType:=l.getD i ⟨ByteArray.empty,0,0,0,[],0,0,0,0,0,0,0,0,0⟩
def Ms{l:List VType}{k:Nat}{p:VType}(h:l[k]?=some p):Qj l k=p:=by simp[Qj,List.getD,h]
def mH(n:Network)(l:List VType)(k:Nat)(t:VType):List Int:=
 []++opt (!kW t.name) 5++opt (dC l k t.name) 6++opt (!inR t.count 0 10) 22++opt (!inR t.src 0 (n.places.length-1)|| !inR t.dst 0 (n.places.length-1)) 11
   ++ opt (!yZ t.cap (jP l)) 17++opt (!inR t.skills 0 1073741823) 18++opt (!inR t.start 0 t.close||decide (t.close>4096)) 15
   ++ opt (!inR t.drive 1 4096|| !inR t.rest 0 4096) 16++opt (!inR t.profile 0 7|| !inR t.fixed 0 100000|| !inR t.perMile 0 100|| !inR t.perTick 0 100) 2
def Z4(n:Network)(l:List VType)(k:Nat)(hk:k<l.length)(hl:l.length<=1048576)(hs:∀t∈l,t.name.size<=1048576/\t.cap.length<=1048576)(hp:n.places.length<=1048576):
  PC prog 56 [.agg (aY n),.sl (l.map aZ),int k] (.sl ((mH n l k (Qj l k)).map aQ)):=by
 refine pcb (fun t=>t == 8) func56 rfl rfl ?_;simp only[go_sem];obtain⟨t,ht⟩:=aM hk;have b1:=inB hk;have ak:=hs t (iV ht);rw[Ms ht];simp only[go_sem,b1,aC ht];refine aJ fun i J=>?_
 simp only[go_sem];refine aN (aB _ _ _) (by simp[jY]) ?_;simp only[go_sem];refine aJ fun j hj=>?_
 have am:=hY (r':=(⟨41,1,[]⟩:Row)) (aB _ _ _) hj;simp only[go_sem,am];refine aP (Ry _ ak.1) ?_;simp only[go_sem];refine oN (fun A H'=>A 1=.sl (l.map aZ)/\A 2=int k/\A 3=.rp (aY n) 0/\A 7=.op i 0 0/\H' i=some (lA t)/\∃j',A 8=.os j'/\j'≠i/\H' j'=some (kC [])) ⟨by simp only[go_sem],by simp only[go_sem],by simp only[go_sem],by simp only[go_sem],hY (aB _ _ _) hj,_,by simp only[go_sem],(aR (aB _ _ _) hj).symm,aB _ _ _⟩ ?_;rintro ρ H ⟨h1,I,F,E,J,j,M,O,U⟩;generalize af:([]:List Int)=es0 at U;have av:es0.length<=0:=by rw[<-af];exact Xag _
 refine bN (fun A H'=>A 1=.sl (l.map aZ)/\A 2=int k/\A 3=.rp (aY n) 0/\A 7=.op i 0 0/\H' i=some (lA t)/\∃j',A 8=.os j'/\j'≠i/\H' j'=some (kC (es0++opt (!kW t.name) 5))) ?_ fun K Y=>aA (fun X=>?_) (fun X=>?_)
 rotate_left
 ·simp only[go_sem,h1,I,F,E,M];refine aX U ⟨rfl,rfl⟩ (by simp only[go_sem]) (by simp only[Xaa,Xad,List.length_nil];omega) (fun j' T=>?_);simp only[go_sem];refine Y _ _ ⟨by simp only[go_sem,h1],by simp only[go_sem,I],by simp only[go_sem,F],by simp only[go_sem,E],cT J O T,j',by simp only[go_sem],(aR J T).symm,?_⟩;rw[gX (show(!kW t.name)=true from X)];exact fR (l':=[5]) rfl
 ·simp only[go_sem];refine Y _ _ ⟨by simp only[go_sem,h1],by simp only[go_sem,I],by simp only[go_sem,F],by simp only[go_sem,E],J,j,by simp only[go_sem,M],O,?_⟩;rw[gY (show(!kW t.name)=false from X),Xak,U]
 clear U h1 I F E M;rintro ρ H ⟨h1,I,F,E,J,j,M,O,U⟩;generalize ai:es0++opt (!kW t.name) (5:Int)=es1 at U;have au:es1.length<=es0.length+1:=by rw[<-ai,Xaf];have:=bW (!kW t.name) (5:Int);omega
 simp only[go_sem,h1,I,F,E,M,J];refine aP (J6 l k t.name (by omega) hl) ?_;simp only[go_sem];refine bN (fun A H'=>A 1=.sl (l.map aZ)/\A 2=int k/\A 3=.rp (aY n) 0/\A 7=.op i 0 0/\H' i=some (lA t)/\∃j',A 8=.os j'/\j'≠i/\H' j'=some (kC (es1++opt (dC l k t.name) 6))) ?_ fun K Y=>aA (fun X=>?_) (fun X=>?_)
 rotate_left
 ·simp only[go_sem,h1,I,F,E,M];refine aX U ⟨rfl,rfl⟩ (by simp only[go_sem]) (by simp only[Xaa,Xad,List.length_nil];omega) (fun j' T=>?_);simp only[go_sem];refine Y _ _ ⟨by simp only[go_sem,h1],by simp only[go_sem,I],by simp only[go_sem,F],by simp only[go_sem,E],cT J O T,j',by simp only[go_sem],(aR J T).symm,?_⟩;rw[gX (show(dC l k t.name)=true from X)];exact fR (l':=[6]) rfl
 ·simp only[go_sem];refine Y _ _ ⟨by simp only[go_sem,h1],by simp only[go_sem,I],by simp only[go_sem,F],by simp only[go_sem,E],J,j,by simp only[go_sem,M],O,?_⟩;rw[gY (show(dC l k t.name)=false from X),Xak,U]
 clear U h1 I F E M;rintro ρ H ⟨h1,I,F,E,J,j,M,O,U⟩;generalize ac:es1++opt (dC l k t.name) (6:Int)=es2 at U;have ao:es2.length<=es1.length+1:=by rw[<-ac,Xaf];have:=bW (dC l k t.name) (6:Int);omega
 simp only[go_sem,h1,I,F,E,M,J];refine aP (nH _ _ _) ?_;simp only[go_sem];refine bN (fun A H'=>A 1=.sl (l.map aZ)/\A 2=int k/\A 3=.rp (aY n) 0/\A 7=.op i 0 0/\H' i=some (lA t)/\∃j',A 8=.os j'/\j'≠i/\H' j'=some (kC (es2++opt (!inR t.count 0 10) 22))) ?_ fun K Y=>aA (fun X=>?_) (fun X=>?_)
 rotate_left
 ·simp only[go_sem,h1,I,F,E,M];refine aX U ⟨rfl,rfl⟩ (by simp only[go_sem]) (by simp only[Xaa,Xad,List.length_nil];omega) (fun j' T=>?_);simp only[go_sem];refine Y _ _ ⟨by simp only[go_sem,h1],by simp only[go_sem,I],by simp only[go_sem,F],by simp only[go_sem,E],cT J O T,j',by simp only[go_sem],(aR J T).symm,?_⟩;rw[gX (show(!inR t.count 0 10)=true from X)];exact fR (l':=[22]) rfl
 ·simp only[go_sem];refine Y _ _ ⟨by simp only[go_sem,h1],by simp only[go_sem,I],by simp only[go_sem,F],by simp only[go_sem,E],J,j,by simp only[go_sem,M],O,?_⟩;rw[gY (show(!inR t.count 0 10)=false from X),Xak,U]
 clear U h1 I F E M;rintro ρ H ⟨h1,I,F,E,J,j,M,O,U⟩;generalize ag:es2++opt (!inR t.count 0 10) (22:Int)=es3 at U;have ax:es3.length<=es2.length+1:=by rw[<-ag,Xaf];have:=bW (!inR t.count 0 10) (22:Int);omega
 simp only[go_sem,h1,I,F,E,M,J,nT (show n.places.length<=4611686018427387904 by omega)];refine aP (nH _ _ _) ?_;simp only[go_sem,h1,I,F,E,M,J,nT (show n.places.length<=4611686018427387904 by omega)];refine⟨_,fun _=>(nH _ _ _).q rfl,?_⟩;simp only[go_sem,h1,I,F,E,M,J];refine bN (fun A H'=>A 1=.sl (l.map aZ)/\A 2=int k/\A 3=.rp (aY n) 0/\A 7=.op i 0 0/\H' i=some (lA t)/\∃j',A 8=.os j'/\j'≠i/\H' j'=some (kC (es3++opt (!inR t.src 0 (n.places.length-1)|| !inR t.dst 0 (n.places.length-1)) 11))) ?_ fun K Y=>aA (fun X=>?_) (fun X=>?_)
 rotate_left
 ·simp only[go_sem,h1,I,F,E,M];refine aX U ⟨rfl,rfl⟩ (by simp only[go_sem]) (by simp only[Xaa,Xad,List.length_nil];omega) (fun j' T=>?_);simp only[go_sem];refine Y _ _ ⟨by simp only[go_sem,h1],by simp only[go_sem,I],by simp only[go_sem,F],by simp only[go_sem,E],cT J O T,j',by simp only[go_sem],(aR J T).symm,?_⟩;rw[gX (show(!inR t.src 0 (n.places.length-1)|| !inR t.dst 0 (n.places.length-1))=true from X)];exact fR (l':=[11]) rfl
 ·simp only[go_sem];refine Y _ _ ⟨by simp only[go_sem,h1],by simp only[go_sem,I],by simp only[go_sem,F],by simp only[go_sem,E],J,j,by simp only[go_sem,M],O,?_⟩;rw[gY (show(!inR t.src 0 (n.places.length-1)|| !inR t.dst 0 (n.places.length-1))=false from X),Xak,U]
 clear U h1 I F E M;rintro ρ H ⟨h1,I,F,E,J,j,M,O,U⟩;generalize ab:es3++opt (!inR t.src 0 (n.places.length-1)|| !inR t.dst 0 (n.places.length-1)) (11:Int)=es4 at U;have ap:es4.length<=es3.length+1:=by rw[<-ab,Xaf];have:=bW (!inR t.src 0 (n.places.length-1)|| !inR t.dst 0 (n.places.length-1)) (11:Int);omega
 simp only[go_sem,h1,I,F,E,M,J];refine dF (by rfl) (by kernel_rfl) ?_;simp only[go_sem,h1,I,F,E,M,J];refine⟨_,(J2 l).q rfl,?_⟩;simp only[go_sem,h1,I,F,E,M,J];refine⟨_,(ajU t.cap (jP l) ak.2).q rfl,?_⟩;simp only[go_sem,h1,I,F,E,M,J];refine bN (fun A H'=>A 1=.sl (l.map aZ)/\A 2=int k/\A 3=.rp (aY n) 0/\A 7=.op i 0 0/\H' i=some (lA t)/\∃j',A 8=.os j'/\j'≠i/\H' j'=some (kC (es4++opt (!yZ t.cap (jP l)) 17))) ?_ fun K Y=>aA (fun X=>?_) (fun X=>?_)
 rotate_left
 ·simp only[go_sem,h1,I,F,E,M];refine aX U ⟨rfl,rfl⟩ (by simp only[go_sem]) (by simp only[Xaa,Xad,List.length_nil];omega) (fun j' T=>?_);simp only[go_sem];refine Y _ _ ⟨by simp only[go_sem,h1],by simp only[go_sem,I],by simp only[go_sem,F],by simp only[go_sem,E],cT J O T,j',by simp only[go_sem],(aR J T).symm,?_⟩;rw[gX (show(!yZ t.cap (jP l))=true from X)];exact fR (l':=[17]) rfl
 ·simp only[go_sem];refine Y _ _ ⟨by simp only[go_sem,h1],by simp only[go_sem,I],by simp only[go_sem,F],by simp only[go_sem,E],J,j,by simp only[go_sem,M],O,?_⟩;rw[gY (show(!yZ t.cap (jP l))=false from X),Xak,U]
 clear U h1 I F E M;rintro ρ H ⟨h1,I,F,E,J,j,M,O,U⟩;generalize ae:es4++opt (!yZ t.cap (jP l)) (17:Int)=es5 at U;have aq:es5.length<=es4.length+1:=by rw[<-ae,Xaf];have:=bW (!yZ t.cap (jP l)) (17:Int);omega
 simp only[go_sem,h1,I,F,E,M,J];refine aP (nH _ _ _) ?_;simp only[go_sem,h1,I,F,E,M,J];refine bN (fun A H'=>A 1=.sl (l.map aZ)/\A 2=int k/\A 3=.rp (aY n) 0/\A 7=.op i 0 0/\H' i=some (lA t)/\∃j',A 8=.os j'/\j'≠i/\H' j'=some (kC (es5++opt (!inR t.skills 0 1073741823) 18))) ?_ fun K Y=>aA (fun X=>?_) (fun X=>?_)
 rotate_left
 ·simp only[go_sem,h1,I,F,E,M];refine aX U ⟨rfl,rfl⟩ (by simp only[go_sem]) (by simp only[Xaa,Xad,List.length_nil];omega) (fun j' T=>?_);simp only[go_sem];refine Y _ _ ⟨by simp only[go_sem,h1],by simp only[go_sem,I],by simp only[go_sem,F],by simp only[go_sem,E],cT J O T,j',by simp only[go_sem],(aR J T).symm,?_⟩;rw[gX (show(!inR t.skills 0 1073741823)=true from X)];exact fR (l':=[18]) rfl
 ·simp only[go_sem];refine Y _ _ ⟨by simp only[go_sem,h1],by simp only[go_sem,I],by simp only[go_sem,F],by simp only[go_sem,E],J,j,by simp only[go_sem,M],O,?_⟩;rw[gY (show(!inR t.skills 0 1073741823)=false from X),Xak,U]
 clear U h1 I F E M;rintro ρ H ⟨h1,I,F,E,J,j,M,O,U⟩;generalize aj:es5++opt (!inR t.skills 0 1073741823) (18:Int)=es6 at U;have aw:es6.length<=es5.length+1:=by rw[<-aj,Xaf];have:=bW (!inR t.skills 0 1073741823) (18:Int);omega
 simp only[go_sem,h1,I,F,E,M,J];refine aP (nH _ _ _) ?_;simp only[go_sem,h1,I,F,E,M,J];refine bN (fun A H'=>A 1=.sl (l.map aZ)/\A 2=int k/\A 3=.rp (aY n) 0/\A 7=.op i 0 0/\H' i=some (lA t)/\∃j',A 8=.os j'/\j'≠i/\H' j'=some (kC (es6++opt (!inR t.start 0 t.close||decide (t.close>4096)) 15))) ?_ fun K Y=>aA (fun X=>?_) (fun X=>?_)
 rotate_left
 ·simp only[go_sem,h1,I,F,E,M];refine aX U ⟨rfl,rfl⟩ (by simp only[go_sem]) (by simp only[Xaa,Xad,List.length_nil];omega) (fun j' T=>?_);simp only[go_sem];refine Y _ _ ⟨by simp only[go_sem,h1],by simp only[go_sem,I],by simp only[go_sem,F],by simp only[go_sem,E],cT J O T,j',by simp only[go_sem],(aR J T).symm,?_⟩;rw[gX (show(!inR t.start 0 t.close||decide (t.close>4096))=true from X)];exact fR (l':=[15]) rfl
 ·simp only[go_sem];refine Y _ _ ⟨by simp only[go_sem,h1],by simp only[go_sem,I],by simp only[go_sem,F],by simp only[go_sem,E],J,j,by simp only[go_sem,M],O,?_⟩;rw[gY (show(!inR t.start 0 t.close||decide (t.close>4096))=false from X),Xak,U]
 clear U h1 I F E M;rintro ρ H ⟨h1,I,F,E,J,j,M,O,U⟩;generalize Z:es6++opt (!inR t.start 0 t.close||decide (t.close>4096)) (15:Int)=es7 at U;have an:es7.length<=es6.length+1:=by rw[<-Z,Xaf];have:=bW (!inR t.start 0 t.close||decide (t.close>4096)) (15:Int);omega
 simp only[go_sem,h1,I,F,E,M,J];refine aP (nH _ _ _) ?_;simp only[go_sem,h1,I,F,E,M,J];refine⟨_,fun _=>(nH _ _ _).q rfl,?_⟩;simp only[go_sem,h1,I,F,E,M,J];refine bN (fun A H'=>A 1=.sl (l.map aZ)/\A 2=int k/\A 3=.rp (aY n) 0/\A 7=.op i 0 0/\H' i=some (lA t)/\∃j',A 8=.os j'/\j'≠i/\H' j'=some (kC (es7++opt (!inR t.drive 1 4096|| !inR t.rest 0 4096) 16))) ?_ fun K Y=>aA (fun X=>?_) (fun X=>?_)
 rotate_left
 ·simp only[go_sem,h1,I,F,E,M];refine aX U ⟨rfl,rfl⟩ (by simp only[go_sem]) (by simp only[Xaa,Xad,List.length_nil];omega) (fun j' T=>?_);simp only[go_sem];refine Y _ _ ⟨by simp only[go_sem,h1],by simp only[go_sem,I],by simp only[go_sem,F],by simp only[go_sem,E],cT J O T,j',by simp only[go_sem],(aR J T).symm,?_⟩;rw[gX (show(!inR t.drive 1 4096|| !inR t.rest 0 4096)=true from X)];exact fR (l':=[16]) rfl
 ·simp only[go_sem];refine Y _ _ ⟨by simp only[go_sem,h1],by simp only[go_sem,I],by simp only[go_sem,F],by simp only[go_sem,E],J,j,by simp only[go_sem,M],O,?_⟩;rw[gY (show(!inR t.drive 1 4096|| !inR t.rest 0 4096)=false from X),Xak,U]
 clear U h1 I F E M;rintro ρ H ⟨h1,I,F,E,J,j,M,O,U⟩;generalize aa:es7++opt (!inR t.drive 1 4096|| !inR t.rest 0 4096) (16:Int)=es8 at U;have ay:es8.length<=es7.length+1:=by rw[<-aa,Xaf];have:=bW (!inR t.drive 1 4096|| !inR t.rest 0 4096) (16:Int);omega
 simp only[go_sem,h1,I,F,E,M,J];refine aP (nH _ _ _) ?_;simp only[go_sem,h1,I,F,E,M,J];refine⟨_,fun _=>(nH _ _ _).q rfl,?_⟩;simp only[go_sem,h1,I,F,E,M,J];refine⟨_,fun _=>(nH _ _ _).q rfl,?_⟩;simp only[go_sem,h1,I,F,E,M,J];refine⟨_,fun _=>(nH _ _ _).q rfl,?_⟩;simp only[go_sem,h1,I,F,E,M,J];refine bN (fun A H'=>A 1=.sl (l.map aZ)/\A 2=int k/\A 3=.rp (aY n) 0/\A 7=.op i 0 0/\H' i=some (lA t)/\∃j',A 8=.os j'/\j'≠i/\H' j'=some (kC (es8++opt (!inR t.profile 0 7|| !inR t.fixed 0 100000|| !inR t.perMile 0 100|| !inR t.perTick 0 100) 2))) ?_ fun K Y=>aA (fun X=>?_) (fun X=>?_)
 rotate_left
 ·simp only[go_sem,h1,I,F,E,M];refine aX U ⟨rfl,rfl⟩ (by simp only[go_sem]) (by simp only[Xaa,Xad,List.length_nil];omega) (fun j' T=>?_);simp only[go_sem];refine Y _ _ ⟨by simp only[go_sem,h1],by simp only[go_sem,I],by simp only[go_sem,F],by simp only[go_sem,E],cT J O T,j',by simp only[go_sem],(aR J T).symm,?_⟩;rw[gX (show(!inR t.profile 0 7|| !inR t.fixed 0 100000|| !inR t.perMile 0 100|| !inR t.perTick 0 100)=true from X)];exact fR (l':=[2]) rfl
 ·simp only[go_sem];refine Y _ _ ⟨by simp only[go_sem,h1],by simp only[go_sem,I],by simp only[go_sem,F],by simp only[go_sem,E],J,j,by simp only[go_sem,M],O,?_⟩;rw[gY (show(!inR t.profile 0 7|| !inR t.fixed 0 100000|| !inR t.perMile 0 100|| !inR t.perTick 0 100)=false from X),Xak,U]
 clear U h1 I F E M;rintro ρ H ⟨h1,I,F,E,J,j,M,O,U⟩;generalize ah:es8++opt (!inR t.profile 0 7|| !inR t.fixed 0 100000|| !inR t.perMile 0 100|| !inR t.perTick 0 100) (2:Int)=es9 at U;have ar:es9.length<=es8.length+1:=by rw[<-ah,Xaf];have:=bW (!inR t.profile 0 7|| !inR t.fixed 0 100000|| !inR t.perMile 0 100|| !inR t.perTick 0 100) (2:Int);omega
 simp only[go_sem,h1,I,F,E,M,J];have al:mH n l k t=es9:=by unfold mH;rw[af,ai,ac,ag,ab,ae,aj,Z,aa,ah]
 rw[al];exact .row _ _ _ U (ConvE.refl _)
def iC(n:Network)(l:List VType)(k:Nat):List Fault:=(mH n l k (Qj l k)).map fun e=>⟨e,iX k⟩
def tU(n:Network)(l:List VType):List Fault:=opt (!inR l.length 1 6) ⟨4,ByteArray.empty⟩++(List.range l.length).flatMap (iC n l)
def xF(n:Network)(l:List VType)(k:Nat)(t:VType):(mH n l k t).length<=9:=by
 unfold mH;simp only[Xaf,List.length_nil];have h:=fun(b:Bool) (x:Int)=>bW b x
 have h1:=h (!kW t.name) 5;have O:=h (dC l k t.name) 6;have J:=h (!inR t.count 0 10) 22;have A:=h (!inR t.src 0 (n.places.length-1)|| !inR t.dst 0 (n.places.length-1)) 11;have I:=h (!yZ t.cap (jP l)) 17;have F:=h (!inR t.skills 0 1073741823) 18;have E:=h (!inR t.start 0 t.close||decide (t.close>4096)) 15;have M:=h (!inR t.drive 1 4096|| !inR t.rest 0 4096) 16;have T:=h (!inR t.profile 0 7|| !inR t.fixed 0 100000|| !inR t.perMile 0 100|| !inR t.perTick 0 100) 2;omega
def CK{α A:Type}{f:α->A}{l:List α}{k:Nat}{x:α}(h:l[k]?=some x):(l.take (k+1)).map f=(l.take k).map f++[f x]:=by rw[bE h,Xan];rfl
def abX(n:Network)(l:List VType)(hl:l.length<=1048576)(hs:∀t∈l,t.name.size<=1048576/\t.cap.length<=1048576)(hp:n.places.length<=1048576):
  NC prog 35 [.agg (aY n),.sl (l.map aZ)] (bK (tU n l)) .os:=by
 refine ncb (fun t=>t == 5) func35 rfl rfl ?_;simp only[go_sem];refine aJ fun j hj=>?_
 simp only[go_sem];refine aP (nH _ _ _) ?_;simp only[go_sem];refine oN (fun I H'=>I 1=.sl (l.map aZ)/\I 2=.rp (aY n) 0/\∃j',I 5=.os j'/\H' j'=some (bK [])) ⟨by simp only[go_sem],by simp only[go_sem],_,by simp only[go_sem],aB _ _ _⟩ ?_;rintro ρ H ⟨h1,A,j,J,F⟩;generalize U:([]:List Fault)=es0 at F;have ah:es0.length<=0:=by rw[<-U];exact Xag _
 refine bN (fun I H'=>I 1=.sl (l.map aZ)/\I 2=.rp (aY n) 0/\∃j',I 5=.os j'/\H' j'=some (bK (es0++opt (!inR l.length 1 6) ⟨4,ByteArray.empty⟩))) ?_ fun K hK=>aA (fun hb=>?_) (fun hb=>?_)
 rotate_left
 ·simp only[go_sem,h1,A,J];refine aX F ⟨rfl,rfl⟩ (by simp only[go_sem]) (by simp only[Xaa,Xad,List.length_nil];omega) (fun j' ae=>?_);simp only[go_sem];refine hK _ _ ⟨by simp only[go_sem,h1],by simp only[go_sem,A],j',by simp only[go_sem],?_⟩;rw[gX (show(!inR l.length 1 6)=true from hb)];exact eF (l':=[⟨4,ByteArray.empty⟩]) rfl
 ·simp only[go_sem];refine hK _ _ ⟨by simp only[go_sem,h1],by simp only[go_sem,A],j,by simp only[go_sem,J],?_⟩;rw[gY (show(!inR l.length 1 6)=false from hb),Xak,F]
 clear F h1 A J;rintro ρ H ⟨h1,A,j,J,F⟩;generalize X:es0++opt (!inR l.length 1 6) (⟨4,ByteArray.empty⟩:Fault)=es1 at F;have ag:es1.length<=es0.length+1:=by rw[<-X,Xaf];have:=bW (!inR l.length 1 6) (⟨4,ByteArray.empty⟩:Fault);omega
 simp only[go_sem,h1,A];refine⟨fun ρ H=>∃k:Nat,k<=l.length/\ρ 1=.sl (l.map aZ)/\ρ 2=.rp (aY n) 0/\ρ 6=int k/\∃j,ρ 5=.os j/\H j=some (bK (es1++(List.range k).flatMap (iC n l))),fun ρ _=>l.length-aT (ρ 6),⟨0,Xab _,by simp only[go_sem,h1],by simp only[go_sem,A],by simp only[go_sem];rfl,j,by simp only[go_sem,J],by simpa using F⟩,?_⟩;clear F h1 A J hj;rintro ρ H ⟨k,hk,h1,A,O,j,J,F⟩;generalize Z:es1++(List.range k).flatMap (iC n l)=es at F;have ai:es.length<=9*k+1:=by have:=eC (f:=iC n l) (c:=9) (fun x=>by unfold iC;rw[Xaa];exact xF _ _ _ _) (List.range k);rw[<-Z,Xaf];rw[Xas]at this;omega
 simp only[go_sem,h1,A,O,J];refine aA (fun T=>?_) (fun Y=>?_)
 ·have T:=bA T;have ab:k<=4611686018427387904:=by omega
  have ac:es1++(List.range (k+1)).flatMap (iC n l)=es++iC n l k:=by rw[gM,<-Xar,Z]
  simp only[go_sem,h1,A,O];refine aP (Z4 n l k T hl hs hp) ?_;simp only[go_sem];have af:=xF n l k (Qj l k);have aa:iC n l k=(mH n l k (Qj l k)).map fun e=>⟨e,iX k⟩:=rfl
  generalize mH n l k (Qj l k)=er at af aa;refine⟨fun ρ H=>∃m:Nat,m<=er.length/\ρ 1=.sl (l.map aZ)/\ρ 2=.rp (aY n) 0/\ρ 6=int k/\ρ 7=.sl (er.map aQ)/\ρ 8=int m/\∃j,ρ 5=.os j/\H j=some (bK (es++(er.take m).map fun e=>⟨e,iX k⟩)),fun ρ _=>er.length-aT (ρ 8),⟨0,Xab _,by simp only[go_sem,h1],by simp only[go_sem,A],by simp only[go_sem,O],by simp only[go_sem],by simp only[go_sem];rfl,j,by simp only[go_sem,J],by simpa using F⟩,?_⟩;clear F h1 A J O;rintro ρ H ⟨m,hm,h1,A,O,h7,h8,j,J,F⟩;simp only[go_sem,h1,A,O,J,h7,h8];refine aA (fun E=>?_) (fun M=>?_)
  ·have E:=bA E;obtain⟨e,he⟩:=aM E;have b2:=inB E;simp only[go_sem];refine E7 (by kernel_rfl) ?_;simp only[go_sem,h1,A,O,J,h7,h8,b2,aC he];refine⟨_,(rF _ (by omega)).q rfl,?_⟩;simp only[go_sem];refine aX F ⟨rfl,rfl⟩ (by simp only[go_sem]) (by simp only[Xaa,Xaf,Xal,Xad,List.length_nil];omega) (fun j' ae=>?_);simp only[go_sem,h1,A,O,h7,h8,aV m];refine⟨⟨m+1,E,rfl,j',rfl,?_⟩,by simp only[aF];omega⟩;rw[CK he,<-Xar];exact eF (l':=[⟨e,iX k⟩]) rfl
  ·have M:=bB hm M;subst M;simp only[go_sem,h1,A,O,J,mX ab];refine⟨⟨k+1,T,rfl,j,rfl,?_⟩,by simp only[aF];omega⟩;rw[ac,F,aa,Xae]
 ·have Y:=bB hk Y;subst Y;simp only[go_sem,J];exact⟨_,rfl,by rw[F,<-Z,<-X,<-U];rfl⟩
def Bm(l:List Order)(k:Nat)(s:ByteArray):Bool:=(l.take k).any fun t=>t.name.toList == s.toList
def kN(P:Nat)(d T:Int)(l:List Order)(k:Nat)(o:Order):List Int:=
 []++opt (!kW o.name) 5++opt (Bm l k o.name) 6++opt (!fE o.load d) 17++opt (!inR o.pick.place (-1) ((P:Int)-1)|| !inR o.drop.place (-1) ((P:Int)-1)) 11++opt (o.pick.place == -1&&o.drop.place == -1) 19++opt (fM o.pick != 0||fM o.drop != 0) 14++opt (!inR o.skills 0 1073741823) 18++opt (!inR o.penalty (-1) 1000000|| !inR o.split 1 4||decide (o.split>1)&&(o.pick.place != -1&&o.drop.place != -1)||decide (o.last< -1)||decide (o.last>=T)||decide (o.now< -1)||decide (o.now>=T)) 2
def ZL(P:Nat)(d T:Int)(l:List Order)(k:Nat)(o:Order)(ho:l[k]?=some o)(hP:P<=1048576)(hl:l.length<=1048576)(hs:∀t∈l,t.name.size<=1048576/\t.load.length<=1048576):
  PC prog 58 [int P,int d,int T,.sl (l.map aW),int k] (.sl ((kN P d T l k o).map aQ)):=by
 refine pcb (fun t=>t == 11) func58 rfl rfl ?_;simp only[go_sem];have hk:k<l.length:=by
  rcases Xbb k l.length with h|h
  ·exact h
  ·rw[List.getElem?_eq_none h]at ho;simp at ho
 have b1:=inB hk;have an:=hs o (iV ho);refine aJ fun j hj=>?_
 simp only[go_sem,b1,aC ho];refine aJ fun i U=>?_
 simp only[go_sem];refine aN (aB _ _ _) (by simp[kF]) ?_;simp only[go_sem];refine aP (Ry _ an.1) ?_;simp only[go_sem];have O:j≠i:=aR (aB _ _ _) U;refine oN (fun A H'=>A 0=int P/\A 1=int d/\A 2=int T/\A 3=.sl (l.map aW)/\A 4=int k/\A 12=.op i 0 0/\H' i=some (lJ o)/\∃j',A 11=.os j'/\j'≠i/\H' j'=some (kC []))
  ⟨by simp only[go_sem],by simp only[go_sem],by simp only[go_sem],by simp only[go_sem],by simp only[go_sem],by simp only[go_sem],aB _ _ _,j,by simp only[go_sem],O,by rw[aD _ _ _ _ O,aD _ _ _ _ O,aB];rfl⟩ ?_
 clear U hj O;rintro ρ H ⟨h0,h1,M,J,I,E,U,j,F,O,Y⟩;generalize ai:([]:List Int)=es0 at Y;have aw:es0.length<=0:=by rw[<-ai];exact Xag _
 refine bN (fun A H'=>A 0=int P/\A 1=int d/\A 2=int T/\A 3=.sl (l.map aW)/\A 4=int k/\A 12=.op i 0 0/\H' i=some (lJ o)/\∃j',A 11=.os j'/\j'≠i/\H' j'=some (kC (es0++opt (!kW o.name) 5))) ?_ fun K hK=>aA (fun Z=>?_) (fun Z=>?_)
 rotate_left
 ·simp only[go_sem,h0,h1,M,J,I,E,F];refine aX Y ⟨rfl,rfl⟩ (by simp only[go_sem]) (by simp only[Xaa,Xad,List.length_nil];omega) (fun j' X=>?_);simp only[go_sem];refine hK _ _ ⟨by simp only[go_sem,h0],by simp only[go_sem,h1],by simp only[go_sem,M],by simp only[go_sem,J],by simp only[go_sem,I],by simp only[go_sem,E],cT U O X,j',by simp only[go_sem],(aR U X).symm,?_⟩;rw[gX (show(!kW o.name)=true from Z)];exact fR (l':=[5]) rfl
 ·simp only[go_sem];refine hK _ _ ⟨by simp only[go_sem,h0],by simp only[go_sem,h1],by simp only[go_sem,M],by simp only[go_sem,J],by simp only[go_sem,I],by simp only[go_sem,E],U,j,by simp only[go_sem,F],O,?_⟩;rw[gY (show(!kW o.name)=false from Z),Xak,Y]
 clear Y h0 h1 M J I E F;rintro ρ H ⟨h0,h1,M,J,I,E,U,j,F,O,Y⟩;generalize ak:es0++opt (!kW o.name) (5:Int)=es1 at Y;have av:es1.length<=es0.length+1:=by rw[<-ak,Xaf];have:=bW (!kW o.name) (5:Int);omega
 simp only[go_sem,h0,h1,M,J,I,E,F,U];refine FJ (fun A H'=>A 0=int P/\A 1=int d/\A 2=int T/\A 3=.sl (l.map aW)/\A 4=int k/\A 12=.op i 0 0/\H' i=some (lJ o)/\∃j',A 11=.os j'/\j'≠i/\H' j'=some (kC (es1++opt (Bm l k o.name) 6))) ?_ fun Q hQ _=>?_
 rotate_left
 ·refine ⟨fun A H' => ∃ m : Nat, m <= k /\ A 0 = int P /\ A 1 = int d /\ A 2 = int T /\ A 3 = .sl (l.map aW) /\ A 4 = int k /\ A 12 = .op i 0 0 /\ A 11 = .os j /\ A 13 = int m /\ H' = H /\ ∀ t ∈ l.take m, (t.name.toList == o.name.toList) = false, fun ρ _ => k - aT (ρ 13),
   ⟨0,Xab _,by simp only[go_sem,h0],by simp only[go_sem,h1],by simp only[go_sem,M],by simp only[go_sem,J],by simp only[go_sem,I],by simp only[go_sem,E],by simp only[go_sem,F],by simp only[go_sem];rfl,rfl,by simp⟩,?_⟩
  clear h0 h1 M J I E F;rintro ρ H' ⟨m,hm,h0,h1,M,J,I,E,F,aa,rfl,hn⟩;simp only[go_sem,h0,h1,M,J,I,E,F,aa];refine aA (fun ab=>?_) (fun am=>?_)
  ·have ab:=bA ab;obtain⟨t,ht⟩:=aM (show m<l.length by omega);have b2:=inB (show m<l.length by omega);simp only[go_sem];refine dF (by rfl) (by kernel_rfl) ?_;simp only[go_sem,h0,h1,M,J,I,E,F,aa,U,b2,aC ht];refine aA (fun Z=>?_) (fun Z=>?_)
   ·simp only[go_sem,h0,h1,M,J,I,E,F,aa];refine aX Y ⟨rfl,rfl⟩ (by simp only[go_sem]) (by simp only[Xaa,Xad,List.length_nil];omega) (fun j' X=>?_);simp only[go_sem];refine hQ _ _ ⟨by simp only[go_sem,h0],by simp only[go_sem,h1],by simp only[go_sem,M],by simp only[go_sem,J],by simp only[go_sem,I],by simp only[go_sem,E],cT U O X,j',by simp only[go_sem],(aR U X).symm,?_⟩;rw[gX (show Bm l k o.name=true from Xao.2 ⟨t,Xac (i:=m) (by rw[List.getElem?_take];simp[ab,ht]),Z⟩)];exact fR (l':=[6]) rfl
   ·simp only[go_sem,h0,h1,M,J,I,E,F,aa,aV m];exact⟨⟨m+1,ab,rfl,mG ht hn Z⟩,by simp only[aF];omega⟩
  ·have am:=bB hm am;subst am;simp only[go_sem];refine hQ _ _ ⟨by simp only[go_sem,h0],by simp only[go_sem,h1],by simp only[go_sem,M],by simp only[go_sem,J],by simp only[go_sem,I],by simp only[go_sem,E],U,j,by simp only[go_sem,F],O,?_⟩;rw[gY (show Bm l m o.name=false from Xax.2 fun t ht=>by simp[hn t ht]),Xak,Y]
 clear Y h0 h1 M J I E F;rintro ρ H ⟨h0,h1,M,J,I,E,U,j,F,O,Y⟩;generalize ag:es1++opt (Bm l k o.name) (6:Int)=es2 at Y;have aq:es2.length<=es1.length+1:=by rw[<-ag,Xaf];have:=bW (Bm l k o.name) (6:Int);omega
 simp only[go_sem,h0,h1,M,J,I,E,F,U];refine aP (Cj _ _ an.2) ?_;simp only[go_sem,h0,h1,M,J,I,E,F,U];refine bN (fun A H'=>A 0=int P/\A 1=int d/\A 2=int T/\A 3=.sl (l.map aW)/\A 4=int k/\A 12=.op i 0 0/\H' i=some (lJ o)/\∃j',A 11=.os j'/\j'≠i/\H' j'=some (kC (es2++opt (!fE o.load d) 17))) ?_ fun K hK=>aA (fun Z=>?_) (fun Z=>?_)
 rotate_left
 ·simp only[go_sem,h0,h1,M,J,I,E,F];refine aX Y ⟨rfl,rfl⟩ (by simp only[go_sem]) (by simp only[Xaa,Xad,List.length_nil];omega) (fun j' X=>?_);simp only[go_sem];refine hK _ _ ⟨by simp only[go_sem,h0],by simp only[go_sem,h1],by simp only[go_sem,M],by simp only[go_sem,J],by simp only[go_sem,I],by simp only[go_sem,E],cT U O X,j',by simp only[go_sem],(aR U X).symm,?_⟩;rw[gX (show(!fE o.load d)=true from Z)];exact fR (l':=[17]) rfl
 ·simp only[go_sem];refine hK _ _ ⟨by simp only[go_sem,h0],by simp only[go_sem,h1],by simp only[go_sem,M],by simp only[go_sem,J],by simp only[go_sem,I],by simp only[go_sem,E],U,j,by simp only[go_sem,F],O,?_⟩;rw[gY (show(!fE o.load d)=false from Z),Xak,Y]
 clear Y h0 h1 M J I E F;rintro ρ H ⟨h0,h1,M,J,I,E,U,j,F,O,Y⟩;generalize aj:es2++opt (!fE o.load d) (17:Int)=es3 at Y;have ay:es3.length<=es2.length+1:=by rw[<-aj,Xaf];have:=bW (!fE o.load d) (17:Int);omega
 simp only[go_sem,h0,h1,M,J,I,E,F,U,nT (show P<=4611686018427387904 by omega)];refine aP (F6 _ _ _) ?_;simp only[go_sem,h0,h1,M,J,I,E,F,U,nT (show P<=4611686018427387904 by omega)];refine⟨_,fun _=>(F6 _ _ _).q rfl,?_⟩;simp only[go_sem,h0,h1,M,J,I,E,F,U,nT (show P<=4611686018427387904 by omega)];refine bN (fun A H'=>A 0=int P/\A 1=int d/\A 2=int T/\A 3=.sl (l.map aW)/\A 4=int k/\A 12=.op i 0 0/\H' i=some (lJ o)/\∃j',A 11=.os j'/\j'≠i/\H' j'=some (kC (es3++opt (!inR o.pick.place (-1) ((P:Int)-1)|| !inR o.drop.place (-1) ((P:Int)-1)) 11))) ?_ fun K hK=>aA (fun Z=>?_) (fun Z=>?_)
 rotate_left
 ·simp only[go_sem,h0,h1,M,J,I,E,F];refine aX Y ⟨rfl,rfl⟩ (by simp only[go_sem]) (by simp only[Xaa,Xad,List.length_nil];omega) (fun j' X=>?_);simp only[go_sem];refine hK _ _ ⟨by simp only[go_sem,h0],by simp only[go_sem,h1],by simp only[go_sem,M],by simp only[go_sem,J],by simp only[go_sem,I],by simp only[go_sem,E],cT U O X,j',by simp only[go_sem],(aR U X).symm,?_⟩;rw[gX (show(!inR o.pick.place (-1) ((P:Int)-1)|| !inR o.drop.place (-1) ((P:Int)-1))=true from Z)];exact fR (l':=[11]) rfl
 ·simp only[go_sem];refine hK _ _ ⟨by simp only[go_sem,h0],by simp only[go_sem,h1],by simp only[go_sem,M],by simp only[go_sem,J],by simp only[go_sem,I],by simp only[go_sem,E],U,j,by simp only[go_sem,F],O,?_⟩;rw[gY (show(!inR o.pick.place (-1) ((P:Int)-1)|| !inR o.drop.place (-1) ((P:Int)-1))=false from Z),Xak,Y]
 clear Y h0 h1 M J I E F;rintro ρ H ⟨h0,h1,M,J,I,E,U,j,F,O,Y⟩;generalize af:es3++opt (!inR o.pick.place (-1) ((P:Int)-1)|| !inR o.drop.place (-1) ((P:Int)-1)) (11:Int)=es4 at Y;have ar:es4.length<=es3.length+1:=by rw[<-af,Xaf];have:=bW (!inR o.pick.place (-1) ((P:Int)-1)|| !inR o.drop.place (-1) ((P:Int)-1)) (11:Int);omega
 simp only[go_sem,h0,h1,M,J,I,E,F,U];refine bN (fun A H'=>A 0=int P/\A 1=int d/\A 2=int T/\A 3=.sl (l.map aW)/\A 4=int k/\A 12=.op i 0 0/\H' i=some (lJ o)/\∃j',A 11=.os j'/\j'≠i/\H' j'=some (kC (es4++opt (o.pick.place == -1&&o.drop.place == -1) 19))) ?_ fun K hK=>aA (fun Z=>?_) (fun Z=>?_)
 rotate_left
 ·simp only[go_sem,h0,h1,M,J,I,E,F];refine aX Y ⟨rfl,rfl⟩ (by simp only[go_sem]) (by simp only[Xaa,Xad,List.length_nil];omega) (fun j' X=>?_);simp only[go_sem];refine hK _ _ ⟨by simp only[go_sem,h0],by simp only[go_sem,h1],by simp only[go_sem,M],by simp only[go_sem,J],by simp only[go_sem,I],by simp only[go_sem,E],cT U O X,j',by simp only[go_sem],(aR U X).symm,?_⟩;rw[gX (show(o.pick.place == -1&&o.drop.place == -1)=true from Z)];exact fR (l':=[19]) rfl
 ·simp only[go_sem];refine hK _ _ ⟨by simp only[go_sem,h0],by simp only[go_sem,h1],by simp only[go_sem,M],by simp only[go_sem,J],by simp only[go_sem,I],by simp only[go_sem,E],U,j,by simp only[go_sem,F],O,?_⟩;rw[gY (show(o.pick.place == -1&&o.drop.place == -1)=false from Z),Xak,Y]
 clear Y h0 h1 M J I E F;rintro ρ H ⟨h0,h1,M,J,I,E,U,j,F,O,Y⟩;generalize ah:es4++opt (o.pick.place == -1&&o.drop.place == -1) (19:Int)=es5 at Y;have au:es5.length<=es4.length+1:=by rw[<-ah,Xaf];have:=bW (o.pick.place == -1&&o.drop.place == -1) (19:Int);omega
 simp only[go_sem,h0,h1,M,J,I,E,F,U];refine aP (LA _) ?_;simp only[go_sem,h0,h1,M,J,I,E,F,U];refine⟨_,fun _=>(LA _).q rfl,?_⟩;simp only[go_sem,h0,h1,M,J,I,E,F,U];refine bN (fun A H'=>A 0=int P/\A 1=int d/\A 2=int T/\A 3=.sl (l.map aW)/\A 4=int k/\A 12=.op i 0 0/\H' i=some (lJ o)/\∃j',A 11=.os j'/\j'≠i/\H' j'=some (kC (es5++opt (fM o.pick != 0||fM o.drop != 0) 14))) ?_ fun K hK=>aA (fun Z=>?_) (fun Z=>?_)
 rotate_left
 ·simp only[go_sem,h0,h1,M,J,I,E,F];refine aX Y ⟨rfl,rfl⟩ (by simp only[go_sem]) (by simp only[Xaa,Xad,List.length_nil];omega) (fun j' X=>?_);simp only[go_sem];refine hK _ _ ⟨by simp only[go_sem,h0],by simp only[go_sem,h1],by simp only[go_sem,M],by simp only[go_sem,J],by simp only[go_sem,I],by simp only[go_sem,E],cT U O X,j',by simp only[go_sem],(aR U X).symm,?_⟩;rw[gX (show(fM o.pick != 0||fM o.drop != 0)=true from Z)];exact fR (l':=[14]) rfl
 ·simp only[go_sem];refine hK _ _ ⟨by simp only[go_sem,h0],by simp only[go_sem,h1],by simp only[go_sem,M],by simp only[go_sem,J],by simp only[go_sem,I],by simp only[go_sem,E],U,j,by simp only[go_sem,F],O,?_⟩;rw[gY (show(fM o.pick != 0||fM o.drop != 0)=false from Z),Xak,Y]
 clear Y h0 h1 M J I E F;rintro ρ H ⟨h0,h1,M,J,I,E,U,j,F,O,Y⟩;generalize al:es5++opt (fM o.pick != 0||fM o.drop != 0) (14:Int)=es6 at Y;have ax:es6.length<=es5.length+1:=by rw[<-al,Xaf];have:=bW (fM o.pick != 0||fM o.drop != 0) (14:Int);omega
 simp only[go_sem,h0,h1,M,J,I,E,F,U];refine aP (F6 _ _ _) ?_;simp only[go_sem,h0,h1,M,J,I,E,F,U,nT (show P<=4611686018427387904 by omega)];refine bN (fun A H'=>A 0=int P/\A 1=int d/\A 2=int T/\A 3=.sl (l.map aW)/\A 4=int k/\A 12=.op i 0 0/\H' i=some (lJ o)/\∃j',A 11=.os j'/\j'≠i/\H' j'=some (kC (es6++opt (!inR o.skills 0 1073741823) 18))) ?_ fun K hK=>aA (fun Z=>?_) (fun Z=>?_)
 rotate_left
 ·simp only[go_sem,h0,h1,M,J,I,E,F];refine aX Y ⟨rfl,rfl⟩ (by simp only[go_sem]) (by simp only[Xaa,Xad,List.length_nil];omega) (fun j' X=>?_);simp only[go_sem];refine hK _ _ ⟨by simp only[go_sem,h0],by simp only[go_sem,h1],by simp only[go_sem,M],by simp only[go_sem,J],by simp only[go_sem,I],by simp only[go_sem,E],cT U O X,j',by simp only[go_sem],(aR U X).symm,?_⟩;rw[gX (show(!inR o.skills 0 1073741823)=true from Z)];exact fR (l':=[18]) rfl
 ·simp only[go_sem];refine hK _ _ ⟨by simp only[go_sem,h0],by simp only[go_sem,h1],by simp only[go_sem,M],by simp only[go_sem,J],by simp only[go_sem,I],by simp only[go_sem,E],U,j,by simp only[go_sem,F],O,?_⟩;rw[gY (show(!inR o.skills 0 1073741823)=false from Z),Xak,Y]
 clear Y h0 h1 M J I E F;rintro ρ H ⟨h0,h1,M,J,I,E,U,j,F,O,Y⟩;generalize ac:es6++opt (!inR o.skills 0 1073741823) (18:Int)=es7 at Y;have ap:es7.length<=es6.length+1:=by rw[<-ac,Xaf];have:=bW (!inR o.skills 0 1073741823) (18:Int);omega
 simp only[go_sem,h0,h1,M,J,I,E,F,U];refine aP (F6 _ _ _) ?_;simp only[go_sem,h0,h1,M,J,I,E,F,U,nT (show P<=4611686018427387904 by omega)];refine⟨_,fun _=>(F6 _ _ _).q rfl,?_⟩;simp only[go_sem,h0,h1,M,J,I,E,F,U,nT (show P<=4611686018427387904 by omega)];refine bN (fun A H'=>A 0=int P/\A 1=int d/\A 2=int T/\A 3=.sl (l.map aW)/\A 4=int k/\A 12=.op i 0 0/\H' i=some (lJ o)/\∃j',A 11=.os j'/\j'≠i/\H' j'=some (kC (es7++opt (!inR o.penalty (-1) 1000000|| !inR o.split 1 4||decide (o.split>1)&&(o.pick.place != -1&&o.drop.place != -1)||decide (o.last< -1)||decide (o.last>=T)||decide (o.now< -1)||decide (o.now>=T)) 2))) ?_ fun K hK=>aA (fun Z=>?_) (fun Z=>?_)
 rotate_left
 ·simp only[go_sem,h0,h1,M,J,I,E,F];refine aX Y ⟨rfl,rfl⟩ (by simp only[go_sem]) (by simp only[Xaa,Xad,List.length_nil];omega) (fun j' X=>?_);simp only[go_sem];refine hK _ _ ⟨by simp only[go_sem,h0],by simp only[go_sem,h1],by simp only[go_sem,M],by simp only[go_sem,J],by simp only[go_sem,I],by simp only[go_sem,E],cT U O X,j',by simp only[go_sem],(aR U X).symm,?_⟩;rw[gX (show(!inR o.penalty (-1) 1000000|| !inR o.split 1 4||decide (o.split>1)&&(o.pick.place != -1&&o.drop.place != -1)||decide (o.last< -1)||decide (o.last>=T)||decide (o.now< -1)||decide (o.now>=T))=true from Z)];exact fR (l':=[2]) rfl
 ·simp only[go_sem];refine hK _ _ ⟨by simp only[go_sem,h0],by simp only[go_sem,h1],by simp only[go_sem,M],by simp only[go_sem,J],by simp only[go_sem,I],by simp only[go_sem,E],U,j,by simp only[go_sem,F],O,?_⟩;rw[gY (show(!inR o.penalty (-1) 1000000|| !inR o.split 1 4||decide (o.split>1)&&(o.pick.place != -1&&o.drop.place != -1)||decide (o.last< -1)||decide (o.last>=T)||decide (o.now< -1)||decide (o.now>=T))=false from Z),Xak,Y]
 clear Y h0 h1 M J I E F;rintro ρ H ⟨h0,h1,M,J,I,E,U,j,F,O,Y⟩;generalize ae:es7++opt (!inR o.penalty (-1) 1000000|| !inR o.split 1 4||decide (o.split>1)&&(o.pick.place != -1&&o.drop.place != -1)||decide (o.last< -1)||decide (o.last>=T)||decide (o.now< -1)||decide (o.now>=T)) (2:Int)=es8 at Y;have az:es8.length<=es7.length+1:=by rw[<-ae,Xaf];have:=bW (!inR o.penalty (-1) 1000000|| !inR o.split 1 4||decide (o.split>1)&&(o.pick.place != -1&&o.drop.place != -1)||decide (o.last< -1)||decide (o.last>=T)||decide (o.now< -1)||decide (o.now>=T)) (2:Int);omega
 simp only[go_sem,h0,h1,M,J,I,E,F,U];have ao:kN P d T l k o=es8:=by unfold kN;rw[ai,ak,ag,aj,af,ah,al,ac,ae]
 rw[ao];exact .row _ _ _ Y (ConvE.refl _)
def kT(w:ByteArray)(f:Fault):Fault:=⟨f.err,match f.at_.toList == (⟨#[]⟩:ByteArray).toList with|true=>w|false=>w++⟨#[32]⟩++f.at_⟩
def Ff(w:ByteArray)(l:List Fault)(hw:w.size<=1048576)(hl:l.length<=5000000000000)(hs:∀f∈l,f.at_.size<=268435456):
  NC prog 33 [str w,.sl (l.map fO)] (bK (l.map (kT w))) .os:=by
 refine ncb (fun t=>t == 5) func33 rfl rfl ?_;simp only[go_sem];refine aJ fun j hj=>?_
 simp only[go_sem];refine⟨fun ρ H=>∃k:Nat,k<=l.length/\ρ 0=str w/\ρ 1=.sl (l.map fO)/\ρ 6=int k/\∃j,ρ 5=.os j/\H j=some (bK ((l.take k).map (kT w))),fun ρ _=>l.length-aT (ρ 6),⟨0,Xab _,rfl,rfl,rfl,j,rfl,aB _ _ _⟩,?_⟩;clear hj;rintro ρ H ⟨k,hk,h0,h1,F,j,I,X⟩;simp only[go_sem,h0,h1,F,I];refine aA (fun A=>?_) (fun J=>?_)
 ·have A:=bA A;obtain⟨f,M⟩:=aM A;have O:=inB A;have Z:=hs f (iV M);simp only[go_sem,h0,h1,F,O,aC M];refine bN (fun E H'=>E 0=str w/\E 1=.sl (l.map fO)/\E 6=int k/\E 5=.os j/\E 7=str (kT w f).at_/\H'=H) ?_ fun K Y=>aA (fun U=>?_) (fun U=>?_)
  ·clear h0 h1 F I;rintro ρ H ⟨h0,h1,F,I,h7,rfl⟩;simp only[go_sem,h0,h1,F,I,h7,O,aC M];refine aX X ⟨rfl,rfl⟩ (by simp only[go_sem]) (by simp only[Xaa,Xal,Xad,List.length_nil];omega) (fun j' aa=>?_);simp only[go_sem,h0,h1,F,aV k];refine⟨⟨k+1,A,rfl,j',rfl,?_⟩,by simp only[aF];omega⟩;rw[CK M];exact eF (l':=[kT w f]) rfl
  ·simp only[go_sem,h0,h1,F,O,aC M];have ab:(#[32]:Array UInt8).size=1:=rfl;refine⟨by rw[vR];omega,by rw[vR];omega,Y _ _ ⟨by simp only[go_sem,h0],by simp only[go_sem,h1],by simp only[go_sem,F],by simp only[go_sem,I],?_,rfl⟩⟩;have T:(f.at_.toList == (⟨#[]⟩:ByteArray).toList)=false:=by have:=U;revert this;cases(f.at_.toList == (⟨#[]⟩:ByteArray).toList) <;> simp
   simp only[go_sem,kT,T]
  ·simp only[go_sem];refine Y _ _ ⟨by simp only[go_sem,h0],by simp only[go_sem,h1],by simp only[go_sem,F],by simp only[go_sem,I],?_,rfl⟩;have T:(f.at_.toList == (⟨#[]⟩:ByteArray).toList)=true:=by have:=U;revert this;cases(f.at_.toList == (⟨#[]⟩:ByteArray).toList) <;> simp
   simp only[go_sem,kT,T]
 ·have J:=bB hk J;subst J;simp only[go_sem,I];exact⟨_,rfl,by rw[X,Xae]⟩
def UB(l:List Order)(i:Nat):Order:=l.getD i ⟨ByteArray.empty,[],⟨0,0,0,0⟩,⟨0,0,0,0⟩,0,0,0,0,0,false⟩
def Oy{l:List Order}{k:Nat}{p:Order}(h:l[k]?=some p):UB l k=p:=by simp[UB,List.getD,h]
def gC(n:Network)(d T:Int)(l:List Order)(k:Nat):List Fault:=(kN n.places.length d T l k (UB l k)).map fun e=>⟨e,iX k⟩
def qT(n:Network)(d T:Int)(l:List Order):List Fault:=opt (decide ((l.length:Int)>10)) ⟨4,ByteArray.empty⟩++(List.range l.length).flatMap (gC n d T l)
def tW(P:Nat)(d T:Int)(l:List Order)(k:Nat)(o:Order):(kN P d T l k o).length<=9:=by
 unfold kN;simp only[Xaf,List.length_nil];have h:=fun(b:Bool) (x:Int)=>bW b x
 have h1:=h (!kW o.name) 5;have O:=h (Bm l k o.name) 6;have J:=h (!fE o.load d) 17;have A:=h (!inR o.pick.place (-1) ((P:Int)-1)|| !inR o.drop.place (-1) ((P:Int)-1)) 11;have I:=h (o.pick.place == -1&&o.drop.place == -1) 19;have F:=h (fM o.pick != 0||fM o.drop != 0) 14;have E:=h (!inR o.skills 0 1073741823) 18;have M:=h (!inR o.penalty (-1) 1000000|| !inR o.split 1 4||decide (o.split>1)&&(o.pick.place != -1&&o.drop.place != -1)||decide (o.last< -1)||decide (o.last>=T)||decide (o.now< -1)||decide (o.now>=T)) 2;omega
def Hj(n:Network)(d T:Int)(l:List Order)(hl:l.length<=1048576)(hs:∀t∈l,t.name.size<=1048576/\t.load.length<=1048576)(hp:n.places.length<=1048576):
  NC prog 36 [.agg (aY n),int d,int T,.sl (l.map aW)] (bK (qT n d T l)) .os:=by
 refine ncb (fun t=>t == 9) func36 rfl rfl ?_;simp only[go_sem];refine aJ fun j hj=>?_
 simp only[go_sem];refine oN (fun A H'=>A 1=int d/\A 2=int T/\A 3=.sl (l.map aW)/\A 4=.rp (aY n) 0/\∃j',A 9=.os j'/\H' j'=some (bK [])) ⟨by simp only[go_sem],by simp only[go_sem],by simp only[go_sem],by simp only[go_sem],_,by simp only[go_sem],aB _ _ _⟩ ?_;rintro ρ H ⟨h1,J,I,F,j,U,O⟩;generalize Z:([]:List Fault)=es0 at O;have am:es0.length<=0:=by rw[<-Z];exact Xag _
 refine bN (fun A H'=>A 1=int d/\A 2=int T/\A 3=.sl (l.map aW)/\A 4=.rp (aY n) 0/\∃j',A 9=.os j'/\H' j'=some (bK (es0++opt (decide ((l.length:Int)>10)) ⟨4,ByteArray.empty⟩))) ?_ fun K hK=>aA (fun hb=>?_) (fun hb=>?_)
 rotate_left
 ·simp only[go_sem,h1,J,I,F,U];refine aX O ⟨rfl,rfl⟩ (by simp only[go_sem]) (by simp only[Xaa,Xad,List.length_nil];omega) (fun j' aj=>?_);simp only[go_sem];refine hK _ _ ⟨by simp only[go_sem,h1],by simp only[go_sem,J],by simp only[go_sem,I],by simp only[go_sem,F],j',by simp only[go_sem],?_⟩;rw[gX (show(decide ((l.length:Int)>10))=true from hb)];exact eF (l':=[⟨4,ByteArray.empty⟩]) rfl
 ·simp only[go_sem];refine hK _ _ ⟨by simp only[go_sem,h1],by simp only[go_sem,J],by simp only[go_sem,I],by simp only[go_sem,F],j,by simp only[go_sem,U],?_⟩;rw[gY (show(decide ((l.length:Int)>10))=false from hb),Xak,O]
 clear O h1 J I F U;rintro ρ H ⟨h1,J,I,F,j,U,O⟩;generalize aa:es0++opt (decide ((l.length:Int)>10)) (⟨4,ByteArray.empty⟩:Fault)=es1 at O;have al:es1.length<=es0.length+1:=by rw[<-aa,Xaf];have:=bW (decide ((l.length:Int)>10)) (⟨4,ByteArray.empty⟩:Fault);omega
 simp only[go_sem,h1,J,I,F];refine⟨fun ρ H=>∃k:Nat,k<=l.length/\ρ 1=int d/\ρ 2=int T/\ρ 3=.sl (l.map aW)/\ρ 4=.rp (aY n) 0/\ρ 10=int k/\∃j,ρ 9=.os j/\H j=some (bK (es1++(List.range k).flatMap (gC n d T l))),fun ρ _=>l.length-aT (ρ 10),⟨0,Xab _,by simp only[go_sem,h1],by simp only[go_sem,J],by simp only[go_sem,I],by simp only[go_sem,F],by simp only[go_sem];rfl,j,by simp only[go_sem,U],by simpa using O⟩,?_⟩;clear O h1 J I F U hj;rintro ρ H ⟨k,hk,h1,J,I,F,E,j,U,O⟩;generalize ac:es1++(List.range k).flatMap (gC n d T l)=es at O;have an:es.length<=9*k+1:=by have:=eC (f:=gC n d T l) (c:=9) (fun x=>by unfold gC;rw[Xaa];exact tW _ _ _ _ _ _) (List.range k);rw[<-ac,Xaf];rw[Xas]at this;omega
 simp only[go_sem,h1,J,I,F,E,U];refine aA (fun Y=>?_) (fun ab=>?_)
 ·have Y:=bA Y;have ah:k<=4611686018427387904:=by omega
  have ai:es1++(List.range (k+1)).flatMap (gC n d T l)=es++gC n d T l k:=by rw[gM,<-Xar,ac]
  simp only[go_sem,h1,J,I,F,E];obtain⟨o,ho⟩:=aM Y;rw[<-Oy ho]at ho;refine aP (ZL n.places.length d T l k _ ho hp hl hs) ?_;simp only[go_sem];have ak:=tW n.places.length d T l k (UB l k);have ag:gC n d T l k=(kN n.places.length d T l k (UB l k)).map fun e=>⟨e,iX k⟩:=rfl
  generalize kN n.places.length d T l k (UB l k)=er at ak ag;refine⟨fun ρ H=>∃m:Nat,m<=er.length/\ρ 1=int d/\ρ 2=int T/\ρ 3=.sl (l.map aW)/\ρ 4=.rp (aY n) 0/\ρ 10=int k/\ρ 11=.sl (er.map aQ)/\ρ 12=int m/\∃j,ρ 9=.os j/\H j=some (bK (es++(er.take m).map fun e=>⟨e,iX k⟩)),fun ρ _=>er.length-aT (ρ 12),⟨0,Xab _,by simp only[go_sem,h1],by simp only[go_sem,J],by simp only[go_sem,I],by simp only[go_sem,F],by simp only[go_sem,E],by simp only[go_sem],by simp only[go_sem];rfl,j,by simp only[go_sem,U],by simpa using O⟩,?_⟩;clear O h1 J I F U E;rintro ρ H ⟨m,hm,h1,J,I,F,E,ae,af,j,U,O⟩;simp only[go_sem,h1,J,I,F,E,U,ae,af];refine aA (fun M=>?_) (fun X=>?_)
  ·have M:=bA M;obtain⟨e,he⟩:=aM M;have b2:=inB M;simp only[go_sem];refine E7 (by kernel_rfl) ?_;simp only[go_sem,h1,J,I,F,E,U,ae,af,b2,aC he];refine⟨_,(rF _ (by omega)).q rfl,?_⟩;simp only[go_sem];refine aX O ⟨rfl,rfl⟩ (by simp only[go_sem]) (by simp only[Xaa,Xaf,Xal,Xad,List.length_nil];omega) (fun j' aj=>?_);simp only[go_sem,h1,J,I,F,E,ae,af,aV m];refine⟨⟨m+1,M,rfl,j',rfl,?_⟩,by simp only[aF];omega⟩;rw[CK he,<-Xar];exact eF (l':=[⟨e,iX k⟩]) rfl
  ·have X:=bB hm X;subst X;simp only[go_sem,h1,J,I,F,E,U,mX ah];refine⟨⟨k+1,Y,rfl,j,rfl,?_⟩,by simp only[aF];omega⟩;rw[ai,O,ag,Xae]
 ·have ab:=bB hk ab;subst ab;simp only[go_sem,U];exact⟨_,rfl,by rw[O,<-ac,<-aa,<-Z];rfl⟩
end Go.Proofs.YtgncgpcpbadfnaaGreatDoor
end
