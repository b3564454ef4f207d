import Derived.Test.YthephioccidfgaaGreatDoorRows
import Derived.Carry
import Derived.OpenShut
import Derived.JoinedCond
import Derived.WalkKit
import Derived.ProofKit
import Derived.WideKeyArgs
import Derived.Test.YthephioccidfgaaGreatDoorVs04
set_option linter.unusedSimpArgs false
set_option linter.unusedVariables false
set_option linter.defProp false
set_option maxRecDepth 100000
section
namespace Go.Proofs.YthephioccidfgaaGreatDoor
open Go.Proofs.Tryz
open Go.Aw Go.Aw.D Go.Proofs Ty
def inR(n lo hi:Int):Bool:=decide (n>=lo)&&decide (n<=hi)
def rD(n lo A:Int):PC prog 49 [int n,int lo,int A] (boo (inR n lo A)):=by refine pcd func49 rfl rfl ?_;simp only[go_sem];exact .refl _
def KH(n lo A:Int):PC prog 90 [int n,int lo,int A] (boo (inR n lo A)):=by refine pcd func90 rfl rfl ?_;simp only[go_sem];exact .refl _
def alZ(n:Int):PC prog 86 [int n] (boo (inR n 0 4096)):=by refine pcd func86 rfl rfl ?_;simp only[go_sem];exact .refl _
def PO(c:Int):Bool:=decide (c>=48)&&decide (c<=57)
def IW(c:Int):PC prog 132 [.v (.int .u8 c)] (boo (PO c)):=by refine pcd func132 rfl rfl ?_;simp only[go_sem];exact .refl _
def QF(c:Int):Bool:=decide (c>=97)&&decide (c<=122)||decide (c>=65)&&decide (c<=90)||c == 95
def aoN(c:Int):PC prog 133 [.v (.int .u8 c)] (boo (QF c)):=by refine pcd func133 rfl rfl ?_;simp only[go_sem];exact .refl _
def mJ(s:Stop):Bool:=s.place == -1&&s.start == 0&&s.close == 0&&s.service == 0
def PA(s:Stop):Bool:=decide (s.place<0)||decide (s.start<0)||decide (s.start>s.close)||decide (s.close>4096)||decide (s.service<0)||decide (s.service>4096)
def jM(s:Stop):Int:=if mJ s then 0 else if PA s then 2 else 0
def RG(s:Stop):PC prog 91 [.agg (eQ s)] (int (jM s)):=by
 refine pcd func91 rfl rfl ?_;simp only[go_sem];apply aA <;> intro h
 ·simp only[go_sem];have:jM s=0:=if_pos h;rw[this];exact .refl _
 ·simp only[go_sem];apply aA <;> intro A
  ·simp only[go_sem];have:jM s=2:=by unfold jM;rw[if_neg (by simp[mJ,h])];exact if_pos A
   rw[this];exact .refl _
  ·simp only[go_sem];have:jM s=0:=by simp_all[jM,PA]
   rw[this];exact .refl _
def J4(n:Int):ByteArray:=strOfNums [IntKind.u8.wrap (IntKind.i64.wrap (48+n))]
def mU(n:Nat):ByteArray:=if n<10 then J4 n else mU (n/10)++J4 (n%10:Nat)
theorem F8(x:Int):(strOfNums [x]).size=1:=by rfl
theorem Re(n:Int):(J4 n).size=1:=F8 _
theorem CY{n:Nat}(h:10<=n):mU n=mU (n/10)++J4 (n%10:Nat):=by rw[mU,if_neg (by omega)]
theorem zU{n:Nat}(h:n<10):mU n=J4 n:=by rw[mU,if_pos h]
theorem qB(n:Nat):(mU n).size<=n+1:=by induction n using Nat.strongRecOn<;>grind[zU,Re,CY]
def alS(m:Nat):(m:Int).tmod 10=((m%10:Nat):Int):=by rfl
def amK(m:Nat):(m:Int).tdiv 10=((m/10:Nat):Int):=by rfl
def Tk{k:Nat}(h:k<=4611686018427387904):IntKind.i64.wrap (k:Int)=(k:Int):=bD (by omega)
theorem Cv:IntKind.i64.max=9223372036854775807:=by decide
def awR(n:Nat)(O:n<=4611686018427387904):PC prog 92 [int n] (str (mU n)):=by
 refine pcd func92 rfl rfl ?_;simp only[go_sem];refine⟨fun ρ _=>∃(m:Nat) (s:ByteArray),ρ 0=int m/\ρ 3=str s/\mU n=mU m++s/\s.size+m<=n,
  fun ρ _=>aU (ρ 0),⟨n,ByteArray.empty,rfl,rfl,by simp,by simp⟩,?_⟩
 rintro ρ H ⟨k,s,h0,h3,F,J⟩;simp only[go_sem,h0];refine aA (fun E=>?_) (fun A=>?_)
 ·have E:10<=k:=by grind
  simp only[go_sem,h0,h3,amK,alS,Tk (show k/10<=4611686018427387904 by omega),aN];refine⟨by omega,?_,by omega,⟨k/10,_,rfl,rfl,?_,?_⟩,by omega⟩
  ·grind[F8,Cv]
  ·rw[F,CY E,ByteArray.append_assoc];rfl
  grind[F8]
 ·have A:k<10:=by grind
  simp only[go_sem,h0,h3];refine⟨by grind[F8,Cv],?_⟩;rw[F,zU A];exact .refl _
def ahQ:AV->Nat
 | .v (.bool true)=>1
 | _=>0
def vO(n:Nat)(X:n<=4611686018427387904):PC prog 51 [int n] (str (mU n)):=by
 refine pcd func51 rfl rfl ?_;simp only[go_sem];refine⟨fun ρ _=>∃(b:Bool) (m:Nat) (s:ByteArray),ρ 0=int n/\ρ 5=boo b/\ρ 4=int m/\ρ 3=str s/\(b=true->mU n=mU m++s/\s.size+m<=n)/\(b=false->mU n=s),
  fun ρ _=>aU (ρ 4)+ahQ (ρ 5),⟨true,n,ByteArray.empty,rfl,rfl,rfl,rfl,fun _=>by simp,by simp⟩,?_⟩
 rintro ρ H ⟨b,k,s,h0,T,F,h3,O,U⟩;simp only[go_sem,F,T];apply aA <;> intro A
 ·subst A;obtain⟨J,Y⟩:=O rfl;simp only[go_sem,F,alS];refine⟨by omega,?_⟩;apply aA <;> intro A
  ·exfalso;grind
  ·simp only[go_sem,h0,h3,F,amK,Tk (show k/10<=4611686018427387904 by omega),aN];refine⟨by grind[F8,Cv],by omega,⟨_,k/10,_,rfl,rfl,rfl,?_,?_⟩,?_⟩
   ·intro A;have:10<=k:=by grind
    refine⟨?_,?_⟩
    ·rw[J,CY this,ByteArray.append_assoc];rfl
    grind[F8]
   ·intro A;have E:k<10:=by grind
    rw[J,zU E,Xbf E];rfl
   ·rcases Xcb k 10 with h|h
    ·have:k/10=0:=by omega
     simp[this,ahQ]
    ·simp only[ahQ];grind
 ·simp only[go_sem,h0,];apply aA <;> intro A
  ·exfalso;grind
  ·simp only[go_sem,h3,];rw[U (by omega)];exact .refl _
def gV(l:List Int)(d:Int):Bool:=if(l.length:Int)=d then l.all fun n=> !(decide (n<0)||decide (n>1000))else false
def apN{α:Type}{p:α->Bool}{l:List α}{x:α}(h:x∈l)(A:p x=false):l.all p=false:=by grind
def pR{α:Type}{l:List α}{k:Nat}{x:α}(h:l[k]?=some x):x∈l:=Xac h
def tR{α:Type}{q:α->Prop}{l:List α}{k:Nat}{x:α}(A:l[k]?=some x)(h:∀y∈l.take k,q y)(E:q x):∀y∈l.take (k+1),q y:=by
 rw[aZ A]
 grind
def bF{k n:Nat}(h:decide ((k:Int)<(n:Int))=true):k<n:=by grind
def bG{k n:Nat}(A:k<=n)(h:decide ((k:Int)<(n:Int))=false):k=n:=by grind
def Fc(l:List Int)(d:Int)(Z:l.length<=1048576):PC prog 89 [.sl (l.map aQ),int d] (boo (gV l d)):=by
 refine pcd func89 rfl rfl ?_;simp only[go_sem];apply aA <;> intro T
 ·simp only[go_sem];have:gV l d=false:=by simp_all[gV]
  rw[this];exact .refl _
 ·have T:(l.length:Int)=d:=by grind
  simp only[go_sem];refine⟨fun ρ _=>∃k:Nat,k<=l.length/\ρ 0=.sl (l.map aQ)/\ρ 5=int k/\∀n∈l.take k,(decide (n<0)||decide (n>1000))=false,fun ρ _=>l.length-aU (ρ 5),⟨0,Xab _,rfl,rfl,by simp⟩,?_⟩;rintro ρ H ⟨k,X,h0,F,U⟩;simp only[go_sem,h0,F];refine aA (fun A=>?_) (fun E=>?_)
  ·have A:=bF A;obtain⟨r,J⟩:=aI A;have Y:=inB A;simp only[go_sem,h0,F,Y,aC J];apply aA <;> intro O
   ·simp only[go_sem];have:gV l d=false:=by unfold gV;grind
    rw[this];exact .refl _
   ·simp only[go_sem,h0,F,aW k];exact⟨⟨k+1,A,rfl,tR J U O⟩,msr A⟩
  ·have E:=bG X E;subst E;simp only[go_sem];have:gV l d=true:=by simp_all[gV]
   rw[this];exact .refl _
def Dj(l:List Int)(d:Int):Bool:=if(!inR l.length 1 3||(l.length:Int) != d)=true then false else l.all fun n=>inR n 0 1000
def aA1(l:List Int)(d:Int)(Z:l.length<=1048576):PC prog 88 [.sl (l.map aQ),int d] (boo (Dj l d)):=by
 refine pcd func88 rfl rfl ?_;simp only[go_sem];refine aO (rD _ _ _) ?_;simp only[go_sem];apply aA <;> intro Y
 ·simp only[go_sem];have:Dj l d=false:=by simp_all[Dj]
  rw[this];exact .refl _
 ·simp only[go_sem];refine⟨fun ρ _=>∃k:Nat,k<=l.length/\ρ 0=.sl (l.map aQ)/\ρ 5=int k/\∀n∈l.take k,inR n 0 1000=true,fun ρ _=>l.length-aU (ρ 5),⟨0,Xab _,rfl,rfl,by simp⟩,?_⟩;rintro ρ H ⟨k,T,h0,F,O⟩;simp only[go_sem,h0,F];refine aA (fun A=>?_) (fun E=>?_)
  ·have A:=bF A;obtain⟨r,J⟩:=aI A;have U:=inB A;simp only[go_sem,h0,F,U,aC J];refine aO (rD _ _ _) ?_;simp only[go_sem];apply aA <;> intro X
   ·simp only[go_sem];have:Dj l d=false:=by unfold Dj;grind
    rw[this];exact .refl _
   ·simp only[go_sem,h0,F,aW k];exact⟨⟨k+1,A,rfl,tR J O (by grind)⟩,msr A⟩
  ·have E:=bG T E;subst E;simp only[go_sem];have:Dj l d=true:=by unfold Dj;grind
   rw[this];exact .refl _
def DI(s:ByteArray)(i:Nat):Int:=((s.data.getD i 0).toNat:Int)
def rY(s:ByteArray):Bool:=if(decide ((s.size:Int)<1)||decide ((s.size:Int)>16)||PO (DI s 0))=true then false else(List.range s.size).all fun i=>QF (DI s i)||PO (DI s i)
def zJ{n k:Nat}(h:k<n):(List.range n)[k]?=some k:=by simp[h]
def V7(s:ByteArray)(X:s.size<=1048576):PC prog 84 [str s] (boo (rY s)):=by
 refine pcd func84 rfl rfl ?_;simp only[go_sem];refine⟨fun h=>⟨by omega,by grind⟩,_,fun _=>(IW _).q rfl,?_⟩;simp only[go_sem];apply aA <;> intro F
 ·simp only[go_sem];have:rY s=false:=by unfold rY;rw[if_pos (by exact F)]
  rw[this];exact .refl _
 ·simp only[go_sem];refine⟨fun ρ _=>∃k:Nat,k<=s.size/\ρ 0=str s/\ρ 3=int k/\∀i∈(List.range s.size).take k,(QF (DI s i)||PO (DI s i))=true,fun ρ _=>s.size-aU (ρ 3),⟨0,Xab _,rfl,rfl,by simp⟩,?_⟩;rintro ρ H ⟨k,T,h0,h3,O⟩;simp only[go_sem,h0,h3];refine aA (fun A=>?_) (fun E=>?_)
  ·have A:=bF A;have J:=inB A;simp only[go_sem,h0,h3,J];refine aO (aoN _) ?_;simp only[go_sem,h0,h3,J];refine⟨_,fun _=>(IW _).q rfl,?_⟩;simp only[go_sem];apply aA <;> intro U
   ·simp only[go_sem];have:rY s=false:=by unfold rY;rw[if_neg (by intro h;exact absurd (h.symm.trans F) (by simp))];exact apN (pR (zJ A)) (by grind[DI])
    rw[this];exact .refl _
   ·simp only[go_sem,h0,h3,aW k];exact⟨⟨k+1,A,rfl,tR (zJ A) O (by grind[DI])⟩,msr A⟩
  ·have E:=bG T E;subst E;simp only[go_sem];have:rY s=true:=by unfold rY;rw[if_neg (by intro h;exact absurd (h.symm.trans F) (by simp))];grind
   rw[this];exact .refl _
def gX(l:List VType):Int:=match l with|[]=>0|t::_=>t.cap.length
def P1(l:List VType):PC prog 26 [.sl (l.map bB)] (int (gX l)):=by
 refine pcd func26 rfl rfl ?_;simp only[go_sem];cases l with
 | nil=>
  simp only[go_sem];apply aA <;> intro A
  ·simp only[go_sem];exact .refl _
  ·simp at A
 | cons t l=>
  apply aA <;> intro A
  ·simp at A;omega
  ·simp only[go_sem];exact⟨⟨by omega,by omega⟩,.refl _⟩
def dR(l:List VType)(k:Nat)(s:ByteArray):Bool:=(l.take k).any fun t=>t.name.toList == s.toList
def O2(l:List VType)(m:Nat)(s:ByteArray)(hm:m<=l.length)(hl:l.length<=1048576):PC prog 87 [.sl (l.map bB),int m,str s] (boo (dR l m s)):=by
 refine pcd func87 rfl rfl ?_;simp only[go_sem];refine⟨fun ρ _=>∃k:Nat,k<=m/\ρ 0=.sl (l.map bB)/\ρ 1=int m/\ρ 2=str s/\ρ 7=int k/\∀t∈l.take k,(t.name.toList == s.toList)=false,fun ρ _=>m-aU (ρ 7),⟨0,Xab _,rfl,rfl,rfl,rfl,by simp⟩,?_⟩;rintro ρ H ⟨k,X,h0,h1,J,F,U⟩;simp only[go_sem,h1,F];refine aA (fun A=>?_) (fun E=>?_)
 ·have A:=bF A;obtain⟨r,T⟩:=aI (show k<l.length by omega);have Y:=inB (show k<l.length by omega);simp only[go_sem,h0,J,F,Y,aC T];apply aA <;> intro O
  ·simp only[go_sem];have:dR l m s=true:=by refine Xak.2 ⟨r,?_,O⟩;exact Xac (i:=k) (by grind)
   rw[this];exact .refl _
  ·simp only[go_sem,h0,h1,J,F,aW k];exact⟨⟨k+1,A,rfl,tR T U O⟩,msr A⟩
 ·have E:=bG X E;subst E;simp only[go_sem];have:dR l k s=false:=Xap.2 fun t Z=>by grind
  rw[this];exact .refl _
def zY(p:Point):Bool:=decide (p.t<0)||decide (p.t>4096)||decide (p.a<p.t)||decide (p.a>IntKind.i64.wrap (p.t+4096))
def XO(p q:Point):Bool:=decide (p.t<=q.t)||decide (p.a<q.a)
def eI(l:List Point)(i:Nat):Point:=l.getD i ⟨0,0⟩
def QD(n lo hi:Int):Bool:=decide (n<lo)||decide (n>hi)
def iI(l:List Point)(i:Nat):List Fault:=
 opt (zY (eI l i)) ⟨2,mU i⟩++opt (decide ((i:Int)>0)&&XO (eI l i) (eI l (i-1))) ⟨13,mU i⟩
def jY(l:List Point):List Fault:=opt (QD l.length 1 16) ⟨4,ByteArray.empty⟩++(List.range l.length).flatMap (iI l)
def aoM(l:List Point)(i:Nat):(iI l i).length<=2:=by grind[iI,cK]
def fM{α A:Type}{f:α->List A}{c:Nat}(h:∀x,(f x).length<=c):∀l:List α,(l.flatMap f).length<=c*l.length
 | []=>by simp
 | x::r=>by have h1:=h x;have E:=fM h r;simp_all;grind
theorem iW{A:Type}(f:Nat->List A)(k:Nat):(List.range (k+1)).flatMap f=(List.range k).flatMap f++f k:=by grind[Xbv]
theorem fG{l:List Point}{k:Nat}{p:Point}(h:l[k]?=some p):eI l k=p:=by grind[eI]
def alH(l:List Point)(hl:l.length<=1048576):NC prog 85 [.sl (l.map cF)] (bN (jY l)) .os:=by
 refine ncb (fun t=>t == 3) func85 rfl rfl ?_;simp only[go_sem];refine aJ fun j hj=>?_
 simp only[go_sem];refine bQ (fun ρ H=>∃j,ρ 0=.sl (l.map cF)/\ρ 3=.os j/\H j=some (bN (opt (QD l.length 1 16) ⟨4,ByteArray.empty⟩))) ?_ fun K X=>aA (fun T=>?_) (fun T=>?_)
 ·rintro ρ H ⟨j,h0,h3,F⟩;simp only[go_sem,];generalize aa:opt (QD l.length 1 16) (⟨4,ByteArray.empty⟩:Fault)=pre at F;have ai:pre.length<=1:=by grind[cK]
  refine⟨fun ρ H=>∃k:Nat,k<=l.length/\ρ 0=.sl (l.map cF)/\ρ 4=int k/\∃j,ρ 3=.os j/\H j=some (bN (pre++(List.range k).flatMap (iI l))),fun ρ _=>l.length-aU (ρ 4),⟨0,Xab _,h0,by rfl,j,h3,by grind⟩,?_⟩;rintro ρ H ⟨k,hk,h0,E,j,h3,F⟩;generalize ac:pre++(List.range k).flatMap (iI l)=es at F;have ag:es.length<=2*k+1:=by
   have:=fM (aoM l) (List.range k)
   grind
  simp only[go_sem,h0,E];refine aA (fun J=>?_) (fun Y=>?_)
  ·have J:=bF J;obtain⟨p,hp⟩:=aI J;have b1:=inB J;simp only[go_sem,h0,E,b1,aC hp];refine aJ fun i hi=>?_
   simp only[go_sem];refine aM (r:=⟨116,2,[[int 0,int 0]]⟩) (by rw[aB]) (by simp[jJ]) ?_;simp only[go_sem];have O:j≠i:=aV F hi;have af:aH (aH H i (some ⟨116,2,[[int 0,int 0]]⟩)) i (some ⟨116,2,[cF p]⟩) j=some (bN es):=by rw[aD _ _ _ _ O,aD _ _ _ _ O,F]
   refine bQ (fun A H'=>∃j',A 0=.sl (l.map cF)/\A 4=int k/\A 3=.os j'/\A 5=.op i 0 0/\H' i=some ⟨116,2,[cF p]⟩/\j'≠i /\
    H' j'=some (bN (es++opt (zY p) ⟨2,mU k⟩))) ?_ fun K X=>aA (fun T=>?_) (fun T=>?_)
   ·rintro ρ H ⟨j,h0,E,h3,h5,hi,O,F⟩;generalize ah:es++opt (zY p) ⟨2,mU k⟩=fs at F;have aj:fs.length<=2*k+2:=by grind[cK]
    simp only[go_sem];refine mC (by rfl) (by kernel_rfl) ?_;simp only[go_sem,h0,E,h5,hi];obtain⟨q,hq⟩:=aI (show k-1<l.length by omega);simp only[go_sem,h0,E,h5,hi,anG (show k<=4611686018427387904 by omega),aC hq];have ae:k<=4611686018427387904:=by omega
    have hg:decide ((k:Int)>0)=true->0<=IntKind.i64.wrap ((k:Int)-1)/\IntKind.i64.wrap ((k:Int)-1)<(l.length:Int):=fun h=>by grind[xZ]
    have Z:pre++(List.range (k+1)).flatMap (iI l)=fs++opt (decide ((k:Int)>0)&&XO p q) ⟨13,mU k⟩:=by grind[iW,iI,fG]
    refine⟨hg,fun h=>hg h.1,qN (fun A H'=>A 0=.sl (l.map cF)/\A 4=int k/\∃j,A 3=.os j/\H' j=some (bN (pre++(List.range (k+1)).flatMap (iI l)))) ?_ fun K X _ _=>aA (fun T=>?_) (fun T=>?_)⟩
    ·rintro ρ H ⟨h0,E,j,h3,F⟩;simp only[go_sem,h0,h3,E,qK ae];exact⟨⟨k+1,J,rfl,j,rfl,F⟩,by grind[aN]⟩
    ·simp only[go_sem,h3,E];refine aO (vO _ (by omega)) ?_;simp only[go_sem,];refine bC F ⟨rfl,rfl⟩ (by simp only[go_sem]) (by grind) (fun j' U=>?_);simp only[go_sem,];refine X _ _ ⟨h0,E,j',rfl,?_⟩;rw[Z,jP (by exact T)];exact fO (l':=[⟨13,mU k⟩]) rfl
    ·simp only[go_sem];refine X _ _ ⟨h0,E,j,h3,?_⟩;rw[Z,jN (by exact T),Xbl,F]
   ·simp only[go_sem,h3,E];refine aO (vO _ (by omega)) ?_;simp only[go_sem,h0,h3,E];refine bC af ⟨rfl,rfl⟩ (by simp only[go_sem]) (by simp only[Xaa,Xag,List.length_nil];omega) (fun j' U=>?_);simp only[go_sem,h0,h3,E];have ab:=aB (aH H i (some ⟨116,2,[[int 0,int 0]]⟩)) i (some ⟨116,2,[cF p]⟩);refine X _ _ ⟨j',h0,E,rfl,rfl,dF ab O U,(aV ab U).symm,?_⟩;rw[jP (show zY p=true from T)];exact fO (l':=[⟨2,mU k⟩]) rfl
   ·simp only[go_sem];refine X _ _ ⟨j,h0,E,h3,rfl,by rw[aB],O,?_⟩
    grind[jN,zY]
  ·have Y:=bG hk Y;subst Y;simp only[go_sem,h3];exact⟨_,rfl,by rw[F,<-ac,<-aa];rfl⟩
 ·simp only[go_sem];refine bC (r:=bN []) (by simp only[go_sem];rfl) ⟨rfl,rfl⟩ (by simp only[go_sem]) (by simp) (fun j' U=>?_);simp only[go_sem];refine X _ _ ⟨j',rfl,rfl,?_⟩;rw[jP (by exact T)];exact fO (l:=[]) (l':=[⟨4,ByteArray.empty⟩]) rfl
 ·simp only[go_sem];refine X _ _ ⟨j,rfl,rfl,?_⟩;rw[jN (by exact T),aB];rfl
def NK(l:List ByteArray)(i:Nat):ByteArray:=l.getD i ByteArray.empty
theorem G1{l:List ByteArray}{k:Nat}{p:ByteArray}(h:l[k]?=some p):NK l k=p:=by grind[NK]
def Av(i:Nat):ByteArray:=⟨#[112,108,97,99,101,32]⟩++mU i
def wU(l:List ByteArray)(i:Nat):Bool:=(l.take i).any fun s=>s.toList == (NK l i).toList
def gR(l:List ByteArray)(i:Nat):List Fault:=match rY (NK l i)with
 | false=>[⟨5,Av i⟩]
 | true=>opt (wU l i) ⟨6,Av i⟩
def Yx(l:List ByteArray)(i:Nat):(gR l i).length<=1:=by grind[gR,cK]
def Ax(l:List ByteArray):List Fault:=opt (decide ((l.length:Int)>24)) ⟨4,⟨#[112,108,97,99,101,115]⟩⟩++(List.range l.length).flatMap (gR l)
theorem Kj{α:Type}{p:α->Bool}{l:List α}{k:Nat}{x:α}(h:l[k]?=some x):(l.take (k+1)).any p=((l.take k).any p||p x):=by simp_all[aZ]
def Uk(i:Nat):(Av i).size<=i+7:=by have:=qB i;unfold Av;rw[ByteArray.size_append];have:(⟨#[112,108,97,99,101,32]⟩:ByteArray).size=6:=rfl;omega
def ajH(n:Network)(hl:n.places.length<=1048576)(hs:∀s∈n.places,s.size<=1048576):NC prog 47 [.agg (bA n)] (bN (Ax n.places)) .os:=by
 refine ncb (fun t=>t == 3) func47 rfl rfl ?_;simp only[go_sem];refine aJ fun j hj=>?_
 simp only[go_sem];refine bQ (fun ρ H=>∃j,ρ 1=.rp (bA n) 0/\ρ 3=.os j/\H j=some (bN (opt (decide ((n.places.length:Int)>24)) ⟨4,⟨#[112,108,97,99,101,115]⟩⟩))) ?_ fun K hK=>aA (fun U=>?_) (fun U=>?_)
 ·rintro ρ H ⟨j,h1,h3,O⟩;simp only[go_sem,];generalize Z:opt (decide ((n.places.length:Int)>24)) (⟨4,⟨#[112,108,97,99,101,115]⟩⟩:Fault)=pre at O;have ag:pre.length<=1:=by grind[cK]
  refine⟨fun ρ H=>∃k:Nat,k<=n.places.length/\ρ 1=.rp (bA n) 0/\ρ 4=int k/\∃j,ρ 3=.os j/\H j=some (bN (pre++(List.range k).flatMap (gR n.places))),fun ρ _=>n.places.length-aU (ρ 4),⟨0,Xab _,h1,by rfl,j,h3,by grind⟩,?_⟩;rintro ρ H ⟨k,hk,h1,E,j,h3,O⟩;generalize ac:pre++(List.range k).flatMap (gR n.places)=es at O;have af:es.length<=k+1:=by
   have:=fM (Yx n.places) (List.range k)
   grind
  simp only[go_sem,h1,E];refine aA (fun A=>?_) (fun T=>?_)
  ·have A:=bF A;obtain⟨p,hp⟩:=aI A;have b1:=inB A;have ab:k<=4611686018427387904:=by omega
   have ah:=qB k;have Y:pre++(List.range (k+1)).flatMap (gR n.places)=es++gR n.places k:=by grind[iW]
   simp only[go_sem,E];refine aO (vO _ (by omega)) ?_;simp only[go_sem,h1,E,b1,aC hp];refine⟨by simp_all;omega,?_⟩;refine aO (V7 p (hs p (pR hp))) ?_;simp only[go_sem,];refine aA (fun U=>?_) (fun U=>?_)
   ·simp only[go_sem,h3];refine bC O ⟨rfl,rfl⟩ (by simp only[go_sem]) (by grind) (fun j' aa=>?_);simp only[go_sem,h1,E,qK ab];refine⟨⟨k+1,A,rfl,j',rfl,?_⟩,by simp only[aN];omega⟩;have hn:rY (NK n.places k)=false:=by grind[G1]
    rw[Y,gR,hn];exact fO (l':=[⟨5,Av k⟩]) rfl
   ·simp only[go_sem,];have hn:rY (NK n.places k)=true:=by grind[G1]
    refine⟨fun ρ H'=>∃m:Nat,m<=k/\ρ 1=.rp (bA n) 0/\ρ 3=.os j/\ρ 4=int k/\ρ 5=str (Av k)/\ρ 6=boo ((n.places.take m).any fun s=>s.toList == p.toList)/\ρ 7=int m/\H'=H,fun ρ _=>k-aU (ρ 7),⟨0,Xab _,h1,h3,E,by rfl,by rfl,by rfl,rfl⟩,?_⟩;rintro ρ H' ⟨m,hm,h1,h3,E,h5,h6,h7,rfl⟩;simp only[go_sem,E,h7];refine aA (fun J=>?_) (fun F=>?_)
    ·have J:=bF J;obtain⟨q,hq⟩:=aI (show m<n.places.length by omega);have b2:=inB (show m<n.places.length by omega);simp only[go_sem];refine mC (by rfl) (by kernel_rfl) ?_;simp only[go_sem,h1,h3,E,h5,h6,h7,b1,b2,aC hp,aC hq,aW m];refine⟨⟨m+1,J,?_,rfl⟩,by grind[aN]⟩;rw[Kj hq]
    ·have F:=bG hm F;subst F;simp only[go_sem,h6];have ae:wU n.places m=(n.places.take m).any fun s=>s.toList == p.toList:=by grind[wU,G1]
     refine qN (fun X H'=>X 1=.rp (bA n) 0/\X 4=int m/\∃j,X 3=.os j/\H' j=some (bN (pre++(List.range (m+1)).flatMap (gR n.places)))) ?_ fun K hK _ _=>aA (fun U=>?_) (fun U=>?_)
     ·rintro ρ H ⟨h1,E,j,h3,O⟩;simp only[go_sem,h1,h3,E,qK ab];exact⟨⟨m+1,A,rfl,j,rfl,O⟩,by simp only[aN];omega⟩
     ·simp only[go_sem,h3,h5];refine bC O ⟨rfl,rfl⟩ (by simp only[go_sem]) (by grind) (fun j' aa=>?_);simp only[go_sem];refine hK _ _ ⟨h1,E,j',rfl,?_⟩;rw[Y,gR,hn];show _=some (bN (es++opt (wU n.places m) ⟨6,Av m⟩));rw[jP (ae.trans U)];exact fO (l':=[⟨6,Av m⟩]) rfl
     ·simp only[go_sem];refine hK _ _ ⟨h1,E,j,h3,?_⟩;rw[Y,gR,hn];show _=some (bN (es++opt (wU n.places m) ⟨6,Av m⟩))
      grind[jN]
  ·have T:=bG hk T;subst T;simp only[go_sem,h3];exact⟨_,rfl,by rw[O,<-ac,<-Z];rfl⟩
 ·simp only[go_sem];refine bC (r:=bN []) (by simp only[go_sem];rfl) ⟨rfl,rfl⟩ (by simp only[go_sem]) (by simp) (fun j' aa=>?_);simp only[go_sem];refine hK _ _ ⟨j',rfl,rfl,?_⟩;rw[jP (by exact U)];exact fO (l:=[]) (l':=[⟨4,⟨#[112,108,97,99,101,115]⟩⟩]) rfl
 ·simp only[go_sem];refine hK _ _ ⟨j,rfl,rfl,?_⟩
  grind[jN,aB]
def XV(l:List VType)(i:Nat):VType:=l.getD i ⟨ByteArray.empty,0,0,0,[],0,0,0,0,0,0,0,0,0⟩
def KV{l:List VType}{k:Nat}{p:VType}(h:l[k]?=some p):XV l k=p:=by grind[XV]
def nT(n:Network)(l:List VType)(k:Nat)(t:VType):List Int:=
 []++opt (!rY t.name) 5++opt (dR l k t.name) 6++opt (!inR t.count 0 10) 22++opt (!inR t.src 0 (n.places.length-1)|| !inR t.dst 0 (n.places.length-1)) 11
   ++ opt (!Dj t.cap (gX l)) 17++opt (!inR t.skills 0 1073741823) 18++opt (!inR t.start 0 t.close||decide (t.close>4096)) 15
   ++ opt (!inR t.drive 1 4096|| !inR t.rest 0 4096) 16++opt (!inR t.profile 0 7|| !inR t.fixed 0 100000|| !inR t.perMile 0 100|| !inR t.perTick 0 100) 2
def anI(n:Network)(l:List VType)(k:Nat)(hk:k<l.length)(hl:l.length<=1048576)(hs:∀t∈l,t.name.size<=1048576/\t.cap.length<=1048576)(hp:n.places.length<=1048576):
  PC prog 50 [.agg (bA n),.sl (l.map bB),int k] (.sl ((nT n l k (XV l k)).map aQ)):=by
 refine pcb (fun t=>t == 8) func50 rfl rfl ?_;simp only[go_sem];obtain⟨t,ht⟩:=aI hk;have b1:=inB hk;have ab:=hs t (pR ht);rw[KV ht];simp only[go_sem,b1,aC ht];refine aJ fun i J=>?_
 simp only[go_sem];refine aM (aB _ _ _) (by simp[lY]) ?_;simp only[go_sem];refine aJ fun j hj=>?_
 have ac:=jW (r':=(⟨41,1,[]⟩:Row)) (aB _ _ _) hj;simp only[go_sem,ac];refine aO (V7 _ ab.1) ?_;simp only[go_sem];refine sZ (fun A H'=>A 1=.sl (l.map bB)/\A 2=int k/\A 3=.rp (bA n) 0/\A 7=.op i 0 0/\H' i=some (mZ t)/\∃j',A 8=.os j'/\j'≠i/\H' j'=some (mA [])) ⟨rfl,rfl,rfl,rfl,jW (aB _ _ _) hj,_,rfl,(aV (aB _ _ _) hj).symm,aB _ _ _⟩ ?_;rintro ρ H ⟨h1,U,h3,O,J,j,X,F,T⟩;generalize ae:([]:List Int)=es0 at T;have az:es0.length<=0:=by grind
 refine bQ (fun A H'=>A 1=.sl (l.map bB)/\A 2=int k/\A 3=.rp (bA n) 0/\A 7=.op i 0 0/\H' i=some (mZ t)/\∃j',A 8=.os j'/\j'≠i/\H' j'=some (mA (es0++opt (!rY t.name) 5))) ?_ fun K Z=>aA (fun Y=>?_) (fun Y=>?_)
 rotate_left
 ·simp only[go_sem,X];refine bC T ⟨rfl,rfl⟩ (by simp only[go_sem]) (by grind) (fun j' E=>?_);simp only[go_sem];refine Z _ _ ⟨h1,U,h3,O,dF J F E,j',rfl,(aV J E).symm,?_⟩;rw[jP (show(!rY t.name)=true from Y)];exact iA (l':=[5]) rfl
 ·simp only[go_sem]
  grind[jN]
 rintro ρ H ⟨h1,U,h3,O,J,j,X,F,T⟩;generalize al:es0++opt (!rY t.name) (5:Int)=es1 at T;have ag:es1.length<=es0.length+1:=by grind[cK]
 simp only[go_sem,h1,U,O,J];refine aO (O2 l k t.name (by omega) hl) ?_;simp only[go_sem];refine bQ (fun A H'=>A 1=.sl (l.map bB)/\A 2=int k/\A 3=.rp (bA n) 0/\A 7=.op i 0 0/\H' i=some (mZ t)/\∃j',A 8=.os j'/\j'≠i/\H' j'=some (mA (es1++opt (dR l k t.name) 6))) ?_ fun K Z=>aA (fun Y=>?_) (fun Y=>?_)
 rotate_left
 ·simp only[go_sem,X];refine bC T ⟨rfl,rfl⟩ (by simp only[go_sem]) (by grind) (fun j' E=>?_);simp only[go_sem];refine Z _ _ ⟨h1,U,h3,O,dF J F E,j',rfl,(aV J E).symm,?_⟩;rw[jP (show(dR l k t.name)=true from Y)];exact iA (l':=[6]) rfl
 ·simp only[go_sem];refine Z _ _ ⟨h1,U,h3,O,J,j,X,F,?_⟩
  grind[jN]
 rintro ρ H ⟨h1,U,h3,O,J,j,X,F,T⟩;generalize ai:es1++opt (dR l k t.name) (6:Int)=es2 at T;have av:es2.length<=es1.length+1:=by grind[cK]
 simp only[go_sem,O,J];refine aO (rD _ _ _) ?_;simp only[go_sem];refine bQ (fun A H'=>A 1=.sl (l.map bB)/\A 2=int k/\A 3=.rp (bA n) 0/\A 7=.op i 0 0/\H' i=some (mZ t)/\∃j',A 8=.os j'/\j'≠i/\H' j'=some (mA (es2++opt (!inR t.count 0 10) 22))) ?_ fun K Z=>aA (fun Y=>?_) (fun Y=>?_)
 rotate_left
 ·simp only[go_sem,X];refine bC T ⟨rfl,rfl⟩ (by simp only[go_sem]) (by grind) (fun j' E=>?_);simp only[go_sem];refine Z _ _ ⟨h1,U,h3,O,dF J F E,j',rfl,(aV J E).symm,?_⟩;rw[jP (show(!inR t.count 0 10)=true from Y)];exact iA (l':=[22]) rfl
 ·simp only[go_sem];refine Z _ _ ⟨h1,U,h3,O,J,j,X,F,?_⟩
  grind[jN]
 rintro ρ H ⟨h1,U,h3,O,J,j,X,F,T⟩;generalize ak:es2++opt (!inR t.count 0 10) (22:Int)=es3 at T;have an:es3.length<=es2.length+1:=by grind[cK]
 simp only[go_sem,h3,O,J,xZ (show n.places.length<=4611686018427387904 by omega)];refine aO (rD _ _ _) ?_;simp only[go_sem,h3,O,J,xZ (show n.places.length<=4611686018427387904 by omega)];refine⟨_,fun _=>(rD _ _ _).q rfl,?_⟩;simp only[go_sem,];refine bQ (fun A H'=>A 1=.sl (l.map bB)/\A 2=int k/\A 3=.rp (bA n) 0/\A 7=.op i 0 0/\H' i=some (mZ t)/\∃j',A 8=.os j'/\j'≠i/\H' j'=some (mA (es3++opt (!inR t.src 0 (n.places.length-1)|| !inR t.dst 0 (n.places.length-1)) 11))) ?_ fun K Z=>aA (fun Y=>?_) (fun Y=>?_)
 rotate_left
 ·simp only[go_sem,X];refine bC T ⟨rfl,rfl⟩ (by simp only[go_sem]) (by grind) (fun j' E=>?_);simp only[go_sem];refine Z _ _ ⟨h1,U,h3,O,dF J F E,j',rfl,(aV J E).symm,?_⟩;rw[jP (show(!inR t.src 0 (n.places.length-1)|| !inR t.dst 0 (n.places.length-1))=true from Y)];exact iA (l':=[11]) rfl
 ·simp only[go_sem];refine Z _ _ ⟨h1,U,h3,O,J,j,X,F,?_⟩
  grind[jN]
 rintro ρ H ⟨h1,U,h3,O,J,j,X,F,T⟩;generalize aq:es3++opt (!inR t.src 0 (n.places.length-1)|| !inR t.dst 0 (n.places.length-1)) (11:Int)=es4 at T;have ao:es4.length<=es3.length+1:=by grind[cK]
 simp only[go_sem,];refine mC (by rfl) (by kernel_rfl) ?_;simp only[go_sem,h1,O,J];refine⟨_,(P1 l).q rfl,?_⟩;simp only[go_sem,];refine⟨_,(aA1 t.cap (gX l) ab.2).q rfl,?_⟩;simp only[go_sem,];refine bQ (fun A H'=>A 1=.sl (l.map bB)/\A 2=int k/\A 3=.rp (bA n) 0/\A 7=.op i 0 0/\H' i=some (mZ t)/\∃j',A 8=.os j'/\j'≠i/\H' j'=some (mA (es4++opt (!Dj t.cap (gX l)) 17))) ?_ fun K Z=>aA (fun Y=>?_) (fun Y=>?_)
 rotate_left
 ·simp only[go_sem,X];refine bC T ⟨rfl,rfl⟩ (by simp only[go_sem]) (by grind) (fun j' E=>?_);simp only[go_sem];refine Z _ _ ⟨h1,U,h3,O,dF J F E,j',rfl,(aV J E).symm,?_⟩;rw[jP (show(!Dj t.cap (gX l))=true from Y)];exact iA (l':=[17]) rfl
 ·simp only[go_sem];refine Z _ _ ⟨h1,U,h3,O,J,j,X,F,?_⟩
  grind[jN]
 rintro ρ H ⟨h1,U,h3,O,J,j,X,F,T⟩;generalize au:es4++opt (!Dj t.cap (gX l)) (17:Int)=es5 at T;have aj:es5.length<=es4.length+1:=by grind[cK]
 simp only[go_sem,O,J];refine aO (rD _ _ _) ?_;simp only[go_sem,];refine bQ (fun A H'=>A 1=.sl (l.map bB)/\A 2=int k/\A 3=.rp (bA n) 0/\A 7=.op i 0 0/\H' i=some (mZ t)/\∃j',A 8=.os j'/\j'≠i/\H' j'=some (mA (es5++opt (!inR t.skills 0 1073741823) 18))) ?_ fun K Z=>aA (fun Y=>?_) (fun Y=>?_)
 rotate_left
 ·simp only[go_sem,X];refine bC T ⟨rfl,rfl⟩ (by simp only[go_sem]) (by grind) (fun j' E=>?_);simp only[go_sem];refine Z _ _ ⟨h1,U,h3,O,dF J F E,j',rfl,(aV J E).symm,?_⟩;rw[jP (show(!inR t.skills 0 1073741823)=true from Y)];exact iA (l':=[18]) rfl
 ·simp only[go_sem];refine Z _ _ ⟨h1,U,h3,O,J,j,X,F,?_⟩
  grind[jN]
 rintro ρ H ⟨h1,U,h3,O,J,j,X,F,T⟩;generalize aw:es5++opt (!inR t.skills 0 1073741823) (18:Int)=es6 at T;have am:es6.length<=es5.length+1:=by grind[cK]
 simp only[go_sem,O,J];refine aO (rD _ _ _) ?_;simp only[go_sem,O,J];refine bQ (fun A H'=>A 1=.sl (l.map bB)/\A 2=int k/\A 3=.rp (bA n) 0/\A 7=.op i 0 0/\H' i=some (mZ t)/\∃j',A 8=.os j'/\j'≠i/\H' j'=some (mA (es6++opt (!inR t.start 0 t.close||decide (t.close>4096)) 15))) ?_ fun K Z=>aA (fun Y=>?_) (fun Y=>?_)
 rotate_left
 ·simp only[go_sem,X];refine bC T ⟨rfl,rfl⟩ (by simp only[go_sem]) (by grind) (fun j' E=>?_);simp only[go_sem];refine Z _ _ ⟨h1,U,h3,O,dF J F E,j',rfl,(aV J E).symm,?_⟩;rw[jP (show(!inR t.start 0 t.close||decide (t.close>4096))=true from Y)];exact iA (l':=[15]) rfl
 ·simp only[go_sem];refine Z _ _ ⟨h1,U,h3,O,J,j,X,F,?_⟩
  grind[jN]
 rintro ρ H ⟨h1,U,h3,O,J,j,X,F,T⟩;generalize ax:es6++opt (!inR t.start 0 t.close||decide (t.close>4096)) (15:Int)=es7 at T;have af:es7.length<=es6.length+1:=by grind[cK]
 simp only[go_sem,O,J];refine aO (rD _ _ _) ?_;simp only[go_sem,O,J];refine⟨_,fun _=>(rD _ _ _).q rfl,?_⟩;simp only[go_sem,];refine bQ (fun A H'=>A 1=.sl (l.map bB)/\A 2=int k/\A 3=.rp (bA n) 0/\A 7=.op i 0 0/\H' i=some (mZ t)/\∃j',A 8=.os j'/\j'≠i/\H' j'=some (mA (es7++opt (!inR t.drive 1 4096|| !inR t.rest 0 4096) 16))) ?_ fun K Z=>aA (fun Y=>?_) (fun Y=>?_)
 rotate_left
 ·simp only[go_sem,X];refine bC T ⟨rfl,rfl⟩ (by simp only[go_sem]) (by grind) (fun j' E=>?_);simp only[go_sem];refine Z _ _ ⟨h1,U,h3,O,dF J F E,j',rfl,(aV J E).symm,?_⟩;rw[jP (show(!inR t.drive 1 4096|| !inR t.rest 0 4096)=true from Y)];exact iA (l':=[16]) rfl
 ·simp only[go_sem];refine Z _ _ ⟨h1,U,h3,O,J,j,X,F,?_⟩
  grind[jN]
 rintro ρ H ⟨h1,U,h3,O,J,j,X,F,T⟩;generalize ay:es7++opt (!inR t.drive 1 4096|| !inR t.rest 0 4096) (16:Int)=es8 at T;have ar:es8.length<=es7.length+1:=by grind[cK]
 simp only[go_sem,O,J];refine aO (rD _ _ _) ?_;simp only[go_sem,O,J];refine⟨_,fun _=>(rD _ _ _).q rfl,?_⟩;simp only[go_sem,O,J];refine⟨_,fun _=>(rD _ _ _).q rfl,?_⟩;simp only[go_sem,O,J];refine⟨_,fun _=>(rD _ _ _).q rfl,?_⟩;simp only[go_sem,];refine bQ (fun A H'=>A 1=.sl (l.map bB)/\A 2=int k/\A 3=.rp (bA n) 0/\A 7=.op i 0 0/\H' i=some (mZ t)/\∃j',A 8=.os j'/\j'≠i/\H' j'=some (mA (es8++opt (!inR t.profile 0 7|| !inR t.fixed 0 100000|| !inR t.perMile 0 100|| !inR t.perTick 0 100) 2))) ?_ fun K Z=>aA (fun Y=>?_) (fun Y=>?_)
 rotate_left
 ·simp only[go_sem,X];refine bC T ⟨rfl,rfl⟩ (by simp only[go_sem]) (by grind) (fun j' E=>?_);simp only[go_sem];refine Z _ _ ⟨h1,U,h3,O,dF J F E,j',rfl,(aV J E).symm,?_⟩;rw[jP (show(!inR t.profile 0 7|| !inR t.fixed 0 100000|| !inR t.perMile 0 100|| !inR t.perTick 0 100)=true from Y)];exact iA (l':=[2]) rfl
 ·simp only[go_sem];refine Z _ _ ⟨h1,U,h3,O,J,j,X,F,?_⟩
  grind[jN]
 rintro ρ H ⟨h1,U,h3,O,J,j,X,F,T⟩;generalize ah:es8++opt (!inR t.profile 0 7|| !inR t.fixed 0 100000|| !inR t.perMile 0 100|| !inR t.perTick 0 100) (2:Int)=es9 at T;have ap:es9.length<=es8.length+1:=by grind[cK]
 simp only[go_sem,X];have aa:nT n l k t=es9:=by grind[nT]
 rw[aa];exact .row _ _ _ T (ConvE.refl _)
def iU(n:Network)(l:List VType)(k:Nat):List Fault:=(nT n l k (XV l k)).map fun e=>⟨e,mU k⟩
def vR(n:Network)(l:List VType):List Fault:=opt (!inR l.length 1 6) ⟨4,ByteArray.empty⟩++(List.range l.length).flatMap (iU n l)
theorem Ar(n:Network)(l:List VType)(k:Nat)(t:VType):(nT n l k t).length<=9:=by grind[nT,Xaf,cK]
def FC{α A:Type}{f:α->A}{l:List α}{k:Nat}{x:α}(h:l[k]?=some x):(l.take (k+1)).map f=(l.take k).map f++[f x]:=by rw[aZ h,Xaw];rfl
def awK(n:Network)(l:List VType)(hl:l.length<=1048576)(hs:∀t∈l,t.name.size<=1048576/\t.cap.length<=1048576)(hp:n.places.length<=1048576):
  NC prog 24 [.agg (bA n),.sl (l.map bB)] (bN (vR n l)) .os:=by
 refine ncb (fun t=>t == 5) func24 rfl rfl ?_;simp only[go_sem];refine aJ fun j hj=>?_
 simp only[go_sem];refine aO (rD _ _ _) ?_;simp only[go_sem];refine sZ (fun E H'=>E 1=.sl (l.map bB)/\E 2=.rp (bA n) 0/\∃j',E 5=.os j'/\H' j'=some (bN [])) ⟨rfl,rfl,_,rfl,aB _ _ _⟩ ?_;rintro ρ H ⟨h1,J,j,U,T⟩;generalize Z:([]:List Fault)=es0 at T;have aj:es0.length<=0:=by grind
 refine bQ (fun E H'=>E 1=.sl (l.map bB)/\E 2=.rp (bA n) 0/\∃j',E 5=.os j'/\H' j'=some (bN (es0++opt (!inR l.length 1 6) ⟨4,ByteArray.empty⟩))) ?_ fun K hK=>aA (fun hb=>?_) (fun hb=>?_)
 rotate_left
 ·simp only[go_sem,U];refine bC T ⟨rfl,rfl⟩ (by simp only[go_sem]) (by grind) (fun j' af=>?_);simp only[go_sem];refine hK _ _ ⟨h1,J,j',rfl,?_⟩;rw[jP (show(!inR l.length 1 6)=true from hb)];exact fO (l':=[⟨4,ByteArray.empty⟩]) rfl
 ·simp only[go_sem]
  grind[jN]
 rintro ρ H ⟨h1,J,j,U,T⟩;generalize aa:es0++opt (!inR l.length 1 6) (⟨4,ByteArray.empty⟩:Fault)=es1 at T;have ah:es1.length<=es0.length+1:=by grind[cK]
 simp only[go_sem,];refine⟨fun ρ H=>∃k:Nat,k<=l.length/\ρ 1=.sl (l.map bB)/\ρ 2=.rp (bA n) 0/\ρ 6=int k/\∃j,ρ 5=.os j/\H j=some (bN (es1++(List.range k).flatMap (iU n l))),fun ρ _=>l.length-aU (ρ 6),⟨0,Xab _,h1,J,by rfl,j,U,by grind⟩,?_⟩;rintro ρ H ⟨k,hk,h1,J,Y,j,U,T⟩;generalize ac:es1++(List.range k).flatMap (iU n l)=es at T;have ai:es.length<=9*k+1:=by
  have:=fM (f:=iU n l) (c:=9) (fun x=>by grind[iU,Ar]) (List.range k)
  grind
 simp only[go_sem,h1,Y];refine aA (fun O=>?_) (fun X=>?_)
 ·have O:=bF O;have ag:k<=4611686018427387904:=by omega
  have ak:es1++(List.range (k+1)).flatMap (iU n l)=es++iU n l k:=by grind[iW]
  simp only[go_sem,h1,J,Y];refine aO (anI n l k O hl hs hp) ?_;simp only[go_sem];have ab:=Ar n l k (XV l k);have ae:iU n l k=(nT n l k (XV l k)).map fun e=>⟨e,mU k⟩:=rfl
  generalize nT n l k (XV l k)=er at ab ae;refine⟨fun ρ H=>∃m:Nat,m<=er.length/\ρ 1=.sl (l.map bB)/\ρ 2=.rp (bA n) 0/\ρ 6=int k/\ρ 7=.sl (er.map aQ)/\ρ 8=int m/\∃j,ρ 5=.os j/\H j=some (bN (es++(er.take m).map fun e=>⟨e,mU k⟩)),fun ρ _=>er.length-aU (ρ 8),⟨0,Xab _,h1,J,Y,rfl,by rfl,j,U,by simp_all⟩,?_⟩;rintro ρ H ⟨m,hm,h1,J,Y,h7,h8,j,U,T⟩;simp only[go_sem,h7,h8];refine aA (fun A=>?_) (fun F=>?_)
  ·have A:=bF A;obtain⟨e,he⟩:=aI A;have b2:=inB A;simp only[go_sem];refine I3 (by kernel_rfl) ?_;simp only[go_sem,Y,U,h7,h8,b2,aC he];refine⟨_,(vO _ (by omega)).q rfl,?_⟩;simp only[go_sem];refine bC T ⟨rfl,rfl⟩ (by simp only[go_sem]) (by simp;omega) (fun j' af=>?_);simp only[go_sem,h1,J,Y,h7,h8,aW m];refine⟨⟨m+1,A,rfl,j',rfl,?_⟩,by simp only[aN];omega⟩;rw[FC he,<-Xbk];exact fO (l':=[⟨e,mU k⟩]) rfl
  ·have F:=bG hm F;subst F;simp only[go_sem,h1,J,Y,U,qK ag];refine⟨⟨k+1,O,rfl,j,rfl,?_⟩,by simp only[aN];omega⟩
   grind
 ·have X:=bG hk X;subst X;simp only[go_sem,U];exact⟨_,rfl,by rw[T,<-ac,<-aa,<-Z];rfl⟩
def K3(l:List Order)(k:Nat)(s:ByteArray):Bool:=(l.take k).any fun t=>t.name.toList == s.toList
def lI(P:Nat)(d T:Int)(l:List Order)(k:Nat)(o:Order):List Int:=
 []++opt (!rY o.name) 5++opt (K3 l k o.name) 6++opt (!gV o.load d) 17++opt (!inR o.pick.place (-1) ((P:Int)-1)|| !inR o.drop.place (-1) ((P:Int)-1)) 11++opt (o.pick.place == -1&&o.drop.place == -1) 19++opt (jM o.pick != 0||jM o.drop != 0) 14++opt (!inR o.skills 0 1073741823) 18++opt (!inR o.penalty (-1) 1000000|| !inR o.split 1 4||decide (o.split>1)&&(o.pick.place != -1&&o.drop.place != -1)||decide (o.last< -1)||decide (o.last>=T)||decide (o.now< -1)||decide (o.now>=T)) 2
def apJ(P:Nat)(d T:Int)(l:List Order)(k:Nat)(o:Order)(ho:l[k]?=some o)(hP:P<=1048576)(hl:l.length<=1048576)(hs:∀t∈l,t.name.size<=1048576/\t.load.length<=1048576):
  PC prog 52 [int P,int d,int T,.sl (l.map aY),int k] (.sl ((lI P d T l k o).map aQ)):=by
 refine pcb (fun t=>t == 11) func52 rfl rfl ?_;simp only[go_sem];have hk:k<l.length:=by grind
 have b1:=inB hk;have af:=hs o (pR ho);refine aJ fun j hj=>?_
 simp only[go_sem,b1,aC ho];refine aJ fun i U=>?_
 simp only[go_sem];refine aM (aB _ _ _) (by simp[lX]) ?_;simp only[go_sem];refine aO (V7 _ af.1) ?_;simp only[go_sem];have J:j≠i:=aV (aB _ _ _) U;refine sZ (fun A H'=>A 0=int P/\A 1=int d/\A 2=int T/\A 3=.sl (l.map aY)/\A 4=int k/\A 12=.op i 0 0/\H' i=some (nR o)/\∃j',A 11=.os j'/\j'≠i/\H' j'=some (mA []))
  ⟨rfl,rfl,rfl,rfl,rfl,rfl,aB _ _ _,j,rfl,J,by grind[aD,aB]⟩ ?_
 rintro ρ H ⟨h0,h1,X,h3,Y,E,U,j,F,J,Z⟩;generalize ag:([]:List Int)=es0 at Z;have az:es0.length<=0:=by grind
 refine bQ (fun A H'=>A 0=int P/\A 1=int d/\A 2=int T/\A 3=.sl (l.map aY)/\A 4=int k/\A 12=.op i 0 0/\H' i=some (nR o)/\∃j',A 11=.os j'/\j'≠i/\H' j'=some (mA (es0++opt (!rY o.name) 5))) ?_ fun K hK=>aA (fun hb=>?_) (fun hb=>?_)
 rotate_left
 ·simp only[go_sem,F];refine bC Z ⟨rfl,rfl⟩ (by simp only[go_sem]) (by grind) (fun j' O=>?_);simp only[go_sem];refine hK _ _ ⟨h0,h1,X,h3,Y,E,dF U J O,j',rfl,(aV U O).symm,?_⟩;rw[jP (show(!rY o.name)=true from hb)];exact iA (l':=[5]) rfl
 ·simp only[go_sem]
  grind[jN]
 rintro ρ H ⟨h0,h1,X,h3,Y,E,U,j,F,J,Z⟩;generalize am:es0++opt (!rY o.name) (5:Int)=es1 at Z;have ai:es1.length<=es0.length+1:=by grind[cK]
 simp only[go_sem,];refine KG (fun A H'=>A 0=int P/\A 1=int d/\A 2=int T/\A 3=.sl (l.map aY)/\A 4=int k/\A 12=.op i 0 0/\H' i=some (nR o)/\∃j',A 11=.os j'/\j'≠i/\H' j'=some (mA (es1++opt (K3 l k o.name) 6))) ?_ fun Q hQ _=>?_
 rotate_left
 ·refine ⟨fun A H' => ∃ m : Nat, m <= k /\ A 0 = int P /\ A 1 = int d /\ A 2 = int T /\ A 3 = .sl (l.map aY) /\ A 4 = int k /\ A 12 = .op i 0 0 /\ A 11 = .os j /\ A 13 = int m /\ H' = H /\ ∀ t ∈ l.take m, (t.name.toList == o.name.toList) = false, fun ρ _ => k - aU (ρ 13),
   ⟨0,Xab _,h0,h1,X,h3,Y,E,F,by rfl,rfl,by simp⟩,?_⟩
  rintro ρ H' ⟨m,hm,h0,h1,X,h3,Y,E,F,aa,rfl,hn⟩;simp only[go_sem,Y,aa];refine aA (fun ac=>?_) (fun ab=>?_)
  ·have ac:=bF ac;obtain⟨t,ht⟩:=aI (show m<l.length by omega);have b2:=inB (show m<l.length by omega);simp only[go_sem];refine mC (by rfl) (by kernel_rfl) ?_;simp only[go_sem,h3,E,aa,U,b2,aC ht];refine aA (fun hb=>?_) (fun hb=>?_)
   ·simp only[go_sem,F];refine bC Z ⟨rfl,rfl⟩ (by simp only[go_sem]) (by grind) (fun j' O=>?_);simp only[go_sem];refine hQ _ _ ⟨h0,h1,X,h3,Y,E,dF U J O,j',rfl,(aV U O).symm,?_⟩;rw[jP (show K3 l k o.name=true from Xak.2 ⟨t,Xac (i:=m) (by grind),hb⟩)];exact iA (l':=[6]) rfl
   ·simp only[go_sem,h0,h1,X,h3,Y,E,F,aa,aW m];exact⟨⟨m+1,ac,rfl,tR ht hn hb⟩,by simp only[aN];omega⟩
  ·have ab:=bG hm ab;subst ab;simp only[go_sem];refine hQ _ _ ⟨h0,h1,X,h3,Y,E,U,j,F,J,?_⟩;simp_all[jN,K3]
 rintro ρ H ⟨h0,h1,X,h3,Y,E,U,j,F,J,Z⟩;generalize aj:es1++opt (K3 l k o.name) (6:Int)=es2 at Z;have av:es2.length<=es1.length+1:=by grind[cK]
 simp only[go_sem,h1,E,U];refine aO (Fc _ _ af.2) ?_;simp only[go_sem,];refine bQ (fun A H'=>A 0=int P/\A 1=int d/\A 2=int T/\A 3=.sl (l.map aY)/\A 4=int k/\A 12=.op i 0 0/\H' i=some (nR o)/\∃j',A 11=.os j'/\j'≠i/\H' j'=some (mA (es2++opt (!gV o.load d) 17))) ?_ fun K hK=>aA (fun hb=>?_) (fun hb=>?_)
 rotate_left
 ·simp only[go_sem,F];refine bC Z ⟨rfl,rfl⟩ (by simp only[go_sem]) (by grind) (fun j' O=>?_);simp only[go_sem];refine hK _ _ ⟨h0,h1,X,h3,Y,E,dF U J O,j',rfl,(aV U O).symm,?_⟩;rw[jP (show(!gV o.load d)=true from hb)];exact iA (l':=[17]) rfl
 ·simp only[go_sem];refine hK _ _ ⟨h0,h1,X,h3,Y,E,U,j,F,J,?_⟩
  grind[jN]
 rintro ρ H ⟨h0,h1,X,h3,Y,E,U,j,F,J,Z⟩;generalize al:es2++opt (!gV o.load d) (17:Int)=es3 at Z;have ao:es3.length<=es2.length+1:=by grind[cK]
 simp only[go_sem,h0,E,U,xZ (show P<=4611686018427387904 by omega)];refine aO (KH _ _ _) ?_;simp only[go_sem,h0,E,U,xZ (show P<=4611686018427387904 by omega)];refine⟨_,fun _=>(KH _ _ _).q rfl,?_⟩;simp only[go_sem,];refine bQ (fun A H'=>A 0=int P/\A 1=int d/\A 2=int T/\A 3=.sl (l.map aY)/\A 4=int k/\A 12=.op i 0 0/\H' i=some (nR o)/\∃j',A 11=.os j'/\j'≠i/\H' j'=some (mA (es3++opt (!inR o.pick.place (-1) ((P:Int)-1)|| !inR o.drop.place (-1) ((P:Int)-1)) 11))) ?_ fun K hK=>aA (fun hb=>?_) (fun hb=>?_)
 rotate_left
 ·simp only[go_sem,F];refine bC Z ⟨rfl,rfl⟩ (by simp only[go_sem]) (by grind) (fun j' O=>?_);simp only[go_sem];refine hK _ _ ⟨h0,h1,X,h3,Y,E,dF U J O,j',rfl,(aV U O).symm,?_⟩;rw[jP (show(!inR o.pick.place (-1) ((P:Int)-1)|| !inR o.drop.place (-1) ((P:Int)-1))=true from hb)];exact iA (l':=[11]) rfl
 ·simp only[go_sem];refine hK _ _ ⟨h0,h1,X,h3,Y,E,U,j,F,J,?_⟩
  grind[jN]
 rintro ρ H ⟨h0,h1,X,h3,Y,E,U,j,F,J,Z⟩;generalize aq:es3++opt (!inR o.pick.place (-1) ((P:Int)-1)|| !inR o.drop.place (-1) ((P:Int)-1)) (11:Int)=es4 at Z;have ap:es4.length<=es3.length+1:=by grind[cK]
 simp only[go_sem,E,U];refine bQ (fun A H'=>A 0=int P/\A 1=int d/\A 2=int T/\A 3=.sl (l.map aY)/\A 4=int k/\A 12=.op i 0 0/\H' i=some (nR o)/\∃j',A 11=.os j'/\j'≠i/\H' j'=some (mA (es4++opt (o.pick.place == -1&&o.drop.place == -1) 19))) ?_ fun K hK=>aA (fun hb=>?_) (fun hb=>?_)
 rotate_left
 ·simp only[go_sem,F];refine bC Z ⟨rfl,rfl⟩ (by simp only[go_sem]) (by grind) (fun j' O=>?_);simp only[go_sem];refine hK _ _ ⟨h0,h1,X,h3,Y,E,dF U J O,j',rfl,(aV U O).symm,?_⟩;rw[jP (show(o.pick.place == -1&&o.drop.place == -1)=true from hb)];exact iA (l':=[19]) rfl
 ·simp only[go_sem];refine hK _ _ ⟨h0,h1,X,h3,Y,E,U,j,F,J,?_⟩
  grind[jN]
 rintro ρ H ⟨h0,h1,X,h3,Y,E,U,j,F,J,Z⟩;generalize au:es4++opt (o.pick.place == -1&&o.drop.place == -1) (19:Int)=es5 at Z;have ak:es5.length<=es4.length+1:=by grind[cK]
 simp only[go_sem,E,U];refine aO (RG _) ?_;simp only[go_sem,E,U];refine⟨_,fun _=>(RG _).q rfl,?_⟩;simp only[go_sem,];refine bQ (fun A H'=>A 0=int P/\A 1=int d/\A 2=int T/\A 3=.sl (l.map aY)/\A 4=int k/\A 12=.op i 0 0/\H' i=some (nR o)/\∃j',A 11=.os j'/\j'≠i/\H' j'=some (mA (es5++opt (jM o.pick != 0||jM o.drop != 0) 14))) ?_ fun K hK=>aA (fun hb=>?_) (fun hb=>?_)
 rotate_left
 ·simp only[go_sem,F];refine bC Z ⟨rfl,rfl⟩ (by simp only[go_sem]) (by grind) (fun j' O=>?_);simp only[go_sem];refine hK _ _ ⟨h0,h1,X,h3,Y,E,dF U J O,j',rfl,(aV U O).symm,?_⟩;rw[jP (show(jM o.pick != 0||jM o.drop != 0)=true from hb)];exact iA (l':=[14]) rfl
 ·simp only[go_sem];refine hK _ _ ⟨h0,h1,X,h3,Y,E,U,j,F,J,?_⟩
  grind[jN]
 rintro ρ H ⟨h0,h1,X,h3,Y,E,U,j,F,J,Z⟩;generalize aw:es5++opt (jM o.pick != 0||jM o.drop != 0) (14:Int)=es6 at Z;have an:es6.length<=es5.length+1:=by grind[cK]
 simp only[go_sem,E,U];refine aO (KH _ _ _) ?_;simp only[go_sem,];refine bQ (fun A H'=>A 0=int P/\A 1=int d/\A 2=int T/\A 3=.sl (l.map aY)/\A 4=int k/\A 12=.op i 0 0/\H' i=some (nR o)/\∃j',A 11=.os j'/\j'≠i/\H' j'=some (mA (es6++opt (!inR o.skills 0 1073741823) 18))) ?_ fun K hK=>aA (fun hb=>?_) (fun hb=>?_)
 rotate_left
 ·simp only[go_sem,F];refine bC Z ⟨rfl,rfl⟩ (by simp only[go_sem]) (by grind) (fun j' O=>?_);simp only[go_sem];refine hK _ _ ⟨h0,h1,X,h3,Y,E,dF U J O,j',rfl,(aV U O).symm,?_⟩;rw[jP (show(!inR o.skills 0 1073741823)=true from hb)];exact iA (l':=[18]) rfl
 ·simp only[go_sem];refine hK _ _ ⟨h0,h1,X,h3,Y,E,U,j,F,J,?_⟩
  grind[jN]
 rintro ρ H ⟨h0,h1,X,h3,Y,E,U,j,F,J,Z⟩;generalize ax:es6++opt (!inR o.skills 0 1073741823) (18:Int)=es7 at Z;have ah:es7.length<=es6.length+1:=by grind[cK]
 simp only[go_sem,E,U];refine aO (KH _ _ _) ?_;simp only[go_sem,E,U];refine⟨_,fun _=>(KH _ _ _).q rfl,?_⟩;simp only[go_sem,X,E,U];refine bQ (fun A H'=>A 0=int P/\A 1=int d/\A 2=int T/\A 3=.sl (l.map aY)/\A 4=int k/\A 12=.op i 0 0/\H' i=some (nR o)/\∃j',A 11=.os j'/\j'≠i/\H' j'=some (mA (es7++opt (!inR o.penalty (-1) 1000000|| !inR o.split 1 4||decide (o.split>1)&&(o.pick.place != -1&&o.drop.place != -1)||decide (o.last< -1)||decide (o.last>=T)||decide (o.now< -1)||decide (o.now>=T)) 2))) ?_ fun K hK=>aA (fun hb=>?_) (fun hb=>?_)
 rotate_left
 ·simp only[go_sem,F];refine bC Z ⟨rfl,rfl⟩ (by simp only[go_sem]) (by grind) (fun j' O=>?_);simp only[go_sem];refine hK _ _ ⟨h0,h1,X,h3,Y,E,dF U J O,j',rfl,(aV U O).symm,?_⟩;rw[jP (show(!inR o.penalty (-1) 1000000|| !inR o.split 1 4||decide (o.split>1)&&(o.pick.place != -1&&o.drop.place != -1)||decide (o.last< -1)||decide (o.last>=T)||decide (o.now< -1)||decide (o.now>=T))=true from hb)];exact iA (l':=[2]) rfl
 ·simp only[go_sem];refine hK _ _ ⟨h0,h1,X,h3,Y,E,U,j,F,J,?_⟩
  grind[jN]
 rintro ρ H ⟨h0,h1,X,h3,Y,E,U,j,F,J,Z⟩;generalize ay:es7++opt (!inR o.penalty (-1) 1000000|| !inR o.split 1 4||decide (o.split>1)&&(o.pick.place != -1&&o.drop.place != -1)||decide (o.last< -1)||decide (o.last>=T)||decide (o.now< -1)||decide (o.now>=T)) (2:Int)=es8 at Z;have ar:es8.length<=es7.length+1:=by grind[cK]
 simp only[go_sem,F];have ae:lI P d T l k o=es8:=by grind[lI]
 rw[ae];exact .row _ _ _ Z (ConvE.refl _)
def mX(w:ByteArray)(f:Fault):Fault:=⟨f.err,match f.at_.toList == (⟨#[]⟩:ByteArray).toList with|true=>w|false=>w++⟨#[32]⟩++f.at_⟩
def IT(w:ByteArray)(l:List Fault)(hw:w.size<=1048576)(hl:l.length<=5000000000000)(hs:∀f∈l,f.at_.size<=268435456):
  NC prog 22 [str w,.sl (l.map hJ)] (bN (l.map (mX w))) .os:=by
 refine ncb (fun t=>t == 5) func22 rfl rfl ?_;simp only[go_sem];refine aJ fun j hj=>?_
 simp only[go_sem];refine⟨fun ρ H=>∃k:Nat,k<=l.length/\ρ 0=str w/\ρ 1=.sl (l.map hJ)/\ρ 6=int k/\∃j,ρ 5=.os j/\H j=some (bN ((l.take k).map (mX w))),fun ρ _=>l.length-aU (ρ 6),⟨0,Xab _,rfl,rfl,rfl,j,rfl,aB _ _ _⟩,?_⟩;rintro ρ H ⟨k,hk,h0,h1,F,j,O,hH⟩;simp only[go_sem,h1,F];refine aA (fun A=>?_) (fun J=>?_)
 ·have A:=bF A;obtain⟨f,T⟩:=aI A;have X:=inB A;have ab:=hs f (pR T);simp only[go_sem,h0,h1,F,X,aC T];refine bQ (fun E H'=>E 0=str w/\E 1=.sl (l.map hJ)/\E 6=int k/\E 5=.os j/\E 7=str (mX w f).at_/\H'=H) ?_ fun K Y=>aA (fun Z=>?_) (fun Z=>?_)
  ·clear h0 h1 F O;rintro ρ H ⟨h0,h1,F,O,h7,rfl⟩;simp only[go_sem,h1,F,O,h7,X,aC T];refine bC hH ⟨rfl,rfl⟩ (by simp only[go_sem]) (by grind) (fun j' ac=>?_);simp only[go_sem,h0,h1,F,aW k];refine⟨⟨k+1,A,rfl,j',rfl,?_⟩,msr A⟩;rw[FC T];exact fO (l':=[mX w f]) rfl
  ·simp only[go_sem,h0,h1,F,X,aC T];have aa:(#[32]:Array UInt8).size=1:=rfl;refine⟨by grind[Cv],by grind[Cv],Y _ _ ⟨h0,h1,F,O,?_,rfl⟩⟩;have U:(f.at_.toList == (⟨#[]⟩:ByteArray).toList)=false:=by grind
   simp only[go_sem,mX,U]
  ·simp only[go_sem];refine Y _ _ ⟨h0,h1,F,O,?_,rfl⟩;have U:(f.at_.toList == (⟨#[]⟩:ByteArray).toList)=true:=by grind
   simp only[go_sem,mX,U]
 ·have J:=bG hk J;subst J;simp only[go_sem,O]
  grind
def agJ(l:List Order)(i:Nat):Order:=l.getD i ⟨ByteArray.empty,[],⟨0,0,0,0⟩,⟨0,0,0,0⟩,0,0,0,0,0,false⟩
def Lb{l:List Order}{k:Nat}{p:Order}(h:l[k]?=some p):agJ l k=p:=by grind[agJ]
def gQ(n:Network)(d T:Int)(l:List Order)(k:Nat):List Fault:=(lI n.places.length d T l k (agJ l k)).map fun e=>⟨e,mU k⟩
def tE(n:Network)(d T:Int)(l:List Order):List Fault:=opt (decide ((l.length:Int)>10)) ⟨4,ByteArray.empty⟩++(List.range l.length).flatMap (gQ n d T l)
theorem yJ(P:Nat)(d T:Int)(l:List Order)(k:Nat)(o:Order):(lI P d T l k o).length<=9:=by grind[lI,Xaf,cK]
def J3(n:Network)(d T:Int)(l:List Order)(hl:l.length<=1048576)(hs:∀t∈l,t.name.size<=1048576/\t.load.length<=1048576)(hp:n.places.length<=1048576):
  NC prog 25 [.agg (bA n),int d,int T,.sl (l.map aY)] (bN (tE n d T l)) .os:=by
 refine ncb (fun t=>t == 9) func25 rfl rfl ?_;simp only[go_sem];refine aJ fun j hj=>?_
 simp only[go_sem];refine sZ (fun A H'=>A 1=int d/\A 2=int T/\A 3=.sl (l.map aY)/\A 4=.rp (bA n) 0/\∃j',A 9=.os j'/\H' j'=some (bN [])) ⟨rfl,rfl,rfl,rfl,_,rfl,aB _ _ _⟩ ?_;rintro ρ H ⟨h1,O,h3,Y,j,Z,X⟩;generalize ae:([]:List Fault)=es0 at X;have an:es0.length<=0:=by grind
 refine bQ (fun A H'=>A 1=int d/\A 2=int T/\A 3=.sl (l.map aY)/\A 4=.rp (bA n) 0/\∃j',A 9=.os j'/\H' j'=some (bN (es0++opt (decide ((l.length:Int)>10)) ⟨4,ByteArray.empty⟩))) ?_ fun K hK=>aA (fun hb=>?_) (fun hb=>?_)
 rotate_left
 ·simp only[go_sem,Z];refine bC X ⟨rfl,rfl⟩ (by simp only[go_sem]) (by grind) (fun j' aj=>?_);simp only[go_sem];refine hK _ _ ⟨h1,O,h3,Y,j',rfl,?_⟩;rw[jP (show(decide ((l.length:Int)>10))=true from hb)];exact fO (l':=[⟨4,ByteArray.empty⟩]) rfl
 ·simp only[go_sem]
  grind[jN]
 rintro ρ H ⟨h1,O,h3,Y,j,Z,X⟩;generalize af:es0++opt (decide ((l.length:Int)>10)) (⟨4,ByteArray.empty⟩:Fault)=es1 at X;have al:es1.length<=es0.length+1:=by grind[cK]
 simp only[go_sem,];refine⟨fun ρ H=>∃k:Nat,k<=l.length/\ρ 1=int d/\ρ 2=int T/\ρ 3=.sl (l.map aY)/\ρ 4=.rp (bA n) 0/\ρ 10=int k/\∃j,ρ 9=.os j/\H j=some (bN (es1++(List.range k).flatMap (gQ n d T l))),fun ρ _=>l.length-aU (ρ 10),⟨0,Xab _,h1,O,h3,Y,by rfl,j,Z,by grind⟩,?_⟩;rintro ρ H ⟨k,hk,h1,O,h3,Y,F,j,Z,X⟩;generalize ah:es1++(List.range k).flatMap (gQ n d T l)=es at X;have am:es.length<=9*k+1:=by
  have:=fM (f:=gQ n d T l) (c:=9) (fun x=>by grind[gQ,yJ]) (List.range k)
  grind
 simp only[go_sem,h3,F];refine aA (fun U=>?_) (fun ab=>?_)
 ·have U:=bF U;have ak:k<=4611686018427387904:=by omega
  have ao:es1++(List.range (k+1)).flatMap (gQ n d T l)=es++gQ n d T l k:=by grind[iW]
  simp only[go_sem,h1,O,h3,Y,F];obtain⟨o,ho⟩:=aI U;rw[<-Lb ho]at ho;refine aO (apJ n.places.length d T l k _ ho hp hl hs) ?_;simp only[go_sem];have ag:=yJ n.places.length d T l k (agJ l k);have ai:gQ n d T l k=(lI n.places.length d T l k (agJ l k)).map fun e=>⟨e,mU k⟩:=rfl
  generalize lI n.places.length d T l k (agJ l k)=er at ag ai;refine⟨fun ρ H=>∃m:Nat,m<=er.length/\ρ 1=int d/\ρ 2=int T/\ρ 3=.sl (l.map aY)/\ρ 4=.rp (bA n) 0/\ρ 10=int k/\ρ 11=.sl (er.map aQ)/\ρ 12=int m/\∃j,ρ 9=.os j/\H j=some (bN (es++(er.take m).map fun e=>⟨e,mU k⟩)),fun ρ _=>er.length-aU (ρ 12),⟨0,Xab _,h1,O,h3,Y,F,rfl,by rfl,j,Z,by grind⟩,?_⟩;rintro ρ H ⟨m,hm,h1,O,h3,Y,F,ac,aa,j,Z,X⟩;simp only[go_sem,ac,aa];refine aA (fun E=>?_) (fun J=>?_)
  ·have E:=bF E;obtain⟨e,he⟩:=aI E;have b2:=inB E;simp only[go_sem];refine I3 (by kernel_rfl) ?_;simp only[go_sem,F,Z,ac,aa,b2,aC he];refine⟨_,(vO _ (by omega)).q rfl,?_⟩;simp only[go_sem];refine bC X ⟨rfl,rfl⟩ (by simp only[go_sem]) (by simp;omega) (fun j' aj=>?_);simp only[go_sem,h1,O,h3,Y,F,ac,aa,aW m];refine⟨⟨m+1,E,rfl,j',rfl,?_⟩,by simp only[aN];omega⟩;rw[FC he,<-Xbk];exact fO (l':=[⟨e,mU k⟩]) rfl
  ·have J:=bG hm J;subst J;simp only[go_sem,h1,O,h3,Y,F,Z,qK ak];refine⟨⟨k+1,U,rfl,j,rfl,?_⟩,by simp only[aN];omega⟩
   grind
 ·have ab:=bG hk ab;subst ab;simp only[go_sem,Z];exact⟨_,rfl,by rw[X,<-ah,<-af,<-ae];rfl⟩
def pAt(l:List Pair)(i:Nat):Pair:=l.getD i ⟨0,0⟩
def PZ{l:List Pair}{k:Nat}{p:Pair}(h:l[k]?=some p):pAt l k=p:=by grind[pAt]
def HV(w:ByteArray)(k:Nat):ByteArray:=w++⟨#[32]⟩++mU k
def rR(N:Int)(p:Pair):Bool:=decide (p.a<0)||decide (p.a>=N)||decide (p.b<0)||decide (p.b>=N)||p.a == p.b
def CI(b:Bool)(p q:Pair):Bool:=(q.a == p.a&&q.b == p.b)||(b&&q.a == p.b&&q.b == p.a)
def iB(N:Int)(l:List Pair)(w:ByteArray)(b:Bool)(k:Nat):List Fault:=match rR N (pAt l k)with
 | true=>[⟨2,HV w k⟩]
 | false=>opt ((l.take k).any (CI b (pAt l k))) ⟨6,HV w k⟩
def CJ(N:Int)(l:List Pair)(w:ByteArray)(b:Bool)(k:Nat):(iB N l w b k).length<=1:=by grind[iB,cK]
def yV(N:Int)(l:List Pair)(w:ByteArray)(b:Bool):List Fault:=opt (decide ((l.length:Int)>16)) ⟨4,w⟩++(List.range l.length).flatMap (iB N l w b)
def Sc(N:Int)(l:List Pair)(w:ByteArray)(b:Bool)(hl:l.length<=1048576)(hw:w.size<=1048576):
  NC prog 53 [int N,.sl (l.map cZ),str w,boo b] (bN (yV N l w b)) .os:=by
 refine ncb (fun t=>t == 9) func53 rfl rfl ?_;simp only[go_sem];refine aJ fun j hj=>?_
 simp only[go_sem];refine sZ (fun A H'=>A 0=int N/\A 1=.sl (l.map cZ)/\A 2=str w/\A 3=boo b/\∃j',A 9=.os j'/\H' j'=some (bN [])) ⟨rfl,rfl,rfl,rfl,_,rfl,aB _ _ _⟩ ?_;rintro ρ H ⟨h0,h1,F,h3,j,J,T⟩;generalize aa:([]:List Fault)=es0 at T;have ap:es0.length<=0:=by grind
 refine bQ (fun A H'=>A 0=int N/\A 1=.sl (l.map cZ)/\A 2=str w/\A 3=boo b/\∃j',A 9=.os j'/\H' j'=some (bN (es0++opt (decide ((l.length:Int)>16)) ⟨4,w⟩))) ?_ fun K hK=>aA (fun Y=>?_) (fun Y=>?_)
 rotate_left
 ·simp only[go_sem,F,J];refine bC T ⟨rfl,rfl⟩ (by simp only[go_sem]) (by grind) (fun j' af=>?_);simp only[go_sem];refine hK _ _ ⟨h0,h1,F,h3,j',rfl,?_⟩;rw[jP (show(decide ((l.length:Int)>16))=true from Y)];exact fO (l':=[⟨4,w⟩]) rfl
 ·simp only[go_sem]
  grind[jN]
 rintro ρ H ⟨h0,h1,F,h3,j,J,T⟩;generalize ag:es0++opt (decide ((l.length:Int)>16)) (⟨4,w⟩:Fault)=es1 at T;have an:es1.length<=es0.length+1:=by grind[cK]
 simp only[go_sem,];refine⟨fun ρ H=>∃k:Nat,k<=l.length/\ρ 0=int N/\ρ 1=.sl (l.map cZ)/\ρ 2=str w/\ρ 3=boo b/\ρ 10=int k/\∃j,ρ 9=.os j/\H j=some (bN (es1++(List.range k).flatMap (iB N l w b))),fun ρ _=>l.length-aU (ρ 10),
  ⟨0,Xab _,h0,h1,F,h3,by rfl,j,J,by grind⟩,?_⟩
 rintro ρ H ⟨k,hk,h0,h1,F,h3,E,j,J,T⟩;generalize aj:es1++(List.range k).flatMap (iB N l w b)=es at T;have ao:es.length<=k+1:=by
  have:=fM (CJ N l w b) (List.range k)
  grind
 simp only[go_sem,h1,E];refine aA (fun O=>?_) (fun Z=>?_)
 ·have O:=bF O;have ah:k<=4611686018427387904:=by omega
  obtain⟨p,hp⟩:=aI O;have b1:=inB O;have ar:=qB k;have aq:(#[32]:Array UInt8).size=1:=rfl;have ai:es1++(List.range (k+1)).flatMap (iB N l w b)=es++iB N l w b k:=by grind[iW]
  simp only[go_sem,h1,F,E,b1,aC hp];refine⟨by omega,by omega,by grind[Cv],?_⟩;refine aO (awR _ (by omega)) ?_;simp only[go_sem,h0,];refine⟨by grind[Cv],?_⟩;refine aA (fun Y=>?_) (fun Y=>?_)
  ·simp only[go_sem,J];refine bC T ⟨rfl,rfl⟩ (by simp only[go_sem]) (by grind) (fun j' af=>?_);simp only[go_sem,h0,h1,F,h3,E,qK ah];refine⟨⟨k+1,O,rfl,j',rfl,?_⟩,by simp only[aN];omega⟩;have hn:rR N (pAt l k)=true:=by rw[PZ hp];exact Y
   rw[ai,iB,hn];exact fO (l':=[⟨2,HV w k⟩]) rfl
  ·simp only[go_sem,];have hn:rR N (pAt l k)=false:=by rw[PZ hp];exact Y
   refine⟨fun ρ H'=>∃m:Nat,m<=k/\ρ 0=int N/\ρ 1=.sl (l.map cZ)/\ρ 2=str w/\ρ 3=boo b/\ρ 9=.os j/\ρ 10=int k/\ρ 11=int p.a/\ρ 12=int p.b/\ρ 13=str (HV w k)/\ρ 14=boo ((l.take m).any (CI b p))/\ρ 15=int m/\H'=H,fun ρ _=>k-aU (ρ 15),
    ⟨0,Xab _,h0,h1,F,h3,J,E,rfl,rfl,by rfl,by rfl,by rfl,rfl⟩,?_⟩
   rintro ρ H' ⟨m,hm,h0,h1,F,h3,J,E,am,ak,ab,ae,ac,rfl⟩;simp only[go_sem,E,ac];refine aA (fun X=>?_) (fun U=>?_)
   ·have X:=bF X;obtain⟨q,hq⟩:=aI (show m<l.length by omega);have b2:=inB (show m<l.length by omega);simp only[go_sem,h0,h1,F,h3,J,E,am,ak,ab,ae,ac,b2,aC hq,aW m];refine⟨fun _=>by omega,fun _=>by omega,fun _=>by omega,fun _=>by omega,⟨m+1,X,?_,rfl⟩,by grind[aN]⟩;simp_all[Kj,CI,Bool.or_assoc]
   ·have U:=bG hm U;subst U;simp only[go_sem,ae];have al:(l.take m).any (CI b (pAt l m))=(l.take m).any (CI b p):=by rw[PZ hp]
    refine qN (fun A H'=>A 0=int N/\A 1=.sl (l.map cZ)/\A 2=str w/\A 3=boo b/\A 10=int m/\∃j,A 9=.os j/\H' j=some (bN (es1++(List.range (m+1)).flatMap (iB N l w b)))) ?_ fun K hK _ _=>aA (fun Y=>?_) (fun Y=>?_)
    ·clear T h0 h1 F h3 J E;rintro ρ H ⟨h0,h1,F,h3,E,j,J,T⟩;simp only[go_sem,h0,h1,F,h3,J,E,qK ah];exact⟨⟨m+1,O,rfl,j,rfl,T⟩,by simp only[aN];omega⟩
    ·simp only[go_sem,J,ab];refine bC T ⟨rfl,rfl⟩ (by simp only[go_sem]) (by grind) (fun j' af=>?_);simp only[go_sem];refine hK _ _ ⟨h0,h1,F,h3,E,j',rfl,?_⟩;rw[ai,iB,hn];show _=some (bN (es++opt _ ⟨6,HV w m⟩));rw[jP (al.trans Y)];exact fO (l':=[⟨6,HV w m⟩]) rfl
    ·simp only[go_sem];refine hK _ _ ⟨h0,h1,F,h3,E,j,J,?_⟩;simp_all[iB,jN]
 ·have Z:=bG hk Z;subst Z;simp only[go_sem,J];exact⟨_,rfl,by rw[T,<-aj,<-ag,<-aa];rfl⟩
def sV:∀l:List Fault,cQ 2 (l.map hJ)
 | []=>trivial
 | f::r=>⟨rfl,sV r⟩
def AM(N:Int)(l:List Pair)(w:ByteArray)(b:Bool):(yV N l w b).length<=l.length+1:=by
 have:=fM (CJ N l w b) (List.range l.length)
 grind[cK,yV]
def Qh(N:Int)(E A:List Pair)(T:E.length<=1048576)(F:A.length<=1048576):
  NC prog 27 [int N,.sl (E.map cZ),.sl (A.map cZ)] (bN (yV N E ⟨#[97,112,97,114,116]⟩ true++yV N A ⟨#[98,101,102,111,114,101]⟩ false)) .os:=by
 refine ncb (fun t=>t == 7) func27 rfl rfl ?_;simp only[go_sem];refine NC.use (Sc N E ⟨#[97,112,97,114,116]⟩ true T (by decide)) fun j X=>?_
 simp only[go_sem];refine NC.use (Sc N A ⟨#[98,101,102,111,114,101]⟩ false F (by decide)) fun i O=>?_
 simp only[go_sem];have Y:=AM N E ⟨#[97,112,97,114,116]⟩ true;have U:=AM N A ⟨#[98,101,102,111,114,101]⟩ false;refine E7 (jW (aB _ _ _) O) (aB _ _ _) ⟨rfl,rfl⟩ (sV _) (by grind) (fun j' J=>?_);simp only[go_sem]
 grind[fO]
def NC.pc{f:FuncId}{args:List AV}{row:Row}(h:NC prog f args row .os):PC prog f args (.sl row.es):=
 RC.conv (RC.mono h fun r H' ⟨k,e,A⟩=>by subst e;exact .row k row row.es A (ConvE.refl _))
def qO(l:List Arc)(i:Nat):Arc:=l.getD i ⟨0,0,0,0,[],[]⟩
theorem yZ{l:List Arc}{k:Nat}{p:Arc}(h:l[k]?=some p):qO l k=p:=by grind[qO]
def jR(k:Nat):ByteArray:=⟨#[97,114,99,32]⟩++mU k
def Da(N:Int)(a:Arc):Bool:=decide (a.src<0)||decide (a.src>=N)||decide (a.dst<0)||decide (a.dst>=N)
def D7(a:Arc):Bool:=decide (a.profile<0)||decide (a.profile>7)||decide (a.miles<0)||decide (a.miles>10000)||a.src == a.dst
def A7(a b:Arc):Bool:=a.src == b.src&&a.dst == b.dst&&a.profile == b.profile
def qW(l:List Point)(i:Nat):Bool:= !inR (eI l i).t 0 4096|| !inR (eI l i).a 0 4096||decide ((i:Int)>0)&&decide ((eI l i).t<=(eI l (i-1)).t)
def IJ(n:Network)(k:Nat):List Fault:=
 []++opt (Da n.places.length (qO n.arcs k)) ⟨11,jR k⟩++opt (D7 (qO n.arcs k)) ⟨2,jR k⟩++opt ((n.arcs.take k).any (A7 (qO n.arcs k))) ⟨6,jR k⟩
   ++ (jY (qO n.arcs k).travel).map (fun f=>⟨f.err,jR k⟩)++opt (decide (((qO n.arcs k).slow.length:Int)>16)) ⟨4,jR k⟩
   ++ (List.range (qO n.arcs k).slow.length).flatMap fun i=>opt (qW (qO n.arcs k).slow i) ⟨2,jR k⟩
def abJ(l:List Point)(A:l.length<=1048576):PC prog 85 [.sl (l.map cF)] (.sl ((jY l).map hJ)):=NC.pc (alH l A)
def HK(l:List Point):(jY l).length<=2*l.length+1:=by
 have:=fM (aoM l) (List.range l.length)
 grind[cK,jY]
def aBt(n:Network)(k:Nat)(hk:k<n.arcs.length)(hp:n.places.length<=1048576)(hl:n.arcs.length<=1048576)(hs:∀a∈n.arcs,a.travel.length<=1048576/\a.slow.length<=1048576):
  NC prog 48 [.agg (bA n),int k] (bN (IJ n k)) .os:=by
 refine ncb (fun t=>t == 5) func48 rfl rfl ?_;simp only[go_sem];obtain⟨a,ha⟩:=aI hk;have b1:=inB hk;have ak:=hs a (pR ha);have a7:=qB k;refine aJ fun j hj=>?_
 simp only[go_sem];refine aO (vO _ (by omega)) ?_;simp only[go_sem,b1,aC ha];have h4:(#[97,114,99,32]:Array UInt8).size=4:=rfl;refine⟨by grind[Cv],aJ fun i F=>?_⟩;simp only[go_sem];refine aM (aB _ _ _) (by simp[pJ]) ?_;simp only[go_sem];have E:j≠i:=aV (aB _ _ _) F;have a8:jR k=⟨#[97,114,99,32]⟩++mU k:=rfl;refine sZ (fun A H'=>A 1=int k/\A 2=.rp (bA n) 0/\A 6=str (jR k)/\A 7=.op i 0 0/\H' i=some (yR a)/\∃j',A 5=.os j'/\j'≠i/\H' j'=some (bN []))
  ⟨rfl,rfl,by rfl,rfl,aB _ _ _,j,rfl,E,by grind[aD,aB]⟩ ?_
 rintro ρ H ⟨h1,h2,T,U,F,j,X,E,Y⟩;generalize au:([]:List Fault)=es0 at Y;have ar:es0.length<=0:=by grind
 refine bQ (fun A H'=>A 1=int k/\A 2=.rp (bA n) 0/\A 6=str (jR k)/\A 7=.op i 0 0/\H' i=some (yR a)/\∃j',A 5=.os j'/\j'≠i/\H' j'=some (bN (es0++opt (Da n.places.length a) ⟨11,jR k⟩))) ?_ fun K hK=>aA (fun hb=>?_) (fun hb=>?_)
 rotate_left
 ·simp only[go_sem,T,X];refine bC Y ⟨rfl,rfl⟩ (by simp only[go_sem]) (by grind) (fun j' J=>?_);simp only[go_sem];refine hK _ _ ⟨h1,h2,T,U,dF F E J,j',rfl,(aV F J).symm,?_⟩;rw[jP (show(Da n.places.length a)=true from hb)];exact fO (l':=[⟨11,jR k⟩]) rfl
 ·simp only[go_sem]
  grind[jN,Da]
 rintro ρ H ⟨h1,h2,T,U,F,j,X,E,Y⟩;generalize ao:es0++opt (Da n.places.length a) (⟨11,jR k⟩:Fault)=es1 at Y;have av:es1.length<=es0.length+1:=by grind[cK]
 simp only[go_sem,U,F];refine bQ (fun A H'=>A 1=int k/\A 2=.rp (bA n) 0/\A 6=str (jR k)/\A 7=.op i 0 0/\H' i=some (yR a)/\∃j',A 5=.os j'/\j'≠i/\H' j'=some (bN (es1++opt (D7 a) ⟨2,jR k⟩))) ?_ fun K hK=>aA (fun hb=>?_) (fun hb=>?_)
 rotate_left
 ·simp only[go_sem,T,X];refine bC Y ⟨rfl,rfl⟩ (by simp only[go_sem]) (by grind) (fun j' J=>?_);simp only[go_sem];refine hK _ _ ⟨h1,h2,T,U,dF F E J,j',rfl,(aV F J).symm,?_⟩;rw[jP (show(D7 a)=true from hb)];exact fO (l':=[⟨2,jR k⟩]) rfl
 ·simp only[go_sem];refine hK _ _ ⟨h1,h2,T,U,F,j,X,E,?_⟩
  grind[jN,D7]
 rintro ρ H ⟨h1,h2,T,U,F,j,X,E,Y⟩;generalize aw:es1++opt (D7 a) (⟨2,jR k⟩:Fault)=es2 at Y;have a4:es2.length<=es1.length+1:=by grind[cK]
 simp only[go_sem,];refine⟨fun A H'=>∃m:Nat,m<=k/\A 1=int k/\A 2=.rp (bA n) 0/\A 6=str (jR k)/\A 7=.op i 0 0/\A 5=.os j/\A 8=boo ((n.arcs.take m).any (A7 a))/\A 9=int m/\H' i=some (yR a)/\H' j=some (bN es2),fun ρ _=>k-aU (ρ 9),
  ⟨0,Xab _,h1,h2,T,U,X,by rfl,by rfl,F,Y⟩,?_⟩
 rintro ρ H ⟨m,hm,h1,h2,T,U,X,h8,h9,F,Y⟩;simp only[go_sem,h1,h9];refine aA (fun O=>?_) (fun Z=>?_)
 ·have O:=bF O;obtain⟨c,hc⟩:=aI (show m<n.arcs.length by omega);have b2:=inB (show m<n.arcs.length by omega);simp only[go_sem,h2,h9,b2,aC hc];refine aJ fun x hx=>?_
  simp only[go_sem];refine aM (aB _ _ _) (by simp[pJ]) ?_;have ab:=aV F hx;have ac:=aV Y hx;simp only[go_sem,h1,h2,T,U,X,h8,h9,aD _ _ _ _ ab,F,aW m];refine⟨⟨m+1,O,?_,rfl,?_⟩,by grind[aN]⟩
  all_goals grind[Kj,A7,aD]
 ·have Z:=bG hm Z;subst Z;simp only[go_sem,h8];refine bQ (fun A H'=>A 6=str (jR m)/\A 7=.op i 0 0/\H' i=some (yR a)/\∃j',A 5=.os j'/\j'≠i/\H' j'=some (bN (es2++opt ((n.arcs.take m).any (A7 a)) ⟨6,jR m⟩))) ?_ fun K hK=>aA (fun hb=>?_) (fun hb=>?_)
  rotate_left
  ·simp only[go_sem,T,X];refine bC Y ⟨rfl,rfl⟩ (by simp only[go_sem]) (by grind) (fun j' J=>?_);simp only[go_sem];refine hK _ _ ⟨T,U,dF F E J,j',rfl,(aV F J).symm,?_⟩;rw[jP (show((n.arcs.take m).any (A7 a))=true from hb)];exact fO (l':=[⟨6,jR m⟩]) rfl
  ·simp only[go_sem];refine hK _ _ ⟨T,U,F,j,X,E,?_⟩
   grind[jN]
  rintro ρ H ⟨T,U,F,j,X,E,Y⟩;generalize an:es2++opt ((n.arcs.take m).any (A7 a)) (⟨6,jR m⟩:Fault)=es3 at Y;have ay:es3.length<=es2.length+1:=by grind[cK]
  simp only[go_sem,U,F];refine aO (abJ a.travel ak.1) ?_;simp only[go_sem];have al:=HK a.travel;have am:(jY (qO n.arcs m).travel).map (fun f=>(⟨f.err,jR m⟩:Fault))=(jY a.travel).map (fun f=>⟨f.err,jR m⟩):=by rw[yZ ha]
  generalize jY a.travel=tr at al am;refine⟨fun ρ H=>∃q:Nat,q<=tr.length/\ρ 6=str (jR m)/\ρ 7=.op i 0 0/\ρ 11=.sl (tr.map hJ)/\ρ 12=int q/\H i=some (yR a)/\∃j,ρ 5=.os j/\j≠i/\H j=some (bN (es3++(tr.take q).map fun f=>⟨f.err,jR m⟩)),fun ρ _=>tr.length-aU (ρ 12),
   ⟨0,Xab _,T,U,rfl,by rfl,F,j,X,E,by grind⟩,?_⟩
  rintro ρ H ⟨q,hq,T,U,af,ae,F,j,X,E,Y⟩;simp only[go_sem,af,ae];refine aA (fun O=>?_) (fun Z=>?_)
  ·have O:=bF O;obtain⟨f,hf⟩:=aI O;have b2:=inB O;simp only[go_sem,T,X,af,ae,b2,aC hf];refine bC Y ⟨rfl,rfl⟩ (by simp only[go_sem]) (by grind) (fun j' J=>?_);simp only[go_sem,T,U,af,ae,aW q];refine⟨⟨q+1,O,rfl,dF F E J,j',rfl,(aV F J).symm,?_⟩,by grind[aN]⟩;rw[FC hf,<-Xbk];exact fO (l':=[⟨f.err,jR m⟩]) rfl
  ·have Z:=bG hq Z;subst Z;simp only[go_sem,U,F];rw[Xad]at Y;generalize aq:es3++tr.map (fun f=>(⟨f.err,jR m⟩:Fault))=es4 at Y;have az:es4.length=es3.length+tr.length:=by grind
   refine bQ (fun A H'=>A 6=str (jR m)/\A 7=.op i 0 0/\H' i=some (yR a)/\∃j',A 5=.os j'/\j'≠i/\H' j'=some (bN (es4++opt (decide ((a.slow.length:Int)>16)) ⟨4,jR m⟩))) ?_ fun K hK=>aA (fun hb=>?_) (fun hb=>?_)
   rotate_left
   ·simp only[go_sem,T,X];refine bC Y ⟨rfl,rfl⟩ (by simp only[go_sem]) (by grind) (fun j' J=>?_);simp only[go_sem];refine hK _ _ ⟨T,U,dF F E J,j',rfl,(aV F J).symm,?_⟩;rw[jP (show(decide ((a.slow.length:Int)>16))=true from hb)];exact fO (l':=[⟨4,jR m⟩]) rfl
   ·simp only[go_sem];refine hK _ _ ⟨T,U,F,j,X,E,?_⟩
    grind[jN]
   rintro ρ H ⟨T,U,F,j,X,E,Y⟩;generalize a0:es4++opt (decide ((a.slow.length:Int)>16)) (⟨4,jR m⟩:Fault)=es5 at Y;have ax:es5.length<=es4.length+1:=by grind[cK]
   simp only[go_sem,];refine⟨fun ρ H=>∃k:Nat,k<=a.slow.length/\ρ 6=str (jR m)/\ρ 7=.op i 0 0/\ρ 13=int k/\H i=some (yR a)/\∃j,ρ 5=.os j/\j≠i/\H j=some (bN (es5++(List.range k).flatMap fun x=>opt (qW a.slow x) ⟨2,jR m⟩)),fun ρ _=>a.slow.length-aU (ρ 13),
    ⟨0,Xab _,T,U,by rfl,F,j,X,E,by grind⟩,?_⟩
   rintro ρ H ⟨k,hk,T,U,aa,F,j,X,E,Y⟩;generalize a6:es5++(List.range k).flatMap (fun x=>opt (qW a.slow x) (⟨2,jR m⟩:Fault))=es at Y;have ap:es.length<=es5.length+k:=by
    have:=fM (f:=fun x=>opt (qW a.slow x) (⟨2,jR m⟩:Fault)) (c:=1) (fun x=>cK _ _) (List.range k)
    grind
   simp only[go_sem,U,aa,F];refine aA (fun O=>?_) (fun Z=>?_)
   ·have O:=bF O;have aj:k<=4611686018427387904:=by omega
    obtain⟨p,hp⟩:=aI O;obtain⟨r,hr⟩:=aI (show k-1<a.slow.length by omega);have b2:=inB O;simp only[go_sem,U,aa,F,b2,aC hp];refine aJ fun x hx=>?_
    simp only[go_sem];refine aM (aB _ _ _) (by simp[jJ]) ?_;have ab:=aV F hx;have ac:=aV Y hx;simp only[go_sem];refine mC (by rfl) (by kernel_rfl) ?_;simp only[go_sem,];refine⟨_,(alZ _).q rfl,?_⟩;simp only[go_sem,];refine⟨_,fun _=>(alZ _).q rfl,?_⟩;simp only[go_sem,T,U,X,aa,aD _ _ _ _ ab,F,anG aj,aC hr];have ag:aH (aH H x (some ⟨116,2,[[int 0,int 0]]⟩)) x (some ⟨116,2,[cF p]⟩) i=some (yR a):=by rw[aD _ _ _ _ ab,aD _ _ _ _ ab,F]
    have ai:aH (aH H x (some ⟨116,2,[[int 0,int 0]]⟩)) x (some ⟨116,2,[cF p]⟩) j=some (bN es):=by rw[aD _ _ _ _ ac,aD _ _ _ _ ac,Y]
    have ah:qW a.slow k=(!inR p.t 0 4096|| !inR p.a 0 4096||decide ((k:Int)>0)&&decide (p.t<=r.t)):=by simp_all[qW,fG]
    have a5:es5++(List.range (k+1)).flatMap (fun x=>opt (qW a.slow x) (⟨2,jR m⟩:Fault))=es++opt (qW a.slow k) ⟨2,jR m⟩:=by grind[iW]
    refine⟨fun h=>by grind[xZ],qN (fun A H'=>A 6=str (jR m)/\A 7=.op i 0 0/\A 13=int k/\H' i=some (yR a)/\∃j,A 5=.os j/\j≠i/\H' j=some (bN (es++opt (qW a.slow k) ⟨2,jR m⟩))) ?_ fun K hK _ _=>aA (fun hb=>?_) (fun hb=>?_)⟩
    ·clear T U X aa;rintro ρ H ⟨T,U,aa,F,j,X,E,Y⟩;simp only[go_sem,T,U,X,aa,qK aj];exact⟨⟨k+1,O,rfl,F,j,rfl,E,by grind⟩,by simp only[aN];omega⟩
    ·simp only[go_sem,T,X];refine bC ai ⟨rfl,rfl⟩ (by simp only[go_sem]) (by grind) (fun j' J=>?_);simp only[go_sem];refine hK _ _ ⟨T,U,aa,dF ag E J,j',rfl,(aV ag J).symm,?_⟩;rw[jP (ah.trans hb)];exact fO (l':=[⟨2,jR m⟩]) rfl
    ·simp only[go_sem];refine hK _ _ ⟨T,U,aa,ag,j,X,E,?_⟩;rw[jN (ah.trans hb),Xbl,ai]
   ·have Z:=bG hk Z;subst Z;simp only[go_sem,X];simp_all[IJ,yZ]
theorem SJ(n:Network)(k:Nat)(O:(qO n.arcs k).travel.length<=1048576)(J:(qO n.arcs k).slow.length<=1048576):(IJ n k).length<=3145740:=by
 have h1:=cK (Da n.places.length (qO n.arcs k)) (⟨11,jR k⟩:Fault);have E:=cK (D7 (qO n.arcs k)) (⟨2,jR k⟩:Fault);have h3:=cK ((n.arcs.take k).any (A7 (qO n.arcs k))) (⟨6,jR k⟩:Fault);have T:=HK (qO n.arcs k).travel;have F:=cK (decide (((qO n.arcs k).slow.length:Int)>16)) (⟨4,jR k⟩:Fault);have A:=fM (f:=fun i=>opt (qW (qO n.arcs k).slow i) (⟨2,jR k⟩:Fault)) (c:=1) (fun x=>cK _ _) (List.range (qO n.arcs k).slow.length)
 grind[IJ]
def HU{α A:Type}{f:α->List A}{c:Nat}:∀l:List α,(∀x∈l,(f x).length<=c)->(l.flatMap f).length<=c*l.length
 | [],_=>by simp
 | x::r,h=>by
  have h1:=h x (by simp);have E:=HU r fun y F=>h y (by grind)
  simp_all;grind
def Ks(n:Network):List Fault:=Ax n.places++opt (decide ((n.arcs.length:Int)>1024)) ⟨4,⟨#[97,114,99,115]⟩⟩++(List.range n.arcs.length).flatMap (IJ n)
def Ht(l:List ByteArray):(Ax l).length<=l.length+1:=by
 have:=fM (Yx l) (List.range l.length)
 grind[cK,Ax]
def aBe(n:Network)(hp:n.places.length<=1048576)(Z:∀s∈n.places,s.size<=1048576)(hl:n.arcs.length<=1048576)(hs:∀a∈n.arcs,a.travel.length<=1048576/\a.slow.length<=1048576):
  NC prog 23 [.agg (bA n)] (bN (Ks n)) .os:=by
 have U:∀k,(IJ n k).length<=3145740:=fun k=>by grind[SJ,qO]
 have aa:=Ht n.places;refine ncb (fun t=>t == 3) func23 rfl rfl ?_;simp only[go_sem];refine NC.use (ajH n hp Z) fun j hj=>?_
 simp only[go_sem];refine sZ (fun A H'=>A 1=.rp (bA n) 0/\∃j',A 3=.os j'/\H' j'=some (bN (Ax n.places))) ⟨rfl,j,rfl,aB _ _ _⟩ ?_;rintro ρ H ⟨h1,j,h3,F⟩;generalize O:Ax n.places=es0 at F aa;refine bQ (fun A H'=>A 1=.rp (bA n) 0/\∃j',A 3=.os j'/\H' j'=some (bN (es0++opt (decide ((n.arcs.length:Int)>1024)) ⟨4,⟨#[97,114,99,115]⟩⟩))) ?_ fun K hK=>aA (fun hb=>?_) (fun hb=>?_)
 rotate_left
 ·simp only[go_sem,h3];refine bC F ⟨rfl,rfl⟩ (by simp only[go_sem]) (by grind) (fun j' Y=>?_);simp only[go_sem];refine hK _ _ ⟨h1,j',rfl,?_⟩;rw[jP (show(decide ((n.arcs.length:Int)>1024))=true from hb)];exact fO (l':=[⟨4,⟨#[97,114,99,115]⟩⟩]) rfl
 ·simp only[go_sem]
  grind[jN]
 rintro ρ H ⟨h1,j,h3,F⟩;generalize T:es0++opt (decide ((n.arcs.length:Int)>1024)) (⟨4,⟨#[97,114,99,115]⟩⟩:Fault)=es1 at F;have ab:es1.length<=es0.length+1:=by grind[cK]
 simp only[go_sem,];refine⟨fun ρ H=>∃k:Nat,k<=n.arcs.length/\ρ 1=.rp (bA n) 0/\ρ 4=int k/\∃j,ρ 3=.os j/\H j=some (bN (es1++(List.range k).flatMap (IJ n))),fun ρ _=>n.arcs.length-aU (ρ 4),⟨0,Xab _,h1,by rfl,j,h3,by grind⟩,?_⟩;rintro ρ H ⟨k,hk,h1,h4,j,h3,F⟩;generalize X:es1++(List.range k).flatMap (IJ n)=es at F;have ac:es.length<=es1.length+3145740*k:=by
  have:=fM U (List.range k)
  grind
 simp only[go_sem,h1,h4];refine aA (fun E=>?_) (fun J=>?_)
 ·have E:=bF E;simp only[go_sem,h1,h3,h4];refine NC.use (aBt n k E hp hl hs) fun i hi=>?_
  simp only[go_sem];have:=U k;refine E7 (jW F hi) (aB _ _ _) ⟨rfl,rfl⟩ (sV _) (by grind) (fun j' Y=>?_);simp only[go_sem,h1,h4,aW k];refine⟨⟨k+1,E,rfl,j',rfl,?_⟩,by grind[aN]⟩
  grind[iW,fO]
 ·have J:=bG hk J;subst J;simp only[go_sem,h3];exact⟨_,rfl,by rw[F,<-X,<-T,<-O];rfl⟩
def uJ(l:List Fault):Prop:=∀f∈l,f.at_.size<=4194304
def agH:uJ []:=by simp[uJ]
def jS{a b:List Fault}(E:uJ a)(A:uJ b):uJ (a++b):=fun f F=>(Xat.1 F).elim (E f) (A f)
theorem iQ{b:Bool}{f:Fault}(h:f.at_.size<=4194304):uJ (opt b f):=by cases b<;>grind[uJ,opt]
def sT{α:Type}{F:α->List Fault}{l:List α}(h:∀x∈l,uJ (F x)):uJ (l.flatMap F):=fun f A=>by obtain⟨x,E,A⟩:=Xbp.1 A;exact h x E f A
def G4{α:Type}{F:α->Fault}{l:List α}(h:∀x∈l,(F x).at_.size<=4194304):uJ (l.map F):=fun f A=>by grind
def E0{i n:Nat}(h:i∈List.range n):i<n:=Xai.1 h
theorem afR(i:Nat):(jR i).size<=i+5:=by have:=qB i;unfold jR;rw[ByteArray.size_append];have:(⟨#[97,114,99,32]⟩:ByteArray).size=4:=rfl;omega
def Wb(w:ByteArray)(i:Nat):(HV w i).size<=w.size+i+2:=by have:=qB i;unfold HV;rw[ByteArray.size_append,ByteArray.size_append];have:(⟨#[32]⟩:ByteArray).size=1:=rfl;omega
def ON(l:List ByteArray)(h:l.length<=1048576):uJ (Ax l):=jS (iQ (by decide)) (sT fun i A=>by
 have:=E0 A;have:=Uk i;unfold gR;split
 ·exact iQ (b:=true) (by grind)
 grind[iQ])
def aeW(n:Network)(E:n.places.length<=1048576)(F:n.arcs.length<=1048576):uJ (Ks n):=by
 refine jS (jS (ON _ E) (iQ (by decide))) (sT fun i A=>?_);have:=E0 A;have h:(jR i).size<=4194304:=by grind[afR]
 exact jS (jS (jS (jS (jS (jS agH (iQ h)) (iQ h)) (iQ h)) (G4 fun _ _=>h)) (iQ h)) (sT fun _ _=>iQ h)
def Rb(n:Network)(l:List VType)(E:l.length<=1048576):uJ (vR n l):=
 jS (iQ (by decide)) (sT fun i A=>G4 fun _ _=>by grind[qB])
def Pl(n:Network)(d T:Int)(l:List Order)(E:l.length<=1048576):uJ (tE n d T l):=
 jS (iQ (by decide)) (sT fun i A=>G4 fun _ _=>by grind[qB])
def Ij(N:Int)(l:List Pair)(w:ByteArray)(b:Bool)(E:l.length<=1048576)(F:w.size<=100):uJ (yV N l w b):=jS (iQ (by grind)) (sT fun i A=>by
 have:=E0 A;have:=Wb w i;unfold iB;split
 ·exact iQ (b:=true) (by grind)
 grind[iQ])
def XK(n:Network)(l:List VType):(vR n l).length<=9*l.length+1:=by
 have:=fM (f:=iU n l) (c:=9) (fun x=>by grind[iU,Ar]) (List.range l.length)
 grind[cK,vR]
def QN(n:Network)(d T:Int)(l:List Order):(tE n d T l).length<=9*l.length+1:=by
 have:=fM (f:=gQ n d T l) (c:=9) (fun x=>by grind[gQ,yJ]) (List.range l.length)
 grind[cK,tE]
structure InB(x:Instance):Prop where
 places:x.net.places.length<=1048576
 place:∀s∈x.net.places,s.size<=1048576
 arcs:x.net.arcs.length<=1048576
 arc:∀a∈x.net.arcs,a.travel.length<=1048576/\a.slow.length<=1048576
 types:x.types.length<=1048576
 type:∀t∈x.types,t.name.size<=1048576/\t.cap.length<=1048576
 orders:x.orders.length<=1048576
 order:∀t∈x.orders,t.name.size<=1048576/\t.load.length<=1048576
 apart:x.apart.length<=1048576
 before:x.before.length<=1048576
def FV(x:Instance):List Fault:=yV x.orders.length x.apart ⟨#[97,112,97,114,116]⟩ true++yV x.orders.length x.before ⟨#[98,101,102,111,114,101]⟩ false
def kZ(x:Instance):List Fault:=(Ks x.net).map (mX ⟨#[110,101,116]⟩)++(vR x.net x.types).map (mX ⟨#[116,121,112,101,115]⟩) ++
 (tE x.net (gX x.types) x.types.length x.orders).map (mX ⟨#[111,114,100,101,114,115]⟩)++(FV x).map (mX ⟨#[114,117,108,101,115]⟩)
def ahM(x:Instance)(h:InB x):(Ks x.net).length<=3300000000000:=by
 have h1:=Ht x.net.places;have F:=cK (decide ((x.net.arcs.length:Int)>1024)) (⟨4,⟨#[97,114,99,115]⟩⟩:Fault);have h3:=HU (f:=IJ x.net) (c:=3145740) (List.range x.net.arcs.length) fun k E=>by
  obtain⟨a,A⟩:=aI (E0 E);have O:=h.arc a (pR A)
  grind[SJ,yZ]
 have T:=h.places;have J:=h.arcs
 grind[Ks]
def avU(x:Instance)(h:InB x):NC prog 10 [.agg (aE x)] (bN (kZ x)) .os:=by
 have Z:PC prog 23 [.agg (bA x.net)] (.sl ((Ks x.net).map hJ)):=NC.pc (aBe x.net h.places h.place h.arcs h.arc);have c2:PC prog 24 [.agg (bA x.net),.sl (x.types.map bB)] (.sl ((vR x.net x.types).map hJ)):=NC.pc (awK x.net x.types h.types h.type h.places);have c3:PC prog 25 [.agg (bA x.net),int (gX x.types),int x.types.length,.sl (x.orders.map aY)] (.sl ((tE x.net (gX x.types) x.types.length x.orders).map hJ)):=NC.pc (J3 x.net _ _ x.orders h.orders h.order h.places);have c4:PC prog 27 [int x.orders.length,.sl (x.apart.map cZ),.sl (x.before.map cZ)] (.sl ((FV x).map hJ)):=NC.pc (Qh x.orders.length x.apart x.before h.apart h.before);have l1:=ahM x h;have l2:=XK x.net x.types;have l3:=QN x.net (gX x.types) x.types.length x.orders;have l4:(FV x).length<=2097154:=by
  have a1:=AM x.orders.length x.apart ⟨#[97,112,97,114,116]⟩ true;have a2:=AM x.orders.length x.before ⟨#[98,101,102,111,114,101]⟩ false;have:=h.apart;have:=h.before
  grind[FV]
 have s1:=aeW x.net h.places h.arcs;have U:=Rb x.net x.types h.types;have T:=Pl x.net (gX x.types) x.types.length x.orders h.orders;have s4:uJ (FV x):=jS (Ij _ _ _ _ h.apart (by decide)) (Ij _ _ _ _ h.before (by decide));have ht:=h.types;have ho:=h.orders;refine ncb (fun t=>t == 27) func10 rfl rfl ?_;simp only[go_sem];refine aO Z ?_;simp only[go_sem];refine NC.use (IT ⟨#[110,101,116]⟩ _ (by decide) (by omega) fun f A=>Xal (s1 f A) (by decide)) fun j hj=>?_
 simp only[go_sem];refine aO c2 ?_;simp only[go_sem];refine NC.use (IT ⟨#[116,121,112,101,115]⟩ _ (by decide) (by omega) fun f A=>Xal (U f A) (by decide)) fun i J=>?_
 simp only[go_sem];refine E7 (jW (aB _ _ _) J) (aB _ _ _) ⟨rfl,rfl⟩ (sV _) (by grind) (fun j' Y=>?_);simp only[go_sem];refine I3 (by kernel_rfl) ?_;simp only[go_sem];refine⟨_,(P1 x.types).q rfl,?_⟩;simp only[go_sem];have F:=fO (e:=134) (sz:=2) (enc:=hJ) (H:=aH (aH (aH bY j (some (bN ((Ks x.net).map (mX ⟨#[110,101,116]⟩))))) i (some (bN ((vR x.net x.types).map (mX ⟨#[116,121,112,101,115]⟩))))) j none) (k:=j') (l:=(Ks x.net).map (mX ⟨#[110,101,116]⟩)) (l':=(vR x.net x.types).map (mX ⟨#[116,121,112,101,115]⟩)) rfl;generalize aH (aH (aH (aH bY j _) i _) j none) j' _=H at F |-;generalize X:(Ks x.net).map (mX ⟨#[110,101,116]⟩)++(vR x.net x.types).map (mX ⟨#[116,121,112,101,115]⟩)=es at F;have O:es.length<=3300000000000+9*x.types.length+1:=by grind
 refine aO c3 ?_;simp only[go_sem];refine NC.use (IT ⟨#[111,114,100,101,114,115]⟩ _ (by decide) (by omega) fun f A=>Xal (T f A) (by decide)) fun i J=>?_
 simp only[go_sem];refine E7 (jW F J) (aB _ _ _) ⟨rfl,rfl⟩ (sV _) (by grind) (fun k hk=>?_);simp only[go_sem];have E:=fO (e:=134) (sz:=2) (enc:=hJ) (H:=aH (aH H i (some (bN ((tE x.net (gX x.types) x.types.length x.orders).map (mX ⟨#[111,114,100,101,114,115]⟩))))) j' none) (k:=k) (l:=es) (l':=(tE x.net (gX x.types) x.types.length x.orders).map (mX ⟨#[111,114,100,101,114,115]⟩)) rfl;generalize aH (aH (aH H i _) j' none) k _=H2 at E |-;refine aO c4 ?_;simp only[go_sem];refine NC.use (IT ⟨#[114,117,108,101,115]⟩ _ (by decide) (by omega) fun f A=>Xal (s4 f A) (by decide)) fun q hq=>?_
 simp only[go_sem];refine E7 (jW E hq) (aB _ _ _) ⟨rfl,rfl⟩ (sV _) (by grind) (fun m hm=>?_);simp only[go_sem]
 grind[kZ,fO]
end Go.Proofs.YthephioccidfgaaGreatDoor
end
section
namespace Go.Aw.D
open Go.Aw Go.RowKit
def Sw(w:World):Sg:=⟨fun k=>k<w.heap.size,fun k=>k<w.heap.size,fun _=>.slice none 0 0,fun _=>1,0⟩
def PH(w:World):Prop:=∀t∈adI,vU w t.1=some t.2
theorem RX{w:World}{g:Nat}{cs:Array Value}(h:vU w g=some cs):g<w.heap.size:=by
 unfold vU at h;split at h
 ·rename_i h1;exact(Array.getElem?_eq_some_iff.1 h1).1
 ·cases h
theorem aBg(w:World)(E:PH w):St (Sw w) w bY:=⟨fun _ h=>h,fun _ h=>h,fun k r A=>by simp[bY]at A,fun k r A=>by simp[bY]at A,fun k k' r r' A=>by simp[bY]at A,fun t h=>⟨RX (E t h),E t h⟩⟩
def jV(_:Nat)(x:Int):Prop:= -9223372036854775808<=x/\x<=9223372036854775807
def JB(_:Nat)(_:Bool):Prop:=True
def Q8(n:Nat)(s:ByteArray):Prop:=s.size<=n
def bL{α:Type}(b:Nat->α->Prop)(n:Nat)(l:List α):Prop:=l.length<=n/\∀x∈l,b n x
def Rd{H:Type}(e:TypeId×Value->H)(B:DataW H->Nat)(P:Program)(w:World)(t:TypeId){α:Type}(enc:α->List AV)(b:Nat->α->Prop):Prop:=
 ∀fuel cs y,DataW.trod e P w 0 (fun _=>true) true fuel t cs=some y->∃x:α,(bJ (Sw w) w (enc x) cs/\∀u∈cs,u.oneCell'=true)/\∀n,B y.1<=n->b n x
section
variable{H:Type}{e:TypeId×Value->H}{P:Program}{w:World}{t:TypeId}
abbrev BK(H:Type):DataW H->Nat:=Go.Proofs.YthephioccidfgaaGreatDoor.Rows.uptoBulk
theorem dN(F:P.underlying t=some (.int .i64)):Rd e (BK H) P w t aQ jV:=by intro A cs y h;obtain⟨n,rfl,_,E⟩:=DataW.trod_int F h;refine⟨n,⟨by simp only[aQ,bJ];exact⟨_,_,rfl,by simp only[rep],rfl⟩,by simp[Value.oneCell']⟩,fun _ _=>bounds_i64 E⟩
theorem Fo(E:P.underlying t=some .bool):Rd e (BK H) P w t fY JB:=by intro A cs y h;obtain⟨n,rfl,_⟩:=DataW.trod_bool E h;refine⟨n,⟨by simp only[fY,bJ];exact⟨_,_,rfl,by simp only[rep],rfl⟩,by simp[Value.oneCell']⟩,fun _ _=>trivial⟩
theorem Pu(F:P.underlying t=some .string):Rd e (BK H) P w t dZ Q8:=by intro A cs y h;obtain⟨s,rfl,rfl,_⟩:=DataW.trod_string F h;refine⟨s,⟨by simp only[dZ,bJ];exact⟨_,_,rfl,by simp only[rep],rfl⟩,by simp[Value.oneCell']⟩,fun n E=>?_⟩;simp only[BK,Go.Proofs.YthephioccidfgaaGreatDoor.Rows.uptoBulk,Array.length_toList]at E;have:s.size=s.data.size:=rfl;simp only[Q8];omega
theorem Nb{d:DataW H}{l:List (DataW H)}(h:d∈l):BK H d<=Go.Proofs.YthephioccidfgaaGreatDoor.Rows.uptoBulkAll l:=by
 induction l with
 | nil=>cases h
 | cons x r ih=>
  simp only[Go.Proofs.YthephioccidfgaaGreatDoor.Rows.uptoBulkAll];cases List.mem_cons.1 h with
  | inl e=>subst e;simp only[BK];omega
  | inr e=>have:=ih e;omega
theorem ahO(d:DataW H):1<=BK H d:=by
 cases d with
 | lit l=>cases l <;> simp[BK,Go.Proofs.YthephioccidfgaaGreatDoor.Rows.uptoBulk]
 | nil=>simp[BK,Go.Proofs.YthephioccidfgaaGreatDoor.Rows.uptoBulk]
 | ptr d=>simp[BK,Go.Proofs.YthephioccidfgaaGreatDoor.Rows.uptoBulk]
 | slice elems spare=>simp[BK,Go.Proofs.YthephioccidfgaaGreatDoor.Rows.uptoBulk]
 | agg parts=>simp[BK,Go.Proofs.YthephioccidfgaaGreatDoor.Rows.uptoBulk]
 | iface t d=>simp[BK,Go.Proofs.YthephioccidfgaaGreatDoor.Rows.uptoBulk]
 | map entries=>simp[BK,Go.Proofs.YthephioccidfgaaGreatDoor.Rows.uptoBulk]
 | held h=>simp[BK,Go.Proofs.YthephioccidfgaaGreatDoor.Rows.uptoBulk]
theorem Uz(l:List (DataW H)):l.length<=Go.Proofs.YthephioccidfgaaGreatDoor.Rows.uptoBulkAll l:=by
 induction l with
 | nil=>simp[Go.Proofs.YthephioccidfgaaGreatDoor.Rows.uptoBulkAll]
 | cons x r ih=>have:=ahO x;simp only[Go.Proofs.YthephioccidfgaaGreatDoor.Rows.uptoBulkAll,List.length_cons,BK]at *;omega
theorem Ss{α:Type}(n:Nat)(p:Nat->α->Prop)(h:∀i,i<n->∃x,p i x):∃l:List α,l.length=n/\∀i x,l[i]?=some x->p i x:=by
 induction n with
 | zero=>exact⟨[],rfl,by simp⟩
 | succ n ih=>
  obtain⟨l,T,J⟩:=ih fun i F=>h i (by omega)
  obtain⟨x,O⟩:=h n (by omega);refine⟨l++[x],by simp[T],fun i y A=>?_⟩;rcases Nat.lt_or_ge i n with F|F
  ·rw[List.getElem?_append_left (by omega)]at A;exact J i y A
  ·rw[List.getElem?_append_right (by omega)]at A;have:i-l.length=0:=by
    rcases Nat.eq_zero_or_pos (i-l.length)with h0|h0
    ·exact h0
    ·rw[List.getElem?_eq_none (by simp;omega)]at A;simp at A
   rw[this]at A;have E:i=n:=by omega
   subst E;simp at A;subst A;exact O
theorem FI{S:Sg}{b sz:Nat}{α:Type}{enc:α->List AV}(A:∀x,(enc x).length=sz):∀(l:List α) (o:Nat),(∀i x,l[i]?=some x->dD S w b (o+i*sz) (enc x))->iY S w b sz o (l.map enc)
 | [],_,_=>by simp[iY]
 | x::r,o,h=>by
  simp only[List.map_cons,iY];refine⟨A x,by simpa using h 0 x rfl,FI A r (o+sz) fun i y E=>?_⟩;have:=h (i+1) y (by simpa using E)
  rwa [show o+(i+1)*sz=o+sz+i*sz by rw[Nat.add_mul];omega]at this
theorem F1{a:Addr}{n:Nat}{cs:List Value}(h:w.cells? 0 a n=some cs):cs.length=n/\∀j,j<n->w.cell? (a.add j)=cs[j]?:=by unfold World.cells? at h;rw[if_pos (Nat.zero_le _)]at h;have A:=mapM_some_length h;exact⟨by simpa using A,fun j E=>mapM_some_get h j j (by simp[E])⟩
theorem lP{α:Type}{enc:α->List AV}{b:Nat->α->Prop}{et:TypeId}{sz:Nat}(ht:P.underlying t=some (.slice et))(hc:P.cellsOf et=sz)(E:0<sz)(U:∀x,(enc x).length=sz)(hr:Rd e (BK H) P w et enc b):
  Rd e (BK H) P w t (fun l:List α=>[.sl (l.map enc)]) (bL b):=by
 intro aj cs y h;rcases DataW.trod_slice ht h with⟨rfl,rfl⟩|⟨a,len,cap,A,rest,n,rfl,rfl,rfl,_,ae,Y,ac,aa,ak,_⟩
 ·refine⟨[],⟨?_,by simp[Value.oneCell']⟩,fun n _=>⟨by simp,by simp⟩⟩;simp only[bJ,rep,List.map_nil];exact⟨_,_,rfl,⟨none,0,0,rfl,rfl,Nat.le_refl _,Nat.zero_le _,by simp⟩,rfl⟩
 ·have hp : ∀ i, i < len -> ∃ x : α, ∃ z cs', A[i]? = some z /\ w.cells? 0 (a.add (i * sz)) sz = some cs' /\ (bJ (Sw w) w (enc x) cs' /\ ∀ u ∈ cs', u.oneCell' = true) /\ ∀ n, BK H z.1 <= n -> b n x := fun i hi => by have hg:=aa i hi;rw[List.getElem?_eq_getElem (by omega),hc,Option.bind_eq_some_iff]at hg;obtain⟨cs',h1,h2⟩:=hg;obtain⟨x,T,J⟩:=hr _ _ _ h2;exact⟨x,_,cs',List.getElem?_eq_getElem (by omega),h1,T,J⟩
  obtain⟨l,hl,Z⟩:=Ss len _ hp;refine⟨l,⟨?_,by simp[Value.oneCell']⟩,fun m hm=>⟨?_,fun x T=>?_⟩⟩
  ·simp only[bJ];refine⟨_,_,rfl,?_,rfl⟩;simp only[rep];refine⟨some a,len,cap,rfl,by simp[hl],ae,Y,?_⟩;rcases Nat.eq_zero_or_pos len with h0|h0
   ·left;rw[List.eq_nil_of_length_eq_zero (hl.trans h0)];rfl
   ·right;have ag:=hp 0 h0;obtain⟨_,_,am,_,X,_⟩:=ag;have q:=(F1 X).2 0 E;have ai:=(F1 X).1;rw[List.getElem?_eq_getElem (by omega)]at q;simp only[Nat.zero_mul,Addr.add,if_true]at q;have F:a.spot=none/\a.block<w.heap.size:=by
     unfold World.cell? at q;split at q
     ·rename_i c _ _ J;split at q
      ·simp at q
      ·rename_i hs;refine⟨by simpa using hs,?_⟩;rcases Nat.lt_or_ge a.block w.heap.size with h|h
       ·exact h
       ·rw[Array.getElem?_eq_none h]at J;simp at J
     ·simp at q
    obtain⟨ab,ao,al⟩:=a;obtain⟨hs,O⟩:=F;simp only at hs O;subst hs;refine⟨ab,ao,sz,rfl,O,E,FI U l ao fun i x T=>?_⟩;obtain⟨z,cs',_,ah,⟨h1,h2⟩,_⟩:=Z i x T;refine kI _ cs' _ h1 h2 fun j u hj=>?_
    obtain⟨e1,e2⟩:=F1 ah;have af:j<sz:=by
     rcases Nat.lt_or_ge j sz with h|h
     ·exact h
     ·rw[List.getElem?_eq_none (by omega)]at hj;simp at hj
    have:=e2 j af;rw[hj,Addr.add_lit,Addr.add_lit]at this;exact this
  ·rw[hl,<-ac];have h1:=Uz (A.map (·.1));simp only[BK,Go.Proofs.YthephioccidfgaaGreatDoor.Rows.uptoBulk,List.length_map]at hm h1;omega
  ·obtain⟨i,hi⟩:=List.mem_iff_getElem?.1 T;obtain⟨z,cs',hz,_,_,J⟩:=Z i x hi;refine J m ?_;have h1:=Nb (List.mem_map_of_mem (f:=(·.1)) (List.mem_of_getElem? hz));simp only[BK,Go.Proofs.YthephioccidfgaaGreatDoor.Rows.uptoBulk]at hm h1 |-;omega
theorem fld{A o m:Nat}{cs:List Value}{z:DataW H×List MemPlace}(E:P.cellsOf t=m)(h:DataW.trod e P w 0 (fun _=>true) true A t ((cs.drop o).take (P.cellsOf t))=some z):DataW.trod e P w 0 (fun _=>true) true A t ((cs.drop o).take m)=some z:=E▸h
theorem CW{S:Sg}{a b:List AV}{cs:List Value}{o m:Nat}(h:bJ S w a ((cs.drop o).take m))(A:bJ S w b (cs.drop (o+m))):bJ S w (a++b) (cs.drop o):=by
 have:=eV a b _ _ h A
 rwa [<-List.drop_drop,List.take_append_drop]at this
theorem Up{S:Sg}{cs:List Value}{o:Nat}(h:cs.length=o):bJ S w [] (cs.drop o):=by rw[List.drop_eq_nil_of_le (by omega)];simp[bJ]
theorem E2{cs:List Value}{o m:Nat}(h:∀u∈(cs.drop o).take m,u.oneCell'=true)(E:∀u∈cs.drop (o+m),u.oneCell'=true):∀u∈cs.drop o,u.oneCell'=true:=by
 intro u A;rw[<-List.take_append_drop m (cs.drop o),List.drop_drop]at A;rcases List.mem_append.1 A with A|A
 ·exact h u A
 ·exact E u A
theorem ZW{cs:List Value}{o:Nat}(h:cs.length=o):∀u∈cs.drop o,u.oneCell'=true:=by rw[List.drop_eq_nil_of_le (by omega)];simp
theorem D4{xs:List (DataW H×List MemPlace)}{i:Nat}{z:DataW H×List MemPlace}(A:xs[i]?=some z){n:Nat}(h:BK H (.agg (xs.map (·.1)))<=n):BK H z.1<=n:=by have h1:=Nb (List.mem_map_of_mem (f:=(·.1)) (List.mem_of_getElem? A));simp only[BK,Go.Proofs.YthephioccidfgaaGreatDoor.Rows.uptoBulk]at h h1 |-;omega
theorem Ki{α:Type}{xs:List α}{n i:Nat}(h:xs.length=n)(A:i<n):∃z,xs[i]?=some z:=⟨xs[i],List.getElem?_eq_getElem (by omega)⟩
def RdL(e:TypeId×Value->H)(P:Program)(w:World)(T:TypeId)(fs:Array Field)(i o:Nat){α:Type}(enc:α->List AV)(b:Nat->α->Prop):Prop:=
 ∀(n:Nat) (cs:List Value) (xs:List (DataW H×List MemPlace)),cs.length=P.cellsOf T->xs.length=fs.size ->
   (∀(j:Nat) (f:Field),fs[j]?=some f->DataW.trod e P w 0 (fun _=>true) true n f.type ((cs.drop f.offset).take (P.cellsOf f.type))=xs[j]?) ->
   ∃x:α,(bJ (Sw w) w (enc x) (cs.drop o)/\∀u∈cs.drop o,u.oneCell'=true)/\∀m,BK H (.agg (xs.map (·.1)))<=m->b m x
theorem rdF{fs:Array Field}{i o:Nat}{t:TypeId}(m:Nat){α:Type}{enc:α->List AV}{b:Nat->α->Prop}(R:Rd e (BK H) P w t enc b)(T:(fs[i]?).map (fun f:Field=>(f.type,f.offset))=some (t,o))(X:P.cellsOf t=m)
  {n:Nat} {cs:List Value} {xs:List (DataW H×List MemPlace)} (J:xs.length=fs.size) (Y:∀(j:Nat) (f:Field),fs[j]?=some f->DataW.trod e P w 0 (fun _=>true) true n f.type ((cs.drop f.offset).take (P.cellsOf f.type))=xs[j]?):
  ∃x:α,(bJ (Sw w) w (enc x) ((cs.drop o).take m)/\∀u∈(cs.drop o).take m,u.oneCell'=true)/\∀m,BK H (.agg (xs.map (·.1)))<=m->b m x:=by
 obtain⟨f,A,E⟩:=Option.map_eq_some_iff.1 T;obtain⟨rfl,rfl⟩:=Prod.mk.inj E;obtain⟨z,F⟩:=Ki J (Array.getElem?_eq_some_iff.1 A).1;obtain⟨x,h,O⟩:=R n ((cs.drop f.offset).take m) z (fld X ((Y i f A).trans F));exact⟨x,h,fun k U=>O k (D4 F U)⟩
theorem rdC{T:TypeId}{fs:Array Field}{i o:Nat}{t:TypeId}(m:Nat){α E:Type}{enc:α->List AV}{b:Nat->α->Prop}{A:E->List AV}{O:Nat->E->Prop}(R:Rd e (BK H) P w t enc b)(r:RdL e P w T fs (i+1) (o+m) A O)
  (hG:(fs[i]?).map (fun f:Field=>(f.type,f.offset))=some (t,o):=by rfl) (hm:P.cellsOf t=m:=by kernel_rfl):RdL e P w T fs i o (fun p:α×E=>enc p.1++A p.2) (fun n p=>b n p.1/\O n p.2):=fun n cs xs h1 F U=>by
 obtain⟨x,⟨r1,Z⟩,b1⟩:=rdF m R hG hm F U;obtain⟨y,⟨r2,Y⟩,X⟩:=r n cs xs h1 F U;exact⟨(x,y),⟨CW r1 r2,E2 Z Y⟩,fun k J=>⟨b1 k J,X k J⟩⟩
theorem rdE{T:TypeId}{fs:Array Field}{i o:Nat}{t:TypeId}(m:Nat){α:Type}{enc:α->List AV}{b:Nat->α->Prop}(R:Rd e (BK H) P w t enc b)
  (J:(fs[i]?).map (fun f:Field=>(f.type,f.offset))=some (t,o):=by rfl) (X:P.cellsOf t=m:=by kernel_rfl) (A:P.cellsOf T=o+m:=by kernel_rfl):RdL e P w T fs i o enc b:=fun n cs xs h1 E Y=>by
 obtain⟨x,⟨O,F⟩,U⟩:=rdF m R J X E Y;refine⟨x,⟨?_,E2 F (ZW (h1.trans A))⟩,U⟩;have:=CW O (Up (h1.trans A))
 rwa [List.append_nil]at this
theorem rdS{T:TypeId}{fs:Array Field}{α X:Type}{enc:α->List AV}{b:Nat->α->Prop}{A:X->List AV}{J:Nat->X->Prop}(Y:P.underlying T=some (.struct fs))(r:RdL e P w T fs 0 0 enc b)(E:α->X)
  (he:∀p,A (E p)=enc p) (U:∀n p,b n p->J n (E p)):Rd e (BK H) P w T A J:=by
 intro O cs y h;obtain⟨xs,n,rfl,rfl,Z,F,hf⟩:=DataW.trod_struct Y h;obtain⟨x,⟨r1,o1⟩,b1⟩:=r n cs xs Z F hf;exact⟨E x,⟨by rw[he];rwa [List.drop_zero]at r1,by rwa [List.drop_zero]at o1⟩,fun m hm=>U m x (b1 m hm)⟩
end
section
open Go.Proofs Go.Proofs.YthephioccidfgaaGreatDoor
variable{H:Type}{e:TypeId×Value->H}{w:World}
theorem atM:Rd e (BK H) Tryz.prog w 22 (fun l:List ByteArray=>[.sl (l.map dZ)]) (bL Q8):=lP (sz:=1) Tryz.underlying22 (by kernel_rfl) (by omega) (fun _=>rfl) (Pu Tryz.underlying9)
def Pd(n:Nat)(x:Point):Prop:=jV n x.t/\jV n x.a
theorem aiI:Rd e (BK H) Tryz.prog w 116 cF Pd:=rdS Tryz.underlying116 (rdC 1 (dN Tryz.underlying3) (rdE 1 (dN Tryz.underlying3))) (fun(a,b)=>⟨a,b⟩) (fun _=>rfl) (fun _ (_,_) h=>h)
theorem N5:Rd e (BK H) Tryz.prog w 117 (fun l:List Point=>[.sl (l.map cF)]) (bL Pd):=lP (sz:=2) Tryz.underlying117 (by kernel_rfl) (by omega) (fun _=>rfl) (aiI)
def ayF(n:Nat)(x:Arc):Prop:=jV n x.src/\jV n x.dst/\jV n x.profile/\jV n x.miles/\(bL Pd) n x.travel/\(bL Pd) n x.slow
theorem ayL:Rd e (BK H) Tryz.prog w 119 fK ayF:=rdS Tryz.underlying119 (rdC 1 (dN Tryz.underlying3) (rdC 1 (dN Tryz.underlying3) (rdC 1 (dN Tryz.underlying3) (rdC 1 (dN Tryz.underlying3) (rdC 1 N5 (rdE 1 N5)))))) (fun(a,b,c,d,e,f)=>⟨a,b,c,d,e,f⟩) (fun _=>rfl) (fun _ (_,_,_,_,_,_) h=>h)
theorem atD:Rd e (BK H) Tryz.prog w 23 (fun l:List Arc=>[.sl (l.map fK)]) (bL ayF):=lP (sz:=6) Tryz.underlying23 (by kernel_rfl) (by omega) (fun _=>rfl) (ayL)
def RM(n:Nat)(x:Network):Prop:=(bL Q8) n x.places/\(bL ayF) n x.arcs
theorem Wi:Rd e (BK H) Tryz.prog w 25 bA RM:=rdS Tryz.underlying25 (rdC 1 atM (rdE 1 atD)) (fun(a,b)=>⟨a,b⟩) (fun _=>rfl) (fun _ (_,_) h=>h)
theorem OU:Rd e (BK H) Tryz.prog w 32 (fun l:List Int=>[.sl (l.map aQ)]) (bL jV):=lP (sz:=1) Tryz.underlying32 (by kernel_rfl) (by omega) (fun _=>rfl) (dN Tryz.underlying3)
def Xe(n:Nat)(x:VType):Prop:=Q8 n x.name/\jV n x.count/\jV n x.src/\jV n x.dst/\(bL jV) n x.cap/\jV n x.skills/\jV n x.profile/\jV n x.start/\jV n x.close/\jV n x.drive/\jV n x.rest/\jV n x.fixed/\jV n x.perMile/\jV n x.perTick
theorem akR:Rd e (BK H) Tryz.prog w 121 bB Xe:=rdS Tryz.underlying121 (rdC 1 (Pu Tryz.underlying9) (rdC 1 (dN Tryz.underlying3) (rdC 1 (dN Tryz.underlying3) (rdC 1 (dN Tryz.underlying3) (rdC 1 OU (rdC 1 (dN Tryz.underlying3) (rdC 1 (dN Tryz.underlying3) (rdC 1 (dN Tryz.underlying3) (rdC 1 (dN Tryz.underlying3) (rdC 1 (dN Tryz.underlying3) (rdC 1 (dN Tryz.underlying3) (rdC 1 (dN Tryz.underlying3) (rdC 1 (dN Tryz.underlying3) (rdE 1 (dN Tryz.underlying3))))))))))))))) (fun(a,b,c,d,e,f,g,h,i,j,k,l,m,n)=>⟨a,b,c,d,e,f,g,h,i,j,k,l,m,n⟩) (fun _=>rfl) (fun _ (_,_,_,_,_,_,_,_,_,_,_,_,_,_) h=>h)
theorem afZ:Rd e (BK H) Tryz.prog w 26 (fun l:List VType=>[.sl (l.map bB)]) (bL Xe):=lP (sz:=14) Tryz.underlying26 (by kernel_rfl) (by omega) (fun _=>rfl) (akR)
def aqY(n:Nat)(x:Stop):Prop:=jV n x.place/\jV n x.start/\jV n x.close/\jV n x.service
theorem YI:Rd e (BK H) Tryz.prog w 76 eQ aqY:=rdS Tryz.underlying76 (rdC 1 (dN Tryz.underlying3) (rdC 1 (dN Tryz.underlying3) (rdC 1 (dN Tryz.underlying3) (rdE 1 (dN Tryz.underlying3))))) (fun(a,b,c,d)=>⟨a,b,c,d⟩) (fun _=>rfl) (fun _ (_,_,_,_) h=>h)
def WG(n:Nat)(x:Order):Prop:=Q8 n x.name/\(bL jV) n x.load/\aqY n x.pick/\aqY n x.drop/\jV n x.skills/\jV n x.penalty/\jV n x.split/\jV n x.last/\jV n x.now/\JB n x.off
theorem amP:Rd e (BK H) Tryz.prog w 78 aY WG:=rdS Tryz.underlying78 (rdC 1 (Pu Tryz.underlying9) (rdC 1 OU (rdC 4 YI (rdC 4 YI (rdC 1 (dN Tryz.underlying3) (rdC 1 (dN Tryz.underlying3) (rdC 1 (dN Tryz.underlying3) (rdC 1 (dN Tryz.underlying3) (rdC 1 (dN Tryz.underlying3) (rdE 1 (Fo Tryz.underlying4))))))))))) (fun(a,b,c,d,e,f,g,h,i,j)=>⟨a,b,c,d,e,f,g,h,i,j⟩) (fun _=>rfl) (fun _ (_,_,_,_,_,_,_,_,_,_) h=>h)
theorem agK:Rd e (BK H) Tryz.prog w 27 (fun l:List Order=>[.sl (l.map aY)]) (bL WG):=lP (sz:=16) Tryz.underlying27 (by kernel_rfl) (by omega) (fun _=>rfl) (amP)
def YM(n:Nat)(x:Pair):Prop:=jV n x.a/\jV n x.b
theorem auQ:Rd e (BK H) Tryz.prog w 92 cZ YM:=by
 intro O cs y h;obtain⟨xs,n,rfl,rfl,J,F,U⟩:=DataW.trod_array Tryz.underlying92 h;have J:cs.length=2:=J.trans (by kernel_rfl);obtain⟨z0,E⟩:=Ki F (show 0<2 by omega);obtain⟨x0,⟨r0,X⟩,b0⟩:=(dN Tryz.underlying3:Rd e (BK H) Tryz.prog w 3 _ _) n ((cs.drop 0).take 1) z0 (fld (t:=3) (o:=0) (m:=1) (by kernel_rfl) ((U 0 (by omega)).trans E));obtain⟨z1,A⟩:=Ki F (show 1<2 by omega);obtain⟨x1,⟨Z,Y⟩,b1⟩:=(dN Tryz.underlying3:Rd e (BK H) Tryz.prog w 3 _ _) n ((cs.drop 1).take 1) z1 (fld (t:=3) (o:=1) (m:=1) (by kernel_rfl) ((U 1 (by omega)).trans A));refine⟨⟨x0,x1⟩,⟨?_,?_⟩,fun m T=>⟨b0 m (D4 E T),b1 m (D4 A T)⟩⟩
 ·have:=CW (o:=0) (m:=1) r0 (CW (o:=1) (m:=1) Z (Up (by omega)));rw[List.drop_zero]at this;exact this
 ·have:=E2 (o:=0) (m:=1) X (E2 (o:=1) (m:=1) Y (ZW (by omega)));rw[List.drop_zero]at this;exact this
theorem Q4:Rd e (BK H) Tryz.prog w 28 (fun l:List Pair=>[.sl (l.map cZ)]) (bL YM):=lP (sz:=2) Tryz.underlying28 (by kernel_rfl) (by omega) (fun _=>rfl) (auQ)
def sK(n:Nat)(x:Instance):Prop:=RM n x.net/\(bL Xe) n x.types/\(bL WG) n x.orders/\(bL YM) n x.apart/\(bL YM) n x.before
theorem SP:Rd e (BK H) Tryz.prog w 30 aE sK:=rdS Tryz.underlying30 (rdC 2 Wi (rdC 1 afZ (rdC 1 agK (rdC 1 Q4 (rdE 1 Q4))))) (fun(a,b,c,d,e)=>⟨a,b,c,d,e⟩) (fun _=>rfl) (fun _ (_,_,_,_,_) h=>h)
theorem ahN:Rd e (BK H) Tryz.prog w 56 (fun l:List Bool=>[.sl (l.map fY)]) (bL JB):=lP (sz:=1) Tryz.underlying56 (by kernel_rfl) (by omega) (fun _=>rfl) (Fo Tryz.underlying4)
def Vu(n:Nat)(x:Visit):Prop:=jV n x.order/\JB n x.drop
theorem aoE:Rd e (BK H) Tryz.prog w 123 aL Vu:=rdS Tryz.underlying123 (rdC 1 (dN Tryz.underlying3) (rdE 1 (Fo Tryz.underlying4))) (fun(a,b)=>⟨a,b⟩) (fun _=>rfl) (fun _ (_,_) h=>h)
theorem aaT:Rd e (BK H) Tryz.prog w 57 (fun l:List Visit=>[.sl (l.map aL)]) (bL Vu):=lP (sz:=2) Tryz.underlying57 (by kernel_rfl) (by omega) (fun _=>rfl) (aoE)
def Xm(n:Nat)(x:Route):Prop:=jV n x.type/\jV n x.start/\(bL JB) n x.rests/\(bL Vu) n x.visits
theorem alL:Rd e (BK H) Tryz.prog w 59 bM Xm:=rdS Tryz.underlying59 (rdC 1 (dN Tryz.underlying3) (rdC 1 (dN Tryz.underlying3) (rdC 1 ahN (rdE 1 aaT)))) (fun(a,b,c,d)=>⟨a,b,c,d⟩) (fun _=>rfl) (fun _ (_,_,_,_) h=>h)
theorem acA:Rd e (BK H) Tryz.prog w 31 (fun l:List Route=>[.sl (l.map bM)]) (bL Xm):=lP (sz:=4) Tryz.underlying31 (by kernel_rfl) (by omega) (fun _=>rfl) (alL)
def ZQ(n:Nat)(x:Plan):Prop:=(bL Xm) n x.routes/\(bL jV) n x.unserved
theorem YT:Rd e (BK H) Tryz.prog w 34 gK ZQ:=rdS Tryz.underlying34 (rdC 1 acA (rdE 1 OU)) (fun(a,b)=>⟨a,b⟩) (fun _=>rfl) (fun _ (_,_) h=>h)
def azQ(n:Nat)(x:Cut):Prop:=jV n x.kind/\jV n x.set/\jV n x.n
theorem azM:Rd e (BK H) Tryz.prog w 102 fZ azQ:=rdS Tryz.underlying102 (rdC 1 (dN Tryz.underlying3) (rdC 1 (dN Tryz.underlying3) (rdE 1 (dN Tryz.underlying3)))) (fun(a,b,c)=>⟨a,b,c⟩) (fun _=>rfl) (fun _ (_,_,_) h=>h)
theorem asE:Rd e (BK H) Tryz.prog w 49 (fun l:List Cut=>[.sl (l.map fZ)]) (bL azQ):=lP (sz:=3) Tryz.underlying49 (by kernel_rfl) (by omega) (fun _=>rfl) (azM)
theorem awU:Rd e (BK H) Tryz.prog w 50 (fun l:List ByteArray=>[.sl (l.map dZ)]) (bL Q8):=lP (sz:=1) Tryz.underlying50 (by kernel_rfl) (by omega) (fun _=>rfl) (Pu Tryz.underlying74)
def MZ(n:Nat)(x:Decision):Prop:=jV n x.kind/\jV n x.a/\jV n x.b/\jV n x.n
theorem RI:Rd e (BK H) Tryz.prog w 52 aP MZ:=rdS Tryz.underlying52 (rdC 1 (dN Tryz.underlying3) (rdC 1 (dN Tryz.underlying3) (rdC 1 (dN Tryz.underlying3) (rdE 1 (dN Tryz.underlying3))))) (fun(a,b,c,d)=>⟨a,b,c,d⟩) (fun _=>rfl) (fun _ (_,_,_,_) h=>h)
def Wp(n:Nat)(x:TNode):Prop:=JB n x.leaf/\jV n x.kind/\(bL azQ) n x.cuts/\(bL Q8) n x.dual/\MZ n x.choice/\jV n x.yes/\jV n x.no
theorem ajC:Rd e (BK H) Tryz.prog w 54 bR Wp:=rdS Tryz.underlying54 (rdC 1 (Fo Tryz.underlying4) (rdC 1 (dN Tryz.underlying3) (rdC 1 asE (rdC 1 awU (rdC 4 RI (rdC 1 (dN Tryz.underlying3) (rdE 1 (dN Tryz.underlying3)))))))) (fun(a,b,c,d,e,f,g)=>⟨a,b,c,d,e,f,g⟩) (fun _=>rfl) (fun _ (_,_,_,_,_,_,_) h=>h)
theorem aaV:Rd e (BK H) Tryz.prog w 35 (fun l:List TNode=>[.sl (l.map bR)]) (bL Wp):=lP (sz:=10) Tryz.underlying35 (by kernel_rfl) (by omega) (fun _=>rfl) (ajC)
def Gm(n:Nat)(x:Proof):Prop:=JB n x.noPlan/\ZQ n x.plan/\(bL Wp) n x.nodes
theorem akT:Rd e (BK H) Tryz.prog w 37 dY Gm:=rdS Tryz.underlying37 (rdC 1 (Fo Tryz.underlying4) (rdC 2 YT (rdE 1 aaV))) (fun(a,b,c)=>⟨a,b,c⟩) (fun _=>rfl) (fun _ (_,_,_) h=>h)
end
end Go.Aw.D
end
section
namespace Go.Proofs.YthephioccidfgaaGreatDoor
open Go.Aw Go.Aw.D Go.Proofs Go.RowKit Go.ChangeShapes Go.WideShapes Go.ChangeAt
section
variable{H:Type}{e:TypeId×Value->H}{P:Program}{W W':World}
theorem TQ{f:FuncId}{args:List AV}{vals:List Value}(h:PC P f args (.v (.bool true)))(J:PH W)(U:bJ (Sw W) W args vals):
  Calls P f vals.toArray W fun F W'=>F=.returned (.bool true)/\Below W.heap.size W W':=
 (h (Sw W) W vals (aBg W J) (fun _ h=>h) U).mono fun F W' ⟨v,r,H',S',T,O,_,E,A,_⟩=>by subst O;simp only[rep]at E;subst E;exact⟨T,A.os,A.tape,A.output,A.size,A.same⟩
theorem E6(T:laidOutB P=true)(O:Below W.heap.size W W'):∀{E:List TypeId} {vs:List Value} {ds:List (DataW H)} {ps:List MemPlace},(∀t∈E,P.readableRec t=true/\t<P.types.size) ->
  DataW.TrodAll e P W 0 (fun _=>true) true E vs ds ps->(∀x∈ps,x.block<W.heap.size)->∀F:Nat->Bool,(∀x∈ps,F x.block=true)->DataW.TrodAll e P W' 0 F true E vs ds ps
 | [],[],[],_,_,h,_,_,_=>h
 | t::E,v::vs,d::ds,ps,ht,⟨p,q,h1,h2,he⟩,hlt,F,hs=>by
  subst he;have h0:=ht t (by simp);exact⟨p,q,WideElems.Trod_stays T h0.1 h0.2 h1 (fun x A=>O.same (hlt x (by simp[A]))) (fun x A=>hs x (by simp[A])),
   E6 T O (fun t J=>ht t (by simp[J])) h2 (fun x A=>hlt x (by simp[A])) F (fun x A=>hs x (by simp[A])),rfl⟩
theorem Eh{t:TypeId}{fs:Array Field}{α:Type}{enc:α->List AV}{b:Nat->α->Prop}{r:Reach}{U:Nat}{v:Value}{d:DataW H}{X:List MemPlace}(O:P.underlying t=some (.struct fs))
  (T:Rd e (BK H) P W t enc b) (E:Value.okWide P W r U t v) (J:DataW.Trod e P W 0 (fun _=>true) true t v d X):∃x:α,rep (Sw W) W (.agg (enc x)) v/\∀n,BK H d<=n->b n x:=by
 obtain⟨cs,rfl,_⟩:=okWide_struct O E;obtain⟨A,h⟩:=J;obtain⟨x,⟨h1,F⟩,h3⟩:=T A _ _ h;refine⟨x,?_,h3⟩;simp only[rep];exact⟨cs.toList,by simp,h1,F⟩
theorem adF{fn:Func}{s:ChangeSpec}{args:Array Value}{ds gs:List (DataW H)}{before:List MemPlace}(hl:laidOutB P=true)(ab:∀t∈fn.params.toList,P.readableRec t=true/\t<P.types.size)
  (A:s.vars=[]) {tb:TypeId} (Z:P.underlying tb=some .bool) (Y:fn.resultTypes=#[tb]) (hW:DataW.Whole e P fn.params.toList s.vars false W args.toList ds gs before)
  (X:(s.fn H (ds++gs)).results=[.lit (.bool true)]) (J:(s.fn H (ds++gs)).args=ds) (ae:(s.fn H (ds++gs)).vars=[]) (hb:Below W.heap.size W W'):
  s.post e P fn false true false false W args (.bool true) W':=by
 have O:=hW.lt;have aa:=hW;obtain⟨p,q,hA,hV,rfl,af,ag⟩:=hW;rw[A]at hV;obtain⟨rfl,rfl⟩:=trodVars_none hV;have hk:W.keptBut W' (·∈p++[]):=hb.frame _;have U:∀x∈p++[],(fun b=>decide (b<W.heap.size)) x.block=true:=fun x F=>by simpa using O x F
 have r1:∀(b:Nat) (E:Nat->Bool) (hd:Bool),DataW.TrodAll e P W' b E hd fn.resultTypes.toList ((Value.bool true).resultList fn.resultTypes.size) (s.fn H (ds++[])).results []:=fun b E hd=>by rw[Y,X];exact trodAll_cons_mk (shut_bool Z _) trodAll_mk0
 have r2:∀E:Nat->Bool,(∀x∈p++[],E x.block=true)->DataW.TrodAll e P W' 0 E true fn.params.toList args.toList (s.fn H (ds++[])).args p:=fun E ac=>by rw[J];exact E6 hl hb ab hA (fun x F=>O x (by simp[F])) E (fun x F=>ac x (by simp[F]))
 have r3:∀E:Nat->Bool,DataW.TrodVars e P W' E s.vars (s.fn H (ds++[])).vars []:=fun E=>by rw[A,ae];simp[DataW.TrodVars]
 refine⟨ds,[],p++[],[],p,[],aa,r1 _ _ _,r2 _ U,r3 _,World.keptBut_mono (fun x F=>⟨F,.inr (by simpa using F)⟩) hk,fun _=>?_⟩;refine⟨?_,_,_,([]++p)++[],⟨[]++p,[],trodAll_append (r2 _ (fun _ _=>rfl)) (r1 _ _ _),r3 _,rfl,?_,?_⟩,?_⟩
 ·exact ok_one Y rfl (okWide_bool_mk Z _)
 ·intro b off hp;have T:MemPlace.cell b off∈p++[]:=by simpa using hp
  rw[hb.frozen (O _ T)];exact af b off T
 ·intro ha;simp at ha
 ·intro x F _;simpa using F
end
end Go.Proofs.YthephioccidfgaaGreatDoor
end
section
namespace Go.Proofs.YthephioccidfgaaGreatDoor
def bS(n N:Int):Bool:=decide (n<0)||decide (n>=N)
end Go.Proofs.YthephioccidfgaaGreatDoor
namespace Go.Proofs.YthephioccidfgaaGreatDoor.Mv
open Go.Aw Go.Aw.D Go.Proofs Ty
theorem bZ{H:aG}{k:IntKind}{a b:Int}(h:a=b):Conv H (.v (.int k a)) (.v (.int k b)):=h▸.refl _
theorem cL{H:aG}{a b:Bool}(h:a=b):Conv H (.v (.bool a)) (.v (.bool b)):=h▸.refl _
abbrev iG(l:List Int):Row:=⟨3,1,l.map aQ⟩
def aoX{n:Int}(h:0<=n/\n<18446744073709551616):IntKind.u64.wrap n=n:=by have e:IntKind.u64.wrap n=n%18446744073709551616:=rfl;rw[e];omega
def oB{α:Type}{p q:α->Bool}{l:List α}(h:∀x∈l,p x=q x):l.any p=l.any q:=by rw[Xar,Xak,Xak];exact⟨fun⟨x,A,E⟩=>⟨x,A,(h x A)▸E⟩,fun⟨x,A,E⟩=>⟨x,A,(h x A).symm▸E⟩⟩
def aR{α:Type}{p:α->Prop}{l:List α}{k:Nat}{x:α}(F:l[k]?=some x)(E:p x)(h:∀x∈l.take k,p x):∀x∈l.take (k+1),p x:=by
 rw[aZ F];intro y A;rcases Xat.1 A with A|A
 ·exact h y A
 ·simp at A;subst A;exact E
end Go.Proofs.YthephioccidfgaaGreatDoor.Mv
end
section
namespace Go.Proofs.YthephioccidfgaaGreatDoor.Sq
open Go.Aw Go.Aw.D Go.Proofs Ty
open Mv (bZ cL aR)
def BH(s i:Int):Bool:=decide (s>=0)&&decide (i>=0)&&decide (i<=62)&&((shV .shr .i64 s (IntKind.u64.wrap i)).tmod 2 == 1)
def atL(s n:Int):Int:=if BH s n=true then s else IntKind.i64.wrap (s+shV .shl .i64 1 (IntKind.u64.wrap n))
def D3(v:Visit):Bool:=decide (v.order<0)||decide (v.order>62)
def axS(l:List Visit):Int:=l.foldl (fun s v=>atL s v.order) 0
def dM(l:List Visit):Int×Int:=if l.any D3=true then(0,2)else(axS l,0)
def tO(v u:Visit):Bool:=u.order == v.order&&(u.drop == v.drop&&true)
def uX{α:Type}(p:α->Bool):List α->Int->Int
 | [],_=> -1
 | x::r,n=>if p x=true then n else uX p r (n+1)
theorem nQ{α:Type}{p:α->Bool}{l:List α}{k:Nat}{x:α}(h:∀y∈l.take k,p y=false)(E:l[k]?=some x)(A:p x=true):∀n,uX p l n=n+k:=by
 induction l generalizing k with
 | nil=>grind
 | cons a r ih=>
  intro n;cases k with
  | zero=>simp_all[uX]
  | succ k=>
   have h0:=h a (by simp);simp only[uX]
   grind
theorem lO{α:Type}{p:α->Bool}{l:List α}(h:∀y∈l,p y=false):∀n,uX p l n= -1:=by induction l<;>simp_all[uX]
def cD(l:List Visit)(v:Visit):Int:=uX (tO v) l 0
def nM(l s:List Visit):Bool:=s.all fun v=> !decide (cD l v<0)
def eK(o:Order)(i:Int):List Visit:=(if(o.pick.place != -1)=true then[⟨i,false⟩]else[])++(if(o.drop.place != -1)=true then[⟨i,true⟩]else[])
def P3(x:Instance)(s:Int):Bool:=x.apart.all fun q=> !(BH s q.a&&BH s q.b)
def rR(l vs:List Visit)(v:Visit):Bool:=decide (cD vs v<0)|| !nM l vs||((vs.length:Int) == 2&&decide (cD l (vs.getD 0 ⟨0,false⟩)>cD l (vs.getD 1 ⟨0,false⟩)))
def MD(x:Instance)(i:Int):List Visit:=match x.orders[i.toNat]? with|some o=>eK o i|none=>[]
def E5(x:Instance)(l:List Visit):Bool:=l.all fun v=> !rR l (MD x v.order) v
def cT(l:List Visit)(j:Nat):Int:=(l.getD j ⟨0,false⟩).order
theorem jQ{l:List Visit}{j:Nat}{v:Visit}(h:l[j]?=some v):cT l j=v.order:=by grind[cT]
def aaJ(l:List Visit)(a b:Int)(j k:Nat):Bool:=cT l j == a&&cT l k == b
def Nt(l:List Visit)(a b:Int):Bool:=(List.range l.length).any fun j=>(List.range j).any fun k=>aaJ l a b j k
def axJ(s:Int)(l:List Visit)(q:Pair):Bool:= !BH s q.b||(BH s q.a&& !Nt l q.a q.b)
def Ky(x:Instance)(s:Int)(l:List Visit):Bool:=x.before.all (axJ s l)
def uN(x:Instance)(i:Int):Bool:=match x.orders[i.toNat]? with|some o=>o.off|none=>false
def Md(l:List Visit)(i:Nat):Bool:=cD l (l.getD i ⟨0,false⟩) != (i:Int)
def eR(x:Instance)(l:List Visit):Int:=
 if(l.any fun v=>bS v.order x.orders.length)=true then 2
 else if((dM l).2 != 0||(l.length:Int) == 0)=true then 2
 else if(l.any fun v=>uN x v.order)=true then 9
 else if((List.range l.length).any (Md l))=true then 6
 else if(!E5 x l)=true then 19
 else if(!P3 x (dM l).1)=true then 20
 else if(!Ky x (dM l).1 l)=true then 21 else 0
def Ja{α:Type}{p:α->Bool}{l:List α}(h:∀x∈l,p x=false):l.any p=false:=by grind
def lA(a c:List Int):Bool:=((a.length:Int) == (c.length:Int))&&(List.range a.length).all fun i=> !decide (a.getD i 0>c.getD i 0)
def gL(x:Instance):Int:=match x.types[0]? with|some t=>t.cap.length|none=>0
def xR(l:List Int):List AV:=[.sl (l.map aQ)]
def Ku(ll:List (List Int))(d:Int):Bool:= !(decide (d<0)||decide (d>3))&&ll.all fun l=> !((l.length:Int) != d)
def zK(ll:List (List Int))(i:Nat):Int:=ll.foldl (fun s l=>IntKind.i64.wrap (s+l.getD i 0)) 0
def Yf(ll:List (List Int))(d:Int):List Int×Int:=if Ku ll d=true then((List.range d.toNat).map (zK ll),0)else([],2)
end Go.Proofs.YthephioccidfgaaGreatDoor.Sq
end
section
namespace Go.Proofs.YthephioccidfgaaGreatDoor.Sq
open Go.Aw Go.Aw.D Go.Proofs Ty
open Mv (bZ cL aR)
open Mv (bZ cL aR)
def onS(i n:Int)(s:Bool×Bool)(kv:Nat×Visit):Bool×Bool:=
 if(kv.2.order != i)=true then s else(if decide ((kv.1:Int)<n)=true then !kv.2.drop else s.1,true)
def avO(l:List Visit)(i n:Int)(b:Bool):Bool×Bool:=((List.range l.length).map fun k=>(k,l.getD k ⟨0,false⟩)).foldl (onS i n) (b,false)
def Xf(l:List Visit)(i n:Int)(b:Bool)(k:Nat):Bool×Bool:=((List.range k).map fun k=>(k,l.getD k ⟨0,false⟩)).foldl (onS i n) (b,false)
def M2{l:List Visit}{i n:Int}{b:Bool}{k:Nat}{v:Visit}(h:l[k]?=some v):Xf l i n b (k+1)=onS i n (Xf l i n b k) (k,v):=by grind[Xf,Xbv]
def onB(l:List Visit)(n:Int)(i:Nat)(o:Order):Bool:=(avO l i n (decide (o.pick.place<0))).1&&(avO l i n (decide (o.pick.place<0))).2
def tF(os:List Order)(l:List Visit)(n:Int)(k:Nat):List (List Int):=(List.range k).flatMap fun i=>match os[i]? with|some o=>if onB l n i o=true then[o.load]else[]|none=>[]
def Fv{os:List Order}{l:List Visit}{n:Int}{k:Nat}{o:Order}(h:os[k]?=some o):tF os l n (k+1)=tF os l n k++(if onB l n k o=true then[o.load]else[]):=by grind[tF,Xbv]
def tG(x:Instance)(l:List Visit)(n:Int):List Int×Int:=Yf (tF x.orders l n x.orders.length) (gL x)
abbrev aBd(ll:List (List Int)):Row:=⟨32,1,ll.map xR⟩
def oR:List Int->Int
 | []=>0
 | e::r=>if(e != 0)=true then e else oR r
def SW{l:List Int}(h:∀e∈l,(e != 0)=false):oR l=0:=by induction l<;>simp_all[oR]
def azN(x:Instance)(l:List Visit)(k:Nat):List (List Int):=(List.range k).map fun n:Nat=>(tG x l n).1
def VH(x:Instance)(l:List Visit):List Int:=(List.range (l.length+1)).map fun n:Nat=>(tG x l n).2
def ahU{x:Instance}{l:List Visit}{k:Nat}(h:k<=l.length):(VH x l)[k]?=some (tG x l k).2:=by grind[VH]
def Db(x:Instance)(l:List Visit):List (List Int)×Int:=
 if(eR x l != 0)=true then([],eR x l)else if(oR (VH x l) != 0)=true then([],oR (VH x l))else(azN x l (l.length+1),0)
def HR(x:Instance)(t:Int):List Int:=match x.types[t.toNat]? with|some t=>t.cap|none=>[]
def yN(x:Instance)(r:Route):Int:=
 if bS r.type x.types.length=true then 2 else if((Db x r.visits).2 != 0)=true then(Db x r.visits).2
 else if((Db x r.visits).1.any fun l=> !lA l (HR x r.type))=true then 17 else 0
def O0(n:Network)(i:Int):Bool:=decide (i>=0)&&decide (i<(n.places.length:Int))
def Fz:Arc:=⟨0,0,0,0,[],[]⟩
def Ui(p f t:Int)(a:Arc):Bool:=a.src == f&&a.dst == t&&a.profile == p
def sS(n:Network)(p f t:Int):Option Arc:=n.arcs.find? (Ui p f t)
def Tb{α:Type}{p:α->Bool}{l:List α}{k:Nat}{x:α}(h:∀y∈l.take k,p y=false)(E:l[k]?=some x)(A:p x=true):l.find? p=some x:=by
 induction l generalizing k with
 | nil=>grind
 | cons a r ih=>cases k<;>grind
def L8{α:Type}{p:α->Bool}{l:List α}(h:∀y∈l,p y=false):l.find? p=none:=List.find?_eq_none.2 fun y A=>by grind
def W(n:Int):Int:=IntKind.i64.wrap n
def rW(l:List Point)(t:Int)(k:Nat):Bool:=decide ((eI l k).t<=t)&&decide (t<(eI l (k+1)).t)
def ID(p q:Point)(t:Int):Int:=W (p.a+IntKind.i64.wrap (Int.tdiv (W (W (W (W (W (t-p.t)*W (q.a-p.a))+q.t)-p.t)-1)) (W (q.t-p.t))))
def AY(e:Point)(t:Int):Int:=W (W (t+e.a)-e.t)
def DH(l:List Point)(t:Int):Bool:=decide (((jY l).length:Int)>0)||decide (t<0)||decide (t>1073741824)
def kU(l:List Point)(t:Int):Int:=
 if DH l t=true then 0 else match (List.range (l.length-1)).find? (rW l t)with
 | some k=>ID (eI l k) (eI l (k+1)) t
 | none=>if decide (t>(eI l 0).t)=true then AY (eI l (l.length-1)) t else AY (eI l 0) t
def atV{n:Int}(h:0<n/\n<18446744073709551616):¬IntKind.i64.wrap n=0:=by show ¬(if(true&&decide (n%18446744073709551616>=9223372036854775808))=true then n%18446744073709551616-18446744073709551616 else n%18446744073709551616)=0;omega
end Go.Proofs.YthephioccidfgaaGreatDoor.Sq
end
section
namespace Go.Proofs.YthephioccidfgaaGreatDoor.Sq
open Go.Aw Go.Aw.D Go.Proofs Ty
open Mv (bZ cL aR)
def rA(t:Int)(s:Int)(p:Point):Int:=if decide (p.t<=t)=true then W (s+p.a)else s
def tL(a:Arc)(t:Int):Int:=a.slow.foldl (rA t) (kU a.travel t)
def fB(n:Network)(p f t time:Int):Int×Int×Int:=
 if(!O0 n f|| !O0 n t)=true then(0,0,11)else if(f == t)=true then(time,0,0)
 else match sS n p f t with|some a=>(tL a time,a.miles,0)|none=>(0,0,12)
structure Score where
 cost:Int
 moved:Int
 other:Int
 work:Int
def bE(s:Score):List AV:=[int s.cost,int s.moved,int s.other,int s.work]
def kN(a b:Score):Score:=⟨W (a.cost+b.cost),W (a.moved+b.moved),W (a.other+b.other),W (a.work+b.work)⟩
def gY(l:List Visit)(n:Nat):Bool:=(List.range n).all fun i=> !(cT l i == cT l n)
def Qq(c s:Int)(i:Nat):Bool:=(IntKind.i64.wrap (Int.tdiv s (2^i:Nat))).tmod 2 == 1&&(IntKind.i64.wrap (Int.tdiv c (2^i:Nat))).tmod 2 == 0
def BZ(c s:Int):Bool:= !(decide (c<0)||decide (s<0))&&(List.range 63).all fun i=> !Qq c s i
def aX:Score:=⟨0,0,0,0⟩
def cX(o:Order):Score×Int:=if o.off=true then(aX,9)else if(o.penalty == -1)=true then(aX,23)else(⟨o.penalty,if(o.now != -1)=true then 1 else 0,0,0⟩,0)
def bH(x:Instance)(k:Int):Score×Int:=if bS k x.orders.length=true then(aX,2)else match x.orders[k.toNat]? with|some o=>cX o|none=>(aX,2)
def mJ:Stop:=⟨0,0,0,0⟩
def xK(o:Order)(v:Visit):Stop:=if v.drop=true then o.drop else o.pick
def bI(x:Instance)(v:Visit):Stop×Bool:=if bS v.order x.orders.length=true then(mJ,false)else
 match x.orders[v.order.toNat]? with
 | some o=>(xK o v,decide ((xK o v).place>=0))
 | none=>(mJ,false)
def bW(x:Instance)(r:Route):Bool:=
 !(bS r.type x.types.length||decide (r.start<0)||decide (r.start>4096)||decide ((r.visits.length:Int)>20))&&r.visits.all fun v=>(bI x v).2
structure St8 where
 place:Int
 time:Int
 driven:Int
 miles:Int
def nW(t:VType)(s:St8)(yes:Bool):St8:=if yes=true then⟨s.place,W (s.time+t.rest),0,s.miles⟩else s
def oT(x:Instance)(t:VType)(s:St8)(to close late:Int):St8×Int:=
 if(!((fB x.net t.profile s.place to s.time).2.2 == 0))=true then(s,12)
 else if(fB x.net t.profile s.place to s.time).1>close then(s,late)
 else if W (W (s.driven+(fB x.net t.profile s.place to s.time).1)-s.time)>t.drive then(s,16)
 else(⟨to,(fB x.net t.profile s.place to s.time).1,W (W (s.driven+(fB x.net t.profile s.place to s.time).1)-s.time),W (s.miles+(fB x.net t.profile s.place to s.time).2.1)⟩,0)
structure Tm where
 arrive:Int
 begin_:Int
 depart:Int
 rest:Bool
def wF(t:Tm):List AV:=[int t.arrive,int t.begin_,int t.depart,boo t.rest]
def abK(s:Tm):(wF s).length=4:=(rfl)
def aeA(s:Tm):(wF s).take 4=wF s:=(rfl)
attribute [go_sem] abK aeA
structure Sheet where
 rest:Bool
 depart:Int
 times:List Tm
 end_:Int
 miles:Int
def cH(s:Sheet):List AV:=[boo s.rest,int s.depart,.sl (s.times.map wF),int s.end_,int s.miles]
def aS:Sheet:=⟨false,0,[],0,0⟩
abbrev afJ:=St8×List Int×List Tm
def tC(x:Instance)(t:VType)(a:afJ)(v:Visit):St8×Int:=oT x t a.1 (bI x v).1.place (bI x v).1.close 14
def OA(s:Stop)(n:St8):St8:=⟨n.place,W (eF n.time s.start+s.service),n.driven,n.miles⟩
def Fy(x:Instance)(t:VType)(a:afJ)(p:Visit×Bool):afJ:=
 (nW t (OA (bI x p.1).1 (tC x t a p.1).1) p.2,a.2.1++[(tC x t a p.1).1.driven],
   a.2.2++[⟨(tC x t a p.1).1.time,eF (tC x t a p.1).1.time (bI x p.1).1.start,(nW t (OA (bI x p.1).1 (tC x t a p.1).1) p.2).time,p.2⟩])
def nF(x:Instance)(t:VType)(a:afJ)(p:Visit×Bool):Except Int afJ:=
 if((tC x t a p.1).2 != 0)=true then .error (tC x t a p.1).2 else .ok (Fy x t a p)
def xE(r:Route)(t:VType)(b:Bool):St8:=nW t ⟨t.src,eF t.start r.start,0,0⟩ b
def tX(x:Instance)(t:VType)(b:Bool)(s0:St8)(a:afJ):Sheet×List Int×Int:=
 if((oT x t a.1 t.dst t.close 15).2 != 0)=true then(aS,[],(oT x t a.1 t.dst t.close 15).2)
 else(⟨b,s0.time,a.2.2,(oT x t a.1 t.dst t.close 15).1.time,(oT x t a.1 t.dst t.close 15).1.miles⟩,a.2.1++[(oT x t a.1 t.dst t.close 15).1.driven],0)
def aAI(x:Instance)(r:Route)(rests:List Bool)(t:VType)(b:Bool):Sheet×List Int×Int:=
 match (r.visits.zip rests.tail).foldlM (nF x t) (xE r t b,[],[])with
 | .error e=>(aS,[],e)
 | .ok a=>tX x t b (xE r t b) a
def iL(x:Instance)(r:Route)(rests:List Bool):Sheet×List Int×Int:=
 if(!bW x r||((rests.length:Int) != ((r.visits.length+1:Nat):Int)))=true then(aS,[],2)
 else match x.types[r.type.toNat]? with
 | some t=>aAI x r rests t (rests.getD 0 false)
 | none=>(aS,[],2)
def tH{x:Instance}{r:Route}(h:bW x r=true):0<=r.type/\r.type<(x.types.length:Int):=by simp_all[bW,bS]
def axC{H:aG}{i j:Nat}{r:Row}{a b:Option Row}(E:H i=some r)(A:H j=none):aH (aH H j a) j b i=some r:=by
 have h1:=aV E A
 grind[aD]
def axF{H:aG}{i j:Nat}{r:Row}{b:Option Row}(A:H i=some r)(h1:i≠j):aH H j b i=some r:=by grind[aD]
def apE{H:aG}{i j:Nat}{r r':Row}(E:H i=some r)(A:H j=some r')(h:(r.e == r'.e)=false):i≠j:=fun e=>by grind
abbrev CL(s:Stop):Row:=⟨76,4,[eQ s]⟩
abbrev Hq(l:List Tm):Row:=⟨301,4,l.map wF⟩
abbrev DX(l:List Int):Row:=⟨3,1,l.map aQ⟩
abbrev hY(cs:List AV):Row:=⟨126,5,[cs]⟩
abbrev zeroCells:List AV:=[boo false,int 0,.sl [],int 0,int 0]
def sF(n:Nat):Nat->List Bool->List Bool×Bool
 | 0,_=>([],false)
 | k+1,l=>if n<=k then(if l.getD k false=true then sF n k (l.set k false)else(l.set k true,true))else([],false)
def mY(l:List Bool)(n:Nat):List Bool×Bool:=sF n l.length l
def EY:List Bool->Nat
 | []=>0
 | b::r=>(if b=true then 2^r.length else 0)+EY r
def Zf:∀l,EY l<2^l.length
 | []=>by simp[EY]
 | b::r=>by have:=Zf r;simp only[EY,Xag,Nat.pow_succ];split <;> omega
def SN:∀(l:List Bool) (k:Nat) (b:Bool),l[k]?=some b->EY (l.set k (!b))+(if b=true then 2^(l.length-1-k)else 0)=EY l+(if b=true then 0 else 2^(l.length-1-k))
 | [],k,b,h=>by grind
 | a::r,0,b,h=>by grind[EY]
 | a::r,k+1,b,h=>by have:=SN r k b (by simpa using h);simp only[List.set_cons_succ,EY,Xbm,Xag];rw[show r.length+1-1-(k+1)=r.length-1-k by omega];cases b <;> simp at this |- <;> omega
def Hg(n:Nat):∀(k:Nat) (l:List Bool),k<=l.length->(sF n k l).2=true->(sF n k l).1.length=l.length/\EY (sF n k l).1=EY l+2^(l.length-k)
 | 0,l,_,h=>by grind[sF]
 | k+1,l,hk,h=>by
  obtain⟨b,F⟩:=aI (show k<l.length by omega);have E:=SN l k b F;have O:l.getD k false=b:=by grind
  have A:2^(l.length-k)=2*2^(l.length-(k+1)):=by rw[show l.length-k=(l.length-(k+1))+1 by omega,Nat.pow_succ];omega
  have J:l.length-1-k=l.length-(k+1):=by omega
  rw[J]at E;unfold sF at h |-;rw[O]at h |-;by_cases T:n<=k
  ·rw[if_pos T]at h |-;cases b
   ·grind
   ·simp only[if_true]at h |- E;have ih:=Hg n k (l.set k false) (by simp;omega) h;simp only[Xbm]at ih;refine⟨ih.1,?_⟩;rw[ih.2,A];simp only[Xcl]at E;omega
  grind
abbrev auR(l:List Bool):Row:=⟨4,1,l.map fY⟩
def lH(x:Instance)(r:Route)(c:List Bool)(b:Sheet×Bool):Sheet×Bool:=
 if((iL x r c).2.2 == 0&&(!b.2||decide ((iL x r c).1.end_<b.1.end_)))=true then((iL x r c).1,true)else b
def wY(x:Instance)(r:Route)(m:Nat):Nat->List Bool×Bool->Sheet×Bool->Sheet×Bool
 | 0,_,b=>b
 | f+1,c,b=>if c.2=true then wY x r m f (mY c.1 m) (lH x r c.1 b)else b
def GQ(c:List Bool×Bool):Nat:=if c.2=true then 2^c.1.length-EY c.1 else 0
def dE(r:Route):List Bool:=r.rests++List.replicate (r.visits.length+1-r.rests.length) false
def PE(b:Sheet×Bool)(first:Int):Sheet×Int:=if b.2=true then(b.1,0)else(aS,first)
def uC(x:Instance)(r:Route):Sheet×Int:=
 if(!bW x r||decide ((r.rests.length:Int)>((r.visits.length+1:Nat):Int)))=true then(aS,2)
 else PE (wY x r r.rests.length (GQ (mY (dE r) r.rests.length)) (mY (dE r) r.rests.length) ((iL x r (dE r)).1,(iL x r (dE r)).2.2 == 0)) (iL x r (dE r)).2.2
theorem HC{x:Instance}{r:Route}{m:Nat}{c:List Bool×Bool}{b:Sheet×Bool}(h:c.2=false):∀f,wY x r m f c b=b
 | 0=>rfl
 | f+1=>by simp_all[wY]
def Hj{x:Instance}{r:Route}{m:Nat}{c:List Bool×Bool}{b:Sheet×Bool}(h:c.2=true):wY x r m (GQ c) c b=wY x r m (GQ (mY c.1 m)) (mY c.1 m) (lH x r c.1 b)/\GQ (mY c.1 m)<GQ c/\((mY c.1 m).2=true->(mY c.1 m).1.length=c.1.length):=by
 have J:=Zf c.1;have e:GQ c=(2^c.1.length-EY c.1-1)+1:=by unfold GQ;grind
 have F:wY x r m (GQ c) c b=wY x r m (2^c.1.length-EY c.1-1) (mY c.1 m) (lH x r c.1 b):=by simp_all[wY]
 cases A:(mY c.1 m).2 with
 | false=>grind[HC,GQ]
 | true=>
  have E:=Hg m c.1.length c.1 (Xae _) A;rw[Nat.sub_self]at E;have O:GQ (mY c.1 m)=2^c.1.length-EY c.1-1:=by
   unfold GQ;rw[A,if_pos rfl]
   grind[mY]
  exact⟨by grind,by omega,fun _=>E.1⟩
def fW(s:Sheet):(cH s).length=5:=(rfl)
def D5(s:Sheet):(cH s).getD 3 .any=int s.end_:=(rfl)
def DS(s:Sheet):(cH s).getD 4 .any=int s.miles:=(rfl)
def AK(s:Sheet):(cH s).take 5=cH s:=(rfl)
attribute [go_sem] D5 DS AK
def XC{a:List Bool}{n:Nat}(h:a.length<=n):((List.replicate n [boo false]).take 0++(a.map fY).take (min (a.map fY).length (List.replicate n [boo false]).length))++(List.replicate n [boo false]).drop (0+min (a.map fY).length (List.replicate n [boo false]).length)=(a++List.replicate (n-a.length) false).map fY:=by simp_all[fY,Xbb]
def cE(s:Score):(bE s).length=4:=(rfl)
def A1(s:Score):(bE s).getD 0 .any=int s.cost:=(rfl)
def AJ(s:Score):(bE s).getD 1 .any=int s.moved:=(rfl)
def AO(s:Score):(bE s).getD 2 .any=int s.other:=(rfl)
def AI(s:Score):(bE s).getD 3 .any=int s.work:=(rfl)
def vA(s:Score):(bE s).take 4=bE s:=(rfl)
attribute [go_sem] fW cE A1 AJ AO AI vA
abbrev pW(s:Score):Row:=⟨82,4,[bE s]⟩
def Wf(o:Order)(t:Int):Bool:=o.now != -1&&o.now != t
def Wy(o:Order)(t:Int):Bool:=o.last != -1&&o.last != t
def Ib(o:Order)(t:Int)(a:Score):Score:=if Wf o t=true then⟨a.cost,W (a.moved+1),a.other,a.work⟩else a
def FX(o:Order)(t:Int)(a:Score):Score:=if Wy o t=true then⟨a.cost,a.moved,W (a.other+1),a.work⟩else a
def dO(x:Instance)(r:Route)(a:Score)(i:Nat):Score:=
 if(bS (cT r.visits i) x.orders.length|| !gY r.visits i)=true then a
 else match x.orders[(cT r.visits i).toNat]? with
 | some o=>FX o r.type (Ib o r.type a)
 | none=>a
def A5(t:VType)(s:Sheet):Score:=
 ⟨W (W (t.fixed+W (t.perMile*s.miles))+W (t.perTick*W (s.end_-t.start))),0,0,
   W (W (Int.tdiv (W (s.end_-t.start)) 64)*W (Int.tdiv (W (s.end_-t.start)) 64))⟩
def Qb(x:Instance)(r:Route)(s:Sheet)(t:VType):Score:=(List.range r.visits.length).foldl (dO x r) (A5 t s)
def rL(x:Instance)(r:Route)(s:Sheet):Score:=
 if bS r.type x.types.length=true then aX else match x.types[r.type.toNat]? with
 | some t=>Qb x r s t
 | none=>aX
def Fl{x:Instance}{l:List Visit}(h:eR x l=0):∀v∈l,0<=v.order/\v.order<(x.orders.length:Int):=by
 intro v E;by_cases A:(l.any fun v=>bS v.order x.orders.length)=true
 ·simp_all[eR]
 simp_all[bS]
def E3(x:Instance)(t:VType)(v:Visit):Bool:=match x.orders[v.order.toNat]? with|some o=>BZ t.skills o.skills|none=>false
def JT(x:Instance)(r:Route)(t:VType):Sheet×Score×Int:=
 if(eR x r.visits != 0)=true then(aS,aX,eR x r.visits)
 else if(r.visits.any fun v=> !E3 x t v)=true then(aS,aX,18)
 else if(yN x r != 0)=true then(aS,aX,yN x r)
 else if((uC x r).2 != 0)=true then(aS,aX,(uC x r).2)
 else((uC x r).1,rL x r (uC x r).1,0)
def oO(x:Instance)(r:Route):Sheet×Score×Int:=
 if bS r.type x.types.length=true then(aS,aX,2)else match x.types[r.type.toNat]? with
 | some t=>JT x r t
 | none=>(aS,aX,2)
structure PlanB(p:Plan):Prop where
 routes:p.routes.length<=1048576
 visits:∀r∈p.routes,r.visits.length<=1048576
 unserved:p.unserved.length<=1048576
def Ea{α:Type}(p:α->Bool)(l:List α):Nat:=l.countP p
def OY{α:Type}{p:α->Bool}{l:List α}:Ea p l<=l.length:=List.countP_le_length
def onR(k:Int)(r:Route):Bool:=r.visits.any fun v=>v.order == k
def onA(p:Plan)(k:Int):Nat:=Ea (onR k) p.routes
def onU(p:Plan)(k:Int):Nat:=Ea (fun u=>u == k) p.unserved
def ES(p:Plan)(i:Nat):Bool:=decide (((onA p i+onU p i:Nat):Int)>1)
def aBx(p:Plan)(t:Nat):Nat:=Ea (fun r:Route=>r.type == (t:Int)) p.routes
def OS(x:Instance)(p:Plan)(t:Nat):Bool:=match x.types[t]? with|some v=>decide ((aBx p t:Int)>v.count)|none=>false
def Jy(x:Instance)(p:Plan)(i:Nat):Bool:=match x.orders[i]? with
 | some o=>(((onA p i+onU p i:Nat):Int) == 0&& !o.off)||(decide ((onU p i:Int)>0)&&o.penalty == -1)
 | none=>false
def Fb(x:Instance)(p:Plan):Int:=
 if(oR (p.routes.map fun r=>(oO x r).2.2) != 0)=true then oR (p.routes.map fun r=>(oO x r).2.2)
 else if(p.unserved.any fun u=>bS u x.orders.length)=true then 2
 else if((List.range x.orders.length).any (ES p))=true then 6
 else if((List.range x.types.length).any (OS x p))=true then 22
 else if(p.unserved.any fun u=>uN x u)=true then 9
 else if((List.range x.orders.length).any (Jy x p))=true then 23 else 0
def DT{P:Program}{C:mM}{PC:FuncId->List AV->aG->AV->Prop}{mt:Nat->Bool}{ops:Array Oper}{K:Env->aG->Prop}{m:Nat}{ρ:Env}{H:aG}(J:Env->aG->Prop)(h1:∀ρ H,J ρ H->K ρ H)
 (A:∀K':Env->aG->Prop,(∀ρ H,J ρ H->K' ρ H)->wW P C PC mt ops K' m ρ H):wW P C PC mt ops K m ρ H:=A K h1
end Go.Proofs.YthephioccidfgaaGreatDoor.Sq
end
