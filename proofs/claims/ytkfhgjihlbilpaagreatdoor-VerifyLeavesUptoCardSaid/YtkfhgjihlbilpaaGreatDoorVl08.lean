import Derived.Test.YtkfhgjihlbilpaaGreatDoorRows
import Derived.Carry
import Derived.OpenShut
import Derived.JoinedCond
import Derived.WalkKit
import Derived.ProofKit
import Derived.WideKeyArgs
import Derived.Test.YtkfhgjihlbilpaaGreatDoorVl04
set_option linter.unusedSimpArgs false
set_option linter.unusedVariables false
set_option linter.defProp false
set_option maxRecDepth 100000
section
namespace Go.Proofs.YtkfhgjihlbilpaaGreatDoor
open Go.Proofs.Tryz
open Go.Aw Go.Aw.D Go.Proofs Ty
def inR(n lo hi:Int):Bool:=decide (n>=lo)&&decide (n<=hi)
def sL(n lo A:Int):PC prog 62 [int n,int lo,int A] (boo (inR n lo A)):=by refine pcd func62 rfl rfl ?_;simp only[go_sem];exact .refl _
def GT(n lo A:Int):PC prog 130 [int n,int lo,int A] (boo (inR n lo A)):=by refine pcd func130 rfl rfl ?_;simp only[go_sem];exact .refl _
def aoQ(n:Int):PC prog 126 [int n] (boo (inR n 0 4096)):=by refine pcd func126 rfl rfl ?_;simp only[go_sem];exact .refl _
def Q1(c:Int):Bool:=decide (c>=48)&&decide (c<=57)
def JB(c:Int):PC prog 189 [.v (.int .u8 c)] (boo (Q1 c)):=by refine pcd func189 rfl rfl ?_;simp only[go_sem];exact .refl _
def Rb(c:Int):Bool:=decide (c>=97)&&decide (c<=122)||decide (c>=65)&&decide (c<=90)||c == 95
def Fi(c:Int):PC prog 190 [.v (.int .u8 c)] (boo (Rb c)):=by refine pcd func190 rfl rfl ?_;simp only[go_sem];exact .refl _
def mP(s:Stop):Bool:=s.place == -1&&s.start == 0&&s.close == 0&&s.ζ == 0
def PJ(s:Stop):Bool:=decide (s.place<0)||decide (s.start<0)||decide (s.start>s.close)||decide (s.close>4096)||decide (s.ζ<0)||decide (s.ζ>4096)
def kH(s:Stop):Int:=if mP s then 0 else if PJ s then 2 else 0
def Ts(s:Stop):PC prog 131 [.agg (eT s)] (int (kH s)):=by
 refine pcd func131 rfl rfl ?_;simp only[go_sem];apply aA <;> intro h
 ·simp only[go_sem];have:kH s=0:=if_pos h;rw[this];exact .refl _
 ·simp only[go_sem];apply aA <;> intro A
  ·simp only[go_sem];have:kH s=2:=by unfold kH;rw[if_neg (by simp[mP,h])];exact if_pos A
   rw[this];exact .refl _
  ·simp only[go_sem];have:kH s=0:=by simp_all[kH,PJ]
   rw[this];exact .refl _
def Ky(n:Int):ByteArray:=strOfNums [IntKind.u8.wrap (IntKind.i64.wrap (48+n))]
def nY(n:Nat):ByteArray:=if n<10 then Ky n else nY (n/10)++Ky (n%10:Nat)
theorem G4(x:Int):(strOfNums [x]).size=1:=by rfl
theorem TZ(n:Int):(Ky n).size=1:=G4 _
theorem DP{n:Nat}(h:10<=n):nY n=nY (n/10)++Ky (n%10:Nat):=by rw[nY,if_neg (by omega)]
theorem AY{n:Nat}(h:n<10):nY n=Ky n:=by rw[nY,if_pos h]
theorem rF(n:Nat):(nY n).size<=n+1:=by induction n using Nat.strongRecOn<;>grind[AY,TZ,DP]
def amC(m:Nat):(m:Int).tmod 10=((m%10:Nat):Int):=by rfl
def anY(m:Nat):(m:Int).tdiv 10=((m/10:Nat):Int):=by rfl
def KG{k:Nat}(h:k<=4611686018427387904):IntKind.i64.wrap (k:Int)=(k:Int):=aW (by omega)
theorem Cl:IntKind.i64.max=9223372036854775807:=by decide
def axV(n:Nat)(O:n<=4611686018427387904):PC prog 132 [int n] (str (nY n)):=by
 refine pcd func132 rfl rfl ?_;simp only[go_sem];refine⟨fun ρ _=>∃(m:Nat) (s:ByteArray),ρ 0=int m/\ρ 3=str s/\nY n=nY m++s/\s.size+m<=n,
  fun ρ _=>aT (ρ 0),⟨n,ByteArray.empty,rfl,rfl,by simp,by simp⟩,?_⟩
 rintro ρ H ⟨k,s,h0,F,I,J⟩;simp only[go_sem,h0];refine aA (fun A=>?_) (fun E=>?_)
 ·have A:10<=k:=by grind
  simp only[go_sem,h0,F,anY,amC,KG (show k/10<=4611686018427387904 by omega),aJ];refine⟨by omega,?_,by omega,⟨k/10,_,rfl,rfl,?_,?_⟩,by omega⟩
  ·grind[G4,Cl]
  ·rw[I,DP A,ByteArray.append_assoc];rfl
  grind[G4]
 ·have E:k<10:=by grind
  simp only[go_sem,h0,F];refine⟨by grind[G4,Cl],?_⟩;rw[I,AY E];exact .refl _
def akS:AV->Nat
 | .v (.bool true)=>1
 | _=>0
def wE(n:Nat)(Y:n<=4611686018427387904):PC prog 64 [int n] (str (nY n)):=by
 refine pcd func64 rfl rfl ?_;simp only[go_sem];refine⟨fun ρ _=>∃(b:Bool) (m:Nat) (s:ByteArray),ρ 0=int n/\ρ 5=boo b/\ρ 4=int m/\ρ 3=str s/\(b=true->nY n=nY m++s/\s.size+m<=n)/\(b=false->nY n=s),
  fun ρ _=>aT (ρ 4)+akS (ρ 5),⟨true,n,ByteArray.empty,rfl,rfl,rfl,rfl,fun _=>by simp,by simp⟩,?_⟩
 rintro ρ H ⟨b,k,s,h0,T,F,J,U,O⟩;simp only[go_sem,F,T];apply aA <;> intro E
 ·subst E;obtain⟨I,X⟩:=U rfl;simp only[go_sem,F,amC];refine⟨by omega,?_⟩;apply aA <;> intro E
  ·exfalso;grind
  ·simp only[go_sem,h0,J,F,anY,KG (show k/10<=4611686018427387904 by omega),aJ];refine⟨by grind[G4,Cl],by omega,⟨_,k/10,_,rfl,rfl,rfl,?_,?_⟩,?_⟩
   ·intro E;have:10<=k:=by grind
    refine⟨?_,?_⟩
    ·rw[I,DP this,ByteArray.append_assoc];rfl
    grind[G4]
   ·intro E;have A:k<10:=by grind
    rw[I,AY A,Xbu A];rfl
   ·rcases Xbd k 10 with h|h
    ·have:k/10=0:=by omega
     simp[this,akS]
    ·simp only[akS];grind
 ·simp only[go_sem,h0,];apply aA <;> intro E
  ·exfalso;grind
  ·simp only[go_sem,J,];rw[O (by omega)];exact .refl _
def fS(l:List Int)(d:Int):Bool:=if(l.length:Int)=d then l.all fun n=> !(decide (n<0)||decide (n>1000))else false
def anS{α:Type}{p:α->Bool}{l:List α}{x:α}(h:x∈l)(A:p x=false):l.all p=false:=by grind
def qT{α:Type}{l:List α}{k:Nat}{x:α}(h:l[k]?=some x):x∈l:=Xab h
def wV{α:Type}{q:α->Prop}{l:List α}{k:Nat}{x:α}(A:l[k]?=some x)(h:∀y∈l.take k,q y)(E:q x):∀y∈l.take (k+1),q y:=by
 rw[aY A]
 grind
def aX{k n:Nat}(h:decide ((k:Int)<(n:Int))=true):k<n:=by grind
def aZ{k n:Nat}(A:k<=n)(h:decide ((k:Int)<(n:Int))=false):k=n:=by grind
def FL(l:List Int)(d:Int)(Y:l.length<=1048576):PC prog 129 [.sl (l.map aP),int d] (boo (fS l d)):=by
 refine pcd func129 rfl rfl ?_;simp only[go_sem];apply aA <;> intro X
 ·simp only[go_sem];have:fS l d=false:=by simp_all[fS]
  rw[this];exact .refl _
 ·have X:(l.length:Int)=d:=by grind
  simp only[go_sem];refine⟨fun ρ _=>∃k:Nat,k<=l.length/\ρ 0=.sl (l.map aP)/\ρ 5=int k/\∀n∈l.take k,(decide (n<0)||decide (n>1000))=false,fun ρ _=>l.length-aT (ρ 5),⟨0,Xaa _,rfl,rfl,by simp⟩,?_⟩;rintro ρ H ⟨k,T,h0,F,O⟩;simp only[go_sem,h0,F];refine aA (fun A=>?_) (fun E=>?_)
  ·have A:=aX A;obtain⟨r,I⟩:=aK A;have J:=inB A;simp only[go_sem,h0,F,J,aC I];apply aA <;> intro U
   ·simp only[go_sem];have:fS l d=false:=by unfold fS;grind
    rw[this];exact .refl _
   ·simp only[go_sem,h0,F,aQ k];exact⟨⟨k+1,A,rfl,wV I O U⟩,msr A⟩
  ·have E:=aZ T E;subst E;simp only[go_sem];have:fS l d=true:=by simp_all[fS]
   rw[this];exact .refl _
def Ee(l:List Int)(d:Int):Bool:=if(!inR l.length 1 3||(l.length:Int) != d)=true then false else l.all fun n=>inR n 0 1000
def aCj(l:List Int)(d:Int)(U:l.length<=1048576):PC prog 128 [.sl (l.map aP),int d] (boo (Ee l d)):=by
 refine pcd func128 rfl rfl ?_;simp only[go_sem];refine aL (sL _ _ _) ?_;simp only[go_sem];apply aA <;> intro Y
 ·simp only[go_sem];have:Ee l d=false:=by simp_all[Ee]
  rw[this];exact .refl _
 ·simp only[go_sem];refine⟨fun ρ _=>∃k:Nat,k<=l.length/\ρ 0=.sl (l.map aP)/\ρ 5=int k/\∀n∈l.take k,inR n 0 1000=true,fun ρ _=>l.length-aT (ρ 5),⟨0,Xaa _,rfl,rfl,by simp⟩,?_⟩;rintro ρ H ⟨k,T,h0,F,O⟩;simp only[go_sem,h0,F];refine aA (fun A=>?_) (fun E=>?_)
  ·have A:=aX A;obtain⟨r,I⟩:=aK A;have J:=inB A;simp only[go_sem,h0,F,J,aC I];refine aL (sL _ _ _) ?_;simp only[go_sem];apply aA <;> intro X
   ·simp only[go_sem];have:Ee l d=false:=by unfold Ee;grind
    rw[this];exact .refl _
   ·simp only[go_sem,h0,F,aQ k];exact⟨⟨k+1,A,rfl,wV I O (by grind)⟩,msr A⟩
  ·have E:=aZ T E;subst E;simp only[go_sem];have:Ee l d=true:=by unfold Ee;grind
   rw[this];exact .refl _
def EO(s:ByteArray)(i:Nat):Int:=((s.data.getD i 0).toNat:Int)
def sS(s:ByteArray):Bool:=if(decide ((s.size:Int)<1)||decide ((s.size:Int)>16)||Q1 (EO s 0))=true then false else(List.range s.size).all fun i=>Rb (EO s i)||Q1 (EO s i)
def kM{n k:Nat}(h:k<n):(List.range n)[k]?=some k:=by simp[h]
def Wp(s:ByteArray)(U:s.size<=1048576):PC prog 124 [str s] (boo (sS s)):=by
 refine pcd func124 rfl rfl ?_;simp only[go_sem];refine⟨fun h=>⟨by omega,by grind⟩,_,fun _=>(JB _).q rfl,?_⟩;simp only[go_sem];apply aA <;> intro I
 ·simp only[go_sem];have:sS s=false:=by unfold sS;rw[if_pos (by exact I)]
  rw[this];exact .refl _
 ·simp only[go_sem];refine⟨fun ρ _=>∃k:Nat,k<=s.size/\ρ 0=str s/\ρ 3=int k/\∀i∈(List.range s.size).take k,(Rb (EO s i)||Q1 (EO s i))=true,fun ρ _=>s.size-aT (ρ 3),⟨0,Xaa _,rfl,rfl,by simp⟩,?_⟩;rintro ρ H ⟨k,O,h0,F,T⟩;simp only[go_sem,h0,F];refine aA (fun A=>?_) (fun E=>?_)
  ·have A:=aX A;have J:=inB A;simp only[go_sem,h0,F,J];refine aL (Fi _) ?_;simp only[go_sem,h0,F,J];refine⟨_,fun _=>(JB _).q rfl,?_⟩;simp only[go_sem];apply aA <;> intro X
   ·simp only[go_sem];have:sS s=false:=by unfold sS;rw[if_neg (by intro h;exact absurd (h.symm.trans I) (by simp))];exact anS (qT (kM A)) (by grind[EO])
    rw[this];exact .refl _
   ·simp only[go_sem,h0,F,aQ k];exact⟨⟨k+1,A,rfl,wV (kM A) T (by grind[EO])⟩,msr A⟩
  ·have E:=aZ O E;subst E;simp only[go_sem];have:sS s=true:=by unfold sS;rw[if_neg (by intro h;exact absurd (h.symm.trans I) (by simp))];grind
   rw[this];exact .refl _
def mO(l:List VType):Int:=match l with|[]=>0|t::_=>t.cap.length
def PQ(l:List VType):PC prog 26 [.sl (l.map bI)] (int (mO l)):=by
 refine pcd func26 rfl rfl ?_;simp only[go_sem];cases l with
 | nil=>
  simp only[go_sem];apply aA <;> intro A
  ·simp only[go_sem];exact .refl _
  ·simp at A
 | cons t l=>
  apply aA <;> intro A
  ·simp at A;omega
  ·simp only[go_sem];exact⟨⟨by omega,by omega⟩,.refl _⟩
def fB(l:List VType)(k:Nat)(s:ByteArray):Bool:=(l.take k).any fun t=>t.name.toList == s.toList
def PH(l:List VType)(m:Nat)(s:ByteArray)(Y:m<=l.length)(Z:l.length<=1048576):PC prog 127 [.sl (l.map bI),int m,str s] (boo (fB l m s)):=by
 refine pcd func127 rfl rfl ?_;simp only[go_sem];refine⟨fun ρ _=>∃k:Nat,k<=m/\ρ 0=.sl (l.map bI)/\ρ 1=int m/\ρ 2=str s/\ρ 7=int k/\∀t∈l.take k,(t.name.toList == s.toList)=false,fun ρ _=>m-aT (ρ 7),⟨0,Xaa _,rfl,rfl,rfl,rfl,by simp⟩,?_⟩;rintro ρ H ⟨k,X,h0,h1,J,F,U⟩;simp only[go_sem,h1,F];refine aA (fun A=>?_) (fun E=>?_)
 ·have A:=aX A;obtain⟨r,I⟩:=aK (show k<l.length by omega);have T:=inB (show k<l.length by omega);simp only[go_sem,h0,J,F,T,aC I];apply aA <;> intro O
  ·simp only[go_sem];have:fB l m s=true:=by refine Xaj.2 ⟨r,?_,O⟩;exact Xab (i:=k) (by grind)
   rw[this];exact .refl _
  ·simp only[go_sem,h0,h1,J,F,aQ k];exact⟨⟨k+1,A,rfl,wV I U O⟩,msr A⟩
 ·have E:=aZ X E;subst E;simp only[go_sem];have:fB l k s=false:=Xba.2 fun t ht=>by grind
  rw[this];exact .refl _
def Am(p:Point):Bool:=decide (p.t<0)||decide (p.t>4096)||decide (p.a<p.t)||decide (p.a>IntKind.i64.wrap (p.t+4096))
def V8(p q:Point):Bool:=decide (p.t<=q.t)||decide (p.a<q.a)
def fE(l:List Point)(i:Nat):Point:=l.getD i ⟨0,0⟩
def KR(n lo hi:Int):Bool:=decide (n<lo)||decide (n>hi)
def jH(l:List Point)(i:Nat):List Fault:=
 opt (Am (fE l i)) ⟨2,nY i⟩++opt (decide ((i:Int)>0)&&V8 (fE l i) (fE l (i-1))) ⟨13,nY i⟩
def jZ(l:List Point):List Fault:=opt (KR l.length 1 16) ⟨4,ByteArray.empty⟩++(List.range l.length).flatMap (jH l)
def aoL(l:List Point)(i:Nat):(jH l i).length<=2:=by grind[jH,cU]
def gO{α A:Type}{f:α->List A}{c:Nat}(h:∀x,(f x).length<=c):∀l:List α,(l.flatMap f).length<=c*l.length
 | []=>by simp
 | x::r=>by have h1:=h x;have E:=gO h r;simp_all;grind
theorem jU{A:Type}(f:Nat->List A)(k:Nat):(List.range (k+1)).flatMap f=(List.range k).flatMap f++f k:=by grind[Xas]
theorem fI{l:List Point}{k:Nat}{p:Point}(h:l[k]?=some p):fE l k=p:=by grind[fE]
def akJ(l:List Point)(hl:l.length<=1048576):NC prog 125 [.sl (l.map cG)] (bV (jZ l)) .os:=by
 refine ncb (fun t=>t == 3) func125 rfl rfl ?_;simp only[go_sem];refine aH fun j hj=>?_
 simp only[go_sem];refine bO (fun ρ H=>∃j,ρ 0=.sl (l.map cG)/\ρ 3=.os j/\H j=some (bV (opt (KR l.length 1 16) ⟨4,ByteArray.empty⟩))) ?_ fun K U=>aA (fun J=>?_) (fun J=>?_)
 ·rintro ρ H ⟨j,h0,O,F⟩;simp only[go_sem,];generalize Z:opt (KR l.length 1 16) (⟨4,ByteArray.empty⟩:Fault)=pre at F;have ai:pre.length<=1:=by grind[cU]
  refine⟨fun ρ H=>∃k:Nat,k<=l.length/\ρ 0=.sl (l.map cG)/\ρ 4=int k/\∃j,ρ 3=.os j/\H j=some (bV (pre++(List.range k).flatMap (jH l))),fun ρ _=>l.length-aT (ρ 4),⟨0,Xaa _,h0,by rfl,j,O,by grind⟩,?_⟩;rintro ρ H ⟨k,hk,h0,E,j,O,F⟩;generalize ac:pre++(List.range k).flatMap (jH l)=es at F;have ag:es.length<=2*k+1:=by
   have:=gO (aoL l) (List.range k)
   grind
  simp only[go_sem,h0,E];refine aA (fun I=>?_) (fun X=>?_)
  ·have I:=aX I;obtain⟨p,hp⟩:=aK I;have b1:=inB I;simp only[go_sem,h0,E,b1,aC hp];refine aH fun i hi=>?_
   simp only[go_sem];refine aG (r:=⟨90,2,[[int 0,int 0]]⟩) (by rw[aB]) (by simp[gH]) ?_;simp only[go_sem];have Y:j≠i:=aV F hi;have af:aI (aI H i (some ⟨90,2,[[int 0,int 0]]⟩)) i (some ⟨90,2,[cG p]⟩) j=some (bV es):=by grind[aF]
   refine bO (fun A H'=>∃j',A 0=.sl (l.map cG)/\A 4=int k/\A 3=.os j'/\A 5=.op i 0 0/\H' i=some ⟨90,2,[cG p]⟩/\j'≠i /\
    H' j'=some (bV (es++opt (Am p) ⟨2,nY k⟩))) ?_ fun K U=>aA (fun J=>?_) (fun J=>?_)
   ·rintro ρ H ⟨j,h0,E,O,h5,hi,Y,F⟩;generalize ah:es++opt (Am p) ⟨2,nY k⟩=fs at F;have aj:fs.length<=2*k+2:=by grind[cU]
    simp only[go_sem];refine jD (by rfl) (by kernel_rfl) ?_;simp only[go_sem,h0,E,h5,hi];obtain⟨q,hq⟩:=aK (show k-1<l.length by omega);simp only[go_sem,h0,E,h5,hi,amW (show k<=4611686018427387904 by omega),aC hq];have ae:k<=4611686018427387904:=by omega
    have hg:decide ((k:Int)>0)=true->0<=IntKind.i64.wrap ((k:Int)-1)/\IntKind.i64.wrap ((k:Int)-1)<(l.length:Int):=fun h=>by grind[zE]
    have ab:pre++(List.range (k+1)).flatMap (jH l)=fs++opt (decide ((k:Int)>0)&&V8 p q) ⟨13,nY k⟩:=by grind[jU,jH,fI]
    refine⟨hg,fun h=>hg h.1,iO (fun A H'=>A 0=.sl (l.map cG)/\A 4=int k/\∃j,A 3=.os j/\H' j=some (bV (pre++(List.range (k+1)).flatMap (jH l)))) ?_ fun K U _ _=>aA (fun J=>?_) (fun J=>?_)⟩
    ·rintro ρ H ⟨h0,E,j,O,F⟩;simp only[go_sem,h0,O,E,mT ae];exact⟨⟨k+1,I,rfl,j,rfl,F⟩,by grind[aJ]⟩
    ·simp only[go_sem,O,E];refine aL (wE _ (by omega)) ?_;simp only[go_sem,];refine aU F ⟨rfl,rfl⟩ (by simp only[go_sem]) (by grind) (fun j' T=>?_);simp only[go_sem,];refine U _ _ ⟨h0,E,j',rfl,?_⟩;rw[ab,kK (by exact J)];exact gN (l':=[⟨13,nY k⟩]) rfl
    ·simp only[go_sem];refine U _ _ ⟨h0,E,j,O,?_⟩;rw[ab,kJ (by exact J),Xat,F]
   ·simp only[go_sem,O,E];refine aL (wE _ (by omega)) ?_;simp only[go_sem,];refine aU af ⟨rfl,rfl⟩ (by simp only[go_sem]) (by grind) (fun j' T=>?_);simp only[go_sem,];have aa:=aB (aI H i (some ⟨90,2,[[int 0,int 0]]⟩)) i (some ⟨90,2,[cG p]⟩);refine U _ _ ⟨j',h0,E,rfl,rfl,cM aa Y T,(aV aa T).symm,?_⟩;rw[kK (show Am p=true from J)];exact gN (l':=[⟨2,nY k⟩]) rfl
   ·simp only[go_sem];refine U _ _ ⟨j,h0,E,O,rfl,by rw[aB],Y,?_⟩
    grind[kJ,Am]
  ·have X:=aZ hk X;subst X;simp only[go_sem,O];exact⟨_,rfl,by rw[F,<-ac,<-Z];rfl⟩
 ·simp only[go_sem];refine aU (r:=bV []) (by simp only[go_sem];rfl) ⟨rfl,rfl⟩ (by simp only[go_sem]) (by simp) (fun j' T=>?_);simp only[go_sem];refine U _ _ ⟨j',rfl,rfl,?_⟩;rw[kK (by exact J)];exact gN (l:=[]) (l':=[⟨4,ByteArray.empty⟩]) rfl
 ·simp only[go_sem];refine U _ _ ⟨j,rfl,rfl,?_⟩;rw[kJ (by exact J),aB];rfl
def Pf(l:List ByteArray)(i:Nat):ByteArray:=l.getD i ByteArray.empty
theorem G0{l:List ByteArray}{k:Nat}{p:ByteArray}(h:l[k]?=some p):Pf l k=p:=by grind[Pf]
def BR(i:Nat):ByteArray:=⟨#[112,108,97,99,101,32]⟩++nY i
def xH(l:List ByteArray)(i:Nat):Bool:=(l.take i).any fun s=>s.toList == (Pf l i).toList
def iR(l:List ByteArray)(i:Nat):List Fault:=match sS (Pf l i)with
 | false=>[⟨5,BR i⟩]
 | true=>opt (xH l i) ⟨6,BR i⟩
def abF(l:List ByteArray)(i:Nat):(iR l i).length<=1:=by grind[iR,cU]
def Bb(l:List ByteArray):List Fault:=opt (decide ((l.length:Int)>24)) ⟨4,⟨#[112,108,97,99,101,115]⟩⟩++(List.range l.length).flatMap (iR l)
theorem KY{α:Type}{p:α->Bool}{l:List α}{k:Nat}{x:α}(h:l[k]?=some x):(l.take (k+1)).any p=((l.take k).any p||p x):=by simp_all[aY]
def Sc(i:Nat):(BR i).size<=i+7:=by have:=rF i;unfold BR;rw[ByteArray.size_append];have:(⟨#[112,108,97,99,101,32]⟩:ByteArray).size=6:=rfl;omega
def apY(n:Network)(hl:n.places.length<=1048576)(hs:∀s∈n.places,s.size<=1048576):NC prog 60 [.agg (bH n)] (bV (Bb n.places)) .os:=by
 refine ncb (fun t=>t == 3) func60 rfl rfl ?_;simp only[go_sem];refine aH fun j hj=>?_
 simp only[go_sem];refine bO (fun ρ H=>∃j,ρ 1=.rp (bH n) 0/\ρ 3=.os j/\H j=some (bV (opt (decide ((n.places.length:Int)>24)) ⟨4,⟨#[112,108,97,99,101,115]⟩⟩))) ?_ fun K Z=>aA (fun T=>?_) (fun T=>?_)
 ·rintro ρ H ⟨j,h1,I,O⟩;simp only[go_sem,];generalize ac:opt (decide ((n.places.length:Int)>24)) (⟨4,⟨#[112,108,97,99,101,115]⟩⟩:Fault)=pre at O;have ah:pre.length<=1:=by grind[cU]
  refine⟨fun ρ H=>∃k:Nat,k<=n.places.length/\ρ 1=.rp (bH n) 0/\ρ 4=int k/\∃j,ρ 3=.os j/\H j=some (bV (pre++(List.range k).flatMap (iR n.places))),fun ρ _=>n.places.length-aT (ρ 4),⟨0,Xaa _,h1,by rfl,j,I,by grind⟩,?_⟩;rintro ρ H ⟨k,hk,h1,E,j,I,O⟩;generalize ae:pre++(List.range k).flatMap (iR n.places)=es at O;have ag:es.length<=k+1:=by
   have:=gO (abF n.places) (List.range k)
   grind
  simp only[go_sem,h1,E];refine aA (fun A=>?_) (fun U=>?_)
  ·have A:=aX A;obtain⟨p,hp⟩:=aK A;have b1:=inB A;have aa:k<=4611686018427387904:=by omega
   have ai:=rF k;have X:pre++(List.range (k+1)).flatMap (iR n.places)=es++iR n.places k:=by grind[jU]
   simp only[go_sem,E];refine aL (wE _ (by omega)) ?_;simp only[go_sem,h1,E,b1,aC hp];refine⟨by simp_all;omega,?_⟩;refine aL (Wp p (hs p (qT hp))) ?_;simp only[go_sem,];refine aA (fun T=>?_) (fun T=>?_)
   ·simp only[go_sem,I];refine aU O ⟨rfl,rfl⟩ (by simp only[go_sem]) (by grind) (fun j' ab=>?_);simp only[go_sem,h1,E,mT aa];refine⟨⟨k+1,A,rfl,j',rfl,?_⟩,by simp only[aJ];omega⟩;have hn:sS (Pf n.places k)=false:=by grind[G0]
    rw[X,iR,hn];exact gN (l':=[⟨5,BR k⟩]) rfl
   ·simp only[go_sem,];have hn:sS (Pf n.places k)=true:=by grind[G0]
    refine⟨fun ρ H'=>∃m:Nat,m<=k/\ρ 1=.rp (bH n) 0/\ρ 3=.os j/\ρ 4=int k/\ρ 5=str (BR k)/\ρ 6=boo ((n.places.take m).any fun s=>s.toList == p.toList)/\ρ 7=int m/\H'=H,fun ρ _=>k-aT (ρ 7),⟨0,Xaa _,h1,I,E,by rfl,by rfl,by rfl,rfl⟩,?_⟩;rintro ρ H' ⟨m,hm,h1,I,E,h5,h6,h7,rfl⟩;simp only[go_sem,E,h7];refine aA (fun J=>?_) (fun F=>?_)
    ·have J:=aX J;obtain⟨q,hq⟩:=aK (show m<n.places.length by omega);have b2:=inB (show m<n.places.length by omega);simp only[go_sem];refine jD (by rfl) (by kernel_rfl) ?_;simp only[go_sem,h1,I,E,h5,h6,h7,b1,b2,aC hp,aC hq,aQ m];refine⟨⟨m+1,J,?_,rfl⟩,by grind[aJ]⟩;rw[KY hq]
    ·have F:=aZ hm F;subst F;simp only[go_sem,h6];have af:xH n.places m=(n.places.take m).any fun s=>s.toList == p.toList:=by grind[xH,G0]
     refine iO (fun Y H'=>Y 1=.rp (bH n) 0/\Y 4=int m/\∃j,Y 3=.os j/\H' j=some (bV (pre++(List.range (m+1)).flatMap (iR n.places)))) ?_ fun K Z _ _=>aA (fun T=>?_) (fun T=>?_)
     ·rintro ρ H ⟨h1,E,j,I,O⟩;simp only[go_sem,h1,I,E,mT aa];exact⟨⟨m+1,A,rfl,j,rfl,O⟩,by simp only[aJ];omega⟩
     ·simp only[go_sem,I,h5];refine aU O ⟨rfl,rfl⟩ (by simp only[go_sem]) (by grind) (fun j' ab=>?_);simp only[go_sem];refine Z _ _ ⟨h1,E,j',rfl,?_⟩;rw[X,iR,hn];show _=some (bV (es++opt (xH n.places m) ⟨6,BR m⟩));rw[kK (af.trans T)];exact gN (l':=[⟨6,BR m⟩]) rfl
     ·simp only[go_sem];refine Z _ _ ⟨h1,E,j,I,?_⟩;rw[X,iR,hn];show _=some (bV (es++opt (xH n.places m) ⟨6,BR m⟩))
      grind[kJ]
  ·have U:=aZ hk U;subst U;simp only[go_sem,I];exact⟨_,rfl,by rw[O,<-ae,<-ac];rfl⟩
 ·simp only[go_sem];refine aU (r:=bV []) (by simp only[go_sem];rfl) ⟨rfl,rfl⟩ (by simp only[go_sem]) (by simp) (fun j' ab=>?_);simp only[go_sem];refine Z _ _ ⟨j',rfl,rfl,?_⟩;rw[kK (by exact T)];exact gN (l:=[]) (l':=[⟨4,⟨#[112,108,97,99,101,115]⟩⟩]) rfl
 ·simp only[go_sem];refine Z _ _ ⟨j,rfl,rfl,?_⟩
  grind[kJ,aB]
def Yx(l:List VType)(i:Nat):VType:=l.getD i ⟨ByteArray.empty,0,0,0,[],0,0,0,0,0,0,0,0,0⟩
def VR{l:List VType}{k:Nat}{p:VType}(h:l[k]?=some p):Yx l k=p:=by grind[Yx]
def qC(n:Network)(l:List VType)(k:Nat)(t:VType):List Int:=
 []++opt (!sS t.name) 5++opt (fB l k t.name) 6++opt (!inR t.count 0 10) 22++opt (!inR t.src 0 (n.places.length-1)|| !inR t.dst 0 (n.places.length-1)) 11
   ++ opt (!Ee t.cap (mO l)) 17++opt (!inR t.l7 0 1073741823) 18++opt (!inR t.start 0 t.close||decide (t.close>4096)) 15
   ++ opt (!inR t.υ 1 4096|| !inR t.rest 0 4096) 16++opt (!inR t.o6 0 7|| !inR t.fixed 0 100000|| !inR t.perMile 0 100|| !inR t.perTick 0 100) 2
def apG(n:Network)(l:List VType)(k:Nat)(hk:k<l.length)(hl:l.length<=1048576)(hs:∀t∈l,t.name.size<=1048576/\t.cap.length<=1048576)(hp:n.places.length<=1048576):
  PC prog 63 [.agg (bH n),.sl (l.map bI),int k] (.sl ((qC n l k (Yx l k)).map aP)):=by
 refine pcb (fun t=>t == 8) func63 rfl rfl ?_;simp only[go_sem];obtain⟨t,ht⟩:=aK hk;have b1:=inB hk;have aa:=hs t (qT ht);rw[VR ht];simp only[go_sem,b1,aC ht];refine aH fun i I=>?_
 simp only[go_sem];refine aG (aB _ _ _) (by simp[kD]) ?_;simp only[go_sem];refine aH fun j hj=>?_
 have ac:=fA (r':=(⟨41,1,[]⟩:Row)) (aB _ _ _) hj;simp only[go_sem,ac];refine aL (Wp _ aa.1) ?_;simp only[go_sem];refine tP (fun A H'=>A 1=.sl (l.map bI)/\A 2=int k/\A 3=.rp (bH n) 0/\A 7=.op i 0 0/\H' i=some (lJ t)/\∃j',A 8=.os j'/\j'≠i/\H' j'=some (nA [])) ⟨rfl,rfl,rfl,rfl,fA (aB _ _ _) hj,_,rfl,(aV (aB _ _ _) hj).symm,aB _ _ _⟩ ?_;rintro ρ H ⟨h1,X,T,J,I,j,U,F,O⟩;generalize ap:([]:List Int)=es0 at O;have ao:es0.length<=0:=by grind
 refine bO (fun A H'=>A 1=.sl (l.map bI)/\A 2=int k/\A 3=.rp (bH n) 0/\A 7=.op i 0 0/\H' i=some (lJ t)/\∃j',A 8=.os j'/\j'≠i/\H' j'=some (nA (es0++opt (!sS t.name) 5))) ?_ fun K Z=>aA (fun Y=>?_) (fun Y=>?_)
 rotate_left
 ·simp only[go_sem,U];refine aU O ⟨rfl,rfl⟩ (by simp only[go_sem]) (by grind) (fun j' E=>?_);simp only[go_sem];refine Z _ _ ⟨h1,X,T,J,cM I F E,j',rfl,(aV I E).symm,?_⟩;rw[kK (show(!sS t.name)=true from Y)];exact iW (l':=[5]) rfl
 ·simp only[go_sem]
  grind[kJ]
 rintro ρ H ⟨h1,X,T,J,I,j,U,F,O⟩;generalize ag:es0++opt (!sS t.name) (5:Int)=es1 at O;have ah:es1.length<=es0.length+1:=by grind[cU]
 simp only[go_sem,h1,X,J,I];refine aL (PH l k t.name (by omega) hl) ?_;simp only[go_sem];refine bO (fun A H'=>A 1=.sl (l.map bI)/\A 2=int k/\A 3=.rp (bH n) 0/\A 7=.op i 0 0/\H' i=some (lJ t)/\∃j',A 8=.os j'/\j'≠i/\H' j'=some (nA (es1++opt (fB l k t.name) 6))) ?_ fun K Z=>aA (fun Y=>?_) (fun Y=>?_)
 rotate_left
 ·simp only[go_sem,U];refine aU O ⟨rfl,rfl⟩ (by simp only[go_sem]) (by grind) (fun j' E=>?_);simp only[go_sem];refine Z _ _ ⟨h1,X,T,J,cM I F E,j',rfl,(aV I E).symm,?_⟩;rw[kK (show(fB l k t.name)=true from Y)];exact iW (l':=[6]) rfl
 ·simp only[go_sem];refine Z _ _ ⟨h1,X,T,J,I,j,U,F,?_⟩
  grind[kJ]
 rintro ρ H ⟨h1,X,T,J,I,j,U,F,O⟩;generalize av:es1++opt (fB l k t.name) (6:Int)=es2 at O;have au:es2.length<=es1.length+1:=by grind[cU]
 simp only[go_sem,J,I];refine aL (sL _ _ _) ?_;simp only[go_sem];refine bO (fun A H'=>A 1=.sl (l.map bI)/\A 2=int k/\A 3=.rp (bH n) 0/\A 7=.op i 0 0/\H' i=some (lJ t)/\∃j',A 8=.os j'/\j'≠i/\H' j'=some (nA (es2++opt (!inR t.count 0 10) 22))) ?_ fun K Z=>aA (fun Y=>?_) (fun Y=>?_)
 rotate_left
 ·simp only[go_sem,U];refine aU O ⟨rfl,rfl⟩ (by simp only[go_sem]) (by grind) (fun j' E=>?_);simp only[go_sem];refine Z _ _ ⟨h1,X,T,J,cM I F E,j',rfl,(aV I E).symm,?_⟩;rw[kK (show(!inR t.count 0 10)=true from Y)];exact iW (l':=[22]) rfl
 ·simp only[go_sem];refine Z _ _ ⟨h1,X,T,J,I,j,U,F,?_⟩
  grind[kJ]
 rintro ρ H ⟨h1,X,T,J,I,j,U,F,O⟩;generalize al:es2++opt (!inR t.count 0 10) (22:Int)=es3 at O;have aj:es3.length<=es2.length+1:=by grind[cU]
 simp only[go_sem,T,J,I,zE (show n.places.length<=4611686018427387904 by omega)];refine aL (sL _ _ _) ?_;simp only[go_sem,T,J,I,zE (show n.places.length<=4611686018427387904 by omega)];refine⟨_,fun _=>(sL _ _ _).q rfl,?_⟩;simp only[go_sem,];refine bO (fun A H'=>A 1=.sl (l.map bI)/\A 2=int k/\A 3=.rp (bH n) 0/\A 7=.op i 0 0/\H' i=some (lJ t)/\∃j',A 8=.os j'/\j'≠i/\H' j'=some (nA (es3++opt (!inR t.src 0 (n.places.length-1)|| !inR t.dst 0 (n.places.length-1)) 11))) ?_ fun K Z=>aA (fun Y=>?_) (fun Y=>?_)
 rotate_left
 ·simp only[go_sem,U];refine aU O ⟨rfl,rfl⟩ (by simp only[go_sem]) (by grind) (fun j' E=>?_);simp only[go_sem];refine Z _ _ ⟨h1,X,T,J,cM I F E,j',rfl,(aV I E).symm,?_⟩;rw[kK (show(!inR t.src 0 (n.places.length-1)|| !inR t.dst 0 (n.places.length-1))=true from Y)];exact iW (l':=[11]) rfl
 ·simp only[go_sem];refine Z _ _ ⟨h1,X,T,J,I,j,U,F,?_⟩
  grind[kJ]
 rintro ρ H ⟨h1,X,T,J,I,j,U,F,O⟩;generalize af:es3++opt (!inR t.src 0 (n.places.length-1)|| !inR t.dst 0 (n.places.length-1)) (11:Int)=es4 at O;have ar:es4.length<=es3.length+1:=by grind[cU]
 simp only[go_sem,];refine jD (by rfl) (by kernel_rfl) ?_;simp only[go_sem,h1,J,I];refine⟨_,(PQ l).q rfl,?_⟩;simp only[go_sem,];refine⟨_,(aCj t.cap (mO l) aa.2).q rfl,?_⟩;simp only[go_sem,];refine bO (fun A H'=>A 1=.sl (l.map bI)/\A 2=int k/\A 3=.rp (bH n) 0/\A 7=.op i 0 0/\H' i=some (lJ t)/\∃j',A 8=.os j'/\j'≠i/\H' j'=some (nA (es4++opt (!Ee t.cap (mO l)) 17))) ?_ fun K Z=>aA (fun Y=>?_) (fun Y=>?_)
 rotate_left
 ·simp only[go_sem,U];refine aU O ⟨rfl,rfl⟩ (by simp only[go_sem]) (by grind) (fun j' E=>?_);simp only[go_sem];refine Z _ _ ⟨h1,X,T,J,cM I F E,j',rfl,(aV I E).symm,?_⟩;rw[kK (show(!Ee t.cap (mO l))=true from Y)];exact iW (l':=[17]) rfl
 ·simp only[go_sem];refine Z _ _ ⟨h1,X,T,J,I,j,U,F,?_⟩
  grind[kJ]
 rintro ρ H ⟨h1,X,T,J,I,j,U,F,O⟩;generalize ak:es4++opt (!Ee t.cap (mO l)) (17:Int)=es5 at O;have aw:es5.length<=es4.length+1:=by grind[cU]
 simp only[go_sem,J,I];refine aL (sL _ _ _) ?_;simp only[go_sem,];refine bO (fun A H'=>A 1=.sl (l.map bI)/\A 2=int k/\A 3=.rp (bH n) 0/\A 7=.op i 0 0/\H' i=some (lJ t)/\∃j',A 8=.os j'/\j'≠i/\H' j'=some (nA (es5++opt (!inR t.l7 0 1073741823) 18))) ?_ fun K Z=>aA (fun Y=>?_) (fun Y=>?_)
 rotate_left
 ·simp only[go_sem,U];refine aU O ⟨rfl,rfl⟩ (by simp only[go_sem]) (by grind) (fun j' E=>?_);simp only[go_sem];refine Z _ _ ⟨h1,X,T,J,cM I F E,j',rfl,(aV I E).symm,?_⟩;rw[kK (show(!inR t.l7 0 1073741823)=true from Y)];exact iW (l':=[18]) rfl
 ·simp only[go_sem];refine Z _ _ ⟨h1,X,T,J,I,j,U,F,?_⟩
  grind[kJ]
 rintro ρ H ⟨h1,X,T,J,I,j,U,F,O⟩;generalize aq:es5++opt (!inR t.l7 0 1073741823) (18:Int)=es6 at O;have ay:es6.length<=es5.length+1:=by grind[cU]
 simp only[go_sem,J,I];refine aL (sL _ _ _) ?_;simp only[go_sem,J,I];refine bO (fun A H'=>A 1=.sl (l.map bI)/\A 2=int k/\A 3=.rp (bH n) 0/\A 7=.op i 0 0/\H' i=some (lJ t)/\∃j',A 8=.os j'/\j'≠i/\H' j'=some (nA (es6++opt (!inR t.start 0 t.close||decide (t.close>4096)) 15))) ?_ fun K Z=>aA (fun Y=>?_) (fun Y=>?_)
 rotate_left
 ·simp only[go_sem,U];refine aU O ⟨rfl,rfl⟩ (by simp only[go_sem]) (by grind) (fun j' E=>?_);simp only[go_sem];refine Z _ _ ⟨h1,X,T,J,cM I F E,j',rfl,(aV I E).symm,?_⟩;rw[kK (show(!inR t.start 0 t.close||decide (t.close>4096))=true from Y)];exact iW (l':=[15]) rfl
 ·simp only[go_sem];refine Z _ _ ⟨h1,X,T,J,I,j,U,F,?_⟩
  grind[kJ]
 rintro ρ H ⟨h1,X,T,J,I,j,U,F,O⟩;generalize am:es6++opt (!inR t.start 0 t.close||decide (t.close>4096)) (15:Int)=es7 at O;have ai:es7.length<=es6.length+1:=by grind[cU]
 simp only[go_sem,J,I];refine aL (sL _ _ _) ?_;simp only[go_sem,J,I];refine⟨_,fun _=>(sL _ _ _).q rfl,?_⟩;simp only[go_sem,];refine bO (fun A H'=>A 1=.sl (l.map bI)/\A 2=int k/\A 3=.rp (bH n) 0/\A 7=.op i 0 0/\H' i=some (lJ t)/\∃j',A 8=.os j'/\j'≠i/\H' j'=some (nA (es7++opt (!inR t.υ 1 4096|| !inR t.rest 0 4096) 16))) ?_ fun K Z=>aA (fun Y=>?_) (fun Y=>?_)
 rotate_left
 ·simp only[go_sem,U];refine aU O ⟨rfl,rfl⟩ (by simp only[go_sem]) (by grind) (fun j' E=>?_);simp only[go_sem];refine Z _ _ ⟨h1,X,T,J,cM I F E,j',rfl,(aV I E).symm,?_⟩;rw[kK (show(!inR t.υ 1 4096|| !inR t.rest 0 4096)=true from Y)];exact iW (l':=[16]) rfl
 ·simp only[go_sem];refine Z _ _ ⟨h1,X,T,J,I,j,U,F,?_⟩
  grind[kJ]
 rintro ρ H ⟨h1,X,T,J,I,j,U,F,O⟩;generalize ae:es7++opt (!inR t.υ 1 4096|| !inR t.rest 0 4096) (16:Int)=es8 at O;have an:es8.length<=es7.length+1:=by grind[cU]
 simp only[go_sem,J,I];refine aL (sL _ _ _) ?_;simp only[go_sem,J,I];refine⟨_,fun _=>(sL _ _ _).q rfl,?_⟩;simp only[go_sem,J,I];refine⟨_,fun _=>(sL _ _ _).q rfl,?_⟩;simp only[go_sem,J,I];refine⟨_,fun _=>(sL _ _ _).q rfl,?_⟩;simp only[go_sem,];refine bO (fun A H'=>A 1=.sl (l.map bI)/\A 2=int k/\A 3=.rp (bH n) 0/\A 7=.op i 0 0/\H' i=some (lJ t)/\∃j',A 8=.os j'/\j'≠i/\H' j'=some (nA (es8++opt (!inR t.o6 0 7|| !inR t.fixed 0 100000|| !inR t.perMile 0 100|| !inR t.perTick 0 100) 2))) ?_ fun K Z=>aA (fun Y=>?_) (fun Y=>?_)
 rotate_left
 ·simp only[go_sem,U];refine aU O ⟨rfl,rfl⟩ (by simp only[go_sem]) (by grind) (fun j' E=>?_);simp only[go_sem];refine Z _ _ ⟨h1,X,T,J,cM I F E,j',rfl,(aV I E).symm,?_⟩;rw[kK (show(!inR t.o6 0 7|| !inR t.fixed 0 100000|| !inR t.perMile 0 100|| !inR t.perTick 0 100)=true from Y)];exact iW (l':=[2]) rfl
 ·simp only[go_sem];refine Z _ _ ⟨h1,X,T,J,I,j,U,F,?_⟩
  grind[kJ]
 rintro ρ H ⟨h1,X,T,J,I,j,U,F,O⟩;generalize az:es8++opt (!inR t.o6 0 7|| !inR t.fixed 0 100000|| !inR t.perMile 0 100|| !inR t.perTick 0 100) (2:Int)=es9 at O;have ax:es9.length<=es8.length+1:=by grind[cU]
 simp only[go_sem,U];have ab:qC n l k t=es9:=by grind[qC]
 rw[ab];exact .row _ _ _ O (ConvE.refl _)
def kP(n:Network)(l:List VType)(k:Nat):List Fault:=(qC n l k (Yx l k)).map fun e=>⟨e,nY k⟩
def Af(n:Network)(l:List VType):List Fault:=opt (!inR l.length 1 6) ⟨4,ByteArray.empty⟩++(List.range l.length).flatMap (kP n l)
theorem BP(n:Network)(l:List VType)(k:Nat)(t:VType):(qC n l k t).length<=9:=by grind[qC,Xar,cU]
def Gb{α A:Type}{f:α->A}{l:List α}{k:Nat}{x:α}(h:l[k]?=some x):(l.take (k+1)).map f=(l.take k).map f++[f x]:=by rw[aY h,Xaq];rfl
def atT(n:Network)(l:List VType)(hl:l.length<=1048576)(hs:∀t∈l,t.name.size<=1048576/\t.cap.length<=1048576)(hp:n.places.length<=1048576):
  NC prog 24 [.agg (bH n),.sl (l.map bI)] (bV (Af n l)) .os:=by
 refine ncb (fun t=>t == 5) func24 rfl rfl ?_;simp only[go_sem];refine aH fun j hj=>?_
 simp only[go_sem];refine aL (sL _ _ _) ?_;simp only[go_sem];refine tP (fun E H'=>E 1=.sl (l.map bI)/\E 2=.rp (bH n) 0/\∃j',E 5=.os j'/\H' j'=some (bV [])) ⟨rfl,rfl,_,rfl,aB _ _ _⟩ ?_;rintro ρ H ⟨h1,J,j,T,I⟩;generalize Z:([]:List Fault)=es0 at I;have ai:es0.length<=0:=by grind
 refine bO (fun E H'=>E 1=.sl (l.map bI)/\E 2=.rp (bH n) 0/\∃j',E 5=.os j'/\H' j'=some (bV (es0++opt (!inR l.length 1 6) ⟨4,ByteArray.empty⟩))) ?_ fun K hK=>aA (fun hb=>?_) (fun hb=>?_)
 rotate_left
 ·simp only[go_sem,T];refine aU I ⟨rfl,rfl⟩ (by simp only[go_sem]) (by grind) (fun j' ae=>?_);simp only[go_sem];refine hK _ _ ⟨h1,J,j',rfl,?_⟩;rw[kK (show(!inR l.length 1 6)=true from hb)];exact gN (l':=[⟨4,ByteArray.empty⟩]) rfl
 ·simp only[go_sem]
  grind[kJ]
 rintro ρ H ⟨h1,J,j,T,I⟩;generalize Y:es0++opt (!inR l.length 1 6) (⟨4,ByteArray.empty⟩:Fault)=es1 at I;have ah:es1.length<=es0.length+1:=by grind[cU]
 simp only[go_sem,];refine⟨fun ρ H=>∃k:Nat,k<=l.length/\ρ 1=.sl (l.map bI)/\ρ 2=.rp (bH n) 0/\ρ 6=int k/\∃j,ρ 5=.os j/\H j=some (bV (es1++(List.range k).flatMap (kP n l))),fun ρ _=>l.length-aT (ρ 6),⟨0,Xaa _,h1,J,by rfl,j,T,by grind⟩,?_⟩;rintro ρ H ⟨k,hk,h1,J,X,j,T,I⟩;generalize ab:es1++(List.range k).flatMap (kP n l)=es at I;have ag:es.length<=9*k+1:=by
  have:=gO (f:=kP n l) (c:=9) (fun x=>by grind[kP,BP]) (List.range k)
  grind
 simp only[go_sem,h1,X];refine aA (fun O=>?_) (fun U=>?_)
 ·have O:=aX O;have ac:k<=4611686018427387904:=by omega
  have aj:es1++(List.range (k+1)).flatMap (kP n l)=es++kP n l k:=by grind[jU]
  simp only[go_sem,h1,J,X];refine aL (apG n l k O hl hs hp) ?_;simp only[go_sem];have af:=BP n l k (Yx l k);have aa:kP n l k=(qC n l k (Yx l k)).map fun e=>⟨e,nY k⟩:=rfl
  generalize qC n l k (Yx l k)=er at af aa;refine⟨fun ρ H=>∃m:Nat,m<=er.length/\ρ 1=.sl (l.map bI)/\ρ 2=.rp (bH n) 0/\ρ 6=int k/\ρ 7=.sl (er.map aP)/\ρ 8=int m/\∃j,ρ 5=.os j/\H j=some (bV (es++(er.take m).map fun e=>⟨e,nY k⟩)),fun ρ _=>er.length-aT (ρ 8),⟨0,Xaa _,h1,J,X,rfl,by rfl,j,T,by simp_all⟩,?_⟩;rintro ρ H ⟨m,hm,h1,J,X,h7,h8,j,T,I⟩;simp only[go_sem,h7,h8];refine aA (fun A=>?_) (fun F=>?_)
  ·have A:=aX A;obtain⟨e,he⟩:=aK A;have b2:=inB A;simp only[go_sem];refine JM (by kernel_rfl) ?_;simp only[go_sem,X,T,h7,h8,b2,aC he];refine⟨_,(wE _ (by omega)).q rfl,?_⟩;simp only[go_sem];refine aU I ⟨rfl,rfl⟩ (by simp only[go_sem]) (by simp;omega) (fun j' ae=>?_);simp only[go_sem,h1,J,X,h7,h8,aQ m];refine⟨⟨m+1,A,rfl,j',rfl,?_⟩,by simp only[aJ];omega⟩;rw[Gb he,<-Xaw];exact gN (l':=[⟨e,nY k⟩]) rfl
  ·have F:=aZ hm F;subst F;simp only[go_sem,h1,J,X,T,mT ac];refine⟨⟨k+1,O,rfl,j,rfl,?_⟩,by simp only[aJ];omega⟩
   grind
 ·have U:=aZ hk U;subst U;simp only[go_sem,T];exact⟨_,rfl,by rw[I,<-ab,<-Y,<-Z];rfl⟩
def Lb(l:List Order)(k:Nat)(s:ByteArray):Bool:=(l.take k).any fun t=>t.name.toList == s.toList
def mM(P:Nat)(d T:Int)(l:List Order)(k:Nat)(o:Order):List Int:=
 []++opt (!sS o.name) 5++opt (Lb l k o.name) 6++opt (!fS o.load d) 17++opt (!inR o.pick.place (-1) ((P:Int)-1)|| !inR o.drop.place (-1) ((P:Int)-1)) 11++opt (o.pick.place == -1&&o.drop.place == -1) 19++opt (kH o.pick != 0||kH o.drop != 0) 14++opt (!inR o.l7 0 1073741823) 18++opt (!inR o.η (-1) 1000000|| !inR o.split 1 4||decide (o.split>1)&&(o.pick.place != -1&&o.drop.place != -1)||decide (o.last< -1)||decide (o.last>=T)||decide (o.now< -1)||decide (o.now>=T)) 2
def aqP(P:Nat)(d T:Int)(l:List Order)(k:Nat)(o:Order)(ho:l[k]?=some o)(hP:P<=1048576)(hl:l.length<=1048576)(hs:∀t∈l,t.name.size<=1048576/\t.load.length<=1048576):
  PC prog 65 [int P,int d,int T,.sl (l.map bE),int k] (.sl ((mM P d T l k o).map aP)):=by
 refine pcb (fun t=>t == 11) func65 rfl rfl ?_;simp only[go_sem];have hk:k<l.length:=by grind
 have b1:=inB hk;have ae:=hs o (qT ho);refine aH fun j hj=>?_
 simp only[go_sem,b1,aC ho];refine aH fun i O=>?_
 simp only[go_sem];refine aG (aB _ _ _) (by simp[nI]) ?_;simp only[go_sem];refine aL (Wp _ ae.1) ?_;simp only[go_sem];have I:j≠i:=aV (aB _ _ _) O;refine tP (fun A H'=>A 0=int P/\A 1=int d/\A 2=int T/\A 3=.sl (l.map bE)/\A 4=int k/\A 12=.op i 0 0/\H' i=some (oO o)/\∃j',A 11=.os j'/\j'≠i/\H' j'=some (nA []))
  ⟨rfl,rfl,rfl,rfl,rfl,rfl,aB _ _ _,j,rfl,I,by grind[aF,aB]⟩ ?_
 rintro ρ H ⟨h0,h1,X,Y,U,E,O,j,F,I,Z⟩;generalize ar:([]:List Int)=es0 at Z;have aq:es0.length<=0:=by grind
 refine bO (fun A H'=>A 0=int P/\A 1=int d/\A 2=int T/\A 3=.sl (l.map bE)/\A 4=int k/\A 12=.op i 0 0/\H' i=some (oO o)/\∃j',A 11=.os j'/\j'≠i/\H' j'=some (nA (es0++opt (!sS o.name) 5))) ?_ fun K hK=>aA (fun hb=>?_) (fun hb=>?_)
 rotate_left
 ·simp only[go_sem,F];refine aU Z ⟨rfl,rfl⟩ (by simp only[go_sem]) (by grind) (fun j' J=>?_);simp only[go_sem];refine hK _ _ ⟨h0,h1,X,Y,U,E,cM O I J,j',rfl,(aV O J).symm,?_⟩;rw[kK (show(!sS o.name)=true from hb)];exact iW (l':=[5]) rfl
 ·simp only[go_sem]
  grind[kJ]
 rintro ρ H ⟨h0,h1,X,Y,U,E,O,j,F,I,Z⟩;generalize ai:es0++opt (!sS o.name) (5:Int)=es1 at Z;have aj:es1.length<=es0.length+1:=by grind[cU]
 simp only[go_sem,];refine J2 (fun A H'=>A 0=int P/\A 1=int d/\A 2=int T/\A 3=.sl (l.map bE)/\A 4=int k/\A 12=.op i 0 0/\H' i=some (oO o)/\∃j',A 11=.os j'/\j'≠i/\H' j'=some (nA (es1++opt (Lb l k o.name) 6))) ?_ fun Q hQ _=>?_
 rotate_left
 ·refine ⟨fun A H' => ∃ m : Nat, m <= k /\ A 0 = int P /\ A 1 = int d /\ A 2 = int T /\ A 3 = .sl (l.map bE) /\ A 4 = int k /\ A 12 = .op i 0 0 /\ A 11 = .os j /\ A 13 = int m /\ H' = H /\ ∀ t ∈ l.take m, (t.name.toList == o.name.toList) = false, fun ρ _ => k - aT (ρ 13),
   ⟨0,Xaa _,h0,h1,X,Y,U,E,F,by rfl,rfl,by simp⟩,?_⟩
  rintro ρ H' ⟨m,hm,h0,h1,X,Y,U,E,F,aa,rfl,hn⟩;simp only[go_sem,U,aa];refine aA (fun ab=>?_) (fun ac=>?_)
  ·have ab:=aX ab;obtain⟨t,ht⟩:=aK (show m<l.length by omega);have b2:=inB (show m<l.length by omega);simp only[go_sem];refine jD (by rfl) (by kernel_rfl) ?_;simp only[go_sem,Y,E,aa,O,b2,aC ht];refine aA (fun hb=>?_) (fun hb=>?_)
   ·simp only[go_sem,F];refine aU Z ⟨rfl,rfl⟩ (by simp only[go_sem]) (by grind) (fun j' J=>?_);simp only[go_sem];refine hQ _ _ ⟨h0,h1,X,Y,U,E,cM O I J,j',rfl,(aV O J).symm,?_⟩;rw[kK (show Lb l k o.name=true from Xaj.2 ⟨t,Xab (i:=m) (by grind),hb⟩)];exact iW (l':=[6]) rfl
   ·simp only[go_sem,h0,h1,X,Y,U,E,F,aa,aQ m];exact⟨⟨m+1,ab,rfl,wV ht hn hb⟩,by simp only[aJ];omega⟩
  ·have ac:=aZ hm ac;subst ac;simp only[go_sem];refine hQ _ _ ⟨h0,h1,X,Y,U,E,O,j,F,I,?_⟩;simp_all[kJ,Lb]
 rintro ρ H ⟨h0,h1,X,Y,U,E,O,j,F,I,Z⟩;generalize ax:es1++opt (Lb l k o.name) (6:Int)=es2 at Z;have aw:es2.length<=es1.length+1:=by grind[cU]
 simp only[go_sem,h1,E,O];refine aL (FL _ _ ae.2) ?_;simp only[go_sem,];refine bO (fun A H'=>A 0=int P/\A 1=int d/\A 2=int T/\A 3=.sl (l.map bE)/\A 4=int k/\A 12=.op i 0 0/\H' i=some (oO o)/\∃j',A 11=.os j'/\j'≠i/\H' j'=some (nA (es2++opt (!fS o.load d) 17))) ?_ fun K hK=>aA (fun hb=>?_) (fun hb=>?_)
 rotate_left
 ·simp only[go_sem,F];refine aU Z ⟨rfl,rfl⟩ (by simp only[go_sem]) (by grind) (fun j' J=>?_);simp only[go_sem];refine hK _ _ ⟨h0,h1,X,Y,U,E,cM O I J,j',rfl,(aV O J).symm,?_⟩;rw[kK (show(!fS o.load d)=true from hb)];exact iW (l':=[17]) rfl
 ·simp only[go_sem];refine hK _ _ ⟨h0,h1,X,Y,U,E,O,j,F,I,?_⟩
  grind[kJ]
 rintro ρ H ⟨h0,h1,X,Y,U,E,O,j,F,I,Z⟩;generalize an:es2++opt (!fS o.load d) (17:Int)=es3 at Z;have al:es3.length<=es2.length+1:=by grind[cU]
 simp only[go_sem,h0,E,O,zE (show P<=4611686018427387904 by omega)];refine aL (GT _ _ _) ?_;simp only[go_sem,h0,E,O,zE (show P<=4611686018427387904 by omega)];refine⟨_,fun _=>(GT _ _ _).q rfl,?_⟩;simp only[go_sem,];refine bO (fun A H'=>A 0=int P/\A 1=int d/\A 2=int T/\A 3=.sl (l.map bE)/\A 4=int k/\A 12=.op i 0 0/\H' i=some (oO o)/\∃j',A 11=.os j'/\j'≠i/\H' j'=some (nA (es3++opt (!inR o.pick.place (-1) ((P:Int)-1)|| !inR o.drop.place (-1) ((P:Int)-1)) 11))) ?_ fun K hK=>aA (fun hb=>?_) (fun hb=>?_)
 rotate_left
 ·simp only[go_sem,F];refine aU Z ⟨rfl,rfl⟩ (by simp only[go_sem]) (by grind) (fun j' J=>?_);simp only[go_sem];refine hK _ _ ⟨h0,h1,X,Y,U,E,cM O I J,j',rfl,(aV O J).symm,?_⟩;rw[kK (show(!inR o.pick.place (-1) ((P:Int)-1)|| !inR o.drop.place (-1) ((P:Int)-1))=true from hb)];exact iW (l':=[11]) rfl
 ·simp only[go_sem];refine hK _ _ ⟨h0,h1,X,Y,U,E,O,j,F,I,?_⟩
  grind[kJ]
 rintro ρ H ⟨h0,h1,X,Y,U,E,O,j,F,I,Z⟩;generalize ah:es3++opt (!inR o.pick.place (-1) ((P:Int)-1)|| !inR o.drop.place (-1) ((P:Int)-1)) (11:Int)=es4 at Z;have av:es4.length<=es3.length+1:=by grind[cU]
 simp only[go_sem,E,O];refine bO (fun A H'=>A 0=int P/\A 1=int d/\A 2=int T/\A 3=.sl (l.map bE)/\A 4=int k/\A 12=.op i 0 0/\H' i=some (oO o)/\∃j',A 11=.os j'/\j'≠i/\H' j'=some (nA (es4++opt (o.pick.place == -1&&o.drop.place == -1) 19))) ?_ fun K hK=>aA (fun hb=>?_) (fun hb=>?_)
 rotate_left
 ·simp only[go_sem,F];refine aU Z ⟨rfl,rfl⟩ (by simp only[go_sem]) (by grind) (fun j' J=>?_);simp only[go_sem];refine hK _ _ ⟨h0,h1,X,Y,U,E,cM O I J,j',rfl,(aV O J).symm,?_⟩;rw[kK (show(o.pick.place == -1&&o.drop.place == -1)=true from hb)];exact iW (l':=[19]) rfl
 ·simp only[go_sem];refine hK _ _ ⟨h0,h1,X,Y,U,E,O,j,F,I,?_⟩
  grind[kJ]
 rintro ρ H ⟨h0,h1,X,Y,U,E,O,j,F,I,Z⟩;generalize am:es4++opt (o.pick.place == -1&&o.drop.place == -1) (19:Int)=es5 at Z;have ay:es5.length<=es4.length+1:=by grind[cU]
 simp only[go_sem,E,O];refine aL (Ts _) ?_;simp only[go_sem,E,O];refine⟨_,fun _=>(Ts _).q rfl,?_⟩;simp only[go_sem,];refine bO (fun A H'=>A 0=int P/\A 1=int d/\A 2=int T/\A 3=.sl (l.map bE)/\A 4=int k/\A 12=.op i 0 0/\H' i=some (oO o)/\∃j',A 11=.os j'/\j'≠i/\H' j'=some (nA (es5++opt (kH o.pick != 0||kH o.drop != 0) 14))) ?_ fun K hK=>aA (fun hb=>?_) (fun hb=>?_)
 rotate_left
 ·simp only[go_sem,F];refine aU Z ⟨rfl,rfl⟩ (by simp only[go_sem]) (by grind) (fun j' J=>?_);simp only[go_sem];refine hK _ _ ⟨h0,h1,X,Y,U,E,cM O I J,j',rfl,(aV O J).symm,?_⟩;rw[kK (show(kH o.pick != 0||kH o.drop != 0)=true from hb)];exact iW (l':=[14]) rfl
 ·simp only[go_sem];refine hK _ _ ⟨h0,h1,X,Y,U,E,O,j,F,I,?_⟩
  grind[kJ]
 rintro ρ H ⟨h0,h1,X,Y,U,E,O,j,F,I,Z⟩;generalize au:es5++opt (kH o.pick != 0||kH o.drop != 0) (14:Int)=es6 at Z;have az:es6.length<=es5.length+1:=by grind[cU]
 simp only[go_sem,E,O];refine aL (GT _ _ _) ?_;simp only[go_sem,];refine bO (fun A H'=>A 0=int P/\A 1=int d/\A 2=int T/\A 3=.sl (l.map bE)/\A 4=int k/\A 12=.op i 0 0/\H' i=some (oO o)/\∃j',A 11=.os j'/\j'≠i/\H' j'=some (nA (es6++opt (!inR o.l7 0 1073741823) 18))) ?_ fun K hK=>aA (fun hb=>?_) (fun hb=>?_)
 rotate_left
 ·simp only[go_sem,F];refine aU Z ⟨rfl,rfl⟩ (by simp only[go_sem]) (by grind) (fun j' J=>?_);simp only[go_sem];refine hK _ _ ⟨h0,h1,X,Y,U,E,cM O I J,j',rfl,(aV O J).symm,?_⟩;rw[kK (show(!inR o.l7 0 1073741823)=true from hb)];exact iW (l':=[18]) rfl
 ·simp only[go_sem];refine hK _ _ ⟨h0,h1,X,Y,U,E,O,j,F,I,?_⟩
  grind[kJ]
 rintro ρ H ⟨h0,h1,X,Y,U,E,O,j,F,I,Z⟩;generalize ao:es6++opt (!inR o.l7 0 1073741823) (18:Int)=es7 at Z;have ak:es7.length<=es6.length+1:=by grind[cU]
 simp only[go_sem,E,O];refine aL (GT _ _ _) ?_;simp only[go_sem,E,O];refine⟨_,fun _=>(GT _ _ _).q rfl,?_⟩;simp only[go_sem,X,E,O];refine bO (fun A H'=>A 0=int P/\A 1=int d/\A 2=int T/\A 3=.sl (l.map bE)/\A 4=int k/\A 12=.op i 0 0/\H' i=some (oO o)/\∃j',A 11=.os j'/\j'≠i/\H' j'=some (nA (es7++opt (!inR o.η (-1) 1000000|| !inR o.split 1 4||decide (o.split>1)&&(o.pick.place != -1&&o.drop.place != -1)||decide (o.last< -1)||decide (o.last>=T)||decide (o.now< -1)||decide (o.now>=T)) 2))) ?_ fun K hK=>aA (fun hb=>?_) (fun hb=>?_)
 rotate_left
 ·simp only[go_sem,F];refine aU Z ⟨rfl,rfl⟩ (by simp only[go_sem]) (by grind) (fun j' J=>?_);simp only[go_sem];refine hK _ _ ⟨h0,h1,X,Y,U,E,cM O I J,j',rfl,(aV O J).symm,?_⟩;rw[kK (show(!inR o.η (-1) 1000000|| !inR o.split 1 4||decide (o.split>1)&&(o.pick.place != -1&&o.drop.place != -1)||decide (o.last< -1)||decide (o.last>=T)||decide (o.now< -1)||decide (o.now>=T))=true from hb)];exact iW (l':=[2]) rfl
 ·simp only[go_sem];refine hK _ _ ⟨h0,h1,X,Y,U,E,O,j,F,I,?_⟩
  grind[kJ]
 rintro ρ H ⟨h0,h1,X,Y,U,E,O,j,F,I,Z⟩;generalize ag:es7++opt (!inR o.η (-1) 1000000|| !inR o.split 1 4||decide (o.split>1)&&(o.pick.place != -1&&o.drop.place != -1)||decide (o.last< -1)||decide (o.last>=T)||decide (o.now< -1)||decide (o.now>=T)) (2:Int)=es8 at Z;have ap:es8.length<=es7.length+1:=by grind[cU]
 simp only[go_sem,F];have af:mM P d T l k o=es8:=by grind[mM]
 rw[af];exact .row _ _ _ Z (ConvE.refl _)
def nW(w:ByteArray)(f:Fault):Fault:=⟨f.err,match f.at_.toList == (⟨#[]⟩:ByteArray).toList with|true=>w|false=>w++⟨#[32]⟩++f.at_⟩
def JJ(w:ByteArray)(l:List Fault)(hw:w.size<=1048576)(hl:l.length<=5000000000000)(Z:∀f∈l,f.at_.size<=268435456):
  NC prog 22 [str w,.sl (l.map iV)] (bV (l.map (nW w))) .os:=by
 refine ncb (fun t=>t == 5) func22 rfl rfl ?_;simp only[go_sem];refine aH fun j hj=>?_
 simp only[go_sem];refine⟨fun ρ H=>∃k:Nat,k<=l.length/\ρ 0=str w/\ρ 1=.sl (l.map iV)/\ρ 6=int k/\∃j,ρ 5=.os j/\H j=some (bV ((l.take k).map (nW w))),fun ρ _=>l.length-aT (ρ 6),⟨0,Xaa _,rfl,rfl,rfl,j,rfl,aB _ _ _⟩,?_⟩;rintro ρ H ⟨k,hk,h0,h1,F,j,J,hH⟩;simp only[go_sem,h1,F];refine aA (fun A=>?_) (fun I=>?_)
 ·have A:=aX A;obtain⟨f,O⟩:=aK A;have U:=inB A;have ab:=Z f (qT O);simp only[go_sem,h0,h1,F,U,aC O];refine bO (fun E H'=>E 0=str w/\E 1=.sl (l.map iV)/\E 6=int k/\E 5=.os j/\E 7=str (nW w f).at_/\H'=H) ?_ fun K X=>aA (fun hb=>?_) (fun hb=>?_)
  ·clear h0 h1 F J;rintro ρ H ⟨h0,h1,F,J,Y,rfl⟩;simp only[go_sem,h1,F,J,Y,U,aC O];refine aU hH ⟨rfl,rfl⟩ (by simp only[go_sem]) (by grind) (fun j' ac=>?_);simp only[go_sem,h0,h1,F,aQ k];refine⟨⟨k+1,A,rfl,j',rfl,?_⟩,msr A⟩;rw[Gb O];exact gN (l':=[nW w f]) rfl
  ·simp only[go_sem,h0,h1,F,U,aC O];have aa:(#[32]:Array UInt8).size=1:=rfl;refine⟨by grind[Cl],by grind[Cl],X _ _ ⟨h0,h1,F,J,?_,rfl⟩⟩;have T:(f.at_.toList == (⟨#[]⟩:ByteArray).toList)=false:=by grind
   simp only[go_sem,nW,T]
  ·simp only[go_sem];refine X _ _ ⟨h0,h1,F,J,?_,rfl⟩;have T:(f.at_.toList == (⟨#[]⟩:ByteArray).toList)=true:=by grind
   simp only[go_sem,nW,T]
 ·have I:=aZ hk I;subst I;simp only[go_sem,J]
  grind
def aiE(l:List Order)(i:Nat):Order:=l.getD i ⟨ByteArray.empty,[],⟨0,0,0,0⟩,⟨0,0,0,0⟩,0,0,0,0,0,false⟩
def LO{l:List Order}{k:Nat}{p:Order}(h:l[k]?=some p):aiE l k=p:=by grind[aiE]
def iN(n:Network)(d T:Int)(l:List Order)(k:Nat):List Fault:=(mM n.places.length d T l k (aiE l k)).map fun e=>⟨e,nY k⟩
def uA(n:Network)(d T:Int)(l:List Order):List Fault:=opt (decide ((l.length:Int)>10)) ⟨4,ByteArray.empty⟩++(List.range l.length).flatMap (iN n d T l)
theorem zM(P:Nat)(d T:Int)(l:List Order)(k:Nat)(o:Order):(mM P d T l k o).length<=9:=by grind[mM,Xar,cU]
def LF(n:Network)(d T:Int)(l:List Order)(hl:l.length<=1048576)(hs:∀t∈l,t.name.size<=1048576/\t.load.length<=1048576)(hp:n.places.length<=1048576):
  NC prog 25 [.agg (bH n),int d,int T,.sl (l.map bE)] (bV (uA n d T l)) .os:=by
 refine ncb (fun t=>t == 9) func25 rfl rfl ?_;simp only[go_sem];refine aH fun j hj=>?_
 simp only[go_sem];refine tP (fun A H'=>A 1=int d/\A 2=int T/\A 3=.sl (l.map bE)/\A 4=.rp (bH n) 0/\∃j',A 9=.os j'/\H' j'=some (bV [])) ⟨rfl,rfl,rfl,rfl,_,rfl,aB _ _ _⟩ ?_;rintro ρ H ⟨h1,X,J,U,j,Z,O⟩;generalize af:([]:List Fault)=es0 at O;have an:es0.length<=0:=by grind
 refine bO (fun A H'=>A 1=int d/\A 2=int T/\A 3=.sl (l.map bE)/\A 4=.rp (bH n) 0/\∃j',A 9=.os j'/\H' j'=some (bV (es0++opt (decide ((l.length:Int)>10)) ⟨4,ByteArray.empty⟩))) ?_ fun K hK=>aA (fun hb=>?_) (fun hb=>?_)
 rotate_left
 ·simp only[go_sem,Z];refine aU O ⟨rfl,rfl⟩ (by simp only[go_sem]) (by grind) (fun j' aj=>?_);simp only[go_sem];refine hK _ _ ⟨h1,X,J,U,j',rfl,?_⟩;rw[kK (show(decide ((l.length:Int)>10))=true from hb)];exact gN (l':=[⟨4,ByteArray.empty⟩]) rfl
 ·simp only[go_sem]
  grind[kJ]
 rintro ρ H ⟨h1,X,J,U,j,Z,O⟩;generalize ae:es0++opt (decide ((l.length:Int)>10)) (⟨4,ByteArray.empty⟩:Fault)=es1 at O;have am:es1.length<=es0.length+1:=by grind[cU]
 simp only[go_sem,];refine⟨fun ρ H=>∃k:Nat,k<=l.length/\ρ 1=int d/\ρ 2=int T/\ρ 3=.sl (l.map bE)/\ρ 4=.rp (bH n) 0/\ρ 10=int k/\∃j,ρ 9=.os j/\H j=some (bV (es1++(List.range k).flatMap (iN n d T l))),fun ρ _=>l.length-aT (ρ 10),⟨0,Xaa _,h1,X,J,U,by rfl,j,Z,by grind⟩,?_⟩;rintro ρ H ⟨k,hk,h1,X,J,U,F,j,Z,O⟩;generalize ah:es1++(List.range k).flatMap (iN n d T l)=es at O;have al:es.length<=9*k+1:=by
  have:=gO (f:=iN n d T l) (c:=9) (fun x=>by grind[iN,zM]) (List.range k)
  grind
 simp only[go_sem,J,F];refine aA (fun Y=>?_) (fun ac=>?_)
 ·have Y:=aX Y;have ai:k<=4611686018427387904:=by omega
  have ao:es1++(List.range (k+1)).flatMap (iN n d T l)=es++iN n d T l k:=by grind[jU]
  simp only[go_sem,h1,X,J,U,F];obtain⟨o,ho⟩:=aK Y;rw[<-LO ho]at ho;refine aL (aqP n.places.length d T l k _ ho hp hl hs) ?_;simp only[go_sem];have ak:=zM n.places.length d T l k (aiE l k);have ag:iN n d T l k=(mM n.places.length d T l k (aiE l k)).map fun e=>⟨e,nY k⟩:=rfl
  generalize mM n.places.length d T l k (aiE l k)=er at ak ag;refine⟨fun ρ H=>∃m:Nat,m<=er.length/\ρ 1=int d/\ρ 2=int T/\ρ 3=.sl (l.map bE)/\ρ 4=.rp (bH n) 0/\ρ 10=int k/\ρ 11=.sl (er.map aP)/\ρ 12=int m/\∃j,ρ 9=.os j/\H j=some (bV (es++(er.take m).map fun e=>⟨e,nY k⟩)),fun ρ _=>er.length-aT (ρ 12),⟨0,Xaa _,h1,X,J,U,F,rfl,by rfl,j,Z,by grind⟩,?_⟩;rintro ρ H ⟨m,hm,h1,X,J,U,F,aa,ab,j,Z,O⟩;simp only[go_sem,aa,ab];refine aA (fun E=>?_) (fun I=>?_)
  ·have E:=aX E;obtain⟨e,he⟩:=aK E;have b2:=inB E;simp only[go_sem];refine JM (by kernel_rfl) ?_;simp only[go_sem,F,Z,aa,ab,b2,aC he];refine⟨_,(wE _ (by omega)).q rfl,?_⟩;simp only[go_sem];refine aU O ⟨rfl,rfl⟩ (by simp only[go_sem]) (by simp;omega) (fun j' aj=>?_);simp only[go_sem,h1,X,J,U,F,aa,ab,aQ m];refine⟨⟨m+1,E,rfl,j',rfl,?_⟩,by simp only[aJ];omega⟩;rw[Gb he,<-Xaw];exact gN (l':=[⟨e,nY k⟩]) rfl
  ·have I:=aZ hm I;subst I;simp only[go_sem,h1,X,J,U,F,Z,mT ai];refine⟨⟨k+1,Y,rfl,j,rfl,?_⟩,by simp only[aJ];omega⟩
   grind
 ·have ac:=aZ hk ac;subst ac;simp only[go_sem,Z];exact⟨_,rfl,by rw[O,<-ah,<-ae,<-af];rfl⟩
def pAt(l:List Pair)(i:Nat):Pair:=l.getD i ⟨0,0⟩
def QE{l:List Pair}{k:Nat}{p:Pair}(h:l[k]?=some p):pAt l k=p:=by grind[pAt]
def IT(w:ByteArray)(k:Nat):ByteArray:=w++⟨#[32]⟩++nY k
def pG(N:Int)(p:Pair):Bool:=decide (p.a<0)||decide (p.a>=N)||decide (p.b<0)||decide (p.b>=N)||p.a == p.b
def C7(b:Bool)(p q:Pair):Bool:=(q.a == p.a&&q.b == p.b)||(b&&q.a == p.b&&q.b == p.a)
def iY(N:Int)(l:List Pair)(w:ByteArray)(b:Bool)(k:Nat):List Fault:=match pG N (pAt l k)with
 | true=>[⟨2,IT w k⟩]
 | false=>opt ((l.take k).any (C7 b (pAt l k))) ⟨6,IT w k⟩
def De(N:Int)(l:List Pair)(w:ByteArray)(b:Bool)(k:Nat):(iY N l w b k).length<=1:=by grind[iY,cU]
def zQ(N:Int)(l:List Pair)(w:ByteArray)(b:Bool):List Fault:=opt (decide ((l.length:Int)>16)) ⟨4,w⟩++(List.range l.length).flatMap (iY N l w b)
def UA(N:Int)(l:List Pair)(w:ByteArray)(b:Bool)(hl:l.length<=1048576)(hw:w.size<=1048576):
  NC prog 66 [int N,.sl (l.map dN),str w,boo b] (bV (zQ N l w b)) .os:=by
 refine ncb (fun t=>t == 9) func66 rfl rfl ?_;simp only[go_sem];refine aH fun j hj=>?_
 simp only[go_sem];refine tP (fun A H'=>A 0=int N/\A 1=.sl (l.map dN)/\A 2=str w/\A 3=boo b/\∃j',A 9=.os j'/\H' j'=some (bV [])) ⟨rfl,rfl,rfl,rfl,_,rfl,aB _ _ _⟩ ?_;rintro ρ H ⟨h0,h1,F,O,j,I,T⟩;generalize ai:([]:List Fault)=es0 at T;have ap:es0.length<=0:=by grind
 refine bO (fun A H'=>A 0=int N/\A 1=.sl (l.map dN)/\A 2=str w/\A 3=boo b/\∃j',A 9=.os j'/\H' j'=some (bV (es0++opt (decide ((l.length:Int)>16)) ⟨4,w⟩))) ?_ fun K hK=>aA (fun Y=>?_) (fun Y=>?_)
 rotate_left
 ·simp only[go_sem,F,I];refine aU T ⟨rfl,rfl⟩ (by simp only[go_sem]) (by grind) (fun j' ag=>?_);simp only[go_sem];refine hK _ _ ⟨h0,h1,F,O,j',rfl,?_⟩;rw[kK (show(decide ((l.length:Int)>16))=true from Y)];exact gN (l':=[⟨4,w⟩]) rfl
 ·simp only[go_sem]
  grind[kJ]
 rintro ρ H ⟨h0,h1,F,O,j,I,T⟩;generalize ae:es0++opt (decide ((l.length:Int)>16)) (⟨4,w⟩:Fault)=es1 at T;have ao:es1.length<=es0.length+1:=by grind[cU]
 simp only[go_sem,];refine⟨fun ρ H=>∃k:Nat,k<=l.length/\ρ 0=int N/\ρ 1=.sl (l.map dN)/\ρ 2=str w/\ρ 3=boo b/\ρ 10=int k/\∃j,ρ 9=.os j/\H j=some (bV (es1++(List.range k).flatMap (iY N l w b))),fun ρ _=>l.length-aT (ρ 10),
  ⟨0,Xaa _,h0,h1,F,O,by rfl,j,I,by grind⟩,?_⟩
 rintro ρ H ⟨k,hk,h0,h1,F,O,E,j,I,T⟩;generalize aj:es1++(List.range k).flatMap (iY N l w b)=es at T;have an:es.length<=k+1:=by
  have:=gO (De N l w b) (List.range k)
  grind
 simp only[go_sem,h1,E];refine aA (fun J=>?_) (fun Z=>?_)
 ·have J:=aX J;have af:k<=4611686018427387904:=by omega
  obtain⟨p,hp⟩:=aK J;have b1:=inB J;have ar:=rF k;have aq:(#[32]:Array UInt8).size=1:=rfl;have ah:es1++(List.range (k+1)).flatMap (iY N l w b)=es++iY N l w b k:=by grind[jU]
  simp only[go_sem,h1,F,E,b1,aC hp];refine⟨by omega,by omega,by grind[Cl],?_⟩;refine aL (axV _ (by omega)) ?_;simp only[go_sem,h0,];refine⟨by grind[Cl],?_⟩;refine aA (fun Y=>?_) (fun Y=>?_)
  ·simp only[go_sem,I];refine aU T ⟨rfl,rfl⟩ (by simp only[go_sem]) (by grind) (fun j' ag=>?_);simp only[go_sem,h0,h1,F,O,E,mT af];refine⟨⟨k+1,J,rfl,j',rfl,?_⟩,by simp only[aJ];omega⟩;have hn:pG N (pAt l k)=true:=by rw[QE hp];exact Y
   rw[ah,iY,hn];exact gN (l':=[⟨2,IT w k⟩]) rfl
  ·simp only[go_sem,];have hn:pG N (pAt l k)=false:=by rw[QE hp];exact Y
   refine⟨fun ρ H'=>∃m:Nat,m<=k/\ρ 0=int N/\ρ 1=.sl (l.map dN)/\ρ 2=str w/\ρ 3=boo b/\ρ 9=.os j/\ρ 10=int k/\ρ 11=int p.a/\ρ 12=int p.b/\ρ 13=str (IT w k)/\ρ 14=boo ((l.take m).any (C7 b p))/\ρ 15=int m/\H'=H,fun ρ _=>k-aT (ρ 15),
    ⟨0,Xaa _,h0,h1,F,O,I,E,rfl,rfl,by rfl,by rfl,by rfl,rfl⟩,?_⟩
   rintro ρ H' ⟨m,hm,h0,h1,F,O,I,E,ak,al,ab,aa,ac,rfl⟩;simp only[go_sem,E,ac];refine aA (fun X=>?_) (fun U=>?_)
   ·have X:=aX X;obtain⟨q,hq⟩:=aK (show m<l.length by omega);have b2:=inB (show m<l.length by omega);simp only[go_sem,h0,h1,F,O,I,E,ak,al,ab,aa,ac,b2,aC hq,aQ m];refine⟨fun _=>by omega,fun _=>by omega,fun _=>by omega,fun _=>by omega,⟨m+1,X,?_,rfl⟩,by grind[aJ]⟩;simp_all[KY,C7,Bool.or_assoc]
   ·have U:=aZ hm U;subst U;simp only[go_sem,aa];have am:(l.take m).any (C7 b (pAt l m))=(l.take m).any (C7 b p):=by rw[QE hp]
    refine iO (fun A H'=>A 0=int N/\A 1=.sl (l.map dN)/\A 2=str w/\A 3=boo b/\A 10=int m/\∃j,A 9=.os j/\H' j=some (bV (es1++(List.range (m+1)).flatMap (iY N l w b)))) ?_ fun K hK _ _=>aA (fun Y=>?_) (fun Y=>?_)
    ·clear T h0 h1 F O I E;rintro ρ H ⟨h0,h1,F,O,E,j,I,T⟩;simp only[go_sem,h0,h1,F,O,I,E,mT af];exact⟨⟨m+1,J,rfl,j,rfl,T⟩,by simp only[aJ];omega⟩
    ·simp only[go_sem,I,ab];refine aU T ⟨rfl,rfl⟩ (by simp only[go_sem]) (by grind) (fun j' ag=>?_);simp only[go_sem];refine hK _ _ ⟨h0,h1,F,O,E,j',rfl,?_⟩;rw[ah,iY,hn];show _=some (bV (es++opt _ ⟨6,IT w m⟩));rw[kK (am.trans Y)];exact gN (l':=[⟨6,IT w m⟩]) rfl
    ·simp only[go_sem];refine hK _ _ ⟨h0,h1,F,O,E,j,I,?_⟩;simp_all[iY,kJ]
 ·have Z:=aZ hk Z;subst Z;simp only[go_sem,I];exact⟨_,rfl,by rw[T,<-aj,<-ae,<-ai];rfl⟩
def tA:∀l:List Fault,cT 2 (l.map iV)
 | []=>trivial
 | f::r=>⟨rfl,tA r⟩
def Bu(N:Int)(l:List Pair)(w:ByteArray)(b:Bool):(zQ N l w b).length<=l.length+1:=by
 have:=gO (De N l w b) (List.range l.length)
 grind[cU,zQ]
def PS(N:Int)(E A:List Pair)(J:E.length<=1048576)(F:A.length<=1048576):
  NC prog 27 [int N,.sl (E.map dN),.sl (A.map dN)] (bV (zQ N E ⟨#[97,112,97,114,116]⟩ true++zQ N A ⟨#[98,101,102,111,114,101]⟩ false)) .os:=by
 refine ncb (fun t=>t == 7) func27 rfl rfl ?_;simp only[go_sem];refine NC.use (UA N E ⟨#[97,112,97,114,116]⟩ true J (by decide)) fun j X=>?_
 simp only[go_sem];refine NC.use (UA N A ⟨#[98,101,102,111,114,101]⟩ false F (by decide)) fun i I=>?_
 simp only[go_sem];have T:=Bu N E ⟨#[97,112,97,114,116]⟩ true;have U:=Bu N A ⟨#[98,101,102,111,114,101]⟩ false;refine Fy (fA (aB _ _ _) I) (aB _ _ _) ⟨rfl,rfl⟩ (tA _) (by grind) (fun j' O=>?_);simp only[go_sem]
 grind[gN]
def NC.pc{f:FuncId}{args:List AV}{row:Row}(h:NC prog f args row .os):PC prog f args (.sl row.es):=
 RC.conv (RC.mono h fun r H' ⟨k,e,A⟩=>by subst e;exact .row k row row.es A (ConvE.refl _))
def qW(l:List Arc)(i:Nat):Arc:=l.getD i ⟨0,0,0,0,[],[]⟩
theorem DV{l:List Arc}{k:Nat}{p:Arc}(h:l[k]?=some p):qW l k=p:=by grind[qW]
def kO(k:Nat):ByteArray:=⟨#[97,114,99,32]⟩++nY k
def DF(N:Int)(a:Arc):Bool:=decide (a.src<0)||decide (a.src>=N)||decide (a.dst<0)||decide (a.dst>=N)
def GR(a:Arc):Bool:=decide (a.o6<0)||decide (a.o6>7)||decide (a.o7<0)||decide (a.o7>10000)||a.src == a.dst
def BV(a b:Arc):Bool:=a.src == b.src&&a.dst == b.dst&&a.o6 == b.o6
def rY(l:List Point)(i:Nat):Bool:= !inR (fE l i).t 0 4096|| !inR (fE l i).a 0 4096||decide ((i:Int)>0)&&decide ((fE l i).t<=(fE l (i-1)).t)
def KI(n:Network)(k:Nat):List Fault:=
 []++opt (DF n.places.length (qW n.o9 k)) ⟨11,kO k⟩++opt (GR (qW n.o9 k)) ⟨2,kO k⟩++opt ((n.o9.take k).any (BV (qW n.o9 k))) ⟨6,kO k⟩
   ++ (jZ (qW n.o9 k).eP).map (fun f=>⟨f.err,kO k⟩)++opt (decide (((qW n.o9 k).ξ.length:Int)>16)) ⟨4,kO k⟩
   ++ (List.range (qW n.o9 k).ξ.length).flatMap fun i=>opt (rY (qW n.o9 k).ξ i) ⟨2,kO k⟩
def OU(l:List Point)(A:l.length<=1048576):PC prog 125 [.sl (l.map cG)] (.sl ((jZ l).map iV)):=NC.pc (akJ l A)
def Ih(l:List Point):(jZ l).length<=2*l.length+1:=by
 have:=gO (aoL l) (List.range l.length)
 grind[cU,jZ]
def aCc(n:Network)(k:Nat)(hk:k<n.o9.length)(hp:n.places.length<=1048576)(hl:n.o9.length<=1048576)(hs:∀a∈n.o9,a.eP.length<=1048576/\a.ξ.length<=1048576):
  NC prog 61 [.agg (bH n),int k] (bV (KI n k)) .os:=by
 refine ncb (fun t=>t == 5) func61 rfl rfl ?_;simp only[go_sem];obtain⟨a,ha⟩:=aK hk;have b1:=inB hk;have aj:=hs a (qT ha);have a7:=rF k;refine aH fun j hj=>?_
 simp only[go_sem];refine aL (wE _ (by omega)) ?_;simp only[go_sem,b1,aC ha];have h4:(#[97,114,99,32]:Array UInt8).size=4:=rfl;refine⟨by grind[Cl],aH fun i F=>?_⟩;simp only[go_sem];refine aG (aB _ _ _) (by simp[jR]) ?_;simp only[go_sem];have E:j≠i:=aV (aB _ _ _) F;have a5:kO k=⟨#[97,114,99,32]⟩++nY k:=rfl;refine tP (fun A H'=>A 1=int k/\A 2=.rp (bH n) 0/\A 6=str (kO k)/\A 7=.op i 0 0/\H' i=some (Ad a)/\∃j',A 5=.os j'/\j'≠i/\H' j'=some (bV []))
  ⟨rfl,rfl,by rfl,rfl,aB _ _ _,j,rfl,E,by grind[aF,aB]⟩ ?_
 rintro ρ H ⟨h1,h2,T,O,F,j,U,E,X⟩;generalize ax:([]:List Fault)=es0 at X;have aq:es0.length<=0:=by grind
 refine bO (fun A H'=>A 1=int k/\A 2=.rp (bH n) 0/\A 6=str (kO k)/\A 7=.op i 0 0/\H' i=some (Ad a)/\∃j',A 5=.os j'/\j'≠i/\H' j'=some (bV (es0++opt (DF n.places.length a) ⟨11,kO k⟩))) ?_ fun K hK=>aA (fun hb=>?_) (fun hb=>?_)
 rotate_left
 ·simp only[go_sem,T,U];refine aU X ⟨rfl,rfl⟩ (by simp only[go_sem]) (by grind) (fun j' I=>?_);simp only[go_sem];refine hK _ _ ⟨h1,h2,T,O,cM F E I,j',rfl,(aV F I).symm,?_⟩;rw[kK (show(DF n.places.length a)=true from hb)];exact gN (l':=[⟨11,kO k⟩]) rfl
 ·simp only[go_sem]
  grind[kJ,DF]
 rintro ρ H ⟨h1,h2,T,O,F,j,U,E,X⟩;generalize am:es0++opt (DF n.places.length a) (⟨11,kO k⟩:Fault)=es1 at X;have an:es1.length<=es0.length+1:=by grind[cU]
 simp only[go_sem,O,F];refine bO (fun A H'=>A 1=int k/\A 2=.rp (bH n) 0/\A 6=str (kO k)/\A 7=.op i 0 0/\H' i=some (Ad a)/\∃j',A 5=.os j'/\j'≠i/\H' j'=some (bV (es1++opt (GR a) ⟨2,kO k⟩))) ?_ fun K hK=>aA (fun hb=>?_) (fun hb=>?_)
 rotate_left
 ·simp only[go_sem,T,U];refine aU X ⟨rfl,rfl⟩ (by simp only[go_sem]) (by grind) (fun j' I=>?_);simp only[go_sem];refine hK _ _ ⟨h1,h2,T,O,cM F E I,j',rfl,(aV F I).symm,?_⟩;rw[kK (show(GR a)=true from hb)];exact gN (l':=[⟨2,kO k⟩]) rfl
 ·simp only[go_sem];refine hK _ _ ⟨h1,h2,T,O,F,j,U,E,?_⟩
  grind[kJ,GR]
 rintro ρ H ⟨h1,h2,T,O,F,j,U,E,X⟩;generalize az:es1++opt (GR a) (⟨2,kO k⟩:Fault)=es2 at X;have ar:es2.length<=es1.length+1:=by grind[cU]
 simp only[go_sem,];refine⟨fun A H'=>∃m:Nat,m<=k/\A 1=int k/\A 2=.rp (bH n) 0/\A 6=str (kO k)/\A 7=.op i 0 0/\A 5=.os j/\A 8=boo ((n.o9.take m).any (BV a))/\A 9=int m/\H' i=some (Ad a)/\H' j=some (bV es2),fun ρ _=>k-aT (ρ 9),
  ⟨0,Xaa _,h1,h2,T,O,U,by rfl,by rfl,F,X⟩,?_⟩
 rintro ρ H ⟨m,hm,h1,h2,T,O,U,h8,h9,F,X⟩;simp only[go_sem,h1,h9];refine aA (fun J=>?_) (fun Y=>?_)
 ·have J:=aX J;obtain⟨c,hc⟩:=aK (show m<n.o9.length by omega);have b2:=inB (show m<n.o9.length by omega);simp only[go_sem,h2,h9,b2,aC hc];refine aH fun x hx=>?_
  simp only[go_sem];refine aG (aB _ _ _) (by simp[jR]) ?_;have ae:=aV F hx;have ai:=aV X hx;simp only[go_sem,h1,h2,T,O,U,h8,h9,aF _ _ _ _ ae,F,aQ m];refine⟨⟨m+1,J,?_,rfl,?_⟩,by grind[aJ]⟩
  all_goals grind[KY,BV,aF]
 ·have Y:=aZ hm Y;subst Y;simp only[go_sem,h8];refine bO (fun A H'=>A 6=str (kO m)/\A 7=.op i 0 0/\H' i=some (Ad a)/\∃j',A 5=.os j'/\j'≠i/\H' j'=some (bV (es2++opt ((n.o9.take m).any (BV a)) ⟨6,kO m⟩))) ?_ fun K hK=>aA (fun hb=>?_) (fun hb=>?_)
  rotate_left
  ·simp only[go_sem,T,U];refine aU X ⟨rfl,rfl⟩ (by simp only[go_sem]) (by grind) (fun j' I=>?_);simp only[go_sem];refine hK _ _ ⟨T,O,cM F E I,j',rfl,(aV F I).symm,?_⟩;rw[kK (show((n.o9.take m).any (BV a))=true from hb)];exact gN (l':=[⟨6,kO m⟩]) rfl
  ·simp only[go_sem];refine hK _ _ ⟨T,O,F,j,U,E,?_⟩
   grind[kJ]
  rintro ρ H ⟨T,O,F,j,U,E,X⟩;generalize aw:es2++opt ((n.o9.take m).any (BV a)) (⟨6,kO m⟩:Fault)=es3 at X;have ao:es3.length<=es2.length+1:=by grind[cU]
  simp only[go_sem,O,F];refine aL (OU a.eP aj.1) ?_;simp only[go_sem];have ak:=Ih a.eP;have al:(jZ (qW n.o9 m).eP).map (fun f=>(⟨f.err,kO m⟩:Fault))=(jZ a.eP).map (fun f=>⟨f.err,kO m⟩):=by rw[DV ha]
  generalize jZ a.eP=tr at ak al;refine⟨fun ρ H=>∃q:Nat,q<=tr.length/\ρ 6=str (kO m)/\ρ 7=.op i 0 0/\ρ 11=.sl (tr.map iV)/\ρ 12=int q/\H i=some (Ad a)/\∃j,ρ 5=.os j/\j≠i/\H j=some (bV (es3++(tr.take q).map fun f=>⟨f.err,kO m⟩)),fun ρ _=>tr.length-aT (ρ 12),
   ⟨0,Xaa _,T,O,rfl,by rfl,F,j,U,E,by grind⟩,?_⟩
  rintro ρ H ⟨q,hq,T,O,ab,ac,F,j,U,E,X⟩;simp only[go_sem,ab,ac];refine aA (fun J=>?_) (fun Y=>?_)
  ·have J:=aX J;obtain⟨f,hf⟩:=aK J;have b2:=inB J;simp only[go_sem,T,U,ab,ac,b2,aC hf];refine aU X ⟨rfl,rfl⟩ (by simp only[go_sem]) (by grind) (fun j' I=>?_);simp only[go_sem,T,O,ab,ac,aQ q];refine⟨⟨q+1,J,rfl,cM F E I,j',rfl,(aV F I).symm,?_⟩,by grind[aJ]⟩;rw[Gb hf,<-Xaw];exact gN (l':=[⟨f.err,kO m⟩]) rfl
  ·have Y:=aZ hq Y;subst Y;simp only[go_sem,O,F];rw[Xad]at X;generalize au:es3++tr.map (fun f=>(⟨f.err,kO m⟩:Fault))=es4 at X;have ay:es4.length=es3.length+tr.length:=by grind
   refine bO (fun A H'=>A 6=str (kO m)/\A 7=.op i 0 0/\H' i=some (Ad a)/\∃j',A 5=.os j'/\j'≠i/\H' j'=some (bV (es4++opt (decide ((a.ξ.length:Int)>16)) ⟨4,kO m⟩))) ?_ fun K hK=>aA (fun hb=>?_) (fun hb=>?_)
   rotate_left
   ·simp only[go_sem,T,U];refine aU X ⟨rfl,rfl⟩ (by simp only[go_sem]) (by grind) (fun j' I=>?_);simp only[go_sem];refine hK _ _ ⟨T,O,cM F E I,j',rfl,(aV F I).symm,?_⟩;rw[kK (show(decide ((a.ξ.length:Int)>16))=true from hb)];exact gN (l':=[⟨4,kO m⟩]) rfl
   ·simp only[go_sem];refine hK _ _ ⟨T,O,F,j,U,E,?_⟩
    grind[kJ]
   rintro ρ H ⟨T,O,F,j,U,E,X⟩;generalize ap:es4++opt (decide ((a.ξ.length:Int)>16)) (⟨4,kO m⟩:Fault)=es5 at X;have a0:es5.length<=es4.length+1:=by grind[cU]
   simp only[go_sem,];refine⟨fun ρ H=>∃k:Nat,k<=a.ξ.length/\ρ 6=str (kO m)/\ρ 7=.op i 0 0/\ρ 13=int k/\H i=some (Ad a)/\∃j,ρ 5=.os j/\j≠i/\H j=some (bV (es5++(List.range k).flatMap fun x=>opt (rY a.ξ x) ⟨2,kO m⟩)),fun ρ _=>a.ξ.length-aT (ρ 13),
    ⟨0,Xaa _,T,O,by rfl,F,j,U,E,by grind⟩,?_⟩
   rintro ρ H ⟨k,hk,T,O,Z,F,j,U,E,X⟩;generalize a4:es5++(List.range k).flatMap (fun x=>opt (rY a.ξ x) (⟨2,kO m⟩:Fault))=es at X;have av:es.length<=es5.length+k:=by
    have:=gO (f:=fun x=>opt (rY a.ξ x) (⟨2,kO m⟩:Fault)) (c:=1) (fun x=>cU _ _) (List.range k)
    grind
   simp only[go_sem,O,Z,F];refine aA (fun J=>?_) (fun Y=>?_)
   ·have J:=aX J;have af:k<=4611686018427387904:=by omega
    obtain⟨p,hp⟩:=aK J;obtain⟨r,hr⟩:=aK (show k-1<a.ξ.length by omega);have b2:=inB J;simp only[go_sem,O,Z,F,b2,aC hp];refine aH fun x hx=>?_
    simp only[go_sem];refine aG (aB _ _ _) (by simp[gH]) ?_;have ae:=aV F hx;have ai:=aV X hx;simp only[go_sem];refine jD (by rfl) (by kernel_rfl) ?_;simp only[go_sem,];refine⟨_,(aoQ _).q rfl,?_⟩;simp only[go_sem,];refine⟨_,fun _=>(aoQ _).q rfl,?_⟩;simp only[go_sem,O,Z,aF _ _ _ _ ae,F,amW af,aC hr];have aa:aI (aI H x (some ⟨90,2,[[int 0,int 0]]⟩)) x (some ⟨90,2,[cG p]⟩) i=some (Ad a):=by grind[aF]
    have ah:aI (aI H x (some ⟨90,2,[[int 0,int 0]]⟩)) x (some ⟨90,2,[cG p]⟩) j=some (bV es):=by grind[aF]
    have ag:rY a.ξ k=(!inR p.t 0 4096|| !inR p.a 0 4096||decide ((k:Int)>0)&&decide (p.t<=r.t)):=by simp_all[rY,fI]
    have a6:es5++(List.range (k+1)).flatMap (fun x=>opt (rY a.ξ x) (⟨2,kO m⟩:Fault))=es++opt (rY a.ξ k) ⟨2,kO m⟩:=by grind[jU]
    refine⟨fun h=>by grind[zE],iO (fun A H'=>A 6=str (kO m)/\A 7=.op i 0 0/\A 13=int k/\H' i=some (Ad a)/\∃j,A 5=.os j/\j≠i/\H' j=some (bV (es++opt (rY a.ξ k) ⟨2,kO m⟩))) ?_ fun K hK _ _=>aA (fun hb=>?_) (fun hb=>?_)⟩
    ·clear T O U Z;rintro ρ H ⟨T,O,Z,F,j,U,E,X⟩;simp only[go_sem,T,O,U,Z,mT af];exact⟨⟨k+1,J,rfl,F,j,rfl,E,by grind⟩,by simp only[aJ];omega⟩
    ·simp only[go_sem,T,U];refine aU ah ⟨rfl,rfl⟩ (by simp only[go_sem]) (by grind) (fun j' I=>?_);simp only[go_sem];refine hK _ _ ⟨T,O,Z,cM aa E I,j',rfl,(aV aa I).symm,?_⟩;rw[kK (ag.trans hb)];exact gN (l':=[⟨2,kO m⟩]) rfl
    ·simp only[go_sem];refine hK _ _ ⟨T,O,Z,aa,j,U,E,?_⟩;rw[kJ (ag.trans hb),Xat,ah]
   ·have Y:=aZ hk Y;subst Y;simp only[go_sem,U];simp_all[KI,DV]
theorem SA(n:Network)(k:Nat)(O:(qW n.o9 k).eP.length<=1048576)(J:(qW n.o9 k).ξ.length<=1048576):(KI n k).length<=3145740:=by
 have h1:=cU (DF n.places.length (qW n.o9 k)) (⟨11,kO k⟩:Fault);have F:=cU (GR (qW n.o9 k)) (⟨2,kO k⟩:Fault);have A:=cU ((n.o9.take k).any (BV (qW n.o9 k))) (⟨6,kO k⟩:Fault);have E:=Ih (qW n.o9 k).eP;have I:=cU (decide (((qW n.o9 k).ξ.length:Int)>16)) (⟨4,kO k⟩:Fault);have T:=gO (f:=fun i=>opt (rY (qW n.o9 k).ξ i) (⟨2,kO k⟩:Fault)) (c:=1) (fun x=>cU _ _) (List.range (qW n.o9 k).ξ.length)
 grind[KI]
def IQ{α A:Type}{f:α->List A}{c:Nat}:∀l:List α,(∀x∈l,(f x).length<=c)->(l.flatMap f).length<=c*l.length
 | [],_=>by simp
 | x::r,h=>by
  have h1:=h x (by simp);have E:=IQ r fun y F=>h y (by grind)
  simp_all;grind
def MN(n:Network):List Fault:=Bb n.places++opt (decide ((n.o9.length:Int)>1024)) ⟨4,⟨#[97,114,99,115]⟩⟩++(List.range n.o9.length).flatMap (KI n)
def Ik(l:List ByteArray):(Bb l).length<=l.length+1:=by
 have:=gO (abF l) (List.range l.length)
 grind[cU,Bb]
def aBS(n:Network)(hp:n.places.length<=1048576)(aa:∀s∈n.places,s.size<=1048576)(hl:n.o9.length<=1048576)(hs:∀a∈n.o9,a.eP.length<=1048576/\a.ξ.length<=1048576):
  NC prog 23 [.agg (bH n)] (bV (MN n)) .os:=by
 have T:∀k,(KI n k).length<=3145740:=fun k=>by grind[SA,qW]
 have Z:=Ik n.places;refine ncb (fun t=>t == 3) func23 rfl rfl ?_;simp only[go_sem];refine NC.use (apY n hp aa) fun j hj=>?_
 simp only[go_sem];refine tP (fun A H'=>A 1=.rp (bH n) 0/\∃j',A 3=.os j'/\H' j'=some (bV (Bb n.places))) ⟨rfl,j,rfl,aB _ _ _⟩ ?_;rintro ρ H ⟨h1,j,J,F⟩;generalize U:Bb n.places=es0 at F Z;refine bO (fun A H'=>A 1=.rp (bH n) 0/\∃j',A 3=.os j'/\H' j'=some (bV (es0++opt (decide ((n.o9.length:Int)>1024)) ⟨4,⟨#[97,114,99,115]⟩⟩))) ?_ fun K hK=>aA (fun hb=>?_) (fun hb=>?_)
 rotate_left
 ·simp only[go_sem,J];refine aU F ⟨rfl,rfl⟩ (by simp only[go_sem]) (by grind) (fun j' Y=>?_);simp only[go_sem];refine hK _ _ ⟨h1,j',rfl,?_⟩;rw[kK (show(decide ((n.o9.length:Int)>1024))=true from hb)];exact gN (l':=[⟨4,⟨#[97,114,99,115]⟩⟩]) rfl
 ·simp only[go_sem]
  grind[kJ]
 rintro ρ H ⟨h1,j,J,F⟩;generalize O:es0++opt (decide ((n.o9.length:Int)>1024)) (⟨4,⟨#[97,114,99,115]⟩⟩:Fault)=es1 at F;have ac:es1.length<=es0.length+1:=by grind[cU]
 simp only[go_sem,];refine⟨fun ρ H=>∃k:Nat,k<=n.o9.length/\ρ 1=.rp (bH n) 0/\ρ 4=int k/\∃j,ρ 3=.os j/\H j=some (bV (es1++(List.range k).flatMap (KI n))),fun ρ _=>n.o9.length-aT (ρ 4),⟨0,Xaa _,h1,by rfl,j,J,by grind⟩,?_⟩;rintro ρ H ⟨k,hk,h1,h4,j,J,F⟩;generalize X:es1++(List.range k).flatMap (KI n)=es at F;have ab:es.length<=es1.length+3145740*k:=by
  have:=gO T (List.range k)
  grind
 simp only[go_sem,h1,h4];refine aA (fun E=>?_) (fun I=>?_)
 ·have E:=aX E;simp only[go_sem,h1,J,h4];refine NC.use (aCc n k E hp hl hs) fun i hi=>?_
  simp only[go_sem];have:=T k;refine Fy (fA F hi) (aB _ _ _) ⟨rfl,rfl⟩ (tA _) (by grind) (fun j' Y=>?_);simp only[go_sem,h1,h4,aQ k];refine⟨⟨k+1,E,rfl,j',rfl,?_⟩,by grind[aJ]⟩
  grind[jU,gN]
 ·have I:=aZ hk I;subst I;simp only[go_sem,J];exact⟨_,rfl,by rw[F,<-X,<-O,<-U];rfl⟩
def vI(l:List Fault):Prop:=∀f∈l,f.at_.size<=4194304
def ahQ:vI []:=by simp[vI]
def kL{a b:List Fault}(F:vI a)(E:vI b):vI (a++b):=fun f A=>(List.mem_append.1 A).elim (F f) (E f)
theorem jO{b:Bool}{f:Fault}(h:f.at_.size<=4194304):vI (opt b f):=by cases b<;>grind[vI,opt]
def sV{α:Type}{F:α->List Fault}{l:List α}(h:∀x∈l,vI (F x)):vI (l.flatMap F):=fun f A=>by obtain⟨x,E,A⟩:=List.mem_flatMap.1 A;exact h x E f A
def Ht{α:Type}{F:α->Fault}{l:List α}(h:∀x∈l,(F x).at_.size<=4194304):vI (l.map F):=fun f A=>by grind
def FY{i n:Nat}(h:i∈List.range n):i<n:=Xan.1 h
theorem agY(i:Nat):(kO i).size<=i+5:=by have:=rF i;unfold kO;rw[ByteArray.size_append];have:(⟨#[97,114,99,32]⟩:ByteArray).size=4:=rfl;omega
def YP(w:ByteArray)(i:Nat):(IT w i).size<=w.size+i+2:=by have:=rF i;unfold IT;rw[ByteArray.size_append,ByteArray.size_append];have:(⟨#[32]⟩:ByteArray).size=1:=rfl;omega
def PA(l:List ByteArray)(h:l.length<=1048576):vI (Bb l):=kL (jO (by decide)) (sV fun i A=>by
 have:=FY A;have:=Sc i;unfold iR;split
 ·exact jO (b:=true) (by grind)
 grind[jO])
def aeR(n:Network)(A:n.places.length<=1048576)(F:n.o9.length<=1048576):vI (MN n):=by
 refine kL (kL (PA _ A) (jO (by decide))) (sV fun i E=>?_);have:=FY E;have h:(kO i).size<=4194304:=by grind[agY]
 exact kL (kL (kL (kL (kL (kL ahQ (jO h)) (jO h)) (jO h)) (Ht fun _ _=>h)) (jO h)) (sV fun _ _=>jO h)
def Sn(n:Network)(l:List VType)(E:l.length<=1048576):vI (Af n l):=
 kL (jO (by decide)) (sV fun i A=>Ht fun _ _=>by grind[rF])
def PE(n:Network)(d T:Int)(l:List Order)(E:l.length<=1048576):vI (uA n d T l):=
 kL (jO (by decide)) (sV fun i A=>Ht fun _ _=>by grind[rF])
def IU(N:Int)(l:List Pair)(w:ByteArray)(b:Bool)(F:l.length<=1048576)(E:w.size<=100):vI (zQ N l w b):=kL (jO (by grind)) (sV fun i A=>by
 have:=FY A;have:=YP w i;unfold iY;split
 ·exact jO (b:=true) (by grind)
 grind[jO])
def XB(n:Network)(l:List VType):(Af n l).length<=9*l.length+1:=by
 have:=gO (f:=kP n l) (c:=9) (fun x=>by grind[kP,BP]) (List.range l.length)
 grind[cU,Af]
def VH(n:Network)(d T:Int)(l:List Order):(uA n d T l).length<=9*l.length+1:=by
 have:=gO (f:=iN n d T l) (c:=9) (fun x=>by grind[iN,zM]) (List.range l.length)
 grind[cU,uA]
structure InB(x:Instance):Prop where
 places:x.τ.places.length<=1048576
 place:∀s∈x.τ.places,s.size<=1048576
 o9:x.τ.o9.length<=1048576
 arc:∀a∈x.τ.o9,a.eP.length<=1048576/\a.ξ.length<=1048576
 types:x.types.length<=1048576
 type:∀t∈x.types,t.name.size<=1048576/\t.cap.length<=1048576
 y5:x.y5.length<=1048576
 order:∀t∈x.y5,t.name.size<=1048576/\t.load.length<=1048576
 apart:x.apart.length<=1048576
 before:x.before.length<=1048576
def GP(x:Instance):List Fault:=zQ x.y5.length x.apart ⟨#[97,112,97,114,116]⟩ true++zQ x.y5.length x.before ⟨#[98,101,102,111,114,101]⟩ false
def xY(x:Instance):List Fault:=(MN x.τ).map (nW ⟨#[110,101,116]⟩)++(Af x.τ x.types).map (nW ⟨#[116,121,112,101,115]⟩) ++
 (uA x.τ (mO x.types) x.types.length x.y5).map (nW ⟨#[111,114,100,101,114,115]⟩)++(GP x).map (nW ⟨#[114,117,108,101,115]⟩)
def anN(x:Instance)(h:InB x):(MN x.τ).length<=3300000000000:=by
 have h1:=Ik x.τ.places;have J:=cU (decide ((x.τ.o9.length:Int)>1024)) (⟨4,⟨#[97,114,99,115]⟩⟩:Fault);have F:=IQ (f:=KI x.τ) (c:=3145740) (List.range x.τ.o9.length) fun k E=>by
  obtain⟨a,A⟩:=aK (FY E);have O:=h.arc a (qT A)
  grind[SA,DV]
 have I:=h.places;have T:=h.o9
 grind[MN]
def axS(x:Instance)(h:InB x):NC prog 9 [.agg (aD x)] (bV (xY x)) .os:=by
 have U:PC prog 23 [.agg (bH x.τ)] (.sl ((MN x.τ).map iV)):=NC.pc (aBS x.τ h.places h.place h.o9 h.arc);have c2:PC prog 24 [.agg (bH x.τ),.sl (x.types.map bI)] (.sl ((Af x.τ x.types).map iV)):=NC.pc (atT x.τ x.types h.types h.type h.places);have Z:PC prog 25 [.agg (bH x.τ),int (mO x.types),int x.types.length,.sl (x.y5.map bE)] (.sl ((uA x.τ (mO x.types) x.types.length x.y5).map iV)):=NC.pc (LF x.τ _ _ x.y5 h.y5 h.order h.places);have c4:PC prog 27 [int x.y5.length,.sl (x.apart.map dN),.sl (x.before.map dN)] (.sl ((GP x).map iV)):=NC.pc (PS x.y5.length x.apart x.before h.apart h.before);have l1:=anN x h;have l2:=XB x.τ x.types;have l3:=VH x.τ (mO x.types) x.types.length x.y5;have l4:(GP x).length<=2097154:=by
  have a1:=Bu x.y5.length x.apart ⟨#[97,112,97,114,116]⟩ true;have a2:=Bu x.y5.length x.before ⟨#[98,101,102,111,114,101]⟩ false;have:=h.apart;have:=h.before
  grind[GP]
 have s1:=aeR x.τ h.places h.o9;have X:=Sn x.τ x.types h.types;have s3:=PE x.τ (mO x.types) x.types.length x.y5 h.y5;have s4:vI (GP x):=kL (IU _ _ _ _ h.apart (by decide)) (IU _ _ _ _ h.before (by decide));have ht:=h.types;have ho:=h.y5;refine ncb (fun t=>t == 27) func9 rfl rfl ?_;simp only[go_sem];refine aL U ?_;simp only[go_sem];refine NC.use (JJ ⟨#[110,101,116]⟩ _ (by decide) (by omega) fun f A=>Xaf (s1 f A) (by decide)) fun j hj=>?_
 simp only[go_sem];refine aL c2 ?_;simp only[go_sem];refine NC.use (JJ ⟨#[116,121,112,101,115]⟩ _ (by decide) (by omega) fun f A=>Xaf (X f A) (by decide)) fun i I=>?_
 simp only[go_sem];refine Fy (fA (aB _ _ _) I) (aB _ _ _) ⟨rfl,rfl⟩ (tA _) (by grind) (fun j' T=>?_);simp only[go_sem];refine JM (by kernel_rfl) ?_;simp only[go_sem];refine⟨_,(PQ x.types).q rfl,?_⟩;simp only[go_sem];have F:=gN (e:=141) (sz:=2) (enc:=iV) (H:=aI (aI (aI bN j (some (bV ((MN x.τ).map (nW ⟨#[110,101,116]⟩))))) i (some (bV ((Af x.τ x.types).map (nW ⟨#[116,121,112,101,115]⟩))))) j none) (k:=j') (l:=(MN x.τ).map (nW ⟨#[110,101,116]⟩)) (l':=(Af x.τ x.types).map (nW ⟨#[116,121,112,101,115]⟩)) rfl;generalize aI (aI (aI (aI bN j _) i _) j none) j' _=H at F |-;generalize J:(MN x.τ).map (nW ⟨#[110,101,116]⟩)++(Af x.τ x.types).map (nW ⟨#[116,121,112,101,115]⟩)=es at F;have Y:es.length<=3300000000000+9*x.types.length+1:=by grind
 refine aL Z ?_;simp only[go_sem];refine NC.use (JJ ⟨#[111,114,100,101,114,115]⟩ _ (by decide) (by omega) fun f A=>Xaf (s3 f A) (by decide)) fun i I=>?_
 simp only[go_sem];refine Fy (fA F I) (aB _ _ _) ⟨rfl,rfl⟩ (tA _) (by grind) (fun k hk=>?_);simp only[go_sem];have E:=gN (e:=141) (sz:=2) (enc:=iV) (H:=aI (aI H i (some (bV ((uA x.τ (mO x.types) x.types.length x.y5).map (nW ⟨#[111,114,100,101,114,115]⟩))))) j' none) (k:=k) (l:=es) (l':=(uA x.τ (mO x.types) x.types.length x.y5).map (nW ⟨#[111,114,100,101,114,115]⟩)) rfl;generalize aI (aI (aI H i _) j' none) k _=H2 at E |-;refine aL c4 ?_;simp only[go_sem];refine NC.use (JJ ⟨#[114,117,108,101,115]⟩ _ (by decide) (by omega) fun f A=>Xaf (s4 f A) (by decide)) fun q O=>?_
 simp only[go_sem];refine Fy (fA E O) (aB _ _ _) ⟨rfl,rfl⟩ (tA _) (by grind) (fun m hm=>?_);simp only[go_sem]
 grind[xY,gN]
end Go.Proofs.YtkfhgjihlbilpaaGreatDoor
end
section
namespace Go.Aw.D
open Go.Aw Go.RowKit
def Sw(w:World):Sg:=⟨fun k=>k<w.heap.size,fun k=>k<w.heap.size,fun _=>.slice none 0 0,fun _=>1,0⟩
def RA(w:World):Prop:=∀t∈aiN,wT w t.1=some t.2
theorem UW{w:World}{g:Nat}{cs:Array Value}(h:wT w g=some cs):g<w.heap.size:=by grind[wT]
theorem aB3(w:World)(E:RA w):St (Sw w) w bN:=⟨fun _ h=>h,fun _ h=>h,fun k r A=>by grind[bN],fun k r A=>by grind[bN],fun k k' r r' A=>by grind[bN],fun t h=>⟨UW (E t h),E t h⟩⟩
def lD(_:Nat)(x:Int):Prop:= -9223372036854775808<=x/\x<=9223372036854775807
def apE(_:Nat)(_:Bool):Prop:=True
def Vk(n:Nat)(s:ByteArray):Prop:=s.size<=n
def bL{α:Type}(b:Nat->α->Prop)(n:Nat)(l:List α):Prop:=l.length<=n/\∀x∈l,b n x
def Rd{H:Type}(e:TypeId×Value->H)(B:DataW H->Nat)(P:Program)(w:World)(t:TypeId){α:Type}(enc:α->List AV)(b:Nat->α->Prop):Prop:=
 ∀fuel cs y,DataW.trod e P w 0 (fun _=>true) true fuel t cs=some y->∃x:α,(bR (Sw w) w (enc x) cs/\∀u∈cs,u.oneCell'=true)/\∀n,B y.1<=n->b n x
section
variable{H:Type}{e:TypeId×Value->H}{P:Program}{w:World}{t:TypeId}
abbrev BK(H:Type):DataW H->Nat:=Go.Proofs.YtkfhgjihlbilpaaGreatDoor.Rows.uptoBulk
theorem fD(F:P.underlying t=some (.int .i64)):Rd e (BK H) P w t aP lD:=by intro A cs y h;obtain⟨n,rfl,_,E⟩:=DataW.trod_int F h;refine⟨n,⟨by grind[aP,bR,rep],by simp[Value.oneCell']⟩,fun _ _=>bounds_i64 E⟩
theorem acI(E:P.underlying t=some .bool):Rd e (BK H) P w t dY apE:=by intro A cs y h;obtain⟨n,rfl,_⟩:=DataW.trod_bool E h;refine⟨n,⟨by grind[dY,bR,rep],by simp[Value.oneCell']⟩,fun _ _=>trivial⟩
theorem Qn(E:P.underlying t=some .string):Rd e (BK H) P w t dK Vk:=by
 intro A cs y h;obtain⟨s,rfl,rfl,_⟩:=DataW.trod_string E h;refine⟨s,⟨by grind[dK,bR,rep],by simp[Value.oneCell']⟩,fun n F=>?_⟩;simp only[BK,Go.Proofs.YtkfhgjihlbilpaaGreatDoor.Rows.uptoBulk,Array.length_toList]at F;have:s.size=s.data.size:=rfl
 grind[Vk]
theorem NL{d:DataW H}{l:List (DataW H)}(h:d∈l):BK H d<=Go.Proofs.YtkfhgjihlbilpaaGreatDoor.Rows.uptoBulkAll l:=by induction l<;>grind[Go.Proofs.YtkfhgjihlbilpaaGreatDoor.Rows.uptoBulkAll]
theorem apO(d:DataW H):1<=BK H d:=by
 cases d with
 | lit l=>cases l <;> simp[BK,Go.Proofs.YtkfhgjihlbilpaaGreatDoor.Rows.uptoBulk]
 | nil=>simp[BK,Go.Proofs.YtkfhgjihlbilpaaGreatDoor.Rows.uptoBulk]
 | ptr d=>simp[BK,Go.Proofs.YtkfhgjihlbilpaaGreatDoor.Rows.uptoBulk]
 | slice elems spare=>simp[BK,Go.Proofs.YtkfhgjihlbilpaaGreatDoor.Rows.uptoBulk]
 | agg parts=>simp[BK,Go.Proofs.YtkfhgjihlbilpaaGreatDoor.Rows.uptoBulk]
 | iface t d=>simp[BK,Go.Proofs.YtkfhgjihlbilpaaGreatDoor.Rows.uptoBulk]
 | map entries=>simp[BK,Go.Proofs.YtkfhgjihlbilpaaGreatDoor.Rows.uptoBulk]
 | held h=>simp[BK,Go.Proofs.YtkfhgjihlbilpaaGreatDoor.Rows.uptoBulk]
theorem UQ(l:List (DataW H)):l.length<=Go.Proofs.YtkfhgjihlbilpaaGreatDoor.Rows.uptoBulkAll l:=by
 induction l with
 | nil=>simp
 | cons x r ih=>have:=apO x;simp only[Go.Proofs.YtkfhgjihlbilpaaGreatDoor.Rows.uptoBulkAll,List.length_cons,BK]at *;omega
theorem T0{α:Type}(n:Nat)(p:Nat->α->Prop)(h:∀i,i<n->∃x,p i x):∃l:List α,l.length=n/\∀i x,l[i]?=some x->p i x:=by
 induction n with
 | zero=>simp
 | succ n ih=>
  obtain⟨l,F,A⟩:=ih fun i E=>h i (by omega)
  obtain⟨x,I⟩:=h n (by omega);refine⟨l++[x],by grind,fun i y J=>?_⟩
  grind
theorem Fj{S:Sg}{b sz:Nat}{α:Type}{enc:α->List AV}(A:∀x,(enc x).length=sz):∀(l:List α) (o:Nat),(∀i x,l[i]?=some x->dS S w b (o+i*sz) (enc x))->jX S w b sz o (l.map enc)
 | [],_,_=>by simp[jX]
 | x::r,o,h=>by
  simp only[List.map_cons,jX];refine⟨A x,by simpa using h 0 x rfl,Fj A r (o+sz) fun i y E=>?_⟩;have:=h (i+1) y (by simpa using E)
  rwa [show o+(i+1)*sz=o+sz+i*sz by rw[Nat.add_mul];omega]at this
theorem Hv{a:Addr}{n:Nat}{cs:List Value}(h:w.cells? 0 a n=some cs):cs.length=n/\∀j,j<n->w.cell? (a.add j)=cs[j]?:=by unfold World.cells? at h;rw[if_pos (Nat.zero_le _)]at h;have A:=mapM_some_length h;exact⟨by grind,fun j E=>mapM_some_get h j j (by grind)⟩
theorem pW{α:Type}{enc:α->List AV}{b:Nat->α->Prop}{Y:TypeId}{sz:Nat}(ht:P.underlying t=some (.slice Y))(hc:P.cellsOf Y=sz)(E:0<sz)(I:∀x,(enc x).length=sz)(hr:Rd e (BK H) P w Y enc b):
  Rd e (BK H) P w t (fun l:List α=>[.sl (l.map enc)]) (bL b):=by
 intro ag cs y h;rcases DataW.trod_slice ht h with⟨rfl,rfl⟩|⟨a,len,cap,A,rest,n,rfl,rfl,rfl,_,ae,O,ac,T,ah,_⟩
 ·refine⟨[],⟨?_,by simp[Value.oneCell']⟩,fun n _=>⟨by simp,by simp⟩⟩
  grind[bR,rep]
 ·have hp : ∀ i, i < len -> ∃ x : α, ∃ z cs', A[i]? = some z /\ w.cells? 0 (a.add (i * sz)) sz = some cs' /\ (bR (Sw w) w (enc x) cs' /\ ∀ u ∈ cs', u.oneCell' = true) /\ ∀ n, BK H z.1 <= n -> b n x := fun i hi => by
   have hg:=T i hi;rw[List.getElem?_eq_getElem (by omega),hc,Option.bind_eq_some_iff]at hg;obtain⟨cs',h1,h2⟩:=hg;obtain⟨x,X,hb⟩:=hr _ _ _ h2
   grind
  obtain⟨l,hl,Z⟩:=T0 len _ hp;refine⟨l,⟨?_,by simp[Value.oneCell']⟩,fun m hm=>⟨?_,fun x X=>?_⟩⟩
  ·simp only[bR];refine⟨_,_,rfl,?_,rfl⟩;simp only[rep];refine⟨some a,len,cap,rfl,by grind,ae,O,?_⟩;rcases Nat.eq_zero_or_pos len with h0|h0
   ·grind
   ·right;have aa:=hp 0 h0;obtain⟨_,_,ai,_,U,_⟩:=aa;have q:=(Hv U).2 0 E;have af:=(Hv U).1;rw[List.getElem?_eq_getElem (by omega)]at q;simp only[Nat.zero_mul,Addr.add,if_true]at q;have F:a.spot=none/\a.block<w.heap.size:=by
     unfold World.cell? at q;split at q
     ·simp_all;grind
     grind
    obtain⟨ab,ao,aj⟩:=a;obtain⟨hs,J⟩:=F;simp only at hs J;subst hs;refine⟨ab,ao,sz,rfl,J,E,Fj I l ao fun i x X=>?_⟩
    grind[lH,Hv,Addr.add_lit]
  ·rw[hl,<-ac];have h1:=UQ (A.map (·.1));simp only[BK,Go.Proofs.YtkfhgjihlbilpaaGreatDoor.Rows.uptoBulk,List.length_map]at hm h1;omega
  ·obtain⟨i,hi⟩:=List.mem_iff_getElem?.1 X;obtain⟨z,cs',hz,_,_,hb⟩:=Z i x hi;refine hb m ?_;have h1:=NL (List.mem_map_of_mem (f:=(·.1)) (List.mem_of_getElem? hz));simp only[BK,Go.Proofs.YtkfhgjihlbilpaaGreatDoor.Rows.uptoBulk]at hm h1 |-;omega
theorem fld{A o m:Nat}{cs:List Value}{z:DataW H×List MemPlace}(E:P.cellsOf t=m)(h:DataW.trod e P w 0 (fun _=>true) true A t ((cs.drop o).take (P.cellsOf t))=some z):DataW.trod e P w 0 (fun _=>true) true A t ((cs.drop o).take m)=some z:=E▸h
theorem DX{S:Sg}{a b:List AV}{cs:List Value}{o m:Nat}(h:bR S w a ((cs.drop o).take m))(A:bR S w b (cs.drop (o+m))):bR S w (a++b) (cs.drop o):=by grind[fZ,List.drop_drop,List.take_append_drop]
theorem RK{S:Sg}{cs:List Value}{o:Nat}(h:cs.length=o):bR S w [] (cs.drop o):=by grind[bR]
theorem Gw{cs:List Value}{o m:Nat}(h:∀u∈(cs.drop o).take m,u.oneCell'=true)(A:∀u∈cs.drop (o+m),u.oneCell'=true):∀u∈cs.drop o,u.oneCell'=true:=by grind[List.take_append_drop,List.drop_drop]
theorem aaU{cs:List Value}{o:Nat}(h:cs.length=o):∀u∈cs.drop o,u.oneCell'=true:=by grind
theorem EK{xs:List (DataW H×List MemPlace)}{i:Nat}{z:DataW H×List MemPlace}(A:xs[i]?=some z){n:Nat}(h:BK H (.agg (xs.map (·.1)))<=n):BK H z.1<=n:=by have h1:=NL (List.mem_map_of_mem (f:=(·.1)) (List.mem_of_getElem? A));simp only[BK,Go.Proofs.YtkfhgjihlbilpaaGreatDoor.Rows.uptoBulk]at h h1 |-;omega
theorem L5{α:Type}{xs:List α}{n i:Nat}(h:xs.length=n)(A:i<n):∃z,xs[i]?=some z:=⟨xs[i],List.getElem?_eq_getElem (by omega)⟩
def RdL(e:TypeId×Value->H)(P:Program)(w:World)(T:TypeId)(fs:Array Field)(i o:Nat){α:Type}(enc:α->List AV)(b:Nat->α->Prop):Prop:=
 ∀(n:Nat) (cs:List Value) (xs:List (DataW H×List MemPlace)),cs.length=P.cellsOf T->xs.length=fs.size ->
   (∀(j:Nat) (f:Field),fs[j]?=some f->DataW.trod e P w 0 (fun _=>true) true n f.type ((cs.drop f.offset).take (P.cellsOf f.type))=xs[j]?) ->
   ∃x:α,(bR (Sw w) w (enc x) (cs.drop o)/\∀u∈cs.drop o,u.oneCell'=true)/\∀m,BK H (.agg (xs.map (·.1)))<=m->b m x
theorem rdF{fs:Array Field}{i o:Nat}{t:TypeId}(m:Nat){α:Type}{enc:α->List AV}{b:Nat->α->Prop}(R:Rd e (BK H) P w t enc b)(O:(fs[i]?).map (fun f:Field=>(f.type,f.offset))=some (t,o))(I:P.cellsOf t=m)
  {n:Nat} {cs:List Value} {xs:List (DataW H×List MemPlace)} (T:xs.length=fs.size) (F:∀(j:Nat) (f:Field),fs[j]?=some f->DataW.trod e P w 0 (fun _=>true) true n f.type ((cs.drop f.offset).take (P.cellsOf f.type))=xs[j]?):
  ∃x:α,(bR (Sw w) w (enc x) ((cs.drop o).take m)/\∀u∈(cs.drop o).take m,u.oneCell'=true)/\∀m,BK H (.agg (xs.map (·.1)))<=m->b m x:=by
 obtain⟨f,A,E⟩:=Option.map_eq_some_iff.1 O;obtain⟨rfl,rfl⟩:=Prod.mk.inj E;obtain⟨z,J⟩:=L5 T (Array.getElem?_eq_some_iff.1 A).1;obtain⟨x,h,U⟩:=R n ((cs.drop f.offset).take m) z (fld I ((F i f A).trans J))
 grind[EK]
theorem rdC{T:TypeId}{fs:Array Field}{i o:Nat}{t:TypeId}(m:Nat){α E:Type}{enc:α->List AV}{b:Nat->α->Prop}{A:E->List AV}{I:Nat->E->Prop}(R:Rd e (BK H) P w t enc b)(r:RdL e P w T fs (i+1) (o+m) A I)
  (hG:(fs[i]?).map (fun f:Field=>(f.type,f.offset))=some (t,o):=by rfl) (hm:P.cellsOf t=m:=by kernel_rfl):RdL e P w T fs i o (fun p:α×E=>enc p.1++A p.2) (fun n p=>b n p.1/\I n p.2):=fun n cs xs h1 J F=>by
 obtain⟨x,⟨X,U⟩,Z⟩:=rdF m R hG hm J F;obtain⟨y,⟨r2,o2⟩,Y⟩:=r n cs xs h1 J F;exact⟨(x,y),⟨DX X r2,Gw U o2⟩,fun k O=>⟨Z k O,Y k O⟩⟩
theorem rdE{T:TypeId}{fs:Array Field}{i o:Nat}{t:TypeId}(m:Nat){α:Type}{enc:α->List AV}{b:Nat->α->Prop}(R:Rd e (BK H) P w t enc b)
  (U:(fs[i]?).map (fun f:Field=>(f.type,f.offset))=some (t,o):=by rfl) (J:P.cellsOf t=m:=by kernel_rfl) (A:P.cellsOf T=o+m:=by kernel_rfl):RdL e P w T fs i o enc b:=fun n cs xs h1 X E=>by
 obtain⟨x,⟨I,F⟩,O⟩:=rdF m R U J X E;refine⟨x,⟨?_,Gw F (aaU (h1.trans A))⟩,O⟩;have:=DX I (RK (h1.trans A))
 grind
theorem rdS{T:TypeId}{fs:Array Field}{α X:Type}{enc:α->List AV}{b:Nat->α->Prop}{A:X->List AV}{J:Nat->X->Prop}(Y:P.underlying T=some (.struct fs))(r:RdL e P w T fs 0 0 enc b)(F:α->X)
  (he:∀p,A (F p)=enc p) (hb:∀n p,b n p->J n (F p)):Rd e (BK H) P w T A J:=by
 intro I cs y h;obtain⟨xs,n,rfl,rfl,U,E,O⟩:=DataW.trod_struct Y h;obtain⟨x,⟨r1,Z⟩,b1⟩:=r n cs xs U E O
 grind
end
section
open Go.Proofs Go.Proofs.YtkfhgjihlbilpaaGreatDoor
variable{H:Type}{e:TypeId×Value->H}{w:World}
theorem auR:Rd e (BK H) Tryz.prog w 22 (fun l:List ByteArray=>[.sl (l.map dK)]) (bL Vk):=pW (sz:=1) Tryz.underlying22 (by rfl) (by omega) (fun _=>rfl) (Qn Tryz.underlying9)
def Pw(n:Nat)(x:Point):Prop:=lD n x.t/\lD n x.a
theorem ajP:Rd e (BK H) Tryz.prog w 90 cG Pw:=rdS Tryz.underlying90 (rdC 1 (fD Tryz.underlying3) (rdE 1 (fD Tryz.underlying3))) (fun(a,b)=>⟨a,b⟩) (fun _=>rfl) (fun _ (_,_) h=>h)
theorem Of:Rd e (BK H) Tryz.prog w 91 (fun l:List Point=>[.sl (l.map cG)]) (bL Pw):=pW (sz:=2) Tryz.underlying91 (by rfl) (by omega) (fun _=>rfl) (ajP)
def aA3(n:Nat)(x:Arc):Prop:=lD n x.src/\lD n x.dst/\lD n x.o6/\lD n x.o7/\(bL Pw) n x.eP/\(bL Pw) n x.ξ
theorem aAb:Rd e (BK H) Tryz.prog w 93 fL aA3:=rdS Tryz.underlying93 (rdC 1 (fD Tryz.underlying3) (rdC 1 (fD Tryz.underlying3) (rdC 1 (fD Tryz.underlying3) (rdC 1 (fD Tryz.underlying3) (rdC 1 Of (rdE 1 Of)))))) (fun(a,b,c,d,e,f)=>⟨a,b,c,d,e,f⟩) (fun _=>rfl) (fun _ (_,_,_,_,_,_) h=>h)
theorem axP:Rd e (BK H) Tryz.prog w 23 (fun l:List Arc=>[.sl (l.map fL)]) (bL aA3):=pW (sz:=6) Tryz.underlying23 (by rfl) (by omega) (fun _=>rfl) (aAb)
def TJ(n:Nat)(x:Network):Prop:=(bL Vk) n x.places/\(bL aA3) n x.o9
theorem XD:Rd e (BK H) Tryz.prog w 25 bH TJ:=rdS Tryz.underlying25 (rdC 1 auR (rdE 1 axP)) (fun(a,b)=>⟨a,b⟩) (fun _=>rfl) (fun _ (_,_) h=>h)
theorem Y9:Rd e (BK H) Tryz.prog w 48 (fun l:List Int=>[.sl (l.map aP)]) (bL lD):=pW (sz:=1) Tryz.underlying48 (by rfl) (by omega) (fun _=>rfl) (fD Tryz.underlying3)
def Xf(n:Nat)(x:VType):Prop:=Vk n x.name/\lD n x.count/\lD n x.src/\lD n x.dst/\(bL lD) n x.cap/\lD n x.l7/\lD n x.o6/\lD n x.start/\lD n x.close/\lD n x.υ/\lD n x.rest/\lD n x.fixed/\lD n x.perMile/\lD n x.perTick
theorem aqM:Rd e (BK H) Tryz.prog w 95 bI Xf:=rdS Tryz.underlying95 (rdC 1 (Qn Tryz.underlying9) (rdC 1 (fD Tryz.underlying3) (rdC 1 (fD Tryz.underlying3) (rdC 1 (fD Tryz.underlying3) (rdC 1 Y9 (rdC 1 (fD Tryz.underlying3) (rdC 1 (fD Tryz.underlying3) (rdC 1 (fD Tryz.underlying3) (rdC 1 (fD Tryz.underlying3) (rdC 1 (fD Tryz.underlying3) (rdC 1 (fD Tryz.underlying3) (rdC 1 (fD Tryz.underlying3) (rdC 1 (fD Tryz.underlying3) (rdE 1 (fD Tryz.underlying3))))))))))))))) (fun(a,b,c,d,e,f,g,h,i,j,k,l,m,n)=>⟨a,b,c,d,e,f,g,h,i,j,k,l,m,n⟩) (fun _=>rfl) (fun _ (_,_,_,_,_,_,_,_,_,_,_,_,_,_) h=>h)
theorem afX:Rd e (BK H) Tryz.prog w 26 (fun l:List VType=>[.sl (l.map bI)]) (bL Xf):=pW (sz:=14) Tryz.underlying26 (by rfl) (by omega) (fun _=>rfl) (aqM)
def asG(n:Nat)(x:Stop):Prop:=lD n x.place/\lD n x.start/\lD n x.close/\lD n x.ζ
theorem aaG:Rd e (BK H) Tryz.prog w 58 eT asG:=rdS Tryz.underlying58 (rdC 1 (fD Tryz.underlying3) (rdC 1 (fD Tryz.underlying3) (rdC 1 (fD Tryz.underlying3) (rdE 1 (fD Tryz.underlying3))))) (fun(a,b,c,d)=>⟨a,b,c,d⟩) (fun _=>rfl) (fun _ (_,_,_,_) h=>h)
def X4(n:Nat)(x:Order):Prop:=Vk n x.name/\(bL lD) n x.load/\asG n x.pick/\asG n x.drop/\lD n x.l7/\lD n x.η/\lD n x.split/\lD n x.last/\lD n x.now/\apE n x.off
theorem amT:Rd e (BK H) Tryz.prog w 60 bE X4:=rdS Tryz.underlying60 (rdC 1 (Qn Tryz.underlying9) (rdC 1 Y9 (rdC 4 aaG (rdC 4 aaG (rdC 1 (fD Tryz.underlying3) (rdC 1 (fD Tryz.underlying3) (rdC 1 (fD Tryz.underlying3) (rdC 1 (fD Tryz.underlying3) (rdC 1 (fD Tryz.underlying3) (rdE 1 (acI Tryz.underlying4))))))))))) (fun(a,b,c,d,e,f,g,h,i,j)=>⟨a,b,c,d,e,f,g,h,i,j⟩) (fun _=>rfl) (fun _ (_,_,_,_,_,_,_,_,_,_) h=>h)
theorem agK:Rd e (BK H) Tryz.prog w 27 (fun l:List Order=>[.sl (l.map bE)]) (bL X4):=pW (sz:=16) Tryz.underlying27 (by rfl) (by omega) (fun _=>rfl) (amT)
def Zo(n:Nat)(x:Pair):Prop:=lD n x.a/\lD n x.b
theorem avA:Rd e (BK H) Tryz.prog w 148 dN Zo:=by
 intro O cs y h;obtain⟨xs,n,rfl,rfl,T,A,I⟩:=DataW.trod_array Tryz.underlying148 h;have T:cs.length=2:=T.trans (by rfl);obtain⟨z0,E⟩:=L5 A (show 0<2 by omega);obtain⟨x0,⟨X,U⟩,b0⟩:=(fD Tryz.underlying3:Rd e (BK H) Tryz.prog w 3 _ _) n ((cs.drop 0).take 1) z0 (fld (t:=3) (o:=0) (m:=1) (by rfl) ((I 0 (by omega)).trans E));obtain⟨z1,F⟩:=L5 A (show 1<2 by omega);obtain⟨x1,⟨Z,Y⟩,b1⟩:=(fD Tryz.underlying3:Rd e (BK H) Tryz.prog w 3 _ _) n ((cs.drop 1).take 1) z1 (fld (t:=3) (o:=1) (m:=1) (by rfl) ((I 1 (by omega)).trans F));refine⟨⟨x0,x1⟩,⟨?_,?_⟩,fun m J=>⟨b0 m (EK E J),b1 m (EK F J)⟩⟩
 ·have:=DX (o:=0) (m:=1) X (DX (o:=1) (m:=1) Z (RK (by omega)));rw[List.drop_zero]at this;exact this
 ·have:=Gw (o:=0) (m:=1) U (Gw (o:=1) (m:=1) Y (aaU (by omega)))
  grind
theorem VP:Rd e (BK H) Tryz.prog w 28 (fun l:List Pair=>[.sl (l.map dN)]) (bL Zo):=pW (sz:=2) Tryz.underlying28 (by rfl) (by omega) (fun _=>rfl) (avA)
def DN(n:Nat)(x:Instance):Prop:=TJ n x.τ/\(bL Xf) n x.types/\(bL X4) n x.y5/\(bL Zo) n x.apart/\(bL Zo) n x.before
theorem Ui:Rd e (BK H) Tryz.prog w 30 aD DN:=rdS Tryz.underlying30 (rdC 2 XD (rdC 1 afX (rdC 1 agK (rdC 1 VP (rdE 1 VP))))) (fun(a,b,c,d,e)=>⟨a,b,c,d,e⟩) (fun _=>rfl) (fun _ (_,_,_,_,_) h=>h)
def aBj(n:Nat)(x:Cut):Prop:=lD n x.kind/\lD n x.set/\lD n x.n
theorem aBm:Rd e (BK H) Tryz.prog w 109 dD aBj:=rdS Tryz.underlying109 (rdC 1 (fD Tryz.underlying3) (rdC 1 (fD Tryz.underlying3) (rdE 1 (fD Tryz.underlying3)))) (fun(a,b,c)=>⟨a,b,c⟩) (fun _=>rfl) (fun _ (_,_,_) h=>h)
theorem awI:Rd e (BK H) Tryz.prog w 32 (fun l:List Cut=>[.sl (l.map dD)]) (bL aBj):=pW (sz:=3) Tryz.underlying32 (by rfl) (by omega) (fun _=>rfl) (aBm)
theorem awM:Rd e (BK H) Tryz.prog w 33 (fun l:List ByteArray=>[.sl (l.map dK)]) (bL Vk):=pW (sz:=1) Tryz.underlying33 (by rfl) (by omega) (fun _=>rfl) (Qn Tryz.underlying46)
def wP(n:Nat)(x:Decision):Prop:=lD n x.kind/\lD n x.a/\lD n x.b/\lD n x.n
theorem Is:Rd e (BK H) Tryz.prog w 35 aO wP:=rdS Tryz.underlying35 (rdC 1 (fD Tryz.underlying3) (rdC 1 (fD Tryz.underlying3) (rdC 1 (fD Tryz.underlying3) (rdE 1 (fD Tryz.underlying3))))) (fun(a,b,c,d)=>⟨a,b,c,d⟩) (fun _=>rfl) (fun _ (_,_,_,_) h=>h)
def Wj(n:Nat)(x:TNode):Prop:=apE n x.leaf/\lD n x.kind/\(bL aBj) n x.y8/\(bL Vk) n x.ψ/\wP n x.π/\lD n x.yes/\lD n x.no
theorem akT:Rd e (BK H) Tryz.prog w 37 bY Wj:=rdS Tryz.underlying37 (rdC 1 (acI Tryz.underlying4) (rdC 1 (fD Tryz.underlying3) (rdC 1 awI (rdC 1 awM (rdC 4 Is (rdC 1 (fD Tryz.underlying3) (rdE 1 (fD Tryz.underlying3)))))))) (fun(a,b,c,d,e,f,g)=>⟨a,b,c,d,e,f,g⟩) (fun _=>rfl) (fun _ (_,_,_,_,_,_,_) h=>h)
theorem PF:Rd e (BK H) Tryz.prog w 31 (fun l:List Decision=>[.sl (l.map aO)]) (bL wP):=pW (sz:=4) Tryz.underlying31 (by rfl) (by omega) (fun _=>rfl) (Is)
end
end Go.Aw.D
end
section
namespace Go.Proofs.YtkfhgjihlbilpaaGreatDoor
open Go.Aw Go.Aw.D Go.Proofs Go.RowKit Go.ChangeShapes Go.WideShapes Go.ChangeAt
section
variable{H:Type}{e:TypeId×Value->H}{P:Program}{W W':World}
theorem UF{f:FuncId}{args:List AV}{vals:List Value}(h:PC P f args (.v (.bool true)))(T:RA W)(I:bR (Sw W) W args vals):
  Calls P f vals.toArray W fun F W'=>F=.returned (.bool true)/\Below W.heap.size W W':=
 (h (Sw W) W vals (aB3 W T) (fun _ h=>h) I).mono fun F W' ⟨v,r,H',S',J,O,_,E,A,_⟩=>by subst O;simp only[rep]at E;subst E;exact⟨J,A.os,A.tape,A.output,A.size,A.same⟩
theorem FN(I:laidOutB P=true)(J:Below W.heap.size W W'):∀{A:List TypeId} {vs:List Value} {ds:List (DataW H)} {ps:List MemPlace},(∀t∈A,P.readableRec t=true/\t<P.types.size) ->
  DataW.TrodAll e P W 0 (fun _=>true) true A vs ds ps->(∀x∈ps,x.block<W.heap.size)->∀E:Nat->Bool,(∀x∈ps,E x.block=true)->DataW.TrodAll e P W' 0 E true A vs ds ps
 | [],[],[],_,_,h,_,_,_=>h
 | t::A,v::vs,d::ds,ps,ht,⟨p,q,h1,h2,he⟩,hlt,E,hs=>by
  subst he;have h0:=ht t (by simp);exact⟨p,q,WideElems.Trod_stays I h0.1 h0.2 h1 (fun x F=>J.same (hlt x (by grind))) (fun x F=>hs x (by grind)),
   FN I J (fun t O=>ht t (by grind)) h2 (fun x F=>hlt x (by grind)) E (fun x F=>hs x (by grind)),rfl⟩
theorem K8{t:TypeId}{fs:Array Field}{α:Type}{enc:α->List AV}{b:Nat->α->Prop}{r:Reach}{J:Nat}{v:Value}{d:DataW H}{U:List MemPlace}(T:P.underlying t=some (.struct fs))
  (I:Rd e (BK H) P W t enc b) (E:Value.okWide P W r J t v) (X:DataW.Trod e P W 0 (fun _=>true) true t v d U):∃x:α,rep (Sw W) W (.agg (enc x)) v/\∀n,BK H d<=n->b n x:=by
 obtain⟨cs,rfl,_⟩:=okWide_struct T E;obtain⟨A,h⟩:=X;obtain⟨x,⟨h1,O⟩,F⟩:=I A _ _ h;refine⟨x,?_,F⟩;simp only[rep];exact⟨cs.toList,by simp,h1,O⟩
theorem aeQ{t F:TypeId}{α:Type}{enc:α->List AV}{b:Nat->List α->Prop}{r:Reach}{J:Nat}{v:Value}{d:DataW H}{T:List MemPlace}(O:P.underlying t=some (.slice F))
  (I:Rd e (BK H) P W t (fun l:List α=>[.sl (l.map enc)]) b) (E:Value.okWide P W r J t v) (U:DataW.Trod e P W 0 (fun _=>true) true t v d T):∃x:List α,rep (Sw W) W (.sl (x.map enc)) v/\∀n,BK H d<=n->b n x:=by
 obtain⟨a,len,cap,rfl⟩:=okWide_slice O E;obtain⟨A,h⟩:=U;obtain⟨x,⟨h1,Y⟩,X⟩:=I A _ _ h
 grind[bR,Value.cells]
theorem adU{fn:Func}{s:ChangeSpec}{args:Array Value}{ds gs:List (DataW H)}{before:List MemPlace}(hl:laidOutB P=true)(ae:∀t∈fn.params.toList,P.readableRec t=true/\t<P.types.size)
  (E:s.vars=[]) {Z:TypeId} (X:P.underlying Z=some .bool) (J:fn.resultTypes=#[Z]) (T:DataW.Whole e P fn.params.toList s.vars false W args.toList ds gs before)
  (I:(s.fn H (ds++gs)).results=[.lit (.bool true)]) (O:(s.fn H (ds++gs)).args=ds) (ab:(s.fn H (ds++gs)).vars=[]) (hb:Below W.heap.size W W'):
  s.post e P fn false true false false W args (.bool true) W':=by
 have af:=T.lt;have U:=T;obtain⟨p,q,hA,hV,rfl,ac,ag⟩:=T;rw[E]at hV;obtain⟨rfl,rfl⟩:=trodVars_none hV;have hk:W.keptBut W' (·∈p++[]):=hb.frame _;have F:∀x∈p++[],(fun b=>decide (b<W.heap.size)) x.block=true:=fun x Y=>by grind
 have r1:∀(b:Nat) (A:Nat->Bool) (hd:Bool),DataW.TrodAll e P W' b A hd fn.resultTypes.toList ((Value.bool true).resultList fn.resultTypes.size) (s.fn H (ds++[])).results []:=fun b A hd=>by rw[J,I];exact trodAll_cons_mk (shut_bool X _) trodAll_mk0
 have r2:∀A:Nat->Bool,(∀x∈p++[],A x.block=true)->DataW.TrodAll e P W' 0 A true fn.params.toList args.toList (s.fn H (ds++[])).args p:=fun A aa=>by grind[FN]
 have r3:∀A:Nat->Bool,DataW.TrodVars e P W' A s.vars (s.fn H (ds++[])).vars []:=fun A=>by grind[DataW.TrodVars]
 refine⟨ds,[],p++[],[],p,[],U,r1 _ _ _,r2 _ F,r3 _,World.keptBut_mono (fun x Y=>⟨Y,.inr (by grind)⟩) hk,fun _=>?_⟩
 grind
end
end Go.Proofs.YtkfhgjihlbilpaaGreatDoor
end
section
namespace Go.Proofs.YtkfhgjihlbilpaaGreatDoor
def cH(n N:Int):Bool:=decide (n<0)||decide (n>=N)
end Go.Proofs.YtkfhgjihlbilpaaGreatDoor
namespace Go.Proofs.YtkfhgjihlbilpaaGreatDoor.Mv
open Go.Aw Go.Aw.D Go.Proofs Ty
theorem bS{H:aM}{k:IntKind}{a b:Int}(h:a=b):Conv H (.v (.int k a)) (.v (.int k b)):=h▸.refl _
theorem bU{H:aM}{a b:Bool}(h:a=b):Conv H (.v (.bool a)) (.v (.bool b)):=h▸.refl _
abbrev gV(l:List Int):Row:=⟨3,1,l.map aP⟩
def apW{n:Int}(h:0<=n/\n<18446744073709551616):IntKind.u64.wrap n=n:=by have e:IntKind.u64.wrap n=n%18446744073709551616:=rfl;omega
def wK{α:Type}{p q:α->Bool}{l:List α}(h:∀x∈l,p x=q x):l.any p=l.any q:=by grind
def aS{α:Type}{p:α->Prop}{l:List α}{k:Nat}{x:α}(A:l[k]?=some x)(E:p x)(h:∀x∈l.take k,p x):∀x∈l.take (k+1),p x:=by
 rw[aY A]
 grind
end Go.Proofs.YtkfhgjihlbilpaaGreatDoor.Mv
end
section
namespace Go.Proofs.YtkfhgjihlbilpaaGreatDoor.Sq
open Go.Proofs.Tryz
open Go.Aw Go.Aw.D Go.Proofs Ty
open Mv (bS bU aS)
def uQ(s i:Int):Bool:=decide (s>=0)&&decide (i>=0)&&decide (i<=62)&&((shV .shr .i64 s (IntKind.u64.wrap i)).tmod 2 == 1)
def D7(s i:Int):PC prog 229 [int s,int i] (boo (uQ s i)):=by refine pcd func229 rfl rfl ?_;simp only[go_sem];refine⟨fun _=>by decide,?_⟩;exact .refl _
def WL(s n:Int):Int:=if uQ s n=true then s else IntKind.i64.wrap (s+shV .shl .i64 1 (IntKind.u64.wrap n))
def CV(v:Visit):Bool:=decide (v.order<0)||decide (v.order>62)
def IJ(l:List Visit):Int:=l.foldl (fun s v=>WL s v.order) 0
def LU{l:List Visit}{k:Nat}{v:Visit}(h:l[k]?=some v):IJ (l.take (k+1))=WL (IJ (l.take k)) v.order:=by simp_all[IJ,aY]
def cY(l:List Visit):Int×Int:=if l.any CV=true then(0,2)else(IJ l,0)
def K7(r:Route)(hr:r.y7.length<=1048576):PC prog 166 [.agg (bJ r)] (.tup [int (cY r.y7).1,int (cY r.y7).2]):=by
 refine pcd func166 rfl rfl ?_;simp only[go_sem];refine⟨fun ρ _=>∃k:Nat,k<=r.y7.length/\ρ 1=.rp (bJ r) 0/\ρ 5=int k/\ρ 4=int (IJ (r.y7.take k))/\∀v∈r.y7.take k,CV v=false,fun ρ _=>r.y7.length-aT (ρ 5),⟨0,Xaa _,rfl,rfl,rfl,by simp⟩,?_⟩;rintro ρ H ⟨k,hk,h1,J,E,X⟩;simp only[go_sem,h1,J];refine aA (fun A=>?_) (fun F=>?_)
 ·have A:=aX A;obtain⟨v,O⟩:=aK A;have Z:=inB A;simp only[go_sem,h1,J,aC O,Z];apply aA <;> intro Y
  ·simp only[go_sem];have:cY r.y7=(0,2):=by unfold cY;rw[if_pos (Xaj.2 ⟨v,Xab O,Y⟩)]
   rw[this];exact .refl _
  simp only[go_sem,E];refine aL (D7 _ _) ?_;simp only[go_sem];refine iO (fun I _=>I 1=.rp (bJ r) 0/\I 5=int k/\I 4=int (IJ (r.y7.take (k+1)))) ?_ fun K U _ _=>aA (fun T=>?_) (fun T=>?_)
  ·clear h1 J E;rintro ρ H ⟨h1,J,E⟩;simp only[go_sem,h1,J,E,aQ k];exact⟨⟨k+1,A,rfl,rfl,aS (p:=fun v=>CV v=false) O Y X⟩,msr A⟩
  ·simp only[go_sem,E];refine U _ _ ⟨h1,J,?_⟩;simp only[go_sem];simp_all[LU,WL]
  ·simp only[go_sem];refine U _ _ ⟨h1,J,?_⟩;simp only[go_sem,E];simp_all[LU,WL]
 ·have F:=aZ hk F;subst F;simp only[go_sem,E];rw[Xad]at X E |-;have:cY r.y7=(IJ r.y7,0):=by simp_all[cY]
  rw[this];exact .refl _
def yS(v u:Visit):Bool:=u.order == v.order&&(u.drop == v.drop&&true)
def vV{α:Type}(p:α->Bool):List α->Int->Int
 | [],_=> -1
 | x::r,n=>if p x=true then n else vV p r (n+1)
theorem nS{α:Type}{p:α->Bool}{l:List α}{k:Nat}{x:α}(h:∀y∈l.take k,p y=false)(E:l[k]?=some x)(A:p x=true):∀n,vV p l n=n+k:=by
 induction l generalizing k with
 | nil=>grind
 | cons a r ih=>
  intro n;cases k with
  | zero=>simp_all[vV]
  | succ k=>
   have h0:=h a (by simp);simp only[vV]
   grind
theorem mF{α:Type}{p:α->Bool}{l:List α}(h:∀y∈l,p y=false):∀n,vV p l n= -1:=by induction l<;>simp_all[vV]
def cD(l:List Visit)(v:Visit):Int:=vV (yS v) l 0
def sU(l:List Visit)(v:Visit)(Y:l.length<=1048576):PC prog 232 [.sl (l.map aN),.agg (aN v)] (int (cD l v)):=by
 refine pcd func232 rfl rfl ?_;simp only[go_sem];refine⟨fun ρ _=>∃k:Nat,k<=l.length/\ρ 0=.sl (l.map aN)/\ρ 3=.rp (aN v) 0/\ρ 5=int k/\∀u∈l.take k,yS v u=false,fun ρ _=>l.length-aT (ρ 5),⟨0,Xaa _,rfl,rfl,rfl,by simp⟩,?_⟩;rintro ρ H ⟨k,X,h0,O,F,J⟩;simp only[go_sem,h0,F];refine aA (fun A=>?_) (fun E=>?_)
 ·have A:=aX A;obtain⟨u,I⟩:=aK A;have U:=inB A;simp only[go_sem];refine dC ?_;simp only[go_sem,h0,O,F,aC I,U];apply aA <;> intro T
  ·simp only[go_sem,F];exact bS (by rw[cD,nS J I T];omega)
  ·simp only[go_sem,h0,O,F,aQ k];exact⟨⟨k+1,A,rfl,aS (p:=fun u=>yS v u=false) I T J⟩,msr A⟩
 ·have E:=aZ X E;subst E;rw[Xad]at J;simp only[go_sem]
  grind[bS,cD,mF]
def jP(l s:List Visit):Bool:=s.all fun v=> !decide (cD l v<0)
def FA(l s:List Visit)(T:l.length<=1048576)(Y:s.length<=1048576):PC prog 291 [.sl (l.map aN),.sl (s.map aN)] (boo (jP l s)):=by
 refine pcd func291 rfl rfl ?_;simp only[go_sem];refine⟨fun ρ _=>∃k:Nat,k<=s.length/\ρ 0=.sl (l.map aN)/\ρ 1=.sl (s.map aN)/\ρ 5=int k/\∀u∈s.take k,decide (cD l u<0)=false,fun ρ _=>s.length-aT (ρ 5),⟨0,Xaa _,rfl,rfl,rfl,by simp⟩,?_⟩;rintro ρ H ⟨k,U,h0,h1,F,J⟩;simp only[go_sem,h1,F];refine aA (fun A=>?_) (fun E=>?_)
 ·have A:=aX A;obtain⟨u,I⟩:=aK A;have O:=inB A;simp only[go_sem,h0,h1,F,aC I,O];refine aL (sU l u T) ?_;simp only[go_sem];apply aA <;> intro X
  ·simp only[go_sem]
   grind[bU,jP]
  ·simp only[go_sem,h0,h1,F,aQ k];exact⟨⟨k+1,A,rfl,aS (p:=fun u=>decide (cD l u<0)=false) I X J⟩,msr A⟩
 ·have E:=aZ U E;subst E;rw[Xad]at J;simp only[go_sem]
  grind[bU,jP]
def dL(o:Order)(i:Int):List Visit:=(if(o.pick.place != -1)=true then[⟨i,false⟩]else[])++(if(o.drop.place != -1)=true then[⟨i,true⟩]else[])
def Qm(o:Order)(i:Int):(dL o i).length<=2:=by grind[dL]
def Me(x:Instance)(i:Int)(o:Order)(J:0<=i/\i<(x.y5.length:Int))(F:x.y5[i.toNat]?=some o):
  PC prog 231 [.agg (aD x),int i] (.sl ((dL o i).map aN)):=by
 have A:0<=i/\i<(x.y5.length:Int):=J;refine pcb (fun t=>t == 5) func231 rfl rfl ?_;simp only[go_sem];refine aH fun j U=>?_
 simp only[go_sem,aC F,A];apply aA <;> intro h1
 ·simp only[go_sem];refine aU (aB _ _ _) ⟨rfl,rfl⟩ ⟨rfl,trivial⟩ (by simp) (fun j' T=>?_);simp only[go_sem,aC F,A];apply aA <;> intro O
  ·simp only[go_sem];refine aU (aB _ _ _) ⟨rfl,rfl⟩ ⟨rfl,trivial⟩ (by simp) (fun I E=>?_);simp only[go_sem];have e:dL o i=[⟨i,false⟩,⟨i,true⟩]:=by simp_all[dL]
   rw[e];exact .row _ _ _ (aB _ _ _) (ConvE.refl _)
  ·simp only[go_sem];have e:dL o i=[⟨i,false⟩]:=by simp_all[dL]
   rw[e];exact .row _ _ _ (aB _ _ _) (ConvE.refl _)
 ·simp only[go_sem,aC F,A];apply aA <;> intro O
  ·simp only[go_sem];refine aU (aB _ _ _) ⟨rfl,rfl⟩ ⟨rfl,trivial⟩ (by simp) (fun I E=>?_);simp only[go_sem];have e:dL o i=[⟨i,true⟩]:=by simp_all[dL]
   rw[e];exact .row _ _ _ (aB _ _ _) (ConvE.refl _)
  ·simp only[go_sem];have e:dL o i=[]:=by simp_all[dL]
   rw[e];exact .row _ _ _ (aB _ _ _) (ConvE.refl _)
def Dy(x:Instance)(s:Int):Bool:=x.apart.all fun q=> !(uQ s q.a&&uQ s q.b)
def afM(x:Instance)(s:Int)(Y:x.apart.length<=1048576):PC prog 336 [.agg (aD x),int s] (boo (Dy x s)):=by
 refine pcd func336 rfl rfl ?_;simp only[go_sem];refine⟨fun ρ _=>∃k:Nat,k<=x.apart.length/\ρ 1=int s/\ρ 2=.rp (aD x) 0/\ρ 5=int k/\∀q∈x.apart.take k,(uQ s q.a&&uQ s q.b)=false,fun ρ _=>x.apart.length-aT (ρ 5),⟨0,Xaa _,rfl,rfl,rfl,by simp⟩,?_⟩;rintro ρ H ⟨k,U,h1,F,I,T⟩;simp only[go_sem,F,I];refine aA (fun A=>?_) (fun E=>?_)
 ·have A:=aX A;obtain⟨q,J⟩:=aK A;have O:=inB A;simp only[go_sem,h1,F,I,aC J,O];refine⟨by decide,PC.use (D7 s q.a) ?_⟩;simp only[go_sem,h1,F,I,aC J,O];refine⟨fun _=>by decide,_,fun _=>(D7 s q.b).q rfl,?_⟩;simp only[go_sem];apply aA <;> intro X
  ·simp only[go_sem]
   grind[bU,Dy]
  ·simp only[go_sem,h1,F,I,aQ k];exact⟨⟨k+1,A,rfl,aS (p:=fun q:Pair=>(uQ s q.a&&uQ s q.b)=false) J X T⟩,msr A⟩
 ·have E:=aZ U E;subst E;rw[Xad]at T;simp only[go_sem]
  grind[bU,Dy]
def pG(l vs:List Visit)(v:Visit):Bool:=decide (cD vs v<0)|| !jP l vs||((vs.length:Int) == 2&&decide (cD l (vs.getD 0 ⟨0,false⟩)>cD l (vs.getD 1 ⟨0,false⟩)))
def EB(x:Instance)(i:Int):List Visit:=match x.y5[i.toNat]? with|some o=>dL o i|none=>[]
def Av(x:Instance)(l:List Visit):Bool:=l.all fun v=> !pG l (EB x v.order) v
def Wl(x:Instance)(l:List Visit)(U:l.length<=1048576)(hi:∀v∈l,0<=v.order/\v.order<(x.y5.length:Int)):PC prog 335 [.agg (aD x),.sl (l.map aN)] (boo (Av x l)):=by
 refine pcd func335 rfl rfl ?_;simp only[go_sem];refine⟨fun ρ _=>∃k:Nat,k<=l.length/\ρ 1=.sl (l.map aN)/\ρ 2=.rp (aD x) 0/\ρ 5=int k/\∀v∈l.take k,pG l (EB x v.order) v=false,fun ρ _=>l.length-aT (ρ 5),⟨0,Xaa _,rfl,rfl,rfl,by simp⟩,?_⟩;rintro ρ H ⟨k,hk,h1,h2,T,hz⟩;simp only[go_sem,h1,T];refine aA (fun A=>?_) (fun F=>?_)
 ·have A:=aX A;obtain⟨v,O⟩:=aK A;have Z:=inB A;have X:=hi v (Xab O);obtain⟨o,ho⟩:=aK (show v.order.toNat<x.y5.length by omega);have ev:EB x v.order=dL o v.order:=by grind[EB]
  have J:=Qm o v.order;simp only[go_sem];refine jK [(0,true),(1,true),(2,false),(3,false),(4,false),(5,false),(6,false),(7,false)] (by kernel_rfl) ?_;simp only[go_sem,h1,h2,T,aC O,Z];refine aL (Me x v.order o X ho) ?_;simp only[go_sem];rw[<-ev]at J |-;generalize Y:EB x v.order=vs at J;refine jK [(0,true),(1,true),(2,false),(3,false),(4,false),(5,false),(6,false),(7,false),(8,true),(9,false),(10,false),(11,false),(12,false),(13,false),(14,false),(15,false),(16,false),(17,false),(18,true),(19,true),(20,true),(21,true),(22,true),(23,true),(24,false),(25,false),(26,false),(27,false),(28,false),(29,false),(30,false)] (by kernel_rfl) ?_;simp only[go_sem,h1,T,aC O,Z];refine aL (sU vs v (by omega)) ?_;simp only[go_sem,h1,];refine⟨_,fun _=>(FA l vs U (by omega)).q rfl,?_⟩;simp only[go_sem,h1,];have I:((vs.length:Int) == 2)=true->∃a b,vs=[a,b]:=fun h=>by
   have h:vs.length=2:=by grind
   match vs,h with
   | [a,b],_=>simp
  refine⟨fun E=>by obtain⟨a,b,rfl⟩:=I E.2;exact⟨by simp,rfl⟩,fun E=>by obtain⟨a,b,rfl⟩:=I E.2;exact Xae _,int (cD l (vs.getD 0 ⟨0,false⟩)),fun E=>by obtain⟨a,b,rfl⟩:=I E.2;exact(sU l a U).q rfl,?_⟩;simp only[go_sem,h1,];refine⟨fun E=>by obtain⟨a,b,rfl⟩:=I E.2;exact⟨by simp,rfl⟩,fun E=>by obtain⟨a,b,rfl⟩:=I E.2;exact Xae _,int (cD l (vs.getD 1 ⟨0,false⟩)),fun E=>by obtain⟨a,b,rfl⟩:=I E.2;exact(sU l b U).q rfl,?_⟩;simp only[go_sem];apply aA <;> intro hb
  ·simp only[go_sem]
   grind[bU,Av,pG]
  ·simp only[go_sem,h1,h2,T,aQ k];exact⟨⟨k+1,A,rfl,aS (p:=fun v=>pG l (EB x v.order) v=false) O (by rw[Y];exact hb) hz⟩,msr A⟩
 ·have F:=aZ hk F;subst F;rw[Xad]at hz;simp only[go_sem]
  grind[bU,Av]
def gA(l:List Visit)(j:Nat):Int:=(l.getD j ⟨0,false⟩).order
theorem jN{l:List Visit}{j:Nat}{v:Visit}(h:l[j]?=some v):gA l j=v.order:=by grind[gA]
def zF(l:List Visit)(a b:Int)(j k:Nat):Bool:=gA l j == a&&gA l k == b
def If(l:List Visit)(a b:Int):Bool:=(List.range l.length).any fun j=>(List.range j).any fun k=>zF l a b j k
def Ca(s:Int)(l:List Visit)(q:Pair):Bool:= !uQ s q.b||(uQ s q.a&& !If l q.a q.b)
def xL(x:Instance)(s:Int)(l:List Visit):Bool:=x.before.all (Ca s l)
theorem GB{x:Instance}{s:Int}{l:List Visit}{q:Pair}(A:q∈x.before)(h:Ca s l q=false):xL x s l=false:=by grind[xL]
def Xg(x:Instance)(s:Int)(l:List Visit)(hb:x.before.length<=1048576)(hl:l.length<=1048576):PC prog 337 [.agg (aD x),int s,.sl (l.map aN)] (boo (xL x s l)):=by
 refine pcd func337 rfl rfl ?_;simp only[go_sem];refine⟨fun ρ _=>∃i:Nat,i<=x.before.length/\ρ 1=int s/\ρ 2=.sl (l.map aN)/\ρ 3=.rp (aD x) 0/\ρ 7=int i/\∀q∈x.before.take i,Ca s l q=true,fun ρ _=>x.before.length-aT (ρ 7),⟨0,Xaa _,rfl,rfl,rfl,rfl,by simp⟩,?_⟩;rintro ρ H ⟨i,hi,h1,O,U,T,hz⟩;simp only[go_sem,U,T];refine aA (fun E=>?_) (fun aa=>?_)
 ·have E:=aX E;obtain⟨q,hq⟩:=aK E;have b1:=inB E;have ab:=Xab hq;simp only[go_sem,h1,U,T,aC hq,b1];refine⟨by decide,?_⟩;refine⟨by decide,?_⟩;refine aL (D7 s q.b) ?_;simp only[go_sem];apply aA <;> intro hn
  ·simp only[go_sem,h1,O,U,T,aQ i];have Z:Ca s l q=true:=by grind[Ca]
   exact⟨⟨i+1,E,rfl,aS (p:=fun q=>Ca s l q=true) hq Z hz⟩,msr E⟩
  simp only[go_sem,h1,];refine aL (D7 s q.a) ?_;simp only[go_sem];apply aA <;> intro hm
  ·simp only[go_sem]
   grind[bU,GB,Ca]
  simp only[go_sem];refine⟨fun ρ _=>∃j:Nat,j<=l.length/\ρ 1=int s/\ρ 2=.sl (l.map aN)/\ρ 3=.rp (aD x) 0/\ρ 7=int i/\ρ 8=int q.a/\ρ 9=int q.b/\ρ 10=int j/\∀c∈(List.range l.length).take j,(List.range c).any (fun k=>zF l q.a q.b c k)=false,fun ρ _=>l.length-aT (ρ 10),⟨0,Xaa _,h1,O,U,T,rfl,rfl,by rfl,by simp⟩,?_⟩;rintro ρ H ⟨j,hj,h1,O,U,T,h8,h9,F,hy⟩;simp only[go_sem,O,F];refine aA (fun A=>?_) (fun J=>?_)
  ·have A:=aX A;obtain⟨v,hv⟩:=aK A;have b2:=inB A;simp only[go_sem];refine⟨fun ρ _=>∃k:Nat,k<=j/\ρ 1=int s/\ρ 2=.sl (l.map aN)/\ρ 3=.rp (aD x) 0/\ρ 7=int i/\ρ 8=int q.a/\ρ 9=int q.b/\ρ 10=int j/\ρ 11=int k/\∀c∈(List.range j).take k,zF l q.a q.b j c=false,fun ρ _=>j-aT (ρ 11),⟨0,Xaa _,h1,O,U,T,h8,h9,F,by rfl,by simp⟩,?_⟩;rintro ρ H ⟨k,hk,h1,O,U,T,h8,h9,F,Y,hw⟩;simp only[go_sem,F,Y];refine aA (fun I=>?_) (fun X=>?_)
   ·have I:k<j:=by grind
    obtain⟨u,hu⟩:=aK (show k<l.length by omega);have b3:=inB (show k<l.length by omega);simp only[go_sem,O,h8,h9,F,Y,aC hv,aC hu,b2,b3];have hc:zF l q.a q.b j k=(v.order == q.a&&u.order == q.b):=by grind[zF,jN]
    rw[<-hc];apply aA <;> intro hb
    ·simp only[go_sem]
     grind[bU,GB,If,Ca]
    ·simp only[go_sem,h1,O,U,T,h8,h9,F,Y,aQ k];exact⟨⟨k+1,I,rfl,aS (p:=fun c=>zF l q.a q.b j c=false) (kM I) hb hw⟩,by grind[aJ]⟩
   ·have X:k=j:=by grind
    subst X;simp only[go_sem,h1,O,U,T,h8,h9,F,aQ k];refine⟨⟨k+1,A,rfl,aS (p:=fun c=>(List.range c).any (fun k=>zF l q.a q.b c k)=false) (kM A) ?_ hy⟩,by grind[aJ]⟩
    grind
  ·have J:=aZ hj J;subst J;simp only[go_sem,h1,O,U,T,aQ i];have ac:If l q.a q.b=false:=by grind[If]
   have Z:Ca s l q=true:=by grind[Ca]
   exact⟨⟨i+1,E,rfl,aS (p:=fun q=>Ca s l q=true) hq Z hz⟩,msr E⟩
 ·have aa:=aZ hi aa;subst aa;rw[Xad]at hz;simp only[go_sem]
  grind[bU,xL]
def yK(x:Instance)(i:Int):Bool:=match x.y5[i.toNat]? with|some o=>o.off|none=>false
def Da(l:List Visit)(i:Nat):Bool:=cD l (l.getD i ⟨0,false⟩) != (i:Int)
def fP(x:Instance)(l:List Visit):Int:=
 if(l.any fun v=>cH v.order x.y5.length)=true then 2
 else if((cY l).2 != 0||(l.length:Int) == 0)=true then 2
 else if(l.any fun v=>yK x v.order)=true then 9
 else if((List.range l.length).any (Da l))=true then 6
 else if(!Av x l)=true then 19
 else if(!Dy x (cY l).1)=true then 20
 else if(!xL x (cY l).1 l)=true then 21 else 0
def J9{α:Type}{p:α->Bool}{l:List α}(h:∀x∈l,p x=false):l.any p=false:=by grind
def Nf(x:Instance)(r:Route)(hl:r.y7.length<=1048576)(ha:x.apart.length<=1048576)(O:x.before.length<=1048576):
  PC prog 292 [.agg (aD x),.agg (bJ r)] (int (fP x r.y7)):=by
 refine pcd func292 rfl rfl ?_;simp only[go_sem];refine⟨fun ρ _=>∃k:Nat,k<=r.y7.length/\ρ 2=.rp (aD x) 0/\ρ 3=.rp (bJ r) 0/\ρ 5=.sl (r.y7.map aN)/\ρ 6=int k/\∀v∈r.y7.take k,cH v.order x.y5.length=false,fun ρ _=>r.y7.length-aT (ρ 6),⟨0,Xaa _,rfl,rfl,rfl,rfl,by simp⟩,?_⟩;rintro ρ H ⟨k,Y,I,h3,F,h6,hz⟩;simp only[go_sem,F,h6];refine aA (fun A=>?_) (fun E=>?_)
 ·have A:=aX A;obtain⟨v,J⟩:=aK A;have X:=inB A;simp only[go_sem];refine dC ?_;simp only[go_sem,I,F,h6,aC J,X];apply aA <;> intro O
  ·simp only[go_sem];exact bS (by unfold fP;rw[if_pos (Xaj.2 ⟨v,Xab J,O⟩)])
  ·simp only[go_sem,I,h3,F,h6,aQ k];exact⟨⟨k+1,A,rfl,aS (p:=fun v=>cH v.order x.y5.length=false) J (show cH v.order x.y5.length=false from O) hz⟩,msr A⟩
 have E:=aZ Y E;subst E;rw[Xad]at hz;have c1:¬(r.y7.any fun v=>cH v.order x.y5.length)=true:=by grind
 have aa:∀v∈r.y7,0<=v.order/\v.order<(x.y5.length:Int):=fun v J=>by grind[cH]
 simp only[go_sem,h3,nD];refine aL (K7 r hl) ?_;simp only[go_sem,F];apply aA <;> intro ae
 ·simp only[go_sem];simp_all[bS,fP]
 have c2:¬((cY r.y7).2 != 0||(r.y7.length:Int) == 0)=true:=by grind
 generalize hS:(cY r.y7).1=s;simp only[go_sem];refine⟨fun ρ _=>∃k:Nat,k<=r.y7.length/\ρ 2=.rp (aD x) 0/\ρ 5=.sl (r.y7.map aN)/\ρ 7=int s/\ρ 9=int k/\∀v∈r.y7.take k,yK x v.order=false,fun ρ _=>r.y7.length-aT (ρ 9),⟨0,Xaa _,I,F,rfl,by rfl,by simp⟩,?_⟩;rintro ρ H ⟨k,Y,I,F,U,h9,Z⟩;simp only[go_sem,F,h9];refine aA (fun A=>?_) (fun E=>?_)
 ·have A:=aX A;obtain⟨v,J⟩:=aK A;have X:=inB A;have ab:=aa v (Xab J);obtain⟨o,ho⟩:=aK (show v.order.toNat<x.y5.length by omega);have eo:yK x v.order=o.off:=by grind[yK]
  simp only[go_sem];refine dC ?_;simp only[go_sem,I,F,h9,aC J,X,aC ho,ab];apply aA <;> intro O
  ·simp only[go_sem];exact bS (by unfold fP;rw[if_neg c1,if_neg c2,if_pos (Xaj.2 ⟨v,Xab J,eo.trans O⟩)])
  ·simp only[go_sem,I,F,U,h9,aQ k];exact⟨⟨k+1,A,rfl,aS (p:=fun v=>yK x v.order=false) J (eo.trans O) Z⟩,msr A⟩
 have E:=aZ Y E;subst E;rw[Xad]at Z;have c3:¬(r.y7.any fun v=>yK x v.order)=true:=by simp_all
 simp only[go_sem];refine⟨fun ρ _=>∃k:Nat,k<=r.y7.length/\ρ 2=.rp (aD x) 0/\ρ 5=.sl (r.y7.map aN)/\ρ 7=int s/\ρ 10=int k/\∀c∈(List.range r.y7.length).take k,Da r.y7 c=false,fun ρ _=>r.y7.length-aT (ρ 10),⟨0,Xaa _,I,F,U,by rfl,by simp⟩,?_⟩;rintro ρ H ⟨k,Y,I,F,U,T,ac⟩;simp only[go_sem,F,T];refine aA (fun A=>?_) (fun E=>?_)
 ·have A:=aX A;obtain⟨v,J⟩:=aK A;have X:=inB A;have ed:Da r.y7 k=(cD r.y7 v != (k:Int)):=by grind[Da]
  simp only[go_sem,F,T,aC J,X];refine aL (sU r.y7 v hl) ?_;simp only[go_sem,T];apply aA <;> intro O
  ·simp only[go_sem];exact bS (by unfold fP;rw[if_neg c1,if_neg c2,if_neg c3,if_pos (Xaj.2 ⟨k,Xan.2 A,ed.trans O⟩)])
  ·simp only[go_sem,I,F,U,T,aQ k];exact⟨⟨k+1,A,rfl,aS (p:=fun c=>Da r.y7 c=false) (kM A) (ed.trans O) ac⟩,msr A⟩
 have E:=aZ Y E;subst E;have c4:¬((List.range r.y7.length).any (Da r.y7))=true:=by simp_all
 simp only[go_sem,I,F];refine aL (Wl x r.y7 hl aa) ?_;simp only[go_sem];apply aA <;> intro af
 ·simp only[go_sem];simp_all[bS,fP,if_neg]
 simp only[go_sem,I,U];refine aL (afM x s ha) ?_;simp only[go_sem];apply aA <;> intro ag
 ·simp only[go_sem];simp_all[bS,fP,if_neg]
 simp only[go_sem,I,F,U];refine aL (Xg x s r.y7 O hl) ?_;simp only[go_sem];apply aA <;> intro ah
 ·simp only[go_sem];simp_all[bS,fP,if_neg]
 ·simp only[go_sem];simp_all[bS,fP,if_neg]
def jF(a c:List Int):Bool:=((a.length:Int) == (c.length:Int))&&(List.range a.length).all fun i=> !decide (a.getD i 0>c.getD i 0)
def aoA(a c:List Int)(hl:a.length<=1048576):PC prog 339 [.sl (a.map aP),.sl (c.map aP)] (boo (jF a c)):=by
 refine pcd func339 rfl rfl ?_;simp only[go_sem];apply aA <;> intro I
 ·simp only[go_sem]
  grind[bU,jF]
 have he:a.length=c.length:=by grind
 have J:jF a c=(List.range a.length).all fun i=> !decide (a.getD i 0>c.getD i 0):=by grind[jF]
 rw[J];simp only[go_sem];refine⟨fun ρ _=>∃k:Nat,k<=a.length/\ρ 0=.sl (a.map aP)/\ρ 1=.sl (c.map aP)/\ρ 5=int k/\∀i∈(List.range a.length).take k,decide (a.getD i 0>c.getD i 0)=false,fun ρ _=>a.length-aT (ρ 5),⟨0,Xaa _,rfl,rfl,rfl,by simp⟩,?_⟩;rintro ρ H ⟨k,hk,h0,h1,F,Y⟩;simp only[go_sem,h0,F];refine aA (fun A=>?_) (fun E=>?_)
 ·have A:=aX A;obtain⟨u,X⟩:=aK A;obtain⟨v,Z⟩:=aK (show k<c.length by omega);have T:=inB A;have O:=inB (show k<c.length by omega);have U:decide (a.getD k 0>c.getD k 0)=decide (u>v):=by grind
  simp only[go_sem];refine dC ?_;simp only[go_sem,h0,h1,F,aC X,aC Z,T,O];apply aA <;> intro I
  ·simp only[go_sem]
   grind[bU]
  ·simp only[go_sem,h0,h1,F,aQ k];exact⟨⟨k+1,A,rfl,aS (p:=fun i=>decide (a.getD i 0>c.getD i 0)=false) (kM A) (U.trans I) Y⟩,msr A⟩
 ·have E:=aZ hk E;subst E;simp only[go_sem]
  grind[bU]
def gM(x:Instance):Int:=match x.types[0]? with|some t=>t.cap.length|none=>0
def aoI(x:Instance):PC prog 393 [.agg (aD x)] (int (gM x)):=by
 refine pcd func393 rfl rfl ?_;simp only[go_sem];apply aA <;> intro F
 ·simp only[go_sem]
  grind[bS,gM]
 ·have A:0<x.types.length:=by grind
  obtain⟨t,E⟩:=aK A;simp only[go_sem,aC E]
  grind[bS,gM]
def fO(l:List Int):List AV:=[.sl (l.map aP)]
def kB(ll:List (List Int))(d:Int):Bool:= !(decide (d<0)||decide (d>3))&&ll.all fun l=> !((l.length:Int) != d)
def Kc(ll:List (List Int))(d:Int)(Y:ll.length<=1048576):PC prog 290 [.sl (ll.map fO),int d] (boo (kB ll d)):=by
 refine pcd func290 rfl rfl ?_;simp only[go_sem];apply aA <;> intro O
 ·simp only[go_sem]
  grind[bU,kB]
 have T:kB ll d=ll.all fun l=> !((l.length:Int) != d):=by grind[kB]
 rw[T];simp only[go_sem];refine⟨fun ρ _=>∃k:Nat,k<=ll.length/\ρ 0=.sl (ll.map fO)/\ρ 1=int d/\ρ 5=int k/\∀l∈ll.take k,((l.length:Int) != d)=false,fun ρ _=>ll.length-aT (ρ 5),⟨0,Xaa _,rfl,rfl,rfl,by simp⟩,?_⟩;rintro ρ H ⟨k,X,h0,h1,F,J⟩;simp only[go_sem,h0,F];refine aA (fun A=>?_) (fun E=>?_)
 ·have A:=aX A;obtain⟨u,I⟩:=aK A;have U:=inB A;simp only[go_sem,h0,h1,F,aC I,U,fO];apply aA <;> intro O
  ·simp only[go_sem]
   grind[bU]
  ·simp only[go_sem,h0,h1,F,aQ k];exact⟨⟨k+1,A,rfl,aS (p:=fun l:List Int=>((l.length:Int) != d)=false) I O J⟩,msr A⟩
 ·have E:=aZ X E;subst E;rw[Xad]at J;simp only[go_sem]
  grind[bU]
def lW(ll:List (List Int))(i:Nat):Int:=ll.foldl (fun s l=>IntKind.i64.wrap (s+l.getD i 0)) 0
def A1{ll:List (List Int)}{k i:Nat}{l:List Int}(h:ll[k]?=some l):lW (ll.take (k+1)) i=IntKind.i64.wrap (lW (ll.take k) i+l.getD i 0):=by simp_all[lW,aY]
def xK(ll:List (List Int))(d:Int):List Int×Int:=if kB ll d=true then((List.range d.toNat).map (lW ll),0)else([],2)
def DU{ll:List (List Int)}{d:Int}(h:kB ll d=true):0<=d/\d<=3/\∀l∈ll,(l.length:Int)=d:=by simp_all[kB]
def awW(H0:aM)(K:AV->aM->Prop)(I:Nat)(ll:List (List Int))(d:Int)(hl:ll.length<=1048576)(X:H0 I=some (⟨48,1,ll.map fO⟩:Row))
  (hK:kB ll d=false->K (.tup [.sl [],int 2]) H0)
  (ae:kB ll d=true->∀j H,H j=some (⟨3,1,((List.range d.toNat).map (lW ll)).map aP⟩:Row)->K (.tup [.os j,int 0]) H):
  bQ prog 228 [.os I,int d] H0 K:=by
 refine bQ.body (c:=f228.body.getD .skip) (fun t=>t == 6) mixed func228 rfl (by kernel_rfl) ?_;unfold f228;simp only[Xbb];simp only[go_sem];refine eN.use ⟨[.sl (ll.map fO),int d],.cons _ _ _ _ (.row _ _ _ X (ConvE.refl _)) (ConvL.refl _),Kc ll d hl,rfl⟩ ?_;simp only[go_sem];apply aA <;> intro hb
 ·simp only[go_sem]
  grind
 have ab:kB ll d=true:=by grind
 obtain⟨d0,d3,hd⟩:=DU ab;simp only[go_sem];refine aH fun j J=>?_
 have E:I≠j:=aV X J;simp only[go_sem];refine⟨fun ρ H=>∃i:Nat,i<=d.toNat/\ρ 0=.os I/\ρ 1=int d/\ρ 7=int i/\H I=some (⟨48,1,ll.map fO⟩:Row)/\∃j,I≠j/\ρ 6=.os j/\H j=some (⟨3,1,((List.range i).map (lW ll)).map aP⟩:Row),fun ρ _=>d.toNat-aT (ρ 7),⟨0,Xaa _,rfl,rfl,rfl,by grind[aF],j,E,rfl,aB _ _ _⟩,?_⟩;clear J E;rintro ρ H ⟨i,hi,h0,h1,T,R,j,E,U,J⟩;simp only[go_sem,h1,T];refine aA (fun O=>?_) (fun Z=>?_)
 ·have O:i<d.toNat:=by grind
  simp only[go_sem];refine⟨fun ρ H=>∃k:Nat,k<=ll.length/\ρ 0=.os I/\ρ 1=int d/\ρ 6=.os j/\ρ 7=int i/\ρ 8=int (lW (ll.take k) i)/\ρ 9=int k/\H I=some (⟨48,1,ll.map fO⟩:Row)/\H j=some (⟨3,1,((List.range i).map (lW ll)).map aP⟩:Row),fun ρ _=>ll.length-aT (ρ 9),⟨0,Xaa _,by simp only[go_sem,h0],by simp only[go_sem,h1],by simp only[go_sem,U],by simp only[go_sem,T],by rfl,by rfl,R,J⟩,?_⟩;clear h0 h1 T U J R;rintro ρ H ⟨k,hk,h0,h1,U,T,h8,h9,R,J⟩;simp only[go_sem,h0,h9,R];refine aA (fun A=>?_) (fun F=>?_)
  ·have A:k<ll.length:=by grind
   obtain⟨u,hu⟩:=aK A;have b1:=inB A;have ac:=hd u (Xab hu);obtain⟨v,hv⟩:=aK (show i<u.length by omega);have b2:=inB (show i<u.length by omega);have aa:u.getD i 0=v:=by grind
   simp only[go_sem,h0,h1,U,T,h8,h9,R,aC hu,b1,fO,aC hv,b2,aQ k];refine⟨A,⟨k+1,A,by rw[A1 hu,aa],rfl,J⟩,by grind[aJ]⟩
  ·have F:k=ll.length:=by grind
   subst F;rw[Xad]at h8;simp only[go_sem,U,h8];refine aU J ⟨rfl,rfl⟩ ⟨rfl,trivial⟩ (by grind) (fun j' Y=>?_);simp only[go_sem,h0,h1,T,aQ i];refine⟨⟨i+1,O,rfl,cM R E.symm Y,j',aV R Y,rfl,?_⟩,msr O⟩;rw[Xas,Xaq,Xaq];exact aB _ _ _
 ·have Z:i=d.toNat:=by grind
  subst Z;simp only[go_sem,U]
  grind
end Go.Proofs.YtkfhgjihlbilpaaGreatDoor.Sq
end
