import Derived.Test.YtpagaknmdfgfkaaGreatDoorRows
import Derived.Carry
import Derived.OpenShut
import Derived.JoinedCond
import Derived.WalkKit
import Derived.ProofKit
import Derived.WideKeyArgs
import Derived.Test.YtpagaknmdfgfkaaGreatDoorPn04
set_option linter.unusedSimpArgs false
set_option linter.unusedVariables false
set_option linter.defProp false
set_option maxRecDepth 100000
section
namespace Go.Proofs.YtpagaknmdfgfkaaGreatDoor
open Go.Proofs.Tryz
open Go.Aw Go.Aw.D Go.Proofs Ty
def inR(n lo hi:Int):Bool:=decide (n>=lo)&&decide (n<=hi)
def rL(n lo E:Int):PC prog 58 [int n,int lo,int E] (boo (inR n lo E)):=by refine pcd func58 rfl rfl ?_;simp only[go_sem];exact .refl _
def Gb(n lo E:Int):PC prog 108 [int n,int lo,int E] (boo (inR n lo E)):=by refine pcd func108 rfl rfl ?_;simp only[go_sem];exact .refl _
def ahQ(n:Int):PC prog 104 [int n] (boo (inR n 0 4096)):=by refine pcd func104 rfl rfl ?_;simp only[go_sem];exact .refl _
def FO(c:Int):Bool:=decide (c>=48)&&decide (c<=57)
def HZ(c:Int):PC prog 169 [.v (.int .u8 c)] (boo (FO c)):=by refine pcd func169 rfl rfl ?_;simp only[go_sem];exact .refl _
def EL(c:Int):Bool:=decide (c>=97)&&decide (c<=122)||decide (c>=65)&&decide (c<=90)||c == 95
def E9(c:Int):PC prog 170 [.v (.int .u8 c)] (boo (EL c)):=by refine pcd func170 rfl rfl ?_;simp only[go_sem];exact .refl _
def kW(s:Stop):Bool:=s.place == -1&&s.start == 0&&s.close == 0&&s.service == 0
def Pi(s:Stop):Bool:=decide (s.place<0)||decide (s.start<0)||decide (s.start>s.close)||decide (s.close>4096)||decide (s.service<0)||decide (s.service>4096)
def gM(s:Stop):Int:=if kW s then 0 else if Pi s then 2 else 0
def SQ(s:Stop):PC prog 109 [.agg (eJ s)] (int (gM s)):=by
 refine pcd func109 rfl rfl ?_;simp only[go_sem];apply aA <;> intro h
 ·simp only[go_sem];have:gM s=0:=if_pos h;rw[this];exact .refl _
 ·simp only[go_sem];apply aA <;> intro E
  ·simp only[go_sem];have:gM s=2:=by unfold gM;rw[if_neg (by simp[kW,h])];exact if_pos E
   rw[this];exact .refl _
  ·simp only[go_sem];have:gM s=0:=by unfold gM;rw[if_neg (by simp[kW,h]),if_neg (by simp only[Pi,E];simp)]
   rw[this];exact .refl _
def J8(n:Int):ByteArray:=strOfNums [IntKind.u8.wrap (IntKind.i64.wrap (48+n))]
def lH(n:Nat):ByteArray:=if n<10 then J8 n else lH (n/10)++J8 (n%10:Nat)
def F4(x:Int):(strOfNums [x]).size=1:=by simp[strOfNums];rfl
def Gy(n:Int):(J8 n).size=1:=F4 _
def CS{n:Nat}(h:10<=n):lH n=lH (n/10)++J8 (n%10:Nat):=by rw[lH,if_neg (by omega)]
def yP{n:Nat}(h:n<10):lH n=J8 n:=by rw[lH,if_pos h]
def qB(n:Nat):(lH n).size<=n+1:=by
 induction n using Nat.strongRecOn with
 | ind n ih=>
  rcases Xay n 10 with h|h
  ·rw[yP h,Gy];omega
  ·rw[CS h,ByteArray.size_append,Gy];have:=ih (n/10) (by omega);omega
def akB(m:Nat):(m:Int).tmod 10=((m%10:Nat):Int):=by rw[Xcs (by omega)];rfl
def afN(m:Nat):(m:Int).tdiv 10=((m/10:Nat):Int):=by rw[Xce (by omega)];rfl
def I8{k:Nat}(h:k<=4611686018427387904):IntKind.i64.wrap (k:Int)=(k:Int):=aU (by omega)
def AF:IntKind.i64.max=9223372036854775807:=by decide
def anC(n:Nat)(T:n<=4611686018427387904):PC prog 110 [int n] (str (lH n)):=by
 refine pcd func110 rfl rfl ?_;simp only[go_sem];refine⟨fun ρ _=>∃(m:Nat) (s:ByteArray),ρ 0=int m/\ρ 3=str s/\lH n=lH m++s/\s.size+m<=n,
  fun ρ _=>aR (ρ 0),⟨n,ByteArray.empty,rfl,rfl,by simp,by simp⟩,?_⟩
 rintro ρ H ⟨k,s,h0,I,J,O⟩;simp only[go_sem,h0];refine aA (fun F=>?_) (fun E=>?_)
 ·have F : 10 <= k := by
   have:(10:Int)<=k:=by simpa using F
   omega
  simp only[go_sem,h0,I,afN,akB,I8 (show k/10<=4611686018427387904 by omega),aL];refine⟨by omega,?_,by omega,⟨k/10,_,rfl,rfl,?_,?_⟩,by omega⟩
  ·rw[F4,AF];omega
  ·rw[J,CS F,ByteArray.append_assoc];rfl
  ·rw[ByteArray.size_append,F4];omega
 ·have E : k < 10 := by
   have:¬(10:Int)<=k:=by simpa using E
   omega
  simp only[go_sem,h0,I];refine⟨by rw[F4,AF];omega,?_⟩;rw[J,yP E];exact .refl _
def afH:AV->Nat
 | .v (.bool true)=>1
 | _=>0
def vF(n:Nat)(hn:n<=4611686018427387904):PC prog 60 [int n] (str (lH n)):=by
 refine pcd func60 rfl rfl ?_;simp only[go_sem];refine⟨fun ρ _=>∃(b:Bool) (m:Nat) (s:ByteArray),ρ 0=int n/\ρ 5=boo b/\ρ 4=int m/\ρ 3=str s/\(b=true->lH n=lH m++s/\s.size+m<=n)/\(b=false->lH n=s),
  fun ρ _=>aR (ρ 4)+afH (ρ 5),⟨true,n,ByteArray.empty,rfl,rfl,rfl,rfl,fun _=>by simp,by simp⟩,?_⟩
 rintro ρ H ⟨b,k,s,h0,T,I,J,Y,X⟩;simp only[go_sem,I,T];apply aA <;> intro E
 ·subst E;obtain⟨O,Z⟩:=Y rfl;simp only[go_sem,I,akB];refine⟨by omega,?_⟩;apply aA <;> intro E
  ·exfalso;simp at E;omega
  ·simp only[go_sem,h0,J,I,afN,I8 (show k/10<=4611686018427387904 by omega),aL];refine⟨by rw[F4,AF];omega,by omega,⟨_,k/10,_,rfl,rfl,rfl,?_,?_⟩,?_⟩
   ·intro E;have:10<=k:=by simp at E;omega
    refine⟨?_,?_⟩
    ·rw[O,CS this,ByteArray.append_assoc];rfl
    ·rw[ByteArray.size_append,F4];omega
   ·intro E;have F:k<10:=by simp at E;omega
    rw[O,yP F,Xbk F];rfl
   ·rcases Xay k 10 with h|h
    ·have:k/10=0:=by omega
     simp[this,afH]
    ·simp only[afH];split <;> omega
 ·simp only[go_sem,h0,];apply aA <;> intro E
  ·exfalso;simp at E;omega
  ·simp only[go_sem,J,];rw[X (by assumption)];exact .refl _
def eZ(l:List Int)(d:Int):Bool:=if(l.length:Int)=d then l.all fun n=> !(decide (n<0)||decide (n>1000))else false
def Is{α:Type}{p:α->Bool}{l:List α}(h:∀x∈l,p x=true):l.all p=true:=Xaj.2 h
def Ii{α:Type}{p:α->Bool}{l:List α}{x:α}(h:x∈l)(E:p x=false):l.all p=false:=by
 cases F:l.all p with
 | false=>rfl
 | true=>rw[Xaj.1 F x h]at E;cases E
def lC{α:Type}{l:List α}{k:Nat}{x:α}(h:l[k]?=some x):x∈l:=Xac h
def wB{α:Type}{q:α->Prop}{l:List α}{k:Nat}{x:α}(I:l[k]?=some x)(h:∀y∈l.take k,q y)(F:q x):∀y∈l.take (k+1),q y:=by
 rw[bA I];intro y E;rcases Xbb.1 E with E|E
 ·exact h y E
 ·simp at E;subst E;exact F
def aV{k n:Nat}(h:decide ((k:Int)<(n:Int))=true):k<n:=by simpa using h
def aW{k n:Nat}(E:k<=n)(h:decide ((k:Int)<(n:Int))=false):k=n:=by
 have:¬k<n:=by simpa using h
 omega
def NW(l:List Int)(d:Int)(hl:l.length<=1048576):PC prog 107 [.sl (l.map bC),int d] (boo (eZ l d)):=by
 refine pcd func107 rfl rfl ?_;simp only[go_sem];apply aA <;> intro I
 ·simp only[go_sem];have:eZ l d=false:=by unfold eZ;rw[if_neg (by simpa using I)]
  rw[this];exact .refl _
 ·have I:(l.length:Int)=d:=by simpa using I
  simp only[go_sem];refine⟨fun ρ _=>∃k:Nat,k<=l.length/\ρ 0=.sl (l.map bC)/\ρ 5=int k/\∀n∈l.take k,(decide (n<0)||decide (n>1000))=false,fun ρ _=>l.length-aR (ρ 5),⟨0,Xaa _,rfl,rfl,by simp⟩,?_⟩;rintro ρ H ⟨k,Y,h0,J,X⟩;simp only[go_sem,h0,J];refine aA (fun E=>?_) (fun F=>?_)
  ·have E:=aV E;obtain⟨r,O⟩:=aK E;have Z:=inB E;simp only[go_sem,h0,J,Z,aC O];apply aA <;> intro T
   ·simp only[go_sem];have:eZ l d=false:=by unfold eZ;rw[if_pos I];exact Ii (lC O) (by simp only[T];rfl)
    rw[this];exact .refl _
   ·simp only[go_sem,h0,J,aQ k];exact⟨⟨k+1,E,rfl,wB O X T⟩,msr E⟩
  ·have F:=aW Y F;subst F;simp only[go_sem];have:eZ l d=true:=by unfold eZ;rw[if_pos I];exact Is fun n h=>by rw[X n (by simpa using h)];rfl
   rw[this];exact .refl _
def Af(l:List Int)(d:Int):Bool:=if(!inR l.length 1 3||(l.length:Int) != d)=true then false else l.all fun n=>inR n 0 1000
def awZ(l:List Int)(d:Int)(hl:l.length<=1048576):PC prog 106 [.sl (l.map bC),int d] (boo (Af l d)):=by
 refine pcd func106 rfl rfl ?_;simp only[go_sem];refine aH (rL _ _ _) ?_;simp only[go_sem];apply aA <;> intro O
 ·simp only[go_sem];have:Af l d=false:=by unfold Af;rw[if_pos O]
  rw[this];exact .refl _
 ·simp only[go_sem];refine⟨fun ρ _=>∃k:Nat,k<=l.length/\ρ 0=.sl (l.map bC)/\ρ 5=int k/\∀n∈l.take k,inR n 0 1000=true,fun ρ _=>l.length-aR (ρ 5),⟨0,Xaa _,rfl,rfl,by simp⟩,?_⟩;rintro ρ H ⟨k,Y,h0,I,X⟩;simp only[go_sem,h0,I];refine aA (fun E=>?_) (fun F=>?_)
  ·have E:=aV E;obtain⟨r,J⟩:=aK E;have Z:=inB E;simp only[go_sem,h0,I,Z,aC J];refine aH (rL _ _ _) ?_;simp only[go_sem];apply aA <;> intro T
   ·simp only[go_sem];have:Af l d=false:=by unfold Af;rw[if_neg (by rw[O];simp)];exact Ii (lC J) (by simpa using T)
    rw[this];exact .refl _
   ·simp only[go_sem,h0,I,aQ k];exact⟨⟨k+1,E,rfl,wB J X (by simpa using T)⟩,msr E⟩
  ·have F:=aW Y F;subst F;simp only[go_sem];have:Af l d=true:=by unfold Af;rw[if_neg (by rw[O];simp)];exact Is fun n h=>X n (by simpa using h)
   rw[this];exact .refl _
def xX(s:ByteArray)(i:Nat):Int:=((s.data.getD i 0).toNat:Int)
def nF(s:ByteArray):Bool:=if(decide ((s.size:Int)<1)||decide ((s.size:Int)>16)||FO (xX s 0))=true then false else(List.range s.size).all fun i=>EL (xX s i)||FO (xX s i)
def iN{n k:Nat}(h:k<n):(List.range n)[k]?=some k:=by simp[h]
def Ul(s:ByteArray)(Z:s.size<=1048576):PC prog 102 [str s] (boo (nF s)):=by
 refine pcd func102 rfl rfl ?_;simp only[go_sem];refine⟨fun h=>⟨by omega,by simp at h;omega⟩,_,fun _=>(HZ _).q rfl,?_⟩;simp only[go_sem];apply aA <;> intro J
 ·simp only[go_sem];have:nF s=false:=by unfold nF;rw[if_pos (by exact J)]
  rw[this];exact .refl _
 ·simp only[go_sem];refine⟨fun ρ _=>∃k:Nat,k<=s.size/\ρ 0=str s/\ρ 3=int k/\∀i∈(List.range s.size).take k,(EL (xX s i)||FO (xX s i))=true,fun ρ _=>s.size-aR (ρ 3),⟨0,Xaa _,rfl,rfl,by simp⟩,?_⟩;rintro ρ H ⟨k,Y,h0,I,X⟩;simp only[go_sem,h0,I];refine aA (fun E=>?_) (fun F=>?_)
  ·have E:=aV E;have T:=inB E;simp only[go_sem,h0,I,T];refine aH (E9 _) ?_;simp only[go_sem,h0,I,T];refine⟨_,fun _=>(HZ _).q rfl,?_⟩;simp only[go_sem];apply aA <;> intro O
   ·simp only[go_sem];have:nF s=false:=by unfold nF;rw[if_neg (by intro h;exact absurd (h.symm.trans J) (by simp))];exact Ii (lC (iN E)) (by simpa[xX]using O)
    rw[this];exact .refl _
   ·simp only[go_sem,h0,I,aQ k];exact⟨⟨k+1,E,rfl,wB (iN E) X (by
     have:(!EL (xX s k)&& !FO (xX s k))=false:=O
     revert this;cases EL (xX s k) <;> cases FO (xX s k) <;> simp)⟩,msr E⟩
  ·have F:=aW Y F;subst F;simp only[go_sem];have:nF s=true:=by unfold nF;rw[if_neg (by intro h;exact absurd (h.symm.trans J) (by simp))];exact Is fun n h=>X n (by rw[Xan (by simp)];exact h)
   rw[this];exact .refl _
def kL(l:List VType):Int:=match l with|[]=>0|t::_=>t.cap.length
def ON(l:List VType):PC prog 33 [.sl (l.map bF)] (int (kL l)):=by
 refine pcd func33 rfl rfl ?_;simp only[go_sem];cases l with
 | nil=>
  simp only[go_sem];apply aA <;> intro E
  ·simp only[go_sem];exact .refl _
  ·simp at E
 | cons t l=>
  apply aA <;> intro E
  ·simp at E;omega
  ·simp only[go_sem];exact⟨⟨by omega,by omega⟩,.refl _⟩
def eF(l:List VType)(k:Nat)(s:ByteArray):Bool:=(l.take k).any fun t=>t.name.toList == s.toList
def O0(l:List VType)(m:Nat)(s:ByteArray)(hm:m<=l.length)(hl:l.length<=1048576):PC prog 105 [.sl (l.map bF),int m,str s] (boo (eF l m s)):=by
 refine pcd func105 rfl rfl ?_;simp only[go_sem];refine⟨fun ρ _=>∃k:Nat,k<=m/\ρ 0=.sl (l.map bF)/\ρ 1=int m/\ρ 2=str s/\ρ 7=int k/\∀t∈l.take k,(t.name.toList == s.toList)=false,fun ρ _=>m-aR (ρ 7),⟨0,Xaa _,rfl,rfl,rfl,rfl,by simp⟩,?_⟩;rintro ρ H ⟨k,Z,h0,h1,T,I,X⟩;simp only[go_sem,h1,I];refine aA (fun E=>?_) (fun F=>?_)
 ·have E:=aV E;obtain⟨r,J⟩:=aK (show k<l.length by omega);have b1:=inB (show k<l.length by omega);simp only[go_sem,h0,T,I,b1,aC J];apply aA <;> intro O
  ·simp only[go_sem];have:eF l m s=true:=by refine Xas.2 ⟨r,?_,O⟩;exact Xac (i:=k) (by rw[List.getElem?_take];simp[E,J])
   rw[this];exact .refl _
  ·simp only[go_sem,h0,h1,T,I,aQ k];exact⟨⟨k+1,E,rfl,wB J X O⟩,msr E⟩
 ·have F:=aW Z F;subst F;simp only[go_sem];have:eF l k s=false:=Xbf.2 fun t Y=>by simp[X t Y]
  rw[this];exact .refl _
def tZ(p:Point):Bool:=decide (p.t<0)||decide (p.t>4096)||decide (p.a<p.t)||decide (p.a>IntKind.i64.wrap (p.t+4096))
def Ok(p q:Point):Bool:=decide (p.t<=q.t)||decide (p.a<q.a)
def eM(l:List Point)(i:Nat):Point:=l.getD i ⟨0,0⟩
def DK(n lo hi:Int):Bool:=decide (n<lo)||decide (n>hi)
def iR(l:List Point)(i:Nat):List Fault:=
 opt (tZ (eM l i)) ⟨2,lH i⟩++opt (decide ((i:Int)>0)&&Ok (eM l i) (eM l (i-1))) ⟨13,lH i⟩
def jJ(l:List Point):List Fault:=opt (DK l.length 1 16) ⟨4,ByteArray.empty⟩++(List.range l.length).flatMap (iR l)
def akC(l:List Point)(i:Nat):(iR l i).length<=2:=by unfold iR;rw[Xae];have:=cT (tZ (eM l i)) (⟨2,lH i⟩:Fault);have:=cT (decide ((i:Int)>0)&&Ok (eM l i) (eM l (i-1))) (⟨13,lH i⟩:Fault);omega
def gF{α E:Type}{f:α->List E}{c:Nat}(h:∀x,(f x).length<=c):∀l:List α,(l.flatMap f).length<=c*l.length
 | []=>by simp
 | x::r=>by have h1:=h x;have F:=gF h r;simp only[List.flatMap_cons,Xae,Xai,Nat.mul_add,Nat.mul_one];omega
def jA{E:Type}(f:Nat->List E)(k:Nat):(List.range (k+1)).flatMap f=(List.range k).flatMap f++f k:=by rw[Xbi,Xcd];simp
theorem dZ{l:List Point}{k:Nat}{p:Point}(h:l[k]?=some p):eM l k=p:=by simp[eM,List.getD,h]
def ahF(l:List Point)(hl:l.length<=1048576):NC prog 103 [.sl (l.map bZ)] (bU (jJ l)) .os:=by
 refine ncb (fun t=>t == 3) func103 rfl rfl ?_;simp only[go_sem];refine aN fun j hj=>?_
 simp only[go_sem];refine bN (fun ρ H=>∃j,ρ 0=.sl (l.map bZ)/\ρ 3=.os j/\H j=some (bU (opt (DK l.length 1 16) ⟨4,ByteArray.empty⟩))) ?_ fun K hK=>aA (fun O=>?_) (fun O=>?_)
 ·rintro ρ H ⟨j,h0,X,I⟩;simp only[go_sem,];generalize aa:opt (DK l.length 1 16) (⟨4,ByteArray.empty⟩:Fault)=pre at I;have ak:pre.length<=1:=by rw[<-aa];exact cT _ _
  refine⟨fun ρ H=>∃k:Nat,k<=l.length/\ρ 0=.sl (l.map bZ)/\ρ 4=int k/\∃j,ρ 3=.os j/\H j=some (bU (pre++(List.range k).flatMap (iR l))),fun ρ _=>l.length-aR (ρ 4),⟨0,Xaa _,h0,by simp only[go_sem];rfl,j,X,by simpa using I⟩,?_⟩;rintro ρ H ⟨k,hk,h0,F,j,X,I⟩;generalize ac:pre++(List.range k).flatMap (iR l)=es at I;have ai:es.length<=2*k+1:=by have:=gF (akC l) (List.range k);rw[<-ac,Xae];rw[Xbd]at this;omega
  simp only[go_sem,h0,F];refine aA (fun J=>?_) (fun ab=>?_)
  ·have J:=aV J;obtain⟨p,hp⟩:=aK J;have b1:=inB J;simp only[go_sem,h0,F,b1,aC hp];refine aN fun i hi=>?_
   simp only[go_sem];refine aI (r:=⟨85,2,[[int 0,int 0]]⟩) (by rw[aB]) (by simp[fU]) ?_;simp only[go_sem];have T:j≠i:=bE I hi;have ag:aM (aM H i (some ⟨85,2,[[int 0,int 0]]⟩)) i (some ⟨85,2,[bZ p]⟩) j=some (bU es):=by rw[aJ _ _ _ _ T,aJ _ _ _ _ T,I]
   refine bN (fun E H'=>∃Y,E 0=.sl (l.map bZ)/\E 4=int k/\E 3=.os Y/\E 5=.op i 0 0/\H' i=some ⟨85,2,[bZ p]⟩/\Y≠i /\
    H' Y=some (bU (es++opt (tZ p) ⟨2,lH k⟩))) ?_ fun K hK=>aA (fun O=>?_) (fun O=>?_)
   ·rintro ρ H ⟨j,h0,F,X,h5,hi,T,I⟩;generalize af:es++opt (tZ p) ⟨2,lH k⟩=fs at I;have aj:fs.length<=2*k+2:=by have:=cT (tZ p) (⟨2,lH k⟩:Fault);rw[<-af,Xae];omega
    simp only[go_sem];refine jK (by rfl) (by kernel_rfl) ?_;simp only[go_sem,h0,F,h5,hi];obtain⟨q,hq⟩:=aK (show k-1<l.length by omega);simp only[go_sem,h0,F,h5,hi,alE (show k<=4611686018427387904 by omega),aC hq];have ad:k<=4611686018427387904:=by omega
    have hg:decide ((k:Int)>0)=true->0<=IntKind.i64.wrap ((k:Int)-1)/\IntKind.i64.wrap ((k:Int)-1)<(l.length:Int):=fun h=>by
     have:(k:Int)>0:=by simpa using h
     rw[xK ad];omega
    have ah:pre++(List.range (k+1)).flatMap (iR l)=fs++opt (decide ((k:Int)>0)&&Ok p q) ⟨13,lH k⟩:=by rw[jA,<-Xaq,ac,<-af,iR,dZ hp,dZ hq,Xaq]
    refine⟨hg,fun h=>hg h.1,gU (fun E H'=>E 0=.sl (l.map bZ)/\E 4=int k/\∃j,E 3=.os j/\H' j=some (bU (pre++(List.range (k+1)).flatMap (iR l)))) ?_ fun K hK _ _=>aA (fun O=>?_) (fun O=>?_)⟩
    ·rintro ρ H ⟨h0,F,j,X,I⟩;simp only[go_sem,h0,X,F,mC ad];exact⟨⟨k+1,J,rfl,j,rfl,I⟩,by simp only[aL];omega⟩
    ·simp only[go_sem,X,F];refine aH (vF _ (by omega)) ?_;simp only[go_sem,];refine aY I ⟨rfl,rfl⟩ (by simp only[go_sem]) (by simp;omega) (fun Y Z=>?_);simp only[go_sem,];refine hK _ _ ⟨h0,F,Y,rfl,?_⟩;rw[ah,jQ (by exact O)];exact gE (l':=[⟨13,lH k⟩]) rfl
    ·simp only[go_sem];refine hK _ _ ⟨h0,F,j,X,?_⟩;rw[ah,jP (by exact O),Xah,I]
   ·simp only[go_sem,X,F];refine aH (vF _ (by omega)) ?_;simp only[go_sem,];refine aY ag ⟨rfl,rfl⟩ (by simp only[go_sem]) (by simp;omega) (fun Y Z=>?_);simp only[go_sem,];have ae:=aB (aM H i (some ⟨85,2,[[int 0,int 0]]⟩)) i (some ⟨85,2,[bZ p]⟩);refine hK _ _ ⟨Y,h0,F,rfl,rfl,dL ae T Z,(bE ae Z).symm,?_⟩;rw[jQ (show tZ p=true from O)];exact gE (l':=[⟨2,lH k⟩]) rfl
   ·simp only[go_sem];refine hK _ _ ⟨j,h0,F,X,rfl,by rw[aB],T,?_⟩;rw[ag,jP (show tZ p=false from O),Xah]
  ·have ab:=aW hk ab;subst ab;simp only[go_sem,X];exact⟨_,rfl,by rw[I,<-ac,<-aa];rfl⟩
 ·simp only[go_sem];refine aY (r:=bU []) (by simp only[go_sem];rfl) ⟨rfl,rfl⟩ (by simp only[go_sem]) (by simp) (fun Y Z=>?_);simp only[go_sem];refine hK _ _ ⟨Y,rfl,rfl,?_⟩;rw[jQ (by exact O)];exact gE (l:=[]) (l':=[⟨4,ByteArray.empty⟩]) rfl
 ·simp only[go_sem];refine hK _ _ ⟨j,rfl,rfl,?_⟩;rw[jP (by exact O),aB];rfl
def Mk(l:List ByteArray)(i:Nat):ByteArray:=l.getD i ByteArray.empty
def Fw{l:List ByteArray}{k:Nat}{p:ByteArray}(h:l[k]?=some p):Mk l k=p:=by simp[Mk,List.getD,h]
def vQ(i:Nat):ByteArray:=⟨#[112,108,97,99,101,32]⟩++lH i
def vK(l:List ByteArray)(i:Nat):Bool:=(l.take i).any fun s=>s.toList == (Mk l i).toList
def iD(l:List ByteArray)(i:Nat):List Fault:=match nF (Mk l i)with
 | false=>[⟨5,vQ i⟩]
 | true=>opt (vK l i) ⟨6,vQ i⟩
def Xe(l:List ByteArray)(i:Nat):(iD l i).length<=1:=by
 unfold iD;split
 ·simp
 ·exact cT _ _
def Ag(l:List ByteArray):List Fault:=opt (decide ((l.length:Int)>24)) ⟨4,⟨#[112,108,97,99,101,115]⟩⟩++(List.range l.length).flatMap (iD l)
def JX{α:Type}{p:α->Bool}{l:List α}{k:Nat}{x:α}(h:l[k]?=some x):(l.take (k+1)).any p=((l.take k).any p||p x):=by rw[bA h,List.any_append];simp
def Qr(i:Nat):(vQ i).size<=i+7:=by have:=qB i;unfold vQ;rw[ByteArray.size_append];have:(⟨#[112,108,97,99,101,32]⟩:ByteArray).size=6:=rfl;omega
def ajP(n:Network)(hl:n.places.length<=1048576)(hs:∀s∈n.places,s.size<=1048576):NC prog 56 [.agg (bD n)] (bU (Ag n.places)) .os:=by
 refine ncb (fun t=>t == 3) func56 rfl rfl ?_;simp only[go_sem];refine aN fun j hj=>?_
 simp only[go_sem];refine bN (fun ρ H=>∃j,ρ 1=.rp (bD n) 0/\ρ 3=.os j/\H j=some (bU (opt (decide ((n.places.length:Int)>24)) ⟨4,⟨#[112,108,97,99,101,115]⟩⟩))) ?_ fun K hK=>aA (fun T=>?_) (fun T=>?_)
 ·rintro ρ H ⟨j,h1,J,X⟩;simp only[go_sem,];generalize Y:opt (decide ((n.places.length:Int)>24)) (⟨4,⟨#[112,108,97,99,101,115]⟩⟩:Fault)=pre at X;have ah:pre.length<=1:=by rw[<-Y];exact cT _ _
  refine⟨fun ρ H=>∃k:Nat,k<=n.places.length/\ρ 1=.rp (bD n) 0/\ρ 4=int k/\∃j,ρ 3=.os j/\H j=some (bU (pre++(List.range k).flatMap (iD n.places))),fun ρ _=>n.places.length-aR (ρ 4),⟨0,Xaa _,h1,by simp only[go_sem];rfl,j,J,by simpa using X⟩,?_⟩;rintro ρ H ⟨k,hk,h1,F,j,J,X⟩;generalize ac:pre++(List.range k).flatMap (iD n.places)=es at X;have ag:es.length<=k+1:=by have:=gF (Xe n.places) (List.range k);rw[<-ac,Xae];rw[Xbd]at this;omega
  simp only[go_sem,h1,F];refine aA (fun E=>?_) (fun aa=>?_)
  ·have E:=aV E;obtain⟨p,hp⟩:=aK E;have b1:=inB E;have ad:k<=4611686018427387904:=by omega
   have ai:=qB k;have ab:pre++(List.range (k+1)).flatMap (iD n.places)=es++iD n.places k:=by rw[jA,<-Xaq,ac]
   simp only[go_sem,F];refine aH (vF _ (by omega)) ?_;simp only[go_sem,h1,F,b1,aC hp];refine⟨by rw[AF];show((6+(lH k).size:Nat):Int)<=_;omega,?_⟩;refine aH (Ul p (hs p (lC hp))) ?_;simp only[go_sem,];refine aA (fun T=>?_) (fun T=>?_)
   ·simp only[go_sem,J];refine aY X ⟨rfl,rfl⟩ (by simp only[go_sem]) (by simp;omega) (fun j' af=>?_);simp only[go_sem,h1,F,mC ad];refine⟨⟨k+1,E,rfl,j',rfl,?_⟩,by simp only[aL];omega⟩;have hn:nF (Mk n.places k)=false:=by rw[Fw hp];simpa using T
    rw[ab,iD,hn];exact gE (l':=[⟨5,vQ k⟩]) rfl
   ·simp only[go_sem,];have hn:nF (Mk n.places k)=true:=by rw[Fw hp];simpa using T
    refine⟨fun ρ H'=>∃m:Nat,m<=k/\ρ 1=.rp (bD n) 0/\ρ 3=.os j/\ρ 4=int k/\ρ 5=str (vQ k)/\ρ 6=boo ((n.places.take m).any fun s=>s.toList == p.toList)/\ρ 7=int m/\H'=H,fun ρ _=>k-aR (ρ 7),⟨0,Xaa _,h1,J,F,by simp only[go_sem];rfl,by simp only[go_sem];rfl,by simp only[go_sem];rfl,rfl⟩,?_⟩;rintro ρ H' ⟨m,hm,h1,J,F,h5,h6,h7,rfl⟩;simp only[go_sem,F,h7];refine aA (fun I=>?_) (fun O=>?_)
    ·have I:=aV I;obtain⟨q,hq⟩:=aK (show m<n.places.length by omega);have b2:=inB (show m<n.places.length by omega);simp only[go_sem];refine jK (by rfl) (by kernel_rfl) ?_;simp only[go_sem,h1,J,F,h5,h6,h7,b1,b2,aC hp,aC hq,aQ m];refine⟨⟨m+1,I,?_,rfl⟩,by simp only[aL];omega⟩;rw[JX hq]
    ·have O:=aW hm O;subst O;simp only[go_sem,h6];have ae:vK n.places m=(n.places.take m).any fun s=>s.toList == p.toList:=by unfold vK;rw[Fw hp]
     refine gU (fun Z H'=>Z 1=.rp (bD n) 0/\Z 4=int m/\∃j,Z 3=.os j/\H' j=some (bU (pre++(List.range (m+1)).flatMap (iD n.places)))) ?_ fun K hK _ _=>aA (fun T=>?_) (fun T=>?_)
     ·rintro ρ H ⟨h1,F,j,J,X⟩;simp only[go_sem,h1,J,F,mC ad];exact⟨⟨m+1,E,rfl,j,rfl,X⟩,by simp only[aL];omega⟩
     ·simp only[go_sem,J,h5];refine aY X ⟨rfl,rfl⟩ (by simp only[go_sem]) (by simp;omega) (fun j' af=>?_);simp only[go_sem];refine hK _ _ ⟨h1,F,j',rfl,?_⟩;rw[ab,iD,hn];show _=some (bU (es++opt (vK n.places m) ⟨6,vQ m⟩));rw[jQ (ae.trans T)];exact gE (l':=[⟨6,vQ m⟩]) rfl
     ·simp only[go_sem];refine hK _ _ ⟨h1,F,j,J,?_⟩;rw[ab,iD,hn];show _=some (bU (es++opt (vK n.places m) ⟨6,vQ m⟩));rw[jP (ae.trans T),Xah,X]
  ·have aa:=aW hk aa;subst aa;simp only[go_sem,J];exact⟨_,rfl,by rw[X,<-ac,<-Y];rfl⟩
 ·simp only[go_sem];refine aY (r:=bU []) (by simp only[go_sem];rfl) ⟨rfl,rfl⟩ (by simp only[go_sem]) (by simp) (fun j' af=>?_);simp only[go_sem];refine hK _ _ ⟨j',rfl,rfl,?_⟩;rw[jQ (by exact T)];exact gE (l:=[]) (l':=[⟨4,⟨#[112,108,97,99,101,115]⟩⟩]) rfl
 ·simp only[go_sem];refine hK _ _ ⟨j,rfl,rfl,?_⟩;rw[jP (by exact T),aB];rfl
def VN(l:List VType)(i:Nat):VType:=l.getD i ⟨ByteArray.empty,0,0,0,[],0,0,0,0,0,0,0,0,0⟩
def Qm{l:List VType}{k:Nat}{p:VType}(h:l[k]?=some p):VN l k=p:=by simp[VN,List.getD,h]
def pD(n:Network)(l:List VType)(k:Nat)(t:VType):List Int:=
 []++opt (!nF t.name) 5++opt (eF l k t.name) 6++opt (!inR t.count 0 10) 22++opt (!inR t.src 0 (n.places.length-1)|| !inR t.dst 0 (n.places.length-1)) 11
   ++ opt (!Af t.cap (kL l)) 17++opt (!inR t.skills 0 1073741823) 18++opt (!inR t.start 0 t.close||decide (t.close>4096)) 15
   ++ opt (!inR t.drive 1 4096|| !inR t.rest 0 4096) 16++opt (!inR t.profile 0 7|| !inR t.fixed 0 100000|| !inR t.perMile 0 100|| !inR t.perTick 0 100) 2
def aeI(n:Network)(l:List VType)(k:Nat)(hk:k<l.length)(hl:l.length<=1048576)(hs:∀t∈l,t.name.size<=1048576/\t.cap.length<=1048576)(hp:n.places.length<=1048576):
  PC prog 59 [.agg (bD n),.sl (l.map bF),int k] (.sl ((pD n l k (VN l k)).map bC)):=by
 refine pcb (fun t=>t == 8) func59 rfl rfl ?_;simp only[go_sem];obtain⟨t,ht⟩:=aK hk;have b1:=inB hk;have ak:=hs t (lC ht);rw[Qm ht];simp only[go_sem,b1,aC ht];refine aN fun i O=>?_
 simp only[go_sem];refine aI (aB _ _ _) (by simp[jH]) ?_;simp only[go_sem];refine aN fun j hj=>?_
 have am:=eT (r':=(⟨45,1,[]⟩:Row)) (aB _ _ _) hj;simp only[go_sem,am];refine aH (Ul _ ak.1) ?_;simp only[go_sem];refine rV (fun E H'=>E 1=.sl (l.map bF)/\E 2=int k/\E 3=.rp (bD n) 0/\E 7=.op i 0 0/\H' i=some (kY t)/\∃F,E 8=.os F/\F≠i/\H' F=some (mF [])) ⟨rfl,rfl,rfl,rfl,eT (aB _ _ _) hj,_,rfl,(bE (aB _ _ _) hj).symm,aB _ _ _⟩ ?_;rintro ρ H ⟨h1,h2,Z,T,O,j,h8,I,X⟩;generalize ae:([]:List Int)=es0 at X;have ar:es0.length<=0:=by rw[<-ae];exact Xaf _
 refine bN (fun E H'=>E 1=.sl (l.map bF)/\E 2=int k/\E 3=.rp (bD n) 0/\E 7=.op i 0 0/\H' i=some (kY t)/\∃F,E 8=.os F/\F≠i/\H' F=some (mF (es0++opt (!nF t.name) 5))) ?_ fun K hK=>aA (fun Y=>?_) (fun Y=>?_)
 rotate_left
 ·simp only[go_sem,h8];refine aY X ⟨rfl,rfl⟩ (by simp only[go_sem]) (by simp;omega) (fun F J=>?_);simp only[go_sem];refine hK _ _ ⟨h1,h2,Z,T,dL O I J,F,rfl,(bE O J).symm,?_⟩;rw[jQ (show(!nF t.name)=true from Y)];exact iJ (l':=[5]) rfl
 ·simp only[go_sem];refine hK _ _ ⟨h1,h2,Z,T,O,j,h8,I,?_⟩;rw[jP (show(!nF t.name)=false from Y),Xah,X]
 rintro ρ H ⟨h1,h2,Z,T,O,j,h8,I,X⟩;generalize aa:es0++opt (!nF t.name) (5:Int)=es1 at X;have ay:es1.length<=es0.length+1:=by rw[<-aa,Xae];have:=cT (!nF t.name) (5:Int);omega
 simp only[go_sem,h1,h2,T,O];refine aH (O0 l k t.name (by omega) hl) ?_;simp only[go_sem];refine bN (fun E H'=>E 1=.sl (l.map bF)/\E 2=int k/\E 3=.rp (bD n) 0/\E 7=.op i 0 0/\H' i=some (kY t)/\∃F,E 8=.os F/\F≠i/\H' F=some (mF (es1++opt (eF l k t.name) 6))) ?_ fun K hK=>aA (fun Y=>?_) (fun Y=>?_)
 rotate_left
 ·simp only[go_sem,h8];refine aY X ⟨rfl,rfl⟩ (by simp only[go_sem]) (by simp;omega) (fun F J=>?_);simp only[go_sem];refine hK _ _ ⟨h1,h2,Z,T,dL O I J,F,rfl,(bE O J).symm,?_⟩;rw[jQ (show(eF l k t.name)=true from Y)];exact iJ (l':=[6]) rfl
 ·simp only[go_sem];refine hK _ _ ⟨h1,h2,Z,T,O,j,h8,I,?_⟩;rw[jP (show(eF l k t.name)=false from Y),Xah,X]
 rintro ρ H ⟨h1,h2,Z,T,O,j,h8,I,X⟩;generalize ad:es1++opt (eF l k t.name) (6:Int)=es2 at X;have ao:es2.length<=es1.length+1:=by rw[<-ad,Xae];have:=cT (eF l k t.name) (6:Int);omega
 simp only[go_sem,T,O];refine aH (rL _ _ _) ?_;simp only[go_sem];refine bN (fun E H'=>E 1=.sl (l.map bF)/\E 2=int k/\E 3=.rp (bD n) 0/\E 7=.op i 0 0/\H' i=some (kY t)/\∃F,E 8=.os F/\F≠i/\H' F=some (mF (es2++opt (!inR t.count 0 10) 22))) ?_ fun K hK=>aA (fun Y=>?_) (fun Y=>?_)
 rotate_left
 ·simp only[go_sem,h8];refine aY X ⟨rfl,rfl⟩ (by simp only[go_sem]) (by simp;omega) (fun F J=>?_);simp only[go_sem];refine hK _ _ ⟨h1,h2,Z,T,dL O I J,F,rfl,(bE O J).symm,?_⟩;rw[jQ (show(!inR t.count 0 10)=true from Y)];exact iJ (l':=[22]) rfl
 ·simp only[go_sem];refine hK _ _ ⟨h1,h2,Z,T,O,j,h8,I,?_⟩;rw[jP (show(!inR t.count 0 10)=false from Y),Xah,X]
 rintro ρ H ⟨h1,h2,Z,T,O,j,h8,I,X⟩;generalize af:es2++opt (!inR t.count 0 10) (22:Int)=es3 at X;have ax:es3.length<=es2.length+1:=by rw[<-af,Xae];have:=cT (!inR t.count 0 10) (22:Int);omega
 simp only[go_sem,Z,T,O,xK (show n.places.length<=4611686018427387904 by omega)];refine aH (rL _ _ _) ?_;simp only[go_sem,Z,T,O,xK (show n.places.length<=4611686018427387904 by omega)];refine⟨_,fun _=>(rL _ _ _).q rfl,?_⟩;simp only[go_sem,];refine bN (fun E H'=>E 1=.sl (l.map bF)/\E 2=int k/\E 3=.rp (bD n) 0/\E 7=.op i 0 0/\H' i=some (kY t)/\∃F,E 8=.os F/\F≠i/\H' F=some (mF (es3++opt (!inR t.src 0 (n.places.length-1)|| !inR t.dst 0 (n.places.length-1)) 11))) ?_ fun K hK=>aA (fun Y=>?_) (fun Y=>?_)
 rotate_left
 ·simp only[go_sem,h8];refine aY X ⟨rfl,rfl⟩ (by simp only[go_sem]) (by simp;omega) (fun F J=>?_);simp only[go_sem];refine hK _ _ ⟨h1,h2,Z,T,dL O I J,F,rfl,(bE O J).symm,?_⟩;rw[jQ (show(!inR t.src 0 (n.places.length-1)|| !inR t.dst 0 (n.places.length-1))=true from Y)];exact iJ (l':=[11]) rfl
 ·simp only[go_sem];refine hK _ _ ⟨h1,h2,Z,T,O,j,h8,I,?_⟩;rw[jP (show(!inR t.src 0 (n.places.length-1)|| !inR t.dst 0 (n.places.length-1))=false from Y),Xah,X]
 rintro ρ H ⟨h1,h2,Z,T,O,j,h8,I,X⟩;generalize ab:es3++opt (!inR t.src 0 (n.places.length-1)|| !inR t.dst 0 (n.places.length-1)) (11:Int)=es4 at X;have aq:es4.length<=es3.length+1:=by rw[<-ab,Xae];have:=cT (!inR t.src 0 (n.places.length-1)|| !inR t.dst 0 (n.places.length-1)) (11:Int);omega
 simp only[go_sem,];refine jK (by rfl) (by kernel_rfl) ?_;simp only[go_sem,h1,T,O];refine⟨_,(ON l).q rfl,?_⟩;simp only[go_sem,];refine⟨_,(awZ t.cap (kL l) ak.2).q rfl,?_⟩;simp only[go_sem,];refine bN (fun E H'=>E 1=.sl (l.map bF)/\E 2=int k/\E 3=.rp (bD n) 0/\E 7=.op i 0 0/\H' i=some (kY t)/\∃F,E 8=.os F/\F≠i/\H' F=some (mF (es4++opt (!Af t.cap (kL l)) 17))) ?_ fun K hK=>aA (fun Y=>?_) (fun Y=>?_)
 rotate_left
 ·simp only[go_sem,h8];refine aY X ⟨rfl,rfl⟩ (by simp only[go_sem]) (by simp;omega) (fun F J=>?_);simp only[go_sem];refine hK _ _ ⟨h1,h2,Z,T,dL O I J,F,rfl,(bE O J).symm,?_⟩;rw[jQ (show(!Af t.cap (kL l))=true from Y)];exact iJ (l':=[17]) rfl
 ·simp only[go_sem];refine hK _ _ ⟨h1,h2,Z,T,O,j,h8,I,?_⟩;rw[jP (show(!Af t.cap (kL l))=false from Y),Xah,X]
 rintro ρ H ⟨h1,h2,Z,T,O,j,h8,I,X⟩;generalize ah:es4++opt (!Af t.cap (kL l)) (17:Int)=es5 at X;have an:es5.length<=es4.length+1:=by rw[<-ah,Xae];have:=cT (!Af t.cap (kL l)) (17:Int);omega
 simp only[go_sem,T,O];refine aH (rL _ _ _) ?_;simp only[go_sem,];refine bN (fun E H'=>E 1=.sl (l.map bF)/\E 2=int k/\E 3=.rp (bD n) 0/\E 7=.op i 0 0/\H' i=some (kY t)/\∃F,E 8=.os F/\F≠i/\H' F=some (mF (es5++opt (!inR t.skills 0 1073741823) 18))) ?_ fun K hK=>aA (fun Y=>?_) (fun Y=>?_)
 rotate_left
 ·simp only[go_sem,h8];refine aY X ⟨rfl,rfl⟩ (by simp only[go_sem]) (by simp;omega) (fun F J=>?_);simp only[go_sem];refine hK _ _ ⟨h1,h2,Z,T,dL O I J,F,rfl,(bE O J).symm,?_⟩;rw[jQ (show(!inR t.skills 0 1073741823)=true from Y)];exact iJ (l':=[18]) rfl
 ·simp only[go_sem];refine hK _ _ ⟨h1,h2,Z,T,O,j,h8,I,?_⟩;rw[jP (show(!inR t.skills 0 1073741823)=false from Y),Xah,X]
 rintro ρ H ⟨h1,h2,Z,T,O,j,h8,I,X⟩;generalize ac:es5++opt (!inR t.skills 0 1073741823) (18:Int)=es6 at X;have au:es6.length<=es5.length+1:=by rw[<-ac,Xae];have:=cT (!inR t.skills 0 1073741823) (18:Int);omega
 simp only[go_sem,T,O];refine aH (rL _ _ _) ?_;simp only[go_sem,T,O];refine bN (fun E H'=>E 1=.sl (l.map bF)/\E 2=int k/\E 3=.rp (bD n) 0/\E 7=.op i 0 0/\H' i=some (kY t)/\∃F,E 8=.os F/\F≠i/\H' F=some (mF (es6++opt (!inR t.start 0 t.close||decide (t.close>4096)) 15))) ?_ fun K hK=>aA (fun Y=>?_) (fun Y=>?_)
 rotate_left
 ·simp only[go_sem,h8];refine aY X ⟨rfl,rfl⟩ (by simp only[go_sem]) (by simp;omega) (fun F J=>?_);simp only[go_sem];refine hK _ _ ⟨h1,h2,Z,T,dL O I J,F,rfl,(bE O J).symm,?_⟩;rw[jQ (show(!inR t.start 0 t.close||decide (t.close>4096))=true from Y)];exact iJ (l':=[15]) rfl
 ·simp only[go_sem];refine hK _ _ ⟨h1,h2,Z,T,O,j,h8,I,?_⟩;rw[jP (show(!inR t.start 0 t.close||decide (t.close>4096))=false from Y),Xah,X]
 rintro ρ H ⟨h1,h2,Z,T,O,j,h8,I,X⟩;generalize aj:es6++opt (!inR t.start 0 t.close||decide (t.close>4096)) (15:Int)=es7 at X;have aw:es7.length<=es6.length+1:=by rw[<-aj,Xae];have:=cT (!inR t.start 0 t.close||decide (t.close>4096)) (15:Int);omega
 simp only[go_sem,T,O];refine aH (rL _ _ _) ?_;simp only[go_sem,T,O];refine⟨_,fun _=>(rL _ _ _).q rfl,?_⟩;simp only[go_sem,];refine bN (fun E H'=>E 1=.sl (l.map bF)/\E 2=int k/\E 3=.rp (bD n) 0/\E 7=.op i 0 0/\H' i=some (kY t)/\∃F,E 8=.os F/\F≠i/\H' F=some (mF (es7++opt (!inR t.drive 1 4096|| !inR t.rest 0 4096) 16))) ?_ fun K hK=>aA (fun Y=>?_) (fun Y=>?_)
 rotate_left
 ·simp only[go_sem,h8];refine aY X ⟨rfl,rfl⟩ (by simp only[go_sem]) (by simp;omega) (fun F J=>?_);simp only[go_sem];refine hK _ _ ⟨h1,h2,Z,T,dL O I J,F,rfl,(bE O J).symm,?_⟩;rw[jQ (show(!inR t.drive 1 4096|| !inR t.rest 0 4096)=true from Y)];exact iJ (l':=[16]) rfl
 ·simp only[go_sem];refine hK _ _ ⟨h1,h2,Z,T,O,j,h8,I,?_⟩;rw[jP (show(!inR t.drive 1 4096|| !inR t.rest 0 4096)=false from Y),Xah,X]
 rintro ρ H ⟨h1,h2,Z,T,O,j,h8,I,X⟩;generalize ai:es7++opt (!inR t.drive 1 4096|| !inR t.rest 0 4096) (16:Int)=es8 at X;have av:es8.length<=es7.length+1:=by rw[<-ai,Xae];have:=cT (!inR t.drive 1 4096|| !inR t.rest 0 4096) (16:Int);omega
 simp only[go_sem,T,O];refine aH (rL _ _ _) ?_;simp only[go_sem,T,O];refine⟨_,fun _=>(rL _ _ _).q rfl,?_⟩;simp only[go_sem,T,O];refine⟨_,fun _=>(rL _ _ _).q rfl,?_⟩;simp only[go_sem,T,O];refine⟨_,fun _=>(rL _ _ _).q rfl,?_⟩;simp only[go_sem,];refine bN (fun E H'=>E 1=.sl (l.map bF)/\E 2=int k/\E 3=.rp (bD n) 0/\E 7=.op i 0 0/\H' i=some (kY t)/\∃F,E 8=.os F/\F≠i/\H' F=some (mF (es8++opt (!inR t.profile 0 7|| !inR t.fixed 0 100000|| !inR t.perMile 0 100|| !inR t.perTick 0 100) 2))) ?_ fun K hK=>aA (fun Y=>?_) (fun Y=>?_)
 rotate_left
 ·simp only[go_sem,h8];refine aY X ⟨rfl,rfl⟩ (by simp only[go_sem]) (by simp;omega) (fun F J=>?_);simp only[go_sem];refine hK _ _ ⟨h1,h2,Z,T,dL O I J,F,rfl,(bE O J).symm,?_⟩;rw[jQ (show(!inR t.profile 0 7|| !inR t.fixed 0 100000|| !inR t.perMile 0 100|| !inR t.perTick 0 100)=true from Y)];exact iJ (l':=[2]) rfl
 ·simp only[go_sem];refine hK _ _ ⟨h1,h2,Z,T,O,j,h8,I,?_⟩;rw[jP (show(!inR t.profile 0 7|| !inR t.fixed 0 100000|| !inR t.perMile 0 100|| !inR t.perTick 0 100)=false from Y),Xah,X]
 rintro ρ H ⟨h1,h2,Z,T,O,j,h8,I,X⟩;generalize ag:es8++opt (!inR t.profile 0 7|| !inR t.fixed 0 100000|| !inR t.perMile 0 100|| !inR t.perTick 0 100) (2:Int)=es9 at X;have ap:es9.length<=es8.length+1:=by rw[<-ag,Xae];have:=cT (!inR t.profile 0 7|| !inR t.fixed 0 100000|| !inR t.perMile 0 100|| !inR t.perTick 0 100) (2:Int);omega
 simp only[go_sem,h8];have al:pD n l k t=es9:=by unfold pD;rw[ae,aa,ad,af,ab,ah,ac,aj,ai,ag]
 rw[al];exact .row _ _ _ X (ConvE.refl _)
def kA(n:Network)(l:List VType)(k:Nat):List Fault:=(pD n l k (VN l k)).map fun e=>⟨e,lH k⟩
def xZ(n:Network)(l:List VType):List Fault:=opt (!inR l.length 1 6) ⟨4,ByteArray.empty⟩++(List.range l.length).flatMap (kA n l)
def AG(n:Network)(l:List VType)(k:Nat)(t:VType):(pD n l k t).length<=9:=by
 unfold pD;simp only[Xae,List.length_nil];have h:=fun(b:Bool) (x:Int)=>cT b x
 have h1:=h (!nF t.name) 5;have J:=h (eF l k t.name) 6;have I:=h (!inR t.count 0 10) 22;have Y:=h (!inR t.src 0 (n.places.length-1)|| !inR t.dst 0 (n.places.length-1)) 11;have E:=h (!Af t.cap (kL l)) 17;have F:=h (!inR t.skills 0 1073741823) 18;have O:=h (!inR t.start 0 t.close||decide (t.close>4096)) 15;have X:=h (!inR t.drive 1 4096|| !inR t.rest 0 4096) 16;have T:=h (!inR t.profile 0 7|| !inR t.fixed 0 100000|| !inR t.perMile 0 100|| !inR t.perTick 0 100) 2;omega
def E2{α E:Type}{f:α->E}{l:List α}{k:Nat}{x:α}(h:l[k]?=some x):(l.take (k+1)).map f=(l.take k).map f++[f x]:=by rw[bA h,Xam];rfl
def aoD(n:Network)(l:List VType)(hl:l.length<=1048576)(hs:∀t∈l,t.name.size<=1048576/\t.cap.length<=1048576)(hp:n.places.length<=1048576):
  NC prog 31 [.agg (bD n),.sl (l.map bF)] (bU (xZ n l)) .os:=by
 refine ncb (fun t=>t == 5) func31 rfl rfl ?_;simp only[go_sem];refine aN fun j hj=>?_
 simp only[go_sem];refine aH (rL _ _ _) ?_;simp only[go_sem];refine rV (fun F H'=>F 1=.sl (l.map bF)/\F 2=.rp (bD n) 0/\∃X,F 5=.os X/\H' X=some (bU [])) ⟨rfl,rfl,_,rfl,aB _ _ _⟩ ?_;rintro ρ H ⟨h1,T,j,O,I⟩;generalize aa:([]:List Fault)=es0 at I;have ai:es0.length<=0:=by rw[<-aa];exact Xaf _
 refine bN (fun F H'=>F 1=.sl (l.map bF)/\F 2=.rp (bD n) 0/\∃X,F 5=.os X/\H' X=some (bU (es0++opt (!inR l.length 1 6) ⟨4,ByteArray.empty⟩))) ?_ fun K hK=>aA (fun hb=>?_) (fun hb=>?_)
 rotate_left
 ·simp only[go_sem,O];refine aY I ⟨rfl,rfl⟩ (by simp only[go_sem]) (by simp;omega) (fun X ag=>?_);simp only[go_sem];refine hK _ _ ⟨h1,T,X,rfl,?_⟩;rw[jQ (show(!inR l.length 1 6)=true from hb)];exact gE (l':=[⟨4,ByteArray.empty⟩]) rfl
 ·simp only[go_sem];refine hK _ _ ⟨h1,T,j,O,?_⟩;rw[jP (show(!inR l.length 1 6)=false from hb),Xah,I]
 rintro ρ H ⟨h1,T,j,O,I⟩;generalize Z:es0++opt (!inR l.length 1 6) (⟨4,ByteArray.empty⟩:Fault)=es1 at I;have ak:es1.length<=es0.length+1:=by rw[<-Z,Xae];have:=cT (!inR l.length 1 6) (⟨4,ByteArray.empty⟩:Fault);omega
 simp only[go_sem,];refine⟨fun ρ H=>∃k:Nat,k<=l.length/\ρ 1=.sl (l.map bF)/\ρ 2=.rp (bD n) 0/\ρ 6=int k/\∃j,ρ 5=.os j/\H j=some (bU (es1++(List.range k).flatMap (kA n l))),fun ρ _=>l.length-aR (ρ 6),⟨0,Xaa _,h1,T,by simp only[go_sem];rfl,j,O,by simpa using I⟩,?_⟩;rintro ρ H ⟨k,hk,h1,T,h6,j,O,I⟩;generalize ac:es1++(List.range k).flatMap (kA n l)=es at I;have aj:es.length<=9*k+1:=by have:=gF (f:=kA n l) (c:=9) (fun x=>by unfold kA;rw[Xab];exact AG _ _ _ _) (List.range k);rw[<-ac,Xae];rw[Xbd]at this;omega
 simp only[go_sem,h1,h6];refine aA (fun Y=>?_) (fun ab=>?_)
 ·have Y:=aV Y;have ae:k<=4611686018427387904:=by omega
  have af:es1++(List.range (k+1)).flatMap (kA n l)=es++kA n l k:=by rw[jA,<-Xaq,ac]
  simp only[go_sem,h1,T,h6];refine aH (aeI n l k Y hl hs hp) ?_;simp only[go_sem];have ah:=AG n l k (VN l k);have ad:kA n l k=(pD n l k (VN l k)).map fun e=>⟨e,lH k⟩:=rfl
  generalize pD n l k (VN l k)=er at ah ad;refine⟨fun ρ H=>∃m:Nat,m<=er.length/\ρ 1=.sl (l.map bF)/\ρ 2=.rp (bD n) 0/\ρ 6=int k/\ρ 7=.sl (er.map bC)/\ρ 8=int m/\∃j,ρ 5=.os j/\H j=some (bU (es++(er.take m).map fun e=>⟨e,lH k⟩)),fun ρ _=>er.length-aR (ρ 8),⟨0,Xaa _,h1,T,h6,rfl,by simp only[go_sem];rfl,j,O,by simpa using I⟩,?_⟩;rintro ρ H ⟨m,hm,h1,T,h6,h7,h8,j,O,I⟩;simp only[go_sem,h7,h8];refine aA (fun E=>?_) (fun J=>?_)
  ·have E:=aV E;obtain⟨e,he⟩:=aK E;have b2:=inB E;simp only[go_sem];refine HV (by kernel_rfl) ?_;simp only[go_sem,h6,O,h7,h8,b2,aC he];refine⟨_,(vF _ (by omega)).q rfl,?_⟩;simp only[go_sem];refine aY I ⟨rfl,rfl⟩ (by simp only[go_sem]) (by simp;omega) (fun X ag=>?_);simp only[go_sem,h1,T,h6,h7,h8,aQ m];refine⟨⟨m+1,E,rfl,X,rfl,?_⟩,by simp only[aL];omega⟩;rw[E2 he,<-Xaq];exact gE (l':=[⟨e,lH k⟩]) rfl
  ·have J:=aW hm J;subst J;simp only[go_sem,h1,T,h6,O,mC ae];refine⟨⟨k+1,Y,rfl,j,rfl,?_⟩,by simp only[aL];omega⟩;rw[af,I,ad,Xad]
 ·have ab:=aW hk ab;subst ab;simp only[go_sem,O];exact⟨_,rfl,by rw[I,<-ac,<-Z,<-aa];rfl⟩
def Dn(l:List Order)(k:Nat)(s:ByteArray):Bool:=(l.take k).any fun t=>t.name.toList == s.toList
def lW(P:Nat)(d T:Int)(l:List Order)(k:Nat)(o:Order):List Int:=
 []++opt (!nF o.name) 5++opt (Dn l k o.name) 6++opt (!eZ o.load d) 17++opt (!inR o.pick.place (-1) ((P:Int)-1)|| !inR o.drop.place (-1) ((P:Int)-1)) 11++opt (o.pick.place == -1&&o.drop.place == -1) 19++opt (gM o.pick != 0||gM o.drop != 0) 14++opt (!inR o.skills 0 1073741823) 18++opt (!inR o.penalty (-1) 1000000|| !inR o.split 1 4||decide (o.split>1)&&(o.pick.place != -1&&o.drop.place != -1)||decide (o.last< -1)||decide (o.last>=T)||decide (o.now< -1)||decide (o.now>=T)) 2
def adP(P:Nat)(d T:Int)(l:List Order)(k:Nat)(o:Order)(ho:l[k]?=some o)(hP:P<=1048576)(hl:l.length<=1048576)(hs:∀t∈l,t.name.size<=1048576/\t.load.length<=1048576):
  PC prog 61 [int P,int d,int T,.sl (l.map bJ),int k] (.sl ((lW P d T l k o).map bC)):=by
 refine pcb (fun t=>t == 11) func61 rfl rfl ?_;simp only[go_sem];have hk:k<l.length:=by
  rcases Xay k l.length with h|h
  ·exact h
  ·rw[List.getElem?_eq_none h]at ho;simp at ho
 have b1:=inB hk;have am:=hs o (lC ho);refine aN fun j hj=>?_
 simp only[go_sem,b1,aC ho];refine aN fun i Y=>?_
 simp only[go_sem];refine aI (aB _ _ _) (by simp[uV]) ?_;simp only[go_sem];refine aH (Ul _ am.1) ?_;simp only[go_sem];have J:j≠i:=bE (aB _ _ _) Y;refine rV (fun E H'=>E 0=int P/\E 1=int d/\E 2=int T/\E 3=.sl (l.map bJ)/\E 4=int k/\E 12=.op i 0 0/\H' i=some (nI o)/\∃O,E 11=.os O/\O≠i/\H' O=some (mF []))
  ⟨rfl,rfl,rfl,rfl,rfl,rfl,aB _ _ _,j,rfl,J,by rw[aJ _ _ _ _ J,aJ _ _ _ _ J,aB];rfl⟩ ?_
 rintro ρ H ⟨h0,h1,h2,h3,h4,F,Y,j,I,J,Z⟩;generalize af:([]:List Int)=es0 at Z;have ar:es0.length<=0:=by rw[<-af];exact Xaf _
 refine bN (fun E H'=>E 0=int P/\E 1=int d/\E 2=int T/\E 3=.sl (l.map bJ)/\E 4=int k/\E 12=.op i 0 0/\H' i=some (nI o)/\∃O,E 11=.os O/\O≠i/\H' O=some (mF (es0++opt (!nF o.name) 5))) ?_ fun K hK=>aA (fun hb=>?_) (fun hb=>?_)
 rotate_left
 ·simp only[go_sem,I];refine aY Z ⟨rfl,rfl⟩ (by simp only[go_sem]) (by simp;omega) (fun O X=>?_);simp only[go_sem];refine hK _ _ ⟨h0,h1,h2,h3,h4,F,dL Y J X,O,rfl,(bE Y X).symm,?_⟩;rw[jQ (show(!nF o.name)=true from hb)];exact iJ (l':=[5]) rfl
 ·simp only[go_sem];refine hK _ _ ⟨h0,h1,h2,h3,h4,F,Y,j,I,J,?_⟩;rw[jP (show(!nF o.name)=false from hb),Xah,Z]
 rintro ρ H ⟨h0,h1,h2,h3,h4,F,Y,j,I,J,Z⟩;generalize ab:es0++opt (!nF o.name) (5:Int)=es1 at Z;have ay:es1.length<=es0.length+1:=by rw[<-ab,Xae];have:=cT (!nF o.name) (5:Int);omega
 simp only[go_sem,];refine JQ (fun E H'=>E 0=int P/\E 1=int d/\E 2=int T/\E 3=.sl (l.map bJ)/\E 4=int k/\E 12=.op i 0 0/\H' i=some (nI o)/\∃O,E 11=.os O/\O≠i/\H' O=some (mF (es1++opt (Dn l k o.name) 6))) ?_ fun Q hQ _=>?_
 rotate_left
 ·refine ⟨fun E H' => ∃ m : Nat, m <= k /\ E 0 = int P /\ E 1 = int d /\ E 2 = int T /\ E 3 = .sl (l.map bJ) /\ E 4 = int k /\ E 12 = .op i 0 0 /\ E 11 = .os j /\ E 13 = int m /\ H' = H /\ ∀ t ∈ l.take m, (t.name.toList == o.name.toList) = false, fun ρ _ => k - aR (ρ 13),
   ⟨0,Xaa _,h0,h1,h2,h3,h4,F,I,by simp only[go_sem];rfl,rfl,by simp⟩,?_⟩
  rintro ρ H' ⟨m,hm,h0,h1,h2,h3,h4,F,I,al,rfl,hn⟩;simp only[go_sem,h4,al];refine aA (fun aa=>?_) (fun ak=>?_)
  ·have aa:=aV aa;obtain⟨t,ht⟩:=aK (show m<l.length by omega);have b2:=inB (show m<l.length by omega);simp only[go_sem];refine jK (by rfl) (by kernel_rfl) ?_;simp only[go_sem,h3,F,al,Y,b2,aC ht];refine aA (fun hb=>?_) (fun hb=>?_)
   ·simp only[go_sem,I];refine aY Z ⟨rfl,rfl⟩ (by simp only[go_sem]) (by simp;omega) (fun O X=>?_);simp only[go_sem];refine hQ _ _ ⟨h0,h1,h2,h3,h4,F,dL Y J X,O,rfl,(bE Y X).symm,?_⟩;rw[jQ (show Dn l k o.name=true from Xas.2 ⟨t,Xac (i:=m) (by rw[List.getElem?_take];simp[aa,ht]),hb⟩)];exact iJ (l':=[6]) rfl
   ·simp only[go_sem,h0,h1,h2,h3,h4,F,I,al,aQ m];exact⟨⟨m+1,aa,rfl,wB ht hn hb⟩,by simp only[aL];omega⟩
  ·have ak:=aW hm ak;subst ak;simp only[go_sem];refine hQ _ _ ⟨h0,h1,h2,h3,h4,F,Y,j,I,J,?_⟩;rw[jP (show Dn l m o.name=false from Xbf.2 fun t ht=>by simp[hn t ht]),Xah,Z]
 rintro ρ H ⟨h0,h1,h2,h3,h4,F,Y,j,I,J,Z⟩;generalize ae:es1++opt (Dn l k o.name) (6:Int)=es2 at Z;have ap:es2.length<=es1.length+1:=by rw[<-ae,Xae];have:=cT (Dn l k o.name) (6:Int);omega
 simp only[go_sem,h1,F,Y];refine aH (NW _ _ am.2) ?_;simp only[go_sem,];refine bN (fun E H'=>E 0=int P/\E 1=int d/\E 2=int T/\E 3=.sl (l.map bJ)/\E 4=int k/\E 12=.op i 0 0/\H' i=some (nI o)/\∃O,E 11=.os O/\O≠i/\H' O=some (mF (es2++opt (!eZ o.load d) 17))) ?_ fun K hK=>aA (fun hb=>?_) (fun hb=>?_)
 rotate_left
 ·simp only[go_sem,I];refine aY Z ⟨rfl,rfl⟩ (by simp only[go_sem]) (by simp;omega) (fun O X=>?_);simp only[go_sem];refine hK _ _ ⟨h0,h1,h2,h3,h4,F,dL Y J X,O,rfl,(bE Y X).symm,?_⟩;rw[jQ (show(!eZ o.load d)=true from hb)];exact iJ (l':=[17]) rfl
 ·simp only[go_sem];refine hK _ _ ⟨h0,h1,h2,h3,h4,F,Y,j,I,J,?_⟩;rw[jP (show(!eZ o.load d)=false from hb),Xah,Z]
 rintro ρ H ⟨h0,h1,h2,h3,h4,F,Y,j,I,J,Z⟩;generalize ag:es2++opt (!eZ o.load d) (17:Int)=es3 at Z;have ax:es3.length<=es2.length+1:=by rw[<-ag,Xae];have:=cT (!eZ o.load d) (17:Int);omega
 simp only[go_sem,h0,F,Y,xK (show P<=4611686018427387904 by omega)];refine aH (Gb _ _ _) ?_;simp only[go_sem,h0,F,Y,xK (show P<=4611686018427387904 by omega)];refine⟨_,fun _=>(Gb _ _ _).q rfl,?_⟩;simp only[go_sem,];refine bN (fun E H'=>E 0=int P/\E 1=int d/\E 2=int T/\E 3=.sl (l.map bJ)/\E 4=int k/\E 12=.op i 0 0/\H' i=some (nI o)/\∃O,E 11=.os O/\O≠i/\H' O=some (mF (es3++opt (!inR o.pick.place (-1) ((P:Int)-1)|| !inR o.drop.place (-1) ((P:Int)-1)) 11))) ?_ fun K hK=>aA (fun hb=>?_) (fun hb=>?_)
 rotate_left
 ·simp only[go_sem,I];refine aY Z ⟨rfl,rfl⟩ (by simp only[go_sem]) (by simp;omega) (fun O X=>?_);simp only[go_sem];refine hK _ _ ⟨h0,h1,h2,h3,h4,F,dL Y J X,O,rfl,(bE Y X).symm,?_⟩;rw[jQ (show(!inR o.pick.place (-1) ((P:Int)-1)|| !inR o.drop.place (-1) ((P:Int)-1))=true from hb)];exact iJ (l':=[11]) rfl
 ·simp only[go_sem];refine hK _ _ ⟨h0,h1,h2,h3,h4,F,Y,j,I,J,?_⟩;rw[jP (show(!inR o.pick.place (-1) ((P:Int)-1)|| !inR o.drop.place (-1) ((P:Int)-1))=false from hb),Xah,Z]
 rintro ρ H ⟨h0,h1,h2,h3,h4,F,Y,j,I,J,Z⟩;generalize ac:es3++opt (!inR o.pick.place (-1) ((P:Int)-1)|| !inR o.drop.place (-1) ((P:Int)-1)) (11:Int)=es4 at Z;have aq:es4.length<=es3.length+1:=by rw[<-ac,Xae];have:=cT (!inR o.pick.place (-1) ((P:Int)-1)|| !inR o.drop.place (-1) ((P:Int)-1)) (11:Int);omega
 simp only[go_sem,F,Y];refine bN (fun E H'=>E 0=int P/\E 1=int d/\E 2=int T/\E 3=.sl (l.map bJ)/\E 4=int k/\E 12=.op i 0 0/\H' i=some (nI o)/\∃O,E 11=.os O/\O≠i/\H' O=some (mF (es4++opt (o.pick.place == -1&&o.drop.place == -1) 19))) ?_ fun K hK=>aA (fun hb=>?_) (fun hb=>?_)
 rotate_left
 ·simp only[go_sem,I];refine aY Z ⟨rfl,rfl⟩ (by simp only[go_sem]) (by simp;omega) (fun O X=>?_);simp only[go_sem];refine hK _ _ ⟨h0,h1,h2,h3,h4,F,dL Y J X,O,rfl,(bE Y X).symm,?_⟩;rw[jQ (show(o.pick.place == -1&&o.drop.place == -1)=true from hb)];exact iJ (l':=[19]) rfl
 ·simp only[go_sem];refine hK _ _ ⟨h0,h1,h2,h3,h4,F,Y,j,I,J,?_⟩;rw[jP (show(o.pick.place == -1&&o.drop.place == -1)=false from hb),Xah,Z]
 rintro ρ H ⟨h0,h1,h2,h3,h4,F,Y,j,I,J,Z⟩;generalize ah:es4++opt (o.pick.place == -1&&o.drop.place == -1) (19:Int)=es5 at Z;have ao:es5.length<=es4.length+1:=by rw[<-ah,Xae];have:=cT (o.pick.place == -1&&o.drop.place == -1) (19:Int);omega
 simp only[go_sem,F,Y];refine aH (SQ _) ?_;simp only[go_sem,F,Y];refine⟨_,fun _=>(SQ _).q rfl,?_⟩;simp only[go_sem,];refine bN (fun E H'=>E 0=int P/\E 1=int d/\E 2=int T/\E 3=.sl (l.map bJ)/\E 4=int k/\E 12=.op i 0 0/\H' i=some (nI o)/\∃O,E 11=.os O/\O≠i/\H' O=some (mF (es5++opt (gM o.pick != 0||gM o.drop != 0) 14))) ?_ fun K hK=>aA (fun hb=>?_) (fun hb=>?_)
 rotate_left
 ·simp only[go_sem,I];refine aY Z ⟨rfl,rfl⟩ (by simp only[go_sem]) (by simp;omega) (fun O X=>?_);simp only[go_sem];refine hK _ _ ⟨h0,h1,h2,h3,h4,F,dL Y J X,O,rfl,(bE Y X).symm,?_⟩;rw[jQ (show(gM o.pick != 0||gM o.drop != 0)=true from hb)];exact iJ (l':=[14]) rfl
 ·simp only[go_sem];refine hK _ _ ⟨h0,h1,h2,h3,h4,F,Y,j,I,J,?_⟩;rw[jP (show(gM o.pick != 0||gM o.drop != 0)=false from hb),Xah,Z]
 rintro ρ H ⟨h0,h1,h2,h3,h4,F,Y,j,I,J,Z⟩;generalize ad:es5++opt (gM o.pick != 0||gM o.drop != 0) (14:Int)=es6 at Z;have au:es6.length<=es5.length+1:=by rw[<-ad,Xae];have:=cT (gM o.pick != 0||gM o.drop != 0) (14:Int);omega
 simp only[go_sem,F,Y];refine aH (Gb _ _ _) ?_;simp only[go_sem,];refine bN (fun E H'=>E 0=int P/\E 1=int d/\E 2=int T/\E 3=.sl (l.map bJ)/\E 4=int k/\E 12=.op i 0 0/\H' i=some (nI o)/\∃O,E 11=.os O/\O≠i/\H' O=some (mF (es6++opt (!inR o.skills 0 1073741823) 18))) ?_ fun K hK=>aA (fun hb=>?_) (fun hb=>?_)
 rotate_left
 ·simp only[go_sem,I];refine aY Z ⟨rfl,rfl⟩ (by simp only[go_sem]) (by simp;omega) (fun O X=>?_);simp only[go_sem];refine hK _ _ ⟨h0,h1,h2,h3,h4,F,dL Y J X,O,rfl,(bE Y X).symm,?_⟩;rw[jQ (show(!inR o.skills 0 1073741823)=true from hb)];exact iJ (l':=[18]) rfl
 ·simp only[go_sem];refine hK _ _ ⟨h0,h1,h2,h3,h4,F,Y,j,I,J,?_⟩;rw[jP (show(!inR o.skills 0 1073741823)=false from hb),Xah,Z]
 rintro ρ H ⟨h0,h1,h2,h3,h4,F,Y,j,I,J,Z⟩;generalize aj:es6++opt (!inR o.skills 0 1073741823) (18:Int)=es7 at Z;have aw:es7.length<=es6.length+1:=by rw[<-aj,Xae];have:=cT (!inR o.skills 0 1073741823) (18:Int);omega
 simp only[go_sem,F,Y];refine aH (Gb _ _ _) ?_;simp only[go_sem,F,Y];refine⟨_,fun _=>(Gb _ _ _).q rfl,?_⟩;simp only[go_sem,h2,F,Y];refine bN (fun E H'=>E 0=int P/\E 1=int d/\E 2=int T/\E 3=.sl (l.map bJ)/\E 4=int k/\E 12=.op i 0 0/\H' i=some (nI o)/\∃O,E 11=.os O/\O≠i/\H' O=some (mF (es7++opt (!inR o.penalty (-1) 1000000|| !inR o.split 1 4||decide (o.split>1)&&(o.pick.place != -1&&o.drop.place != -1)||decide (o.last< -1)||decide (o.last>=T)||decide (o.now< -1)||decide (o.now>=T)) 2))) ?_ fun K hK=>aA (fun hb=>?_) (fun hb=>?_)
 rotate_left
 ·simp only[go_sem,I];refine aY Z ⟨rfl,rfl⟩ (by simp only[go_sem]) (by simp;omega) (fun O X=>?_);simp only[go_sem];refine hK _ _ ⟨h0,h1,h2,h3,h4,F,dL Y J X,O,rfl,(bE Y X).symm,?_⟩;rw[jQ (show(!inR o.penalty (-1) 1000000|| !inR o.split 1 4||decide (o.split>1)&&(o.pick.place != -1&&o.drop.place != -1)||decide (o.last< -1)||decide (o.last>=T)||decide (o.now< -1)||decide (o.now>=T))=true from hb)];exact iJ (l':=[2]) rfl
 ·simp only[go_sem];refine hK _ _ ⟨h0,h1,h2,h3,h4,F,Y,j,I,J,?_⟩;rw[jP (show(!inR o.penalty (-1) 1000000|| !inR o.split 1 4||decide (o.split>1)&&(o.pick.place != -1&&o.drop.place != -1)||decide (o.last< -1)||decide (o.last>=T)||decide (o.now< -1)||decide (o.now>=T))=false from hb),Xah,Z]
 rintro ρ H ⟨h0,h1,h2,h3,h4,F,Y,j,I,J,Z⟩;generalize ai:es7++opt (!inR o.penalty (-1) 1000000|| !inR o.split 1 4||decide (o.split>1)&&(o.pick.place != -1&&o.drop.place != -1)||decide (o.last< -1)||decide (o.last>=T)||decide (o.now< -1)||decide (o.now>=T)) (2:Int)=es8 at Z;have av:es8.length<=es7.length+1:=by rw[<-ai,Xae];have:=cT (!inR o.penalty (-1) 1000000|| !inR o.split 1 4||decide (o.split>1)&&(o.pick.place != -1&&o.drop.place != -1)||decide (o.last< -1)||decide (o.last>=T)||decide (o.now< -1)||decide (o.now>=T)) (2:Int);omega
 simp only[go_sem,I];have an:lW P d T l k o=es8:=by unfold lW;rw[af,ab,ae,ag,ac,ah,ad,aj,ai]
 rw[an];exact .row _ _ _ Z (ConvE.refl _)
def mV(w:ByteArray)(f:Fault):Fault:=⟨f.err,match f.at_.toList == (⟨#[]⟩:ByteArray).toList with|true=>w|false=>w++⟨#[32]⟩++f.at_⟩
def HU(w:ByteArray)(l:List Fault)(hw:w.size<=1048576)(hl:l.length<=5000000000000)(hs:∀f∈l,f.at_.size<=268435456):
  NC prog 29 [str w,.sl (l.map iH)] (bU (l.map (mV w))) .os:=by
 refine ncb (fun t=>t == 5) func29 rfl rfl ?_;simp only[go_sem];refine aN fun j hj=>?_
 simp only[go_sem];refine⟨fun ρ H=>∃k:Nat,k<=l.length/\ρ 0=str w/\ρ 1=.sl (l.map iH)/\ρ 6=int k/\∃j,ρ 5=.os j/\H j=some (bU ((l.take k).map (mV w))),fun ρ _=>l.length-aR (ρ 6),⟨0,Xaa _,rfl,rfl,rfl,j,rfl,aB _ _ _⟩,?_⟩;rintro ρ H ⟨k,hk,h0,h1,I,j,O,hH⟩;simp only[go_sem,h1,I];refine aA (fun E=>?_) (fun J=>?_)
 ·have E:=aV E;obtain⟨f,T⟩:=aK E;have Z:=inB E;have ab:=hs f (lC T);simp only[go_sem,h0,h1,I,Z,aC T];refine bN (fun F H'=>F 0=str w/\F 1=.sl (l.map iH)/\F 6=int k/\F 5=.os j/\F 7=str (mV w f).at_/\H'=H) ?_ fun K hK=>aA (fun Y=>?_) (fun Y=>?_)
  ·clear h0 h1 I O;rintro ρ H ⟨h0,h1,I,O,h7,rfl⟩;simp only[go_sem,h1,I,O,h7,Z,aC T];refine aY hH ⟨rfl,rfl⟩ (by simp only[go_sem]) (by simp;omega) (fun j' ac=>?_);simp only[go_sem,h0,h1,I,aQ k];refine⟨⟨k+1,E,rfl,j',rfl,?_⟩,msr E⟩;rw[E2 T];exact gE (l':=[mV w f]) rfl
  ·simp only[go_sem,h0,h1,I,Z,aC T];have aa:(#[32]:Array UInt8).size=1:=rfl;refine⟨by rw[AF];omega,by rw[AF];omega,hK _ _ ⟨h0,h1,I,O,?_,rfl⟩⟩;have X:(f.at_.toList == (⟨#[]⟩:ByteArray).toList)=false:=by have:=Y;revert this;cases(f.at_.toList == (⟨#[]⟩:ByteArray).toList) <;> simp
   simp only[go_sem,mV,X]
  ·simp only[go_sem];refine hK _ _ ⟨h0,h1,I,O,?_,rfl⟩;have X:(f.at_.toList == (⟨#[]⟩:ByteArray).toList)=true:=by have:=Y;revert this;cases(f.at_.toList == (⟨#[]⟩:ByteArray).toList) <;> simp
   simp only[go_sem,mV,X]
 ·have J:=aW hk J;subst J;simp only[go_sem,O];exact⟨_,rfl,by rw[hH,Xad]⟩
def abU(l:List Order)(i:Nat):Order:=l.getD i ⟨ByteArray.empty,[],⟨0,0,0,0⟩,⟨0,0,0,0⟩,0,0,0,0,0,false⟩
def Kj{l:List Order}{k:Nat}{p:Order}(h:l[k]?=some p):abU l k=p:=by simp[abU,List.getD,h]
def iE(n:Network)(d T:Int)(l:List Order)(k:Nat):List Fault:=(lW n.places.length d T l k (abU l k)).map fun e=>⟨e,lH k⟩
def tF(n:Network)(d T:Int)(l:List Order):List Fault:=opt (decide ((l.length:Int)>10)) ⟨4,ByteArray.empty⟩++(List.range l.length).flatMap (iE n d T l)
def xT(P:Nat)(d T:Int)(l:List Order)(k:Nat)(o:Order):(lW P d T l k o).length<=9:=by
 unfold lW;simp only[Xae,List.length_nil];have h:=fun(b:Bool) (x:Int)=>cT b x
 have h1:=h (!nF o.name) 5;have J:=h (Dn l k o.name) 6;have I:=h (!eZ o.load d) 17;have Y:=h (!inR o.pick.place (-1) ((P:Int)-1)|| !inR o.drop.place (-1) ((P:Int)-1)) 11;have E:=h (o.pick.place == -1&&o.drop.place == -1) 19;have F:=h (gM o.pick != 0||gM o.drop != 0) 14;have O:=h (!inR o.skills 0 1073741823) 18;have X:=h (!inR o.penalty (-1) 1000000|| !inR o.split 1 4||decide (o.split>1)&&(o.pick.place != -1&&o.drop.place != -1)||decide (o.last< -1)||decide (o.last>=T)||decide (o.now< -1)||decide (o.now>=T)) 2;omega
def IE(n:Network)(d T:Int)(l:List Order)(hl:l.length<=1048576)(hs:∀t∈l,t.name.size<=1048576/\t.load.length<=1048576)(hp:n.places.length<=1048576):
  NC prog 32 [.agg (bD n),int d,int T,.sl (l.map bJ)] (bU (tF n d T l)) .os:=by
 refine ncb (fun t=>t == 9) func32 rfl rfl ?_;simp only[go_sem];refine aN fun j hj=>?_
 simp only[go_sem];refine rV (fun E H'=>E 1=int d/\E 2=int T/\E 3=.sl (l.map bJ)/\E 4=.rp (bD n) 0/\∃j',E 9=.os j'/\H' j'=some (bU [])) ⟨rfl,rfl,rfl,rfl,_,rfl,aB _ _ _⟩ ?_;rintro ρ H ⟨h1,h2,O,Y,j,Z,J⟩;generalize ac:([]:List Fault)=es0 at J;have am:es0.length<=0:=by rw[<-ac];exact Xaf _
 refine bN (fun E H'=>E 1=int d/\E 2=int T/\E 3=.sl (l.map bJ)/\E 4=.rp (bD n) 0/\∃j',E 9=.os j'/\H' j'=some (bU (es0++opt (decide ((l.length:Int)>10)) ⟨4,ByteArray.empty⟩))) ?_ fun K hK=>aA (fun hb=>?_) (fun hb=>?_)
 rotate_left
 ·simp only[go_sem,Z];refine aY J ⟨rfl,rfl⟩ (by simp only[go_sem]) (by simp;omega) (fun j' ak=>?_);simp only[go_sem];refine hK _ _ ⟨h1,h2,O,Y,j',rfl,?_⟩;rw[jQ (show(decide ((l.length:Int)>10))=true from hb)];exact gE (l':=[⟨4,ByteArray.empty⟩]) rfl
 ·simp only[go_sem];refine hK _ _ ⟨h1,h2,O,Y,j,Z,?_⟩;rw[jP (show(decide ((l.length:Int)>10))=false from hb),Xah,J]
 rintro ρ H ⟨h1,h2,O,Y,j,Z,J⟩;generalize ab:es0++opt (decide ((l.length:Int)>10)) (⟨4,ByteArray.empty⟩:Fault)=es1 at J;have ao:es1.length<=es0.length+1:=by rw[<-ab,Xae];have:=cT (decide ((l.length:Int)>10)) (⟨4,ByteArray.empty⟩:Fault);omega
 simp only[go_sem,];refine⟨fun ρ H=>∃k:Nat,k<=l.length/\ρ 1=int d/\ρ 2=int T/\ρ 3=.sl (l.map bJ)/\ρ 4=.rp (bD n) 0/\ρ 10=int k/\∃j,ρ 9=.os j/\H j=some (bU (es1++(List.range k).flatMap (iE n d T l))),fun ρ _=>l.length-aR (ρ 10),⟨0,Xaa _,h1,h2,O,Y,by simp only[go_sem];rfl,j,Z,by simpa using J⟩,?_⟩;rintro ρ H ⟨k,hk,h1,h2,O,Y,I,j,Z,J⟩;generalize ag:es1++(List.range k).flatMap (iE n d T l)=es at J;have an:es.length<=9*k+1:=by have:=gF (f:=iE n d T l) (c:=9) (fun x=>by unfold iE;rw[Xab];exact xT _ _ _ _ _ _) (List.range k);rw[<-ag,Xae];rw[Xbd]at this;omega
 simp only[go_sem,O,I];refine aA (fun aa=>?_) (fun ad=>?_)
 ·have aa:=aV aa;have ai:k<=4611686018427387904:=by omega
  have aj:es1++(List.range (k+1)).flatMap (iE n d T l)=es++iE n d T l k:=by rw[jA,<-Xaq,ag]
  simp only[go_sem,h1,h2,O,Y,I];obtain⟨o,ho⟩:=aK aa;rw[<-Kj ho]at ho;refine aH (adP n.places.length d T l k _ ho hp hl hs) ?_;simp only[go_sem];have al:=xT n.places.length d T l k (abU l k);have ah:iE n d T l k=(lW n.places.length d T l k (abU l k)).map fun e=>⟨e,lH k⟩:=rfl
  generalize lW n.places.length d T l k (abU l k)=er at al ah;refine⟨fun ρ H=>∃m:Nat,m<=er.length/\ρ 1=int d/\ρ 2=int T/\ρ 3=.sl (l.map bJ)/\ρ 4=.rp (bD n) 0/\ρ 10=int k/\ρ 11=.sl (er.map bC)/\ρ 12=int m/\∃j,ρ 9=.os j/\H j=some (bU (es++(er.take m).map fun e=>⟨e,lH k⟩)),fun ρ _=>er.length-aR (ρ 12),⟨0,Xaa _,h1,h2,O,Y,I,rfl,by simp only[go_sem];rfl,j,Z,by simpa using J⟩,?_⟩;rintro ρ H ⟨m,hm,h1,h2,O,Y,I,ae,af,j,Z,J⟩;simp only[go_sem,ae,af];refine aA (fun F=>?_) (fun X=>?_)
  ·have F:=aV F;obtain⟨e,he⟩:=aK F;have b2:=inB F;simp only[go_sem];refine HV (by kernel_rfl) ?_;simp only[go_sem,I,Z,ae,af,b2,aC he];refine⟨_,(vF _ (by omega)).q rfl,?_⟩;simp only[go_sem];refine aY J ⟨rfl,rfl⟩ (by simp only[go_sem]) (by simp;omega) (fun j' ak=>?_);simp only[go_sem,h1,h2,O,Y,I,ae,af,aQ m];refine⟨⟨m+1,F,rfl,j',rfl,?_⟩,by simp only[aL];omega⟩;rw[E2 he,<-Xaq];exact gE (l':=[⟨e,lH k⟩]) rfl
  ·have X:=aW hm X;subst X;simp only[go_sem,h1,h2,O,Y,I,Z,mC ai];refine⟨⟨k+1,aa,rfl,j,rfl,?_⟩,by simp only[aL];omega⟩;rw[aj,J,ah,Xad]
 ·have ad:=aW hk ad;subst ad;simp only[go_sem,Z];exact⟨_,rfl,by rw[J,<-ag,<-ab,<-ac];rfl⟩
def pAt(l:List Pair)(i:Nat):Pair:=l.getD i ⟨0,0⟩
def Pg{l:List Pair}{k:Nat}{p:Pair}(h:l[k]?=some p):pAt l k=p:=by simp[pAt,List.getD,h]
def Bz(w:ByteArray)(k:Nat):ByteArray:=w++⟨#[32]⟩++lH k
def oG(N:Int)(p:Pair):Bool:=decide (p.a<0)||decide (p.a>=N)||decide (p.b<0)||decide (p.b>=N)||p.a == p.b
def B0(b:Bool)(p q:Pair):Bool:=(q.a == p.a&&q.b == p.b)||(b&&q.a == p.b&&q.b == p.a)
def iO(N:Int)(l:List Pair)(w:ByteArray)(b:Bool)(k:Nat):List Fault:=match oG N (pAt l k)with
 | true=>[⟨2,Bz w k⟩]
 | false=>opt ((l.take k).any (B0 b (pAt l k))) ⟨6,Bz w k⟩
def BR(N:Int)(l:List Pair)(w:ByteArray)(b:Bool)(k:Nat):(iO N l w b k).length<=1:=by
 unfold iO;split
 ·simp
 ·exact cT _ _
def yM(N:Int)(l:List Pair)(w:ByteArray)(b:Bool):List Fault:=opt (decide ((l.length:Int)>16)) ⟨4,w⟩++(List.range l.length).flatMap (iO N l w b)
def Si(N:Int)(l:List Pair)(w:ByteArray)(b:Bool)(hl:l.length<=1048576)(hw:w.size<=1048576):
  NC prog 62 [int N,.sl (l.map dH),str w,boo b] (bU (yM N l w b)) .os:=by
 refine ncb (fun t=>t == 9) func62 rfl rfl ?_;simp only[go_sem];refine aN fun j hj=>?_
 simp only[go_sem];refine rV (fun E H'=>E 0=int N/\E 1=.sl (l.map dH)/\E 2=str w/\E 3=boo b/\∃Y,E 9=.os Y/\H' Y=some (bU [])) ⟨rfl,rfl,rfl,rfl,_,rfl,aB _ _ _⟩ ?_;rintro ρ H ⟨h0,h1,I,T,j,O,J⟩;generalize ac:([]:List Fault)=es0 at J;have ao:es0.length<=0:=by rw[<-ac];exact Xaf _
 refine bN (fun E H'=>E 0=int N/\E 1=.sl (l.map dH)/\E 2=str w/\E 3=boo b/\∃Y,E 9=.os Y/\H' Y=some (bU (es0++opt (decide ((l.length:Int)>16)) ⟨4,w⟩))) ?_ fun K hK=>aA (fun hb=>?_) (fun hb=>?_)
 rotate_left
 ·simp only[go_sem,I,O];refine aY J ⟨rfl,rfl⟩ (by simp only[go_sem]) (by simp;omega) (fun Y al=>?_);simp only[go_sem];refine hK _ _ ⟨h0,h1,I,T,Y,rfl,?_⟩;rw[jQ (show(decide ((l.length:Int)>16))=true from hb)];exact gE (l':=[⟨4,w⟩]) rfl
 ·simp only[go_sem];refine hK _ _ ⟨h0,h1,I,T,j,O,?_⟩;rw[jP (show(decide ((l.length:Int)>16))=false from hb),Xah,J]
 rintro ρ H ⟨h0,h1,I,T,j,O,J⟩;generalize ab:es0++opt (decide ((l.length:Int)>16)) (⟨4,w⟩:Fault)=es1 at J;have aq:es1.length<=es0.length+1:=by rw[<-ab,Xae];have:=cT (decide ((l.length:Int)>16)) (⟨4,w⟩:Fault);omega
 simp only[go_sem,];refine⟨fun ρ H=>∃k:Nat,k<=l.length/\ρ 0=int N/\ρ 1=.sl (l.map dH)/\ρ 2=str w/\ρ 3=boo b/\ρ 10=int k/\∃j,ρ 9=.os j/\H j=some (bU (es1++(List.range k).flatMap (iO N l w b))),fun ρ _=>l.length-aR (ρ 10),
  ⟨0,Xaa _,h0,h1,I,T,by simp only[go_sem];rfl,j,O,by simpa using J⟩,?_⟩
 rintro ρ H ⟨k,hk,h0,h1,I,T,F,j,O,J⟩;generalize af:es1++(List.range k).flatMap (iO N l w b)=es at J;have ap:es.length<=k+1:=by have:=gF (BR N l w b) (List.range k);rw[<-af,Xae];rw[Xbd]at this;omega
 simp only[go_sem,h1,F];refine aA (fun X=>?_) (fun ad=>?_)
 ·have X:=aV X;have ag:k<=4611686018427387904:=by omega
  obtain⟨p,hp⟩:=aK X;have b1:=inB X;have au:=qB k;have ar:(#[32]:Array UInt8).size=1:=rfl;have ae:es1++(List.range (k+1)).flatMap (iO N l w b)=es++iO N l w b k:=by rw[jA,<-Xaq,af]
  simp only[go_sem,h1,I,F,b1,aC hp];refine⟨by omega,by omega,by rw[AF];omega,?_⟩;refine aH (anC _ (by omega)) ?_;simp only[go_sem,h0,];refine⟨by rw[AF];omega,?_⟩;refine aA (fun hb=>?_) (fun hb=>?_)
  ·simp only[go_sem,O];refine aY J ⟨rfl,rfl⟩ (by simp only[go_sem]) (by simp;omega) (fun Y al=>?_);simp only[go_sem,h0,h1,I,T,F,mC ag];refine⟨⟨k+1,X,rfl,Y,rfl,?_⟩,by simp only[aL];omega⟩;have hn:oG N (pAt l k)=true:=by rw[Pg hp];exact hb
   rw[ae,iO,hn];exact gE (l':=[⟨2,Bz w k⟩]) rfl
  ·simp only[go_sem,];have hn:oG N (pAt l k)=false:=by rw[Pg hp];exact hb
   refine⟨fun ρ H'=>∃m:Nat,m<=k/\ρ 0=int N/\ρ 1=.sl (l.map dH)/\ρ 2=str w/\ρ 3=boo b/\ρ 9=.os j/\ρ 10=int k/\ρ 11=int p.a/\ρ 12=int p.b/\ρ 13=str (Bz w k)/\ρ 14=boo ((l.take m).any (B0 b p))/\ρ 15=int m/\H'=H,fun ρ _=>k-aR (ρ 15),
    ⟨0,Xaa _,h0,h1,I,T,O,F,rfl,rfl,by simp only[go_sem];rfl,by simp only[go_sem];rfl,by simp only[go_sem];rfl,rfl⟩,?_⟩
   rintro ρ H' ⟨m,hm,h0,h1,I,T,O,F,am,an,aj,ah,ak,rfl⟩;simp only[go_sem,F,ak];refine aA (fun Z=>?_) (fun aa=>?_)
   ·have Z:=aV Z;obtain⟨q,hq⟩:=aK (show m<l.length by omega);have b2:=inB (show m<l.length by omega);simp only[go_sem,h0,h1,I,T,O,F,am,an,aj,ah,ak,b2,aC hq,aQ m];refine⟨fun _=>by omega,fun _=>by omega,fun _=>by omega,fun _=>by omega,⟨m+1,Z,?_,rfl⟩,by simp only[aL];omega⟩;rw[JX hq];simp only[B0,Bool.or_assoc]
   ·have aa:=aW hm aa;subst aa;simp only[go_sem,ah];have ai:(l.take m).any (B0 b (pAt l m))=(l.take m).any (B0 b p):=by rw[Pg hp]
    refine gU (fun E H'=>E 0=int N/\E 1=.sl (l.map dH)/\E 2=str w/\E 3=boo b/\E 10=int m/\∃j,E 9=.os j/\H' j=some (bU (es1++(List.range (m+1)).flatMap (iO N l w b)))) ?_ fun K hK _ _=>aA (fun hb=>?_) (fun hb=>?_)
    ·clear J h0 h1 I T O F;rintro ρ H ⟨h0,h1,I,T,F,j,O,J⟩;simp only[go_sem,h0,h1,I,T,O,F,mC ag];exact⟨⟨m+1,X,rfl,j,rfl,J⟩,by simp only[aL];omega⟩
    ·simp only[go_sem,O,aj];refine aY J ⟨rfl,rfl⟩ (by simp only[go_sem]) (by simp;omega) (fun Y al=>?_);simp only[go_sem];refine hK _ _ ⟨h0,h1,I,T,F,Y,rfl,?_⟩;rw[ae,iO,hn];show _=some (bU (es++opt _ ⟨6,Bz w m⟩));rw[jQ (ai.trans hb)];exact gE (l':=[⟨6,Bz w m⟩]) rfl
    ·simp only[go_sem];refine hK _ _ ⟨h0,h1,I,T,F,j,O,?_⟩;rw[ae,iO,hn];show _=some (bU (es++opt _ ⟨6,Bz w m⟩));rw[jP (ai.trans hb),Xah,J]
 ·have ad:=aW hk ad;subst ad;simp only[go_sem,O];exact⟨_,rfl,by rw[J,<-af,<-ab,<-ac];rfl⟩
def sG:∀l:List Fault,dM 2 (l.map iH)
 | []=>trivial
 | f::r=>⟨rfl,sG r⟩
def AK(N:Int)(l:List Pair)(w:ByteArray)(b:Bool):(yM N l w b).length<=l.length+1:=by have:=gF (BR N l w b) (List.range l.length);have E:=cT (decide ((l.length:Int)>16)) (⟨4,w⟩:Fault);rw[yM,Xae];rw[Xbd]at this;omega
def Ol(N:Int)(E F:List Pair)(T:E.length<=1048576)(I:F.length<=1048576):
  NC prog 34 [int N,.sl (E.map dH),.sl (F.map dH)] (bU (yM N E ⟨#[97,112,97,114,116]⟩ true++yM N F ⟨#[98,101,102,111,114,101]⟩ false)) .os:=by
 refine ncb (fun t=>t == 7) func34 rfl rfl ?_;simp only[go_sem];refine NC.use (Si N E ⟨#[97,112,97,114,116]⟩ true T (by decide)) fun j Y=>?_
 simp only[go_sem];refine NC.use (Si N F ⟨#[98,101,102,111,114,101]⟩ false I (by decide)) fun i O=>?_
 simp only[go_sem];have X:=AK N E ⟨#[97,112,97,114,116]⟩ true;have l2:=AK N F ⟨#[98,101,102,111,114,101]⟩ false;refine DN (eT (aB _ _ _) O) (aB _ _ _) ⟨rfl,rfl⟩ (sG _) (by simp;omega) (fun Z J=>?_);simp only[go_sem];exact⟨_,rfl,gE rfl⟩
def NC.pc{f:FuncId}{args:List AV}{row:Row}(h:NC prog f args row .os):PC prog f args (.sl row.es):=
 RC.conv (RC.mono h fun r H' ⟨k,e,E⟩=>by subst e;exact .row k row row.es E (ConvE.refl _))
def pH(l:List Arc)(i:Nat):Arc:=l.getD i ⟨0,0,0,0,[],[]⟩
def tB{l:List Arc}{k:Nat}{p:Arc}(h:l[k]?=some p):pH l k=p:=by simp[pH,List.getD,h]
def iT(k:Nat):ByteArray:=⟨#[97,114,99,32]⟩++lH k
def AT(N:Int)(a:Arc):Bool:=decide (a.src<0)||decide (a.src>=N)||decide (a.dst<0)||decide (a.dst>=N)
def Dx(a:Arc):Bool:=decide (a.profile<0)||decide (a.profile>7)||decide (a.miles<0)||decide (a.miles>10000)||a.src == a.dst
def uS(a b:Arc):Bool:=a.src == b.src&&a.dst == b.dst&&a.profile == b.profile
def qT(l:List Point)(i:Nat):Bool:= !inR (eM l i).t 0 4096|| !inR (eM l i).a 0 4096||decide ((i:Int)>0)&&decide ((eM l i).t<=(eM l (i-1)).t)
def I9(n:Network)(k:Nat):List Fault:=
 []++opt (AT n.places.length (pH n.arcs k)) ⟨11,iT k⟩++opt (Dx (pH n.arcs k)) ⟨2,iT k⟩++opt ((n.arcs.take k).any (uS (pH n.arcs k))) ⟨6,iT k⟩
   ++ (jJ (pH n.arcs k).travel).map (fun f=>⟨f.err,iT k⟩)++opt (decide (((pH n.arcs k).slow.length:Int)>16)) ⟨4,iT k⟩
   ++ (List.range (pH n.arcs k).slow.length).flatMap fun i=>opt (qT (pH n.arcs k).slow i) ⟨2,iT k⟩
def Mf(l:List Point)(E:l.length<=1048576):PC prog 103 [.sl (l.map bZ)] (.sl ((jJ l).map iH)):=NC.pc (ahF l E)
def G1(l:List Point):(jJ l).length<=2*l.length+1:=by have:=gF (akC l) (List.range l.length);have E:=cT (DK l.length 1 16) (⟨4,ByteArray.empty⟩:Fault);rw[jJ,Xae];rw[Xbd]at this;omega
def awT(n:Network)(k:Nat)(hk:k<n.arcs.length)(hp:n.places.length<=1048576)(hl:n.arcs.length<=1048576)(hs:∀a∈n.arcs,a.travel.length<=1048576/\a.slow.length<=1048576):
  NC prog 57 [.agg (bD n),int k] (bU (I9 n k)) .os:=by
 refine ncb (fun t=>t == 5) func57 rfl rfl ?_;simp only[go_sem];obtain⟨a,ha⟩:=aK hk;have b1:=inB hk;have aw:=hs a (lC ha);have a8:=qB k;refine aN fun j hj=>?_
 simp only[go_sem];refine aH (vF _ (by omega)) ?_;simp only[go_sem,b1,aC ha];have h4:(#[97,114,99,32]:Array UInt8).size=4:=rfl;refine⟨by rw[AF];omega,aN fun i I=>?_⟩;simp only[go_sem];refine aI (aB _ _ _) (by simp[iZ]) ?_;simp only[go_sem];have F:j≠i:=bE (aB _ _ _) I;have ax:iT k=⟨#[97,114,99,32]⟩++lH k:=rfl;refine rV (fun E H'=>E 1=int k/\E 2=.rp (bD n) 0/\E 6=str (iT k)/\E 7=.op i 0 0/\H' i=some (yF a)/\∃X,E 5=.os X/\X≠i/\H' X=some (bU []))
  ⟨rfl,rfl,by simp only[go_sem,ax],rfl,aB _ _ _,j,rfl,F,by rw[aJ _ _ _ _ F,aJ _ _ _ _ F,aB];rfl⟩ ?_
 rintro ρ H ⟨h1,h2,Y,T,I,j,h5,F,O⟩;generalize af:([]:List Fault)=es0 at O;have az:es0.length<=0:=by rw[<-af];exact Xaf _
 refine bN (fun E H'=>E 1=int k/\E 2=.rp (bD n) 0/\E 6=str (iT k)/\E 7=.op i 0 0/\H' i=some (yF a)/\∃X,E 5=.os X/\X≠i/\H' X=some (bU (es0++opt (AT n.places.length a) ⟨11,iT k⟩))) ?_ fun K hK=>aA (fun hb=>?_) (fun hb=>?_)
 rotate_left
 ·simp only[go_sem,Y,h5];refine aY O ⟨rfl,rfl⟩ (by simp only[go_sem]) (by simp;omega) (fun X J=>?_);simp only[go_sem];refine hK _ _ ⟨h1,h2,Y,T,dL I F J,X,rfl,(bE I J).symm,?_⟩;rw[jQ (show(AT n.places.length a)=true from hb)];exact gE (l':=[⟨11,iT k⟩]) rfl
 ·simp only[go_sem];refine hK _ _ ⟨h1,h2,Y,T,I,j,h5,F,?_⟩;rw[jP (show(AT n.places.length a)=false from hb),Xah,O]
 rintro ρ H ⟨h1,h2,Y,T,I,j,h5,F,O⟩;generalize ae:es0++opt (AT n.places.length a) (⟨11,iT k⟩:Fault)=es1 at O;have a4:es1.length<=es0.length+1:=by rw[<-ae,Xae];have:=cT (AT n.places.length a) (⟨11,iT k⟩:Fault);omega
 simp only[go_sem,T,I];refine bN (fun E H'=>E 1=int k/\E 2=.rp (bD n) 0/\E 6=str (iT k)/\E 7=.op i 0 0/\H' i=some (yF a)/\∃X,E 5=.os X/\X≠i/\H' X=some (bU (es1++opt (Dx a) ⟨2,iT k⟩))) ?_ fun K hK=>aA (fun hb=>?_) (fun hb=>?_)
 rotate_left
 ·simp only[go_sem,Y,h5];refine aY O ⟨rfl,rfl⟩ (by simp only[go_sem]) (by simp;omega) (fun X J=>?_);simp only[go_sem];refine hK _ _ ⟨h1,h2,Y,T,dL I F J,X,rfl,(bE I J).symm,?_⟩;rw[jQ (show(Dx a)=true from hb)];exact gE (l':=[⟨2,iT k⟩]) rfl
 ·simp only[go_sem];refine hK _ _ ⟨h1,h2,Y,T,I,j,h5,F,?_⟩;rw[jP (show(Dx a)=false from hb),Xah,O]
 rintro ρ H ⟨h1,h2,Y,T,I,j,h5,F,O⟩;generalize ai:es1++opt (Dx a) (⟨2,iT k⟩:Fault)=es2 at O;have ay:es2.length<=es1.length+1:=by rw[<-ai,Xae];have:=cT (Dx a) (⟨2,iT k⟩:Fault);omega
 simp only[go_sem,];refine⟨fun E H'=>∃m:Nat,m<=k/\E 1=int k/\E 2=.rp (bD n) 0/\E 6=str (iT k)/\E 7=.op i 0 0/\E 5=.os j/\E 8=boo ((n.arcs.take m).any (uS a))/\E 9=int m/\H' i=some (yF a)/\H' j=some (bU es2),fun ρ _=>k-aR (ρ 9),
  ⟨0,Xaa _,h1,h2,Y,T,h5,by simp only[go_sem];rfl,by simp only[go_sem];rfl,I,O⟩,?_⟩
 rintro ρ H ⟨m,hm,h1,h2,Y,T,h5,h8,h9,I,O⟩;simp only[go_sem,h1,h9];refine aA (fun Z=>?_) (fun aa=>?_)
 ·have Z:=aV Z;obtain⟨c,hc⟩:=aK (show m<n.arcs.length by omega);have b2:=inB (show m<n.arcs.length by omega);simp only[go_sem,h2,h9,b2,aC hc];refine aN fun x hx=>?_
  simp only[go_sem];refine aI (aB _ _ _) (by simp[iZ]) ?_;have ac:=bE I hx;have ad:=bE O hx;simp only[go_sem,h1,h2,Y,T,h5,h8,h9,aJ _ _ _ _ ac,I,aQ m];refine⟨⟨m+1,Z,?_,rfl,?_⟩,by simp only[aL];omega⟩
  ·rw[JX hc];simp only[uS]
  ·rw[aJ _ _ _ _ ad,aJ _ _ _ _ ad,O]
 ·have aa:=aW hm aa;subst aa;simp only[go_sem,h8];refine bN (fun E H'=>E 6=str (iT m)/\E 7=.op i 0 0/\H' i=some (yF a)/\∃X,E 5=.os X/\X≠i/\H' X=some (bU (es2++opt ((n.arcs.take m).any (uS a)) ⟨6,iT m⟩))) ?_ fun K hK=>aA (fun hb=>?_) (fun hb=>?_)
  rotate_left
  ·simp only[go_sem,Y,h5];refine aY O ⟨rfl,rfl⟩ (by simp only[go_sem]) (by simp;omega) (fun X J=>?_);simp only[go_sem];refine hK _ _ ⟨Y,T,dL I F J,X,rfl,(bE I J).symm,?_⟩;rw[jQ (show((n.arcs.take m).any (uS a))=true from hb)];exact gE (l':=[⟨6,iT m⟩]) rfl
  ·simp only[go_sem];refine hK _ _ ⟨Y,T,I,j,h5,F,?_⟩;rw[jP (show((n.arcs.take m).any (uS a))=false from hb),Xah,O]
  rintro ρ H ⟨Y,T,I,j,h5,F,O⟩;generalize ag:es2++opt ((n.arcs.take m).any (uS a)) (⟨6,iT m⟩:Fault)=es3 at O;have a7:es3.length<=es2.length+1:=by rw[<-ag,Xae];have:=cT ((n.arcs.take m).any (uS a)) (⟨6,iT m⟩:Fault);omega
  simp only[go_sem,T,I];refine aH (Mf a.travel aw.1) ?_;simp only[go_sem];have av:=G1 a.travel;have aq:(jJ (pH n.arcs m).travel).map (fun f=>(⟨f.err,iT m⟩:Fault))=(jJ a.travel).map (fun f=>⟨f.err,iT m⟩):=by rw[tB ha]
  generalize jJ a.travel=tr at av aq;refine⟨fun ρ H=>∃q:Nat,q<=tr.length/\ρ 6=str (iT m)/\ρ 7=.op i 0 0/\ρ 11=.sl (tr.map iH)/\ρ 12=int q/\H i=some (yF a)/\∃j,ρ 5=.os j/\j≠i/\H j=some (bU (es3++(tr.take q).map fun f=>⟨f.err,iT m⟩)),fun ρ _=>tr.length-aR (ρ 12),
   ⟨0,Xaa _,Y,T,rfl,by simp only[go_sem];rfl,I,j,h5,F,by simpa using O⟩,?_⟩
  rintro ρ H ⟨q,hq,Y,T,ak,an,I,j,h5,F,O⟩;simp only[go_sem,ak,an];refine aA (fun Z=>?_) (fun aa=>?_)
  ·have Z:=aV Z;obtain⟨f,hf⟩:=aK Z;have b2:=inB Z;simp only[go_sem,Y,h5,ak,an,b2,aC hf];refine aY O ⟨rfl,rfl⟩ (by simp only[go_sem]) (by simp;omega) (fun X J=>?_);simp only[go_sem,Y,T,ak,an,aQ q];refine⟨⟨q+1,Z,rfl,dL I F J,X,rfl,(bE I J).symm,?_⟩,by simp only[aL];omega⟩;rw[E2 hf,<-Xaq];exact gE (l':=[⟨f.err,iT m⟩]) rfl
  ·have aa:=aW hq aa;subst aa;simp only[go_sem,T,I];rw[Xad]at O;generalize ah:es3++tr.map (fun f=>(⟨f.err,iT m⟩:Fault))=es4 at O;have a6:es4.length=es3.length+tr.length:=by rw[<-ah,Xae,Xab]
   refine bN (fun E H'=>E 6=str (iT m)/\E 7=.op i 0 0/\H' i=some (yF a)/\∃X,E 5=.os X/\X≠i/\H' X=some (bU (es4++opt (decide ((a.slow.length:Int)>16)) ⟨4,iT m⟩))) ?_ fun K hK=>aA (fun hb=>?_) (fun hb=>?_)
   rotate_left
   ·simp only[go_sem,Y,h5];refine aY O ⟨rfl,rfl⟩ (by simp only[go_sem]) (by simp;omega) (fun X J=>?_);simp only[go_sem];refine hK _ _ ⟨Y,T,dL I F J,X,rfl,(bE I J).symm,?_⟩;rw[jQ (show(decide ((a.slow.length:Int)>16))=true from hb)];exact gE (l':=[⟨4,iT m⟩]) rfl
   ·simp only[go_sem];refine hK _ _ ⟨Y,T,I,j,h5,F,?_⟩;rw[jP (show(decide ((a.slow.length:Int)>16))=false from hb),Xah,O]
   rintro ρ H ⟨Y,T,I,j,h5,F,O⟩;generalize aj:es4++opt (decide ((a.slow.length:Int)>16)) (⟨4,iT m⟩:Fault)=es5 at O;have a5:es5.length<=es4.length+1:=by rw[<-aj,Xae];have:=cT (decide ((a.slow.length:Int)>16)) (⟨4,iT m⟩:Fault);omega
   simp only[go_sem,];refine⟨fun ρ H=>∃k:Nat,k<=a.slow.length/\ρ 6=str (iT m)/\ρ 7=.op i 0 0/\ρ 13=int k/\H i=some (yF a)/\∃j,ρ 5=.os j/\j≠i/\H j=some (bU (es5++(List.range k).flatMap fun x=>opt (qT a.slow x) ⟨2,iT m⟩)),fun ρ _=>a.slow.length-aR (ρ 13),
    ⟨0,Xaa _,Y,T,by simp only[go_sem];rfl,I,j,h5,F,by simpa using O⟩,?_⟩
   rintro ρ H ⟨k,hk,Y,T,ab,I,j,h5,F,O⟩;generalize ao:es5++(List.range k).flatMap (fun x=>opt (qT a.slow x) (⟨2,iT m⟩:Fault))=es at O;have a0:es.length<=es5.length+k:=by have:=gF (f:=fun x=>opt (qT a.slow x) (⟨2,iT m⟩:Fault)) (c:=1) (fun x=>cT _ _) (List.range k);rw[<-ao,Xae];rw[Xbd]at this;omega
   simp only[go_sem,T,ab,I];refine aA (fun Z=>?_) (fun aa=>?_)
   ·have Z:=aV Z;have am:k<=4611686018427387904:=by omega
    obtain⟨p,hp⟩:=aK Z;obtain⟨r,hr⟩:=aK (show k-1<a.slow.length by omega);have b2:=inB Z;simp only[go_sem,T,ab,I,b2,aC hp];refine aN fun x hx=>?_
    simp only[go_sem];refine aI (aB _ _ _) (by simp[fU]) ?_;have ac:=bE I hx;have ad:=bE O hx;simp only[go_sem];refine jK (by rfl) (by kernel_rfl) ?_;simp only[go_sem,];refine⟨_,(ahQ _).q rfl,?_⟩;simp only[go_sem,];refine⟨_,fun _=>(ahQ _).q rfl,?_⟩;simp only[go_sem,T,ab,aJ _ _ _ _ ac,I,alE am,aC hr];have al:aM (aM H x (some ⟨85,2,[[int 0,int 0]]⟩)) x (some ⟨85,2,[bZ p]⟩) i=some (yF a):=by rw[aJ _ _ _ _ ac,aJ _ _ _ _ ac,I]
    have ap:aM (aM H x (some ⟨85,2,[[int 0,int 0]]⟩)) x (some ⟨85,2,[bZ p]⟩) j=some (bU es):=by rw[aJ _ _ _ _ ad,aJ _ _ _ _ ad,O]
    have ar:qT a.slow k=(!inR p.t 0 4096|| !inR p.a 0 4096||decide ((k:Int)>0)&&decide (p.t<=r.t)):=by rw[qT,dZ hp,dZ hr]
    have au:es5++(List.range (k+1)).flatMap (fun x=>opt (qT a.slow x) (⟨2,iT m⟩:Fault))=es++opt (qT a.slow k) ⟨2,iT m⟩:=by rw[jA,<-Xaq,ao]
    refine⟨fun h=>by
     have:(k:Int)>0:=by simpa using h.2
     rw[xK am];omega,gU (fun E H'=>E 6=str (iT m)/\E 7=.op i 0 0/\E 13=int k/\H' i=some (yF a)/\∃j,E 5=.os j/\j≠i/\H' j=some (bU (es++opt (qT a.slow k) ⟨2,iT m⟩))) ?_ fun K hK _ _=>aA (fun hb=>?_) (fun hb=>?_)⟩
    ·clear Y T h5 ab;rintro ρ H ⟨Y,T,ab,I,j,h5,F,O⟩;simp only[go_sem,Y,T,h5,ab,mC am];exact⟨⟨k+1,Z,rfl,I,j,rfl,F,by rw[au];exact O⟩,by simp only[aL];omega⟩
    ·simp only[go_sem,Y,h5];refine aY ap ⟨rfl,rfl⟩ (by simp only[go_sem]) (by simp;omega) (fun X J=>?_);simp only[go_sem];refine hK _ _ ⟨Y,T,ab,dL al F J,X,rfl,(bE al J).symm,?_⟩;rw[jQ (ar.trans hb)];exact gE (l':=[⟨2,iT m⟩]) rfl
    ·simp only[go_sem];refine hK _ _ ⟨Y,T,ab,al,j,h5,F,?_⟩;rw[jP (ar.trans hb),Xah,ap]
   ·have aa:=aW hk aa;subst aa;simp only[go_sem,h5];refine⟨_,rfl,?_⟩;rw[O,<-ao,<-aj,<-ah,<-aq,<-ag,<-ai,<-ae,<-af,I9,tB ha]
def JN(n:Network)(k:Nat)(J:(pH n.arcs k).travel.length<=1048576)(O:(pH n.arcs k).slow.length<=1048576):(I9 n k).length<=3145740:=by have h1:=cT (AT n.places.length (pH n.arcs k)) (⟨11,iT k⟩:Fault);have T:=cT (Dx (pH n.arcs k)) (⟨2,iT k⟩:Fault);have I:=cT ((n.arcs.take k).any (uS (pH n.arcs k))) (⟨6,iT k⟩:Fault);have X:=G1 (pH n.arcs k).travel;have F:=cT (decide (((pH n.arcs k).slow.length:Int)>16)) (⟨4,iT k⟩:Fault);have E:=gF (f:=fun i=>opt (qT (pH n.arcs k).slow i) (⟨2,iT k⟩:Fault)) (c:=1) (fun x=>cT _ _) (List.range (pH n.arcs k).slow.length);rw[Xbd]at E;simp only[I9,Xae,Xab,List.length_nil];omega
def Gn{α E:Type}{f:α->List E}{c:Nat}:∀l:List α,(∀x∈l,(f x).length<=c)->(l.flatMap f).length<=c*l.length
 | [],_=>by simp
 | x::r,h=>by
  have h1:=h x (by simp);have I:=Gn r fun y F=>h y (by simp[F])
  simp only[List.flatMap_cons,Xae,Xai,Nat.mul_add,Nat.mul_one];omega
def K3(n:Network):List Fault:=Ag n.places++opt (decide ((n.arcs.length:Int)>1024)) ⟨4,⟨#[97,114,99,115]⟩⟩++(List.range n.arcs.length).flatMap (I9 n)
def GO(l:List ByteArray):(Ag l).length<=l.length+1:=by have:=gF (Xe l) (List.range l.length);have E:=cT (decide ((l.length:Int)>24)) (⟨4,⟨#[112,108,97,99,101,115]⟩⟩:Fault);rw[Ag,Xae];rw[Xbd]at this;omega
def awG(n:Network)(hp:n.places.length<=1048576)(ab:∀s∈n.places,s.size<=1048576)(hl:n.arcs.length<=1048576)(hs:∀a∈n.arcs,a.travel.length<=1048576/\a.slow.length<=1048576):
  NC prog 30 [.agg (bD n)] (bU (K3 n)) .os:=by
 have aa:∀k,(I9 n k).length<=3145740:=fun k=>by
  rcases Xay k n.arcs.length with h|h
  ·obtain⟨a,ha⟩:=aK h;have hm:=hs a (lC ha);exact JN n k (by rw[tB ha];exact hm.1) (by rw[tB ha];exact hm.2)
  ·have:pH n.arcs k=⟨0,0,0,0,[],[]⟩:=by simp[pH,List.getD,List.getElem?_eq_none h]
   exact JN n k (by rw[this];simp) (by rw[this];simp)
 have ac:=GO n.places;refine ncb (fun t=>t == 3) func30 rfl rfl ?_;simp only[go_sem];refine NC.use (ajP n hp ab) fun j hj=>?_
 simp only[go_sem];refine rV (fun E H'=>E 1=.rp (bD n) 0/\∃I,E 3=.os I/\H' I=some (bU (Ag n.places))) ⟨rfl,j,rfl,aB _ _ _⟩ ?_;rintro ρ H ⟨h1,j,Y,F⟩;generalize Z:Ag n.places=es0 at F ac;refine bN (fun E H'=>E 1=.rp (bD n) 0/\∃I,E 3=.os I/\H' I=some (bU (es0++opt (decide ((n.arcs.length:Int)>1024)) ⟨4,⟨#[97,114,99,115]⟩⟩))) ?_ fun K hK=>aA (fun hb=>?_) (fun hb=>?_)
 rotate_left
 ·simp only[go_sem,Y];refine aY F ⟨rfl,rfl⟩ (by simp only[go_sem]) (by simp;omega) (fun I ad=>?_);simp only[go_sem];refine hK _ _ ⟨h1,I,rfl,?_⟩;rw[jQ (show(decide ((n.arcs.length:Int)>1024))=true from hb)];exact gE (l':=[⟨4,⟨#[97,114,99,115]⟩⟩]) rfl
 ·simp only[go_sem];refine hK _ _ ⟨h1,j,Y,?_⟩;rw[jP (show(decide ((n.arcs.length:Int)>1024))=false from hb),Xah,F]
 rintro ρ H ⟨h1,j,Y,F⟩;generalize O:es0++opt (decide ((n.arcs.length:Int)>1024)) (⟨4,⟨#[97,114,99,115]⟩⟩:Fault)=es1 at F;have af:es1.length<=es0.length+1:=by rw[<-O,Xae];have:=cT (decide ((n.arcs.length:Int)>1024)) (⟨4,⟨#[97,114,99,115]⟩⟩:Fault);omega
 simp only[go_sem,];refine⟨fun ρ H=>∃k:Nat,k<=n.arcs.length/\ρ 1=.rp (bD n) 0/\ρ 4=int k/\∃j,ρ 3=.os j/\H j=some (bU (es1++(List.range k).flatMap (I9 n))),fun ρ _=>n.arcs.length-aR (ρ 4),⟨0,Xaa _,h1,by simp only[go_sem];rfl,j,Y,by simpa using F⟩,?_⟩;rintro ρ H ⟨k,hk,h1,h4,j,Y,F⟩;generalize X:es1++(List.range k).flatMap (I9 n)=es at F;have ae:es.length<=es1.length+3145740*k:=by have:=gF aa (List.range k);rw[<-X,Xae];rw[Xbd]at this;omega
 simp only[go_sem,h1,h4];refine aA (fun J=>?_) (fun T=>?_)
 ·have J:=aV J;simp only[go_sem,h1,Y,h4];refine NC.use (awT n k J hp hl hs) fun i hi=>?_
  simp only[go_sem];have:=aa k;refine DN (eT F hi) (aB _ _ _) ⟨rfl,rfl⟩ (sG _) (by simp;omega) (fun I ad=>?_);simp only[go_sem,h1,h4,aQ k];refine⟨⟨k+1,J,rfl,I,rfl,?_⟩,by simp only[aL];omega⟩;rw[jA,<-Xaq,X];exact gE rfl
 ·have T:=aW hk T;subst T;simp only[go_sem,Y];exact⟨_,rfl,by rw[F,<-X,<-O,<-Z];rfl⟩
def uI(l:List Fault):Prop:=∀f∈l,f.at_.size<=4194304
def aaV:uI []:=by simp[uI]
def jR{a b:List Fault}(I:uI a)(E:uI b):uI (a++b):=fun f F=>(Xbb.1 F).elim (I f) (E f)
def iW{b:Bool}{f:Fault}(h:f.at_.size<=4194304):uI (opt b f):=by
 cases b
 ·simp[uI,opt]
 ·intro g E;simp[opt]at E;subst E;exact h
def sQ{α:Type}{F:α->List Fault}{l:List α}(h:∀x∈l,uI (F x)):uI (l.flatMap F):=fun f E=>by obtain⟨x,I,E⟩:=List.mem_flatMap.1 E;exact h x I f E
def Fk{α:Type}{F:α->Fault}{l:List α}(h:∀x∈l,(F x).at_.size<=4194304):uI (l.map F):=fun f E=>by obtain⟨x,I,rfl⟩:=Xbe.1 E;exact h x I
def zK{i n:Nat}(h:i∈List.range n):i<n:=Xat.1 h
def Zi(i:Nat):(iT i).size<=i+5:=by have:=qB i;unfold iT;rw[ByteArray.size_append];have:(⟨#[97,114,99,32]⟩:ByteArray).size=4:=rfl;omega
def Ub(w:ByteArray)(i:Nat):(Bz w i).size<=w.size+i+2:=by have:=qB i;unfold Bz;rw[ByteArray.size_append,ByteArray.size_append];have:(⟨#[32]⟩:ByteArray).size=1:=rfl;omega
def NI(l:List ByteArray)(h:l.length<=1048576):uI (Ag l):=jR (iW (by decide)) (sQ fun i E=>by
 have:=zK E;have:=Qr i;unfold iD;split
 ·exact iW (b:=true) (by show(vQ i).size<=_;omega)
 ·exact iW (by show(vQ i).size<=_;omega))
def aaL(n:Network)(E:n.places.length<=1048576)(I:n.arcs.length<=1048576):uI (K3 n):=by
 refine jR (jR (NI _ E) (iW (by decide))) (sQ fun i F=>?_);have:=zK F;have h:(iT i).size<=4194304:=by have:=Zi i;omega
 exact jR (jR (jR (jR (jR (jR aaV (iW h)) (iW h)) (iW h)) (Fk fun _ _=>h)) (iW h)) (sQ fun _ _=>iW h)
def RM(n:Network)(l:List VType)(F:l.length<=1048576):uI (xZ n l):=
 jR (iW (by decide)) (sQ fun i E=>Fk fun _ _=>by have:=zK E;have:=qB i;show(lH i).size<=_;omega)
def NT(n:Network)(d T:Int)(l:List Order)(F:l.length<=1048576):uI (tF n d T l):=
 jR (iW (by decide)) (sQ fun i E=>Fk fun _ _=>by have:=zK E;have:=qB i;show(lH i).size<=_;omega)
def GJ(N:Int)(l:List Pair)(w:ByteArray)(b:Bool)(I:l.length<=1048576)(F:w.size<=100):uI (yM N l w b):=jR (iW (by show w.size<=_;omega)) (sQ fun i E=>by
 have:=zK E;have:=Ub w i;unfold iO;split
 ·exact iW (b:=true) (by show(Bz w i).size<=_;omega)
 ·exact iW (by show(Bz w i).size<=_;omega))
def U5(n:Network)(l:List VType):(xZ n l).length<=9*l.length+1:=by have:=gF (f:=kA n l) (c:=9) (fun x=>by unfold kA;rw[Xab];exact AG _ _ _ _) (List.range l.length);have E:=cT (!inR l.length 1 6) (⟨4,ByteArray.empty⟩:Fault);rw[xZ,Xae];rw[Xbd]at this;omega
def Q3(n:Network)(d T:Int)(l:List Order):(tF n d T l).length<=9*l.length+1:=by have:=gF (f:=iE n d T l) (c:=9) (fun x=>by unfold iE;rw[Xab];exact xT _ _ _ _ _ _) (List.range l.length);have E:=cT (decide ((l.length:Int)>10)) (⟨4,ByteArray.empty⟩:Fault);rw[tF,Xae];rw[Xbd]at this;omega
structure InB(x:Instance):Prop where
 places:x.net.places.length<=1048576
 place:∀s∈x.net.places,s.size<=1048576
 arcs:x.net.arcs.length<=1048576
 arc:∀a∈x.net.arcs,a.travel.length<=1048576/\a.slow.length<=1048576
 types:x.types.length<=1048576
 type:∀t∈x.types,t.name.size<=1048576/\t.cap.length<=1048576
 orders:x.orders.length<=1048576
 order:∀t∈x.orders,t.name.size<=1048576/\t.load.length<=1048576
 apart:x.apart.length<=1048576
 before:x.before.length<=1048576
def Fp(x:Instance):List Fault:=yM x.orders.length x.apart ⟨#[97,112,97,114,116]⟩ true++yM x.orders.length x.before ⟨#[98,101,102,111,114,101]⟩ false
def uG(x:Instance):List Fault:=(K3 x.net).map (mV ⟨#[110,101,116]⟩)++(xZ x.net x.types).map (mV ⟨#[116,121,112,101,115]⟩) ++
 (tF x.net (kL x.types) x.types.length x.orders).map (mV ⟨#[111,114,100,101,114,115]⟩)++(Fp x).map (mV ⟨#[114,117,108,101,115]⟩)
def acM(x:Instance)(h:InB x):(K3 x.net).length<=3300000000000:=by
 have h1:=GO x.net.places;have T:=cT (decide ((x.net.arcs.length:Int)>1024)) (⟨4,⟨#[97,114,99,115]⟩⟩:Fault);have I:=Gn (f:=I9 x.net) (c:=3145740) (List.range x.net.arcs.length) fun k J=>by obtain⟨a,E⟩:=aK (zK J);have F:=h.arc a (lC E);exact JN x.net k (by rw[tB E];exact F.1) (by rw[tB E];exact F.2)
 have X:=h.places;have O:=h.arcs;rw[Xbd]at I;simp only[K3,Xae];omega
def anA(x:Instance)(h:InB x):NC prog 13 [.agg (aD x)] (bU (uG x)) .os:=by
 have c1:PC prog 30 [.agg (bD x.net)] (.sl ((K3 x.net).map iH)):=NC.pc (awG x.net h.places h.place h.arcs h.arc);have c2:PC prog 31 [.agg (bD x.net),.sl (x.types.map bF)] (.sl ((xZ x.net x.types).map iH)):=NC.pc (aoD x.net x.types h.types h.type h.places);have c3:PC prog 32 [.agg (bD x.net),int (kL x.types),int x.types.length,.sl (x.orders.map bJ)] (.sl ((tF x.net (kL x.types) x.types.length x.orders).map iH)):=NC.pc (IE x.net _ _ x.orders h.orders h.order h.places);have Y:PC prog 34 [int x.orders.length,.sl (x.apart.map dH),.sl (x.before.map dH)] (.sl ((Fp x).map iH)):=NC.pc (Ol x.orders.length x.apart x.before h.apart h.before);have l1:=acM x h;have l2:=U5 x.net x.types;have l3:=Q3 x.net (kL x.types) x.types.length x.orders;have l4:(Fp x).length<=2097154:=by have a1:=AK x.orders.length x.apart ⟨#[97,112,97,114,116]⟩ true;have a2:=AK x.orders.length x.before ⟨#[98,101,102,111,114,101]⟩ false;have:=h.apart;have:=h.before;rw[Fp,Xae];omega
 have Z:=aaL x.net h.places h.arcs;have s2:=RM x.net x.types h.types;have X:=NT x.net (kL x.types) x.types.length x.orders h.orders;have s4:uI (Fp x):=jR (GJ _ _ _ _ h.apart (by decide)) (GJ _ _ _ _ h.before (by decide));have ht:=h.types;have ho:=h.orders;refine ncb (fun t=>t == 27) func13 rfl rfl ?_;simp only[go_sem];refine aH c1 ?_;simp only[go_sem];refine NC.use (HU ⟨#[110,101,116]⟩ _ (by decide) (by omega) fun f E=>Xal (Z f E) (by decide)) fun j hj=>?_
 simp only[go_sem];refine aH c2 ?_;simp only[go_sem];refine NC.use (HU ⟨#[116,121,112,101,115]⟩ _ (by decide) (by omega) fun f E=>Xal (s2 f E) (by decide)) fun i T=>?_
 simp only[go_sem];refine DN (eT (aB _ _ _) T) (aB _ _ _) ⟨rfl,rfl⟩ (sG _) (by simp;omega) (fun J aa=>?_);simp only[go_sem];refine HV (by kernel_rfl) ?_;simp only[go_sem];refine⟨_,(ON x.types).q rfl,?_⟩;simp only[go_sem];have O:=gE (e:=119) (sz:=2) (enc:=iH) (H:=aM (aM (aM bQ j (some (bU ((K3 x.net).map (mV ⟨#[110,101,116]⟩))))) i (some (bU ((xZ x.net x.types).map (mV ⟨#[116,121,112,101,115]⟩))))) j none) (k:=J) (l:=(K3 x.net).map (mV ⟨#[110,101,116]⟩)) (l':=(xZ x.net x.types).map (mV ⟨#[116,121,112,101,115]⟩)) rfl;generalize aM (aM (aM (aM bQ j _) i _) j none) J _=H at O |-;generalize I:(K3 x.net).map (mV ⟨#[110,101,116]⟩)++(xZ x.net x.types).map (mV ⟨#[116,121,112,101,115]⟩)=es at O;have ab:es.length<=3300000000000+9*x.types.length+1:=by rw[<-I,Xae,Xab,Xab];omega
 refine aH c3 ?_;simp only[go_sem];refine NC.use (HU ⟨#[111,114,100,101,114,115]⟩ _ (by decide) (by omega) fun f E=>Xal (X f E) (by decide)) fun i T=>?_
 simp only[go_sem];refine DN (eT O T) (aB _ _ _) ⟨rfl,rfl⟩ (sG _) (by simp;omega) (fun k hk=>?_);simp only[go_sem];have F:=gE (e:=119) (sz:=2) (enc:=iH) (H:=aM (aM H i (some (bU ((tF x.net (kL x.types) x.types.length x.orders).map (mV ⟨#[111,114,100,101,114,115]⟩))))) J none) (k:=k) (l:=es) (l':=(tF x.net (kL x.types) x.types.length x.orders).map (mV ⟨#[111,114,100,101,114,115]⟩)) rfl;generalize aM (aM (aM H i _) J none) k _=H2 at F |-;refine aH Y ?_;simp only[go_sem];refine NC.use (HU ⟨#[114,117,108,101,115]⟩ _ (by decide) (by omega) fun f E=>Xal (s4 f E) (by decide)) fun q hq=>?_
 simp only[go_sem];refine DN (eT F hq) (aB _ _ _) ⟨rfl,rfl⟩ (sG _) (by simp;omega) (fun m hm=>?_);simp only[go_sem];refine⟨m,rfl,?_⟩;rw[uG,I];exact gE rfl
end Go.Proofs.YtpagaknmdfgfkaaGreatDoor
end
section
namespace Go.Aw.D
open Go.Aw Go.RowKit
def Sw(w:World):Sg:=⟨fun k=>k<w.heap.size,fun k=>k<w.heap.size,fun _=>.slice none 0 0,fun _=>1,0⟩
def Od(w:World):Prop:=∀t∈aaH,vO w t.1=some t.2
theorem Ss{w:World}{g:Nat}{cs:Array Value}(h:vO w g=some cs):g<w.heap.size:=by
 unfold vO at h;split at h
 ·rename_i h1;exact(Array.getElem?_eq_some_iff.1 h1).1
 ·cases h
theorem axN(w:World)(F:Od w):St (Sw w) w bQ:=⟨fun _ h=>h,fun _ h=>h,fun k r E=>by simp[bQ]at E,fun k r E=>by simp[bQ]at E,fun k k' r r' E=>by simp[bQ]at E,fun t h=>⟨Ss (F t h),F t h⟩⟩
def lN(_:Nat)(x:Int):Prop:= -9223372036854775808<=x/\x<=9223372036854775807
def arP(_:Nat)(_:Bool):Prop:=True
def RG(n:Nat)(s:ByteArray):Prop:=s.size<=n
def bL{α:Type}(b:Nat->α->Prop)(n:Nat)(l:List α):Prop:=l.length<=n/\∀x∈l,b n x
def Rd{H:Type}(e:TypeId×Value->H)(B:DataW H->Nat)(P:Program)(w:World)(t:TypeId){α:Type}(enc:α->List AV)(b:Nat->α->Prop):Prop:=
 ∀fuel cs y,DataW.trod e P w 0 (fun _=>true) true fuel t cs=some y->∃x:α,(bO (Sw w) w (enc x) cs/\∀u∈cs,u.oneCell'=true)/\∀n,B y.1<=n->b n x
section
variable{H:Type}{e:TypeId×Value->H}{P:Program}{w:World}{t:TypeId}
abbrev BK(H:Type):DataW H->Nat:=Go.Proofs.YtpagaknmdfgfkaaGreatDoor.Rows.uptoBulk
theorem fK(I:P.underlying t=some (.int .i64)):Rd e (BK H) P w t bC lN:=by intro E cs y h;obtain⟨n,rfl,_,F⟩:=DataW.trod_int I h;refine⟨n,⟨by simp only[bC,bO];exact⟨_,_,rfl,by simp only[rep],rfl⟩,by simp[Value.oneCell']⟩,fun _ _=>bounds_i64 F⟩
theorem apP(F:P.underlying t=some .bool):Rd e (BK H) P w t dE arP:=by intro E cs y h;obtain⟨n,rfl,_⟩:=DataW.trod_bool F h;refine⟨n,⟨by simp only[dE,bO];exact⟨_,_,rfl,by simp only[rep],rfl⟩,by simp[Value.oneCell']⟩,fun _ _=>trivial⟩
theorem Pz(F:P.underlying t=some .string):Rd e (BK H) P w t fJ RG:=by intro E cs y h;obtain⟨s,rfl,rfl,_⟩:=DataW.trod_string F h;refine⟨s,⟨by simp only[fJ,bO];exact⟨_,_,rfl,by simp only[rep],rfl⟩,by simp[Value.oneCell']⟩,fun n I=>?_⟩;simp only[BK,Go.Proofs.YtpagaknmdfgfkaaGreatDoor.Rows.uptoBulk,Array.length_toList]at I;have:s.size=s.data.size:=rfl;simp only[RG];omega
theorem Ly{d:DataW H}{l:List (DataW H)}(h:d∈l):BK H d<=Go.Proofs.YtpagaknmdfgfkaaGreatDoor.Rows.uptoBulkAll l:=by
 induction l with
 | nil=>cases h
 | cons x r ih=>
  simp only[Go.Proofs.YtpagaknmdfgfkaaGreatDoor.Rows.uptoBulkAll];cases List.mem_cons.1 h with
  | inl e=>subst e;simp only[BK];omega
  | inr e=>have:=ih e;omega
theorem agM(d:DataW H):1<=BK H d:=by
 cases d with
 | lit l=>cases l <;> simp[BK,Go.Proofs.YtpagaknmdfgfkaaGreatDoor.Rows.uptoBulk]
 | nil=>simp[BK,Go.Proofs.YtpagaknmdfgfkaaGreatDoor.Rows.uptoBulk]
 | ptr d=>simp[BK,Go.Proofs.YtpagaknmdfgfkaaGreatDoor.Rows.uptoBulk]
 | slice elems spare=>simp[BK,Go.Proofs.YtpagaknmdfgfkaaGreatDoor.Rows.uptoBulk]
 | agg parts=>simp[BK,Go.Proofs.YtpagaknmdfgfkaaGreatDoor.Rows.uptoBulk]
 | iface t d=>simp[BK,Go.Proofs.YtpagaknmdfgfkaaGreatDoor.Rows.uptoBulk]
 | map entries=>simp[BK,Go.Proofs.YtpagaknmdfgfkaaGreatDoor.Rows.uptoBulk]
 | held h=>simp[BK,Go.Proofs.YtpagaknmdfgfkaaGreatDoor.Rows.uptoBulk]
theorem Ra(l:List (DataW H)):l.length<=Go.Proofs.YtpagaknmdfgfkaaGreatDoor.Rows.uptoBulkAll l:=by
 induction l with
 | nil=>simp[Go.Proofs.YtpagaknmdfgfkaaGreatDoor.Rows.uptoBulkAll]
 | cons x r ih=>have:=agM x;simp only[Go.Proofs.YtpagaknmdfgfkaaGreatDoor.Rows.uptoBulkAll,List.length_cons,BK]at *;omega
theorem Q2{α:Type}(n:Nat)(p:Nat->α->Prop)(h:∀i,i<n->∃x,p i x):∃l:List α,l.length=n/\∀i x,l[i]?=some x->p i x:=by
 induction n with
 | zero=>exact⟨[],rfl,by simp⟩
 | succ n ih=>
  obtain⟨l,T,O⟩:=ih fun i I=>h i (by omega)
  obtain⟨x,J⟩:=h n (by omega);refine⟨l++[x],by simp[T],fun i y E=>?_⟩;rcases Nat.lt_or_ge i n with I|I
  ·rw[List.getElem?_append_left (by omega)]at E;exact O i y E
  ·rw[List.getElem?_append_right (by omega)]at E;have:i-l.length=0:=by
    rcases Nat.eq_zero_or_pos (i-l.length)with h0|h0
    ·exact h0
    ·rw[List.getElem?_eq_none (by simp;omega)]at E;simp at E
   rw[this]at E;have F:i=n:=by omega
   subst F;simp at E;subst E;exact J
theorem Ed{S:Sg}{b sz:Nat}{α:Type}{enc:α->List AV}(E:∀x,(enc x).length=sz):∀(l:List α) (o:Nat),(∀i x,l[i]?=some x->dU S w b (o+i*sz) (enc x))->jD S w b sz o (l.map enc)
 | [],_,_=>by simp[jD]
 | x::r,o,h=>by
  simp only[List.map_cons,jD];refine⟨E x,by simpa using h 0 x rfl,Ed E r (o+sz) fun i y F=>?_⟩;have:=h (i+1) y (by simpa using F)
  rwa [show o+(i+1)*sz=o+sz+i*sz by rw[Nat.add_mul];omega]at this
theorem F6{a:Addr}{n:Nat}{cs:List Value}(h:w.cells? 0 a n=some cs):cs.length=n/\∀j,j<n->w.cell? (a.add j)=cs[j]?:=by unfold World.cells? at h;rw[if_pos (Nat.zero_le _)]at h;have E:=mapM_some_length h;exact⟨by simpa using E,fun j F=>mapM_some_get h j j (by simp[F])⟩
theorem pK{α:Type}{enc:α->List AV}{b:Nat->α->Prop}{et:TypeId}{sz:Nat}(ht:P.underlying t=some (.slice et))(hc:P.cellsOf et=sz)(F:0<sz)(Y:∀x,(enc x).length=sz)(hr:Rd e (BK H) P w et enc b):
  Rd e (BK H) P w t (fun l:List α=>[.sl (l.map enc)]) (bL b):=by
 intro aj cs y h;rcases DataW.trod_slice ht h with⟨rfl,rfl⟩|⟨a,len,cap,E,rest,n,rfl,rfl,rfl,_,ae,Z,ai,aa,ak,_⟩
 ·refine⟨[],⟨?_,by simp[Value.oneCell']⟩,fun n _=>⟨by simp,by simp⟩⟩;simp only[bO,rep,List.map_nil];exact⟨_,_,rfl,⟨none,0,0,rfl,rfl,Nat.le_refl _,Nat.zero_le _,by simp⟩,rfl⟩
 ·have hp : ∀ i, i < len -> ∃ x : α, ∃ z cs', E[i]? = some z /\ w.cells? 0 (a.add (i * sz)) sz = some cs' /\ (bO (Sw w) w (enc x) cs' /\ ∀ u ∈ cs', u.oneCell' = true) /\ ∀ n, BK H z.1 <= n -> b n x := fun i hi => by have hg:=aa i hi;rw[List.getElem?_eq_getElem (by omega),hc,Option.bind_eq_some_iff]at hg;obtain⟨cs',h1,h2⟩:=hg;obtain⟨x,O,J⟩:=hr _ _ _ h2;exact⟨x,_,cs',List.getElem?_eq_getElem (by omega),h1,O,J⟩
  obtain⟨l,hl,T⟩:=Q2 len _ hp;refine⟨l,⟨?_,by simp[Value.oneCell']⟩,fun m hm=>⟨?_,fun x O=>?_⟩⟩
  ·simp only[bO];refine⟨_,_,rfl,?_,rfl⟩;simp only[rep];refine⟨some a,len,cap,rfl,by simp[hl],ae,Z,?_⟩;rcases Nat.eq_zero_or_pos len with h0|h0
   ·left;rw[List.eq_nil_of_length_eq_zero (hl.trans h0)];rfl
   ·right;have af:=hp 0 h0;obtain⟨_,_,am,_,ac,_⟩:=af;have q:=(F6 ac).2 0 F;have ad:=(F6 ac).1;rw[List.getElem?_eq_getElem (by omega)]at q;simp only[Nat.zero_mul,Addr.add,if_true]at q;have I:a.spot=none/\a.block<w.heap.size:=by
     unfold World.cell? at q;split at q
     ·rename_i c _ _ J;split at q
      ·simp at q
      ·rename_i hs;refine⟨by simpa using hs,?_⟩;rcases Nat.lt_or_ge a.block w.heap.size with h|h
       ·exact h
       ·rw[Array.getElem?_eq_none h]at J;simp at J
     ·simp at q
    obtain⟨ab,ao,al⟩:=a;obtain⟨hs,X⟩:=I;simp only at hs X;subst hs;refine⟨ab,ao,sz,rfl,X,F,Ed Y l ao fun i x O=>?_⟩;obtain⟨z,cs',_,ag,⟨h1,h2⟩,_⟩:=T i x O;refine kQ _ cs' _ h1 h2 fun j u hj=>?_
    obtain⟨e1,e2⟩:=F6 ag;have ah:j<sz:=by
     rcases Nat.lt_or_ge j sz with h|h
     ·exact h
     ·rw[List.getElem?_eq_none (by omega)]at hj;simp at hj
    have:=e2 j ah;rw[hj,Addr.add_lit,Addr.add_lit]at this;exact this
  ·rw[hl,<-ai];have h1:=Ra (E.map (·.1));simp only[BK,Go.Proofs.YtpagaknmdfgfkaaGreatDoor.Rows.uptoBulk,List.length_map]at hm h1;omega
  ·obtain⟨i,hi⟩:=List.mem_iff_getElem?.1 O;obtain⟨z,cs',hz,_,_,J⟩:=T i x hi;refine J m ?_;have h1:=Ly (List.mem_map_of_mem (f:=(·.1)) (List.mem_of_getElem? hz));simp only[BK,Go.Proofs.YtpagaknmdfgfkaaGreatDoor.Rows.uptoBulk]at hm h1 |-;omega
theorem fld{E o m:Nat}{cs:List Value}{z:DataW H×List MemPlace}(F:P.cellsOf t=m)(h:DataW.trod e P w 0 (fun _=>true) true E t ((cs.drop o).take (P.cellsOf t))=some z):DataW.trod e P w 0 (fun _=>true) true E t ((cs.drop o).take m)=some z:=F▸h
theorem Cn{S:Sg}{a b:List AV}{cs:List Value}{o m:Nat}(h:bO S w a ((cs.drop o).take m))(E:bO S w b (cs.drop (o+m))):bO S w (a++b) (cs.drop o):=by
 have:=gG a b _ _ h E
 rwa [<-List.drop_drop,List.take_append_drop]at this
theorem QA{S:Sg}{cs:List Value}{o:Nat}(h:cs.length=o):bO S w [] (cs.drop o):=by rw[List.drop_eq_nil_of_le (by omega)];simp[bO]
theorem E4{cs:List Value}{o m:Nat}(h:∀u∈(cs.drop o).take m,u.oneCell'=true)(F:∀u∈cs.drop (o+m),u.oneCell'=true):∀u∈cs.drop o,u.oneCell'=true:=by
 intro u E;rw[<-List.take_append_drop m (cs.drop o),List.drop_drop]at E;rcases List.mem_append.1 E with E|E
 ·exact h u E
 ·exact F u E
theorem XC{cs:List Value}{o:Nat}(h:cs.length=o):∀u∈cs.drop o,u.oneCell'=true:=by rw[List.drop_eq_nil_of_le (by omega)];simp
theorem Dk{xs:List (DataW H×List MemPlace)}{i:Nat}{z:DataW H×List MemPlace}(E:xs[i]?=some z){n:Nat}(h:BK H (.agg (xs.map (·.1)))<=n):BK H z.1<=n:=by have h1:=Ly (List.mem_map_of_mem (f:=(·.1)) (List.mem_of_getElem? E));simp only[BK,Go.Proofs.YtpagaknmdfgfkaaGreatDoor.Rows.uptoBulk]at h h1 |-;omega
theorem IL{α:Type}{xs:List α}{n i:Nat}(h:xs.length=n)(E:i<n):∃z,xs[i]?=some z:=⟨xs[i],List.getElem?_eq_getElem (by omega)⟩
def RdL(e:TypeId×Value->H)(P:Program)(w:World)(T:TypeId)(fs:Array Field)(i o:Nat){α:Type}(enc:α->List AV)(b:Nat->α->Prop):Prop:=
 ∀(n:Nat) (cs:List Value) (xs:List (DataW H×List MemPlace)),cs.length=P.cellsOf T->xs.length=fs.size ->
   (∀(j:Nat) (f:Field),fs[j]?=some f->DataW.trod e P w 0 (fun _=>true) true n f.type ((cs.drop f.offset).take (P.cellsOf f.type))=xs[j]?) ->
   ∃x:α,(bO (Sw w) w (enc x) (cs.drop o)/\∀u∈cs.drop o,u.oneCell'=true)/\∀m,BK H (.agg (xs.map (·.1)))<=m->b m x
theorem rdF{fs:Array Field}{i o:Nat}{t:TypeId}(m:Nat){α:Type}{enc:α->List AV}{b:Nat->α->Prop}(R:Rd e (BK H) P w t enc b)(T:(fs[i]?).map (fun f:Field=>(f.type,f.offset))=some (t,o))(X:P.cellsOf t=m)
  {n:Nat} {cs:List Value} {xs:List (DataW H×List MemPlace)} (Z:xs.length=fs.size) (J:∀(j:Nat) (f:Field),fs[j]?=some f->DataW.trod e P w 0 (fun _=>true) true n f.type ((cs.drop f.offset).take (P.cellsOf f.type))=xs[j]?):
  ∃x:α,(bO (Sw w) w (enc x) ((cs.drop o).take m)/\∀u∈(cs.drop o).take m,u.oneCell'=true)/\∀m,BK H (.agg (xs.map (·.1)))<=m->b m x:=by
 obtain⟨f,E,F⟩:=Option.map_eq_some_iff.1 T;obtain⟨rfl,rfl⟩:=Prod.mk.inj F;obtain⟨z,I⟩:=IL Z (Array.getElem?_eq_some_iff.1 E).1;obtain⟨x,h,Y⟩:=R n ((cs.drop f.offset).take m) z (fld X ((J i f E).trans I));exact⟨x,h,fun k O=>Y k (Dk I O)⟩
theorem rdC{T:TypeId}{fs:Array Field}{i o:Nat}{t:TypeId}(m:Nat){α F:Type}{enc:α->List AV}{b:Nat->α->Prop}{E:F->List AV}{X:Nat->F->Prop}(R:Rd e (BK H) P w t enc b)(r:RdL e P w T fs (i+1) (o+m) E X)
  (Y:(fs[i]?).map (fun f:Field=>(f.type,f.offset))=some (t,o):=by rfl) (hm:P.cellsOf t=m:=by kernel_rfl):RdL e P w T fs i o (fun p:α×F=>enc p.1++E p.2) (fun n p=>b n p.1/\X n p.2):=fun n cs xs h1 O I=>by
 obtain⟨x,⟨r1,o1⟩,b1⟩:=rdF m R Y hm O I;obtain⟨y,⟨r2,o2⟩,Z⟩:=r n cs xs h1 O I;exact⟨(x,y),⟨Cn r1 r2,E4 o1 o2⟩,fun k J=>⟨b1 k J,Z k J⟩⟩
theorem rdE{T:TypeId}{fs:Array Field}{i o:Nat}{t:TypeId}(m:Nat){α:Type}{enc:α->List AV}{b:Nat->α->Prop}(R:Rd e (BK H) P w t enc b)
  (I:(fs[i]?).map (fun f:Field=>(f.type,f.offset))=some (t,o):=by rfl) (J:P.cellsOf t=m:=by kernel_rfl) (E:P.cellsOf T=o+m:=by kernel_rfl):RdL e P w T fs i o enc b:=fun n cs xs h1 Y F=>by
 obtain⟨x,⟨Z,O⟩,X⟩:=rdF m R I J Y F;refine⟨x,⟨?_,E4 O (XC (h1.trans E))⟩,X⟩;have:=Cn Z (QA (h1.trans E))
 rwa [List.append_nil]at this
theorem rdS{T:TypeId}{fs:Array Field}{α X:Type}{enc:α->List AV}{b:Nat->α->Prop}{E:X->List AV}{O:Nat->X->Prop}(Z:P.underlying T=some (.struct fs))(r:RdL e P w T fs 0 0 enc b)(F:α->X)
  (he:∀p,E (F p)=enc p) (hb:∀n p,b n p->O n (F p)):Rd e (BK H) P w T E O:=by
 intro J cs y h;obtain⟨xs,n,rfl,rfl,hl,I,Y⟩:=DataW.trod_struct Z h;obtain⟨x,⟨r1,o1⟩,b1⟩:=r n cs xs hl I Y;exact⟨F x,⟨by rw[he];rwa [List.drop_zero]at r1,by rwa [List.drop_zero]at o1⟩,fun m hm=>hb m x (b1 m hm)⟩
end
section
open Go.Proofs Go.Proofs.YtpagaknmdfgfkaaGreatDoor
variable{H:Type}{e:TypeId×Value->H}{w:World}
theorem apV:Rd e (BK H) Tryz.prog w 22 (fun l:List ByteArray=>[.sl (l.map fJ)]) (bL RG):=pK (sz:=1) Tryz.underlying22 (by kernel_rfl) (by omega) (fun _=>rfl) (Pz Tryz.underlying9)
def PF(n:Nat)(x:Point):Prop:=lN n x.t/\lN n x.a
theorem adI:Rd e (BK H) Tryz.prog w 85 bZ PF:=rdS Tryz.underlying85 (rdC 1 (fK Tryz.underlying3) (rdE 1 (fK Tryz.underlying3))) (fun(a,b)=>⟨a,b⟩) (fun _=>rfl) (fun _ (_,_) h=>h)
theorem Ll:Rd e (BK H) Tryz.prog w 86 (fun l:List Point=>[.sl (l.map bZ)]) (bL PF):=pK (sz:=2) Tryz.underlying86 (by kernel_rfl) (by omega) (fun _=>rfl) (adI)
def asD(n:Nat)(x:Arc):Prop:=lN n x.src/\lN n x.dst/\lN n x.profile/\lN n x.miles/\(bL PF) n x.travel/\(bL PF) n x.slow
theorem auY:Rd e (BK H) Tryz.prog w 88 gH asD:=rdS Tryz.underlying88 (rdC 1 (fK Tryz.underlying3) (rdC 1 (fK Tryz.underlying3) (rdC 1 (fK Tryz.underlying3) (rdC 1 (fK Tryz.underlying3) (rdC 1 Ll (rdE 1 Ll)))))) (fun(a,b,c,d,e,f)=>⟨a,b,c,d,e,f⟩) (fun _=>rfl) (fun _ (_,_,_,_,_,_) h=>h)
theorem aoW:Rd e (BK H) Tryz.prog w 23 (fun l:List Arc=>[.sl (l.map gH)]) (bL asD):=pK (sz:=6) Tryz.underlying23 (by kernel_rfl) (by omega) (fun _=>rfl) (auY)
def Q6(n:Nat)(x:Network):Prop:=(bL RG) n x.places/\(bL asD) n x.arcs
theorem Vm:Rd e (BK H) Tryz.prog w 25 bD Q6:=rdS Tryz.underlying25 (rdC 1 apV (rdE 1 aoW)) (fun(a,b)=>⟨a,b⟩) (fun _=>rfl) (fun _ (_,_) h=>h)
theorem Xf:Rd e (BK H) Tryz.prog w 89 (fun l:List Int=>[.sl (l.map bC)]) (bL lN):=pK (sz:=1) Tryz.underlying89 (by kernel_rfl) (by omega) (fun _=>rfl) (fK Tryz.underlying3)
def VB(n:Nat)(x:VType):Prop:=RG n x.name/\lN n x.count/\lN n x.src/\lN n x.dst/\(bL lN) n x.cap/\lN n x.skills/\lN n x.profile/\lN n x.start/\lN n x.close/\lN n x.drive/\lN n x.rest/\lN n x.fixed/\lN n x.perMile/\lN n x.perTick
theorem aeL:Rd e (BK H) Tryz.prog w 95 bF VB:=rdS Tryz.underlying95 (rdC 1 (Pz Tryz.underlying9) (rdC 1 (fK Tryz.underlying3) (rdC 1 (fK Tryz.underlying3) (rdC 1 (fK Tryz.underlying3) (rdC 1 Xf (rdC 1 (fK Tryz.underlying3) (rdC 1 (fK Tryz.underlying3) (rdC 1 (fK Tryz.underlying3) (rdC 1 (fK Tryz.underlying3) (rdC 1 (fK Tryz.underlying3) (rdC 1 (fK Tryz.underlying3) (rdC 1 (fK Tryz.underlying3) (rdC 1 (fK Tryz.underlying3) (rdE 1 (fK Tryz.underlying3))))))))))))))) (fun(a,b,c,d,e,f,g,h,i,j,k,l,m,n)=>⟨a,b,c,d,e,f,g,h,i,j,k,l,m,n⟩) (fun _=>rfl) (fun _ (_,_,_,_,_,_,_,_,_,_,_,_,_,_) h=>h)
theorem ZV:Rd e (BK H) Tryz.prog w 26 (fun l:List VType=>[.sl (l.map bF)]) (bL VB):=pK (sz:=14) Tryz.underlying26 (by kernel_rfl) (by omega) (fun _=>rfl) (aeL)
def acP(n:Nat)(x:Stop):Prop:=lN n x.place/\lN n x.start/\lN n x.close/\lN n x.service
theorem Yb:Rd e (BK H) Tryz.prog w 91 eJ acP:=rdS Tryz.underlying91 (rdC 1 (fK Tryz.underlying3) (rdC 1 (fK Tryz.underlying3) (rdC 1 (fK Tryz.underlying3) (rdE 1 (fK Tryz.underlying3))))) (fun(a,b,c,d)=>⟨a,b,c,d⟩) (fun _=>rfl) (fun _ (_,_,_,_) h=>h)
def Ud(n:Nat)(x:Order):Prop:=RG n x.name/\(bL lN) n x.load/\acP n x.pick/\acP n x.drop/\lN n x.skills/\lN n x.penalty/\lN n x.split/\lN n x.last/\lN n x.now/\arP n x.off
theorem aiW:Rd e (BK H) Tryz.prog w 93 bJ Ud:=rdS Tryz.underlying93 (rdC 1 (Pz Tryz.underlying9) (rdC 1 Xf (rdC 4 Yb (rdC 4 Yb (rdC 1 (fK Tryz.underlying3) (rdC 1 (fK Tryz.underlying3) (rdC 1 (fK Tryz.underlying3) (rdC 1 (fK Tryz.underlying3) (rdC 1 (fK Tryz.underlying3) (rdE 1 (apP Tryz.underlying4))))))))))) (fun(a,b,c,d,e,f,g,h,i,j)=>⟨a,b,c,d,e,f,g,h,i,j⟩) (fun _=>rfl) (fun _ (_,_,_,_,_,_,_,_,_,_) h=>h)
theorem Zr:Rd e (BK H) Tryz.prog w 27 (fun l:List Order=>[.sl (l.map bJ)]) (bL Ud):=pK (sz:=16) Tryz.underlying27 (by kernel_rfl) (by omega) (fun _=>rfl) (aiW)
def XF(n:Nat)(x:Pair):Prop:=lN n x.a/\lN n x.b
theorem anY:Rd e (BK H) Tryz.prog w 169 dH XF:=by
 intro X cs y h;obtain⟨xs,n,rfl,rfl,T,F,J⟩:=DataW.trod_array Tryz.underlying169 h;have T:cs.length=2:=T.trans (by kernel_rfl);obtain⟨z0,I⟩:=IL F (show 0<2 by omega);obtain⟨x0,⟨Y,o0⟩,b0⟩:=(fK Tryz.underlying3:Rd e (BK H) Tryz.prog w 3 _ _) n ((cs.drop 0).take 1) z0 (fld (t:=3) (o:=0) (m:=1) (by kernel_rfl) ((J 0 (by omega)).trans I));obtain⟨z1,E⟩:=IL F (show 1<2 by omega);obtain⟨x1,⟨r1,Z⟩,b1⟩:=(fK Tryz.underlying3:Rd e (BK H) Tryz.prog w 3 _ _) n ((cs.drop 1).take 1) z1 (fld (t:=3) (o:=1) (m:=1) (by kernel_rfl) ((J 1 (by omega)).trans E));refine⟨⟨x0,x1⟩,⟨?_,?_⟩,fun m O=>⟨b0 m (Dk I O),b1 m (Dk E O)⟩⟩
 ·have:=Cn (o:=0) (m:=1) Y (Cn (o:=1) (m:=1) r1 (QA (by omega)));rw[List.drop_zero]at this;exact this
 ·have:=E4 (o:=0) (m:=1) o0 (E4 (o:=1) (m:=1) Z (XC (by omega)));rw[List.drop_zero]at this;exact this
theorem Sy:Rd e (BK H) Tryz.prog w 28 (fun l:List Pair=>[.sl (l.map dH)]) (bL XF):=pK (sz:=2) Tryz.underlying28 (by kernel_rfl) (by omega) (fun _=>rfl) (anY)
def Fo(n:Nat)(x:Instance):Prop:=Q6 n x.net/\(bL VB) n x.types/\(bL Ud) n x.orders/\(bL XF) n x.apart/\(bL XF) n x.before
theorem RU:Rd e (BK H) Tryz.prog w 30 aD Fo:=rdS Tryz.underlying30 (rdC 2 Vm (rdC 1 ZV (rdC 1 Zr (rdC 1 Sy (rdE 1 Sy))))) (fun(a,b,c,d,e)=>⟨a,b,c,d,e⟩) (fun _=>rfl) (fun _ (_,_,_,_,_) h=>h)
def atI(n:Nat)(x:Cut):Prop:=lN n x.kind/\lN n x.set/\lN n x.n
theorem auJ:Rd e (BK H) Tryz.prog w 102 dS atI:=rdS Tryz.underlying102 (rdC 1 (fK Tryz.underlying3) (rdC 1 (fK Tryz.underlying3) (rdE 1 (fK Tryz.underlying3)))) (fun(a,b,c)=>⟨a,b,c⟩) (fun _=>rfl) (fun _ (_,_,_) h=>h)
theorem amG:Rd e (BK H) Tryz.prog w 31 (fun l:List Cut=>[.sl (l.map dS)]) (bL atI):=pK (sz:=3) Tryz.underlying31 (by kernel_rfl) (by omega) (fun _=>rfl) (auJ)
theorem aqT:Rd e (BK H) Tryz.prog w 33 (fun l:List ByteArray=>[.sl (l.map fJ)]) (bL RG):=pK (sz:=1) Tryz.underlying33 (by kernel_rfl) (by omega) (fun _=>rfl) (Pz Tryz.underlying44)
def Cj(n:Nat)(x:Decision):Prop:=lN n x.kind/\lN n x.a/\lN n x.b/\lN n x.n
theorem P2:Rd e (BK H) Tryz.prog w 128 aT Cj:=rdS Tryz.underlying128 (rdC 1 (fK Tryz.underlying3) (rdC 1 (fK Tryz.underlying3) (rdC 1 (fK Tryz.underlying3) (rdE 1 (fK Tryz.underlying3))))) (fun(a,b,c,d)=>⟨a,b,c,d⟩) (fun _=>rfl) (fun _ (_,_,_,_) h=>h)
theorem Pl:Rd e (BK H) Tryz.prog w 32 (fun l:List Decision=>[.sl (l.map aT)]) (bL Cj):=pK (sz:=4) Tryz.underlying32 (by kernel_rfl) (by omega) (fun _=>rfl) (P2)
def aiF(n:Nat)(x:Ask3):Prop:=Fo n x.x/\(bL atI) n x.cuts/\(bL Cj) n x.d/\(bL RG) n x.dual
theorem amI:Rd e (BK H) Tryz.prog w 35 kE aiF:=rdS Tryz.underlying35 (rdC 6 RU (rdC 1 amG (rdC 1 Pl (rdE 1 aqT)))) (fun(a,b,c,d)=>⟨a,b,c,d⟩) (fun _=>rfl) (fun _ (_,_,_,_) h=>h)
end
end Go.Aw.D
end
section
namespace Go.Proofs.YtpagaknmdfgfkaaGreatDoor
open Go.Aw Go.Aw.D Go.Proofs Go.RowKit Go.ChangeShapes Go.WideShapes Go.ChangeAt
section
variable{H:Type}{e:TypeId×Value->H}{P:Program}{W W':World}
theorem PY{f:FuncId}{args:List AV}{vals:List Value}(h:PC P f args (.v (.bool true)))(J:Od W)(T:bO (Sw W) W args vals):
  Calls P f vals.toArray W fun F W'=>F=.returned (.bool true)/\Below W.heap.size W W':=
 (h (Sw W) W vals (axN W J) (fun _ h=>h) T).mono fun F W' ⟨v,r,H',S',X,O,_,I,E,_⟩=>by subst O;simp only[rep]at I;subst I;exact⟨X,E.os,E.tape,E.output,E.size,E.same⟩
theorem EA(T:laidOutB P=true)(O:Below W.heap.size W W'):∀{F:List TypeId} {vs:List Value} {ds:List (DataW H)} {ps:List MemPlace},(∀t∈F,P.readableRec t=true/\t<P.types.size) ->
  DataW.TrodAll e P W 0 (fun _=>true) true F vs ds ps->(∀x∈ps,x.block<W.heap.size)->∀I:Nat->Bool,(∀x∈ps,I x.block=true)->DataW.TrodAll e P W' 0 I true F vs ds ps
 | [],[],[],_,_,h,_,_,_=>h
 | t::F,v::vs,d::ds,ps,ht,⟨p,q,h1,h2,he⟩,hlt,I,hs=>by
  subst he;have h0:=ht t (by simp);exact⟨p,q,WideElems.Trod_stays T h0.1 h0.2 h1 (fun x E=>O.same (hlt x (by simp[E]))) (fun x E=>hs x (by simp[E])),
   EA T O (fun t J=>ht t (by simp[J])) h2 (fun x E=>hlt x (by simp[E])) I (fun x E=>hs x (by simp[E])),rfl⟩
theorem WH{t:TypeId}{fs:Array Field}{α:Type}{enc:α->List AV}{b:Nat->α->Prop}{r:Reach}{X:Nat}{v:Value}{d:DataW H}{Z:List MemPlace}(J:P.underlying t=some (.struct fs))
  (O:Rd e (BK H) P W t enc b) (E:Value.okWide P W r X t v) (T:DataW.Trod e P W 0 (fun _=>true) true t v d Z):∃x:α,rep (Sw W) W (.agg (enc x)) v/\∀n,BK H d<=n->b n x:=by
 obtain⟨cs,rfl,_⟩:=okWide_struct J E;obtain⟨F,h⟩:=T;obtain⟨x,⟨h1,Y⟩,I⟩:=O F _ _ h;refine⟨x,?_,I⟩;simp only[rep];exact⟨cs.toList,by simp,h1,Y⟩
theorem aaK{fn:Func}{s:ChangeSpec}{args:Array Value}{ds gs:List (DataW H)}{before:List MemPlace}(hl:laidOutB P=true)(af:∀t∈fn.params.toList,P.readableRec t=true/\t<P.types.size)
  (E:s.vars=[]) {tb:TypeId} (Y:P.underlying tb=some .bool) (Z:fn.resultTypes=#[tb]) (hW:DataW.Whole e P fn.params.toList s.vars false W args.toList ds gs before)
  (X:(s.fn H (ds++gs)).results=[.lit (.bool true)]) (O:(s.fn H (ds++gs)).args=ds) (ac:(s.fn H (ds++gs)).vars=[]) (hb:Below W.heap.size W W'):
  s.post e P fn false true false false W args (.bool true) W':=by
 have J:=hW.lt;have ae:=hW;obtain⟨p,q,hA,hV,rfl,ab,ag⟩:=hW;rw[E]at hV;obtain⟨rfl,rfl⟩:=trodVars_none hV;have hk:W.keptBut W' (·∈p++[]):=hb.frame _;have aa:∀x∈p++[],(fun b=>decide (b<W.heap.size)) x.block=true:=fun x F=>by simpa using J x F
 have r1:∀(b:Nat) (I:Nat->Bool) (hd:Bool),DataW.TrodAll e P W' b I hd fn.resultTypes.toList ((Value.bool true).resultList fn.resultTypes.size) (s.fn H (ds++[])).results []:=fun b I hd=>by rw[Z,X];exact trodAll_cons_mk (shut_bool Y _) trodAll_mk0
 have r2:∀I:Nat->Bool,(∀x∈p++[],I x.block=true)->DataW.TrodAll e P W' 0 I true fn.params.toList args.toList (s.fn H (ds++[])).args p:=fun I ad=>by rw[O];exact EA hl hb af hA (fun x F=>J x (by simp[F])) I (fun x F=>ad x (by simp[F]))
 have r3:∀I:Nat->Bool,DataW.TrodVars e P W' I s.vars (s.fn H (ds++[])).vars []:=fun I=>by rw[E,ac];simp[DataW.TrodVars]
 refine⟨ds,[],p++[],[],p,[],ae,r1 _ _ _,r2 _ aa,r3 _,World.keptBut_mono (fun x F=>⟨F,.inr (by simpa using F)⟩) hk,fun _=>?_⟩;refine⟨?_,_,_,([]++p)++[],⟨[]++p,[],trodAll_append (r2 _ (fun _ _=>rfl)) (r1 _ _ _),r3 _,rfl,?_,?_⟩,?_⟩
 ·exact ok_one Z rfl (okWide_bool_mk Y _)
 ·intro b off hp;have T:MemPlace.cell b off∈p++[]:=by simpa using hp
  rw[hb.frozen (J _ T)];exact ab b off T
 ·intro ha;simp at ha
 ·intro x F _;simpa using F
end
end Go.Proofs.YtpagaknmdfgfkaaGreatDoor
end
section
namespace Go.Proofs.YtpagaknmdfgfkaaGreatDoor
def cF(n N:Int):Bool:=decide (n<0)||decide (n>=N)
end Go.Proofs.YtpagaknmdfgfkaaGreatDoor
namespace Go.Proofs.YtpagaknmdfgfkaaGreatDoor.Mv
open Go.Aw Go.Aw.D Go.Proofs Ty
theorem bP{H:aG}{k:IntKind}{a b:Int}(h:a=b):Conv H (.v (.int k a)) (.v (.int k b)):=h▸.refl _
theorem bS{H:aG}{a b:Bool}(h:a=b):Conv H (.v (.bool a)) (.v (.bool b)):=h▸.refl _
abbrev vY(l:List Int):Row:=⟨3,1,l.map bC⟩
def afG{n:Int}(h:0<=n/\n<18446744073709551616):IntKind.u64.wrap n=n:=by have e:IntKind.u64.wrap n=n%18446744073709551616:=rfl;rw[e];omega
def rX{α:Type}{p q:α->Bool}{l:List α}(h:∀x∈l,p x=q x):l.any p=l.any q:=by rw[Xar,Xas,Xas];exact⟨fun⟨x,E,F⟩=>⟨x,E,(h x E)▸F⟩,fun⟨x,E,F⟩=>⟨x,E,(h x E).symm▸F⟩⟩
def aO{α:Type}{p:α->Prop}{l:List α}{k:Nat}{x:α}(I:l[k]?=some x)(F:p x)(h:∀x∈l.take k,p x):∀x∈l.take (k+1),p x:=by
 rw[bA I];intro y E;rcases Xbb.1 E with E|E
 ·exact h y E
 ·simp at E;subst E;exact F
end Go.Proofs.YtpagaknmdfgfkaaGreatDoor.Mv
end
