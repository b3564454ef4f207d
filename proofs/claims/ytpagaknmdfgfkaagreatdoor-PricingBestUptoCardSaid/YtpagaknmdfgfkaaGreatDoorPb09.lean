import Derived.Test.YtpagaknmdfgfkaaGreatDoorRows
import Derived.Carry
import Derived.OpenShut
import Derived.JoinedCond
import Derived.WalkKit
import Derived.ProofKit
import Derived.WideKeyArgs
import Derived.Test.YtpagaknmdfgfkaaGreatDoorPb04
set_option linter.unusedSimpArgs false
set_option linter.unusedVariables false
set_option linter.defProp false
set_option maxRecDepth 100000
section
namespace Go.Proofs.YtpagaknmdfgfkaaGreatDoor
open Go.Proofs.Tryz
open Go.Aw Go.Aw.D Go.Proofs Ty
def inR(n lo hi:Int):Bool:=decide (n>=lo)&&decide (n<=hi)
def rJ(n lo hi:Int):PC prog 58 [int n,int lo,int hi] (boo (inR n lo hi)):=by refine pcd func58 rfl rfl ?_;simp only[go_sem];exact .refl _
def Fs(n lo hi:Int):PC prog 108 [int n,int lo,int hi] (boo (inR n lo hi)):=by refine pcd func108 rfl rfl ?_;simp only[go_sem];exact .refl _
def ahX(n:Int):PC prog 104 [int n] (boo (inR n 0 4096)):=by refine pcd func104 rfl rfl ?_;simp only[go_sem];exact .refl _
def Fh(c:Int):Bool:=decide (c>=48)&&decide (c<=57)
def Hy(c:Int):PC prog 169 [.v (.int .u8 c)] (boo (Fh c)):=by refine pcd func169 rfl rfl ?_;simp only[go_sem];exact .refl _
def Ew(c:Int):Bool:=decide (c>=97)&&decide (c<=122)||decide (c>=65)&&decide (c<=90)||c == 95
def Ed(c:Int):PC prog 170 [.v (.int .u8 c)] (boo (Ew c)):=by refine pcd func170 rfl rfl ?_;simp only[go_sem];exact .refl _
def kZ(s:Stop):Bool:=s.place == -1&&s.start == 0&&s.close == 0&&s.service == 0
def O5(s:Stop):Bool:=decide (s.place<0)||decide (s.start<0)||decide (s.start>s.close)||decide (s.close>4096)||decide (s.service<0)||decide (s.service>4096)
def gJ(s:Stop):Int:=if kZ s then 0 else if O5 s then 2 else 0
def PJ(s:Stop):PC prog 109 [.agg (eN s)] (int (gJ s)):=by
 refine pcd func109 rfl rfl ?_;simp only[go_sem];apply aA <;> intro h
 ·simp only[go_sem];have:gJ s=0:=if_pos h;rw[this];exact .refl _
 ·simp only[go_sem];apply aA <;> intro E
  ·simp only[go_sem];have:gJ s=2:=by unfold gJ;rw[if_neg (by simp[kZ,h])];exact if_pos E
   rw[this];exact .refl _
  ·simp only[go_sem];have:gJ s=0:=by unfold gJ;rw[if_neg (by simp[kZ,h]),if_neg (by simp only[O5,E];simp)]
   rw[this];exact .refl _
def Jx(n:Int):ByteArray:=strOfNums [IntKind.u8.wrap (IntKind.i64.wrap (48+n))]
def lG(n:Nat):ByteArray:=if n<10 then Jx n else lG (n/10)++Jx (n%10:Nat)
def E2(x:Int):(strOfNums [x]).size=1:=by simp[strOfNums];rfl
def GT(n:Int):(Jx n).size=1:=E2 _
def Cg{n:Nat}(h:10<=n):lG n=lG (n/10)++Jx (n%10:Nat):=by rw[lG,if_neg (by omega)]
def yY{n:Nat}(h:n<10):lG n=Jx n:=by rw[lG,if_pos h]
def qJ(n:Nat):(lG n).size<=n+1:=by
 induction n using Nat.strongRecOn with
 | ind n ih=>
  rcases Xav n 10 with h|h
  ·rw[yY h,GT];omega
  ·rw[Cg h,ByteArray.size_append,GT];have:=ih (n/10) (by omega);omega
def afV(m:Nat):(m:Int).tmod 10=((m%10:Nat):Int):=by rw[Xck (by omega)];rfl
def agC(m:Nat):(m:Int).tdiv 10=((m/10:Nat):Int):=by rw[Xbz (by omega)];rfl
def Ib{k:Nat}(h:k<=4611686018427387904):IntKind.i64.wrap (k:Int)=(k:Int):=aW (by omega)
def AI:IntKind.i64.max=9223372036854775807:=by decide
def anJ(n:Nat)(O:n<=4611686018427387904):PC prog 110 [int n] (str (lG n)):=by
 refine pcd func110 rfl rfl ?_;simp only[go_sem];refine⟨fun ρ _=>∃(m:Nat) (s:ByteArray),ρ 0=int m/\ρ 3=str s/\lG n=lG m++s/\s.size+m<=n,
  fun ρ _=>aR (ρ 0),⟨n,ByteArray.empty,rfl,rfl,by simp,by simp⟩,?_⟩
 rintro ρ H ⟨k,s,h0,J,I,U⟩;simp only[go_sem,h0];refine aA (fun E=>?_) (fun F=>?_)
 ·have E : 10 <= k := by
   have:(10:Int)<=k:=by simpa using E
   omega
  simp only[go_sem,h0,J,agC,afV,Ib (show k/10<=4611686018427387904 by omega),aN];refine⟨by omega,?_,by omega,⟨k/10,_,rfl,rfl,?_,?_⟩,by omega⟩
  ·rw[E2,AI];omega
  ·rw[I,Cg E,ByteArray.append_assoc];rfl
  ·rw[ByteArray.size_append,E2];omega
 ·have F : k < 10 := by
   have:¬(10:Int)<=k:=by simpa using F
   omega
  simp only[go_sem,h0,J];refine⟨by rw[E2,AI];omega,?_⟩;rw[I,yY F];exact .refl _
def agX:AV->Nat
 | .v (.bool true)=>1
 | _=>0
def vB(n:Nat)(Y:n<=4611686018427387904):PC prog 60 [int n] (str (lG n)):=by
 refine pcd func60 rfl rfl ?_;simp only[go_sem];refine⟨fun ρ _=>∃(b:Bool) (m:Nat) (s:ByteArray),ρ 0=int n/\ρ 5=boo b/\ρ 4=int m/\ρ 3=str s/\(b=true->lG n=lG m++s/\s.size+m<=n)/\(b=false->lG n=s),
  fun ρ _=>aR (ρ 4)+agX (ρ 5),⟨true,n,ByteArray.empty,rfl,rfl,rfl,rfl,fun _=>by simp,by simp⟩,?_⟩
 rintro ρ H ⟨b,k,s,h0,X,I,O,V,U⟩;simp only[go_sem,I,X];apply aA <;> intro E
 ·subst E;obtain⟨J,Z⟩:=V rfl;simp only[go_sem,I,afV];refine⟨by omega,?_⟩;apply aA <;> intro E
  ·exfalso;simp at E;omega
  ·simp only[go_sem,h0,O,I,agC,Ib (show k/10<=4611686018427387904 by omega),aN];refine⟨by rw[E2,AI];omega,by omega,⟨_,k/10,_,rfl,rfl,rfl,?_,?_⟩,?_⟩
   ·intro E;have:10<=k:=by simp at E;omega
    refine⟨?_,?_⟩
    ·rw[J,Cg this,ByteArray.append_assoc];rfl
    ·rw[ByteArray.size_append,E2];omega
   ·intro E;have F:k<10:=by simp at E;omega
    rw[J,yY F,Xbl F];rfl
   ·rcases Xav k 10 with h|h
    ·have:k/10=0:=by omega
     simp[this,agX]
    ·simp only[agX];split <;> omega
 ·simp only[go_sem,h0,];apply aA <;> intro E
  ·exfalso;simp at E;omega
  ·simp only[go_sem,O,];rw[U (by assumption)];exact .refl _
def fA(l:List Int)(d:Int):Bool:=if(l.length:Int)=d then l.all fun n=> !(decide (n<0)||decide (n>1000))else false
def J0{α:Type}{p:α->Bool}{l:List α}(h:∀x∈l,p x=true):l.all p=true:=Xaj.2 h
def JC{α:Type}{p:α->Bool}{l:List α}{x:α}(h:x∈l)(E:p x=false):l.all p=false:=by
 cases F:l.all p with
 | false=>rfl
 | true=>rw[Xaj.1 F x h]at E;cases E
def lK{α:Type}{l:List α}{k:Nat}{x:α}(h:l[k]?=some x):x∈l:=Xac h
def vY{α:Type}{q:α->Prop}{l:List α}{k:Nat}{x:α}(I:l[k]?=some x)(h:∀y∈l.take k,q y)(F:q x):∀y∈l.take (k+1),q y:=by
 rw[bA I];intro y E;rcases Xba.1 E with E|E
 ·exact h y E
 ·simp at E;subst E;exact F
def aT{k n:Nat}(h:decide ((k:Int)<(n:Int))=true):k<n:=by simpa using h
def aV{k n:Nat}(E:k<=n)(h:decide ((k:Int)<(n:Int))=false):k=n:=by
 have:¬k<n:=by simpa using h
 omega
def Pa(l:List Int)(d:Int)(Z:l.length<=1048576):PC prog 107 [.sl (l.map bC),int d] (boo (fA l d)):=by
 refine pcd func107 rfl rfl ?_;simp only[go_sem];apply aA <;> intro I
 ·simp only[go_sem];have:fA l d=false:=by unfold fA;rw[if_neg (by simpa using I)]
  rw[this];exact .refl _
 ·have I:(l.length:Int)=d:=by simpa using I
  simp only[go_sem];refine⟨fun ρ _=>∃k:Nat,k<=l.length/\ρ 0=.sl (l.map bC)/\ρ 5=int k/\∀n∈l.take k,(decide (n<0)||decide (n>1000))=false,fun ρ _=>l.length-aR (ρ 5),⟨0,Xaa _,rfl,rfl,by simp⟩,?_⟩;rintro ρ H ⟨k,X,h0,O,V⟩;simp only[go_sem,h0,O];refine aA (fun E=>?_) (fun F=>?_)
  ·have E:=aT E;obtain⟨r,J⟩:=aK E;have Y:=inB E;simp only[go_sem,h0,O,Y,aD J];apply aA <;> intro U
   ·simp only[go_sem];have:fA l d=false:=by unfold fA;rw[if_pos I];exact JC (lK J) (by simp only[U];rfl)
    rw[this];exact .refl _
   ·simp only[go_sem,h0,O,aQ k];exact⟨⟨k+1,E,rfl,vY J V U⟩,msr E⟩
  ·have F:=aV X F;subst F;simp only[go_sem];have:fA l d=true:=by unfold fA;rw[if_pos I];exact J0 fun n h=>by rw[V n (by simpa using h)];rfl
   rw[this];exact .refl _
def AO(l:List Int)(d:Int):Bool:=if(!inR l.length 1 3||(l.length:Int) != d)=true then false else l.all fun n=>inR n 0 1000
def avB(l:List Int)(d:Int)(Z:l.length<=1048576):PC prog 106 [.sl (l.map bC),int d] (boo (AO l d)):=by
 refine pcd func106 rfl rfl ?_;simp only[go_sem];refine aG (rJ _ _ _) ?_;simp only[go_sem];apply aA <;> intro I
 ·simp only[go_sem];have:AO l d=false:=by unfold AO;rw[if_pos I]
  rw[this];exact .refl _
 ·simp only[go_sem];refine⟨fun ρ _=>∃k:Nat,k<=l.length/\ρ 0=.sl (l.map bC)/\ρ 5=int k/\∀n∈l.take k,inR n 0 1000=true,fun ρ _=>l.length-aR (ρ 5),⟨0,Xaa _,rfl,rfl,by simp⟩,?_⟩;rintro ρ H ⟨k,X,h0,O,V⟩;simp only[go_sem,h0,O];refine aA (fun E=>?_) (fun F=>?_)
  ·have E:=aT E;obtain⟨r,J⟩:=aK E;have Y:=inB E;simp only[go_sem,h0,O,Y,aD J];refine aG (rJ _ _ _) ?_;simp only[go_sem];apply aA <;> intro U
   ·simp only[go_sem];have:AO l d=false:=by unfold AO;rw[if_neg (by rw[I];simp)];exact JC (lK J) (by simpa using U)
    rw[this];exact .refl _
   ·simp only[go_sem,h0,O,aQ k];exact⟨⟨k+1,E,rfl,vY J V (by simpa using U)⟩,msr E⟩
  ·have F:=aV X F;subst F;simp only[go_sem];have:AO l d=true:=by unfold AO;rw[if_neg (by rw[I];simp)];exact J0 fun n h=>V n (by simpa using h)
   rw[this];exact .refl _
def yA(s:ByteArray)(i:Nat):Int:=((s.data.getD i 0).toNat:Int)
def nE(s:ByteArray):Bool:=if(decide ((s.size:Int)<1)||decide ((s.size:Int)>16)||Fh (yA s 0))=true then false else(List.range s.size).all fun i=>Ew (yA s i)||Fh (yA s i)
def iA{n k:Nat}(h:k<n):(List.range n)[k]?=some k:=by simp[h]
def TO(s:ByteArray)(Y:s.size<=1048576):PC prog 102 [str s] (boo (nE s)):=by
 refine pcd func102 rfl rfl ?_;simp only[go_sem];refine⟨fun h=>⟨by omega,by simp at h;omega⟩,_,fun _=>(Hy _).q rfl,?_⟩;simp only[go_sem];apply aA <;> intro J
 ·simp only[go_sem];have:nE s=false:=by unfold nE;rw[if_pos (by exact J)]
  rw[this];exact .refl _
 ·simp only[go_sem];refine⟨fun ρ _=>∃k:Nat,k<=s.size/\ρ 0=str s/\ρ 3=int k/\∀i∈(List.range s.size).take k,(Ew (yA s i)||Fh (yA s i))=true,fun ρ _=>s.size-aR (ρ 3),⟨0,Xaa _,rfl,rfl,by simp⟩,?_⟩;rintro ρ H ⟨k,X,h0,I,V⟩;simp only[go_sem,h0,I];refine aA (fun E=>?_) (fun F=>?_)
  ·have E:=aT E;have O:=inB E;simp only[go_sem,h0,I,O];refine aG (Ed _) ?_;simp only[go_sem,h0,I,O];refine⟨_,fun _=>(Hy _).q rfl,?_⟩;simp only[go_sem];apply aA <;> intro U
   ·simp only[go_sem];have:nE s=false:=by unfold nE;rw[if_neg (by intro h;exact absurd (h.symm.trans J) (by simp))];exact JC (lK (iA E)) (by simpa[yA]using U)
    rw[this];exact .refl _
   ·simp only[go_sem,h0,I,aQ k];exact⟨⟨k+1,E,rfl,vY (iA E) V (by
     have:(!Ew (yA s k)&& !Fh (yA s k))=false:=U
     revert this;cases Ew (yA s k) <;> cases Fh (yA s k) <;> simp)⟩,msr E⟩
  ·have F:=aV X F;subst F;simp only[go_sem];have:nE s=true:=by unfold nE;rw[if_neg (by intro h;exact absurd (h.symm.trans J) (by simp))];exact J0 fun n h=>V n (by rw[Xan (by simp)];exact h)
   rw[this];exact .refl _
def kN(l:List VType):Int:=match l with|[]=>0|t::_=>t.cap.length
def OF(l:List VType):PC prog 33 [.sl (l.map bF)] (int (kN l)):=by
 refine pcd func33 rfl rfl ?_;simp only[go_sem];cases l with
 | nil=>
  simp only[go_sem];apply aA <;> intro E
  ·simp only[go_sem];exact .refl _
  ·simp at E
 | cons t l=>
  apply aA <;> intro E
  ·simp at E;omega
  ·simp only[go_sem];exact⟨⟨by omega,by omega⟩,.refl _⟩
def eH(l:List VType)(k:Nat)(s:ByteArray):Bool:=(l.take k).any fun t=>t.name.toList == s.toList
def NR(l:List VType)(m:Nat)(s:ByteArray)(hm:m<=l.length)(hl:l.length<=1048576):PC prog 105 [.sl (l.map bF),int m,str s] (boo (eH l m s)):=by
 refine pcd func105 rfl rfl ?_;simp only[go_sem];refine⟨fun ρ _=>∃k:Nat,k<=m/\ρ 0=.sl (l.map bF)/\ρ 1=int m/\ρ 2=str s/\ρ 7=int k/\∀t∈l.take k,(t.name.toList == s.toList)=false,fun ρ _=>m-aR (ρ 7),⟨0,Xaa _,rfl,rfl,rfl,rfl,by simp⟩,?_⟩;rintro ρ H ⟨k,X,h0,h1,O,I,V⟩;simp only[go_sem,h1,I];refine aA (fun E=>?_) (fun F=>?_)
 ·have E:=aT E;obtain⟨r,J⟩:=aK (show k<l.length by omega);have Y:=inB (show k<l.length by omega);simp only[go_sem,h0,O,I,Y,aD J];apply aA <;> intro U
  ·simp only[go_sem];have:eH l m s=true:=by refine Xao.2 ⟨r,?_,U⟩;exact Xac (i:=k) (by rw[List.getElem?_take];simp[E,J])
   rw[this];exact .refl _
  ·simp only[go_sem,h0,h1,O,I,aQ k];exact⟨⟨k+1,E,rfl,vY J V U⟩,msr E⟩
 ·have F:=aV X F;subst F;simp only[go_sem];have:eH l k s=false:=Xbb.2 fun t Z=>by simp[V t Z]
  rw[this];exact .refl _
def tT(p:Point):Bool:=decide (p.t<0)||decide (p.t>4096)||decide (p.a<p.t)||decide (p.a>IntKind.i64.wrap (p.t+4096))
def Pd(p q:Point):Bool:=decide (p.t<=q.t)||decide (p.a<q.a)
def eQ(l:List Point)(i:Nat):Point:=l.getD i ⟨0,0⟩
def DB(n lo hi:Int):Bool:=decide (n<lo)||decide (n>hi)
def iU(l:List Point)(i:Nat):List Fault:=
 opt (tT (eQ l i)) ⟨2,lG i⟩++opt (decide ((i:Int)>0)&&Pd (eQ l i) (eQ l (i-1))) ⟨13,lG i⟩
def jT(l:List Point):List Fault:=opt (DB l.length 1 16) ⟨4,ByteArray.empty⟩++(List.range l.length).flatMap (iU l)
def afC(l:List Point)(i:Nat):(iU l i).length<=2:=by unfold iU;rw[Xae];have:=cX (tT (eQ l i)) (⟨2,lG i⟩:Fault);have:=cX (decide ((i:Int)>0)&&Pd (eQ l i) (eQ l (i-1))) (⟨13,lG i⟩:Fault);omega
def gE{α E:Type}{f:α->List E}{c:Nat}(h:∀x,(f x).length<=c):∀l:List α,(l.flatMap f).length<=c*l.length
 | []=>by simp
 | x::r=>by have h1:=h x;have F:=gE h r;simp only[List.flatMap_cons,Xae,Xah,Nat.mul_add,Nat.mul_one];omega
def jI{E:Type}(f:Nat->List E)(k:Nat):(List.range (k+1)).flatMap f=(List.range k).flatMap f++f k:=by rw[Xbi,Xcd];simp
def dX{l:List Point}{k:Nat}{p:Point}(h:l[k]?=some p):eQ l k=p:=by simp[eQ,List.getD,h]
def abK(l:List Point)(hl:l.length<=1048576):NC prog 103 [.sl (l.map cC)] (bS (jT l)) .os:=by
 refine ncb (fun t=>t == 3) func103 rfl rfl ?_;simp only[go_sem];refine aL fun j hj=>?_
 simp only[go_sem];refine bK (fun ρ H=>∃j,ρ 0=.sl (l.map cC)/\ρ 3=.os j/\H j=some (bS (opt (DB l.length 1 16) ⟨4,ByteArray.empty⟩))) ?_ fun K Z=>aA (fun J=>?_) (fun J=>?_)
 ·rintro ρ H ⟨j,h0,V,F⟩;simp only[go_sem,];generalize aa:opt (DB l.length 1 16) (⟨4,ByteArray.empty⟩:Fault)=pre at F;have ak:pre.length<=1:=by rw[<-aa];exact cX _ _
  refine⟨fun ρ H=>∃k:Nat,k<=l.length/\ρ 0=.sl (l.map cC)/\ρ 4=int k/\∃j,ρ 3=.os j/\H j=some (bS (pre++(List.range k).flatMap (iU l))),fun ρ _=>l.length-aR (ρ 4),⟨0,Xaa _,h0,by simp only[go_sem];rfl,j,V,by simpa using F⟩,?_⟩;rintro ρ H ⟨k,hk,h0,I,j,V,F⟩;generalize ac:pre++(List.range k).flatMap (iU l)=es at F;have ai:es.length<=2*k+1:=by have:=gE (afC l) (List.range k);rw[<-ac,Xae];rw[Xbd]at this;omega
  simp only[go_sem,h0,I];refine aA (fun U=>?_) (fun ab=>?_)
  ·have U:=aT U;obtain⟨p,hp⟩:=aK U;have b1:=inB U;simp only[go_sem,h0,I,b1,aD hp];refine aL fun i hi=>?_
   simp only[go_sem];refine aI (r:=⟨85,2,[[int 0,int 0]]⟩) (by rw[aB]) (by simp[fX]) ?_;simp only[go_sem];have O:j≠i:=bE F hi;have ae:aM (aM H i (some ⟨85,2,[[int 0,int 0]]⟩)) i (some ⟨85,2,[cC p]⟩) j=some (bS es):=by rw[aJ _ _ _ _ O,aJ _ _ _ _ O,F]
   refine bK (fun E H'=>∃X,E 0=.sl (l.map cC)/\E 4=int k/\E 3=.os X/\E 5=.op i 0 0/\H' i=some ⟨85,2,[cC p]⟩/\X≠i /\
    H' X=some (bS (es++opt (tT p) ⟨2,lG k⟩))) ?_ fun K Z=>aA (fun J=>?_) (fun J=>?_)
   ·rintro ρ H ⟨j,h0,I,V,h5,hi,O,F⟩;generalize ag:es++opt (tT p) ⟨2,lG k⟩=fs at F;have aj:fs.length<=2*k+2:=by have:=cX (tT p) (⟨2,lG k⟩:Fault);rw[<-ag,Xae];omega
    simp only[go_sem];refine kI (by rfl) (by kernel_rfl) ?_;simp only[go_sem,h0,I,h5,hi];obtain⟨q,hq⟩:=aK (show k-1<l.length by omega);simp only[go_sem,h0,I,h5,hi,aiB (show k<=4611686018427387904 by omega),aD hq];have af:k<=4611686018427387904:=by omega
    have hg:decide ((k:Int)>0)=true->0<=IntKind.i64.wrap ((k:Int)-1)/\IntKind.i64.wrap ((k:Int)-1)<(l.length:Int):=fun h=>by
     have:(k:Int)>0:=by simpa using h
     rw[vH af];omega
    have ad:pre++(List.range (k+1)).flatMap (iU l)=fs++opt (decide ((k:Int)>0)&&Pd p q) ⟨13,lG k⟩:=by rw[jI,<-Xax,ac,<-ag,iU,dX hp,dX hq,Xax]
    refine⟨hg,fun h=>hg h.1,gP (fun E H'=>E 0=.sl (l.map cC)/\E 4=int k/\∃j,E 3=.os j/\H' j=some (bS (pre++(List.range (k+1)).flatMap (iU l)))) ?_ fun K Z _ _=>aA (fun J=>?_) (fun J=>?_)⟩
    ·rintro ρ H ⟨h0,I,j,V,F⟩;simp only[go_sem,h0,V,I,mS af];exact⟨⟨k+1,U,rfl,j,rfl,F⟩,by simp only[aN];omega⟩
    ·simp only[go_sem,V,I];refine aG (vB _ (by omega)) ?_;simp only[go_sem,];refine aZ F ⟨rfl,rfl⟩ (by simp only[go_sem]) (by simp;omega) (fun X Y=>?_);simp only[go_sem,];refine Z _ _ ⟨h0,I,X,rfl,?_⟩;rw[ad,jY (by exact J)];exact gF (l':=[⟨13,lG k⟩]) rfl
    ·simp only[go_sem];refine Z _ _ ⟨h0,I,j,V,?_⟩;rw[ad,jW (by exact J),Xak,F]
   ·simp only[go_sem,V,I];refine aG (vB _ (by omega)) ?_;simp only[go_sem,];refine aZ ae ⟨rfl,rfl⟩ (by simp only[go_sem]) (by simp;omega) (fun X Y=>?_);simp only[go_sem,];have ah:=aB (aM H i (some ⟨85,2,[[int 0,int 0]]⟩)) i (some ⟨85,2,[cC p]⟩);refine Z _ _ ⟨X,h0,I,rfl,rfl,dK ah O Y,(bE ah Y).symm,?_⟩;rw[jY (show tT p=true from J)];exact gF (l':=[⟨2,lG k⟩]) rfl
   ·simp only[go_sem];refine Z _ _ ⟨j,h0,I,V,rfl,by rw[aB],O,?_⟩;rw[ae,jW (show tT p=false from J),Xak]
  ·have ab:=aV hk ab;subst ab;simp only[go_sem,V];exact⟨_,rfl,by rw[F,<-ac,<-aa];rfl⟩
 ·simp only[go_sem];refine aZ (r:=bS []) (by simp only[go_sem];rfl) ⟨rfl,rfl⟩ (by simp only[go_sem]) (by simp) (fun X Y=>?_);simp only[go_sem];refine Z _ _ ⟨X,rfl,rfl,?_⟩;rw[jY (by exact J)];exact gF (l:=[]) (l':=[⟨4,ByteArray.empty⟩]) rfl
 ·simp only[go_sem];refine Z _ _ ⟨j,rfl,rfl,?_⟩;rw[jW (by exact J),aB];rfl
def MP(l:List ByteArray)(i:Nat):ByteArray:=l.getD i ByteArray.empty
def FK{l:List ByteArray}{k:Nat}{p:ByteArray}(h:l[k]?=some p):MP l k=p:=by simp[MP,List.getD,h]
def vI(i:Nat):ByteArray:=⟨#[112,108,97,99,101,32]⟩++lG i
def vP(l:List ByteArray)(i:Nat):Bool:=(l.take i).any fun s=>s.toList == (MP l i).toList
def iD(l:List ByteArray)(i:Nat):List Fault:=match nE (MP l i)with
 | false=>[⟨5,vI i⟩]
 | true=>opt (vP l i) ⟨6,vI i⟩
def Xb(l:List ByteArray)(i:Nat):(iD l i).length<=1:=by
 unfold iD;split
 ·simp
 ·exact cX _ _
def Ai(l:List ByteArray):List Fault:=opt (decide ((l.length:Int)>24)) ⟨4,⟨#[112,108,97,99,101,115]⟩⟩++(List.range l.length).flatMap (iD l)
def Ij{α:Type}{p:α->Bool}{l:List α}{k:Nat}{x:α}(h:l[k]?=some x):(l.take (k+1)).any p=((l.take k).any p||p x):=by rw[bA h,List.any_append];simp
def SN(i:Nat):(vI i).size<=i+7:=by have:=qJ i;unfold vI;rw[ByteArray.size_append];have:(⟨#[112,108,97,99,101,32]⟩:ByteArray).size=6:=rfl;omega
def aeJ(n:Network)(hl:n.places.length<=1048576)(hs:∀s∈n.places,s.size<=1048576):NC prog 56 [.agg (bD n)] (bS (Ai n.places)) .os:=by
 refine ncb (fun t=>t == 3) func56 rfl rfl ?_;simp only[go_sem];refine aL fun j hj=>?_
 simp only[go_sem];refine bK (fun ρ H=>∃j,ρ 1=.rp (bD n) 0/\ρ 3=.os j/\H j=some (bS (opt (decide ((n.places.length:Int)>24)) ⟨4,⟨#[112,108,97,99,101,115]⟩⟩))) ?_ fun K hK=>aA (fun U=>?_) (fun U=>?_)
 ·rintro ρ H ⟨j,h1,J,V⟩;simp only[go_sem,];generalize X:opt (decide ((n.places.length:Int)>24)) (⟨4,⟨#[112,108,97,99,101,115]⟩⟩:Fault)=pre at V;have ag:pre.length<=1:=by rw[<-X];exact cX _ _
  refine⟨fun ρ H=>∃k:Nat,k<=n.places.length/\ρ 1=.rp (bD n) 0/\ρ 4=int k/\∃j,ρ 3=.os j/\H j=some (bS (pre++(List.range k).flatMap (iD n.places))),fun ρ _=>n.places.length-aR (ρ 4),⟨0,Xaa _,h1,by simp only[go_sem];rfl,j,J,by simpa using V⟩,?_⟩;rintro ρ H ⟨k,hk,h1,F,j,J,V⟩;generalize aa:pre++(List.range k).flatMap (iD n.places)=es at V;have af:es.length<=k+1:=by have:=gE (Xb n.places) (List.range k);rw[<-aa,Xae];rw[Xbd]at this;omega
  simp only[go_sem,h1,F];refine aA (fun E=>?_) (fun Y=>?_)
  ·have E:=aT E;obtain⟨p,hp⟩:=aK E;have b1:=inB E;have ad:k<=4611686018427387904:=by omega
   have ah:=qJ k;have Z:pre++(List.range (k+1)).flatMap (iD n.places)=es++iD n.places k:=by rw[jI,<-Xax,aa]
   simp only[go_sem,F];refine aG (vB _ (by omega)) ?_;simp only[go_sem,h1,F,b1,aD hp];refine⟨by rw[AI];show((6+(lG k).size:Nat):Int)<=_;omega,?_⟩;refine aG (TO p (hs p (lK hp))) ?_;simp only[go_sem,];refine aA (fun U=>?_) (fun U=>?_)
   ·simp only[go_sem,J];refine aZ V ⟨rfl,rfl⟩ (by simp only[go_sem]) (by simp;omega) (fun j' ae=>?_);simp only[go_sem,h1,F,mS ad];refine⟨⟨k+1,E,rfl,j',rfl,?_⟩,by simp only[aN];omega⟩;have hn:nE (MP n.places k)=false:=by rw[FK hp];simpa using U
    rw[Z,iD,hn];exact gF (l':=[⟨5,vI k⟩]) rfl
   ·simp only[go_sem,];have hn:nE (MP n.places k)=true:=by rw[FK hp];simpa using U
    refine⟨fun ρ H'=>∃m:Nat,m<=k/\ρ 1=.rp (bD n) 0/\ρ 3=.os j/\ρ 4=int k/\ρ 5=str (vI k)/\ρ 6=boo ((n.places.take m).any fun s=>s.toList == p.toList)/\ρ 7=int m/\H'=H,fun ρ _=>k-aR (ρ 7),⟨0,Xaa _,h1,J,F,by simp only[go_sem];rfl,by simp only[go_sem];rfl,by simp only[go_sem];rfl,rfl⟩,?_⟩;rintro ρ H' ⟨m,hm,h1,J,F,h5,h6,h7,rfl⟩;simp only[go_sem,F,h7];refine aA (fun I=>?_) (fun O=>?_)
    ·have I:=aT I;obtain⟨q,hq⟩:=aK (show m<n.places.length by omega);have b2:=inB (show m<n.places.length by omega);simp only[go_sem];refine kI (by rfl) (by kernel_rfl) ?_;simp only[go_sem,h1,J,F,h5,h6,h7,b1,b2,aD hp,aD hq,aQ m];refine⟨⟨m+1,I,?_,rfl⟩,by simp only[aN];omega⟩;rw[Ij hq]
    ·have O:=aV hm O;subst O;simp only[go_sem,h6];have ac:vP n.places m=(n.places.take m).any fun s=>s.toList == p.toList:=by unfold vP;rw[FK hp]
     refine gP (fun ab H'=>ab 1=.rp (bD n) 0/\ab 4=int m/\∃j,ab 3=.os j/\H' j=some (bS (pre++(List.range (m+1)).flatMap (iD n.places)))) ?_ fun K hK _ _=>aA (fun U=>?_) (fun U=>?_)
     ·rintro ρ H ⟨h1,F,j,J,V⟩;simp only[go_sem,h1,J,F,mS ad];exact⟨⟨m+1,E,rfl,j,rfl,V⟩,by simp only[aN];omega⟩
     ·simp only[go_sem,J,h5];refine aZ V ⟨rfl,rfl⟩ (by simp only[go_sem]) (by simp;omega) (fun j' ae=>?_);simp only[go_sem];refine hK _ _ ⟨h1,F,j',rfl,?_⟩;rw[Z,iD,hn];show _=some (bS (es++opt (vP n.places m) ⟨6,vI m⟩));rw[jY (ac.trans U)];exact gF (l':=[⟨6,vI m⟩]) rfl
     ·simp only[go_sem];refine hK _ _ ⟨h1,F,j,J,?_⟩;rw[Z,iD,hn];show _=some (bS (es++opt (vP n.places m) ⟨6,vI m⟩));rw[jW (ac.trans U),Xak,V]
  ·have Y:=aV hk Y;subst Y;simp only[go_sem,J];exact⟨_,rfl,by rw[V,<-aa,<-X];rfl⟩
 ·simp only[go_sem];refine aZ (r:=bS []) (by simp only[go_sem];rfl) ⟨rfl,rfl⟩ (by simp only[go_sem]) (by simp) (fun j' ae=>?_);simp only[go_sem];refine hK _ _ ⟨j',rfl,rfl,?_⟩;rw[jY (by exact U)];exact gF (l:=[]) (l':=[⟨4,⟨#[112,108,97,99,101,115]⟩⟩]) rfl
 ·simp only[go_sem];refine hK _ _ ⟨j,rfl,rfl,?_⟩;rw[jW (by exact U),aB];rfl
def U9(l:List VType)(i:Nat):VType:=l.getD i ⟨ByteArray.empty,0,0,0,[],0,0,0,0,0,0,0,0,0⟩
def Tt{l:List VType}{k:Nat}{p:VType}(h:l[k]?=some p):U9 l k=p:=by simp[U9,List.getD,h]
def pL(n:Network)(l:List VType)(k:Nat)(t:VType):List Int:=
 []++opt (!nE t.name) 5++opt (eH l k t.name) 6++opt (!inR t.count 0 10) 22++opt (!inR t.src 0 (n.places.length-1)|| !inR t.dst 0 (n.places.length-1)) 11
   ++ opt (!AO t.cap (kN l)) 17++opt (!inR t.skills 0 1073741823) 18++opt (!inR t.start 0 t.close||decide (t.close>4096)) 15
   ++ opt (!inR t.drive 1 4096|| !inR t.rest 0 4096) 16++opt (!inR t.profile 0 7|| !inR t.fixed 0 100000|| !inR t.perMile 0 100|| !inR t.perTick 0 100) 2
def acL(n:Network)(l:List VType)(k:Nat)(hk:k<l.length)(hl:l.length<=1048576)(hs:∀t∈l,t.name.size<=1048576/\t.cap.length<=1048576)(hp:n.places.length<=1048576):
  PC prog 59 [.agg (bD n),.sl (l.map bF),int k] (.sl ((pL n l k (U9 l k)).map bC)):=by
 refine pcb (fun t=>t == 8) func59 rfl rfl ?_;simp only[go_sem];obtain⟨t,ht⟩:=aK hk;have b1:=inB hk;have ak:=hs t (lK ht);rw[Tt ht];simp only[go_sem,b1,aD ht];refine aL fun i hi=>?_
 simp only[go_sem];refine aI (aB _ _ _) (by simp[iP]) ?_;simp only[go_sem];refine aL fun j hj=>?_
 have am:=eY (r':=(⟨45,1,[]⟩:Row)) (aB _ _ _) hj;simp only[go_sem,am];refine aG (TO _ ak.1) ?_;simp only[go_sem];refine sU (fun E H'=>E 1=.sl (l.map bF)/\E 2=int k/\E 3=.rp (bD n) 0/\E 7=.op i 0 0/\H' i=some (lB t)/\∃F,E 8=.os F/\F≠i/\H' F=some (mG [])) ⟨rfl,rfl,rfl,rfl,eY (aB _ _ _) hj,_,rfl,(bE (aB _ _ _) hj).symm,aB _ _ _⟩ ?_;rintro ρ H ⟨h1,Y,X,O,hi,j,Z,I,U⟩;generalize ab:([]:List Int)=es0 at U;have aq:es0.length<=0:=by rw[<-ab];exact Xaf _
 refine bK (fun E H'=>E 1=.sl (l.map bF)/\E 2=int k/\E 3=.rp (bD n) 0/\E 7=.op i 0 0/\H' i=some (lB t)/\∃F,E 8=.os F/\F≠i/\H' F=some (mG (es0++opt (!nE t.name) 5))) ?_ fun K hK=>aA (fun V=>?_) (fun V=>?_)
 rotate_left
 ·simp only[go_sem,Z];refine aZ U ⟨rfl,rfl⟩ (by simp only[go_sem]) (by simp;omega) (fun F J=>?_);simp only[go_sem];refine hK _ _ ⟨h1,Y,X,O,dK hi I J,F,rfl,(bE hi J).symm,?_⟩;rw[jY (show(!nE t.name)=true from V)];exact iG (l':=[5]) rfl
 ·simp only[go_sem];refine hK _ _ ⟨h1,Y,X,O,hi,j,Z,I,?_⟩;rw[jW (show(!nE t.name)=false from V),Xak,U]
 rintro ρ H ⟨h1,Y,X,O,hi,j,Z,I,U⟩;generalize ag:es0++opt (!nE t.name) (5:Int)=es1 at U;have ao:es1.length<=es0.length+1:=by rw[<-ag,Xae];have:=cX (!nE t.name) (5:Int);omega
 simp only[go_sem,h1,Y,O,hi];refine aG (NR l k t.name (by omega) hl) ?_;simp only[go_sem];refine bK (fun E H'=>E 1=.sl (l.map bF)/\E 2=int k/\E 3=.rp (bD n) 0/\E 7=.op i 0 0/\H' i=some (lB t)/\∃F,E 8=.os F/\F≠i/\H' F=some (mG (es1++opt (eH l k t.name) 6))) ?_ fun K hK=>aA (fun V=>?_) (fun V=>?_)
 rotate_left
 ·simp only[go_sem,Z];refine aZ U ⟨rfl,rfl⟩ (by simp only[go_sem]) (by simp;omega) (fun F J=>?_);simp only[go_sem];refine hK _ _ ⟨h1,Y,X,O,dK hi I J,F,rfl,(bE hi J).symm,?_⟩;rw[jY (show(eH l k t.name)=true from V)];exact iG (l':=[6]) rfl
 ·simp only[go_sem];refine hK _ _ ⟨h1,Y,X,O,hi,j,Z,I,?_⟩;rw[jW (show(eH l k t.name)=false from V),Xak,U]
 rintro ρ H ⟨h1,Y,X,O,hi,j,Z,I,U⟩;generalize aj:es1++opt (eH l k t.name) (6:Int)=es2 at U;have av:es2.length<=es1.length+1:=by rw[<-aj,Xae];have:=cX (eH l k t.name) (6:Int);omega
 simp only[go_sem,O,hi];refine aG (rJ _ _ _) ?_;simp only[go_sem];refine bK (fun E H'=>E 1=.sl (l.map bF)/\E 2=int k/\E 3=.rp (bD n) 0/\E 7=.op i 0 0/\H' i=some (lB t)/\∃F,E 8=.os F/\F≠i/\H' F=some (mG (es2++opt (!inR t.count 0 10) 22))) ?_ fun K hK=>aA (fun V=>?_) (fun V=>?_)
 rotate_left
 ·simp only[go_sem,Z];refine aZ U ⟨rfl,rfl⟩ (by simp only[go_sem]) (by simp;omega) (fun F J=>?_);simp only[go_sem];refine hK _ _ ⟨h1,Y,X,O,dK hi I J,F,rfl,(bE hi J).symm,?_⟩;rw[jY (show(!inR t.count 0 10)=true from V)];exact iG (l':=[22]) rfl
 ·simp only[go_sem];refine hK _ _ ⟨h1,Y,X,O,hi,j,Z,I,?_⟩;rw[jW (show(!inR t.count 0 10)=false from V),Xak,U]
 rintro ρ H ⟨h1,Y,X,O,hi,j,Z,I,U⟩;generalize aa:es2++opt (!inR t.count 0 10) (22:Int)=es3 at U;have ax:es3.length<=es2.length+1:=by rw[<-aa,Xae];have:=cX (!inR t.count 0 10) (22:Int);omega
 simp only[go_sem,X,O,hi,vH (show n.places.length<=4611686018427387904 by omega)];refine aG (rJ _ _ _) ?_;simp only[go_sem,X,O,hi,vH (show n.places.length<=4611686018427387904 by omega)];refine⟨_,fun _=>(rJ _ _ _).q rfl,?_⟩;simp only[go_sem,];refine bK (fun E H'=>E 1=.sl (l.map bF)/\E 2=int k/\E 3=.rp (bD n) 0/\E 7=.op i 0 0/\H' i=some (lB t)/\∃F,E 8=.os F/\F≠i/\H' F=some (mG (es3++opt (!inR t.src 0 (n.places.length-1)|| !inR t.dst 0 (n.places.length-1)) 11))) ?_ fun K hK=>aA (fun V=>?_) (fun V=>?_)
 rotate_left
 ·simp only[go_sem,Z];refine aZ U ⟨rfl,rfl⟩ (by simp only[go_sem]) (by simp;omega) (fun F J=>?_);simp only[go_sem];refine hK _ _ ⟨h1,Y,X,O,dK hi I J,F,rfl,(bE hi J).symm,?_⟩;rw[jY (show(!inR t.src 0 (n.places.length-1)|| !inR t.dst 0 (n.places.length-1))=true from V)];exact iG (l':=[11]) rfl
 ·simp only[go_sem];refine hK _ _ ⟨h1,Y,X,O,hi,j,Z,I,?_⟩;rw[jW (show(!inR t.src 0 (n.places.length-1)|| !inR t.dst 0 (n.places.length-1))=false from V),Xak,U]
 rintro ρ H ⟨h1,Y,X,O,hi,j,Z,I,U⟩;generalize ad:es3++opt (!inR t.src 0 (n.places.length-1)|| !inR t.dst 0 (n.places.length-1)) (11:Int)=es4 at U;have ap:es4.length<=es3.length+1:=by rw[<-ad,Xae];have:=cX (!inR t.src 0 (n.places.length-1)|| !inR t.dst 0 (n.places.length-1)) (11:Int);omega
 simp only[go_sem,];refine kI (by rfl) (by kernel_rfl) ?_;simp only[go_sem,h1,O,hi];refine⟨_,(OF l).q rfl,?_⟩;simp only[go_sem,];refine⟨_,(avB t.cap (kN l) ak.2).q rfl,?_⟩;simp only[go_sem,];refine bK (fun E H'=>E 1=.sl (l.map bF)/\E 2=int k/\E 3=.rp (bD n) 0/\E 7=.op i 0 0/\H' i=some (lB t)/\∃F,E 8=.os F/\F≠i/\H' F=some (mG (es4++opt (!AO t.cap (kN l)) 17))) ?_ fun K hK=>aA (fun V=>?_) (fun V=>?_)
 rotate_left
 ·simp only[go_sem,Z];refine aZ U ⟨rfl,rfl⟩ (by simp only[go_sem]) (by simp;omega) (fun F J=>?_);simp only[go_sem];refine hK _ _ ⟨h1,Y,X,O,dK hi I J,F,rfl,(bE hi J).symm,?_⟩;rw[jY (show(!AO t.cap (kN l))=true from V)];exact iG (l':=[17]) rfl
 ·simp only[go_sem];refine hK _ _ ⟨h1,Y,X,O,hi,j,Z,I,?_⟩;rw[jW (show(!AO t.cap (kN l))=false from V),Xak,U]
 rintro ρ H ⟨h1,Y,X,O,hi,j,Z,I,U⟩;generalize ac:es4++opt (!AO t.cap (kN l)) (17:Int)=es5 at U;have an:es5.length<=es4.length+1:=by rw[<-ac,Xae];have:=cX (!AO t.cap (kN l)) (17:Int);omega
 simp only[go_sem,O,hi];refine aG (rJ _ _ _) ?_;simp only[go_sem,];refine bK (fun E H'=>E 1=.sl (l.map bF)/\E 2=int k/\E 3=.rp (bD n) 0/\E 7=.op i 0 0/\H' i=some (lB t)/\∃F,E 8=.os F/\F≠i/\H' F=some (mG (es5++opt (!inR t.skills 0 1073741823) 18))) ?_ fun K hK=>aA (fun V=>?_) (fun V=>?_)
 rotate_left
 ·simp only[go_sem,Z];refine aZ U ⟨rfl,rfl⟩ (by simp only[go_sem]) (by simp;omega) (fun F J=>?_);simp only[go_sem];refine hK _ _ ⟨h1,Y,X,O,dK hi I J,F,rfl,(bE hi J).symm,?_⟩;rw[jY (show(!inR t.skills 0 1073741823)=true from V)];exact iG (l':=[18]) rfl
 ·simp only[go_sem];refine hK _ _ ⟨h1,Y,X,O,hi,j,Z,I,?_⟩;rw[jW (show(!inR t.skills 0 1073741823)=false from V),Xak,U]
 rintro ρ H ⟨h1,Y,X,O,hi,j,Z,I,U⟩;generalize af:es5++opt (!inR t.skills 0 1073741823) (18:Int)=es6 at U;have ar:es6.length<=es5.length+1:=by rw[<-af,Xae];have:=cX (!inR t.skills 0 1073741823) (18:Int);omega
 simp only[go_sem,O,hi];refine aG (rJ _ _ _) ?_;simp only[go_sem,O,hi];refine bK (fun E H'=>E 1=.sl (l.map bF)/\E 2=int k/\E 3=.rp (bD n) 0/\E 7=.op i 0 0/\H' i=some (lB t)/\∃F,E 8=.os F/\F≠i/\H' F=some (mG (es6++opt (!inR t.start 0 t.close||decide (t.close>4096)) 15))) ?_ fun K hK=>aA (fun V=>?_) (fun V=>?_)
 rotate_left
 ·simp only[go_sem,Z];refine aZ U ⟨rfl,rfl⟩ (by simp only[go_sem]) (by simp;omega) (fun F J=>?_);simp only[go_sem];refine hK _ _ ⟨h1,Y,X,O,dK hi I J,F,rfl,(bE hi J).symm,?_⟩;rw[jY (show(!inR t.start 0 t.close||decide (t.close>4096))=true from V)];exact iG (l':=[15]) rfl
 ·simp only[go_sem];refine hK _ _ ⟨h1,Y,X,O,hi,j,Z,I,?_⟩;rw[jW (show(!inR t.start 0 t.close||decide (t.close>4096))=false from V),Xak,U]
 rintro ρ H ⟨h1,Y,X,O,hi,j,Z,I,U⟩;generalize ai:es6++opt (!inR t.start 0 t.close||decide (t.close>4096)) (15:Int)=es7 at U;have aw:es7.length<=es6.length+1:=by rw[<-ai,Xae];have:=cX (!inR t.start 0 t.close||decide (t.close>4096)) (15:Int);omega
 simp only[go_sem,O,hi];refine aG (rJ _ _ _) ?_;simp only[go_sem,O,hi];refine⟨_,fun _=>(rJ _ _ _).q rfl,?_⟩;simp only[go_sem,];refine bK (fun E H'=>E 1=.sl (l.map bF)/\E 2=int k/\E 3=.rp (bD n) 0/\E 7=.op i 0 0/\H' i=some (lB t)/\∃F,E 8=.os F/\F≠i/\H' F=some (mG (es7++opt (!inR t.drive 1 4096|| !inR t.rest 0 4096) 16))) ?_ fun K hK=>aA (fun V=>?_) (fun V=>?_)
 rotate_left
 ·simp only[go_sem,Z];refine aZ U ⟨rfl,rfl⟩ (by simp only[go_sem]) (by simp;omega) (fun F J=>?_);simp only[go_sem];refine hK _ _ ⟨h1,Y,X,O,dK hi I J,F,rfl,(bE hi J).symm,?_⟩;rw[jY (show(!inR t.drive 1 4096|| !inR t.rest 0 4096)=true from V)];exact iG (l':=[16]) rfl
 ·simp only[go_sem];refine hK _ _ ⟨h1,Y,X,O,hi,j,Z,I,?_⟩;rw[jW (show(!inR t.drive 1 4096|| !inR t.rest 0 4096)=false from V),Xak,U]
 rintro ρ H ⟨h1,Y,X,O,hi,j,Z,I,U⟩;generalize ah:es7++opt (!inR t.drive 1 4096|| !inR t.rest 0 4096) (16:Int)=es8 at U;have au:es8.length<=es7.length+1:=by rw[<-ah,Xae];have:=cX (!inR t.drive 1 4096|| !inR t.rest 0 4096) (16:Int);omega
 simp only[go_sem,O,hi];refine aG (rJ _ _ _) ?_;simp only[go_sem,O,hi];refine⟨_,fun _=>(rJ _ _ _).q rfl,?_⟩;simp only[go_sem,O,hi];refine⟨_,fun _=>(rJ _ _ _).q rfl,?_⟩;simp only[go_sem,O,hi];refine⟨_,fun _=>(rJ _ _ _).q rfl,?_⟩;simp only[go_sem,];refine bK (fun E H'=>E 1=.sl (l.map bF)/\E 2=int k/\E 3=.rp (bD n) 0/\E 7=.op i 0 0/\H' i=some (lB t)/\∃F,E 8=.os F/\F≠i/\H' F=some (mG (es8++opt (!inR t.profile 0 7|| !inR t.fixed 0 100000|| !inR t.perMile 0 100|| !inR t.perTick 0 100) 2))) ?_ fun K hK=>aA (fun V=>?_) (fun V=>?_)
 rotate_left
 ·simp only[go_sem,Z];refine aZ U ⟨rfl,rfl⟩ (by simp only[go_sem]) (by simp;omega) (fun F J=>?_);simp only[go_sem];refine hK _ _ ⟨h1,Y,X,O,dK hi I J,F,rfl,(bE hi J).symm,?_⟩;rw[jY (show(!inR t.profile 0 7|| !inR t.fixed 0 100000|| !inR t.perMile 0 100|| !inR t.perTick 0 100)=true from V)];exact iG (l':=[2]) rfl
 ·simp only[go_sem];refine hK _ _ ⟨h1,Y,X,O,hi,j,Z,I,?_⟩;rw[jW (show(!inR t.profile 0 7|| !inR t.fixed 0 100000|| !inR t.perMile 0 100|| !inR t.perTick 0 100)=false from V),Xak,U]
 rintro ρ H ⟨h1,Y,X,O,hi,j,Z,I,U⟩;generalize ae:es8++opt (!inR t.profile 0 7|| !inR t.fixed 0 100000|| !inR t.perMile 0 100|| !inR t.perTick 0 100) (2:Int)=es9 at U;have ay:es9.length<=es8.length+1:=by rw[<-ae,Xae];have:=cX (!inR t.profile 0 7|| !inR t.fixed 0 100000|| !inR t.perMile 0 100|| !inR t.perTick 0 100) (2:Int);omega
 simp only[go_sem,Z];have al:pL n l k t=es9:=by unfold pL;rw[ab,ag,aj,aa,ad,ac,af,ai,ah,ae]
 rw[al];exact .row _ _ _ U (ConvE.refl _)
def kF(n:Network)(l:List VType)(k:Nat):List Fault:=(pL n l k (U9 l k)).map fun e=>⟨e,lG k⟩
def yK(n:Network)(l:List VType):List Fault:=opt (!inR l.length 1 6) ⟨4,ByteArray.empty⟩++(List.range l.length).flatMap (kF n l)
def Ab(n:Network)(l:List VType)(k:Nat)(t:VType):(pL n l k t).length<=9:=by
 unfold pL;simp only[Xae,List.length_nil];have h:=fun(b:Bool) (x:Int)=>cX b x
 have h1:=h (!nE t.name) 5;have E:=h (eH l k t.name) 6;have X:=h (!inR t.count 0 10) 22;have I:=h (!inR t.src 0 (n.places.length-1)|| !inR t.dst 0 (n.places.length-1)) 11;have O:=h (!AO t.cap (kN l)) 17;have U:=h (!inR t.skills 0 1073741823) 18;have F:=h (!inR t.start 0 t.close||decide (t.close>4096)) 15;have J:=h (!inR t.drive 1 4096|| !inR t.rest 0 4096) 16;have V:=h (!inR t.profile 0 7|| !inR t.fixed 0 100000|| !inR t.perMile 0 100|| !inR t.perTick 0 100) 2;omega
def ET{α E:Type}{f:α->E}{l:List α}{k:Nat}{x:α}(h:l[k]?=some x):(l.take (k+1)).map f=(l.take k).map f++[f x]:=by rw[bA h,Xal];rfl
def amU(n:Network)(l:List VType)(hl:l.length<=1048576)(hs:∀t∈l,t.name.size<=1048576/\t.cap.length<=1048576)(hp:n.places.length<=1048576):
  NC prog 31 [.agg (bD n),.sl (l.map bF)] (bS (yK n l)) .os:=by
 refine ncb (fun t=>t == 5) func31 rfl rfl ?_;simp only[go_sem];refine aL fun j hj=>?_
 simp only[go_sem];refine aG (rJ _ _ _) ?_;simp only[go_sem];refine sU (fun F H'=>F 1=.sl (l.map bF)/\F 2=.rp (bD n) 0/\∃V,F 5=.os V/\H' V=some (bS [])) ⟨rfl,rfl,_,rfl,aB _ _ _⟩ ?_;rintro ρ H ⟨h1,O,j,U,I⟩;generalize Y:([]:List Fault)=es0 at I;have aj:es0.length<=0:=by rw[<-Y];exact Xaf _
 refine bK (fun F H'=>F 1=.sl (l.map bF)/\F 2=.rp (bD n) 0/\∃V,F 5=.os V/\H' V=some (bS (es0++opt (!inR l.length 1 6) ⟨4,ByteArray.empty⟩))) ?_ fun K hK=>aA (fun hb=>?_) (fun hb=>?_)
 rotate_left
 ·simp only[go_sem,U];refine aZ I ⟨rfl,rfl⟩ (by simp only[go_sem]) (by simp;omega) (fun V ag=>?_);simp only[go_sem];refine hK _ _ ⟨h1,O,V,rfl,?_⟩;rw[jY (show(!inR l.length 1 6)=true from hb)];exact gF (l':=[⟨4,ByteArray.empty⟩]) rfl
 ·simp only[go_sem];refine hK _ _ ⟨h1,O,j,U,?_⟩;rw[jW (show(!inR l.length 1 6)=false from hb),Xak,I]
 rintro ρ H ⟨h1,O,j,U,I⟩;generalize Z:es0++opt (!inR l.length 1 6) (⟨4,ByteArray.empty⟩:Fault)=es1 at I;have ai:es1.length<=es0.length+1:=by rw[<-Z,Xae];have:=cX (!inR l.length 1 6) (⟨4,ByteArray.empty⟩:Fault);omega
 simp only[go_sem,];refine⟨fun ρ H=>∃k:Nat,k<=l.length/\ρ 1=.sl (l.map bF)/\ρ 2=.rp (bD n) 0/\ρ 6=int k/\∃j,ρ 5=.os j/\H j=some (bS (es1++(List.range k).flatMap (kF n l))),fun ρ _=>l.length-aR (ρ 6),⟨0,Xaa _,h1,O,by simp only[go_sem];rfl,j,U,by simpa using I⟩,?_⟩;rintro ρ H ⟨k,hk,h1,O,h6,j,U,I⟩;generalize ab:es1++(List.range k).flatMap (kF n l)=es at I;have ah:es.length<=9*k+1:=by have:=gE (f:=kF n l) (c:=9) (fun x=>by unfold kF;rw[Xab];exact Ab _ _ _ _) (List.range k);rw[<-ab,Xae];rw[Xbd]at this;omega
 simp only[go_sem,h1,h6];refine aA (fun X=>?_) (fun aa=>?_)
 ·have X:=aT X;have af:k<=4611686018427387904:=by omega
  have ad:es1++(List.range (k+1)).flatMap (kF n l)=es++kF n l k:=by rw[jI,<-Xax,ab]
  simp only[go_sem,h1,O,h6];refine aG (acL n l k X hl hs hp) ?_;simp only[go_sem];have ae:=Ab n l k (U9 l k);have ac:kF n l k=(pL n l k (U9 l k)).map fun e=>⟨e,lG k⟩:=rfl
  generalize pL n l k (U9 l k)=er at ae ac;refine⟨fun ρ H=>∃m:Nat,m<=er.length/\ρ 1=.sl (l.map bF)/\ρ 2=.rp (bD n) 0/\ρ 6=int k/\ρ 7=.sl (er.map bC)/\ρ 8=int m/\∃j,ρ 5=.os j/\H j=some (bS (es++(er.take m).map fun e=>⟨e,lG k⟩)),fun ρ _=>er.length-aR (ρ 8),⟨0,Xaa _,h1,O,h6,rfl,by simp only[go_sem];rfl,j,U,by simpa using I⟩,?_⟩;rintro ρ H ⟨m,hm,h1,O,h6,h7,h8,j,U,I⟩;simp only[go_sem,h7,h8];refine aA (fun E=>?_) (fun J=>?_)
  ·have E:=aT E;obtain⟨e,he⟩:=aK E;have b2:=inB E;simp only[go_sem];refine HD (by kernel_rfl) ?_;simp only[go_sem,h6,U,h7,h8,b2,aD he];refine⟨_,(vB _ (by omega)).q rfl,?_⟩;simp only[go_sem];refine aZ I ⟨rfl,rfl⟩ (by simp only[go_sem]) (by simp;omega) (fun V ag=>?_);simp only[go_sem,h1,O,h6,h7,h8,aQ m];refine⟨⟨m+1,E,rfl,V,rfl,?_⟩,by simp only[aN];omega⟩;rw[ET he,<-Xax];exact gF (l':=[⟨e,lG k⟩]) rfl
  ·have J:=aV hm J;subst J;simp only[go_sem,h1,O,h6,U,mS af];refine⟨⟨k+1,X,rfl,j,rfl,?_⟩,by simp only[aN];omega⟩;rw[ad,I,ac,Xad]
 ·have aa:=aV hk aa;subst aa;simp only[go_sem,U];exact⟨_,rfl,by rw[I,<-ab,<-Z,<-Y];rfl⟩
def DE(l:List Order)(k:Nat)(s:ByteArray):Bool:=(l.take k).any fun t=>t.name.toList == s.toList
def lV(P:Nat)(d T:Int)(l:List Order)(k:Nat)(o:Order):List Int:=
 []++opt (!nE o.name) 5++opt (DE l k o.name) 6++opt (!fA o.load d) 17++opt (!inR o.pick.place (-1) ((P:Int)-1)|| !inR o.drop.place (-1) ((P:Int)-1)) 11++opt (o.pick.place == -1&&o.drop.place == -1) 19++opt (gJ o.pick != 0||gJ o.drop != 0) 14++opt (!inR o.skills 0 1073741823) 18++opt (!inR o.penalty (-1) 1000000|| !inR o.split 1 4||decide (o.split>1)&&(o.pick.place != -1&&o.drop.place != -1)||decide (o.last< -1)||decide (o.last>=T)||decide (o.now< -1)||decide (o.now>=T)) 2
def aiF(P:Nat)(d T:Int)(l:List Order)(k:Nat)(o:Order)(ho:l[k]?=some o)(hP:P<=1048576)(hl:l.length<=1048576)(hs:∀t∈l,t.name.size<=1048576/\t.load.length<=1048576):
  PC prog 61 [int P,int d,int T,.sl (l.map bH),int k] (.sl ((lV P d T l k o).map bC)):=by
 refine pcb (fun t=>t == 11) func61 rfl rfl ?_;simp only[go_sem];have hk:k<l.length:=by
  rcases Xav k l.length with h|h
  ·exact h
  ·rw[List.getElem?_eq_none h]at ho;simp at ho
 have b1:=inB hk;have am:=hs o (lK ho);refine aL fun j hj=>?_
 simp only[go_sem,b1,aD ho];refine aL fun i hi=>?_
 simp only[go_sem];refine aI (aB _ _ _) (by simp[uT]) ?_;simp only[go_sem];refine aG (TO _ am.1) ?_;simp only[go_sem];have J:j≠i:=bE (aB _ _ _) hi;refine sU (fun E H'=>E 0=int P/\E 1=int d/\E 2=int T/\E 3=.sl (l.map bH)/\E 4=int k/\E 12=.op i 0 0/\H' i=some (nW o)/\∃O,E 11=.os O/\O≠i/\H' O=some (mG []))
  ⟨rfl,rfl,rfl,rfl,rfl,rfl,aB _ _ _,j,rfl,J,by rw[aJ _ _ _ _ J,aJ _ _ _ _ J,aB];rfl⟩ ?_
 rintro ρ H ⟨h0,h1,Y,Z,h4,F,hi,j,I,J,V⟩;generalize ac:([]:List Int)=es0 at V;have ar:es0.length<=0:=by rw[<-ac];exact Xaf _
 refine bK (fun E H'=>E 0=int P/\E 1=int d/\E 2=int T/\E 3=.sl (l.map bH)/\E 4=int k/\E 12=.op i 0 0/\H' i=some (nW o)/\∃O,E 11=.os O/\O≠i/\H' O=some (mG (es0++opt (!nE o.name) 5))) ?_ fun K hK=>aA (fun X=>?_) (fun X=>?_)
 rotate_left
 ·simp only[go_sem,I];refine aZ V ⟨rfl,rfl⟩ (by simp only[go_sem]) (by simp;omega) (fun O U=>?_);simp only[go_sem];refine hK _ _ ⟨h0,h1,Y,Z,h4,F,dK hi J U,O,rfl,(bE hi U).symm,?_⟩;rw[jY (show(!nE o.name)=true from X)];exact iG (l':=[5]) rfl
 ·simp only[go_sem];refine hK _ _ ⟨h0,h1,Y,Z,h4,F,hi,j,I,J,?_⟩;rw[jW (show(!nE o.name)=false from X),Xak,V]
 rintro ρ H ⟨h0,h1,Y,Z,h4,F,hi,j,I,J,V⟩;generalize ag:es0++opt (!nE o.name) (5:Int)=es1 at V;have ap:es1.length<=es0.length+1:=by rw[<-ag,Xae];have:=cX (!nE o.name) (5:Int);omega
 simp only[go_sem,];refine Ki (fun E H'=>E 0=int P/\E 1=int d/\E 2=int T/\E 3=.sl (l.map bH)/\E 4=int k/\E 12=.op i 0 0/\H' i=some (nW o)/\∃O,E 11=.os O/\O≠i/\H' O=some (mG (es1++opt (DE l k o.name) 6))) ?_ fun Q hQ _=>?_
 rotate_left
 ·refine ⟨fun E H' => ∃ m : Nat, m <= k /\ E 0 = int P /\ E 1 = int d /\ E 2 = int T /\ E 3 = .sl (l.map bH) /\ E 4 = int k /\ E 12 = .op i 0 0 /\ E 11 = .os j /\ E 13 = int m /\ H' = H /\ ∀ t ∈ l.take m, (t.name.toList == o.name.toList) = false, fun ρ _ => k - aR (ρ 13),
   ⟨0,Xaa _,h0,h1,Y,Z,h4,F,I,by simp only[go_sem];rfl,rfl,by simp⟩,?_⟩
  rintro ρ H' ⟨m,hm,h0,h1,Y,Z,h4,F,I,al,rfl,hn⟩;simp only[go_sem,h4,al];refine aA (fun aa=>?_) (fun ak=>?_)
  ·have aa:=aT aa;obtain⟨t,ht⟩:=aK (show m<l.length by omega);have b2:=inB (show m<l.length by omega);simp only[go_sem];refine kI (by rfl) (by kernel_rfl) ?_;simp only[go_sem,Z,F,al,hi,b2,aD ht];refine aA (fun X=>?_) (fun X=>?_)
   ·simp only[go_sem,I];refine aZ V ⟨rfl,rfl⟩ (by simp only[go_sem]) (by simp;omega) (fun O U=>?_);simp only[go_sem];refine hQ _ _ ⟨h0,h1,Y,Z,h4,F,dK hi J U,O,rfl,(bE hi U).symm,?_⟩;rw[jY (show DE l k o.name=true from Xao.2 ⟨t,Xac (i:=m) (by rw[List.getElem?_take];simp[aa,ht]),X⟩)];exact iG (l':=[6]) rfl
   ·simp only[go_sem,h0,h1,Y,Z,h4,F,I,al,aQ m];exact⟨⟨m+1,aa,rfl,vY ht hn X⟩,by simp only[aN];omega⟩
  ·have ak:=aV hm ak;subst ak;simp only[go_sem];refine hQ _ _ ⟨h0,h1,Y,Z,h4,F,hi,j,I,J,?_⟩;rw[jW (show DE l m o.name=false from Xbb.2 fun t ht=>by simp[hn t ht]),Xak,V]
 rintro ρ H ⟨h0,h1,Y,Z,h4,F,hi,j,I,J,V⟩;generalize aj:es1++opt (DE l k o.name) (6:Int)=es2 at V;have aw:es2.length<=es1.length+1:=by rw[<-aj,Xae];have:=cX (DE l k o.name) (6:Int);omega
 simp only[go_sem,h1,F,hi];refine aG (Pa _ _ am.2) ?_;simp only[go_sem,];refine bK (fun E H'=>E 0=int P/\E 1=int d/\E 2=int T/\E 3=.sl (l.map bH)/\E 4=int k/\E 12=.op i 0 0/\H' i=some (nW o)/\∃O,E 11=.os O/\O≠i/\H' O=some (mG (es2++opt (!fA o.load d) 17))) ?_ fun K hK=>aA (fun X=>?_) (fun X=>?_)
 rotate_left
 ·simp only[go_sem,I];refine aZ V ⟨rfl,rfl⟩ (by simp only[go_sem]) (by simp;omega) (fun O U=>?_);simp only[go_sem];refine hK _ _ ⟨h0,h1,Y,Z,h4,F,dK hi J U,O,rfl,(bE hi U).symm,?_⟩;rw[jY (show(!fA o.load d)=true from X)];exact iG (l':=[17]) rfl
 ·simp only[go_sem];refine hK _ _ ⟨h0,h1,Y,Z,h4,F,hi,j,I,J,?_⟩;rw[jW (show(!fA o.load d)=false from X),Xak,V]
 rintro ρ H ⟨h0,h1,Y,Z,h4,F,hi,j,I,J,V⟩;generalize ab:es2++opt (!fA o.load d) (17:Int)=es3 at V;have ay:es3.length<=es2.length+1:=by rw[<-ab,Xae];have:=cX (!fA o.load d) (17:Int);omega
 simp only[go_sem,h0,F,hi,vH (show P<=4611686018427387904 by omega)];refine aG (Fs _ _ _) ?_;simp only[go_sem,h0,F,hi,vH (show P<=4611686018427387904 by omega)];refine⟨_,fun _=>(Fs _ _ _).q rfl,?_⟩;simp only[go_sem,];refine bK (fun E H'=>E 0=int P/\E 1=int d/\E 2=int T/\E 3=.sl (l.map bH)/\E 4=int k/\E 12=.op i 0 0/\H' i=some (nW o)/\∃O,E 11=.os O/\O≠i/\H' O=some (mG (es3++opt (!inR o.pick.place (-1) ((P:Int)-1)|| !inR o.drop.place (-1) ((P:Int)-1)) 11))) ?_ fun K hK=>aA (fun X=>?_) (fun X=>?_)
 rotate_left
 ·simp only[go_sem,I];refine aZ V ⟨rfl,rfl⟩ (by simp only[go_sem]) (by simp;omega) (fun O U=>?_);simp only[go_sem];refine hK _ _ ⟨h0,h1,Y,Z,h4,F,dK hi J U,O,rfl,(bE hi U).symm,?_⟩;rw[jY (show(!inR o.pick.place (-1) ((P:Int)-1)|| !inR o.drop.place (-1) ((P:Int)-1))=true from X)];exact iG (l':=[11]) rfl
 ·simp only[go_sem];refine hK _ _ ⟨h0,h1,Y,Z,h4,F,hi,j,I,J,?_⟩;rw[jW (show(!inR o.pick.place (-1) ((P:Int)-1)|| !inR o.drop.place (-1) ((P:Int)-1))=false from X),Xak,V]
 rintro ρ H ⟨h0,h1,Y,Z,h4,F,hi,j,I,J,V⟩;generalize ae:es3++opt (!inR o.pick.place (-1) ((P:Int)-1)|| !inR o.drop.place (-1) ((P:Int)-1)) (11:Int)=es4 at V;have aq:es4.length<=es3.length+1:=by rw[<-ae,Xae];have:=cX (!inR o.pick.place (-1) ((P:Int)-1)|| !inR o.drop.place (-1) ((P:Int)-1)) (11:Int);omega
 simp only[go_sem,F,hi];refine bK (fun E H'=>E 0=int P/\E 1=int d/\E 2=int T/\E 3=.sl (l.map bH)/\E 4=int k/\E 12=.op i 0 0/\H' i=some (nW o)/\∃O,E 11=.os O/\O≠i/\H' O=some (mG (es4++opt (o.pick.place == -1&&o.drop.place == -1) 19))) ?_ fun K hK=>aA (fun X=>?_) (fun X=>?_)
 rotate_left
 ·simp only[go_sem,I];refine aZ V ⟨rfl,rfl⟩ (by simp only[go_sem]) (by simp;omega) (fun O U=>?_);simp only[go_sem];refine hK _ _ ⟨h0,h1,Y,Z,h4,F,dK hi J U,O,rfl,(bE hi U).symm,?_⟩;rw[jY (show(o.pick.place == -1&&o.drop.place == -1)=true from X)];exact iG (l':=[19]) rfl
 ·simp only[go_sem];refine hK _ _ ⟨h0,h1,Y,Z,h4,F,hi,j,I,J,?_⟩;rw[jW (show(o.pick.place == -1&&o.drop.place == -1)=false from X),Xak,V]
 rintro ρ H ⟨h0,h1,Y,Z,h4,F,hi,j,I,J,V⟩;generalize ad:es4++opt (o.pick.place == -1&&o.drop.place == -1) (19:Int)=es5 at V;have ao:es5.length<=es4.length+1:=by rw[<-ad,Xae];have:=cX (o.pick.place == -1&&o.drop.place == -1) (19:Int);omega
 simp only[go_sem,F,hi];refine aG (PJ _) ?_;simp only[go_sem,F,hi];refine⟨_,fun _=>(PJ _).q rfl,?_⟩;simp only[go_sem,];refine bK (fun E H'=>E 0=int P/\E 1=int d/\E 2=int T/\E 3=.sl (l.map bH)/\E 4=int k/\E 12=.op i 0 0/\H' i=some (nW o)/\∃O,E 11=.os O/\O≠i/\H' O=some (mG (es5++opt (gJ o.pick != 0||gJ o.drop != 0) 14))) ?_ fun K hK=>aA (fun X=>?_) (fun X=>?_)
 rotate_left
 ·simp only[go_sem,I];refine aZ V ⟨rfl,rfl⟩ (by simp only[go_sem]) (by simp;omega) (fun O U=>?_);simp only[go_sem];refine hK _ _ ⟨h0,h1,Y,Z,h4,F,dK hi J U,O,rfl,(bE hi U).symm,?_⟩;rw[jY (show(gJ o.pick != 0||gJ o.drop != 0)=true from X)];exact iG (l':=[14]) rfl
 ·simp only[go_sem];refine hK _ _ ⟨h0,h1,Y,Z,h4,F,hi,j,I,J,?_⟩;rw[jW (show(gJ o.pick != 0||gJ o.drop != 0)=false from X),Xak,V]
 rintro ρ H ⟨h0,h1,Y,Z,h4,F,hi,j,I,J,V⟩;generalize af:es5++opt (gJ o.pick != 0||gJ o.drop != 0) (14:Int)=es6 at V;have au:es6.length<=es5.length+1:=by rw[<-af,Xae];have:=cX (gJ o.pick != 0||gJ o.drop != 0) (14:Int);omega
 simp only[go_sem,F,hi];refine aG (Fs _ _ _) ?_;simp only[go_sem,];refine bK (fun E H'=>E 0=int P/\E 1=int d/\E 2=int T/\E 3=.sl (l.map bH)/\E 4=int k/\E 12=.op i 0 0/\H' i=some (nW o)/\∃O,E 11=.os O/\O≠i/\H' O=some (mG (es6++opt (!inR o.skills 0 1073741823) 18))) ?_ fun K hK=>aA (fun X=>?_) (fun X=>?_)
 rotate_left
 ·simp only[go_sem,I];refine aZ V ⟨rfl,rfl⟩ (by simp only[go_sem]) (by simp;omega) (fun O U=>?_);simp only[go_sem];refine hK _ _ ⟨h0,h1,Y,Z,h4,F,dK hi J U,O,rfl,(bE hi U).symm,?_⟩;rw[jY (show(!inR o.skills 0 1073741823)=true from X)];exact iG (l':=[18]) rfl
 ·simp only[go_sem];refine hK _ _ ⟨h0,h1,Y,Z,h4,F,hi,j,I,J,?_⟩;rw[jW (show(!inR o.skills 0 1073741823)=false from X),Xak,V]
 rintro ρ H ⟨h0,h1,Y,Z,h4,F,hi,j,I,J,V⟩;generalize ai:es6++opt (!inR o.skills 0 1073741823) (18:Int)=es7 at V;have ax:es7.length<=es6.length+1:=by rw[<-ai,Xae];have:=cX (!inR o.skills 0 1073741823) (18:Int);omega
 simp only[go_sem,F,hi];refine aG (Fs _ _ _) ?_;simp only[go_sem,F,hi];refine⟨_,fun _=>(Fs _ _ _).q rfl,?_⟩;simp only[go_sem,Y,F,hi];refine bK (fun E H'=>E 0=int P/\E 1=int d/\E 2=int T/\E 3=.sl (l.map bH)/\E 4=int k/\E 12=.op i 0 0/\H' i=some (nW o)/\∃O,E 11=.os O/\O≠i/\H' O=some (mG (es7++opt (!inR o.penalty (-1) 1000000|| !inR o.split 1 4||decide (o.split>1)&&(o.pick.place != -1&&o.drop.place != -1)||decide (o.last< -1)||decide (o.last>=T)||decide (o.now< -1)||decide (o.now>=T)) 2))) ?_ fun K hK=>aA (fun X=>?_) (fun X=>?_)
 rotate_left
 ·simp only[go_sem,I];refine aZ V ⟨rfl,rfl⟩ (by simp only[go_sem]) (by simp;omega) (fun O U=>?_);simp only[go_sem];refine hK _ _ ⟨h0,h1,Y,Z,h4,F,dK hi J U,O,rfl,(bE hi U).symm,?_⟩;rw[jY (show(!inR o.penalty (-1) 1000000|| !inR o.split 1 4||decide (o.split>1)&&(o.pick.place != -1&&o.drop.place != -1)||decide (o.last< -1)||decide (o.last>=T)||decide (o.now< -1)||decide (o.now>=T))=true from X)];exact iG (l':=[2]) rfl
 ·simp only[go_sem];refine hK _ _ ⟨h0,h1,Y,Z,h4,F,hi,j,I,J,?_⟩;rw[jW (show(!inR o.penalty (-1) 1000000|| !inR o.split 1 4||decide (o.split>1)&&(o.pick.place != -1&&o.drop.place != -1)||decide (o.last< -1)||decide (o.last>=T)||decide (o.now< -1)||decide (o.now>=T))=false from X),Xak,V]
 rintro ρ H ⟨h0,h1,Y,Z,h4,F,hi,j,I,J,V⟩;generalize ah:es7++opt (!inR o.penalty (-1) 1000000|| !inR o.split 1 4||decide (o.split>1)&&(o.pick.place != -1&&o.drop.place != -1)||decide (o.last< -1)||decide (o.last>=T)||decide (o.now< -1)||decide (o.now>=T)) (2:Int)=es8 at V;have av:es8.length<=es7.length+1:=by rw[<-ah,Xae];have:=cX (!inR o.penalty (-1) 1000000|| !inR o.split 1 4||decide (o.split>1)&&(o.pick.place != -1&&o.drop.place != -1)||decide (o.last< -1)||decide (o.last>=T)||decide (o.now< -1)||decide (o.now>=T)) (2:Int);omega
 simp only[go_sem,I];have an:lV P d T l k o=es8:=by unfold lV;rw[ac,ag,aj,ab,ae,ad,af,ai,ah]
 rw[an];exact .row _ _ _ V (ConvE.refl _)
def nB(w:ByteArray)(f:Fault):Fault:=⟨f.err,match f.at_.toList == (⟨#[]⟩:ByteArray).toList with|true=>w|false=>w++⟨#[32]⟩++f.at_⟩
def Hs(w:ByteArray)(l:List Fault)(hw:w.size<=1048576)(hl:l.length<=5000000000000)(hs:∀f∈l,f.at_.size<=268435456):
  NC prog 29 [str w,.sl (l.map iK)] (bS (l.map (nB w))) .os:=by
 refine ncb (fun t=>t == 5) func29 rfl rfl ?_;simp only[go_sem];refine aL fun j hj=>?_
 simp only[go_sem];refine⟨fun ρ H=>∃k:Nat,k<=l.length/\ρ 0=str w/\ρ 1=.sl (l.map iK)/\ρ 6=int k/\∃j,ρ 5=.os j/\H j=some (bS ((l.take k).map (nB w))),fun ρ _=>l.length-aR (ρ 6),⟨0,Xaa _,rfl,rfl,rfl,j,rfl,aB _ _ _⟩,?_⟩;rintro ρ H ⟨k,hk,h0,h1,I,j,O,Z⟩;simp only[go_sem,h1,I];refine aA (fun E=>?_) (fun J=>?_)
 ·have E:=aT E;obtain⟨f,U⟩:=aK E;have V:=inB E;have ac:=hs f (lK U);simp only[go_sem,h0,h1,I,V,aD U];refine bK (fun F H'=>F 0=str w/\F 1=.sl (l.map iK)/\F 6=int k/\F 5=.os j/\F 7=str (nB w f).at_/\H'=H) ?_ fun K hK=>aA (fun X=>?_) (fun X=>?_)
  ·clear h0 h1 I O;rintro ρ H ⟨h0,h1,I,O,h7,rfl⟩;simp only[go_sem,h1,I,O,h7,V,aD U];refine aZ Z ⟨rfl,rfl⟩ (by simp only[go_sem]) (by simp;omega) (fun j' ab=>?_);simp only[go_sem,h0,h1,I,aQ k];refine⟨⟨k+1,E,rfl,j',rfl,?_⟩,msr E⟩;rw[ET U];exact gF (l':=[nB w f]) rfl
  ·simp only[go_sem,h0,h1,I,V,aD U];have aa:(#[32]:Array UInt8).size=1:=rfl;refine⟨by rw[AI];omega,by rw[AI];omega,hK _ _ ⟨h0,h1,I,O,?_,rfl⟩⟩;have Y:(f.at_.toList == (⟨#[]⟩:ByteArray).toList)=false:=by have:=X;revert this;cases(f.at_.toList == (⟨#[]⟩:ByteArray).toList) <;> simp
   simp only[go_sem,nB,Y]
  ·simp only[go_sem];refine hK _ _ ⟨h0,h1,I,O,?_,rfl⟩;have Y:(f.at_.toList == (⟨#[]⟩:ByteArray).toList)=true:=by have:=X;revert this;cases(f.at_.toList == (⟨#[]⟩:ByteArray).toList) <;> simp
   simp only[go_sem,nB,Y]
 ·have J:=aV hk J;subst J;simp only[go_sem,O];exact⟨_,rfl,by rw[Z,Xad]⟩
def YY(l:List Order)(i:Nat):Order:=l.getD i ⟨ByteArray.empty,[],⟨0,0,0,0⟩,⟨0,0,0,0⟩,0,0,0,0,0,false⟩
def HU{l:List Order}{k:Nat}{p:Order}(h:l[k]?=some p):YY l k=p:=by simp[YY,List.getD,h]
def iC(n:Network)(d T:Int)(l:List Order)(k:Nat):List Fault:=(lV n.places.length d T l k (YY l k)).map fun e=>⟨e,lG k⟩
def tE(n:Network)(d T:Int)(l:List Order):List Fault:=opt (decide ((l.length:Int)>10)) ⟨4,ByteArray.empty⟩++(List.range l.length).flatMap (iC n d T l)
def xZ(P:Nat)(d T:Int)(l:List Order)(k:Nat)(o:Order):(lV P d T l k o).length<=9:=by
 unfold lV;simp only[Xae,List.length_nil];have h:=fun(b:Bool) (x:Int)=>cX b x
 have h1:=h (!nE o.name) 5;have E:=h (DE l k o.name) 6;have V:=h (!fA o.load d) 17;have I:=h (!inR o.pick.place (-1) ((P:Int)-1)|| !inR o.drop.place (-1) ((P:Int)-1)) 11;have O:=h (o.pick.place == -1&&o.drop.place == -1) 19;have U:=h (gJ o.pick != 0||gJ o.drop != 0) 14;have F:=h (!inR o.skills 0 1073741823) 18;have J:=h (!inR o.penalty (-1) 1000000|| !inR o.split 1 4||decide (o.split>1)&&(o.pick.place != -1&&o.drop.place != -1)||decide (o.last< -1)||decide (o.last>=T)||decide (o.now< -1)||decide (o.now>=T)) 2;omega
def Jt(n:Network)(d T:Int)(l:List Order)(hl:l.length<=1048576)(hs:∀t∈l,t.name.size<=1048576/\t.load.length<=1048576)(hp:n.places.length<=1048576):
  NC prog 32 [.agg (bD n),int d,int T,.sl (l.map bH)] (bS (tE n d T l)) .os:=by
 refine ncb (fun t=>t == 9) func32 rfl rfl ?_;simp only[go_sem];refine aL fun j hj=>?_
 simp only[go_sem];refine sU (fun E H'=>E 1=int d/\E 2=int T/\E 3=.sl (l.map bH)/\E 4=.rp (bD n) 0/\∃Z,E 9=.os Z/\H' Z=some (bS [])) ⟨rfl,rfl,rfl,rfl,_,rfl,aB _ _ _⟩ ?_;rintro ρ H ⟨h1,V,O,Y,j,X,J⟩;generalize ab:([]:List Fault)=es0 at J;have ao:es0.length<=0:=by rw[<-ab];exact Xaf _
 refine bK (fun E H'=>E 1=int d/\E 2=int T/\E 3=.sl (l.map bH)/\E 4=.rp (bD n) 0/\∃Z,E 9=.os Z/\H' Z=some (bS (es0++opt (decide ((l.length:Int)>10)) ⟨4,ByteArray.empty⟩))) ?_ fun K hK=>aA (fun hb=>?_) (fun hb=>?_)
 rotate_left
 ·simp only[go_sem,X];refine aZ J ⟨rfl,rfl⟩ (by simp only[go_sem]) (by simp;omega) (fun Z al=>?_);simp only[go_sem];refine hK _ _ ⟨h1,V,O,Y,Z,rfl,?_⟩;rw[jY (show(decide ((l.length:Int)>10))=true from hb)];exact gF (l':=[⟨4,ByteArray.empty⟩]) rfl
 ·simp only[go_sem];refine hK _ _ ⟨h1,V,O,Y,j,X,?_⟩;rw[jW (show(decide ((l.length:Int)>10))=false from hb),Xak,J]
 rintro ρ H ⟨h1,V,O,Y,j,X,J⟩;generalize ac:es0++opt (decide ((l.length:Int)>10)) (⟨4,ByteArray.empty⟩:Fault)=es1 at J;have an:es1.length<=es0.length+1:=by rw[<-ac,Xae];have:=cX (decide ((l.length:Int)>10)) (⟨4,ByteArray.empty⟩:Fault);omega
 simp only[go_sem,];refine⟨fun ρ H=>∃k:Nat,k<=l.length/\ρ 1=int d/\ρ 2=int T/\ρ 3=.sl (l.map bH)/\ρ 4=.rp (bD n) 0/\ρ 10=int k/\∃j,ρ 9=.os j/\H j=some (bS (es1++(List.range k).flatMap (iC n d T l))),fun ρ _=>l.length-aR (ρ 10),⟨0,Xaa _,h1,V,O,Y,by simp only[go_sem];rfl,j,X,by simpa using J⟩,?_⟩;rintro ρ H ⟨k,hk,h1,V,O,Y,I,j,X,J⟩;generalize af:es1++(List.range k).flatMap (iC n d T l)=es at J;have am:es.length<=9*k+1:=by have:=gE (f:=iC n d T l) (c:=9) (fun x=>by unfold iC;rw[Xab];exact xZ _ _ _ _ _ _) (List.range k);rw[<-af,Xae];rw[Xbd]at this;omega
 simp only[go_sem,O,I];refine aA (fun aa=>?_) (fun ad=>?_)
 ·have aa:=aT aa;have ak:k<=4611686018427387904:=by omega
  have ai:es1++(List.range (k+1)).flatMap (iC n d T l)=es++iC n d T l k:=by rw[jI,<-Xax,af]
  simp only[go_sem,h1,V,O,Y,I];obtain⟨o,ho⟩:=aK aa;rw[<-HU ho]at ho;refine aG (aiF n.places.length d T l k _ ho hp hl hs) ?_;simp only[go_sem];have aj:=xZ n.places.length d T l k (YY l k);have ah:iC n d T l k=(lV n.places.length d T l k (YY l k)).map fun e=>⟨e,lG k⟩:=rfl
  generalize lV n.places.length d T l k (YY l k)=er at aj ah;refine⟨fun ρ H=>∃m:Nat,m<=er.length/\ρ 1=int d/\ρ 2=int T/\ρ 3=.sl (l.map bH)/\ρ 4=.rp (bD n) 0/\ρ 10=int k/\ρ 11=.sl (er.map bC)/\ρ 12=int m/\∃j,ρ 9=.os j/\H j=some (bS (es++(er.take m).map fun e=>⟨e,lG k⟩)),fun ρ _=>er.length-aR (ρ 12),⟨0,Xaa _,h1,V,O,Y,I,rfl,by simp only[go_sem];rfl,j,X,by simpa using J⟩,?_⟩;rintro ρ H ⟨m,hm,h1,V,O,Y,I,ag,ae,j,X,J⟩;simp only[go_sem,ag,ae];refine aA (fun F=>?_) (fun U=>?_)
  ·have F:=aT F;obtain⟨e,he⟩:=aK F;have b2:=inB F;simp only[go_sem];refine HD (by kernel_rfl) ?_;simp only[go_sem,I,X,ag,ae,b2,aD he];refine⟨_,(vB _ (by omega)).q rfl,?_⟩;simp only[go_sem];refine aZ J ⟨rfl,rfl⟩ (by simp only[go_sem]) (by simp;omega) (fun Z al=>?_);simp only[go_sem,h1,V,O,Y,I,ag,ae,aQ m];refine⟨⟨m+1,F,rfl,Z,rfl,?_⟩,by simp only[aN];omega⟩;rw[ET he,<-Xax];exact gF (l':=[⟨e,lG k⟩]) rfl
  ·have U:=aV hm U;subst U;simp only[go_sem,h1,V,O,Y,I,X,mS ak];refine⟨⟨k+1,aa,rfl,j,rfl,?_⟩,by simp only[aN];omega⟩;rw[ai,J,ah,Xad]
 ·have ad:=aV hk ad;subst ad;simp only[go_sem,X];exact⟨_,rfl,by rw[J,<-af,<-ac,<-ab];rfl⟩
def pAt(l:List Pair)(i:Nat):Pair:=l.getD i ⟨0,0⟩
def OV{l:List Pair}{k:Nat}{p:Pair}(h:l[k]?=some p):pAt l k=p:=by simp[pAt,List.getD,h]
def BB(w:ByteArray)(k:Nat):ByteArray:=w++⟨#[32]⟩++lG k
def oG(N:Int)(p:Pair):Bool:=decide (p.a<0)||decide (p.a>=N)||decide (p.b<0)||decide (p.b>=N)||p.a == p.b
def Bp(b:Bool)(p q:Pair):Bool:=(q.a == p.a&&q.b == p.b)||(b&&q.a == p.b&&q.b == p.a)
def iM(N:Int)(l:List Pair)(w:ByteArray)(b:Bool)(k:Nat):List Fault:=match oG N (pAt l k)with
 | true=>[⟨2,BB w k⟩]
 | false=>opt ((l.take k).any (Bp b (pAt l k))) ⟨6,BB w k⟩
def Bl(N:Int)(l:List Pair)(w:ByteArray)(b:Bool)(k:Nat):(iM N l w b k).length<=1:=by
 unfold iM;split
 ·simp
 ·exact cX _ _
def yH(N:Int)(l:List Pair)(w:ByteArray)(b:Bool):List Fault:=opt (decide ((l.length:Int)>16)) ⟨4,w⟩++(List.range l.length).flatMap (iM N l w b)
def RZ(N:Int)(l:List Pair)(w:ByteArray)(b:Bool)(hl:l.length<=1048576)(hw:w.size<=1048576):
  NC prog 62 [int N,.sl (l.map dH),str w,boo b] (bS (yH N l w b)) .os:=by
 refine ncb (fun t=>t == 9) func62 rfl rfl ?_;simp only[go_sem];refine aL fun j hj=>?_
 simp only[go_sem];refine sU (fun E H'=>E 0=int N/\E 1=.sl (l.map dH)/\E 2=str w/\E 3=boo b/\∃X,E 9=.os X/\H' X=some (bS [])) ⟨rfl,rfl,rfl,rfl,_,rfl,aB _ _ _⟩ ?_;rintro ρ H ⟨h0,h1,I,U,j,J,O⟩;generalize aa:([]:List Fault)=es0 at O;have ap:es0.length<=0:=by rw[<-aa];exact Xaf _
 refine bK (fun E H'=>E 0=int N/\E 1=.sl (l.map dH)/\E 2=str w/\E 3=boo b/\∃X,E 9=.os X/\H' X=some (bS (es0++opt (decide ((l.length:Int)>16)) ⟨4,w⟩))) ?_ fun K hK=>aA (fun hb=>?_) (fun hb=>?_)
 rotate_left
 ·simp only[go_sem,I,J];refine aZ O ⟨rfl,rfl⟩ (by simp only[go_sem]) (by simp;omega) (fun X ak=>?_);simp only[go_sem];refine hK _ _ ⟨h0,h1,I,U,X,rfl,?_⟩;rw[jY (show(decide ((l.length:Int)>16))=true from hb)];exact gF (l':=[⟨4,w⟩]) rfl
 ·simp only[go_sem];refine hK _ _ ⟨h0,h1,I,U,j,J,?_⟩;rw[jW (show(decide ((l.length:Int)>16))=false from hb),Xak,O]
 rintro ρ H ⟨h0,h1,I,U,j,J,O⟩;generalize ab:es0++opt (decide ((l.length:Int)>16)) (⟨4,w⟩:Fault)=es1 at O;have ao:es1.length<=es0.length+1:=by rw[<-ab,Xae];have:=cX (decide ((l.length:Int)>16)) (⟨4,w⟩:Fault);omega
 simp only[go_sem,];refine⟨fun ρ H=>∃k:Nat,k<=l.length/\ρ 0=int N/\ρ 1=.sl (l.map dH)/\ρ 2=str w/\ρ 3=boo b/\ρ 10=int k/\∃j,ρ 9=.os j/\H j=some (bS (es1++(List.range k).flatMap (iM N l w b))),fun ρ _=>l.length-aR (ρ 10),
  ⟨0,Xaa _,h0,h1,I,U,by simp only[go_sem];rfl,j,J,by simpa using O⟩,?_⟩
 rintro ρ H ⟨k,hk,h0,h1,I,U,F,j,J,O⟩;generalize ae:es1++(List.range k).flatMap (iM N l w b)=es at O;have an:es.length<=k+1:=by have:=gE (Bl N l w b) (List.range k);rw[<-ae,Xae];rw[Xbd]at this;omega
 simp only[go_sem,h1,F];refine aA (fun V=>?_) (fun ac=>?_)
 ·have V:=aT V;have aj:k<=4611686018427387904:=by omega
  obtain⟨p,hp⟩:=aK V;have b1:=inB V;have ar:=qJ k;have aq:(#[32]:Array UInt8).size=1:=rfl;have ad:es1++(List.range (k+1)).flatMap (iM N l w b)=es++iM N l w b k:=by rw[jI,<-Xax,ae]
  simp only[go_sem,h1,I,F,b1,aD hp];refine⟨by omega,by omega,by rw[AI];omega,?_⟩;refine aG (anJ _ (by omega)) ?_;simp only[go_sem,h0,];refine⟨by rw[AI];omega,?_⟩;refine aA (fun hb=>?_) (fun hb=>?_)
  ·simp only[go_sem,J];refine aZ O ⟨rfl,rfl⟩ (by simp only[go_sem]) (by simp;omega) (fun X ak=>?_);simp only[go_sem,h0,h1,I,U,F,mS aj];refine⟨⟨k+1,V,rfl,X,rfl,?_⟩,by simp only[aN];omega⟩;have hn:oG N (pAt l k)=true:=by rw[OV hp];exact hb
   rw[ad,iM,hn];exact gF (l':=[⟨2,BB w k⟩]) rfl
  ·simp only[go_sem,];have hn:oG N (pAt l k)=false:=by rw[OV hp];exact hb
   refine⟨fun ρ H'=>∃m:Nat,m<=k/\ρ 0=int N/\ρ 1=.sl (l.map dH)/\ρ 2=str w/\ρ 3=boo b/\ρ 9=.os j/\ρ 10=int k/\ρ 11=int p.a/\ρ 12=int p.b/\ρ 13=str (BB w k)/\ρ 14=boo ((l.take m).any (Bp b p))/\ρ 15=int m/\H'=H,fun ρ _=>k-aR (ρ 15),
    ⟨0,Xaa _,h0,h1,I,U,J,F,rfl,rfl,by simp only[go_sem];rfl,by simp only[go_sem];rfl,by simp only[go_sem];rfl,rfl⟩,?_⟩
   rintro ρ H' ⟨m,hm,h0,h1,I,U,J,F,am,al,ai,ah,af,rfl⟩;simp only[go_sem,F,af];refine aA (fun Y=>?_) (fun Z=>?_)
   ·have Y:=aT Y;obtain⟨q,hq⟩:=aK (show m<l.length by omega);have b2:=inB (show m<l.length by omega);simp only[go_sem,h0,h1,I,U,J,F,am,al,ai,ah,af,b2,aD hq,aQ m];refine⟨fun _=>by omega,fun _=>by omega,fun _=>by omega,fun _=>by omega,⟨m+1,Y,?_,rfl⟩,by simp only[aN];omega⟩;rw[Ij hq];simp only[Bp,Bool.or_assoc]
   ·have Z:=aV hm Z;subst Z;simp only[go_sem,ah];have ag:(l.take m).any (Bp b (pAt l m))=(l.take m).any (Bp b p):=by rw[OV hp]
    refine gP (fun E H'=>E 0=int N/\E 1=.sl (l.map dH)/\E 2=str w/\E 3=boo b/\E 10=int m/\∃j,E 9=.os j/\H' j=some (bS (es1++(List.range (m+1)).flatMap (iM N l w b)))) ?_ fun K hK _ _=>aA (fun hb=>?_) (fun hb=>?_)
    ·clear O h0 h1 I U J F;rintro ρ H ⟨h0,h1,I,U,F,j,J,O⟩;simp only[go_sem,h0,h1,I,U,J,F,mS aj];exact⟨⟨m+1,V,rfl,j,rfl,O⟩,by simp only[aN];omega⟩
    ·simp only[go_sem,J,ai];refine aZ O ⟨rfl,rfl⟩ (by simp only[go_sem]) (by simp;omega) (fun X ak=>?_);simp only[go_sem];refine hK _ _ ⟨h0,h1,I,U,F,X,rfl,?_⟩;rw[ad,iM,hn];show _=some (bS (es++opt _ ⟨6,BB w m⟩));rw[jY (ag.trans hb)];exact gF (l':=[⟨6,BB w m⟩]) rfl
    ·simp only[go_sem];refine hK _ _ ⟨h0,h1,I,U,F,j,J,?_⟩;rw[ad,iM,hn];show _=some (bS (es++opt _ ⟨6,BB w m⟩));rw[jW (ag.trans hb),Xak,O]
 ·have ac:=aV hk ac;subst ac;simp only[go_sem,J];exact⟨_,rfl,by rw[O,<-ae,<-ab,<-aa];rfl⟩
def sB:∀l:List Fault,dL 2 (l.map iK)
 | []=>trivial
 | f::r=>⟨rfl,sB r⟩
def AC(N:Int)(l:List Pair)(w:ByteArray)(b:Bool):(yH N l w b).length<=l.length+1:=by have:=gE (Bl N l w b) (List.range l.length);have E:=cX (decide ((l.length:Int)>16)) (⟨4,w⟩:Fault);rw[yH,Xae];rw[Xbd]at this;omega
def Oe(N:Int)(F E:List Pair)(J:F.length<=1048576)(I:E.length<=1048576):
  NC prog 34 [int N,.sl (F.map dH),.sl (E.map dH)] (bS (yH N F ⟨#[97,112,97,114,116]⟩ true++yH N E ⟨#[98,101,102,111,114,101]⟩ false)) .os:=by
 refine ncb (fun t=>t == 7) func34 rfl rfl ?_;simp only[go_sem];refine NC.use (RZ N F ⟨#[97,112,97,114,116]⟩ true J (by decide)) fun j X=>?_
 simp only[go_sem];refine NC.use (RZ N E ⟨#[98,101,102,111,114,101]⟩ false I (by decide)) fun i hi=>?_
 simp only[go_sem];have V:=AC N F ⟨#[97,112,97,114,116]⟩ true;have Y:=AC N E ⟨#[98,101,102,111,114,101]⟩ false;refine D3 (eY (aB _ _ _) hi) (aB _ _ _) ⟨rfl,rfl⟩ (sB _) (by simp;omega) (fun U O=>?_);simp only[go_sem];exact⟨_,rfl,gF rfl⟩
def NC.pc{f:FuncId}{args:List AV}{row:Row}(h:NC prog f args row .os):PC prog f args (.sl row.es):=
 RC.conv (RC.mono h fun r H' ⟨k,e,E⟩=>by subst e;exact .row k row row.es E (ConvE.refl _))
def pN(l:List Arc)(i:Nat):Arc:=l.getD i ⟨0,0,0,0,[],[]⟩
def sF{l:List Arc}{k:Nat}{p:Arc}(h:l[k]?=some p):pN l k=p:=by simp[pN,List.getD,h]
def iZ(k:Nat):ByteArray:=⟨#[97,114,99,32]⟩++lG k
def zW(N:Int)(a:Arc):Bool:=decide (a.src<0)||decide (a.src>=N)||decide (a.dst<0)||decide (a.dst>=N)
def Dh(a:Arc):Bool:=decide (a.profile<0)||decide (a.profile>7)||decide (a.miles<0)||decide (a.miles>10000)||a.src == a.dst
def uJ(a b:Arc):Bool:=a.src == b.src&&a.dst == b.dst&&a.profile == b.profile
def qV(l:List Point)(i:Nat):Bool:= !inR (eQ l i).t 0 4096|| !inR (eQ l i).a 0 4096||decide ((i:Int)>0)&&decide ((eQ l i).t<=(eQ l (i-1)).t)
def J4(n:Network)(k:Nat):List Fault:=
 []++opt (zW n.places.length (pN n.arcs k)) ⟨11,iZ k⟩++opt (Dh (pN n.arcs k)) ⟨2,iZ k⟩++opt ((n.arcs.take k).any (uJ (pN n.arcs k))) ⟨6,iZ k⟩
   ++ (jT (pN n.arcs k).travel).map (fun f=>⟨f.err,iZ k⟩)++opt (decide (((pN n.arcs k).slow.length:Int)>16)) ⟨4,iZ k⟩
   ++ (List.range (pN n.arcs k).slow.length).flatMap fun i=>opt (qV (pN n.arcs k).slow i) ⟨2,iZ k⟩
def Na(l:List Point)(E:l.length<=1048576):PC prog 103 [.sl (l.map cC)] (.sl ((jT l).map iK)):=NC.pc (abK l E)
def Gc(l:List Point):(jT l).length<=2*l.length+1:=by have:=gE (afC l) (List.range l.length);have E:=cX (DB l.length 1 16) (⟨4,ByteArray.empty⟩:Fault);rw[jT,Xae];rw[Xbd]at this;omega
def awC(n:Network)(k:Nat)(hk:k<n.arcs.length)(hp:n.places.length<=1048576)(hl:n.arcs.length<=1048576)(hs:∀a∈n.arcs,a.travel.length<=1048576/\a.slow.length<=1048576):
  NC prog 57 [.agg (bD n),int k] (bS (J4 n k)) .os:=by
 refine ncb (fun t=>t == 5) func57 rfl rfl ?_;simp only[go_sem];obtain⟨a,ha⟩:=aK hk;have b1:=inB hk;have ar:=hs a (lK ha);have a7:=qJ k;refine aL fun j hj=>?_
 simp only[go_sem];refine aG (vB _ (by omega)) ?_;simp only[go_sem,b1,aD ha];have h4:(#[97,114,99,32]:Array UInt8).size=4:=rfl;refine⟨by rw[AI];omega,aL fun i hi=>?_⟩;simp only[go_sem];refine aI (aB _ _ _) (by simp[jJ]) ?_;simp only[go_sem];have F:j≠i:=bE (aB _ _ _) hi;have av:iZ k=⟨#[97,114,99,32]⟩++lG k:=rfl;refine sU (fun E H'=>E 1=int k/\E 2=.rp (bD n) 0/\E 6=str (iZ k)/\E 7=.op i 0 0/\H' i=some (xQ a)/\∃X,E 5=.os X/\X≠i/\H' X=some (bS []))
  ⟨rfl,rfl,by simp only[go_sem,av],rfl,aB _ _ _,j,rfl,F,by rw[aJ _ _ _ _ F,aJ _ _ _ _ F,aB];rfl⟩ ?_
 rintro ρ H ⟨h1,h2,O,V,hi,j,Y,F,J⟩;generalize ae:([]:List Fault)=es0 at J;have a5:es0.length<=0:=by rw[<-ae];exact Xaf _
 refine bK (fun E H'=>E 1=int k/\E 2=.rp (bD n) 0/\E 6=str (iZ k)/\E 7=.op i 0 0/\H' i=some (xQ a)/\∃X,E 5=.os X/\X≠i/\H' X=some (bS (es0++opt (zW n.places.length a) ⟨11,iZ k⟩))) ?_ fun K hK=>aA (fun hb=>?_) (fun hb=>?_)
 rotate_left
 ·simp only[go_sem,O,Y];refine aZ J ⟨rfl,rfl⟩ (by simp only[go_sem]) (by simp;omega) (fun X I=>?_);simp only[go_sem];refine hK _ _ ⟨h1,h2,O,V,dK hi F I,X,rfl,(bE hi I).symm,?_⟩;rw[jY (show(zW n.places.length a)=true from hb)];exact gF (l':=[⟨11,iZ k⟩]) rfl
 ·simp only[go_sem];refine hK _ _ ⟨h1,h2,O,V,hi,j,Y,F,?_⟩;rw[jW (show(zW n.places.length a)=false from hb),Xak,J]
 rintro ρ H ⟨h1,h2,O,V,hi,j,Y,F,J⟩;generalize ah:es0++opt (zW n.places.length a) (⟨11,iZ k⟩:Fault)=es1 at J;have ax:es1.length<=es0.length+1:=by rw[<-ah,Xae];have:=cX (zW n.places.length a) (⟨11,iZ k⟩:Fault);omega
 simp only[go_sem,V,hi];refine bK (fun E H'=>E 1=int k/\E 2=.rp (bD n) 0/\E 6=str (iZ k)/\E 7=.op i 0 0/\H' i=some (xQ a)/\∃X,E 5=.os X/\X≠i/\H' X=some (bS (es1++opt (Dh a) ⟨2,iZ k⟩))) ?_ fun K hK=>aA (fun hb=>?_) (fun hb=>?_)
 rotate_left
 ·simp only[go_sem,O,Y];refine aZ J ⟨rfl,rfl⟩ (by simp only[go_sem]) (by simp;omega) (fun X I=>?_);simp only[go_sem];refine hK _ _ ⟨h1,h2,O,V,dK hi F I,X,rfl,(bE hi I).symm,?_⟩;rw[jY (show(Dh a)=true from hb)];exact gF (l':=[⟨2,iZ k⟩]) rfl
 ·simp only[go_sem];refine hK _ _ ⟨h1,h2,O,V,hi,j,Y,F,?_⟩;rw[jW (show(Dh a)=false from hb),Xak,J]
 rintro ρ H ⟨h1,h2,O,V,hi,j,Y,F,J⟩;generalize ai:es1++opt (Dh a) (⟨2,iZ k⟩:Fault)=es2 at J;have a6:es2.length<=es1.length+1:=by rw[<-ai,Xae];have:=cX (Dh a) (⟨2,iZ k⟩:Fault);omega
 simp only[go_sem,];refine⟨fun E H'=>∃m:Nat,m<=k/\E 1=int k/\E 2=.rp (bD n) 0/\E 6=str (iZ k)/\E 7=.op i 0 0/\E 5=.os j/\E 8=boo ((n.arcs.take m).any (uJ a))/\E 9=int m/\H' i=some (xQ a)/\H' j=some (bS es2),fun ρ _=>k-aR (ρ 9),
  ⟨0,Xaa _,h1,h2,O,V,Y,by simp only[go_sem];rfl,by simp only[go_sem];rfl,hi,J⟩,?_⟩
 rintro ρ H ⟨m,hm,h1,h2,O,V,Y,h8,h9,hi,J⟩;simp only[go_sem,h1,h9];refine aA (fun U=>?_) (fun Z=>?_)
 ·have U:=aT U;obtain⟨c,hc⟩:=aK (show m<n.arcs.length by omega);have b2:=inB (show m<n.arcs.length by omega);simp only[go_sem,h2,h9,b2,aD hc];refine aL fun x hx=>?_
  simp only[go_sem];refine aI (aB _ _ _) (by simp[jJ]) ?_;have ac:=bE hi hx;have ab:=bE J hx;simp only[go_sem,h1,h2,O,V,Y,h8,h9,aJ _ _ _ _ ac,hi,aQ m];refine⟨⟨m+1,U,?_,rfl,?_⟩,by simp only[aN];omega⟩
  ·rw[Ij hc];simp only[uJ]
  ·rw[aJ _ _ _ _ ab,aJ _ _ _ _ ab,J]
 ·have Z:=aV hm Z;subst Z;simp only[go_sem,h8];refine bK (fun E H'=>E 6=str (iZ m)/\E 7=.op i 0 0/\H' i=some (xQ a)/\∃X,E 5=.os X/\X≠i/\H' X=some (bS (es2++opt ((n.arcs.take m).any (uJ a)) ⟨6,iZ m⟩))) ?_ fun K hK=>aA (fun hb=>?_) (fun hb=>?_)
  rotate_left
  ·simp only[go_sem,O,Y];refine aZ J ⟨rfl,rfl⟩ (by simp only[go_sem]) (by simp;omega) (fun X I=>?_);simp only[go_sem];refine hK _ _ ⟨O,V,dK hi F I,X,rfl,(bE hi I).symm,?_⟩;rw[jY (show((n.arcs.take m).any (uJ a))=true from hb)];exact gF (l':=[⟨6,iZ m⟩]) rfl
  ·simp only[go_sem];refine hK _ _ ⟨O,V,hi,j,Y,F,?_⟩;rw[jW (show((n.arcs.take m).any (uJ a))=false from hb),Xak,J]
  rintro ρ H ⟨O,V,hi,j,Y,F,J⟩;generalize ad:es2++opt ((n.arcs.take m).any (uJ a)) (⟨6,iZ m⟩:Fault)=es3 at J;have az:es3.length<=es2.length+1:=by rw[<-ad,Xae];have:=cX ((n.arcs.take m).any (uJ a)) (⟨6,iZ m⟩:Fault);omega
  simp only[go_sem,V,hi];refine aG (Na a.travel ar.1) ?_;simp only[go_sem];have aw:=Gc a.travel;have ap:(jT (pN n.arcs m).travel).map (fun f=>(⟨f.err,iZ m⟩:Fault))=(jT a.travel).map (fun f=>⟨f.err,iZ m⟩):=by rw[sF ha]
  generalize jT a.travel=tr at aw ap;refine⟨fun ρ H=>∃q:Nat,q<=tr.length/\ρ 6=str (iZ m)/\ρ 7=.op i 0 0/\ρ 11=.sl (tr.map iK)/\ρ 12=int q/\H i=some (xQ a)/\∃j,ρ 5=.os j/\j≠i/\H j=some (bS (es3++(tr.take q).map fun f=>⟨f.err,iZ m⟩)),fun ρ _=>tr.length-aR (ρ 12),
   ⟨0,Xaa _,O,V,rfl,by simp only[go_sem];rfl,hi,j,Y,F,by simpa using J⟩,?_⟩
  rintro ρ H ⟨q,hq,O,V,ak,an,hi,j,Y,F,J⟩;simp only[go_sem,ak,an];refine aA (fun U=>?_) (fun Z=>?_)
  ·have U:=aT U;obtain⟨f,hf⟩:=aK U;have b2:=inB U;simp only[go_sem,O,Y,ak,an,b2,aD hf];refine aZ J ⟨rfl,rfl⟩ (by simp only[go_sem]) (by simp;omega) (fun X I=>?_);simp only[go_sem,O,V,ak,an,aQ q];refine⟨⟨q+1,U,rfl,dK hi F I,X,rfl,(bE hi I).symm,?_⟩,by simp only[aN];omega⟩;rw[ET hf,<-Xax];exact gF (l':=[⟨f.err,iZ m⟩]) rfl
  ·have Z:=aV hq Z;subst Z;simp only[go_sem,V,hi];rw[Xad]at J;generalize af:es3++tr.map (fun f=>(⟨f.err,iZ m⟩:Fault))=es4 at J;have ay:es4.length=es3.length+tr.length:=by rw[<-af,Xae,Xab]
   refine bK (fun E H'=>E 6=str (iZ m)/\E 7=.op i 0 0/\H' i=some (xQ a)/\∃X,E 5=.os X/\X≠i/\H' X=some (bS (es4++opt (decide ((a.slow.length:Int)>16)) ⟨4,iZ m⟩))) ?_ fun K hK=>aA (fun hb=>?_) (fun hb=>?_)
   rotate_left
   ·simp only[go_sem,O,Y];refine aZ J ⟨rfl,rfl⟩ (by simp only[go_sem]) (by simp;omega) (fun X I=>?_);simp only[go_sem];refine hK _ _ ⟨O,V,dK hi F I,X,rfl,(bE hi I).symm,?_⟩;rw[jY (show(decide ((a.slow.length:Int)>16))=true from hb)];exact gF (l':=[⟨4,iZ m⟩]) rfl
   ·simp only[go_sem];refine hK _ _ ⟨O,V,hi,j,Y,F,?_⟩;rw[jW (show(decide ((a.slow.length:Int)>16))=false from hb),Xak,J]
   rintro ρ H ⟨O,V,hi,j,Y,F,J⟩;generalize ag:es4++opt (decide ((a.slow.length:Int)>16)) (⟨4,iZ m⟩:Fault)=es5 at J;have a0:es5.length<=es4.length+1:=by rw[<-ag,Xae];have:=cX (decide ((a.slow.length:Int)>16)) (⟨4,iZ m⟩:Fault);omega
   simp only[go_sem,];refine⟨fun ρ H=>∃k:Nat,k<=a.slow.length/\ρ 6=str (iZ m)/\ρ 7=.op i 0 0/\ρ 13=int k/\H i=some (xQ a)/\∃j,ρ 5=.os j/\j≠i/\H j=some (bS (es5++(List.range k).flatMap fun x=>opt (qV a.slow x) ⟨2,iZ m⟩)),fun ρ _=>a.slow.length-aR (ρ 13),
    ⟨0,Xaa _,O,V,by simp only[go_sem];rfl,hi,j,Y,F,by simpa using J⟩,?_⟩
   rintro ρ H ⟨k,hk,O,V,aa,hi,j,Y,F,J⟩;generalize aj:es5++(List.range k).flatMap (fun x=>opt (qV a.slow x) (⟨2,iZ m⟩:Fault))=es at J;have a4:es.length<=es5.length+k:=by have:=gE (f:=fun x=>opt (qV a.slow x) (⟨2,iZ m⟩:Fault)) (c:=1) (fun x=>cX _ _) (List.range k);rw[<-aj,Xae];rw[Xbd]at this;omega
   simp only[go_sem,V,aa,hi];refine aA (fun U=>?_) (fun Z=>?_)
   ·have U:=aT U;have al:k<=4611686018427387904:=by omega
    obtain⟨p,hp⟩:=aK U;obtain⟨r,hr⟩:=aK (show k-1<a.slow.length by omega);have b2:=inB U;simp only[go_sem,V,aa,hi,b2,aD hp];refine aL fun x hx=>?_
    simp only[go_sem];refine aI (aB _ _ _) (by simp[fX]) ?_;have ac:=bE hi hx;have ab:=bE J hx;simp only[go_sem];refine kI (by rfl) (by kernel_rfl) ?_;simp only[go_sem,];refine⟨_,(ahX _).q rfl,?_⟩;simp only[go_sem,];refine⟨_,fun _=>(ahX _).q rfl,?_⟩;simp only[go_sem,V,aa,aJ _ _ _ _ ac,hi,aiB al,aD hr];have am:aM (aM H x (some ⟨85,2,[[int 0,int 0]]⟩)) x (some ⟨85,2,[cC p]⟩) i=some (xQ a):=by rw[aJ _ _ _ _ ac,aJ _ _ _ _ ac,hi]
    have ao:aM (aM H x (some ⟨85,2,[[int 0,int 0]]⟩)) x (some ⟨85,2,[cC p]⟩) j=some (bS es):=by rw[aJ _ _ _ _ ab,aJ _ _ _ _ ab,J]
    have aq:qV a.slow k=(!inR p.t 0 4096|| !inR p.a 0 4096||decide ((k:Int)>0)&&decide (p.t<=r.t)):=by rw[qV,dX hp,dX hr]
    have au:es5++(List.range (k+1)).flatMap (fun x=>opt (qV a.slow x) (⟨2,iZ m⟩:Fault))=es++opt (qV a.slow k) ⟨2,iZ m⟩:=by rw[jI,<-Xax,aj]
    refine⟨fun h=>by
     have:(k:Int)>0:=by simpa using h.2
     rw[vH al];omega,gP (fun E H'=>E 6=str (iZ m)/\E 7=.op i 0 0/\E 13=int k/\H' i=some (xQ a)/\∃j,E 5=.os j/\j≠i/\H' j=some (bS (es++opt (qV a.slow k) ⟨2,iZ m⟩))) ?_ fun K hK _ _=>aA (fun hb=>?_) (fun hb=>?_)⟩
    ·clear O V Y aa;rintro ρ H ⟨O,V,aa,hi,j,Y,F,J⟩;simp only[go_sem,O,V,Y,aa,mS al];exact⟨⟨k+1,U,rfl,hi,j,rfl,F,by rw[au];exact J⟩,by simp only[aN];omega⟩
    ·simp only[go_sem,O,Y];refine aZ ao ⟨rfl,rfl⟩ (by simp only[go_sem]) (by simp;omega) (fun X I=>?_);simp only[go_sem];refine hK _ _ ⟨O,V,aa,dK am F I,X,rfl,(bE am I).symm,?_⟩;rw[jY (aq.trans hb)];exact gF (l':=[⟨2,iZ m⟩]) rfl
    ·simp only[go_sem];refine hK _ _ ⟨O,V,aa,am,j,Y,F,?_⟩;rw[jW (aq.trans hb),Xak,ao]
   ·have Z:=aV hk Z;subst Z;simp only[go_sem,Y];refine⟨_,rfl,?_⟩;rw[J,<-aj,<-ag,<-af,<-ap,<-ad,<-ai,<-ah,<-ae,J4,sF ha]
def I0(n:Network)(k:Nat)(F:(pN n.arcs k).travel.length<=1048576)(U:(pN n.arcs k).slow.length<=1048576):(J4 n k).length<=3145740:=by have h1:=cX (zW n.places.length (pN n.arcs k)) (⟨11,iZ k⟩:Fault);have I:=cX (Dh (pN n.arcs k)) (⟨2,iZ k⟩:Fault);have V:=cX ((n.arcs.take k).any (uJ (pN n.arcs k))) (⟨6,iZ k⟩:Fault);have J:=Gc (pN n.arcs k).travel;have O:=cX (decide (((pN n.arcs k).slow.length:Int)>16)) (⟨4,iZ k⟩:Fault);have E:=gE (f:=fun i=>opt (qV (pN n.arcs k).slow i) (⟨2,iZ k⟩:Fault)) (c:=1) (fun x=>cX _ _) (List.range (pN n.arcs k).slow.length);rw[Xbd]at E;simp only[J4,Xae,Xab,List.length_nil];omega
def Gv{α E:Type}{f:α->List E}{c:Nat}:∀l:List α,(∀x∈l,(f x).length<=c)->(l.flatMap f).length<=c*l.length
 | [],_=>by simp
 | x::r,h=>by
  have h1:=h x (by simp);have I:=Gv r fun y F=>h y (by simp[F])
  simp only[List.flatMap_cons,Xae,Xah,Nat.mul_add,Nat.mul_one];omega
def Kt(n:Network):List Fault:=Ai n.places++opt (decide ((n.arcs.length:Int)>1024)) ⟨4,⟨#[97,114,99,115]⟩⟩++(List.range n.arcs.length).flatMap (J4 n)
def Gg(l:List ByteArray):(Ai l).length<=l.length+1:=by have:=gE (Xb l) (List.range l.length);have E:=cX (decide ((l.length:Int)>24)) (⟨4,⟨#[112,108,97,99,101,115]⟩⟩:Fault);rw[Ai,Xae];rw[Xbd]at this;omega
def avU(n:Network)(hp:n.places.length<=1048576)(aa:∀s∈n.places,s.size<=1048576)(hl:n.arcs.length<=1048576)(hs:∀a∈n.arcs,a.travel.length<=1048576/\a.slow.length<=1048576):
  NC prog 30 [.agg (bD n)] (bS (Kt n)) .os:=by
 have Y:∀k,(J4 n k).length<=3145740:=fun k=>by
  rcases Xav k n.arcs.length with h|h
  ·obtain⟨a,ha⟩:=aK h;have hm:=hs a (lK ha);exact I0 n k (by rw[sF ha];exact hm.1) (by rw[sF ha];exact hm.2)
  ·have:pN n.arcs k=⟨0,0,0,0,[],[]⟩:=by simp[pN,List.getD,List.getElem?_eq_none h]
   exact I0 n k (by rw[this];simp) (by rw[this];simp)
 have ab:=Gg n.places;refine ncb (fun t=>t == 3) func30 rfl rfl ?_;simp only[go_sem];refine NC.use (aeJ n hp aa) fun j hj=>?_
 simp only[go_sem];refine sU (fun E H'=>E 1=.rp (bD n) 0/\∃I,E 3=.os I/\H' I=some (bS (Ai n.places))) ⟨rfl,j,rfl,aB _ _ _⟩ ?_;rintro ρ H ⟨h1,j,X,F⟩;generalize Z:Ai n.places=es0 at F ab;refine bK (fun E H'=>E 1=.rp (bD n) 0/\∃I,E 3=.os I/\H' I=some (bS (es0++opt (decide ((n.arcs.length:Int)>1024)) ⟨4,⟨#[97,114,99,115]⟩⟩))) ?_ fun K hK=>aA (fun hb=>?_) (fun hb=>?_)
 rotate_left
 ·simp only[go_sem,X];refine aZ F ⟨rfl,rfl⟩ (by simp only[go_sem]) (by simp;omega) (fun I ac=>?_);simp only[go_sem];refine hK _ _ ⟨h1,I,rfl,?_⟩;rw[jY (show(decide ((n.arcs.length:Int)>1024))=true from hb)];exact gF (l':=[⟨4,⟨#[97,114,99,115]⟩⟩]) rfl
 ·simp only[go_sem];refine hK _ _ ⟨h1,j,X,?_⟩;rw[jW (show(decide ((n.arcs.length:Int)>1024))=false from hb),Xak,F]
 rintro ρ H ⟨h1,j,X,F⟩;generalize O:es0++opt (decide ((n.arcs.length:Int)>1024)) (⟨4,⟨#[97,114,99,115]⟩⟩:Fault)=es1 at F;have ae:es1.length<=es0.length+1:=by rw[<-O,Xae];have:=cX (decide ((n.arcs.length:Int)>1024)) (⟨4,⟨#[97,114,99,115]⟩⟩:Fault);omega
 simp only[go_sem,];refine⟨fun ρ H=>∃k:Nat,k<=n.arcs.length/\ρ 1=.rp (bD n) 0/\ρ 4=int k/\∃j,ρ 3=.os j/\H j=some (bS (es1++(List.range k).flatMap (J4 n))),fun ρ _=>n.arcs.length-aR (ρ 4),⟨0,Xaa _,h1,by simp only[go_sem];rfl,j,X,by simpa using F⟩,?_⟩;rintro ρ H ⟨k,hk,h1,h4,j,X,F⟩;generalize V:es1++(List.range k).flatMap (J4 n)=es at F;have ad:es.length<=es1.length+3145740*k:=by have:=gE Y (List.range k);rw[<-V,Xae];rw[Xbd]at this;omega
 simp only[go_sem,h1,h4];refine aA (fun J=>?_) (fun U=>?_)
 ·have J:=aT J;simp only[go_sem,h1,X,h4];refine NC.use (awC n k J hp hl hs) fun i hi=>?_
  simp only[go_sem];have:=Y k;refine D3 (eY F hi) (aB _ _ _) ⟨rfl,rfl⟩ (sB _) (by simp;omega) (fun I ac=>?_);simp only[go_sem,h1,h4,aQ k];refine⟨⟨k+1,J,rfl,I,rfl,?_⟩,by simp only[aN];omega⟩;rw[jI,<-Xax,V];exact gF rfl
 ·have U:=aV hk U;subst U;simp only[go_sem,X];exact⟨_,rfl,by rw[F,<-V,<-O,<-Z];rfl⟩
def uE(l:List Fault):Prop:=∀f∈l,f.at_.size<=4194304
def aaZ:uE []:=by simp[uE]
def kA{a b:List Fault}(F:uE a)(E:uE b):uE (a++b):=fun f I=>(Xba.1 I).elim (F f) (E f)
def jB{b:Bool}{f:Fault}(h:f.at_.size<=4194304):uE (opt b f):=by
 cases b
 ·simp[uE,opt]
 ·intro g E;simp[opt]at E;subst E;exact h
def sJ{α:Type}{F:α->List Fault}{l:List α}(h:∀x∈l,uE (F x)):uE (l.flatMap F):=fun f E=>by obtain⟨x,I,E⟩:=List.mem_flatMap.1 E;exact h x I f E
def Fk{α:Type}{F:α->Fault}{l:List α}(h:∀x∈l,(F x).at_.size<=4194304):uE (l.map F):=fun f I=>by obtain⟨x,E,rfl⟩:=Xbe.1 I;exact h x E
def yZ{i n:Nat}(h:i∈List.range n):i<n:=Xar.1 h
def YW(i:Nat):(iZ i).size<=i+5:=by have:=qJ i;unfold iZ;rw[ByteArray.size_append];have:(⟨#[97,114,99,32]⟩:ByteArray).size=4:=rfl;omega
def UF(w:ByteArray)(i:Nat):(BB w i).size<=w.size+i+2:=by have:=qJ i;unfold BB;rw[ByteArray.size_append,ByteArray.size_append];have:(⟨#[32]⟩:ByteArray).size=1:=rfl;omega
def Oq(l:List ByteArray)(h:l.length<=1048576):uE (Ai l):=kA (jB (by decide)) (sJ fun i hi=>by
 have:=yZ hi;have:=SN i;unfold iD;split
 ·exact jB (b:=true) (by show(vI i).size<=_;omega)
 ·exact jB (by show(vI i).size<=_;omega))
def aaD(n:Network)(E:n.places.length<=1048576)(F:n.arcs.length<=1048576):uE (Kt n):=by
 refine kA (kA (Oq _ E) (jB (by decide))) (sJ fun i hi=>?_);have:=yZ hi;have h:(iZ i).size<=4194304:=by have:=YW i;omega
 exact kA (kA (kA (kA (kA (kA aaZ (jB h)) (jB h)) (jB h)) (Fk fun _ _=>h)) (jB h)) (sJ fun _ _=>jB h)
def Tw(n:Network)(l:List VType)(E:l.length<=1048576):uE (yK n l):=
 kA (jB (by decide)) (sJ fun i hi=>Fk fun _ _=>by have:=yZ hi;have:=qJ i;show(lG i).size<=_;omega)
def Nw(n:Network)(d T:Int)(l:List Order)(E:l.length<=1048576):uE (tE n d T l):=
 kA (jB (by decide)) (sJ fun i hi=>Fk fun _ _=>by have:=yZ hi;have:=qJ i;show(lG i).size<=_;omega)
def GB(N:Int)(l:List Pair)(w:ByteArray)(b:Bool)(F:l.length<=1048576)(E:w.size<=100):uE (yH N l w b):=kA (jB (by show w.size<=_;omega)) (sJ fun i hi=>by
 have:=yZ hi;have:=UF w i;unfold iM;split
 ·exact jB (b:=true) (by show(BB w i).size<=_;omega)
 ·exact jB (by show(BB w i).size<=_;omega))
def Uq(n:Network)(l:List VType):(yK n l).length<=9*l.length+1:=by have:=gE (f:=kF n l) (c:=9) (fun x=>by unfold kF;rw[Xab];exact Ab _ _ _ _) (List.range l.length);have E:=cX (!inR l.length 1 6) (⟨4,ByteArray.empty⟩:Fault);rw[yK,Xae];rw[Xbd]at this;omega
def PU(n:Network)(d T:Int)(l:List Order):(tE n d T l).length<=9*l.length+1:=by have:=gE (f:=iC n d T l) (c:=9) (fun x=>by unfold iC;rw[Xab];exact xZ _ _ _ _ _ _) (List.range l.length);have E:=cX (decide ((l.length:Int)>10)) (⟨4,ByteArray.empty⟩:Fault);rw[tE,Xae];rw[Xbd]at this;omega
structure InB(x:Instance):Prop where
 places:x.net.places.length<=1048576
 place:∀s∈x.net.places,s.size<=1048576
 arcs:x.net.arcs.length<=1048576
 arc:∀a∈x.net.arcs,a.travel.length<=1048576/\a.slow.length<=1048576
 types:x.types.length<=1048576
 type:∀t∈x.types,t.name.size<=1048576/\t.cap.length<=1048576
 orders:x.orders.length<=1048576
 order:∀t∈x.orders,t.name.size<=1048576/\t.load.length<=1048576
 apart:x.apart.length<=1048576
 before:x.before.length<=1048576
def FU(x:Instance):List Fault:=yH x.orders.length x.apart ⟨#[97,112,97,114,116]⟩ true++yH x.orders.length x.before ⟨#[98,101,102,111,114,101]⟩ false
def tU(x:Instance):List Fault:=(Kt x.net).map (nB ⟨#[110,101,116]⟩)++(yK x.net x.types).map (nB ⟨#[116,121,112,101,115]⟩) ++
 (tE x.net (kN x.types) x.types.length x.orders).map (nB ⟨#[111,114,100,101,114,115]⟩)++(FU x).map (nB ⟨#[114,117,108,101,115]⟩)
def abZ(x:Instance)(h:InB x):(Kt x.net).length<=3300000000000:=by
 have h1:=Gg x.net.places;have O:=cX (decide ((x.net.arcs.length:Int)>1024)) (⟨4,⟨#[97,114,99,115]⟩⟩:Fault);have J:=Gv (f:=J4 x.net) (c:=3145740) (List.range x.net.arcs.length) fun k I=>by obtain⟨a,E⟩:=aK (yZ I);have F:=h.arc a (lK E);exact I0 x.net k (by rw[sF E];exact F.1) (by rw[sF E];exact F.2)
 have U:=h.places;have V:=h.arcs;rw[Xbd]at J;simp only[Kt,Xae];omega
def aoU(x:Instance)(h:InB x):NC prog 13 [.agg (aC x)] (bS (tU x)) .os:=by
 have Y:PC prog 30 [.agg (bD x.net)] (.sl ((Kt x.net).map iK)):=NC.pc (avU x.net h.places h.place h.arcs h.arc);have Z:PC prog 31 [.agg (bD x.net),.sl (x.types.map bF)] (.sl ((yK x.net x.types).map iK)):=NC.pc (amU x.net x.types h.types h.type h.places);have V:PC prog 32 [.agg (bD x.net),int (kN x.types),int x.types.length,.sl (x.orders.map bH)] (.sl ((tE x.net (kN x.types) x.types.length x.orders).map iK)):=NC.pc (Jt x.net _ _ x.orders h.orders h.order h.places);have c4:PC prog 34 [int x.orders.length,.sl (x.apart.map dH),.sl (x.before.map dH)] (.sl ((FU x).map iK)):=NC.pc (Oe x.orders.length x.apart x.before h.apart h.before);have l1:=abZ x h;have l2:=Uq x.net x.types;have l3:=PU x.net (kN x.types) x.types.length x.orders;have l4:(FU x).length<=2097154:=by have a1:=AC x.orders.length x.apart ⟨#[97,112,97,114,116]⟩ true;have a2:=AC x.orders.length x.before ⟨#[98,101,102,111,114,101]⟩ false;have:=h.apart;have:=h.before;rw[FU,Xae];omega
 have U:=aaD x.net h.places h.arcs;have s2:=Tw x.net x.types h.types;have s3:=Nw x.net (kN x.types) x.types.length x.orders h.orders;have X:uE (FU x):=kA (GB _ _ _ _ h.apart (by decide)) (GB _ _ _ _ h.before (by decide));have ht:=h.types;have ho:=h.orders;refine ncb (fun t=>t == 27) func13 rfl rfl ?_;simp only[go_sem];refine aG Y ?_;simp only[go_sem];refine NC.use (Hs ⟨#[110,101,116]⟩ _ (by decide) (by omega) fun f E=>Xam (U f E) (by decide)) fun j hj=>?_
 simp only[go_sem];refine aG Z ?_;simp only[go_sem];refine NC.use (Hs ⟨#[116,121,112,101,115]⟩ _ (by decide) (by omega) fun f E=>Xam (s2 f E) (by decide)) fun i hi=>?_
 simp only[go_sem];refine D3 (eY (aB _ _ _) hi) (aB _ _ _) ⟨rfl,rfl⟩ (sB _) (by simp;omega) (fun J ab=>?_);simp only[go_sem];refine HD (by kernel_rfl) ?_;simp only[go_sem];refine⟨_,(OF x.types).q rfl,?_⟩;simp only[go_sem];have O:=gF (e:=119) (sz:=2) (enc:=iK) (H:=aM (aM (aM bQ j (some (bS ((Kt x.net).map (nB ⟨#[110,101,116]⟩))))) i (some (bS ((yK x.net x.types).map (nB ⟨#[116,121,112,101,115]⟩))))) j none) (k:=J) (l:=(Kt x.net).map (nB ⟨#[110,101,116]⟩)) (l':=(yK x.net x.types).map (nB ⟨#[116,121,112,101,115]⟩)) rfl;generalize aM (aM (aM (aM bQ j _) i _) j none) J _=H at O |-;generalize I:(Kt x.net).map (nB ⟨#[110,101,116]⟩)++(yK x.net x.types).map (nB ⟨#[116,121,112,101,115]⟩)=es at O;have aa:es.length<=3300000000000+9*x.types.length+1:=by rw[<-I,Xae,Xab,Xab];omega
 refine aG V ?_;simp only[go_sem];refine NC.use (Hs ⟨#[111,114,100,101,114,115]⟩ _ (by decide) (by omega) fun f E=>Xam (s3 f E) (by decide)) fun i hi=>?_
 simp only[go_sem];refine D3 (eY O hi) (aB _ _ _) ⟨rfl,rfl⟩ (sB _) (by simp;omega) (fun k hk=>?_);simp only[go_sem];have F:=gF (e:=119) (sz:=2) (enc:=iK) (H:=aM (aM H i (some (bS ((tE x.net (kN x.types) x.types.length x.orders).map (nB ⟨#[111,114,100,101,114,115]⟩))))) J none) (k:=k) (l:=es) (l':=(tE x.net (kN x.types) x.types.length x.orders).map (nB ⟨#[111,114,100,101,114,115]⟩)) rfl;generalize aM (aM (aM H i _) J none) k _=H2 at F |-;refine aG c4 ?_;simp only[go_sem];refine NC.use (Hs ⟨#[114,117,108,101,115]⟩ _ (by decide) (by omega) fun f E=>Xam (X f E) (by decide)) fun q hq=>?_
 simp only[go_sem];refine D3 (eY F hq) (aB _ _ _) ⟨rfl,rfl⟩ (sB _) (by simp;omega) (fun m hm=>?_);simp only[go_sem];refine⟨m,rfl,?_⟩;rw[tU,I];exact gF rfl
end Go.Proofs.YtpagaknmdfgfkaaGreatDoor
end
section
namespace Go.Aw.D
open Go.Aw Go.RowKit
def Sw(w:World):Sg:=⟨fun k=>k<w.heap.size,fun k=>k<w.heap.size,fun _=>.slice none 0 0,fun _=>1,0⟩
def Ow(w:World):Prop:=∀t∈YJ,vG w t.1=some t.2
theorem Qq{w:World}{g:Nat}{cs:Array Value}(h:vG w g=some cs):g<w.heap.size:=by
 unfold vG at h;split at h
 ·rename_i h1;exact(Array.getElem?_eq_some_iff.1 h1).1
 ·cases h
theorem avS(w:World)(F:Ow w):St (Sw w) w bQ:=⟨fun _ h=>h,fun _ h=>h,fun k r E=>by simp[bQ]at E,fun k r E=>by simp[bQ]at E,fun k k' r r' E=>by simp[bQ]at E,fun t h=>⟨Qq (F t h),F t h⟩⟩
def mA(_:Nat)(x:Int):Prop:= -9223372036854775808<=x/\x<=9223372036854775807
def aqD(_:Nat)(_:Bool):Prop:=True
def Py(n:Nat)(s:ByteArray):Prop:=s.size<=n
def bL{α:Type}(b:Nat->α->Prop)(n:Nat)(l:List α):Prop:=l.length<=n/\∀x∈l,b n x
def Rd{H:Type}(e:TypeId×Value->H)(B:DataW H->Nat)(P:Program)(w:World)(t:TypeId){α:Type}(enc:α->List AV)(b:Nat->α->Prop):Prop:=
 ∀fuel cs y,DataW.trod e P w 0 (fun _=>true) true fuel t cs=some y->∃x:α,(bN (Sw w) w (enc x) cs/\∀u∈cs,u.oneCell'=true)/\∀n,B y.1<=n->b n x
section
variable{H:Type}{e:TypeId×Value->H}{P:Program}{w:World}{t:TypeId}
abbrev BK(H:Type):DataW H->Nat:=Go.Proofs.YtpagaknmdfgfkaaGreatDoor.Rows.uptoBulk
theorem fN(I:P.underlying t=some (.int .i64)):Rd e (BK H) P w t bC mA:=by intro E cs y h;obtain⟨n,rfl,_,F⟩:=DataW.trod_int I h;refine⟨n,⟨by simp only[bC,bN];exact⟨_,_,rfl,by simp only[rep],rfl⟩,by simp[Value.oneCell']⟩,fun _ _=>bounds_i64 F⟩
theorem alR(F:P.underlying t=some .bool):Rd e (BK H) P w t dI aqD:=by intro E cs y h;obtain⟨n,rfl,_⟩:=DataW.trod_bool F h;refine⟨n,⟨by simp only[dI,bN];exact⟨_,_,rfl,by simp only[rep],rfl⟩,by simp[Value.oneCell']⟩,fun _ _=>trivial⟩
theorem Ns(F:P.underlying t=some .string):Rd e (BK H) P w t fE Py:=by intro E cs y h;obtain⟨s,rfl,rfl,_⟩:=DataW.trod_string F h;refine⟨s,⟨by simp only[fE,bN];exact⟨_,_,rfl,by simp only[rep],rfl⟩,by simp[Value.oneCell']⟩,fun n I=>?_⟩;simp only[BK,Go.Proofs.YtpagaknmdfgfkaaGreatDoor.Rows.uptoBulk,Array.length_toList]at I;have:s.size=s.data.size:=rfl;simp only[Py];omega
theorem Mf{d:DataW H}{l:List (DataW H)}(h:d∈l):BK H d<=Go.Proofs.YtpagaknmdfgfkaaGreatDoor.Rows.uptoBulkAll l:=by
 induction l with
 | nil=>cases h
 | cons x r ih=>
  simp only[Go.Proofs.YtpagaknmdfgfkaaGreatDoor.Rows.uptoBulkAll];cases List.mem_cons.1 h with
  | inl e=>subst e;simp only[BK];omega
  | inr e=>have:=ih e;omega
theorem aeN(d:DataW H):1<=BK H d:=by
 cases d with
 | lit l=>cases l <;> simp[BK,Go.Proofs.YtpagaknmdfgfkaaGreatDoor.Rows.uptoBulk]
 | nil=>simp[BK,Go.Proofs.YtpagaknmdfgfkaaGreatDoor.Rows.uptoBulk]
 | ptr d=>simp[BK,Go.Proofs.YtpagaknmdfgfkaaGreatDoor.Rows.uptoBulk]
 | slice elems spare=>simp[BK,Go.Proofs.YtpagaknmdfgfkaaGreatDoor.Rows.uptoBulk]
 | agg parts=>simp[BK,Go.Proofs.YtpagaknmdfgfkaaGreatDoor.Rows.uptoBulk]
 | iface t d=>simp[BK,Go.Proofs.YtpagaknmdfgfkaaGreatDoor.Rows.uptoBulk]
 | map entries=>simp[BK,Go.Proofs.YtpagaknmdfgfkaaGreatDoor.Rows.uptoBulk]
 | held h=>simp[BK,Go.Proofs.YtpagaknmdfgfkaaGreatDoor.Rows.uptoBulk]
theorem Tn(l:List (DataW H)):l.length<=Go.Proofs.YtpagaknmdfgfkaaGreatDoor.Rows.uptoBulkAll l:=by
 induction l with
 | nil=>simp[Go.Proofs.YtpagaknmdfgfkaaGreatDoor.Rows.uptoBulkAll]
 | cons x r ih=>have:=aeN x;simp only[Go.Proofs.YtpagaknmdfgfkaaGreatDoor.Rows.uptoBulkAll,List.length_cons,BK]at *;omega
theorem Tv{α:Type}(n:Nat)(p:Nat->α->Prop)(h:∀i,i<n->∃x,p i x):∃l:List α,l.length=n/\∀i x,l[i]?=some x->p i x:=by
 induction n with
 | zero=>exact⟨[],rfl,by simp⟩
 | succ n ih=>
  obtain⟨l,J,O⟩:=ih fun i hi=>h i (by omega)
  obtain⟨x,I⟩:=h n (by omega);refine⟨l++[x],by simp[J],fun i y E=>?_⟩;rcases Nat.lt_or_ge i n with hi|hi
  ·rw[List.getElem?_append_left (by omega)]at E;exact O i y E
  ·rw[List.getElem?_append_right (by omega)]at E;have:i-l.length=0:=by
    rcases Nat.eq_zero_or_pos (i-l.length)with h0|h0
    ·exact h0
    ·rw[List.getElem?_eq_none (by simp;omega)]at E;simp at E
   rw[this]at E;have F:i=n:=by omega
   subst F;simp at E;subst E;exact I
theorem EJ{S:Sg}{b sz:Nat}{α:Type}{enc:α->List AV}(E:∀x,(enc x).length=sz):∀(l:List α) (o:Nat),(∀i x,l[i]?=some x->dP S w b (o+i*sz) (enc x))->jE S w b sz o (l.map enc)
 | [],_,_=>by simp[jE]
 | x::r,o,h=>by
  simp only[List.map_cons,jE];refine⟨E x,by simpa using h 0 x rfl,EJ E r (o+sz) fun i y F=>?_⟩;have:=h (i+1) y (by simpa using F)
  rwa [show o+(i+1)*sz=o+sz+i*sz by rw[Nat.add_mul];omega]at this
theorem FF{a:Addr}{n:Nat}{cs:List Value}(h:w.cells? 0 a n=some cs):cs.length=n/\∀j,j<n->w.cell? (a.add j)=cs[j]?:=by unfold World.cells? at h;rw[if_pos (Nat.zero_le _)]at h;have F:=mapM_some_length h;exact⟨by simpa using F,fun j E=>mapM_some_get h j j (by simp[E])⟩
theorem pG{α:Type}{enc:α->List AV}{b:Nat->α->Prop}{et:TypeId}{sz:Nat}(ht:P.underlying t=some (.slice et))(hc:P.cellsOf et=sz)(F:0<sz)(U:∀x,(enc x).length=sz)(hr:Rd e (BK H) P w et enc b):
  Rd e (BK H) P w t (fun l:List α=>[.sl (l.map enc)]) (bL b):=by
 intro ai cs y h;rcases DataW.trod_slice ht h with⟨rfl,rfl⟩|⟨a,len,cap,E,rest,n,rfl,rfl,rfl,_,ag,aa,ac,V,ak,_⟩
 ·refine⟨[],⟨?_,by simp[Value.oneCell']⟩,fun n _=>⟨by simp,by simp⟩⟩;simp only[bN,rep,List.map_nil];exact⟨_,_,rfl,⟨none,0,0,rfl,rfl,Nat.le_refl _,Nat.zero_le _,by simp⟩,rfl⟩
 ·have hp : ∀ i, i < len -> ∃ x : α, ∃ z cs', E[i]? = some z /\ w.cells? 0 (a.add (i * sz)) sz = some cs' /\ (bN (Sw w) w (enc x) cs' /\ ∀ u ∈ cs', u.oneCell' = true) /\ ∀ n, BK H z.1 <= n -> b n x := fun i hi => by have hg:=V i hi;rw[List.getElem?_eq_getElem (by omega),hc,Option.bind_eq_some_iff]at hg;obtain⟨cs',h1,h2⟩:=hg;obtain⟨x,O,J⟩:=hr _ _ _ h2;exact⟨x,_,cs',List.getElem?_eq_getElem (by omega),h1,O,J⟩
  obtain⟨l,hl,X⟩:=Tv len _ hp;refine⟨l,⟨?_,by simp[Value.oneCell']⟩,fun m hm=>⟨?_,fun x O=>?_⟩⟩
  ·simp only[bN];refine⟨_,_,rfl,?_,rfl⟩;simp only[rep];refine⟨some a,len,cap,rfl,by simp[hl],ag,aa,?_⟩;rcases Nat.eq_zero_or_pos len with h0|h0
   ·left;rw[List.eq_nil_of_length_eq_zero (hl.trans h0)];rfl
   ·right;have ad:=hp 0 h0;obtain⟨_,_,al,_,Y,_⟩:=ad;have q:=(FF Y).2 0 F;have af:=(FF Y).1;rw[List.getElem?_eq_getElem (by omega)]at q;simp only[Nat.zero_mul,Addr.add,if_true]at q;have I:a.spot=none/\a.block<w.heap.size:=by
     unfold World.cell? at q;split at q
     ·rename_i c _ _ J;split at q
      ·simp at q
      ·rename_i hs;refine⟨by simpa using hs,?_⟩;rcases Nat.lt_or_ge a.block w.heap.size with h|h
       ·exact h
       ·rw[Array.getElem?_eq_none h]at J;simp at J
     ·simp at q
    obtain⟨ab,ao,aj⟩:=a;obtain⟨hs,Z⟩:=I;simp only at hs Z;subst hs;refine⟨ab,ao,sz,rfl,Z,F,EJ U l ao fun i x O=>?_⟩;obtain⟨z,cs',_,ah,⟨h1,h2⟩,_⟩:=X i x O;refine kT _ cs' _ h1 h2 fun j u hj=>?_
    obtain⟨e1,e2⟩:=FF ah;have ae:j<sz:=by
     rcases Nat.lt_or_ge j sz with h|h
     ·exact h
     ·rw[List.getElem?_eq_none (by omega)]at hj;simp at hj
    have:=e2 j ae;rw[hj,Addr.add_lit,Addr.add_lit]at this;exact this
  ·rw[hl,<-ac];have h1:=Tn (E.map (·.1));simp only[BK,Go.Proofs.YtpagaknmdfgfkaaGreatDoor.Rows.uptoBulk,List.length_map]at hm h1;omega
  ·obtain⟨i,hi⟩:=List.mem_iff_getElem?.1 O;obtain⟨z,cs',hz,_,_,J⟩:=X i x hi;refine J m ?_;have h1:=Mf (List.mem_map_of_mem (f:=(·.1)) (List.mem_of_getElem? hz));simp only[BK,Go.Proofs.YtpagaknmdfgfkaaGreatDoor.Rows.uptoBulk]at hm h1 |-;omega
theorem fld{E o m:Nat}{cs:List Value}{z:DataW H×List MemPlace}(F:P.cellsOf t=m)(h:DataW.trod e P w 0 (fun _=>true) true E t ((cs.drop o).take (P.cellsOf t))=some z):DataW.trod e P w 0 (fun _=>true) true E t ((cs.drop o).take m)=some z:=F▸h
theorem Cj{S:Sg}{a b:List AV}{cs:List Value}{o m:Nat}(h:bN S w a ((cs.drop o).take m))(E:bN S w b (cs.drop (o+m))):bN S w (a++b) (cs.drop o):=by
 have:=eG a b _ _ h E
 rwa [<-List.drop_drop,List.take_append_drop]at this
theorem Q8{S:Sg}{cs:List Value}{o:Nat}(h:cs.length=o):bN S w [] (cs.drop o):=by rw[List.drop_eq_nil_of_le (by omega)];simp[bN]
theorem Ei{cs:List Value}{o m:Nat}(h:∀u∈(cs.drop o).take m,u.oneCell'=true)(F:∀u∈cs.drop (o+m),u.oneCell'=true):∀u∈cs.drop o,u.oneCell'=true:=by
 intro u E;rw[<-List.take_append_drop m (cs.drop o),List.drop_drop]at E;rcases List.mem_append.1 E with E|E
 ·exact h u E
 ·exact F u E
theorem XX{cs:List Value}{o:Nat}(h:cs.length=o):∀u∈cs.drop o,u.oneCell'=true:=by rw[List.drop_eq_nil_of_le (by omega)];simp
theorem Dv{xs:List (DataW H×List MemPlace)}{i:Nat}{z:DataW H×List MemPlace}(E:xs[i]?=some z){n:Nat}(h:BK H (.agg (xs.map (·.1)))<=n):BK H z.1<=n:=by have h1:=Mf (List.mem_map_of_mem (f:=(·.1)) (List.mem_of_getElem? E));simp only[BK,Go.Proofs.YtpagaknmdfgfkaaGreatDoor.Rows.uptoBulk]at h h1 |-;omega
theorem JI{α:Type}{xs:List α}{n i:Nat}(h:xs.length=n)(hi:i<n):∃z,xs[i]?=some z:=⟨xs[i],List.getElem?_eq_getElem (by omega)⟩
def RdL(e:TypeId×Value->H)(P:Program)(w:World)(T:TypeId)(fs:Array Field)(i o:Nat){α:Type}(enc:α->List AV)(b:Nat->α->Prop):Prop:=
 ∀(n:Nat) (cs:List Value) (xs:List (DataW H×List MemPlace)),cs.length=P.cellsOf T->xs.length=fs.size ->
   (∀(j:Nat) (f:Field),fs[j]?=some f->DataW.trod e P w 0 (fun _=>true) true n f.type ((cs.drop f.offset).take (P.cellsOf f.type))=xs[j]?) ->
   ∃x:α,(bN (Sw w) w (enc x) (cs.drop o)/\∀u∈cs.drop o,u.oneCell'=true)/\∀m,BK H (.agg (xs.map (·.1)))<=m->b m x
theorem rdF{fs:Array Field}{i o:Nat}{t:TypeId}(m:Nat){α:Type}{enc:α->List AV}{b:Nat->α->Prop}(R:Rd e (BK H) P w t enc b)(X:(fs[i]?).map (fun f:Field=>(f.type,f.offset))=some (t,o))(Y:P.cellsOf t=m)
  {n:Nat} {cs:List Value} {xs:List (DataW H×List MemPlace)} (O:xs.length=fs.size) (V:∀(j:Nat) (f:Field),fs[j]?=some f->DataW.trod e P w 0 (fun _=>true) true n f.type ((cs.drop f.offset).take (P.cellsOf f.type))=xs[j]?):
  ∃x:α,(bN (Sw w) w (enc x) ((cs.drop o).take m)/\∀u∈(cs.drop o).take m,u.oneCell'=true)/\∀m,BK H (.agg (xs.map (·.1)))<=m->b m x:=by
 obtain⟨f,E,F⟩:=Option.map_eq_some_iff.1 X;obtain⟨rfl,rfl⟩:=Prod.mk.inj F;obtain⟨z,I⟩:=JI O (Array.getElem?_eq_some_iff.1 E).1;obtain⟨x,h,U⟩:=R n ((cs.drop f.offset).take m) z (fld Y ((V i f E).trans I));exact⟨x,h,fun k J=>U k (Dv I J)⟩
theorem rdC{T:TypeId}{fs:Array Field}{i o:Nat}{t:TypeId}(m:Nat){α F:Type}{enc:α->List AV}{b:Nat->α->Prop}{E:F->List AV}{U:Nat->F->Prop}(R:Rd e (BK H) P w t enc b)(r:RdL e P w T fs (i+1) (o+m) E U)
  (hG:(fs[i]?).map (fun f:Field=>(f.type,f.offset))=some (t,o):=by rfl) (hm:P.cellsOf t=m:=by kernel_rfl):RdL e P w T fs i o (fun p:α×F=>enc p.1++E p.2) (fun n p=>b n p.1/\U n p.2):=fun n cs xs h1 J O=>by
 obtain⟨x,⟨r1,Y⟩,X⟩:=rdF m R hG hm J O;obtain⟨y,⟨r2,V⟩,Z⟩:=r n cs xs h1 J O;exact⟨(x,y),⟨Cj r1 r2,Ei Y V⟩,fun k I=>⟨X k I,Z k I⟩⟩
theorem rdE{T:TypeId}{fs:Array Field}{i o:Nat}{t:TypeId}(m:Nat){α:Type}{enc:α->List AV}{b:Nat->α->Prop}(R:Rd e (BK H) P w t enc b)
  (U:(fs[i]?).map (fun f:Field=>(f.type,f.offset))=some (t,o):=by rfl) (V:P.cellsOf t=m:=by kernel_rfl) (E:P.cellsOf T=o+m:=by kernel_rfl):RdL e P w T fs i o enc b:=fun n cs xs h1 F O=>by
 obtain⟨x,⟨r1,J⟩,I⟩:=rdF m R U V F O;refine⟨x,⟨?_,Ei J (XX (h1.trans E))⟩,I⟩;have:=Cj r1 (Q8 (h1.trans E))
 rwa [List.append_nil]at this
theorem rdS{T:TypeId}{fs:Array Field}{α X:Type}{enc:α->List AV}{b:Nat->α->Prop}{E:X->List AV}{O:Nat->X->Prop}(ht:P.underlying T=some (.struct fs))(r:RdL e P w T fs 0 0 enc b)(I:α->X)
  (Z:∀p,E (I p)=enc p) (V:∀n p,b n p->O n (I p)):Rd e (BK H) P w T E O:=by
 intro J cs y h;obtain⟨xs,n,rfl,rfl,hl,F,hf⟩:=DataW.trod_struct ht h;obtain⟨x,⟨r1,Y⟩,U⟩:=r n cs xs hl F hf;exact⟨I x,⟨by rw[Z];rwa [List.drop_zero]at r1,by rwa [List.drop_zero]at Y⟩,fun m hm=>V m x (U m hm)⟩
end
section
open Go.Proofs Go.Proofs.YtpagaknmdfgfkaaGreatDoor
variable{H:Type}{e:TypeId×Value->H}{w:World}
theorem aoX:Rd e (BK H) Tryz.prog w 22 (fun l:List ByteArray=>[.sl (l.map fE)]) (bL Py):=pG (sz:=1) Tryz.underlying22 (by kernel_rfl) (by omega) (fun _=>rfl) (Ns Tryz.underlying9)
def Oc(n:Nat)(x:Point):Prop:=mA n x.t/\mA n x.a
theorem acN:Rd e (BK H) Tryz.prog w 85 cC Oc:=rdS Tryz.underlying85 (rdC 1 (fN Tryz.underlying3) (rdE 1 (fN Tryz.underlying3))) (fun(a,b)=>⟨a,b⟩) (fun _=>rfl) (fun _ (_,_) h=>h)
theorem LG:Rd e (BK H) Tryz.prog w 86 (fun l:List Point=>[.sl (l.map cC)]) (bL Oc):=pG (sz:=2) Tryz.underlying86 (by kernel_rfl) (by omega) (fun _=>rfl) (acN)
def asS(n:Nat)(x:Arc):Prop:=mA n x.src/\mA n x.dst/\mA n x.profile/\mA n x.miles/\(bL Oc) n x.travel/\(bL Oc) n x.slow
theorem aqW:Rd e (BK H) Tryz.prog w 88 gD asS:=rdS Tryz.underlying88 (rdC 1 (fN Tryz.underlying3) (rdC 1 (fN Tryz.underlying3) (rdC 1 (fN Tryz.underlying3) (rdC 1 (fN Tryz.underlying3) (rdC 1 LG (rdE 1 LG)))))) (fun(a,b,c,d,e,f)=>⟨a,b,c,d,e,f⟩) (fun _=>rfl) (fun _ (_,_,_,_,_,_) h=>h)
theorem apE:Rd e (BK H) Tryz.prog w 23 (fun l:List Arc=>[.sl (l.map gD)]) (bL asS):=pG (sz:=6) Tryz.underlying23 (by kernel_rfl) (by omega) (fun _=>rfl) (aqW)
def QA(n:Nat)(x:Network):Prop:=(bL Py) n x.places/\(bL asS) n x.arcs
theorem Uz:Rd e (BK H) Tryz.prog w 25 bD QA:=rdS Tryz.underlying25 (rdC 1 aoX (rdE 1 apE)) (fun(a,b)=>⟨a,b⟩) (fun _=>rfl) (fun _ (_,_) h=>h)
theorem XU:Rd e (BK H) Tryz.prog w 89 (fun l:List Int=>[.sl (l.map bC)]) (bL mA):=pG (sz:=1) Tryz.underlying89 (by kernel_rfl) (by omega) (fun _=>rfl) (fN Tryz.underlying3)
def Ux(n:Nat)(x:VType):Prop:=Py n x.name/\mA n x.count/\mA n x.src/\mA n x.dst/\(bL mA) n x.cap/\mA n x.skills/\mA n x.profile/\mA n x.start/\mA n x.close/\mA n x.drive/\mA n x.rest/\mA n x.fixed/\mA n x.perMile/\mA n x.perTick
theorem agZ:Rd e (BK H) Tryz.prog w 95 bF Ux:=rdS Tryz.underlying95 (rdC 1 (Ns Tryz.underlying9) (rdC 1 (fN Tryz.underlying3) (rdC 1 (fN Tryz.underlying3) (rdC 1 (fN Tryz.underlying3) (rdC 1 XU (rdC 1 (fN Tryz.underlying3) (rdC 1 (fN Tryz.underlying3) (rdC 1 (fN Tryz.underlying3) (rdC 1 (fN Tryz.underlying3) (rdC 1 (fN Tryz.underlying3) (rdC 1 (fN Tryz.underlying3) (rdC 1 (fN Tryz.underlying3) (rdC 1 (fN Tryz.underlying3) (rdE 1 (fN Tryz.underlying3))))))))))))))) (fun(a,b,c,d,e,f,g,h,i,j,k,l,m,n)=>⟨a,b,c,d,e,f,g,h,i,j,k,l,m,n⟩) (fun _=>rfl) (fun _ (_,_,_,_,_,_,_,_,_,_,_,_,_,_) h=>h)
theorem YD:Rd e (BK H) Tryz.prog w 26 (fun l:List VType=>[.sl (l.map bF)]) (bL Ux):=pG (sz:=14) Tryz.underlying26 (by kernel_rfl) (by omega) (fun _=>rfl) (agZ)
def afE(n:Nat)(x:Stop):Prop:=mA n x.place/\mA n x.start/\mA n x.close/\mA n x.service
theorem Wz:Rd e (BK H) Tryz.prog w 91 eN afE:=rdS Tryz.underlying91 (rdC 1 (fN Tryz.underlying3) (rdC 1 (fN Tryz.underlying3) (rdC 1 (fN Tryz.underlying3) (rdE 1 (fN Tryz.underlying3))))) (fun(a,b,c,d)=>⟨a,b,c,d⟩) (fun _=>rfl) (fun _ (_,_,_,_) h=>h)
def U0(n:Nat)(x:Order):Prop:=Py n x.name/\(bL mA) n x.load/\afE n x.pick/\afE n x.drop/\mA n x.skills/\mA n x.penalty/\mA n x.split/\mA n x.last/\mA n x.now/\aqD n x.off
theorem abS:Rd e (BK H) Tryz.prog w 93 bH U0:=rdS Tryz.underlying93 (rdC 1 (Ns Tryz.underlying9) (rdC 1 XU (rdC 4 Wz (rdC 4 Wz (rdC 1 (fN Tryz.underlying3) (rdC 1 (fN Tryz.underlying3) (rdC 1 (fN Tryz.underlying3) (rdC 1 (fN Tryz.underlying3) (rdC 1 (fN Tryz.underlying3) (rdE 1 (alR Tryz.underlying4))))))))))) (fun(a,b,c,d,e,f,g,h,i,j)=>⟨a,b,c,d,e,f,g,h,i,j⟩) (fun _=>rfl) (fun _ (_,_,_,_,_,_,_,_,_,_) h=>h)
theorem Yx:Rd e (BK H) Tryz.prog w 27 (fun l:List Order=>[.sl (l.map bH)]) (bL U0):=pG (sz:=16) Tryz.underlying27 (by kernel_rfl) (by omega) (fun _=>rfl) (abS)
def Yr(n:Nat)(x:Pair):Prop:=mA n x.a/\mA n x.b
theorem alD:Rd e (BK H) Tryz.prog w 169 dH Yr:=by
 intro J cs y h;obtain⟨xs,n,rfl,rfl,V,E,O⟩:=DataW.trod_array Tryz.underlying169 h;have V:cs.length=2:=V.trans (by kernel_rfl);obtain⟨z0,F⟩:=JI E (show 0<2 by omega);obtain⟨x0,⟨r0,o0⟩,X⟩:=(fN Tryz.underlying3:Rd e (BK H) Tryz.prog w 3 _ _) n ((cs.drop 0).take 1) z0 (fld (t:=3) (o:=0) (m:=1) (by kernel_rfl) ((O 0 (by omega)).trans F));obtain⟨z1,I⟩:=JI E (show 1<2 by omega);obtain⟨Y,⟨r1,o1⟩,Z⟩:=(fN Tryz.underlying3:Rd e (BK H) Tryz.prog w 3 _ _) n ((cs.drop 1).take 1) z1 (fld (t:=3) (o:=1) (m:=1) (by kernel_rfl) ((O 1 (by omega)).trans I));refine⟨⟨x0,Y⟩,⟨?_,?_⟩,fun m U=>⟨X m (Dv F U),Z m (Dv I U)⟩⟩
 ·have:=Cj (o:=0) (m:=1) r0 (Cj (o:=1) (m:=1) r1 (Q8 (by omega)));rw[List.drop_zero]at this;exact this
 ·have:=Ei (o:=0) (m:=1) o0 (Ei (o:=1) (m:=1) o1 (XX (by omega)));rw[List.drop_zero]at this;exact this
theorem Qv:Rd e (BK H) Tryz.prog w 28 (fun l:List Pair=>[.sl (l.map dH)]) (bL Yr):=pG (sz:=2) Tryz.underlying28 (by kernel_rfl) (by omega) (fun _=>rfl) (alD)
def F1(n:Nat)(x:Instance):Prop:=QA n x.net/\(bL Ux) n x.types/\(bL U0) n x.orders/\(bL Yr) n x.apart/\(bL Yr) n x.before
theorem PS:Rd e (BK H) Tryz.prog w 30 aC F1:=rdS Tryz.underlying30 (rdC 2 Uz (rdC 1 YD (rdC 1 Yx (rdC 1 Qv (rdE 1 Qv))))) (fun(a,b,c,d,e)=>⟨a,b,c,d,e⟩) (fun _=>rfl) (fun _ (_,_,_,_,_) h=>h)
def atE(n:Nat)(x:Cut):Prop:=mA n x.kind/\mA n x.set/\mA n x.n
theorem auN:Rd e (BK H) Tryz.prog w 102 dV atE:=rdS Tryz.underlying102 (rdC 1 (fN Tryz.underlying3) (rdC 1 (fN Tryz.underlying3) (rdE 1 (fN Tryz.underlying3)))) (fun(a,b,c)=>⟨a,b,c⟩) (fun _=>rfl) (fun _ (_,_,_) h=>h)
theorem alH:Rd e (BK H) Tryz.prog w 31 (fun l:List Cut=>[.sl (l.map dV)]) (bL atE):=pG (sz:=3) Tryz.underlying31 (by kernel_rfl) (by omega) (fun _=>rfl) (auN)
theorem amE:Rd e (BK H) Tryz.prog w 33 (fun l:List ByteArray=>[.sl (l.map fE)]) (bL Py):=pG (sz:=1) Tryz.underlying33 (by kernel_rfl) (by omega) (fun _=>rfl) (Ns Tryz.underlying44)
def CF(n:Nat)(x:Decision):Prop:=mA n x.kind/\mA n x.a/\mA n x.b/\mA n x.n
theorem RU:Rd e (BK H) Tryz.prog w 128 aS CF:=rdS Tryz.underlying128 (rdC 1 (fN Tryz.underlying3) (rdC 1 (fN Tryz.underlying3) (rdC 1 (fN Tryz.underlying3) (rdE 1 (fN Tryz.underlying3))))) (fun(a,b,c,d)=>⟨a,b,c,d⟩) (fun _=>rfl) (fun _ (_,_,_,_) h=>h)
theorem OH:Rd e (BK H) Tryz.prog w 32 (fun l:List Decision=>[.sl (l.map aS)]) (bL CF):=pG (sz:=4) Tryz.underlying32 (by kernel_rfl) (by omega) (fun _=>rfl) (RU)
def akO(n:Nat)(x:Ask3):Prop:=F1 n x.x/\(bL atE) n x.cuts/\(bL CF) n x.d/\(bL Py) n x.dual
theorem apN:Rd e (BK H) Tryz.prog w 35 kJ akO:=rdS Tryz.underlying35 (rdC 6 PS (rdC 1 alH (rdC 1 OH (rdE 1 amE)))) (fun(a,b,c,d)=>⟨a,b,c,d⟩) (fun _=>rfl) (fun _ (_,_,_,_) h=>h)
end
end Go.Aw.D
end
section
namespace Go.Proofs.YtpagaknmdfgfkaaGreatDoor
open Go.Aw Go.Aw.D Go.Proofs Go.RowKit Go.ChangeShapes Go.WideShapes Go.ChangeAt
section
variable{H:Type}{e:TypeId×Value->H}{P:Program}{W W':World}
theorem Ti{f:FuncId}{args:List AV}{vals:List Value}(h:PC P f args (.v (.bool true)))(U:Ow W)(V:bN (Sw W) W args vals):
  Calls P f vals.toArray W fun F W'=>F=.returned (.bool true)/\Below W.heap.size W W':=
 (h (Sw W) W vals (avS W U) (fun _ h=>h) V).mono fun F W' ⟨v,r,H',S',J,O,_,I,E,_⟩=>by subst O;simp only[rep]at I;subst I;exact⟨J,E.os,E.tape,E.output,E.size,E.same⟩
theorem EA(O:laidOutB P=true)(U:Below W.heap.size W W'):∀{F:List TypeId} {vs:List Value} {ds:List (DataW H)} {ps:List MemPlace},(∀t∈F,P.readableRec t=true/\t<P.types.size) ->
  DataW.TrodAll e P W 0 (fun _=>true) true F vs ds ps->(∀x∈ps,x.block<W.heap.size)->∀I:Nat->Bool,(∀x∈ps,I x.block=true)->DataW.TrodAll e P W' 0 I true F vs ds ps
 | [],[],[],_,_,h,_,_,_=>h
 | t::F,v::vs,d::ds,ps,ht,⟨p,q,h1,h2,he⟩,hlt,I,hs=>by
  subst he;have h0:=ht t (by simp);exact⟨p,q,WideElems.Trod_stays O h0.1 h0.2 h1 (fun x E=>U.same (hlt x (by simp[E]))) (fun x E=>hs x (by simp[E])),
   EA O U (fun t J=>ht t (by simp[J])) h2 (fun x E=>hlt x (by simp[E])) I (fun x E=>hs x (by simp[E])),rfl⟩
theorem U8{t:TypeId}{fs:Array Field}{α:Type}{enc:α->List AV}{b:Nat->α->Prop}{r:Reach}{I:Nat}{v:Value}{d:DataW H}{U:List MemPlace}(X:P.underlying t=some (.struct fs))
  (V:Rd e (BK H) P W t enc b) (F:Value.okWide P W r I t v) (J:DataW.Trod e P W 0 (fun _=>true) true t v d U):∃x:α,rep (Sw W) W (.agg (enc x)) v/\∀n,BK H d<=n->b n x:=by
 obtain⟨cs,rfl,_⟩:=okWide_struct X F;obtain⟨E,h⟩:=J;obtain⟨x,⟨h1,O⟩,Y⟩:=V E _ _ h;refine⟨x,?_,Y⟩;simp only[rep];exact⟨cs.toList,by simp,h1,O⟩
theorem Zq{fn:Func}{s:ChangeSpec}{args:Array Value}{ds gs:List (DataW H)}{before:List MemPlace}(hl:laidOutB P=true)(ad:∀t∈fn.params.toList,P.readableRec t=true/\t<P.types.size)
  (E:s.vars=[]) {tb:TypeId} (V:P.underlying tb=some .bool) (Y:fn.resultTypes=#[tb]) (hW:DataW.Whole e P fn.params.toList s.vars false W args.toList ds gs before)
  (X:(s.fn H (ds++gs)).results=[.lit (.bool true)]) (J:(s.fn H (ds++gs)).args=ds) (ac:(s.fn H (ds++gs)).vars=[]) (hb:Below W.heap.size W W'):
  s.post e P fn false true false false W args (.bool true) W':=by
 have O:=hW.lt;have aa:=hW;obtain⟨p,q,hA,hV,rfl,ae,af⟩:=hW;rw[E]at hV;obtain⟨rfl,rfl⟩:=trodVars_none hV;have hk:W.keptBut W' (·∈p++[]):=hb.frame _;have Z:∀x∈p++[],(fun b=>decide (b<W.heap.size)) x.block=true:=fun x F=>by simpa using O x F
 have r1:∀(b:Nat) (I:Nat->Bool) (hd:Bool),DataW.TrodAll e P W' b I hd fn.resultTypes.toList ((Value.bool true).resultList fn.resultTypes.size) (s.fn H (ds++[])).results []:=fun b I hd=>by rw[Y,X];exact trodAll_cons_mk (shut_bool V _) trodAll_mk0
 have r2:∀I:Nat->Bool,(∀x∈p++[],I x.block=true)->DataW.TrodAll e P W' 0 I true fn.params.toList args.toList (s.fn H (ds++[])).args p:=fun I ab=>by rw[J];exact EA hl hb ad hA (fun x F=>O x (by simp[F])) I (fun x F=>ab x (by simp[F]))
 have r3:∀I:Nat->Bool,DataW.TrodVars e P W' I s.vars (s.fn H (ds++[])).vars []:=fun I=>by rw[E,ac];simp[DataW.TrodVars]
 refine⟨ds,[],p++[],[],p,[],aa,r1 _ _ _,r2 _ Z,r3 _,World.keptBut_mono (fun x F=>⟨F,.inr (by simpa using F)⟩) hk,fun _=>?_⟩;refine⟨?_,_,_,([]++p)++[],⟨[]++p,[],trodAll_append (r2 _ (fun _ _=>rfl)) (r1 _ _ _),r3 _,rfl,?_,?_⟩,?_⟩
 ·exact ok_one Y rfl (okWide_bool_mk V _)
 ·intro b off hp;have U:MemPlace.cell b off∈p++[]:=by simpa using hp
  rw[hb.frozen (O _ U)];exact ae b off U
 ·intro ha;simp at ha
 ·intro x F _;simpa using F
end
end Go.Proofs.YtpagaknmdfgfkaaGreatDoor
end
section
namespace Go.Proofs.YtpagaknmdfgfkaaGreatDoor
def cK(n N:Int):Bool:=decide (n<0)||decide (n>=N)
end Go.Proofs.YtpagaknmdfgfkaaGreatDoor
namespace Go.Proofs.YtpagaknmdfgfkaaGreatDoor.Mv
open Go.Aw Go.Aw.D Go.Proofs Ty
def bO{H:aH}{k:IntKind}{a b:Int}(h:a=b):Conv H (.v (.int k a)) (.v (.int k b)):=h▸.refl _
def bR{H:aH}{a b:Bool}(h:a=b):Conv H (.v (.bool a)) (.v (.bool b)):=h▸.refl _
abbrev wC(l:List Int):Row:=⟨3,1,l.map bC⟩
def aiT{n:Int}(h:0<=n/\n<18446744073709551616):IntKind.u64.wrap n=n:=by have e:IntKind.u64.wrap n=n%18446744073709551616:=rfl;rw[e];omega
def sT{α:Type}{p q:α->Bool}{l:List α}(h:∀x∈l,p x=q x):l.any p=l.any q:=by rw[Xap,Xao,Xao];exact⟨fun⟨x,E,F⟩=>⟨x,E,(h x E)▸F⟩,fun⟨x,E,F⟩=>⟨x,E,(h x E).symm▸F⟩⟩
def aO{α:Type}{p:α->Prop}{l:List α}{k:Nat}{x:α}(I:l[k]?=some x)(F:p x)(h:∀x∈l.take k,p x):∀x∈l.take (k+1),p x:=by
 rw[bA I];intro y E;rcases Xba.1 E with E|E
 ·exact h y E
 ·simp at E;subst E;exact F
end Go.Proofs.YtpagaknmdfgfkaaGreatDoor.Mv
end
