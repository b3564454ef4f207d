import Derived.Test.YtohmomanmikphaaGreatDoorPl06
set_option linter.unusedSimpArgs false
set_option linter.unusedVariables false
set_option maxRecDepth 100000
section
namespace Go.Proofs.YtohmomanmikphaaGreatDoor
open Go.Proofs.Tryz(prog)
open Go.Aw Go.Aw.D Go.Proofs Ty
def inR(n lo hi:Int):Bool:=decide (n>=lo)&&decide (n<=hi)
theorem nT(n lo u:Int):PC prog 86 [int n,int lo,int u] (boo (inR n lo u)):=by
 refine pcd Tryz.func86 ?_;unfold Tryz.f86;simp only[gdS];simp only[go_sem];exact .refl _
theorem Gn(n lo u:Int):PC prog 148 [int n,int lo,int u] (boo (inR n lo u)):=by
 refine pcd Tryz.func148 ?_;unfold Tryz.f148;simp only[gdS];simp only[go_sem];exact .refl _
theorem V7(n:Int):PC prog 144 [int n] (boo (inR n 0 4096)):=by
 refine pcd Tryz.func144 ?_;unfold Tryz.f144;simp only[gdS];simp only[go_sem];exact .refl _
def CD(c:Int):Bool:=decide (c>=48)&&decide (c<=57)
theorem Ev(c:Int):PC prog 209 [.v (.int .u8 c)] (boo (CD c)):=by
 refine pcd Tryz.func209 ?_;unfold Tryz.f209;simp only[gdS];simp only[go_sem];exact .refl _
def Cd(c:Int):Bool:=decide (c>=97)&&decide (c<=122)||decide (c>=65)&&decide (c<=90)||c == 95
theorem A0(c:Int):PC prog 210 [.v (.int .u8 c)] (boo (Cd c)):=by
 refine pcd Tryz.func210 ?_;unfold Tryz.f210;simp only[gdS];simp only[go_sem];exact .refl _
def kH(s:Stop):Bool:=s.place == -1&&s.start == 0&&s.close == 0&&s.service == 0
def RL(s:Stop):Bool:=decide (s.place<0)||decide (s.start<0)||decide (s.start>s.close)||decide (s.close>4096)||decide (s.service<0)||decide (s.service>4096)
def fT(s:Stop):Int:=if kH s then 0 else if RL s then 2 else 0
theorem LO(s:Stop):PC prog 149 [.agg (eI s)] (int (fT s)):=by
 refine pcd Tryz.func149 ?_;unfold Tryz.f149;simp only[gdS];simp only[go_sem];refine aA (fun h=>?_) (fun h=>?_)
 . simp only[go_sem]
   have:fT s=0:=if_pos h;rw[this];exact .refl _
 . simp only[go_sem]
   refine aA (fun u=>?_) (fun u=>?_)
   . simp only[go_sem]
     have:fT s=2:=by unfold fT;rw[if_neg (by simp[kH,h])];exact if_pos u
     rw[this];exact .refl _
   . simp only[go_sem]
     have:fT s=0:=by unfold fT;rw[if_neg (by simp[kH,h]),if_neg (by simp only[RL,u];simp)]
     rw[this];exact .refl _
def EI(n:Int):ByteArray:=strOfNums [IntKind.u8.wrap (IntKind.i64.wrap (48+n))]
def jB(n:Nat):ByteArray:=if n<10 then EI n else jB (n/10)++EI (n%10:Nat)
theorem C4(x:Int):(strOfNums [x]).size=1:=by simp[strOfNums];rfl
theorem DA(n:Int):(EI n).size=1:=C4 _
theorem zC{n:Nat}(h:10<=n):jB n=jB (n/10)++EI (n%10:Nat):=by rw[jB,if_neg (by omega)]
theorem uJ{n:Nat}(h:n<10):jB n=EI n:=by rw[jB,if_pos h]
theorem mV(n:Nat):(jB n).size<=n+1:=by
 induction n using Nat.strongRecOn with
 | ind n ih=>
   rcases Xar n 10 with h|h
   . rw[uJ h,DA];omega
   . rw[zC h,ByteArray.size_append,DA]
     have:=ih (n/10) (by omega);omega
theorem Ph(m:Nat):(m:Int).tmod 10=((m%10:Nat):Int):=by rw[Xcp (by omega)];rfl
theorem Qp(m:Nat):(m:Int).tdiv 10=((m/10:Nat):Int):=by rw[Xcn (by omega)];rfl
theorem F6{k:Nat}(h:k<=4611686018427387904):IntKind.i64.wrap (k:Int)=(k:Int):=aR (by omega)
theorem uY:IntKind.i64.max=9223372036854775807:=by decide
theorem aeO(n:Nat)(M:n<=4611686018427387904):PC prog 150 [int n] (str (jB n)):=by
 refine pcd Tryz.func150 ?_;unfold Tryz.f150;simp only[gdS];simp only[go_sem];refine⟨fun ρ _=>∃(m:Nat) (s:ByteArray),ρ 0=int m/\ρ 3=str s/\jB n=jB m++s/\s.size+m<=n,
   fun ρ _=>aT (ρ 0),⟨n,ByteArray.empty,rfl,rfl,by simp,by simp⟩,?_⟩
 rintro ρ H ⟨k,s,h0,F,I,J⟩;simp only[go_sem,h0,F];refine aA (fun u=>?_) (fun E=>?_)
 . have u : 10 <= k := by
     have:(10:Int)<=k:=by simpa using u
     omega
   simp only[go_sem,h0,F,Qp,Ph,F6 (show k/10<=4611686018427387904 by omega),aE];refine⟨by omega,?_,by omega,⟨k/10,_,rfl,rfl,?_,?_⟩,by omega⟩
   . rw[C4,uY];omega
   . rw[I,zC u,ByteArray.append_assoc];rfl
   . rw[ByteArray.size_append,C4];omega
 . have E : k < 10 := by
     have:¬(10:Int)<=k:=by simpa using E
     omega
   simp only[go_sem,h0,F];refine⟨by rw[C4,uY];omega,?_⟩;rw[I,uJ E];exact .refl _
def VS:AV->Nat
 | .v (.bool true)=>1
 | _=>0
theorem qQ(n:Nat)(hn:n<=4611686018427387904):PC prog 88 [int n] (str (jB n)):=by
 refine pcd Tryz.func88 ?_;unfold Tryz.f88;simp only[gdS];simp only[go_sem];refine⟨fun ρ _=>∃(b:Bool) (m:Nat) (s:ByteArray),ρ 0=int n/\ρ 5=boo b/\ρ 4=int m/\ρ 3=str s/\(b=true->jB n=jB m++s/\s.size+m<=n)/\(b=false->jB n=s),
   fun ρ _=>aT (ρ 4)+VS (ρ 5),⟨true,n,ByteArray.empty,rfl,rfl,rfl,rfl,fun _=>by simp,by simp⟩,?_⟩
 rintro ρ H ⟨b,k,s,h0,E,F,J,O,T⟩;simp only[go_sem,h0,J,F,E];refine aA (fun u=>?_) (fun u=>?_)
 . subst u
   obtain⟨M,Z⟩:=O rfl;simp only[go_sem,h0,J,F,E,Qp,Ph];refine⟨by omega,?_⟩;refine aA (fun u=>?_) (fun u=>?_)
   . exfalso;simp at u;omega
   . simp only[go_sem,h0,J,F,E,Qp,Ph,F6 (show k/10<=4611686018427387904 by omega),aE]
     refine⟨by rw[C4,uY];omega,by omega,⟨_,k/10,_,rfl,rfl,rfl,?_,?_⟩,?_⟩
     . intro u
       have:10<=k:=by simp at u;omega
       refine⟨?_,?_⟩
       . rw[M,zC this,ByteArray.append_assoc];rfl
       . rw[ByteArray.size_append,C4];omega
     . intro u
       have I:k<10:=by simp at u;omega
       rw[M,uJ I,Xba I];rfl
     . rcases Xar k 10 with h|h
       . have:k/10=0:=by omega
         simp[this,VS]
       . simp only[VS];split <;> omega
 . simp only[go_sem,h0,J,F,E]
   refine aA (fun u=>?_) (fun u=>?_)
   . exfalso;simp at u;omega
   . simp only[go_sem,h0,J,F,E]
     rw[T (by assumption)];exact .refl _
def eD(l:List Int)(d:Int):Bool:=if(l.length:Int)=d then l.all fun n=> !(decide (n<0)||decide (n>1000))else false
theorem Gg{α:Type}{p:α->Bool}{l:List α}(h:∀x∈l,p x=true):l.all p=true:=Xao.2 h
theorem EF{α:Type}{p:α->Bool}{l:List α}{x:α}(h:x∈l)(u:p x=false):l.all p=false:=by
 cases E:l.all p with
 | false=>rfl
 | true=>rw[Xao.1 E x h]at u;cases u
theorem iY{α:Type}{l:List α}{k:Nat}{x:α}(h:l[k]?=some x):x∈l:=Xae h
theorem qX{α:Type}{q:α->Prop}{l:List α}{k:Nat}{x:α}(E:l[k]?=some x)(h:∀y∈l.take k,q y)(F:q x):∀y∈l.take (k+1),q y:=by
 rw[bP E];intro y u;rcases Xbe.1 u with u|u
 . exact h y u
 . simp at u;subst u;exact F
theorem bD{k n:Nat}(h:decide ((k:Int)<(n:Int))=true):k<n:=by simpa using h
theorem bF{k n:Nat}(u:k<=n)(h:decide ((k:Int)<(n:Int))=false):k=n:=by
 have:¬k<n:=by simpa using h
 omega
theorem JH(l:List Int)(d:Int)(hl:l.length<=1048576):PC prog 147 [.sl (l.map bJ),int d] (boo (eD l d)):=by
 refine pcd Tryz.func147 ?_;unfold Tryz.f147;simp only[gdS];simp only[go_sem];refine aA (fun F=>?_) (fun F=>?_)
 . simp only[go_sem]
   have:eD l d=false:=by unfold eD;rw[if_neg (by simpa using F)]
   rw[this];exact .refl _
 . have F:(l.length:Int)=d:=by simpa using F
   simp only[go_sem];refine⟨fun ρ _=>∃k:Nat,k<=l.length/\ρ 0=.sl (l.map bJ)/\ρ 5=int k/\∀n∈l.take k,(decide (n<0)||decide (n>1000))=false,fun ρ _=>l.length-aT (ρ 5),⟨0,Xab _,rfl,rfl,by simp⟩,?_⟩;rintro ρ H ⟨k,T,h0,I,O⟩;simp only[go_sem,h0,I];refine aA (fun u=>?_) (fun E=>?_)
   . have u:=bD u
     obtain⟨r,J⟩:=aN u;have Z:=inB u;simp only[go_sem,h0,I,Z,aF J];refine aA (fun M=>?_) (fun M=>?_)
     . simp only[go_sem]
       have:eD l d=false:=by unfold eD;rw[if_pos F];exact EF (iY J) (by simp only[M];rfl)
       rw[this];exact .refl _
     . simp only[go_sem,h0,I,aP (show k<=4611686018427387904 by omega)]
       exact⟨⟨k+1,u,rfl,qX J O M⟩,by simp only[aE];omega⟩
   . have E:=bF T E
     subst E;simp only[go_sem];have:eD l d=true:=by unfold eD;rw[if_pos F];exact Gg fun n h=>by rw[O n (by simpa using h)];rfl
     rw[this];exact .refl _
def xL(l:List Int)(d:Int):Bool:=if(!inR l.length 1 3||(l.length:Int) != d)=true then false else l.all fun n=>inR n 0 1000
theorem amZ(l:List Int)(d:Int)(hl:l.length<=1048576):PC prog 146 [.sl (l.map bJ),int d] (boo (xL l d)):=by
 refine pcd Tryz.func146 ?_;unfold Tryz.f146;simp only[gdS];simp only[go_sem];refine PC.use (nT _ _ _) ?_;simp only[go_sem];refine aA (fun F=>?_) (fun F=>?_)
 . simp only[go_sem]
   have:xL l d=false:=by unfold xL;rw[if_pos F]
   rw[this];exact .refl _
 . simp only[go_sem]
   refine⟨fun ρ _=>∃k:Nat,k<=l.length/\ρ 0=.sl (l.map bJ)/\ρ 5=int k/\∀n∈l.take k,inR n 0 1000=true,fun ρ _=>l.length-aT (ρ 5),⟨0,Xab _,rfl,rfl,by simp⟩,?_⟩;rintro ρ H ⟨k,T,h0,I,O⟩;simp only[go_sem,h0,I];refine aA (fun u=>?_) (fun E=>?_)
   . have u:=bD u
     obtain⟨r,J⟩:=aN u;have Z:=inB u;simp only[go_sem,h0,I,Z,aF J];refine PC.use (nT _ _ _) ?_;simp only[go_sem];refine aA (fun M=>?_) (fun M=>?_)
     . simp only[go_sem]
       have:xL l d=false:=by unfold xL;rw[if_neg (by rw[F];simp)];exact EF (iY J) (by simpa using M)
       rw[this];exact .refl _
     . simp only[go_sem,h0,I,aP (show k<=4611686018427387904 by omega)]
       exact⟨⟨k+1,u,rfl,qX J O (by simpa using M)⟩,by simp only[aE];omega⟩
   . have E:=bF T E
     subst E;simp only[go_sem];have:xL l d=true:=by unfold xL;rw[if_neg (by rw[F];simp)];exact Gg fun n h=>O n (by simpa using h)
     rw[this];exact .refl _
def tL(s:ByteArray)(i:Nat):Int:=((s.data.getD i 0).toNat:Int)
def kT(s:ByteArray):Bool:=if(decide ((s.size:Int)<1)||decide ((s.size:Int)>16)||CD (tL s 0))=true then false else(List.range s.size).all fun i=>Cd (tL s i)||CD (tL s i)
theorem pA{n k:Nat}(h:k<n):(List.range n)[k]?=some k:=by simp[h]
theorem PK(s:ByteArray)(Z:s.size<=1048576):PC prog 142 [str s] (boo (kT s)):=by
 refine pcd Tryz.func142 ?_;unfold Tryz.f142;simp only[gdS];simp only[go_sem];refine⟨fun h=>⟨by omega,by simp at h;omega⟩,_,fun _=>(Ev _).q rfl,?_⟩;simp only[go_sem];refine aA (fun I=>?_) (fun I=>?_)
 . simp only[go_sem]
   have:kT s=false:=by unfold kT;rw[if_pos (by exact I)]
   rw[this];exact .refl _
 . simp only[go_sem]
   refine⟨fun ρ _=>∃k:Nat,k<=s.size/\ρ 0=str s/\ρ 3=int k/\∀i∈(List.range s.size).take k,(Cd (tL s i)||CD (tL s i))=true,fun ρ _=>s.size-aT (ρ 3),⟨0,Xab _,rfl,rfl,by simp⟩,?_⟩;rintro ρ H ⟨k,T,h0,F,O⟩;simp only[go_sem,h0,F];refine aA (fun u=>?_) (fun E=>?_)
   . have u:=bD u
     have M:=inB u;simp only[go_sem,h0,F,M];refine PC.use (A0 _) ?_;simp only[go_sem,h0,F,M];refine⟨_,fun _=>(Ev _).q rfl,?_⟩;simp only[go_sem];refine aA (fun J=>?_) (fun J=>?_)
     . simp only[go_sem]
       have:kT s=false:=by unfold kT;rw[if_neg (by intro h;exact absurd (h.symm.trans I) (by simp))];exact EF (iY (pA u)) (by simpa[tL]using J)
       rw[this];exact .refl _
     . simp only[go_sem,h0,F,aP (show k<=4611686018427387904 by omega)]
       exact⟨⟨k+1,u,rfl,qX (pA u) O (by
         have:(!Cd (tL s k)&& !CD (tL s k))=false:=J
         revert this;cases Cd (tL s k) <;> cases CD (tL s k) <;> simp)⟩,by simp only[aE];omega⟩
   . have E:=bF T E
     subst E;simp only[go_sem];have:kT s=true:=by unfold kT;rw[if_neg (by intro h;exact absurd (h.symm.trans I) (by simp))];exact Gg fun n h=>O n (by rw[Xan (by simp)];exact h)
     rw[this];exact .refl _
def jI(l:List VType):Int:=match l with|[]=>0|t::_=>t.cap.length
theorem JS(l:List VType):PC prog 53 [.sl (l.map bC)] (int (jI l)):=by
 refine pcd Tryz.func53 ?_;unfold Tryz.f53;simp only[gdS];simp only[go_sem];cases l with
 | nil=>
   simp only[go_sem];refine aA (fun u=>?_) (fun u=>?_)
   . simp only[go_sem];exact .refl _
   . simp at u
 | cons t l=>
   refine aA (fun u=>?_) (fun u=>?_)
   . simp at u;omega
   . simp only[go_sem]
     exact⟨⟨by omega,by omega⟩,.refl _⟩
def eL(l:List VType)(k:Nat)(s:ByteArray):Bool:=(l.take k).any fun t=>t.name.toList == s.toList
theorem Kd(l:List VType)(m:Nat)(s:ByteArray)(hm:m<=l.length)(hl:l.length<=1048576):PC prog 145 [.sl (l.map bC),int m,str s] (boo (eL l m s)):=by
 refine pcd Tryz.func145 ?_;unfold Tryz.f145;simp only[gdS];simp only[go_sem];refine⟨fun ρ _=>∃k:Nat,k<=m/\ρ 0=.sl (l.map bC)/\ρ 1=int m/\ρ 2=str s/\ρ 7=int k/\∀t∈l.take k,(t.name.toList == s.toList)=false,fun ρ _=>m-aT (ρ 7),⟨0,Xab _,rfl,rfl,rfl,rfl,by simp⟩,?_⟩;rintro ρ H ⟨k,Z,h0,h1,F,J,O⟩;simp only[go_sem,h0,h1,F,J];refine aA (fun u=>?_) (fun E=>?_)
 . have u:=bD u
   obtain⟨r,I⟩:=aN (show k<l.length by omega);have b1:=inB (show k<l.length by omega);simp only[go_sem,h0,h1,F,J,b1,aF I];refine aA (fun M=>?_) (fun M=>?_)
   . simp only[go_sem]
     have:eL l m s=true:=by
       refine Xbk.2 ⟨r,?_,M⟩;exact Xae (i:=k) (by rw[List.getElem?_take];simp[u,I])
     rw[this];exact .refl _
   . simp only[go_sem,h0,h1,F,J,aP (show k<=4611686018427387904 by omega)]
     exact⟨⟨k+1,u,rfl,qX I O M⟩,by simp only[aE];omega⟩
 . have E:=bF Z E
   subst E;simp only[go_sem];have:eL l k s=false:=List.any_eq_false.2 fun t T=>by simp[O t T]
   rw[this];exact .refl _
def pH(p:Point):Bool:=decide (p.t<0)||decide (p.t>4096)||decide (p.a<p.t)||decide (p.a>IntKind.i64.wrap (p.t+4096))
def JI(p q:Point):Bool:=decide (p.t<=q.t)||decide (p.a<q.a)
def dX(l:List Point)(i:Nat):Point:=l.getD i ⟨0,0⟩
def F8(n lo hi:Int):Bool:=decide (n<lo)||decide (n>hi)
def gP(l:List Point)(i:Nat):List Fault:=
 opt (pH (dX l i)) ⟨2,jB i⟩++opt (decide ((i:Int)>0)&&JI (dX l i) (dX l (i-1))) ⟨13,jB i⟩
def jR(l:List Point):List Fault:=opt (F8 l.length 1 16) ⟨4,ByteArray.empty⟩++(List.range l.length).flatMap (gP l)
theorem Y3(l:List Point)(i:Nat):(gP l i).length<=2:=by
 unfold gP;rw[Xac];have:=cE (pH (dX l i)) (⟨2,jB i⟩:Fault);have:=cE (decide ((i:Int)>0)&&JI (dX l i) (dX l (i-1))) (⟨13,jB i⟩:Fault);omega
theorem eT{α u:Type}{f:α->List u}{c:Nat}(h:∀x,(f x).length<=c):∀l:List α,(l.flatMap f).length<=c*l.length
 | []=>by simp
 | x::r=>by
   have h1:=h x;have E:=eT h r;simp only[List.flatMap_cons,Xac,Xad,Nat.mul_add,Nat.mul_one];omega
theorem hJ{u:Type}(f:Nat->List u)(k:Nat):(List.range (k+1)).flatMap f=(List.range k).flatMap f++f k:=by rw[Xbr,List.flatMap_append];simp
theorem eG{l:List Point}{k:Nat}{p:Point}(h:l[k]?=some p):dX l k=p:=by simp[dX,List.getD,h]
theorem WM(l:List Point)(hl:l.length<=1048576):NC prog 143 [.sl (l.map cA)] (bO (jR l)) .os:=by
 refine ncb (fun t=>t == 3) Tryz.func143 ?_;unfold Tryz.f143;simp only[gdS];simp only[go_sem];refine aK fun j hj=>?_
 simp only[go_sem];refine bH (fun ρ H=>∃j,ρ 0=.sl (l.map cA)/\ρ 3=.os j/\H j=some (bO (opt (F8 l.length 1 16) ⟨4,ByteArray.empty⟩))) ?_ fun K hK=>aA (fun M=>?_) (fun M=>?_)
 . rintro ρ H ⟨j,h0,u,I⟩
   simp only[go_sem,h0,u];generalize aa:opt (F8 l.length 1 16) (⟨4,ByteArray.empty⟩:Fault)=pre at I;have ak:pre.length<=1:=by rw[<-aa];exact cE _ _
   refine⟨fun ρ H=>∃k:Nat,k<=l.length/\ρ 0=.sl (l.map cA)/\ρ 4=int k/\∃j,ρ 3=.os j/\H j=some (bO (pre++(List.range k).flatMap (gP l))),fun ρ _=>l.length-aT (ρ 4),⟨0,Xab _,by simp only[go_sem,h0],by simp only[go_sem];rfl,j,by simp only[go_sem,u],by simpa using I⟩,?_⟩;rintro ρ H ⟨k,hk,h0,E,j,u,I⟩;generalize ac:pre++(List.range k).flatMap (gP l)=es at I;have ai:es.length<=2*k+1:=by
     have:=eT (Y3 l) (List.range k);rw[<-ac,Xac];rw[Xau]at this;omega
   simp only[go_sem,h0,u,E];refine aA (fun O=>?_) (fun ab=>?_)
   . have O:=bD O
     obtain⟨p,hp⟩:=aN O;have b1:=inB O;simp only[go_sem,h0,u,E,b1,aF hp];refine aK fun i hi=>?_
     simp only[go_sem];refine aJ (r:=⟨104,2,[[int 0,int 0]]⟩) (by rw[aB]) (by simp[gH]) ?_;simp only[go_sem];have J:j≠i:=aQ I hi;have ad:aI (aI H i (some ⟨104,2,[[int 0,int 0]]⟩)) i (some ⟨104,2,[cA p]⟩) j=some (bO es):=by rw[aD _ _ _ _ J,aD _ _ _ _ J,I]
     refine bH (fun F H'=>∃T,F 0=.sl (l.map cA)/\F 4=int k/\F 3=.os T/\F 5=.op i 0 0/\H' i=some ⟨104,2,[cA p]⟩/\T≠i /\
       H' T=some (bO (es++opt (pH p) ⟨2,jB k⟩))) ?_ fun K hK=>aA (fun M=>?_) (fun M=>?_)
     . rintro ρ H ⟨j,h0,E,u,h5,hi,J,I⟩
       generalize af:es++opt (pH p) ⟨2,jB k⟩=fs at I;have aj:fs.length<=2*k+2:=by
         have:=cE (pH p) (⟨2,jB k⟩:Fault);rw[<-af,Xac];omega
       simp only[go_sem];refine dJ (by rfl) (by kernel_rfl) ?_;simp only[go_sem,h0,u,E,h5,hi];obtain⟨q,hq⟩:=aN (show k-1<l.length by omega);simp only[go_sem,h0,u,E,h5,hi,Y9 (show k<=4611686018427387904 by omega),aF hq];have ae:k<=4611686018427387904:=by omega
       have hg:decide ((k:Int)>0)=true->0<=IntKind.i64.wrap ((k:Int)-1)/\IntKind.i64.wrap ((k:Int)-1)<(l.length:Int):=fun h=>by
         have:(k:Int)>0:=by simpa using h
         rw[nX ae];omega
       have ah:pre++(List.range (k+1)).flatMap (gP l)=fs++opt (decide ((k:Int)>0)&&JI p q) ⟨13,jB k⟩:=by
         rw[hJ,<-Xai,ac,<-af,gP,eG hp,eG hq,Xai]
       refine⟨hg,fun h=>hg h.1,lC (fun F H'=>F 0=.sl (l.map cA)/\F 4=int k/\∃j,F 3=.os j/\H' j=some (bO (pre++(List.range (k+1)).flatMap (gP l)))) ?_ fun K hK _ _=>aA (fun M=>?_) (fun M=>?_)⟩
       . rintro ρ H ⟨h0,E,j,u,I⟩
         simp only[go_sem,h0,u,E,aP ae];exact⟨⟨k+1,O,rfl,j,rfl,I⟩,by simp only[aE];omega⟩
       . simp only[go_sem,h0,u,E]
         refine PC.use (qQ _ (by omega)) ?_;simp only[go_sem,h0,u,E];refine aX I ⟨rfl,rfl⟩ (by simp only[go_sem]) (by simp only[Xaa,Xad,List.length_nil];omega) (fun T Z=>?_);simp only[go_sem,h0,u,E];refine hK _ _ ⟨by simp only[go_sem,h0],by simp only[go_sem,E],T,by simp only[go_sem],?_⟩;rw[ah,iF (by exact M)];exact eR (l':=[⟨13,jB k⟩]) rfl
       . simp only[go_sem]
         refine hK _ _ ⟨by simp only[go_sem,h0],by simp only[go_sem,E],j,by simp only[go_sem,u],?_⟩;rw[ah,iE (by exact M),Xah,I]
     . simp only[go_sem,h0,u,E]
       refine PC.use (qQ _ (by omega)) ?_;simp only[go_sem,h0,u,E];refine aX ad ⟨rfl,rfl⟩ (by simp only[go_sem]) (by simp only[Xaa,Xad,List.length_nil];omega) (fun T Z=>?_);simp only[go_sem,h0,u,E];have ag:=aB (aI H i (some ⟨104,2,[[int 0,int 0]]⟩)) i (some ⟨104,2,[cA p]⟩);refine hK _ _ ⟨T,by simp only[go_sem,h0],by simp only[go_sem,E],by simp only[go_sem],by simp only[go_sem],dH ag J Z,(aQ ag Z).symm,?_⟩;rw[iF (show pH p=true from M)];exact eR (l':=[⟨2,jB k⟩]) rfl
     . simp only[go_sem]
       refine hK _ _ ⟨j,by simp only[go_sem,h0],by simp only[go_sem,E],by simp only[go_sem,u],by simp only[go_sem],by rw[aB],J,?_⟩;rw[ad,iE (show pH p=false from M),Xah]
   . have ab:=bF hk ab
     subst ab;simp only[go_sem,u];exact⟨_,rfl,by rw[I,<-ac,<-aa];rfl⟩
 . simp only[go_sem]
   refine aX (r:=bO []) (by simp only[go_sem];rfl) ⟨rfl,rfl⟩ (by simp only[go_sem]) (by simp) (fun T Z=>?_);simp only[go_sem];refine hK _ _ ⟨T,rfl,rfl,?_⟩;rw[iF (by exact M)];exact eR (l:=[]) (l':=[⟨4,ByteArray.empty⟩]) rfl
 . simp only[go_sem]
   refine hK _ _ ⟨j,rfl,rfl,?_⟩;rw[iE (by exact M),aB];rfl
def HY(l:List ByteArray)(i:Nat):ByteArray:=l.getD i ByteArray.empty
theorem Cl{l:List ByteArray}{k:Nat}{p:ByteArray}(h:l[k]?=some p):HY l k=p:=by simp[HY,List.getD,h]
def rU(i:Nat):ByteArray:=⟨#[112,108,97,99,101,32]⟩++jB i
def rA(l:List ByteArray)(i:Nat):Bool:=(l.take i).any fun s=>s.toList == (HY l i).toList
def fP(l:List ByteArray)(i:Nat):List Fault:=match kT (HY l i)with
 | false=>[⟨5,rU i⟩]
 | true=>opt (rA l i) ⟨6,rU i⟩
theorem S4(l:List ByteArray)(i:Nat):(fP l i).length<=1:=by
 unfold fP;split
 . simp
 . exact cE _ _
def wL(l:List ByteArray):List Fault:=opt (decide ((l.length:Int)>24)) ⟨4,⟨#[112,108,97,99,101,115]⟩⟩++(List.range l.length).flatMap (fP l)
theorem F9{α:Type}{p:α->Bool}{l:List α}{k:Nat}{x:α}(h:l[k]?=some x):(l.take (k+1)).any p=((l.take k).any p||p x):=by rw[bP h,List.any_append];simp
theorem Mf(i:Nat):(rU i).size<=i+7:=by
 have:=mV i;unfold rU;rw[ByteArray.size_append];have:(⟨#[112,108,97,99,101,32]⟩:ByteArray).size=6:=rfl;omega
theorem XF(n:Network)(hl:n.places.length<=1048576)(hs:∀s∈n.places,s.size<=1048576):NC prog 84 [.agg (aY n)] (bO (wL n.places)) .os:=by
 refine ncb (fun t=>t == 3) Tryz.func84 ?_;unfold Tryz.f84;simp only[gdS];simp only[go_sem];refine aK fun j hj=>?_
 simp only[go_sem];refine bH (fun ρ H=>∃j,ρ 1=.rp (aY n) 0/\ρ 3=.os j/\H j=some (bO (opt (decide ((n.places.length:Int)>24)) ⟨4,⟨#[112,108,97,99,101,115]⟩⟩))) ?_ fun K hK=>aA (fun J=>?_) (fun J=>?_)
 . rintro ρ H ⟨j,h1,u,O⟩
   simp only[go_sem,h1,u];generalize T:opt (decide ((n.places.length:Int)>24)) (⟨4,⟨#[112,108,97,99,101,115]⟩⟩:Fault)=pre at O;have ai:pre.length<=1:=by rw[<-T];exact cE _ _
   refine⟨fun ρ H=>∃k:Nat,k<=n.places.length/\ρ 1=.rp (aY n) 0/\ρ 4=int k/\∃j,ρ 3=.os j/\H j=some (bO (pre++(List.range k).flatMap (fP n.places))),fun ρ _=>n.places.length-aT (ρ 4),⟨0,Xab _,by simp only[go_sem,h1],by simp only[go_sem];rfl,j,by simp only[go_sem,u],by simpa using O⟩,?_⟩;rintro ρ H ⟨k,hk,h1,E,j,u,O⟩;generalize ab:pre++(List.range k).flatMap (fP n.places)=es at O;have ag:es.length<=k+1:=by
     have:=eT (S4 n.places) (List.range k);rw[<-ab,Xac];rw[Xau]at this;omega
   simp only[go_sem,h1,u,E];refine aA (fun F=>?_) (fun ac=>?_)
   . have F:=bD F
     obtain⟨p,hp⟩:=aN F;have b1:=inB F;have ad:k<=4611686018427387904:=by omega
     have ah:=mV k;have Z:pre++(List.range (k+1)).flatMap (fP n.places)=es++fP n.places k:=by rw[hJ,<-Xai,ab]
     simp only[go_sem,h1,u,E];refine PC.use (qQ _ (by omega)) ?_;simp only[go_sem,h1,u,E,b1,aF hp];refine⟨by rw[uY];show((6+(jB k).size:Nat):Int)<=_;omega,?_⟩;refine PC.use (PK p (hs p (iY hp))) ?_;simp only[go_sem,h1,u,E];refine aA (fun J=>?_) (fun J=>?_)
     . simp only[go_sem,h1,u,E]
       refine aX O ⟨rfl,rfl⟩ (by simp only[go_sem]) (by simp only[Xaa,Xad,List.length_nil];omega) (fun j' af=>?_);simp only[go_sem,h1,u,E,aP ad];refine⟨⟨k+1,F,rfl,j',rfl,?_⟩,by simp only[aE];omega⟩;have hn:kT (HY n.places k)=false:=by rw[Cl hp];simpa using J
       rw[Z,fP,hn];exact eR (l':=[⟨5,rU k⟩]) rfl
     . simp only[go_sem,h1,u,E]
       have hn:kT (HY n.places k)=true:=by rw[Cl hp];simpa using J
       refine⟨fun ρ H'=>∃m:Nat,m<=k/\ρ 1=.rp (aY n) 0/\ρ 3=.os j/\ρ 4=int k/\ρ 5=str (rU k)/\ρ 6=boo ((n.places.take m).any fun s=>s.toList == p.toList)/\ρ 7=int m/\H'=H,fun ρ _=>k-aT (ρ 7),⟨0,Xab _,by simp only[go_sem,h1],by simp only[go_sem,u],by simp only[go_sem,E],by simp only[go_sem];rfl,by simp only[go_sem];rfl,by simp only[go_sem];rfl,rfl⟩,?_⟩;rintro ρ H' ⟨m,hm,h1,u,E,h5,h6,h7,rfl⟩;simp only[go_sem,h1,u,E,h5,h6,h7];refine aA (fun I=>?_) (fun M=>?_)
       . have I:=bD I
         obtain⟨q,hq⟩:=aN (show m<n.places.length by omega);have b2:=inB (show m<n.places.length by omega);simp only[go_sem];refine dJ (by rfl) (by kernel_rfl) ?_;simp only[go_sem,h1,u,E,h5,h6,h7,b1,b2,aF hp,aF hq,aP (show m<=4611686018427387904 by omega)];refine⟨⟨m+1,I,?_,rfl⟩,by simp only[aE];omega⟩;rw[F9 hq]
       . have M:=bF hm M
         subst M;simp only[go_sem,h6];have ae:rA n.places m=(n.places.take m).any fun s=>s.toList == p.toList:=by unfold rA;rw[Cl hp]
         refine lC (fun aa H'=>aa 1=.rp (aY n) 0/\aa 4=int m/\∃j,aa 3=.os j/\H' j=some (bO (pre++(List.range (m+1)).flatMap (fP n.places)))) ?_ fun K hK _ _=>aA (fun J=>?_) (fun J=>?_)
         . rintro ρ H ⟨h1,E,j,u,O⟩
           simp only[go_sem,h1,u,E,aP ad];exact⟨⟨m+1,F,rfl,j,rfl,O⟩,by simp only[aE];omega⟩
         . simp only[go_sem,h1,u,E,h5]
           refine aX O ⟨rfl,rfl⟩ (by simp only[go_sem]) (by simp only[Xaa,Xad,List.length_nil];omega) (fun j' af=>?_);simp only[go_sem];refine hK _ _ ⟨by simp only[go_sem,h1],by simp only[go_sem,E],j',by simp only[go_sem],?_⟩;rw[Z,fP,hn];show _=some (bO (es++opt (rA n.places m) ⟨6,rU m⟩));rw[iF (ae.trans J)];exact eR (l':=[⟨6,rU m⟩]) rfl
         . simp only[go_sem]
           refine hK _ _ ⟨by simp only[go_sem,h1],by simp only[go_sem,E],j,by simp only[go_sem,u],?_⟩;rw[Z,fP,hn];show _=some (bO (es++opt (rA n.places m) ⟨6,rU m⟩));rw[iE (ae.trans J),Xah,O]
   . have ac:=bF hk ac
     subst ac;simp only[go_sem,u];exact⟨_,rfl,by rw[O,<-ab,<-T];rfl⟩
 . simp only[go_sem]
   refine aX (r:=bO []) (by simp only[go_sem];rfl) ⟨rfl,rfl⟩ (by simp only[go_sem]) (by simp) (fun j' af=>?_);simp only[go_sem];refine hK _ _ ⟨j',rfl,rfl,?_⟩;rw[iF (by exact J)];exact eR (l:=[]) (l':=[⟨4,⟨#[112,108,97,99,101,115]⟩⟩]) rfl
 . simp only[go_sem]
   refine hK _ _ ⟨j,rfl,rfl,?_⟩;rw[iE (by exact J),aB];rfl
def Pi(l:List VType)(i:Nat):VType:=l.getD i ⟨ByteArray.empty,0,0,0,[],0,0,0,0,0,0,0,0,0⟩
theorem Lt{l:List VType}{k:Nat}{p:VType}(h:l[k]?=some p):Pi l k=p:=by simp[Pi,List.getD,h]
def mF(n:Network)(l:List VType)(k:Nat)(t:VType):List Int:=
 []++opt (!kT t.name) 5++opt (eL l k t.name) 6++opt (!inR t.count 0 10) 22++opt (!inR t.src 0 (n.places.length-1)|| !inR t.dst 0 (n.places.length-1)) 11
   ++ opt (!xL t.cap (jI l)) 17++opt (!inR t.skills 0 1073741823) 18++opt (!inR t.start 0 t.close||decide (t.close>4096)) 15
   ++ opt (!inR t.drive 1 4096|| !inR t.rest 0 4096) 16++opt (!inR t.profile 0 7|| !inR t.fixed 0 100000|| !inR t.perMile 0 100|| !inR t.perTick 0 100) 2
theorem Wd(n:Network)(l:List VType)(k:Nat)(hk:k<l.length)(hl:l.length<=1048576)(hs:∀t∈l,t.name.size<=1048576/\t.cap.length<=1048576)(hp:n.places.length<=1048576):
   PC prog 87 [.agg (aY n),.sl (l.map bC),int k] (.sl ((mF n l k (Pi l k)).map bJ)):=by
 refine pcb (fun t=>t == 8) Tryz.func87 ?_;unfold Tryz.f87;simp only[gdS];simp only[go_sem];obtain⟨t,ht⟩:=aN hk;have b1:=inB hk;have al:=hs t (iY ht);rw[Lt ht];simp only[go_sem,b1,aF ht];refine aK fun i J=>?_
 simp only[go_sem];refine aJ (aB _ _ _) (by simp[jZ]) ?_;simp only[go_sem];refine aK fun j hj=>?_
 have am:=jV (r':=(⟨45,1,[]⟩:Row)) (aB _ _ _) hj;simp only[go_sem,am];refine PC.use (PK _ al.1) ?_;simp only[go_sem];refine oN (fun u H'=>u 1=.sl (l.map bC)/\u 2=int k/\u 3=.rp (aY n) 0/\u 7=.op i 0 0/\H' i=some (kU t)/\∃O,u 8=.os O/\O≠i/\H' O=some (kD [])) ⟨by simp only[go_sem],by simp only[go_sem],by simp only[go_sem],by simp only[go_sem],jV (aB _ _ _) hj,_,by simp only[go_sem],(aQ (aB _ _ _) hj).symm,aB _ _ _⟩ ?_;rintro ρ H ⟨h1,F,E,I,J,j,M,T,hH⟩;generalize ag:([]:List Int)=es0 at hH;have aw:es0.length<=0:=by rw[<-ag];exact Xaf _
 refine bH (fun u H'=>u 1=.sl (l.map bC)/\u 2=int k/\u 3=.rp (aY n) 0/\u 7=.op i 0 0/\H' i=some (kU t)/\∃O,u 8=.os O/\O≠i/\H' O=some (kD (es0++opt (!kT t.name) 5))) ?_ fun K hK=>aA (fun hb=>?_) (fun hb=>?_)
 rotate_left
 . simp only[go_sem,h1,F,E,I,M]
   refine aX hH ⟨rfl,rfl⟩ (by simp only[go_sem]) (by simp only[Xaa,Xad,List.length_nil];omega) (fun O Z=>?_);simp only[go_sem];refine hK _ _ ⟨by simp only[go_sem,h1],by simp only[go_sem,F],by simp only[go_sem,E],by simp only[go_sem,I],dH J T Z,O,by simp only[go_sem],(aQ J Z).symm,?_⟩;rw[iF (show(!kT t.name)=true from hb)];exact fY (l':=[5]) rfl
 . simp only[go_sem]
   refine hK _ _ ⟨by simp only[go_sem,h1],by simp only[go_sem,F],by simp only[go_sem,E],by simp only[go_sem,I],J,j,by simp only[go_sem,M],T,?_⟩;rw[iE (show(!kT t.name)=false from hb),Xah,hH]
 clear hH h1 F E I M;rintro ρ H ⟨h1,F,E,I,J,j,M,T,hH⟩;generalize ae:es0++opt (!kT t.name) (5:Int)=es1 at hH;have an:es1.length<=es0.length+1:=by rw[<-ae,Xac];have:=cE (!kT t.name) (5:Int);omega
 simp only[go_sem,h1,F,E,I,M,J];refine PC.use (Kd l k t.name (by omega) hl) ?_;simp only[go_sem];refine bH (fun u H'=>u 1=.sl (l.map bC)/\u 2=int k/\u 3=.rp (aY n) 0/\u 7=.op i 0 0/\H' i=some (kU t)/\∃O,u 8=.os O/\O≠i/\H' O=some (kD (es1++opt (eL l k t.name) 6))) ?_ fun K hK=>aA (fun hb=>?_) (fun hb=>?_)
 rotate_left
 . simp only[go_sem,h1,F,E,I,M]
   refine aX hH ⟨rfl,rfl⟩ (by simp only[go_sem]) (by simp only[Xaa,Xad,List.length_nil];omega) (fun O Z=>?_);simp only[go_sem];refine hK _ _ ⟨by simp only[go_sem,h1],by simp only[go_sem,F],by simp only[go_sem,E],by simp only[go_sem,I],dH J T Z,O,by simp only[go_sem],(aQ J Z).symm,?_⟩;rw[iF (show(eL l k t.name)=true from hb)];exact fY (l':=[6]) rfl
 . simp only[go_sem]
   refine hK _ _ ⟨by simp only[go_sem,h1],by simp only[go_sem,F],by simp only[go_sem,E],by simp only[go_sem,I],J,j,by simp only[go_sem,M],T,?_⟩;rw[iE (show(eL l k t.name)=false from hb),Xah,hH]
 clear hH h1 F E I M;rintro ρ H ⟨h1,F,E,I,J,j,M,T,hH⟩;generalize aa:es1++opt (eL l k t.name) (6:Int)=es2 at hH;have aq:es2.length<=es1.length+1:=by rw[<-aa,Xac];have:=cE (eL l k t.name) (6:Int);omega
 simp only[go_sem,h1,F,E,I,M,J];refine PC.use (nT _ _ _) ?_;simp only[go_sem];refine bH (fun u H'=>u 1=.sl (l.map bC)/\u 2=int k/\u 3=.rp (aY n) 0/\u 7=.op i 0 0/\H' i=some (kU t)/\∃O,u 8=.os O/\O≠i/\H' O=some (kD (es2++opt (!inR t.count 0 10) 22))) ?_ fun K hK=>aA (fun hb=>?_) (fun hb=>?_)
 rotate_left
 . simp only[go_sem,h1,F,E,I,M]
   refine aX hH ⟨rfl,rfl⟩ (by simp only[go_sem]) (by simp only[Xaa,Xad,List.length_nil];omega) (fun O Z=>?_);simp only[go_sem];refine hK _ _ ⟨by simp only[go_sem,h1],by simp only[go_sem,F],by simp only[go_sem,E],by simp only[go_sem,I],dH J T Z,O,by simp only[go_sem],(aQ J Z).symm,?_⟩;rw[iF (show(!inR t.count 0 10)=true from hb)];exact fY (l':=[22]) rfl
 . simp only[go_sem]
   refine hK _ _ ⟨by simp only[go_sem,h1],by simp only[go_sem,F],by simp only[go_sem,E],by simp only[go_sem,I],J,j,by simp only[go_sem,M],T,?_⟩;rw[iE (show(!inR t.count 0 10)=false from hb),Xah,hH]
 clear hH h1 F E I M;rintro ρ H ⟨h1,F,E,I,J,j,M,T,hH⟩;generalize aj:es2++opt (!inR t.count 0 10) (22:Int)=es3 at hH;have ax:es3.length<=es2.length+1:=by rw[<-aj,Xac];have:=cE (!inR t.count 0 10) (22:Int);omega
 simp only[go_sem,h1,F,E,I,M,J,nX (show n.places.length<=4611686018427387904 by omega)];refine PC.use (nT _ _ _) ?_;simp only[go_sem,h1,F,E,I,M,J,nX (show n.places.length<=4611686018427387904 by omega)];refine⟨_,fun _=>(nT _ _ _).q rfl,?_⟩;simp only[go_sem,h1,F,E,I,M,J];refine bH (fun u H'=>u 1=.sl (l.map bC)/\u 2=int k/\u 3=.rp (aY n) 0/\u 7=.op i 0 0/\H' i=some (kU t)/\∃O,u 8=.os O/\O≠i/\H' O=some (kD (es3++opt (!inR t.src 0 (n.places.length-1)|| !inR t.dst 0 (n.places.length-1)) 11))) ?_ fun K hK=>aA (fun hb=>?_) (fun hb=>?_)
 rotate_left
 . simp only[go_sem,h1,F,E,I,M]
   refine aX hH ⟨rfl,rfl⟩ (by simp only[go_sem]) (by simp only[Xaa,Xad,List.length_nil];omega) (fun O Z=>?_);simp only[go_sem];refine hK _ _ ⟨by simp only[go_sem,h1],by simp only[go_sem,F],by simp only[go_sem,E],by simp only[go_sem,I],dH J T Z,O,by simp only[go_sem],(aQ J Z).symm,?_⟩;rw[iF (show(!inR t.src 0 (n.places.length-1)|| !inR t.dst 0 (n.places.length-1))=true from hb)];exact fY (l':=[11]) rfl
 . simp only[go_sem]
   refine hK _ _ ⟨by simp only[go_sem,h1],by simp only[go_sem,F],by simp only[go_sem,E],by simp only[go_sem,I],J,j,by simp only[go_sem,M],T,?_⟩;rw[iE (show(!inR t.src 0 (n.places.length-1)|| !inR t.dst 0 (n.places.length-1))=false from hb),Xah,hH]
 clear hH h1 F E I M;rintro ρ H ⟨h1,F,E,I,J,j,M,T,hH⟩;generalize ah:es3++opt (!inR t.src 0 (n.places.length-1)|| !inR t.dst 0 (n.places.length-1)) (11:Int)=es4 at hH;have ar:es4.length<=es3.length+1:=by rw[<-ah,Xac];have:=cE (!inR t.src 0 (n.places.length-1)|| !inR t.dst 0 (n.places.length-1)) (11:Int);omega
 simp only[go_sem,h1,F,E,I,M,J];refine dJ (by rfl) (by kernel_rfl) ?_;simp only[go_sem,h1,F,E,I,M,J];refine⟨_,(JS l).q rfl,?_⟩;simp only[go_sem,h1,F,E,I,M,J];refine⟨_,(amZ t.cap (jI l) al.2).q rfl,?_⟩;simp only[go_sem,h1,F,E,I,M,J];refine bH (fun u H'=>u 1=.sl (l.map bC)/\u 2=int k/\u 3=.rp (aY n) 0/\u 7=.op i 0 0/\H' i=some (kU t)/\∃O,u 8=.os O/\O≠i/\H' O=some (kD (es4++opt (!xL t.cap (jI l)) 17))) ?_ fun K hK=>aA (fun hb=>?_) (fun hb=>?_)
 rotate_left
 . simp only[go_sem,h1,F,E,I,M]
   refine aX hH ⟨rfl,rfl⟩ (by simp only[go_sem]) (by simp only[Xaa,Xad,List.length_nil];omega) (fun O Z=>?_);simp only[go_sem];refine hK _ _ ⟨by simp only[go_sem,h1],by simp only[go_sem,F],by simp only[go_sem,E],by simp only[go_sem,I],dH J T Z,O,by simp only[go_sem],(aQ J Z).symm,?_⟩;rw[iF (show(!xL t.cap (jI l))=true from hb)];exact fY (l':=[17]) rfl
 . simp only[go_sem]
   refine hK _ _ ⟨by simp only[go_sem,h1],by simp only[go_sem,F],by simp only[go_sem,E],by simp only[go_sem,I],J,j,by simp only[go_sem,M],T,?_⟩;rw[iE (show(!xL t.cap (jI l))=false from hb),Xah,hH]
 clear hH h1 F E I M;rintro ρ H ⟨h1,F,E,I,J,j,M,T,hH⟩;generalize ai:es4++opt (!xL t.cap (jI l)) (17:Int)=es5 at hH;have ap:es5.length<=es4.length+1:=by rw[<-ai,Xac];have:=cE (!xL t.cap (jI l)) (17:Int);omega
 simp only[go_sem,h1,F,E,I,M,J];refine PC.use (nT _ _ _) ?_;simp only[go_sem,h1,F,E,I,M,J];refine bH (fun u H'=>u 1=.sl (l.map bC)/\u 2=int k/\u 3=.rp (aY n) 0/\u 7=.op i 0 0/\H' i=some (kU t)/\∃O,u 8=.os O/\O≠i/\H' O=some (kD (es5++opt (!inR t.skills 0 1073741823) 18))) ?_ fun K hK=>aA (fun hb=>?_) (fun hb=>?_)
 rotate_left
 . simp only[go_sem,h1,F,E,I,M]
   refine aX hH ⟨rfl,rfl⟩ (by simp only[go_sem]) (by simp only[Xaa,Xad,List.length_nil];omega) (fun O Z=>?_);simp only[go_sem];refine hK _ _ ⟨by simp only[go_sem,h1],by simp only[go_sem,F],by simp only[go_sem,E],by simp only[go_sem,I],dH J T Z,O,by simp only[go_sem],(aQ J Z).symm,?_⟩;rw[iF (show(!inR t.skills 0 1073741823)=true from hb)];exact fY (l':=[18]) rfl
 . simp only[go_sem]
   refine hK _ _ ⟨by simp only[go_sem,h1],by simp only[go_sem,F],by simp only[go_sem,E],by simp only[go_sem,I],J,j,by simp only[go_sem,M],T,?_⟩;rw[iE (show(!inR t.skills 0 1073741823)=false from hb),Xah,hH]
 clear hH h1 F E I M;rintro ρ H ⟨h1,F,E,I,J,j,M,T,hH⟩;generalize af:es5++opt (!inR t.skills 0 1073741823) (18:Int)=es6 at hH;have ao:es6.length<=es5.length+1:=by rw[<-af,Xac];have:=cE (!inR t.skills 0 1073741823) (18:Int);omega
 simp only[go_sem,h1,F,E,I,M,J];refine PC.use (nT _ _ _) ?_;simp only[go_sem,h1,F,E,I,M,J];refine bH (fun u H'=>u 1=.sl (l.map bC)/\u 2=int k/\u 3=.rp (aY n) 0/\u 7=.op i 0 0/\H' i=some (kU t)/\∃O,u 8=.os O/\O≠i/\H' O=some (kD (es6++opt (!inR t.start 0 t.close||decide (t.close>4096)) 15))) ?_ fun K hK=>aA (fun hb=>?_) (fun hb=>?_)
 rotate_left
 . simp only[go_sem,h1,F,E,I,M]
   refine aX hH ⟨rfl,rfl⟩ (by simp only[go_sem]) (by simp only[Xaa,Xad,List.length_nil];omega) (fun O Z=>?_);simp only[go_sem];refine hK _ _ ⟨by simp only[go_sem,h1],by simp only[go_sem,F],by simp only[go_sem,E],by simp only[go_sem,I],dH J T Z,O,by simp only[go_sem],(aQ J Z).symm,?_⟩;rw[iF (show(!inR t.start 0 t.close||decide (t.close>4096))=true from hb)];exact fY (l':=[15]) rfl
 . simp only[go_sem]
   refine hK _ _ ⟨by simp only[go_sem,h1],by simp only[go_sem,F],by simp only[go_sem,E],by simp only[go_sem,I],J,j,by simp only[go_sem,M],T,?_⟩;rw[iE (show(!inR t.start 0 t.close||decide (t.close>4096))=false from hb),Xah,hH]
 clear hH h1 F E I M;rintro ρ H ⟨h1,F,E,I,J,j,M,T,hH⟩;generalize ab:es6++opt (!inR t.start 0 t.close||decide (t.close>4096)) (15:Int)=es7 at hH;have ay:es7.length<=es6.length+1:=by rw[<-ab,Xac];have:=cE (!inR t.start 0 t.close||decide (t.close>4096)) (15:Int);omega
 simp only[go_sem,h1,F,E,I,M,J];refine PC.use (nT _ _ _) ?_;simp only[go_sem,h1,F,E,I,M,J];refine⟨_,fun _=>(nT _ _ _).q rfl,?_⟩;simp only[go_sem,h1,F,E,I,M,J];refine bH (fun u H'=>u 1=.sl (l.map bC)/\u 2=int k/\u 3=.rp (aY n) 0/\u 7=.op i 0 0/\H' i=some (kU t)/\∃O,u 8=.os O/\O≠i/\H' O=some (kD (es7++opt (!inR t.drive 1 4096|| !inR t.rest 0 4096) 16))) ?_ fun K hK=>aA (fun hb=>?_) (fun hb=>?_)
 rotate_left
 . simp only[go_sem,h1,F,E,I,M]
   refine aX hH ⟨rfl,rfl⟩ (by simp only[go_sem]) (by simp only[Xaa,Xad,List.length_nil];omega) (fun O Z=>?_);simp only[go_sem];refine hK _ _ ⟨by simp only[go_sem,h1],by simp only[go_sem,F],by simp only[go_sem,E],by simp only[go_sem,I],dH J T Z,O,by simp only[go_sem],(aQ J Z).symm,?_⟩;rw[iF (show(!inR t.drive 1 4096|| !inR t.rest 0 4096)=true from hb)];exact fY (l':=[16]) rfl
 . simp only[go_sem]
   refine hK _ _ ⟨by simp only[go_sem,h1],by simp only[go_sem,F],by simp only[go_sem,E],by simp only[go_sem,I],J,j,by simp only[go_sem,M],T,?_⟩;rw[iE (show(!inR t.drive 1 4096|| !inR t.rest 0 4096)=false from hb),Xah,hH]
 clear hH h1 F E I M;rintro ρ H ⟨h1,F,E,I,J,j,M,T,hH⟩;generalize ad:es7++opt (!inR t.drive 1 4096|| !inR t.rest 0 4096) (16:Int)=es8 at hH;have av:es8.length<=es7.length+1:=by rw[<-ad,Xac];have:=cE (!inR t.drive 1 4096|| !inR t.rest 0 4096) (16:Int);omega
 simp only[go_sem,h1,F,E,I,M,J];refine PC.use (nT _ _ _) ?_;simp only[go_sem,h1,F,E,I,M,J];refine⟨_,fun _=>(nT _ _ _).q rfl,?_⟩;simp only[go_sem,h1,F,E,I,M,J];refine⟨_,fun _=>(nT _ _ _).q rfl,?_⟩;simp only[go_sem,h1,F,E,I,M,J];refine⟨_,fun _=>(nT _ _ _).q rfl,?_⟩;simp only[go_sem,h1,F,E,I,M,J];refine bH (fun u H'=>u 1=.sl (l.map bC)/\u 2=int k/\u 3=.rp (aY n) 0/\u 7=.op i 0 0/\H' i=some (kU t)/\∃O,u 8=.os O/\O≠i/\H' O=some (kD (es8++opt (!inR t.profile 0 7|| !inR t.fixed 0 100000|| !inR t.perMile 0 100|| !inR t.perTick 0 100) 2))) ?_ fun K hK=>aA (fun hb=>?_) (fun hb=>?_)
 rotate_left
 . simp only[go_sem,h1,F,E,I,M]
   refine aX hH ⟨rfl,rfl⟩ (by simp only[go_sem]) (by simp only[Xaa,Xad,List.length_nil];omega) (fun O Z=>?_);simp only[go_sem];refine hK _ _ ⟨by simp only[go_sem,h1],by simp only[go_sem,F],by simp only[go_sem,E],by simp only[go_sem,I],dH J T Z,O,by simp only[go_sem],(aQ J Z).symm,?_⟩;rw[iF (show(!inR t.profile 0 7|| !inR t.fixed 0 100000|| !inR t.perMile 0 100|| !inR t.perTick 0 100)=true from hb)];exact fY (l':=[2]) rfl
 . simp only[go_sem]
   refine hK _ _ ⟨by simp only[go_sem,h1],by simp only[go_sem,F],by simp only[go_sem,E],by simp only[go_sem,I],J,j,by simp only[go_sem,M],T,?_⟩;rw[iE (show(!inR t.profile 0 7|| !inR t.fixed 0 100000|| !inR t.perMile 0 100|| !inR t.perTick 0 100)=false from hb),Xah,hH]
 clear hH h1 F E I M;rintro ρ H ⟨h1,F,E,I,J,j,M,T,hH⟩;generalize ac:es8++opt (!inR t.profile 0 7|| !inR t.fixed 0 100000|| !inR t.perMile 0 100|| !inR t.perTick 0 100) (2:Int)=es9 at hH;have au:es9.length<=es8.length+1:=by rw[<-ac,Xac];have:=cE (!inR t.profile 0 7|| !inR t.fixed 0 100000|| !inR t.perMile 0 100|| !inR t.perTick 0 100) (2:Int);omega
 simp only[go_sem,h1,F,E,I,M,J];have ak:mF n l k t=es9:=by unfold mF;rw[ag,ae,aa,aj,ah,ai,af,ab,ad,ac]
 rw[ak];exact .row _ _ _ hH (ConvE.refl _)
def iL(n:Network)(l:List VType)(k:Nat):List Fault:=(mF n l k (Pi l k)).map fun e=>⟨e,jB k⟩
def tC(n:Network)(l:List VType):List Fault:=opt (!inR l.length 1 6) ⟨4,ByteArray.empty⟩++(List.range l.length).flatMap (iL n l)
theorem wO(n:Network)(l:List VType)(k:Nat)(t:VType):(mF n l k t).length<=9:=by
 unfold mF;simp only[Xac,List.length_nil];have h:=fun(b:Bool) (x:Int)=>cE b x
 have h1:=h (!kT t.name) 5;have u:=h (eL l k t.name) 6;have E:=h (!inR t.count 0 10) 22;have M:=h (!inR t.src 0 (n.places.length-1)|| !inR t.dst 0 (n.places.length-1)) 11;have F:=h (!xL t.cap (jI l)) 17;have I:=h (!inR t.skills 0 1073741823) 18;have O:=h (!inR t.start 0 t.close||decide (t.close>4096)) 15;have J:=h (!inR t.drive 1 4096|| !inR t.rest 0 4096) 16;have T:=h (!inR t.profile 0 7|| !inR t.fixed 0 100000|| !inR t.perMile 0 100|| !inR t.perTick 0 100) 2;omega
theorem A8{α u:Type}{f:α->u}{l:List α}{k:Nat}{x:α}(h:l[k]?=some x):(l.take (k+1)).map f=(l.take k).map f++[f x]:=by rw[bP h,Xam];rfl
theorem adL(n:Network)(l:List VType)(hl:l.length<=1048576)(hs:∀t∈l,t.name.size<=1048576/\t.cap.length<=1048576)(hp:n.places.length<=1048576):
   NC prog 51 [.agg (aY n),.sl (l.map bC)] (bO (tC n l)) .os:=by
 refine ncb (fun t=>t == 5) Tryz.func51 ?_;unfold Tryz.f51;simp only[gdS];simp only[go_sem];refine aK fun j hj=>?_
 simp only[go_sem];refine PC.use (nT _ _ _) ?_;simp only[go_sem];refine oN (fun J H'=>J 1=.sl (l.map bC)/\J 2=.rp (aY n) 0/\∃T,J 5=.os T/\H' T=some (bO [])) ⟨by simp only[go_sem],by simp only[go_sem],_,by simp only[go_sem],aB _ _ _⟩ ?_;rintro ρ H ⟨h1,u,j,I,F⟩;generalize ab:([]:List Fault)=es0 at F;have al:es0.length<=0:=by rw[<-ab];exact Xaf _
 refine bH (fun J H'=>J 1=.sl (l.map bC)/\J 2=.rp (aY n) 0/\∃T,J 5=.os T/\H' T=some (bO (es0++opt (!inR l.length 1 6) ⟨4,ByteArray.empty⟩))) ?_ fun K hK=>aA (fun hb=>?_) (fun hb=>?_)
 rotate_left
 . simp only[go_sem,h1,u,I]
   refine aX F ⟨rfl,rfl⟩ (by simp only[go_sem]) (by simp only[Xaa,Xad,List.length_nil];omega) (fun T ai=>?_);simp only[go_sem];refine hK _ _ ⟨by simp only[go_sem,h1],by simp only[go_sem,u],T,by simp only[go_sem],?_⟩;rw[iF (show(!inR l.length 1 6)=true from hb)];exact eR (l':=[⟨4,ByteArray.empty⟩]) rfl
 . simp only[go_sem]
   refine hK _ _ ⟨by simp only[go_sem,h1],by simp only[go_sem,u],j,by simp only[go_sem,I],?_⟩;rw[iE (show(!inR l.length 1 6)=false from hb),Xah,F]
 clear F h1 u I;rintro ρ H ⟨h1,u,j,I,F⟩;generalize aa:es0++opt (!inR l.length 1 6) (⟨4,ByteArray.empty⟩:Fault)=es1 at F;have aj:es1.length<=es0.length+1:=by rw[<-aa,Xac];have:=cE (!inR l.length 1 6) (⟨4,ByteArray.empty⟩:Fault);omega
 simp only[go_sem,h1,u];refine⟨fun ρ H=>∃k:Nat,k<=l.length/\ρ 1=.sl (l.map bC)/\ρ 2=.rp (aY n) 0/\ρ 6=int k/\∃j,ρ 5=.os j/\H j=some (bO (es1++(List.range k).flatMap (iL n l))),fun ρ _=>l.length-aT (ρ 6),⟨0,Xab _,by simp only[go_sem,h1],by simp only[go_sem,u],by simp only[go_sem];rfl,j,by simp only[go_sem,I],by simpa using F⟩,?_⟩;clear F h1 u I hj;rintro ρ H ⟨k,hk,h1,u,O,j,I,F⟩;generalize ad:es1++(List.range k).flatMap (iL n l)=es at F;have ak:es.length<=9*k+1:=by
   have:=eT (f:=iL n l) (c:=9) (fun x=>by unfold iL;rw[Xaa];exact wO _ _ _ _) (List.range k);rw[<-ad,Xac];rw[Xau]at this;omega
 simp only[go_sem,h1,u,O,I];refine aA (fun Z=>?_) (fun ac=>?_)
 . have Z:=bD Z
   have ag:k<=4611686018427387904:=by omega
   have af:es1++(List.range (k+1)).flatMap (iL n l)=es++iL n l k:=by rw[hJ,<-Xai,ad]
   simp only[go_sem,h1,u,O];refine PC.use (Wd n l k Z hl hs hp) ?_;simp only[go_sem];have ah:=wO n l k (Pi l k);have ae:iL n l k=(mF n l k (Pi l k)).map fun e=>⟨e,jB k⟩:=rfl
   generalize mF n l k (Pi l k)=er at ah ae;refine⟨fun ρ H=>∃m:Nat,m<=er.length/\ρ 1=.sl (l.map bC)/\ρ 2=.rp (aY n) 0/\ρ 6=int k/\ρ 7=.sl (er.map bJ)/\ρ 8=int m/\∃j,ρ 5=.os j/\H j=some (bO (es++(er.take m).map fun e=>⟨e,jB k⟩)),fun ρ _=>er.length-aT (ρ 8),⟨0,Xab _,by simp only[go_sem,h1],by simp only[go_sem,u],by simp only[go_sem,O],by simp only[go_sem],by simp only[go_sem];rfl,j,by simp only[go_sem,I],by simpa using F⟩,?_⟩;clear F h1 u I O;rintro ρ H ⟨m,hm,h1,u,O,h7,h8,j,I,F⟩;simp only[go_sem,h1,u,O,I,h7,h8];refine aA (fun E=>?_) (fun M=>?_)
   . have E:=bD E
     obtain⟨e,he⟩:=aN E;have b2:=inB E;simp only[go_sem];refine Es (by kernel_rfl) ?_;simp only[go_sem,h1,u,O,I,h7,h8,b2,aF he];refine⟨_,(qQ _ (by omega)).q rfl,?_⟩;simp only[go_sem];refine aX F ⟨rfl,rfl⟩ (by simp only[go_sem]) (by simp only[Xaa,Xac,Xal,Xad,List.length_nil];omega) (fun T ai=>?_);simp only[go_sem,h1,u,O,h7,h8,aP (show m<=4611686018427387904 by omega)];refine⟨⟨m+1,E,rfl,T,rfl,?_⟩,by simp only[aE];omega⟩;rw[A8 he,<-Xai];exact eR (l':=[⟨e,jB k⟩]) rfl
   . have M:=bF hm M
     subst M;simp only[go_sem,h1,u,O,I,aP ag];refine⟨⟨k+1,Z,rfl,j,rfl,?_⟩,by simp only[aE];omega⟩;rw[af,F,ae,Xag]
 . have ac:=bF hk ac
   subst ac;simp only[go_sem,I];exact⟨_,rfl,by rw[F,<-ad,<-aa,<-ab];rfl⟩
def AP(l:List Order)(k:Nat)(s:ByteArray):Bool:=(l.take k).any fun t=>t.name.toList == s.toList
def kN(P:Nat)(d T:Int)(l:List Order)(k:Nat)(o:Order):List Int:=
 []++opt (!kT o.name) 5++opt (AP l k o.name) 6++opt (!eD o.load d) 17++opt (!inR o.pick.place (-1) ((P:Int)-1)|| !inR o.drop.place (-1) ((P:Int)-1)) 11++opt (o.pick.place == -1&&o.drop.place == -1) 19++opt (fT o.pick != 0||fT o.drop != 0) 14++opt (!inR o.skills 0 1073741823) 18++opt (!inR o.penalty (-1) 1000000|| !inR o.split 1 4||decide (o.split>1)&&(o.pick.place != -1&&o.drop.place != -1)||decide (o.last< -1)||decide (o.last>=T)||decide (o.now< -1)||decide (o.now>=T)) 2
theorem VR(P:Nat)(d T:Int)(l:List Order)(k:Nat)(o:Order)(ho:l[k]?=some o)(hP:P<=1048576)(hl:l.length<=1048576)(hs:∀t∈l,t.name.size<=1048576/\t.load.length<=1048576):
   PC prog 89 [int P,int d,int T,.sl (l.map bE),int k] (.sl ((kN P d T l k o).map bJ)):=by
 refine pcb (fun t=>t == 11) Tryz.func89 ?_;unfold Tryz.f89;simp only[gdS];simp only[go_sem];have hk:k<l.length:=by
   rcases Xar k l.length with h|h
   . exact h
   . rw[List.getElem?_eq_none h]at ho;simp at ho
 have b1:=inB hk;have ao:=hs o (iY ho);refine aK fun j hj=>?_
 simp only[go_sem,b1,aF ho];refine aK fun i Z=>?_
 simp only[go_sem];refine aJ (aB _ _ _) (by simp[qG]) ?_;simp only[go_sem];refine PC.use (PK _ ao.1) ?_;simp only[go_sem];have O:j≠i:=aQ (aB _ _ _) Z;refine oN (fun u H'=>u 0=int P/\u 1=int d/\u 2=int T/\u 3=.sl (l.map bE)/\u 4=int k/\u 12=.op i 0 0/\H' i=some (lG o)/\∃j',u 11=.os j'/\j'≠i/\H' j'=some (kD []))
   ⟨by simp only[go_sem],by simp only[go_sem],by simp only[go_sem],by simp only[go_sem],by simp only[go_sem],by simp only[go_sem],aB _ _ _,j,by simp only[go_sem],O,by rw[aD _ _ _ _ O,aD _ _ _ _ O,aB];rfl⟩ ?_
 clear Z hj O;rintro ρ H ⟨h0,h1,M,J,I,E,Z,j,F,O,hH⟩;generalize ai:([]:List Int)=es0 at hH;have ax:es0.length<=0:=by rw[<-ai];exact Xaf _
 refine bH (fun u H'=>u 0=int P/\u 1=int d/\u 2=int T/\u 3=.sl (l.map bE)/\u 4=int k/\u 12=.op i 0 0/\H' i=some (lG o)/\∃j',u 11=.os j'/\j'≠i/\H' j'=some (kD (es0++opt (!kT o.name) 5))) ?_ fun K hK=>aA (fun hb=>?_) (fun hb=>?_)
 rotate_left
 . simp only[go_sem,h0,h1,M,J,I,E,F]
   refine aX hH ⟨rfl,rfl⟩ (by simp only[go_sem]) (by simp only[Xaa,Xad,List.length_nil];omega) (fun j' aa=>?_);simp only[go_sem];refine hK _ _ ⟨by simp only[go_sem,h0],by simp only[go_sem,h1],by simp only[go_sem,M],by simp only[go_sem,J],by simp only[go_sem,I],by simp only[go_sem,E],dH Z O aa,j',by simp only[go_sem],(aQ Z aa).symm,?_⟩;rw[iF (show(!kT o.name)=true from hb)];exact fY (l':=[5]) rfl
 . simp only[go_sem]
   refine hK _ _ ⟨by simp only[go_sem,h0],by simp only[go_sem,h1],by simp only[go_sem,M],by simp only[go_sem,J],by simp only[go_sem,I],by simp only[go_sem,E],Z,j,by simp only[go_sem,F],O,?_⟩;rw[iE (show(!kT o.name)=false from hb),Xah,hH]
 clear hH h0 h1 M J I E F;rintro ρ H ⟨h0,h1,M,J,I,E,Z,j,F,O,hH⟩;generalize ag:es0++opt (!kT o.name) (5:Int)=es1 at hH;have ap:es1.length<=es0.length+1:=by rw[<-ag,Xac];have:=cE (!kT o.name) (5:Int);omega
 simp only[go_sem,h0,h1,M,J,I,E,F,Z];refine Fm (fun u H'=>u 0=int P/\u 1=int d/\u 2=int T/\u 3=.sl (l.map bE)/\u 4=int k/\u 12=.op i 0 0/\H' i=some (lG o)/\∃j',u 11=.os j'/\j'≠i/\H' j'=some (kD (es1++opt (AP l k o.name) 6))) ?_ fun Q hQ _=>?_
 rotate_left
 . refine ⟨fun u H' => ∃ m : Nat, m <= k /\ u 0 = int P /\ u 1 = int d /\ u 2 = int T /\ u 3 = .sl (l.map bE) /\ u 4 = int k /\ u 12 = .op i 0 0 /\ u 11 = .os j /\ u 13 = int m /\ H' = H /\ ∀ t ∈ l.take m, (t.name.toList == o.name.toList) = false, fun ρ _ => k - aT (ρ 13),
     ⟨0,Xab _,by simp only[go_sem,h0],by simp only[go_sem,h1],by simp only[go_sem,M],by simp only[go_sem,J],by simp only[go_sem,I],by simp only[go_sem,E],by simp only[go_sem,F],by simp only[go_sem];rfl,rfl,by simp⟩,?_⟩
   clear h0 h1 M J I E F;rintro ρ H' ⟨m,hm,h0,h1,M,J,I,E,F,ac,rfl,hn⟩;simp only[go_sem,h0,h1,M,J,I,E,F,ac];refine aA (fun ab=>?_) (fun am=>?_)
   . have ab:=bD ab
     obtain⟨t,ht⟩:=aN (show m<l.length by omega);have b2:=inB (show m<l.length by omega);simp only[go_sem];refine dJ (by rfl) (by kernel_rfl) ?_;simp only[go_sem,h0,h1,M,J,I,E,F,ac,Z,b2,aF ht];refine aA (fun hb=>?_) (fun hb=>?_)
     . simp only[go_sem,h0,h1,M,J,I,E,F,ac]
       refine aX hH ⟨rfl,rfl⟩ (by simp only[go_sem]) (by simp only[Xaa,Xad,List.length_nil];omega) (fun j' aa=>?_);simp only[go_sem];refine hQ _ _ ⟨by simp only[go_sem,h0],by simp only[go_sem,h1],by simp only[go_sem,M],by simp only[go_sem,J],by simp only[go_sem,I],by simp only[go_sem,E],dH Z O aa,j',by simp only[go_sem],(aQ Z aa).symm,?_⟩;rw[iF (show AP l k o.name=true from Xbk.2 ⟨t,Xae (i:=m) (by rw[List.getElem?_take];simp[ab,ht]),hb⟩)];exact fY (l':=[6]) rfl
     . simp only[go_sem,h0,h1,M,J,I,E,F,ac,aP (show m<=4611686018427387904 by omega)]
       exact⟨⟨m+1,ab,rfl,qX ht hn hb⟩,by simp only[aE];omega⟩
   . have am:=bF hm am
     subst am;simp only[go_sem];refine hQ _ _ ⟨by simp only[go_sem,h0],by simp only[go_sem,h1],by simp only[go_sem,M],by simp only[go_sem,J],by simp only[go_sem,I],by simp only[go_sem,E],Z,j,by simp only[go_sem,F],O,?_⟩;rw[iE (show AP l m o.name=false from List.any_eq_false.2 fun t ht=>by simp[hn t ht]),Xah,hH]
 clear hH h0 h1 M J I E F;rintro ρ H ⟨h0,h1,M,J,I,E,Z,j,F,O,hH⟩;generalize ad:es1++opt (AP l k o.name) (6:Int)=es2 at hH;have au:es2.length<=es1.length+1:=by rw[<-ad,Xac];have:=cE (AP l k o.name) (6:Int);omega
 simp only[go_sem,h0,h1,M,J,I,E,F,Z];refine PC.use (JH _ _ ao.2) ?_;simp only[go_sem,h0,h1,M,J,I,E,F,Z];refine bH (fun u H'=>u 0=int P/\u 1=int d/\u 2=int T/\u 3=.sl (l.map bE)/\u 4=int k/\u 12=.op i 0 0/\H' i=some (lG o)/\∃j',u 11=.os j'/\j'≠i/\H' j'=some (kD (es2++opt (!eD o.load d) 17))) ?_ fun K hK=>aA (fun hb=>?_) (fun hb=>?_)
 rotate_left
 . simp only[go_sem,h0,h1,M,J,I,E,F]
   refine aX hH ⟨rfl,rfl⟩ (by simp only[go_sem]) (by simp only[Xaa,Xad,List.length_nil];omega) (fun j' aa=>?_);simp only[go_sem];refine hK _ _ ⟨by simp only[go_sem,h0],by simp only[go_sem,h1],by simp only[go_sem,M],by simp only[go_sem,J],by simp only[go_sem,I],by simp only[go_sem,E],dH Z O aa,j',by simp only[go_sem],(aQ Z aa).symm,?_⟩;rw[iF (show(!eD o.load d)=true from hb)];exact fY (l':=[17]) rfl
 . simp only[go_sem]
   refine hK _ _ ⟨by simp only[go_sem,h0],by simp only[go_sem,h1],by simp only[go_sem,M],by simp only[go_sem,J],by simp only[go_sem,I],by simp only[go_sem,E],Z,j,by simp only[go_sem,F],O,?_⟩;rw[iE (show(!eD o.load d)=false from hb),Xah,hH]
 clear hH h0 h1 M J I E F;rintro ρ H ⟨h0,h1,M,J,I,E,Z,j,F,O,hH⟩;generalize al:es2++opt (!eD o.load d) (17:Int)=es3 at hH;have ay:es3.length<=es2.length+1:=by rw[<-al,Xac];have:=cE (!eD o.load d) (17:Int);omega
 simp only[go_sem,h0,h1,M,J,I,E,F,Z,nX (show P<=4611686018427387904 by omega)];refine PC.use (Gn _ _ _) ?_;simp only[go_sem,h0,h1,M,J,I,E,F,Z,nX (show P<=4611686018427387904 by omega)];refine⟨_,fun _=>(Gn _ _ _).q rfl,?_⟩;simp only[go_sem,h0,h1,M,J,I,E,F,Z,nX (show P<=4611686018427387904 by omega)];refine bH (fun u H'=>u 0=int P/\u 1=int d/\u 2=int T/\u 3=.sl (l.map bE)/\u 4=int k/\u 12=.op i 0 0/\H' i=some (lG o)/\∃j',u 11=.os j'/\j'≠i/\H' j'=some (kD (es3++opt (!inR o.pick.place (-1) ((P:Int)-1)|| !inR o.drop.place (-1) ((P:Int)-1)) 11))) ?_ fun K hK=>aA (fun hb=>?_) (fun hb=>?_)
 rotate_left
 . simp only[go_sem,h0,h1,M,J,I,E,F]
   refine aX hH ⟨rfl,rfl⟩ (by simp only[go_sem]) (by simp only[Xaa,Xad,List.length_nil];omega) (fun j' aa=>?_);simp only[go_sem];refine hK _ _ ⟨by simp only[go_sem,h0],by simp only[go_sem,h1],by simp only[go_sem,M],by simp only[go_sem,J],by simp only[go_sem,I],by simp only[go_sem,E],dH Z O aa,j',by simp only[go_sem],(aQ Z aa).symm,?_⟩;rw[iF (show(!inR o.pick.place (-1) ((P:Int)-1)|| !inR o.drop.place (-1) ((P:Int)-1))=true from hb)];exact fY (l':=[11]) rfl
 . simp only[go_sem]
   refine hK _ _ ⟨by simp only[go_sem,h0],by simp only[go_sem,h1],by simp only[go_sem,M],by simp only[go_sem,J],by simp only[go_sem,I],by simp only[go_sem,E],Z,j,by simp only[go_sem,F],O,?_⟩;rw[iE (show(!inR o.pick.place (-1) ((P:Int)-1)|| !inR o.drop.place (-1) ((P:Int)-1))=false from hb),Xah,hH]
 clear hH h0 h1 M J I E F;rintro ρ H ⟨h0,h1,M,J,I,E,Z,j,F,O,hH⟩;generalize aj:es3++opt (!inR o.pick.place (-1) ((P:Int)-1)|| !inR o.drop.place (-1) ((P:Int)-1)) (11:Int)=es4 at hH;have av:es4.length<=es3.length+1:=by rw[<-aj,Xac];have:=cE (!inR o.pick.place (-1) ((P:Int)-1)|| !inR o.drop.place (-1) ((P:Int)-1)) (11:Int);omega
 simp only[go_sem,h0,h1,M,J,I,E,F,Z];refine bH (fun u H'=>u 0=int P/\u 1=int d/\u 2=int T/\u 3=.sl (l.map bE)/\u 4=int k/\u 12=.op i 0 0/\H' i=some (lG o)/\∃j',u 11=.os j'/\j'≠i/\H' j'=some (kD (es4++opt (o.pick.place == -1&&o.drop.place == -1) 19))) ?_ fun K hK=>aA (fun hb=>?_) (fun hb=>?_)
 rotate_left
 . simp only[go_sem,h0,h1,M,J,I,E,F]
   refine aX hH ⟨rfl,rfl⟩ (by simp only[go_sem]) (by simp only[Xaa,Xad,List.length_nil];omega) (fun j' aa=>?_);simp only[go_sem];refine hK _ _ ⟨by simp only[go_sem,h0],by simp only[go_sem,h1],by simp only[go_sem,M],by simp only[go_sem,J],by simp only[go_sem,I],by simp only[go_sem,E],dH Z O aa,j',by simp only[go_sem],(aQ Z aa).symm,?_⟩;rw[iF (show(o.pick.place == -1&&o.drop.place == -1)=true from hb)];exact fY (l':=[19]) rfl
 . simp only[go_sem]
   refine hK _ _ ⟨by simp only[go_sem,h0],by simp only[go_sem,h1],by simp only[go_sem,M],by simp only[go_sem,J],by simp only[go_sem,I],by simp only[go_sem,E],Z,j,by simp only[go_sem,F],O,?_⟩;rw[iE (show(o.pick.place == -1&&o.drop.place == -1)=false from hb),Xah,hH]
 clear hH h0 h1 M J I E F;rintro ρ H ⟨h0,h1,M,J,I,E,Z,j,F,O,hH⟩;generalize ak:es4++opt (o.pick.place == -1&&o.drop.place == -1) (19:Int)=es5 at hH;have ar:es5.length<=es4.length+1:=by rw[<-ak,Xac];have:=cE (o.pick.place == -1&&o.drop.place == -1) (19:Int);omega
 simp only[go_sem,h0,h1,M,J,I,E,F,Z];refine PC.use (LO _) ?_;simp only[go_sem,h0,h1,M,J,I,E,F,Z];refine⟨_,fun _=>(LO _).q rfl,?_⟩;simp only[go_sem,h0,h1,M,J,I,E,F,Z];refine bH (fun u H'=>u 0=int P/\u 1=int d/\u 2=int T/\u 3=.sl (l.map bE)/\u 4=int k/\u 12=.op i 0 0/\H' i=some (lG o)/\∃j',u 11=.os j'/\j'≠i/\H' j'=some (kD (es5++opt (fT o.pick != 0||fT o.drop != 0) 14))) ?_ fun K hK=>aA (fun hb=>?_) (fun hb=>?_)
 rotate_left
 . simp only[go_sem,h0,h1,M,J,I,E,F]
   refine aX hH ⟨rfl,rfl⟩ (by simp only[go_sem]) (by simp only[Xaa,Xad,List.length_nil];omega) (fun j' aa=>?_);simp only[go_sem];refine hK _ _ ⟨by simp only[go_sem,h0],by simp only[go_sem,h1],by simp only[go_sem,M],by simp only[go_sem,J],by simp only[go_sem,I],by simp only[go_sem,E],dH Z O aa,j',by simp only[go_sem],(aQ Z aa).symm,?_⟩;rw[iF (show(fT o.pick != 0||fT o.drop != 0)=true from hb)];exact fY (l':=[14]) rfl
 . simp only[go_sem]
   refine hK _ _ ⟨by simp only[go_sem,h0],by simp only[go_sem,h1],by simp only[go_sem,M],by simp only[go_sem,J],by simp only[go_sem,I],by simp only[go_sem,E],Z,j,by simp only[go_sem,F],O,?_⟩;rw[iE (show(fT o.pick != 0||fT o.drop != 0)=false from hb),Xah,hH]
 clear hH h0 h1 M J I E F;rintro ρ H ⟨h0,h1,M,J,I,E,Z,j,F,O,hH⟩;generalize ah:es5++opt (fT o.pick != 0||fT o.drop != 0) (14:Int)=es6 at hH;have aq:es6.length<=es5.length+1:=by rw[<-ah,Xac];have:=cE (fT o.pick != 0||fT o.drop != 0) (14:Int);omega
 simp only[go_sem,h0,h1,M,J,I,E,F,Z];refine PC.use (Gn _ _ _) ?_;simp only[go_sem,h0,h1,M,J,I,E,F,Z,nX (show P<=4611686018427387904 by omega)];refine bH (fun u H'=>u 0=int P/\u 1=int d/\u 2=int T/\u 3=.sl (l.map bE)/\u 4=int k/\u 12=.op i 0 0/\H' i=some (lG o)/\∃j',u 11=.os j'/\j'≠i/\H' j'=some (kD (es6++opt (!inR o.skills 0 1073741823) 18))) ?_ fun K hK=>aA (fun hb=>?_) (fun hb=>?_)
 rotate_left
 . simp only[go_sem,h0,h1,M,J,I,E,F]
   refine aX hH ⟨rfl,rfl⟩ (by simp only[go_sem]) (by simp only[Xaa,Xad,List.length_nil];omega) (fun j' aa=>?_);simp only[go_sem];refine hK _ _ ⟨by simp only[go_sem,h0],by simp only[go_sem,h1],by simp only[go_sem,M],by simp only[go_sem,J],by simp only[go_sem,I],by simp only[go_sem,E],dH Z O aa,j',by simp only[go_sem],(aQ Z aa).symm,?_⟩;rw[iF (show(!inR o.skills 0 1073741823)=true from hb)];exact fY (l':=[18]) rfl
 . simp only[go_sem]
   refine hK _ _ ⟨by simp only[go_sem,h0],by simp only[go_sem,h1],by simp only[go_sem,M],by simp only[go_sem,J],by simp only[go_sem,I],by simp only[go_sem,E],Z,j,by simp only[go_sem,F],O,?_⟩;rw[iE (show(!inR o.skills 0 1073741823)=false from hb),Xah,hH]
 clear hH h0 h1 M J I E F;rintro ρ H ⟨h0,h1,M,J,I,E,Z,j,F,O,hH⟩;generalize ae:es6++opt (!inR o.skills 0 1073741823) (18:Int)=es7 at hH;have az:es7.length<=es6.length+1:=by rw[<-ae,Xac];have:=cE (!inR o.skills 0 1073741823) (18:Int);omega
 simp only[go_sem,h0,h1,M,J,I,E,F,Z];refine PC.use (Gn _ _ _) ?_;simp only[go_sem,h0,h1,M,J,I,E,F,Z,nX (show P<=4611686018427387904 by omega)];refine⟨_,fun _=>(Gn _ _ _).q rfl,?_⟩;simp only[go_sem,h0,h1,M,J,I,E,F,Z,nX (show P<=4611686018427387904 by omega)];refine bH (fun u H'=>u 0=int P/\u 1=int d/\u 2=int T/\u 3=.sl (l.map bE)/\u 4=int k/\u 12=.op i 0 0/\H' i=some (lG o)/\∃j',u 11=.os j'/\j'≠i/\H' j'=some (kD (es7++opt (!inR o.penalty (-1) 1000000|| !inR o.split 1 4||decide (o.split>1)&&(o.pick.place != -1&&o.drop.place != -1)||decide (o.last< -1)||decide (o.last>=T)||decide (o.now< -1)||decide (o.now>=T)) 2))) ?_ fun K hK=>aA (fun hb=>?_) (fun hb=>?_)
 rotate_left
 . simp only[go_sem,h0,h1,M,J,I,E,F]
   refine aX hH ⟨rfl,rfl⟩ (by simp only[go_sem]) (by simp only[Xaa,Xad,List.length_nil];omega) (fun j' aa=>?_);simp only[go_sem];refine hK _ _ ⟨by simp only[go_sem,h0],by simp only[go_sem,h1],by simp only[go_sem,M],by simp only[go_sem,J],by simp only[go_sem,I],by simp only[go_sem,E],dH Z O aa,j',by simp only[go_sem],(aQ Z aa).symm,?_⟩;rw[iF (show(!inR o.penalty (-1) 1000000|| !inR o.split 1 4||decide (o.split>1)&&(o.pick.place != -1&&o.drop.place != -1)||decide (o.last< -1)||decide (o.last>=T)||decide (o.now< -1)||decide (o.now>=T))=true from hb)];exact fY (l':=[2]) rfl
 . simp only[go_sem]
   refine hK _ _ ⟨by simp only[go_sem,h0],by simp only[go_sem,h1],by simp only[go_sem,M],by simp only[go_sem,J],by simp only[go_sem,I],by simp only[go_sem,E],Z,j,by simp only[go_sem,F],O,?_⟩;rw[iE (show(!inR o.penalty (-1) 1000000|| !inR o.split 1 4||decide (o.split>1)&&(o.pick.place != -1&&o.drop.place != -1)||decide (o.last< -1)||decide (o.last>=T)||decide (o.now< -1)||decide (o.now>=T))=false from hb),Xah,hH]
 clear hH h0 h1 M J I E F;rintro ρ H ⟨h0,h1,M,J,I,E,Z,j,F,O,hH⟩;generalize af:es7++opt (!inR o.penalty (-1) 1000000|| !inR o.split 1 4||decide (o.split>1)&&(o.pick.place != -1&&o.drop.place != -1)||decide (o.last< -1)||decide (o.last>=T)||decide (o.now< -1)||decide (o.now>=T)) (2:Int)=es8 at hH;have aw:es8.length<=es7.length+1:=by rw[<-af,Xac];have:=cE (!inR o.penalty (-1) 1000000|| !inR o.split 1 4||decide (o.split>1)&&(o.pick.place != -1&&o.drop.place != -1)||decide (o.last< -1)||decide (o.last>=T)||decide (o.now< -1)||decide (o.now>=T)) (2:Int);omega
 simp only[go_sem,h0,h1,M,J,I,E,F,Z];have an:kN P d T l k o=es8:=by unfold kN;rw[ai,ag,ad,al,aj,ak,ah,ae,af]
 rw[an];exact .row _ _ _ hH (ConvE.refl _)
def kP(w:ByteArray)(f:Fault):Fault:=⟨f.err,match f.at_.toList == (⟨#[]⟩:ByteArray).toList with|true=>w|false=>w++⟨#[32]⟩++f.at_⟩
theorem Ew(w:ByteArray)(l:List Fault)(hw:w.size<=1048576)(hl:l.length<=5000000000000)(hs:∀f∈l,f.at_.size<=268435456):
   NC prog 49 [str w,.sl (l.map fV)] (bO (l.map (kP w))) .os:=by
 refine ncb (fun t=>t == 5) Tryz.func49 ?_;unfold Tryz.f49;simp only[gdS];simp only[go_sem];refine aK fun j hj=>?_
 simp only[go_sem];refine⟨fun ρ H=>∃k:Nat,k<=l.length/\ρ 0=str w/\ρ 1=.sl (l.map fV)/\ρ 6=int k/\∃j,ρ 5=.os j/\H j=some (bO ((l.take k).map (kP w))),fun ρ _=>l.length-aT (ρ 6),⟨0,Xab _,rfl,rfl,rfl,j,rfl,aB _ _ _⟩,?_⟩;clear hj;rintro ρ H ⟨k,hk,h0,h1,F,j,I,hH⟩;simp only[go_sem,h0,h1,F,I];refine aA (fun u=>?_) (fun J=>?_)
 . have u:=bD u
   obtain⟨f,M⟩:=aN u;have T:=inB u;have ac:=hs f (iY M);simp only[go_sem,h0,h1,F,T,aF M];refine bH (fun E H'=>E 0=str w/\E 1=.sl (l.map fV)/\E 6=int k/\E 5=.os j/\E 7=str (kP w f).at_/\H'=H) ?_ fun K hK=>aA (fun Z=>?_) (fun Z=>?_)
   . clear h0 h1 F I
     rintro ρ H ⟨h0,h1,F,I,h7,rfl⟩;simp only[go_sem,h0,h1,F,I,h7,T,aF M];refine aX hH ⟨rfl,rfl⟩ (by simp only[go_sem]) (by simp only[Xaa,Xal,Xad,List.length_nil];omega) (fun j' aa=>?_);simp only[go_sem,h0,h1,F,aP (show k<=4611686018427387904 by omega)];refine⟨⟨k+1,u,rfl,j',rfl,?_⟩,by simp only[aE];omega⟩;rw[A8 M];exact eR (l':=[kP w f]) rfl
   . simp only[go_sem,h0,h1,F,T,aF M]
     have ab:(#[32]:Array UInt8).size=1:=rfl;refine⟨by rw[uY];omega,by rw[uY];omega,hK _ _ ⟨by simp only[go_sem,h0],by simp only[go_sem,h1],by simp only[go_sem,F],by simp only[go_sem,I],?_,rfl⟩⟩;have O:(f.at_.toList == (⟨#[]⟩:ByteArray).toList)=false:=by have:=Z;revert this;cases(f.at_.toList == (⟨#[]⟩:ByteArray).toList) <;> simp
     simp only[go_sem,kP,O]
   . simp only[go_sem]
     refine hK _ _ ⟨by simp only[go_sem,h0],by simp only[go_sem,h1],by simp only[go_sem,F],by simp only[go_sem,I],?_,rfl⟩;have O:(f.at_.toList == (⟨#[]⟩:ByteArray).toList)=true:=by have:=Z;revert this;cases(f.at_.toList == (⟨#[]⟩:ByteArray).toList) <;> simp
     simp only[go_sem,kP,O]
 . have J:=bF hk J
   subst J;simp only[go_sem,I];exact⟨_,rfl,by rw[hH,Xag]⟩
def UC(l:List Order)(i:Nat):Order:=l.getD i ⟨ByteArray.empty,[],⟨0,0,0,0⟩,⟨0,0,0,0⟩,0,0,0,0,0,false⟩
theorem M0{l:List Order}{k:Nat}{p:Order}(h:l[k]?=some p):UC l k=p:=by simp[UC,List.getD,h]
def gN(n:Network)(d T:Int)(l:List Order)(k:Nat):List Fault:=(kN n.places.length d T l k (UC l k)).map fun e=>⟨e,jB k⟩
def qF(n:Network)(d T:Int)(l:List Order):List Fault:=opt (decide ((l.length:Int)>10)) ⟨4,ByteArray.empty⟩++(List.range l.length).flatMap (gN n d T l)
theorem tQ(P:Nat)(d T:Int)(l:List Order)(k:Nat)(o:Order):(kN P d T l k o).length<=9:=by
 unfold kN;simp only[Xac,List.length_nil];have h:=fun(b:Bool) (x:Int)=>cE b x
 have h1:=h (!kT o.name) 5;have u:=h (AP l k o.name) 6;have E:=h (!eD o.load d) 17;have M:=h (!inR o.pick.place (-1) ((P:Int)-1)|| !inR o.drop.place (-1) ((P:Int)-1)) 11;have F:=h (o.pick.place == -1&&o.drop.place == -1) 19;have I:=h (fT o.pick != 0||fT o.drop != 0) 14;have O:=h (!inR o.skills 0 1073741823) 18;have J:=h (!inR o.penalty (-1) 1000000|| !inR o.split 1 4||decide (o.split>1)&&(o.pick.place != -1&&o.drop.place != -1)||decide (o.last< -1)||decide (o.last>=T)||decide (o.now< -1)||decide (o.now>=T)) 2;omega
theorem Fb(n:Network)(d T:Int)(l:List Order)(hl:l.length<=1048576)(hs:∀t∈l,t.name.size<=1048576/\t.load.length<=1048576)(hp:n.places.length<=1048576):
   NC prog 52 [.agg (aY n),int d,int T,.sl (l.map bE)] (bO (qF n d T l)) .os:=by
 refine ncb (fun t=>t == 9) Tryz.func52 ?_;unfold Tryz.f52;simp only[gdS];simp only[go_sem];refine aK fun j hj=>?_
 simp only[go_sem];refine oN (fun u H'=>u 1=int d/\u 2=int T/\u 3=.sl (l.map bE)/\u 4=.rp (aY n) 0/\∃j',u 9=.os j'/\H' j'=some (bO [])) ⟨by simp only[go_sem],by simp only[go_sem],by simp only[go_sem],by simp only[go_sem],_,by simp only[go_sem],aB _ _ _⟩ ?_;rintro ρ H ⟨h1,J,I,F,j,Z,O⟩;generalize ad:([]:List Fault)=es0 at O;have ap:es0.length<=0:=by rw[<-ad];exact Xaf _
 refine bH (fun u H'=>u 1=int d/\u 2=int T/\u 3=.sl (l.map bE)/\u 4=.rp (aY n) 0/\∃j',u 9=.os j'/\H' j'=some (bO (es0++opt (decide ((l.length:Int)>10)) ⟨4,ByteArray.empty⟩))) ?_ fun K hK=>aA (fun hb=>?_) (fun hb=>?_)
 rotate_left
 . simp only[go_sem,h1,J,I,F,Z]
   refine aX O ⟨rfl,rfl⟩ (by simp only[go_sem]) (by simp only[Xaa,Xad,List.length_nil];omega) (fun j' am=>?_);simp only[go_sem];refine hK _ _ ⟨by simp only[go_sem,h1],by simp only[go_sem,J],by simp only[go_sem,I],by simp only[go_sem,F],j',by simp only[go_sem],?_⟩;rw[iF (show(decide ((l.length:Int)>10))=true from hb)];exact eR (l':=[⟨4,ByteArray.empty⟩]) rfl
 . simp only[go_sem]
   refine hK _ _ ⟨by simp only[go_sem,h1],by simp only[go_sem,J],by simp only[go_sem,I],by simp only[go_sem,F],j,by simp only[go_sem,Z],?_⟩;rw[iE (show(decide ((l.length:Int)>10))=false from hb),Xah,O]
 clear O h1 J I F Z;rintro ρ H ⟨h1,J,I,F,j,Z,O⟩;generalize ac:es0++opt (decide ((l.length:Int)>10)) (⟨4,ByteArray.empty⟩:Fault)=es1 at O;have an:es1.length<=es0.length+1:=by rw[<-ac,Xac];have:=cE (decide ((l.length:Int)>10)) (⟨4,ByteArray.empty⟩:Fault);omega
 simp only[go_sem,h1,J,I,F];refine⟨fun ρ H=>∃k:Nat,k<=l.length/\ρ 1=int d/\ρ 2=int T/\ρ 3=.sl (l.map bE)/\ρ 4=.rp (aY n) 0/\ρ 10=int k/\∃j,ρ 9=.os j/\H j=some (bO (es1++(List.range k).flatMap (gN n d T l))),fun ρ _=>l.length-aT (ρ 10),⟨0,Xab _,by simp only[go_sem,h1],by simp only[go_sem,J],by simp only[go_sem,I],by simp only[go_sem,F],by simp only[go_sem];rfl,j,by simp only[go_sem,Z],by simpa using O⟩,?_⟩;clear O h1 J I F Z hj;rintro ρ H ⟨k,hk,h1,J,I,F,E,j,Z,O⟩;generalize ag:es1++(List.range k).flatMap (gN n d T l)=es at O;have ao:es.length<=9*k+1:=by
   have:=eT (f:=gN n d T l) (c:=9) (fun x=>by unfold gN;rw[Xaa];exact tQ _ _ _ _ _ _) (List.range k);rw[<-ag,Xac];rw[Xau]at this;omega
 simp only[go_sem,h1,J,I,F,E,Z];refine aA (fun ab=>?_) (fun ah=>?_)
 . have ab:=bD ab
   have ak:k<=4611686018427387904:=by omega
   have aj:es1++(List.range (k+1)).flatMap (gN n d T l)=es++gN n d T l k:=by rw[hJ,<-Xai,ag]
   simp only[go_sem,h1,J,I,F,E];obtain⟨o,ho⟩:=aN ab;rw[<-M0 ho]at ho;refine PC.use (VR n.places.length d T l k _ ho hp hl hs) ?_;simp only[go_sem];have al:=tQ n.places.length d T l k (UC l k);have ai:gN n d T l k=(kN n.places.length d T l k (UC l k)).map fun e=>⟨e,jB k⟩:=rfl
   generalize kN n.places.length d T l k (UC l k)=er at al ai;refine⟨fun ρ H=>∃m:Nat,m<=er.length/\ρ 1=int d/\ρ 2=int T/\ρ 3=.sl (l.map bE)/\ρ 4=.rp (aY n) 0/\ρ 10=int k/\ρ 11=.sl (er.map bJ)/\ρ 12=int m/\∃j,ρ 9=.os j/\H j=some (bO (es++(er.take m).map fun e=>⟨e,jB k⟩)),fun ρ _=>er.length-aT (ρ 12),⟨0,Xab _,by simp only[go_sem,h1],by simp only[go_sem,J],by simp only[go_sem,I],by simp only[go_sem,F],by simp only[go_sem,E],by simp only[go_sem],by simp only[go_sem];rfl,j,by simp only[go_sem,Z],by simpa using O⟩,?_⟩;clear O h1 J I F Z E;rintro ρ H ⟨m,hm,h1,J,I,F,E,af,ae,j,Z,O⟩;simp only[go_sem,h1,J,I,F,E,Z,af,ae];refine aA (fun M=>?_) (fun aa=>?_)
   . have M:=bD M
     obtain⟨e,he⟩:=aN M;have b2:=inB M;simp only[go_sem];refine Es (by kernel_rfl) ?_;simp only[go_sem,h1,J,I,F,E,Z,af,ae,b2,aF he];refine⟨_,(qQ _ (by omega)).q rfl,?_⟩;simp only[go_sem];refine aX O ⟨rfl,rfl⟩ (by simp only[go_sem]) (by simp only[Xaa,Xac,Xal,Xad,List.length_nil];omega) (fun j' am=>?_);simp only[go_sem,h1,J,I,F,E,af,ae,aP (show m<=4611686018427387904 by omega)];refine⟨⟨m+1,M,rfl,j',rfl,?_⟩,by simp only[aE];omega⟩;rw[A8 he,<-Xai];exact eR (l':=[⟨e,jB k⟩]) rfl
   . have aa:=bF hm aa
     subst aa;simp only[go_sem,h1,J,I,F,E,Z,aP ak];refine⟨⟨k+1,ab,rfl,j,rfl,?_⟩,by simp only[aE];omega⟩;rw[aj,O,ai,Xag]
 . have ah:=bF hk ah
   subst ah;simp only[go_sem,Z];exact⟨_,rfl,by rw[O,<-ag,<-ac,<-ad];rfl⟩
end Go.Proofs.YtohmomanmikphaaGreatDoor
end
