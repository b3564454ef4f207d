import Derived.Test.YtohmomanmikphaaGreatDoorPf06
set_option linter.unusedSimpArgs false
set_option linter.unusedVariables false
set_option maxRecDepth 100000
section
namespace Go.Proofs.YtohmomanmikphaaGreatDoor
open Go.Proofs.Tryz(prog)
open Go.Aw Go.Aw.D Go.Proofs Ty
def inR(n lo hi:Int):Bool:=decide (n>=lo)&&decide (n<=hi)
theorem mG(n lo u:Int):PC prog 86 [int n,int lo,int u] (boo (inR n lo u)):=by
 refine pcd Tryz.func86 ?_;unfold Tryz.f86;simp only[gdS];simp only[go_sem];exact .refl _
theorem DX(n lo u:Int):PC prog 148 [int n,int lo,int u] (boo (inR n lo u)):=by
 refine pcd Tryz.func148 ?_;unfold Tryz.f148;simp only[gdS];simp only[go_sem];exact .refl _
theorem VI(n:Int):PC prog 144 [int n] (boo (inR n 0 4096)):=by
 refine pcd Tryz.func144 ?_;unfold Tryz.f144;simp only[gdS];simp only[go_sem];exact .refl _
def Bf(c:Int):Bool:=decide (c>=48)&&decide (c<=57)
theorem Dm(c:Int):PC prog 209 [.v (.int .u8 c)] (boo (Bf c)):=by
 refine pcd Tryz.func209 ?_;unfold Tryz.f209;simp only[gdS];simp only[go_sem];exact .refl _
def Ax(c:Int):Bool:=decide (c>=97)&&decide (c<=122)||decide (c>=65)&&decide (c<=90)||c == 95
theorem UJ(c:Int):PC prog 210 [.v (.int .u8 c)] (boo (Ax c)):=by
 refine pcd Tryz.func210 ?_;unfold Tryz.f210;simp only[gdS];simp only[go_sem];exact .refl _
def jH(s:Stop):Bool:=s.place == -1&&s.start == 0&&s.close == 0&&s.service == 0
def QN(s:Stop):Bool:=decide (s.place<0)||decide (s.start<0)||decide (s.start>s.close)||decide (s.close>4096)||decide (s.service<0)||decide (s.service>4096)
def fF(s:Stop):Int:=if jH s then 0 else if QN s then 2 else 0
theorem Mr(s:Stop):PC prog 149 [.agg (dR s)] (int (fF s)):=by
 refine pcd Tryz.func149 ?_;unfold Tryz.f149;simp only[gdS];simp only[go_sem];refine aB (fun h=>?_) (fun h=>?_)
 . simp only[go_sem]
   have:fF s=0:=if_pos h;rw[this];exact .refl _
 . simp only[go_sem]
   refine aB (fun u=>?_) (fun u=>?_)
   . simp only[go_sem]
     have:fF s=2:=by unfold fF;rw[if_neg (by simp[jH,h])];exact if_pos u
     rw[this];exact .refl _
   . simp only[go_sem]
     have:fF s=0:=by unfold fF;rw[if_neg (by simp[jH,h]),if_neg (by simp only[QN,u];simp)]
     rw[this];exact .refl _
def Ey(n:Int):ByteArray:=strOfNums [IntKind.u8.wrap (IntKind.i64.wrap (48+n))]
def iD(n:Nat):ByteArray:=if n<10 then Ey n else iD (n/10)++Ey (n%10:Nat)
theorem Bd(x:Int):(strOfNums [x]).size=1:=by simp[strOfNums];rfl
theorem Cn(n:Int):(Ey n).size=1:=Bd _
theorem xJ{n:Nat}(h:10<=n):iD n=iD (n/10)++Ey (n%10:Nat):=by rw[iD,if_neg (by omega)]
theorem sR{n:Nat}(h:n<10):iD n=Ey n:=by rw[iD,if_pos h]
theorem lQ(n:Nat):(iD n).size<=n+1:=by
 induction n using Nat.strongRecOn with
 | ind n ih=>
   rcases Xaw n 10 with h|h
   . rw[sR h,Cn];omega
   . rw[xJ h,ByteArray.size_append,Cn]
     have:=ih (n/10) (by omega);omega
theorem OW(m:Nat):(m:Int).tmod 10=((m%10:Nat):Int):=by rw[Xce (by omega)];rfl
theorem MT(m:Nat):(m:Int).tdiv 10=((m/10:Nat):Int):=by rw[Xcc (by omega)];rfl
theorem Ju{k:Nat}(h:k<=4611686018427387904):IntKind.i64.wrap (k:Int)=(k:Int):=bA (by omega)
theorem uI:IntKind.i64.max=9223372036854775807:=by decide
theorem YD(n:Nat)(M:n<=4611686018427387904):PC prog 150 [int n] (str (iD n)):=by
 refine pcd Tryz.func150 ?_;unfold Tryz.f150;simp only[gdS];simp only[go_sem];refine⟨fun ρ _=>∃(m:Nat) (s:ByteArray),ρ 0=int m/\ρ 3=str s/\iD n=iD m++s/\s.size+m<=n,
   fun ρ _=>aV (ρ 0),⟨n,ByteArray.empty,rfl,rfl,by simp,by simp⟩,?_⟩
 rintro ρ H ⟨k,s,h0,F,I,J⟩;simp only[go_sem,h0,F];refine aB (fun E=>?_) (fun u=>?_)
 . have E : 10 <= k := by
     have:(10:Int)<=k:=by simpa using E
     omega
   simp only[go_sem,h0,F,MT,OW,Ju (show k/10<=4611686018427387904 by omega),aF];refine⟨by omega,?_,by omega,⟨k/10,_,rfl,rfl,?_,?_⟩,by omega⟩
   . rw[Bd,uI];omega
   . rw[I,xJ E,ByteArray.append_assoc];rfl
   . rw[ByteArray.size_append,Bd];omega
 . have u : k < 10 := by
     have:¬(10:Int)<=k:=by simpa using u
     omega
   simp only[go_sem,h0,F];refine⟨by rw[Bd,uI];omega,?_⟩;rw[I,sR u];exact .refl _
def Vo:AV->Nat
 | .v (.bool true)=>1
 | _=>0
theorem pF(n:Nat)(hn:n<=4611686018427387904):PC prog 88 [int n] (str (iD n)):=by
 refine pcd Tryz.func88 ?_;unfold Tryz.f88;simp only[gdS];simp only[go_sem];refine⟨fun ρ _=>∃(b:Bool) (m:Nat) (s:ByteArray),ρ 0=int n/\ρ 5=boo b/\ρ 4=int m/\ρ 3=str s/\(b=true->iD n=iD m++s/\s.size+m<=n)/\(b=false->iD n=s),
   fun ρ _=>aV (ρ 4)+Vo (ρ 5),⟨true,n,ByteArray.empty,rfl,rfl,rfl,rfl,fun _=>by simp,by simp⟩,?_⟩
 rintro ρ H ⟨b,k,s,h0,J,F,E,O,T⟩;simp only[go_sem,h0,E,F,J];refine aB (fun u=>?_) (fun u=>?_)
 . subst u
   obtain⟨M,Z⟩:=O rfl;simp only[go_sem,h0,E,F,J,MT,OW];refine⟨by omega,?_⟩;refine aB (fun u=>?_) (fun u=>?_)
   . exfalso;simp at u;omega
   . simp only[go_sem,h0,E,F,J,MT,OW,Ju (show k/10<=4611686018427387904 by omega),aF]
     refine⟨by rw[Bd,uI];omega,by omega,⟨_,k/10,_,rfl,rfl,rfl,?_,?_⟩,?_⟩
     . intro u
       have:10<=k:=by simp at u;omega
       refine⟨?_,?_⟩
       . rw[M,xJ this,ByteArray.append_assoc];rfl
       . rw[ByteArray.size_append,Bd];omega
     . intro u
       have I:k<10:=by simp at u;omega
       rw[M,sR I,Xbb I];rfl
     . rcases Xaw k 10 with h|h
       . have:k/10=0:=by omega
         simp[this,Vo]
       . simp only[Vo];split <;> omega
 . simp only[go_sem,h0,E,F,J]
   refine aB (fun u=>?_) (fun u=>?_)
   . exfalso;simp at u;omega
   . simp only[go_sem,h0,E,F,J]
     rw[T (by assumption)];exact .refl _
def eU(l:List Int)(d:Int):Bool:=if(l.length:Int)=d then l.all fun n=> !(decide (n<0)||decide (n>1000))else false
theorem DQ{α:Type}{p:α->Bool}{l:List α}(h:∀x∈l,p x=true):l.all p=true:=Xao.2 h
theorem D3{α:Type}{p:α->Bool}{l:List α}{x:α}(h:x∈l)(u:p x=false):l.all p=false:=by
 cases E:l.all p with
 | false=>rfl
 | true=>rw[Xao.1 E x h]at u;cases u
theorem iC{α:Type}{l:List α}{k:Nat}{x:α}(h:l[k]?=some x):x∈l:=Xae h
theorem qD{α:Type}{q:α->Prop}{l:List α}{k:Nat}{x:α}(E:l[k]?=some x)(h:∀y∈l.take k,q y)(F:q x):∀y∈l.take (k+1),q y:=by
 rw[bQ E];intro y u;rcases Xba.1 u with u|u
 . exact h y u
 . simp at u;subst u;exact F
theorem aZ{k n:Nat}(h:decide ((k:Int)<(n:Int))=true):k<n:=by simpa using h
theorem bC{k n:Nat}(u:k<=n)(h:decide ((k:Int)<(n:Int))=false):k=n:=by
 have:¬k<n:=by simpa using h
 omega
theorem HZ(l:List Int)(d:Int)(hl:l.length<=1048576):PC prog 147 [.sl (l.map bN),int d] (boo (eU l d)):=by
 refine pcd Tryz.func147 ?_;unfold Tryz.f147;simp only[gdS];simp only[go_sem];refine aB (fun F=>?_) (fun F=>?_)
 . simp only[go_sem]
   have:eU l d=false:=by unfold eU;rw[if_neg (by simpa using F)]
   rw[this];exact .refl _
 . have F:(l.length:Int)=d:=by simpa using F
   simp only[go_sem];refine⟨fun ρ _=>∃k:Nat,k<=l.length/\ρ 0=.sl (l.map bN)/\ρ 5=int k/\∀n∈l.take k,(decide (n<0)||decide (n>1000))=false,fun ρ _=>l.length-aV (ρ 5),⟨0,Xac _,rfl,rfl,by simp⟩,?_⟩;rintro ρ H ⟨k,Z,h0,J,O⟩;simp only[go_sem,h0,J];refine aB (fun u=>?_) (fun E=>?_)
   . have u:=aZ u
     obtain⟨r,I⟩:=aN u;have T:=inB u;simp only[go_sem,h0,J,T,aE I];refine aB (fun M=>?_) (fun M=>?_)
     . simp only[go_sem]
       have:eU l d=false:=by unfold eU;rw[if_pos F];exact D3 (iC I) (by simp only[M];rfl)
       rw[this];exact .refl _
     . simp only[go_sem,h0,J,aP (show k<=4611686018427387904 by omega)]
       exact⟨⟨k+1,u,rfl,qD I O M⟩,by simp only[aF];omega⟩
   . have E:=bC Z E
     subst E;simp only[go_sem];have:eU l d=true:=by unfold eU;rw[if_pos F];exact DQ fun n h=>by rw[O n (by simpa using h)];rfl
     rw[this];exact .refl _
def wL(l:List Int)(d:Int):Bool:=if(!inR l.length 1 3||(l.length:Int) != d)=true then false else l.all fun n=>inR n 0 1000
theorem akL(l:List Int)(d:Int)(hl:l.length<=1048576):PC prog 146 [.sl (l.map bN),int d] (boo (wL l d)):=by
 refine pcd Tryz.func146 ?_;unfold Tryz.f146;simp only[gdS];simp only[go_sem];refine PC.use (mG _ _ _) ?_;simp only[go_sem];refine aB (fun F=>?_) (fun F=>?_)
 . simp only[go_sem]
   have:wL l d=false:=by unfold wL;rw[if_pos F]
   rw[this];exact .refl _
 . simp only[go_sem]
   refine⟨fun ρ _=>∃k:Nat,k<=l.length/\ρ 0=.sl (l.map bN)/\ρ 5=int k/\∀n∈l.take k,inR n 0 1000=true,fun ρ _=>l.length-aV (ρ 5),⟨0,Xac _,rfl,rfl,by simp⟩,?_⟩;rintro ρ H ⟨k,Z,h0,J,O⟩;simp only[go_sem,h0,J];refine aB (fun u=>?_) (fun E=>?_)
   . have u:=aZ u
     obtain⟨r,I⟩:=aN u;have T:=inB u;simp only[go_sem,h0,J,T,aE I];refine PC.use (mG _ _ _) ?_;simp only[go_sem];refine aB (fun M=>?_) (fun M=>?_)
     . simp only[go_sem]
       have:wL l d=false:=by unfold wL;rw[if_neg (by rw[F];simp)];exact D3 (iC I) (by simpa using M)
       rw[this];exact .refl _
     . simp only[go_sem,h0,J,aP (show k<=4611686018427387904 by omega)]
       exact⟨⟨k+1,u,rfl,qD I O (by simpa using M)⟩,by simp only[aF];omega⟩
   . have E:=bC Z E
     subst E;simp only[go_sem];have:wL l d=true:=by unfold wL;rw[if_neg (by rw[F];simp)];exact DQ fun n h=>O n (by simpa using h)
     rw[this];exact .refl _
def rW(s:ByteArray)(i:Nat):Int:=((s.data.getD i 0).toNat:Int)
def jR(s:ByteArray):Bool:=if(decide ((s.size:Int)<1)||decide ((s.size:Int)>16)||Bf (rW s 0))=true then false else(List.range s.size).all fun i=>Ax (rW s i)||Bf (rW s i)
theorem nQ{n k:Nat}(h:k<n):(List.range n)[k]?=some k:=by simp[h]
theorem Pi(s:ByteArray)(Z:s.size<=1048576):PC prog 142 [str s] (boo (jR s)):=by
 refine pcd Tryz.func142 ?_;unfold Tryz.f142;simp only[gdS];simp only[go_sem];refine⟨fun h=>⟨by omega,by simp at h;omega⟩,_,fun _=>(Dm _).q rfl,?_⟩;simp only[go_sem];refine aB (fun I=>?_) (fun I=>?_)
 . simp only[go_sem]
   have:jR s=false:=by unfold jR;rw[if_pos (by exact I)]
   rw[this];exact .refl _
 . simp only[go_sem]
   refine⟨fun ρ _=>∃k:Nat,k<=s.size/\ρ 0=str s/\ρ 3=int k/\∀i∈(List.range s.size).take k,(Ax (rW s i)||Bf (rW s i))=true,fun ρ _=>s.size-aV (ρ 3),⟨0,Xac _,rfl,rfl,by simp⟩,?_⟩;rintro ρ H ⟨k,T,h0,F,O⟩;simp only[go_sem,h0,F];refine aB (fun u=>?_) (fun E=>?_)
   . have u:=aZ u
     have M:=inB u;simp only[go_sem,h0,F,M];refine PC.use (UJ _) ?_;simp only[go_sem,h0,F,M];refine⟨_,fun _=>(Dm _).q rfl,?_⟩;simp only[go_sem];refine aB (fun J=>?_) (fun J=>?_)
     . simp only[go_sem]
       have:jR s=false:=by unfold jR;rw[if_neg (by intro h;exact absurd (h.symm.trans I) (by simp))];exact D3 (iC (nQ u)) (by simpa[rW]using J)
       rw[this];exact .refl _
     . simp only[go_sem,h0,F,aP (show k<=4611686018427387904 by omega)]
       exact⟨⟨k+1,u,rfl,qD (nQ u) O (by
         have:(!Ax (rW s k)&& !Bf (rW s k))=false:=J
         revert this;cases Ax (rW s k) <;> cases Bf (rW s k) <;> simp)⟩,by simp only[aF];omega⟩
   . have E:=bC T E
     subst E;simp only[go_sem];have:jR s=true:=by unfold jR;rw[if_neg (by intro h;exact absurd (h.symm.trans I) (by simp))];exact DQ fun n h=>O n (by rw[Xan (by simp)];exact h)
     rw[this];exact .refl _
def jU(l:List VType):Int:=match l with|[]=>0|t::_=>t.cap.length
theorem I2(l:List VType):PC prog 53 [.sl (l.map bB)] (int (jU l)):=by
 refine pcd Tryz.func53 ?_;unfold Tryz.f53;simp only[gdS];simp only[go_sem];cases l with
 | nil=>
   simp only[go_sem];refine aB (fun u=>?_) (fun u=>?_)
   . simp only[go_sem];exact .refl _
   . simp at u
 | cons t l=>
   refine aB (fun u=>?_) (fun u=>?_)
   . simp at u;omega
   . simp only[go_sem]
     exact⟨⟨by omega,by omega⟩,.refl _⟩
def dO(l:List VType)(k:Nat)(s:ByteArray):Bool:=(l.take k).any fun t=>t.name.toList == s.toList
theorem HK(l:List VType)(m:Nat)(s:ByteArray)(hm:m<=l.length)(hl:l.length<=1048576):PC prog 145 [.sl (l.map bB),int m,str s] (boo (dO l m s)):=by
 refine pcd Tryz.func145 ?_;unfold Tryz.f145;simp only[gdS];simp only[go_sem];refine⟨fun ρ _=>∃k:Nat,k<=m/\ρ 0=.sl (l.map bB)/\ρ 1=int m/\ρ 2=str s/\ρ 7=int k/\∀t∈l.take k,(t.name.toList == s.toList)=false,fun ρ _=>m-aV (ρ 7),⟨0,Xac _,rfl,rfl,rfl,rfl,by simp⟩,?_⟩;rintro ρ H ⟨k,hk,h0,h1,M,F,O⟩;simp only[go_sem,h0,h1,M,F];refine aB (fun u=>?_) (fun E=>?_)
 . have u:=aZ u
   obtain⟨r,I⟩:=aN (show k<l.length by omega);have T:=inB (show k<l.length by omega);simp only[go_sem,h0,h1,M,F,T,aE I];refine aB (fun J=>?_) (fun J=>?_)
   . simp only[go_sem]
     have:dO l m s=true:=by
       refine Xbe.2 ⟨r,?_,J⟩;exact Xae (i:=k) (by rw[List.getElem?_take];simp[u,I])
     rw[this];exact .refl _
   . simp only[go_sem,h0,h1,M,F,aP (show k<=4611686018427387904 by omega)]
     exact⟨⟨k+1,u,rfl,qD I O J⟩,by simp only[aF];omega⟩
 . have E:=bC hk E
   subst E;simp only[go_sem];have:dO l k s=false:=List.any_eq_false.2 fun t Z=>by simp[O t Z]
   rw[this];exact .refl _
def nW(p:Point):Bool:=decide (p.t<0)||decide (p.t>4096)||decide (p.a<p.t)||decide (p.a>IntKind.i64.wrap (p.t+4096))
def Jj(p q:Point):Bool:=decide (p.t<=q.t)||decide (p.a<q.a)
def dF(l:List Point)(i:Nat):Point:=l.getD i ⟨0,0⟩
def EN(n lo hi:Int):Bool:=decide (n<lo)||decide (n>hi)
def fW(l:List Point)(i:Nat):List Fault:=
 opt (nW (dF l i)) ⟨2,iD i⟩++opt (decide ((i:Int)>0)&&Jj (dF l i) (dF l (i-1))) ⟨13,iD i⟩
def iO(l:List Point):List Fault:=opt (EN l.length 1 16) ⟨4,ByteArray.empty⟩++(List.range l.length).flatMap (fW l)
theorem W6(l:List Point)(i:Nat):(fW l i).length<=2:=by
 unfold fW;rw[Xab];have:=bV (nW (dF l i)) (⟨2,iD i⟩:Fault);have:=bV (decide ((i:Int)>0)&&Jj (dF l i) (dF l (i-1))) (⟨13,iD i⟩:Fault);omega
theorem eA{α u:Type}{f:α->List u}{c:Nat}(h:∀x,(f x).length<=c):∀l:List α,(l.flatMap f).length<=c*l.length
 | []=>by simp
 | x::r=>by
   have h1:=h x;have E:=eA h r;simp only[List.flatMap_cons,Xab,Xad,Nat.mul_add,Nat.mul_one];omega
theorem gD{u:Type}(f:Nat->List u)(k:Nat):(List.range (k+1)).flatMap f=(List.range k).flatMap f++f k:=by rw[Xbk,List.flatMap_append];simp
theorem dM{l:List Point}{k:Nat}{p:Point}(h:l[k]?=some p):dF l k=p:=by simp[dF,List.getD,h]
theorem UF(l:List Point)(hl:l.length<=1048576):NC prog 143 [.sl (l.map bU)] (bO (iO l)) .os:=by
 refine ncb (fun t=>t == 3) Tryz.func143 ?_;unfold Tryz.f143;simp only[gdS];simp only[go_sem];refine aM fun j hj=>?_
 simp only[go_sem];refine bM (fun ρ H=>∃j,ρ 0=.sl (l.map bU)/\ρ 3=.os j/\H j=some (bO (opt (EN l.length 1 16) ⟨4,ByteArray.empty⟩))) ?_ fun K hK=>aB (fun M=>?_) (fun M=>?_)
 . rintro ρ H ⟨j,h0,u,I⟩
   simp only[go_sem,h0,u];generalize aa:opt (EN l.length 1 16) (⟨4,ByteArray.empty⟩:Fault)=pre at I;have aj:pre.length<=1:=by rw[<-aa];exact bV _ _
   refine⟨fun ρ H=>∃k:Nat,k<=l.length/\ρ 0=.sl (l.map bU)/\ρ 4=int k/\∃j,ρ 3=.os j/\H j=some (bO (pre++(List.range k).flatMap (fW l))),fun ρ _=>l.length-aV (ρ 4),⟨0,Xac _,by simp only[go_sem,h0],by simp only[go_sem];rfl,j,by simp only[go_sem,u],by simpa using I⟩,?_⟩;rintro ρ H ⟨k,hk,h0,E,j,u,I⟩;generalize ab:pre++(List.range k).flatMap (fW l)=es at I;have ai:es.length<=2*k+1:=by
     have:=eA (W6 l) (List.range k);rw[<-ab,Xab];rw[Xas]at this;omega
   simp only[go_sem,h0,u,E];refine aB (fun O=>?_) (fun ac=>?_)
   . have O:=aZ O
     obtain⟨p,hp⟩:=aN O;have b1:=inB O;simp only[go_sem,h0,u,E,b1,aE hp];refine aM fun i hi=>?_
     simp only[go_sem];refine aJ (r:=⟨104,2,[[int 0,int 0]]⟩) (by rw[aA]) (by simp[fQ]) ?_;simp only[go_sem];have J:j≠i:=aO I hi;have ad:aI (aI H i (some ⟨104,2,[[int 0,int 0]]⟩)) i (some ⟨104,2,[bU p]⟩) j=some (bO es):=by rw[aD _ _ _ _ J,aD _ _ _ _ J,I]
     refine bM (fun F H'=>∃Z,F 0=.sl (l.map bU)/\F 4=int k/\F 3=.os Z/\F 5=.op i 0 0/\H' i=some ⟨104,2,[bU p]⟩/\Z≠i /\
       H' Z=some (bO (es++opt (nW p) ⟨2,iD k⟩))) ?_ fun K hK=>aB (fun M=>?_) (fun M=>?_)
     . rintro ρ H ⟨j,h0,E,u,h5,hi,J,I⟩
       generalize af:es++opt (nW p) ⟨2,iD k⟩=fs at I;have ak:fs.length<=2*k+2:=by
         have:=bV (nW p) (⟨2,iD k⟩:Fault);rw[<-af,Xab];omega
       simp only[go_sem];refine dA (by rfl) (by kernel_rfl) ?_;simp only[go_sem,h0,u,E,h5,hi];obtain⟨q,hq⟩:=aN (show k-1<l.length by omega);simp only[go_sem,h0,u,E,h5,hi,VE (show k<=4611686018427387904 by omega),aE hq];have ah:k<=4611686018427387904:=by omega
       have hg:decide ((k:Int)>0)=true->0<=IntKind.i64.wrap ((k:Int)-1)/\IntKind.i64.wrap ((k:Int)-1)<(l.length:Int):=fun h=>by
         have:(k:Int)>0:=by simpa using h
         rw[mO ah];omega
       have ag:pre++(List.range (k+1)).flatMap (fW l)=fs++opt (decide ((k:Int)>0)&&Jj p q) ⟨13,iD k⟩:=by
         rw[gD,<-Xai,ab,<-af,fW,dM hp,dM hq,Xai]
       refine⟨hg,fun h=>hg h.1,kG (fun F H'=>F 0=.sl (l.map bU)/\F 4=int k/\∃j,F 3=.os j/\H' j=some (bO (pre++(List.range (k+1)).flatMap (fW l)))) ?_ fun K hK _ _=>aB (fun M=>?_) (fun M=>?_)⟩
       . rintro ρ H ⟨h0,E,j,u,I⟩
         simp only[go_sem,h0,u,E,aP ah];exact⟨⟨k+1,O,rfl,j,rfl,I⟩,by simp only[aF];omega⟩
       . simp only[go_sem,h0,u,E]
         refine PC.use (pF _ (by omega)) ?_;simp only[go_sem,h0,u,E];refine bE I ⟨rfl,rfl⟩ (by simp only[go_sem]) (by simp only[Xaa,Xad,List.length_nil];omega) (fun Z T=>?_);simp only[go_sem,h0,u,E];refine hK _ _ ⟨by simp only[go_sem,h0],by simp only[go_sem,E],Z,by simp only[go_sem],?_⟩;rw[ag,gK (by exact M)];exact dZ (l':=[⟨13,iD k⟩]) rfl
       . simp only[go_sem]
         refine hK _ _ ⟨by simp only[go_sem,h0],by simp only[go_sem,E],j,by simp only[go_sem,u],?_⟩;rw[ag,gL (by exact M),Xah,I]
     . simp only[go_sem,h0,u,E]
       refine PC.use (pF _ (by omega)) ?_;simp only[go_sem,h0,u,E];refine bE ad ⟨rfl,rfl⟩ (by simp only[go_sem]) (by simp only[Xaa,Xad,List.length_nil];omega) (fun Z T=>?_);simp only[go_sem,h0,u,E];have ae:=aA (aI H i (some ⟨104,2,[[int 0,int 0]]⟩)) i (some ⟨104,2,[bU p]⟩);refine hK _ _ ⟨Z,by simp only[go_sem,h0],by simp only[go_sem,E],by simp only[go_sem],by simp only[go_sem],cV ae J T,(aO ae T).symm,?_⟩;rw[gK (show nW p=true from M)];exact dZ (l':=[⟨2,iD k⟩]) rfl
     . simp only[go_sem]
       refine hK _ _ ⟨j,by simp only[go_sem,h0],by simp only[go_sem,E],by simp only[go_sem,u],by simp only[go_sem],by rw[aA],J,?_⟩;rw[ad,gL (show nW p=false from M),Xah]
   . have ac:=bC hk ac
     subst ac;simp only[go_sem,u];exact⟨_,rfl,by rw[I,<-ab,<-aa];rfl⟩
 . simp only[go_sem]
   refine bE (r:=bO []) (by simp only[go_sem];rfl) ⟨rfl,rfl⟩ (by simp only[go_sem]) (by simp) (fun Z T=>?_);simp only[go_sem];refine hK _ _ ⟨Z,rfl,rfl,?_⟩;rw[gK (by exact M)];exact dZ (l:=[]) (l':=[⟨4,ByteArray.empty⟩]) rfl
 . simp only[go_sem]
   refine hK _ _ ⟨j,rfl,rfl,?_⟩;rw[gL (by exact M),aA];rfl
def G9(l:List ByteArray)(i:Nat):ByteArray:=l.getD i ByteArray.empty
theorem BL{l:List ByteArray}{k:Nat}{p:ByteArray}(h:l[k]?=some p):G9 l k=p:=by simp[G9,List.getD,h]
def pK(i:Nat):ByteArray:=⟨#[112,108,97,99,101,32]⟩++iD i
def pM(l:List ByteArray)(i:Nat):Bool:=(l.take i).any fun s=>s.toList == (G9 l i).toList
def fA(l:List ByteArray)(i:Nat):List Fault:=match jR (G9 l i)with
 | false=>[⟨5,pK i⟩]
 | true=>opt (pM l i) ⟨6,pK i⟩
theorem Qr(l:List ByteArray)(i:Nat):(fA l i).length<=1:=by
 unfold fA;split
 . simp
 . exact bV _ _
def uE(l:List ByteArray):List Fault:=opt (decide ((l.length:Int)>24)) ⟨4,⟨#[112,108,97,99,101,115]⟩⟩++(List.range l.length).flatMap (fA l)
theorem Ek{α:Type}{p:α->Bool}{l:List α}{k:Nat}{x:α}(h:l[k]?=some x):(l.take (k+1)).any p=((l.take k).any p||p x):=by rw[bQ h,List.any_append];simp
theorem Mc(i:Nat):(pK i).size<=i+7:=by
 have:=lQ i;unfold pK;rw[ByteArray.size_append];have:(⟨#[112,108,97,99,101,32]⟩:ByteArray).size=6:=rfl;omega
theorem US(n:Network)(hl:n.places.length<=1048576)(hs:∀s∈n.places,s.size<=1048576):NC prog 84 [.agg (aU n)] (bO (uE n.places)) .os:=by
 refine ncb (fun t=>t == 3) Tryz.func84 ?_;unfold Tryz.f84;simp only[gdS];simp only[go_sem];refine aM fun j hj=>?_
 simp only[go_sem];refine bM (fun ρ H=>∃j,ρ 1=.rp (aU n) 0/\ρ 3=.os j/\H j=some (bO (opt (decide ((n.places.length:Int)>24)) ⟨4,⟨#[112,108,97,99,101,115]⟩⟩))) ?_ fun K hK=>aB (fun J=>?_) (fun J=>?_)
 . rintro ρ H ⟨j,h1,u,O⟩
   simp only[go_sem,h1,u];generalize T:opt (decide ((n.places.length:Int)>24)) (⟨4,⟨#[112,108,97,99,101,115]⟩⟩:Fault)=pre at O;have ai:pre.length<=1:=by rw[<-T];exact bV _ _
   refine⟨fun ρ H=>∃k:Nat,k<=n.places.length/\ρ 1=.rp (aU n) 0/\ρ 4=int k/\∃j,ρ 3=.os j/\H j=some (bO (pre++(List.range k).flatMap (fA n.places))),fun ρ _=>n.places.length-aV (ρ 4),⟨0,Xac _,by simp only[go_sem,h1],by simp only[go_sem];rfl,j,by simp only[go_sem,u],by simpa using O⟩,?_⟩;rintro ρ H ⟨k,hk,h1,E,j,u,O⟩;generalize aa:pre++(List.range k).flatMap (fA n.places)=es at O;have ag:es.length<=k+1:=by
     have:=eA (Qr n.places) (List.range k);rw[<-aa,Xab];rw[Xas]at this;omega
   simp only[go_sem,h1,u,E];refine aB (fun F=>?_) (fun ab=>?_)
   . have F:=aZ F
     obtain⟨p,hp⟩:=aN F;have b1:=inB F;have af:k<=4611686018427387904:=by omega
     have ah:=lQ k;have ac:pre++(List.range (k+1)).flatMap (fA n.places)=es++fA n.places k:=by rw[gD,<-Xai,aa]
     simp only[go_sem,h1,u,E];refine PC.use (pF _ (by omega)) ?_;simp only[go_sem,h1,u,E,b1,aE hp];refine⟨by rw[uI];show((6+(iD k).size:Nat):Int)<=_;omega,?_⟩;refine PC.use (Pi p (hs p (iC hp))) ?_;simp only[go_sem,h1,u,E];refine aB (fun J=>?_) (fun J=>?_)
     . simp only[go_sem,h1,u,E]
       refine bE O ⟨rfl,rfl⟩ (by simp only[go_sem]) (by simp only[Xaa,Xad,List.length_nil];omega) (fun j' ad=>?_);simp only[go_sem,h1,u,E,aP af];refine⟨⟨k+1,F,rfl,j',rfl,?_⟩,by simp only[aF];omega⟩;have hn:jR (G9 n.places k)=false:=by rw[BL hp];simpa using J
       rw[ac,fA,hn];exact dZ (l':=[⟨5,pK k⟩]) rfl
     . simp only[go_sem,h1,u,E]
       have hn:jR (G9 n.places k)=true:=by rw[BL hp];simpa using J
       refine⟨fun ρ H'=>∃m:Nat,m<=k/\ρ 1=.rp (aU n) 0/\ρ 3=.os j/\ρ 4=int k/\ρ 5=str (pK k)/\ρ 6=boo ((n.places.take m).any fun s=>s.toList == p.toList)/\ρ 7=int m/\H'=H,fun ρ _=>k-aV (ρ 7),⟨0,Xac _,by simp only[go_sem,h1],by simp only[go_sem,u],by simp only[go_sem,E],by simp only[go_sem];rfl,by simp only[go_sem];rfl,by simp only[go_sem];rfl,rfl⟩,?_⟩;rintro ρ H' ⟨m,hm,h1,u,E,h5,h6,h7,rfl⟩;simp only[go_sem,h1,u,E,h5,h6,h7];refine aB (fun I=>?_) (fun M=>?_)
       . have I:=aZ I
         obtain⟨q,hq⟩:=aN (show m<n.places.length by omega);have b2:=inB (show m<n.places.length by omega);simp only[go_sem];refine dA (by rfl) (by kernel_rfl) ?_;simp only[go_sem,h1,u,E,h5,h6,h7,b1,b2,aE hp,aE hq,aP (show m<=4611686018427387904 by omega)];refine⟨⟨m+1,I,?_,rfl⟩,by simp only[aF];omega⟩;rw[Ek hq]
       . have M:=bC hm M
         subst M;simp only[go_sem,h6];have ae:pM n.places m=(n.places.take m).any fun s=>s.toList == p.toList:=by unfold pM;rw[BL hp]
         refine kG (fun Z H'=>Z 1=.rp (aU n) 0/\Z 4=int m/\∃j,Z 3=.os j/\H' j=some (bO (pre++(List.range (m+1)).flatMap (fA n.places)))) ?_ fun K hK _ _=>aB (fun J=>?_) (fun J=>?_)
         . rintro ρ H ⟨h1,E,j,u,O⟩
           simp only[go_sem,h1,u,E,aP af];exact⟨⟨m+1,F,rfl,j,rfl,O⟩,by simp only[aF];omega⟩
         . simp only[go_sem,h1,u,E,h5]
           refine bE O ⟨rfl,rfl⟩ (by simp only[go_sem]) (by simp only[Xaa,Xad,List.length_nil];omega) (fun j' ad=>?_);simp only[go_sem];refine hK _ _ ⟨by simp only[go_sem,h1],by simp only[go_sem,E],j',by simp only[go_sem],?_⟩;rw[ac,fA,hn];show _=some (bO (es++opt (pM n.places m) ⟨6,pK m⟩));rw[gK (ae.trans J)];exact dZ (l':=[⟨6,pK m⟩]) rfl
         . simp only[go_sem]
           refine hK _ _ ⟨by simp only[go_sem,h1],by simp only[go_sem,E],j,by simp only[go_sem,u],?_⟩;rw[ac,fA,hn];show _=some (bO (es++opt (pM n.places m) ⟨6,pK m⟩));rw[gL (ae.trans J),Xah,O]
   . have ab:=bC hk ab
     subst ab;simp only[go_sem,u];exact⟨_,rfl,by rw[O,<-aa,<-T];rfl⟩
 . simp only[go_sem]
   refine bE (r:=bO []) (by simp only[go_sem];rfl) ⟨rfl,rfl⟩ (by simp only[go_sem]) (by simp) (fun j' ad=>?_);simp only[go_sem];refine hK _ _ ⟨j',rfl,rfl,?_⟩;rw[gK (by exact J)];exact dZ (l:=[]) (l':=[⟨4,⟨#[112,108,97,99,101,115]⟩⟩]) rfl
 . simp only[go_sem]
   refine hK _ _ ⟨j,rfl,rfl,?_⟩;rw[gL (by exact J),aA];rfl
def N8(l:List VType)(i:Nat):VType:=l.getD i ⟨ByteArray.empty,0,0,0,[],0,0,0,0,0,0,0,0,0⟩
theorem KZ{l:List VType}{k:Nat}{p:VType}(h:l[k]?=some p):N8 l k=p:=by simp[N8,List.getD,h]
def lE(n:Network)(l:List VType)(k:Nat)(t:VType):List Int:=
 []++opt (!jR t.name) 5++opt (dO l k t.name) 6++opt (!inR t.count 0 10) 22++opt (!inR t.src 0 (n.places.length-1)|| !inR t.dst 0 (n.places.length-1)) 11
   ++ opt (!wL t.cap (jU l)) 17++opt (!inR t.skills 0 1073741823) 18++opt (!inR t.start 0 t.close||decide (t.close>4096)) 15
   ++ opt (!inR t.drive 1 4096|| !inR t.rest 0 4096) 16++opt (!inR t.profile 0 7|| !inR t.fixed 0 100000|| !inR t.perMile 0 100|| !inR t.perTick 0 100) 2
theorem TV(n:Network)(l:List VType)(k:Nat)(hk:k<l.length)(hl:l.length<=1048576)(hs:∀t∈l,t.name.size<=1048576/\t.cap.length<=1048576)(hp:n.places.length<=1048576):
   PC prog 87 [.agg (aU n),.sl (l.map bB),int k] (.sl ((lE n l k (N8 l k)).map bN)):=by
 refine pcb (fun t=>t == 8) Tryz.func87 ?_;unfold Tryz.f87;simp only[gdS];simp only[go_sem];obtain⟨t,ht⟩:=aN hk;have b1:=inB hk;have ak:=hs t (iC ht);rw[KZ ht];simp only[go_sem,b1,aE ht];refine aM fun i J=>?_
 simp only[go_sem];refine aJ (aA _ _ _) (by simp[jB]) ?_;simp only[go_sem];refine aM fun j hj=>?_
 have am:=jG (r':=(⟨45,1,[]⟩:Row)) (aA _ _ _) hj;simp only[go_sem,am];refine PC.use (Pi _ ak.1) ?_;simp only[go_sem];refine nJ (fun u H'=>u 1=.sl (l.map bB)/\u 2=int k/\u 3=.rp (aU n) 0/\u 7=.op i 0 0/\H' i=some (jS t)/\∃O,u 8=.os O/\O≠i/\H' O=some (jF [])) ⟨by simp only[go_sem],by simp only[go_sem],by simp only[go_sem],by simp only[go_sem],jG (aA _ _ _) hj,_,by simp only[go_sem],(aO (aA _ _ _) hj).symm,aA _ _ _⟩ ?_;rintro ρ H ⟨h1,F,E,I,J,j,M,T,hH⟩;generalize aj:([]:List Int)=es0 at hH;have aq:es0.length<=0:=by rw[<-aj];exact Xaf _
 refine bM (fun u H'=>u 1=.sl (l.map bB)/\u 2=int k/\u 3=.rp (aU n) 0/\u 7=.op i 0 0/\H' i=some (jS t)/\∃O,u 8=.os O/\O≠i/\H' O=some (jF (es0++opt (!jR t.name) 5))) ?_ fun K hK=>aB (fun hb=>?_) (fun hb=>?_)
 rotate_left
 . simp only[go_sem,h1,F,E,I,M]
   refine bE hH ⟨rfl,rfl⟩ (by simp only[go_sem]) (by simp only[Xaa,Xad,List.length_nil];omega) (fun O Z=>?_);simp only[go_sem];refine hK _ _ ⟨by simp only[go_sem,h1],by simp only[go_sem,F],by simp only[go_sem,E],by simp only[go_sem,I],cV J T Z,O,by simp only[go_sem],(aO J Z).symm,?_⟩;rw[gK (show(!jR t.name)=true from hb)];exact fI (l':=[5]) rfl
 . simp only[go_sem]
   refine hK _ _ ⟨by simp only[go_sem,h1],by simp only[go_sem,F],by simp only[go_sem,E],by simp only[go_sem,I],J,j,by simp only[go_sem,M],T,?_⟩;rw[gL (show(!jR t.name)=false from hb),Xah,hH]
 clear hH h1 F E I M;rintro ρ H ⟨h1,F,E,I,J,j,M,T,hH⟩;generalize ae:es0++opt (!jR t.name) (5:Int)=es1 at hH;have ay:es1.length<=es0.length+1:=by rw[<-ae,Xab];have:=bV (!jR t.name) (5:Int);omega
 simp only[go_sem,h1,F,E,I,M,J];refine PC.use (HK l k t.name (by omega) hl) ?_;simp only[go_sem];refine bM (fun u H'=>u 1=.sl (l.map bB)/\u 2=int k/\u 3=.rp (aU n) 0/\u 7=.op i 0 0/\H' i=some (jS t)/\∃O,u 8=.os O/\O≠i/\H' O=some (jF (es1++opt (dO l k t.name) 6))) ?_ fun K hK=>aB (fun hb=>?_) (fun hb=>?_)
 rotate_left
 . simp only[go_sem,h1,F,E,I,M]
   refine bE hH ⟨rfl,rfl⟩ (by simp only[go_sem]) (by simp only[Xaa,Xad,List.length_nil];omega) (fun O Z=>?_);simp only[go_sem];refine hK _ _ ⟨by simp only[go_sem,h1],by simp only[go_sem,F],by simp only[go_sem,E],by simp only[go_sem,I],cV J T Z,O,by simp only[go_sem],(aO J Z).symm,?_⟩;rw[gK (show(dO l k t.name)=true from hb)];exact fI (l':=[6]) rfl
 . simp only[go_sem]
   refine hK _ _ ⟨by simp only[go_sem,h1],by simp only[go_sem,F],by simp only[go_sem,E],by simp only[go_sem,I],J,j,by simp only[go_sem,M],T,?_⟩;rw[gL (show(dO l k t.name)=false from hb),Xah,hH]
 clear hH h1 F E I M;rintro ρ H ⟨h1,F,E,I,J,j,M,T,hH⟩;generalize ag:es1++opt (dO l k t.name) (6:Int)=es2 at hH;have ap:es2.length<=es1.length+1:=by rw[<-ag,Xab];have:=bV (dO l k t.name) (6:Int);omega
 simp only[go_sem,h1,F,E,I,M,J];refine PC.use (mG _ _ _) ?_;simp only[go_sem];refine bM (fun u H'=>u 1=.sl (l.map bB)/\u 2=int k/\u 3=.rp (aU n) 0/\u 7=.op i 0 0/\H' i=some (jS t)/\∃O,u 8=.os O/\O≠i/\H' O=some (jF (es2++opt (!inR t.count 0 10) 22))) ?_ fun K hK=>aB (fun hb=>?_) (fun hb=>?_)
 rotate_left
 . simp only[go_sem,h1,F,E,I,M]
   refine bE hH ⟨rfl,rfl⟩ (by simp only[go_sem]) (by simp only[Xaa,Xad,List.length_nil];omega) (fun O Z=>?_);simp only[go_sem];refine hK _ _ ⟨by simp only[go_sem,h1],by simp only[go_sem,F],by simp only[go_sem,E],by simp only[go_sem,I],cV J T Z,O,by simp only[go_sem],(aO J Z).symm,?_⟩;rw[gK (show(!inR t.count 0 10)=true from hb)];exact fI (l':=[22]) rfl
 . simp only[go_sem]
   refine hK _ _ ⟨by simp only[go_sem,h1],by simp only[go_sem,F],by simp only[go_sem,E],by simp only[go_sem,I],J,j,by simp only[go_sem,M],T,?_⟩;rw[gL (show(!inR t.count 0 10)=false from hb),Xah,hH]
 clear hH h1 F E I M;rintro ρ H ⟨h1,F,E,I,J,j,M,T,hH⟩;generalize ad:es2++opt (!inR t.count 0 10) (22:Int)=es3 at hH;have av:es3.length<=es2.length+1:=by rw[<-ad,Xab];have:=bV (!inR t.count 0 10) (22:Int);omega
 simp only[go_sem,h1,F,E,I,M,J,mO (show n.places.length<=4611686018427387904 by omega)];refine PC.use (mG _ _ _) ?_;simp only[go_sem,h1,F,E,I,M,J,mO (show n.places.length<=4611686018427387904 by omega)];refine⟨_,fun _=>(mG _ _ _).q rfl,?_⟩;simp only[go_sem,h1,F,E,I,M,J];refine bM (fun u H'=>u 1=.sl (l.map bB)/\u 2=int k/\u 3=.rp (aU n) 0/\u 7=.op i 0 0/\H' i=some (jS t)/\∃O,u 8=.os O/\O≠i/\H' O=some (jF (es3++opt (!inR t.src 0 (n.places.length-1)|| !inR t.dst 0 (n.places.length-1)) 11))) ?_ fun K hK=>aB (fun hb=>?_) (fun hb=>?_)
 rotate_left
 . simp only[go_sem,h1,F,E,I,M]
   refine bE hH ⟨rfl,rfl⟩ (by simp only[go_sem]) (by simp only[Xaa,Xad,List.length_nil];omega) (fun O Z=>?_);simp only[go_sem];refine hK _ _ ⟨by simp only[go_sem,h1],by simp only[go_sem,F],by simp only[go_sem,E],by simp only[go_sem,I],cV J T Z,O,by simp only[go_sem],(aO J Z).symm,?_⟩;rw[gK (show(!inR t.src 0 (n.places.length-1)|| !inR t.dst 0 (n.places.length-1))=true from hb)];exact fI (l':=[11]) rfl
 . simp only[go_sem]
   refine hK _ _ ⟨by simp only[go_sem,h1],by simp only[go_sem,F],by simp only[go_sem,E],by simp only[go_sem,I],J,j,by simp only[go_sem,M],T,?_⟩;rw[gL (show(!inR t.src 0 (n.places.length-1)|| !inR t.dst 0 (n.places.length-1))=false from hb),Xah,hH]
 clear hH h1 F E I M;rintro ρ H ⟨h1,F,E,I,J,j,M,T,hH⟩;generalize ah:es3++opt (!inR t.src 0 (n.places.length-1)|| !inR t.dst 0 (n.places.length-1)) (11:Int)=es4 at hH;have ax:es4.length<=es3.length+1:=by rw[<-ah,Xab];have:=bV (!inR t.src 0 (n.places.length-1)|| !inR t.dst 0 (n.places.length-1)) (11:Int);omega
 simp only[go_sem,h1,F,E,I,M,J];refine dA (by rfl) (by kernel_rfl) ?_;simp only[go_sem,h1,F,E,I,M,J];refine⟨_,(I2 l).q rfl,?_⟩;simp only[go_sem,h1,F,E,I,M,J];refine⟨_,(akL t.cap (jU l) ak.2).q rfl,?_⟩;simp only[go_sem,h1,F,E,I,M,J];refine bM (fun u H'=>u 1=.sl (l.map bB)/\u 2=int k/\u 3=.rp (aU n) 0/\u 7=.op i 0 0/\H' i=some (jS t)/\∃O,u 8=.os O/\O≠i/\H' O=some (jF (es4++opt (!wL t.cap (jU l)) 17))) ?_ fun K hK=>aB (fun hb=>?_) (fun hb=>?_)
 rotate_left
 . simp only[go_sem,h1,F,E,I,M]
   refine bE hH ⟨rfl,rfl⟩ (by simp only[go_sem]) (by simp only[Xaa,Xad,List.length_nil];omega) (fun O Z=>?_);simp only[go_sem];refine hK _ _ ⟨by simp only[go_sem,h1],by simp only[go_sem,F],by simp only[go_sem,E],by simp only[go_sem,I],cV J T Z,O,by simp only[go_sem],(aO J Z).symm,?_⟩;rw[gK (show(!wL t.cap (jU l))=true from hb)];exact fI (l':=[17]) rfl
 . simp only[go_sem]
   refine hK _ _ ⟨by simp only[go_sem,h1],by simp only[go_sem,F],by simp only[go_sem,E],by simp only[go_sem,I],J,j,by simp only[go_sem,M],T,?_⟩;rw[gL (show(!wL t.cap (jU l))=false from hb),Xah,hH]
 clear hH h1 F E I M;rintro ρ H ⟨h1,F,E,I,J,j,M,T,hH⟩;generalize af:es4++opt (!wL t.cap (jU l)) (17:Int)=es5 at hH;have ao:es5.length<=es4.length+1:=by rw[<-af,Xab];have:=bV (!wL t.cap (jU l)) (17:Int);omega
 simp only[go_sem,h1,F,E,I,M,J];refine PC.use (mG _ _ _) ?_;simp only[go_sem,h1,F,E,I,M,J];refine bM (fun u H'=>u 1=.sl (l.map bB)/\u 2=int k/\u 3=.rp (aU n) 0/\u 7=.op i 0 0/\H' i=some (jS t)/\∃O,u 8=.os O/\O≠i/\H' O=some (jF (es5++opt (!inR t.skills 0 1073741823) 18))) ?_ fun K hK=>aB (fun hb=>?_) (fun hb=>?_)
 rotate_left
 . simp only[go_sem,h1,F,E,I,M]
   refine bE hH ⟨rfl,rfl⟩ (by simp only[go_sem]) (by simp only[Xaa,Xad,List.length_nil];omega) (fun O Z=>?_);simp only[go_sem];refine hK _ _ ⟨by simp only[go_sem,h1],by simp only[go_sem,F],by simp only[go_sem,E],by simp only[go_sem,I],cV J T Z,O,by simp only[go_sem],(aO J Z).symm,?_⟩;rw[gK (show(!inR t.skills 0 1073741823)=true from hb)];exact fI (l':=[18]) rfl
 . simp only[go_sem]
   refine hK _ _ ⟨by simp only[go_sem,h1],by simp only[go_sem,F],by simp only[go_sem,E],by simp only[go_sem,I],J,j,by simp only[go_sem,M],T,?_⟩;rw[gL (show(!inR t.skills 0 1073741823)=false from hb),Xah,hH]
 clear hH h1 F E I M;rintro ρ H ⟨h1,F,E,I,J,j,M,T,hH⟩;generalize ab:es5++opt (!inR t.skills 0 1073741823) (18:Int)=es6 at hH;have an:es6.length<=es5.length+1:=by rw[<-ab,Xab];have:=bV (!inR t.skills 0 1073741823) (18:Int);omega
 simp only[go_sem,h1,F,E,I,M,J];refine PC.use (mG _ _ _) ?_;simp only[go_sem,h1,F,E,I,M,J];refine bM (fun u H'=>u 1=.sl (l.map bB)/\u 2=int k/\u 3=.rp (aU n) 0/\u 7=.op i 0 0/\H' i=some (jS t)/\∃O,u 8=.os O/\O≠i/\H' O=some (jF (es6++opt (!inR t.start 0 t.close||decide (t.close>4096)) 15))) ?_ fun K hK=>aB (fun hb=>?_) (fun hb=>?_)
 rotate_left
 . simp only[go_sem,h1,F,E,I,M]
   refine bE hH ⟨rfl,rfl⟩ (by simp only[go_sem]) (by simp only[Xaa,Xad,List.length_nil];omega) (fun O Z=>?_);simp only[go_sem];refine hK _ _ ⟨by simp only[go_sem,h1],by simp only[go_sem,F],by simp only[go_sem,E],by simp only[go_sem,I],cV J T Z,O,by simp only[go_sem],(aO J Z).symm,?_⟩;rw[gK (show(!inR t.start 0 t.close||decide (t.close>4096))=true from hb)];exact fI (l':=[15]) rfl
 . simp only[go_sem]
   refine hK _ _ ⟨by simp only[go_sem,h1],by simp only[go_sem,F],by simp only[go_sem,E],by simp only[go_sem,I],J,j,by simp only[go_sem,M],T,?_⟩;rw[gL (show(!inR t.start 0 t.close||decide (t.close>4096))=false from hb),Xah,hH]
 clear hH h1 F E I M;rintro ρ H ⟨h1,F,E,I,J,j,M,T,hH⟩;generalize aa:es6++opt (!inR t.start 0 t.close||decide (t.close>4096)) (15:Int)=es7 at hH;have au:es7.length<=es6.length+1:=by rw[<-aa,Xab];have:=bV (!inR t.start 0 t.close||decide (t.close>4096)) (15:Int);omega
 simp only[go_sem,h1,F,E,I,M,J];refine PC.use (mG _ _ _) ?_;simp only[go_sem,h1,F,E,I,M,J];refine⟨_,fun _=>(mG _ _ _).q rfl,?_⟩;simp only[go_sem,h1,F,E,I,M,J];refine bM (fun u H'=>u 1=.sl (l.map bB)/\u 2=int k/\u 3=.rp (aU n) 0/\u 7=.op i 0 0/\H' i=some (jS t)/\∃O,u 8=.os O/\O≠i/\H' O=some (jF (es7++opt (!inR t.drive 1 4096|| !inR t.rest 0 4096) 16))) ?_ fun K hK=>aB (fun hb=>?_) (fun hb=>?_)
 rotate_left
 . simp only[go_sem,h1,F,E,I,M]
   refine bE hH ⟨rfl,rfl⟩ (by simp only[go_sem]) (by simp only[Xaa,Xad,List.length_nil];omega) (fun O Z=>?_);simp only[go_sem];refine hK _ _ ⟨by simp only[go_sem,h1],by simp only[go_sem,F],by simp only[go_sem,E],by simp only[go_sem,I],cV J T Z,O,by simp only[go_sem],(aO J Z).symm,?_⟩;rw[gK (show(!inR t.drive 1 4096|| !inR t.rest 0 4096)=true from hb)];exact fI (l':=[16]) rfl
 . simp only[go_sem]
   refine hK _ _ ⟨by simp only[go_sem,h1],by simp only[go_sem,F],by simp only[go_sem,E],by simp only[go_sem,I],J,j,by simp only[go_sem,M],T,?_⟩;rw[gL (show(!inR t.drive 1 4096|| !inR t.rest 0 4096)=false from hb),Xah,hH]
 clear hH h1 F E I M;rintro ρ H ⟨h1,F,E,I,J,j,M,T,hH⟩;generalize ac:es7++opt (!inR t.drive 1 4096|| !inR t.rest 0 4096) (16:Int)=es8 at hH;have ar:es8.length<=es7.length+1:=by rw[<-ac,Xab];have:=bV (!inR t.drive 1 4096|| !inR t.rest 0 4096) (16:Int);omega
 simp only[go_sem,h1,F,E,I,M,J];refine PC.use (mG _ _ _) ?_;simp only[go_sem,h1,F,E,I,M,J];refine⟨_,fun _=>(mG _ _ _).q rfl,?_⟩;simp only[go_sem,h1,F,E,I,M,J];refine⟨_,fun _=>(mG _ _ _).q rfl,?_⟩;simp only[go_sem,h1,F,E,I,M,J];refine⟨_,fun _=>(mG _ _ _).q rfl,?_⟩;simp only[go_sem,h1,F,E,I,M,J];refine bM (fun u H'=>u 1=.sl (l.map bB)/\u 2=int k/\u 3=.rp (aU n) 0/\u 7=.op i 0 0/\H' i=some (jS t)/\∃O,u 8=.os O/\O≠i/\H' O=some (jF (es8++opt (!inR t.profile 0 7|| !inR t.fixed 0 100000|| !inR t.perMile 0 100|| !inR t.perTick 0 100) 2))) ?_ fun K hK=>aB (fun hb=>?_) (fun hb=>?_)
 rotate_left
 . simp only[go_sem,h1,F,E,I,M]
   refine bE hH ⟨rfl,rfl⟩ (by simp only[go_sem]) (by simp only[Xaa,Xad,List.length_nil];omega) (fun O Z=>?_);simp only[go_sem];refine hK _ _ ⟨by simp only[go_sem,h1],by simp only[go_sem,F],by simp only[go_sem,E],by simp only[go_sem,I],cV J T Z,O,by simp only[go_sem],(aO J Z).symm,?_⟩;rw[gK (show(!inR t.profile 0 7|| !inR t.fixed 0 100000|| !inR t.perMile 0 100|| !inR t.perTick 0 100)=true from hb)];exact fI (l':=[2]) rfl
 . simp only[go_sem]
   refine hK _ _ ⟨by simp only[go_sem,h1],by simp only[go_sem,F],by simp only[go_sem,E],by simp only[go_sem,I],J,j,by simp only[go_sem,M],T,?_⟩;rw[gL (show(!inR t.profile 0 7|| !inR t.fixed 0 100000|| !inR t.perMile 0 100|| !inR t.perTick 0 100)=false from hb),Xah,hH]
 clear hH h1 F E I M;rintro ρ H ⟨h1,F,E,I,J,j,M,T,hH⟩;generalize ai:es8++opt (!inR t.profile 0 7|| !inR t.fixed 0 100000|| !inR t.perMile 0 100|| !inR t.perTick 0 100) (2:Int)=es9 at hH;have aw:es9.length<=es8.length+1:=by rw[<-ai,Xab];have:=bV (!inR t.profile 0 7|| !inR t.fixed 0 100000|| !inR t.perMile 0 100|| !inR t.perTick 0 100) (2:Int);omega
 simp only[go_sem,h1,F,E,I,M,J];have al:lE n l k t=es9:=by unfold lE;rw[aj,ae,ag,ad,ah,af,ab,aa,ac,ai]
 rw[al];exact .row _ _ _ hH (ConvE.refl _)
def gO(n:Network)(l:List VType)(k:Nat):List Fault:=(lE n l k (N8 l k)).map fun e=>⟨e,iD k⟩
def sE(n:Network)(l:List VType):List Fault:=opt (!inR l.length 1 6) ⟨4,ByteArray.empty⟩++(List.range l.length).flatMap (gO n l)
theorem uF(n:Network)(l:List VType)(k:Nat)(t:VType):(lE n l k t).length<=9:=by
 unfold lE;simp only[Xab,List.length_nil];have h:=fun(b:Bool) (x:Int)=>bV b x
 have h1:=h (!jR t.name) 5;have O:=h (dO l k t.name) 6;have u:=h (!inR t.count 0 10) 22;have T:=h (!inR t.src 0 (n.places.length-1)|| !inR t.dst 0 (n.places.length-1)) 11;have E:=h (!wL t.cap (jU l)) 17;have M:=h (!inR t.skills 0 1073741823) 18;have I:=h (!inR t.start 0 t.close||decide (t.close>4096)) 15;have J:=h (!inR t.drive 1 4096|| !inR t.rest 0 4096) 16;have F:=h (!inR t.profile 0 7|| !inR t.fixed 0 100000|| !inR t.perMile 0 100|| !inR t.perTick 0 100) 2;omega
theorem A3{α u:Type}{f:α->u}{l:List α}{k:Nat}{x:α}(h:l[k]?=some x):(l.take (k+1)).map f=(l.take k).map f++[f x]:=by rw[bQ h,Xam];rfl
theorem XP(n:Network)(l:List VType)(hl:l.length<=1048576)(hs:∀t∈l,t.name.size<=1048576/\t.cap.length<=1048576)(hp:n.places.length<=1048576):
   NC prog 51 [.agg (aU n),.sl (l.map bB)] (bO (sE n l)) .os:=by
 refine ncb (fun t=>t == 5) Tryz.func51 ?_;unfold Tryz.f51;simp only[gdS];simp only[go_sem];refine aM fun j hj=>?_
 simp only[go_sem];refine PC.use (mG _ _ _) ?_;simp only[go_sem];refine nJ (fun I H'=>I 1=.sl (l.map bB)/\I 2=.rp (aU n) 0/\∃T,I 5=.os T/\H' T=some (bO [])) ⟨by simp only[go_sem],by simp only[go_sem],_,by simp only[go_sem],aA _ _ _⟩ ?_;rintro ρ H ⟨h1,u,j,J,F⟩;generalize ab:([]:List Fault)=es0 at F;have aj:es0.length<=0:=by rw[<-ab];exact Xaf _
 refine bM (fun I H'=>I 1=.sl (l.map bB)/\I 2=.rp (aU n) 0/\∃T,I 5=.os T/\H' T=some (bO (es0++opt (!inR l.length 1 6) ⟨4,ByteArray.empty⟩))) ?_ fun K hK=>aB (fun hb=>?_) (fun hb=>?_)
 rotate_left
 . simp only[go_sem,h1,u,J]
   refine bE F ⟨rfl,rfl⟩ (by simp only[go_sem]) (by simp only[Xaa,Xad,List.length_nil];omega) (fun T af=>?_);simp only[go_sem];refine hK _ _ ⟨by simp only[go_sem,h1],by simp only[go_sem,u],T,by simp only[go_sem],?_⟩;rw[gK (show(!inR l.length 1 6)=true from hb)];exact dZ (l':=[⟨4,ByteArray.empty⟩]) rfl
 . simp only[go_sem]
   refine hK _ _ ⟨by simp only[go_sem,h1],by simp only[go_sem,u],j,by simp only[go_sem,J],?_⟩;rw[gL (show(!inR l.length 1 6)=false from hb),Xah,F]
 clear F h1 u J;rintro ρ H ⟨h1,u,j,J,F⟩;generalize aa:es0++opt (!inR l.length 1 6) (⟨4,ByteArray.empty⟩:Fault)=es1 at F;have al:es1.length<=es0.length+1:=by rw[<-aa,Xab];have:=bV (!inR l.length 1 6) (⟨4,ByteArray.empty⟩:Fault);omega
 simp only[go_sem,h1,u];refine⟨fun ρ H=>∃k:Nat,k<=l.length/\ρ 1=.sl (l.map bB)/\ρ 2=.rp (aU n) 0/\ρ 6=int k/\∃j,ρ 5=.os j/\H j=some (bO (es1++(List.range k).flatMap (gO n l))),fun ρ _=>l.length-aV (ρ 6),⟨0,Xac _,by simp only[go_sem,h1],by simp only[go_sem,u],by simp only[go_sem];rfl,j,by simp only[go_sem,J],by simpa using F⟩,?_⟩;clear F h1 u J hj;rintro ρ H ⟨k,hk,h1,u,O,j,J,F⟩;generalize ac:es1++(List.range k).flatMap (gO n l)=es at F;have ak:es.length<=9*k+1:=by
   have:=eA (f:=gO n l) (c:=9) (fun x=>by unfold gO;rw[Xaa];exact uF _ _ _ _) (List.range k);rw[<-ac,Xab];rw[Xas]at this;omega
 simp only[go_sem,h1,u,O,J];refine aB (fun Z=>?_) (fun ad=>?_)
 . have Z:=aZ Z
   have ai:k<=4611686018427387904:=by omega
   have ah:es1++(List.range (k+1)).flatMap (gO n l)=es++gO n l k:=by rw[gD,<-Xai,ac]
   simp only[go_sem,h1,u,O];refine PC.use (TV n l k Z hl hs hp) ?_;simp only[go_sem];have ag:=uF n l k (N8 l k);have ae:gO n l k=(lE n l k (N8 l k)).map fun e=>⟨e,iD k⟩:=rfl
   generalize lE n l k (N8 l k)=er at ag ae;refine⟨fun ρ H=>∃m:Nat,m<=er.length/\ρ 1=.sl (l.map bB)/\ρ 2=.rp (aU n) 0/\ρ 6=int k/\ρ 7=.sl (er.map bN)/\ρ 8=int m/\∃j,ρ 5=.os j/\H j=some (bO (es++(er.take m).map fun e=>⟨e,iD k⟩)),fun ρ _=>er.length-aV (ρ 8),⟨0,Xac _,by simp only[go_sem,h1],by simp only[go_sem,u],by simp only[go_sem,O],by simp only[go_sem],by simp only[go_sem];rfl,j,by simp only[go_sem,J],by simpa using F⟩,?_⟩;clear F h1 u J O;rintro ρ H ⟨m,hm,h1,u,O,h7,h8,j,J,F⟩;simp only[go_sem,h1,u,O,J,h7,h8];refine aB (fun E=>?_) (fun M=>?_)
   . have E:=aZ E
     obtain⟨e,he⟩:=aN E;have b2:=inB E;simp only[go_sem];refine Dn (by kernel_rfl) ?_;simp only[go_sem,h1,u,O,J,h7,h8,b2,aE he];refine⟨_,(pF _ (by omega)).q rfl,?_⟩;simp only[go_sem];refine bE F ⟨rfl,rfl⟩ (by simp only[go_sem]) (by simp only[Xaa,Xab,Xal,Xad,List.length_nil];omega) (fun T af=>?_);simp only[go_sem,h1,u,O,h7,h8,aP (show m<=4611686018427387904 by omega)];refine⟨⟨m+1,E,rfl,T,rfl,?_⟩,by simp only[aF];omega⟩;rw[A3 he,<-Xai];exact dZ (l':=[⟨e,iD k⟩]) rfl
   . have M:=bC hm M
     subst M;simp only[go_sem,h1,u,O,J,aP ai];refine⟨⟨k+1,Z,rfl,j,rfl,?_⟩,by simp only[aF];omega⟩;rw[ah,F,ae,Xag]
 . have ad:=bC hk ad
   subst ad;simp only[go_sem,J];exact⟨_,rfl,by rw[F,<-ac,<-aa,<-ab];rfl⟩
def yZ(l:List Order)(k:Nat)(s:ByteArray):Bool:=(l.take k).any fun t=>t.name.toList == s.toList
def jP(P:Nat)(d T:Int)(l:List Order)(k:Nat)(o:Order):List Int:=
 []++opt (!jR o.name) 5++opt (yZ l k o.name) 6++opt (!eU o.load d) 17++opt (!inR o.pick.place (-1) ((P:Int)-1)|| !inR o.drop.place (-1) ((P:Int)-1)) 11++opt (o.pick.place == -1&&o.drop.place == -1) 19++opt (fF o.pick != 0||fF o.drop != 0) 14++opt (!inR o.skills 0 1073741823) 18++opt (!inR o.penalty (-1) 1000000|| !inR o.split 1 4||decide (o.split>1)&&(o.pick.place != -1&&o.drop.place != -1)||decide (o.last< -1)||decide (o.last>=T)||decide (o.now< -1)||decide (o.now>=T)) 2
theorem TU(P:Nat)(d T:Int)(l:List Order)(k:Nat)(o:Order)(ho:l[k]?=some o)(hP:P<=1048576)(hl:l.length<=1048576)(hs:∀t∈l,t.name.size<=1048576/\t.load.length<=1048576):
   PC prog 89 [int P,int d,int T,.sl (l.map bD),int k] (.sl ((jP P d T l k o).map bN)):=by
 refine pcb (fun t=>t == 11) Tryz.func89 ?_;unfold Tryz.f89;simp only[gdS];simp only[go_sem];have hk:k<l.length:=by
   rcases Xaw k l.length with h|h
   . exact h
   . rw[List.getElem?_eq_none h]at ho;simp at ho
 have b1:=inB hk;have an:=hs o (iC ho);refine aM fun j hj=>?_
 simp only[go_sem,b1,aE ho];refine aM fun i Z=>?_
 simp only[go_sem];refine aJ (aA _ _ _) (by simp[oP]) ?_;simp only[go_sem];refine PC.use (Pi _ an.1) ?_;simp only[go_sem];have O:j≠i:=aO (aA _ _ _) Z;refine nJ (fun u H'=>u 0=int P/\u 1=int d/\u 2=int T/\u 3=.sl (l.map bD)/\u 4=int k/\u 12=.op i 0 0/\H' i=some (kA o)/\∃j',u 11=.os j'/\j'≠i/\H' j'=some (jF []))
   ⟨by simp only[go_sem],by simp only[go_sem],by simp only[go_sem],by simp only[go_sem],by simp only[go_sem],by simp only[go_sem],aA _ _ _,j,by simp only[go_sem],O,by rw[aD _ _ _ _ O,aD _ _ _ _ O,aA];rfl⟩ ?_
 clear Z hj O;rintro ρ H ⟨h0,h1,M,I,J,E,Z,j,F,O,hH⟩;generalize al:([]:List Int)=es0 at hH;have au:es0.length<=0:=by rw[<-al];exact Xaf _
 refine bM (fun u H'=>u 0=int P/\u 1=int d/\u 2=int T/\u 3=.sl (l.map bD)/\u 4=int k/\u 12=.op i 0 0/\H' i=some (kA o)/\∃j',u 11=.os j'/\j'≠i/\H' j'=some (jF (es0++opt (!jR o.name) 5))) ?_ fun K hK=>aB (fun hb=>?_) (fun hb=>?_)
 rotate_left
 . simp only[go_sem,h0,h1,M,I,J,E,F]
   refine bE hH ⟨rfl,rfl⟩ (by simp only[go_sem]) (by simp only[Xaa,Xad,List.length_nil];omega) (fun j' aa=>?_);simp only[go_sem];refine hK _ _ ⟨by simp only[go_sem,h0],by simp only[go_sem,h1],by simp only[go_sem,M],by simp only[go_sem,I],by simp only[go_sem,J],by simp only[go_sem,E],cV Z O aa,j',by simp only[go_sem],(aO Z aa).symm,?_⟩;rw[gK (show(!jR o.name)=true from hb)];exact fI (l':=[5]) rfl
 . simp only[go_sem]
   refine hK _ _ ⟨by simp only[go_sem,h0],by simp only[go_sem,h1],by simp only[go_sem,M],by simp only[go_sem,I],by simp only[go_sem,J],by simp only[go_sem,E],Z,j,by simp only[go_sem,F],O,?_⟩;rw[gL (show(!jR o.name)=false from hb),Xah,hH]
 clear hH h0 h1 M I J E F;rintro ρ H ⟨h0,h1,M,I,J,E,Z,j,F,O,hH⟩;generalize ah:es0++opt (!jR o.name) (5:Int)=es1 at hH;have az:es1.length<=es0.length+1:=by rw[<-ah,Xab];have:=bV (!jR o.name) (5:Int);omega
 simp only[go_sem,h0,h1,M,I,J,E,F,Z];refine DO (fun u H'=>u 0=int P/\u 1=int d/\u 2=int T/\u 3=.sl (l.map bD)/\u 4=int k/\u 12=.op i 0 0/\H' i=some (kA o)/\∃j',u 11=.os j'/\j'≠i/\H' j'=some (jF (es1++opt (yZ l k o.name) 6))) ?_ fun Q hQ _=>?_
 rotate_left
 . refine ⟨fun u H' => ∃ m : Nat, m <= k /\ u 0 = int P /\ u 1 = int d /\ u 2 = int T /\ u 3 = .sl (l.map bD) /\ u 4 = int k /\ u 12 = .op i 0 0 /\ u 11 = .os j /\ u 13 = int m /\ H' = H /\ ∀ t ∈ l.take m, (t.name.toList == o.name.toList) = false, fun ρ _ => k - aV (ρ 13),
     ⟨0,Xac _,by simp only[go_sem,h0],by simp only[go_sem,h1],by simp only[go_sem,M],by simp only[go_sem,I],by simp only[go_sem,J],by simp only[go_sem,E],by simp only[go_sem,F],by simp only[go_sem];rfl,rfl,by simp⟩,?_⟩
   clear h0 h1 M I J E F;rintro ρ H' ⟨m,hm,h0,h1,M,I,J,E,F,ac,rfl,hn⟩;simp only[go_sem,h0,h1,M,I,J,E,F,ac];refine aB (fun ab=>?_) (fun am=>?_)
   . have ab:=aZ ab
     obtain⟨t,ht⟩:=aN (show m<l.length by omega);have b2:=inB (show m<l.length by omega);simp only[go_sem];refine dA (by rfl) (by kernel_rfl) ?_;simp only[go_sem,h0,h1,M,I,J,E,F,ac,Z,b2,aE ht];refine aB (fun hb=>?_) (fun hb=>?_)
     . simp only[go_sem,h0,h1,M,I,J,E,F,ac]
       refine bE hH ⟨rfl,rfl⟩ (by simp only[go_sem]) (by simp only[Xaa,Xad,List.length_nil];omega) (fun j' aa=>?_);simp only[go_sem];refine hQ _ _ ⟨by simp only[go_sem,h0],by simp only[go_sem,h1],by simp only[go_sem,M],by simp only[go_sem,I],by simp only[go_sem,J],by simp only[go_sem,E],cV Z O aa,j',by simp only[go_sem],(aO Z aa).symm,?_⟩;rw[gK (show yZ l k o.name=true from Xbe.2 ⟨t,Xae (i:=m) (by rw[List.getElem?_take];simp[ab,ht]),hb⟩)];exact fI (l':=[6]) rfl
     . simp only[go_sem,h0,h1,M,I,J,E,F,ac,aP (show m<=4611686018427387904 by omega)]
       exact⟨⟨m+1,ab,rfl,qD ht hn hb⟩,by simp only[aF];omega⟩
   . have am:=bC hm am
     subst am;simp only[go_sem];refine hQ _ _ ⟨by simp only[go_sem,h0],by simp only[go_sem,h1],by simp only[go_sem,M],by simp only[go_sem,I],by simp only[go_sem,J],by simp only[go_sem,E],Z,j,by simp only[go_sem,F],O,?_⟩;rw[gL (show yZ l m o.name=false from List.any_eq_false.2 fun t ht=>by simp[hn t ht]),Xah,hH]
 clear hH h0 h1 M I J E F;rintro ρ H ⟨h0,h1,M,I,J,E,Z,j,F,O,hH⟩;generalize aj:es1++opt (yZ l k o.name) (6:Int)=es2 at hH;have ar:es2.length<=es1.length+1:=by rw[<-aj,Xab];have:=bV (yZ l k o.name) (6:Int);omega
 simp only[go_sem,h0,h1,M,I,J,E,F,Z];refine PC.use (HZ _ _ an.2) ?_;simp only[go_sem,h0,h1,M,I,J,E,F,Z];refine bM (fun u H'=>u 0=int P/\u 1=int d/\u 2=int T/\u 3=.sl (l.map bD)/\u 4=int k/\u 12=.op i 0 0/\H' i=some (kA o)/\∃j',u 11=.os j'/\j'≠i/\H' j'=some (jF (es2++opt (!eU o.load d) 17))) ?_ fun K hK=>aB (fun hb=>?_) (fun hb=>?_)
 rotate_left
 . simp only[go_sem,h0,h1,M,I,J,E,F]
   refine bE hH ⟨rfl,rfl⟩ (by simp only[go_sem]) (by simp only[Xaa,Xad,List.length_nil];omega) (fun j' aa=>?_);simp only[go_sem];refine hK _ _ ⟨by simp only[go_sem,h0],by simp only[go_sem,h1],by simp only[go_sem,M],by simp only[go_sem,I],by simp only[go_sem,J],by simp only[go_sem,E],cV Z O aa,j',by simp only[go_sem],(aO Z aa).symm,?_⟩;rw[gK (show(!eU o.load d)=true from hb)];exact fI (l':=[17]) rfl
 . simp only[go_sem]
   refine hK _ _ ⟨by simp only[go_sem,h0],by simp only[go_sem,h1],by simp only[go_sem,M],by simp only[go_sem,I],by simp only[go_sem,J],by simp only[go_sem,E],Z,j,by simp only[go_sem,F],O,?_⟩;rw[gL (show(!eU o.load d)=false from hb),Xah,hH]
 clear hH h0 h1 M I J E F;rintro ρ H ⟨h0,h1,M,I,J,E,Z,j,F,O,hH⟩;generalize ag:es2++opt (!eU o.load d) (17:Int)=es3 at hH;have ax:es3.length<=es2.length+1:=by rw[<-ag,Xab];have:=bV (!eU o.load d) (17:Int);omega
 simp only[go_sem,h0,h1,M,I,J,E,F,Z,mO (show P<=4611686018427387904 by omega)];refine PC.use (DX _ _ _) ?_;simp only[go_sem,h0,h1,M,I,J,E,F,Z,mO (show P<=4611686018427387904 by omega)];refine⟨_,fun _=>(DX _ _ _).q rfl,?_⟩;simp only[go_sem,h0,h1,M,I,J,E,F,Z,mO (show P<=4611686018427387904 by omega)];refine bM (fun u H'=>u 0=int P/\u 1=int d/\u 2=int T/\u 3=.sl (l.map bD)/\u 4=int k/\u 12=.op i 0 0/\H' i=some (kA o)/\∃j',u 11=.os j'/\j'≠i/\H' j'=some (jF (es3++opt (!inR o.pick.place (-1) ((P:Int)-1)|| !inR o.drop.place (-1) ((P:Int)-1)) 11))) ?_ fun K hK=>aB (fun hb=>?_) (fun hb=>?_)
 rotate_left
 . simp only[go_sem,h0,h1,M,I,J,E,F]
   refine bE hH ⟨rfl,rfl⟩ (by simp only[go_sem]) (by simp only[Xaa,Xad,List.length_nil];omega) (fun j' aa=>?_);simp only[go_sem];refine hK _ _ ⟨by simp only[go_sem,h0],by simp only[go_sem,h1],by simp only[go_sem,M],by simp only[go_sem,I],by simp only[go_sem,J],by simp only[go_sem,E],cV Z O aa,j',by simp only[go_sem],(aO Z aa).symm,?_⟩;rw[gK (show(!inR o.pick.place (-1) ((P:Int)-1)|| !inR o.drop.place (-1) ((P:Int)-1))=true from hb)];exact fI (l':=[11]) rfl
 . simp only[go_sem]
   refine hK _ _ ⟨by simp only[go_sem,h0],by simp only[go_sem,h1],by simp only[go_sem,M],by simp only[go_sem,I],by simp only[go_sem,J],by simp only[go_sem,E],Z,j,by simp only[go_sem,F],O,?_⟩;rw[gL (show(!inR o.pick.place (-1) ((P:Int)-1)|| !inR o.drop.place (-1) ((P:Int)-1))=false from hb),Xah,hH]
 clear hH h0 h1 M I J E F;rintro ρ H ⟨h0,h1,M,I,J,E,Z,j,F,O,hH⟩;generalize ak:es3++opt (!inR o.pick.place (-1) ((P:Int)-1)|| !inR o.drop.place (-1) ((P:Int)-1)) (11:Int)=es4 at hH;have ay:es4.length<=es3.length+1:=by rw[<-ak,Xab];have:=bV (!inR o.pick.place (-1) ((P:Int)-1)|| !inR o.drop.place (-1) ((P:Int)-1)) (11:Int);omega
 simp only[go_sem,h0,h1,M,I,J,E,F,Z];refine bM (fun u H'=>u 0=int P/\u 1=int d/\u 2=int T/\u 3=.sl (l.map bD)/\u 4=int k/\u 12=.op i 0 0/\H' i=some (kA o)/\∃j',u 11=.os j'/\j'≠i/\H' j'=some (jF (es4++opt (o.pick.place == -1&&o.drop.place == -1) 19))) ?_ fun K hK=>aB (fun hb=>?_) (fun hb=>?_)
 rotate_left
 . simp only[go_sem,h0,h1,M,I,J,E,F]
   refine bE hH ⟨rfl,rfl⟩ (by simp only[go_sem]) (by simp only[Xaa,Xad,List.length_nil];omega) (fun j' aa=>?_);simp only[go_sem];refine hK _ _ ⟨by simp only[go_sem,h0],by simp only[go_sem,h1],by simp only[go_sem,M],by simp only[go_sem,I],by simp only[go_sem,J],by simp only[go_sem,E],cV Z O aa,j',by simp only[go_sem],(aO Z aa).symm,?_⟩;rw[gK (show(o.pick.place == -1&&o.drop.place == -1)=true from hb)];exact fI (l':=[19]) rfl
 . simp only[go_sem]
   refine hK _ _ ⟨by simp only[go_sem,h0],by simp only[go_sem,h1],by simp only[go_sem,M],by simp only[go_sem,I],by simp only[go_sem,J],by simp only[go_sem,E],Z,j,by simp only[go_sem,F],O,?_⟩;rw[gL (show(o.pick.place == -1&&o.drop.place == -1)=false from hb),Xah,hH]
 clear hH h0 h1 M I J E F;rintro ρ H ⟨h0,h1,M,I,J,E,Z,j,F,O,hH⟩;generalize ai:es4++opt (o.pick.place == -1&&o.drop.place == -1) (19:Int)=es5 at hH;have aq:es5.length<=es4.length+1:=by rw[<-ai,Xab];have:=bV (o.pick.place == -1&&o.drop.place == -1) (19:Int);omega
 simp only[go_sem,h0,h1,M,I,J,E,F,Z];refine PC.use (Mr _) ?_;simp only[go_sem,h0,h1,M,I,J,E,F,Z];refine⟨_,fun _=>(Mr _).q rfl,?_⟩;simp only[go_sem,h0,h1,M,I,J,E,F,Z];refine bM (fun u H'=>u 0=int P/\u 1=int d/\u 2=int T/\u 3=.sl (l.map bD)/\u 4=int k/\u 12=.op i 0 0/\H' i=some (kA o)/\∃j',u 11=.os j'/\j'≠i/\H' j'=some (jF (es5++opt (fF o.pick != 0||fF o.drop != 0) 14))) ?_ fun K hK=>aB (fun hb=>?_) (fun hb=>?_)
 rotate_left
 . simp only[go_sem,h0,h1,M,I,J,E,F]
   refine bE hH ⟨rfl,rfl⟩ (by simp only[go_sem]) (by simp only[Xaa,Xad,List.length_nil];omega) (fun j' aa=>?_);simp only[go_sem];refine hK _ _ ⟨by simp only[go_sem,h0],by simp only[go_sem,h1],by simp only[go_sem,M],by simp only[go_sem,I],by simp only[go_sem,J],by simp only[go_sem,E],cV Z O aa,j',by simp only[go_sem],(aO Z aa).symm,?_⟩;rw[gK (show(fF o.pick != 0||fF o.drop != 0)=true from hb)];exact fI (l':=[14]) rfl
 . simp only[go_sem]
   refine hK _ _ ⟨by simp only[go_sem,h0],by simp only[go_sem,h1],by simp only[go_sem,M],by simp only[go_sem,I],by simp only[go_sem,J],by simp only[go_sem,E],Z,j,by simp only[go_sem,F],O,?_⟩;rw[gL (show(fF o.pick != 0||fF o.drop != 0)=false from hb),Xah,hH]
 clear hH h0 h1 M I J E F;rintro ρ H ⟨h0,h1,M,I,J,E,Z,j,F,O,hH⟩;generalize ae:es5++opt (fF o.pick != 0||fF o.drop != 0) (14:Int)=es6 at hH;have ap:es6.length<=es5.length+1:=by rw[<-ae,Xab];have:=bV (fF o.pick != 0||fF o.drop != 0) (14:Int);omega
 simp only[go_sem,h0,h1,M,I,J,E,F,Z];refine PC.use (DX _ _ _) ?_;simp only[go_sem,h0,h1,M,I,J,E,F,Z,mO (show P<=4611686018427387904 by omega)];refine bM (fun u H'=>u 0=int P/\u 1=int d/\u 2=int T/\u 3=.sl (l.map bD)/\u 4=int k/\u 12=.op i 0 0/\H' i=some (kA o)/\∃j',u 11=.os j'/\j'≠i/\H' j'=some (jF (es6++opt (!inR o.skills 0 1073741823) 18))) ?_ fun K hK=>aB (fun hb=>?_) (fun hb=>?_)
 rotate_left
 . simp only[go_sem,h0,h1,M,I,J,E,F]
   refine bE hH ⟨rfl,rfl⟩ (by simp only[go_sem]) (by simp only[Xaa,Xad,List.length_nil];omega) (fun j' aa=>?_);simp only[go_sem];refine hK _ _ ⟨by simp only[go_sem,h0],by simp only[go_sem,h1],by simp only[go_sem,M],by simp only[go_sem,I],by simp only[go_sem,J],by simp only[go_sem,E],cV Z O aa,j',by simp only[go_sem],(aO Z aa).symm,?_⟩;rw[gK (show(!inR o.skills 0 1073741823)=true from hb)];exact fI (l':=[18]) rfl
 . simp only[go_sem]
   refine hK _ _ ⟨by simp only[go_sem,h0],by simp only[go_sem,h1],by simp only[go_sem,M],by simp only[go_sem,I],by simp only[go_sem,J],by simp only[go_sem,E],Z,j,by simp only[go_sem,F],O,?_⟩;rw[gL (show(!inR o.skills 0 1073741823)=false from hb),Xah,hH]
 clear hH h0 h1 M I J E F;rintro ρ H ⟨h0,h1,M,I,J,E,Z,j,F,O,hH⟩;generalize ad:es6++opt (!inR o.skills 0 1073741823) (18:Int)=es7 at hH;have aw:es7.length<=es6.length+1:=by rw[<-ad,Xab];have:=bV (!inR o.skills 0 1073741823) (18:Int);omega
 simp only[go_sem,h0,h1,M,I,J,E,F,Z];refine PC.use (DX _ _ _) ?_;simp only[go_sem,h0,h1,M,I,J,E,F,Z,mO (show P<=4611686018427387904 by omega)];refine⟨_,fun _=>(DX _ _ _).q rfl,?_⟩;simp only[go_sem,h0,h1,M,I,J,E,F,Z,mO (show P<=4611686018427387904 by omega)];refine bM (fun u H'=>u 0=int P/\u 1=int d/\u 2=int T/\u 3=.sl (l.map bD)/\u 4=int k/\u 12=.op i 0 0/\H' i=some (kA o)/\∃j',u 11=.os j'/\j'≠i/\H' j'=some (jF (es7++opt (!inR o.penalty (-1) 1000000|| !inR o.split 1 4||decide (o.split>1)&&(o.pick.place != -1&&o.drop.place != -1)||decide (o.last< -1)||decide (o.last>=T)||decide (o.now< -1)||decide (o.now>=T)) 2))) ?_ fun K hK=>aB (fun hb=>?_) (fun hb=>?_)
 rotate_left
 . simp only[go_sem,h0,h1,M,I,J,E,F]
   refine bE hH ⟨rfl,rfl⟩ (by simp only[go_sem]) (by simp only[Xaa,Xad,List.length_nil];omega) (fun j' aa=>?_);simp only[go_sem];refine hK _ _ ⟨by simp only[go_sem,h0],by simp only[go_sem,h1],by simp only[go_sem,M],by simp only[go_sem,I],by simp only[go_sem,J],by simp only[go_sem,E],cV Z O aa,j',by simp only[go_sem],(aO Z aa).symm,?_⟩;rw[gK (show(!inR o.penalty (-1) 1000000|| !inR o.split 1 4||decide (o.split>1)&&(o.pick.place != -1&&o.drop.place != -1)||decide (o.last< -1)||decide (o.last>=T)||decide (o.now< -1)||decide (o.now>=T))=true from hb)];exact fI (l':=[2]) rfl
 . simp only[go_sem]
   refine hK _ _ ⟨by simp only[go_sem,h0],by simp only[go_sem,h1],by simp only[go_sem,M],by simp only[go_sem,I],by simp only[go_sem,J],by simp only[go_sem,E],Z,j,by simp only[go_sem,F],O,?_⟩;rw[gL (show(!inR o.penalty (-1) 1000000|| !inR o.split 1 4||decide (o.split>1)&&(o.pick.place != -1&&o.drop.place != -1)||decide (o.last< -1)||decide (o.last>=T)||decide (o.now< -1)||decide (o.now>=T))=false from hb),Xah,hH]
 clear hH h0 h1 M I J E F;rintro ρ H ⟨h0,h1,M,I,J,E,Z,j,F,O,hH⟩;generalize af:es7++opt (!inR o.penalty (-1) 1000000|| !inR o.split 1 4||decide (o.split>1)&&(o.pick.place != -1&&o.drop.place != -1)||decide (o.last< -1)||decide (o.last>=T)||decide (o.now< -1)||decide (o.now>=T)) (2:Int)=es8 at hH;have av:es8.length<=es7.length+1:=by rw[<-af,Xab];have:=bV (!inR o.penalty (-1) 1000000|| !inR o.split 1 4||decide (o.split>1)&&(o.pick.place != -1&&o.drop.place != -1)||decide (o.last< -1)||decide (o.last>=T)||decide (o.now< -1)||decide (o.now>=T)) (2:Int);omega
 simp only[go_sem,h0,h1,M,I,J,E,F,Z];have ao:jP P d T l k o=es8:=by unfold jP;rw[al,ah,aj,ag,ak,ai,ae,ad,af]
 rw[ao];exact .row _ _ _ hH (ConvE.refl _)
def jQ(w:ByteArray)(f:Fault):Fault:=⟨f.err,match f.at_.toList == (⟨#[]⟩:ByteArray).toList with|true=>w|false=>w++⟨#[32]⟩++f.at_⟩
theorem Dh(w:ByteArray)(l:List Fault)(hw:w.size<=1048576)(hl:l.length<=5000000000000)(hs:∀f∈l,f.at_.size<=268435456):
   NC prog 49 [str w,.sl (l.map fH)] (bO (l.map (jQ w))) .os:=by
 refine ncb (fun t=>t == 5) Tryz.func49 ?_;unfold Tryz.f49;simp only[gdS];simp only[go_sem];refine aM fun j hj=>?_
 simp only[go_sem];refine⟨fun ρ H=>∃k:Nat,k<=l.length/\ρ 0=str w/\ρ 1=.sl (l.map fH)/\ρ 6=int k/\∃j,ρ 5=.os j/\H j=some (bO ((l.take k).map (jQ w))),fun ρ _=>l.length-aV (ρ 6),⟨0,Xac _,rfl,rfl,rfl,j,rfl,aA _ _ _⟩,?_⟩;clear hj;rintro ρ H ⟨k,hk,h0,h1,F,j,J,hH⟩;simp only[go_sem,h0,h1,F,J];refine aB (fun u=>?_) (fun I=>?_)
 . have u:=aZ u
   obtain⟨f,M⟩:=aN u;have O:=inB u;have ac:=hs f (iC M);simp only[go_sem,h0,h1,F,O,aE M];refine bM (fun E H'=>E 0=str w/\E 1=.sl (l.map fH)/\E 6=int k/\E 5=.os j/\E 7=str (jQ w f).at_/\H'=H) ?_ fun K hK=>aB (fun Z=>?_) (fun Z=>?_)
   . clear h0 h1 F J
     rintro ρ H ⟨h0,h1,F,J,h7,rfl⟩;simp only[go_sem,h0,h1,F,J,h7,O,aE M];refine bE hH ⟨rfl,rfl⟩ (by simp only[go_sem]) (by simp only[Xaa,Xal,Xad,List.length_nil];omega) (fun j' aa=>?_);simp only[go_sem,h0,h1,F,aP (show k<=4611686018427387904 by omega)];refine⟨⟨k+1,u,rfl,j',rfl,?_⟩,by simp only[aF];omega⟩;rw[A3 M];exact dZ (l':=[jQ w f]) rfl
   . simp only[go_sem,h0,h1,F,O,aE M]
     have ab:(#[32]:Array UInt8).size=1:=rfl;refine⟨by rw[uI];omega,by rw[uI];omega,hK _ _ ⟨by simp only[go_sem,h0],by simp only[go_sem,h1],by simp only[go_sem,F],by simp only[go_sem,J],?_,rfl⟩⟩;have T:(f.at_.toList == (⟨#[]⟩:ByteArray).toList)=false:=by have:=Z;revert this;cases(f.at_.toList == (⟨#[]⟩:ByteArray).toList) <;> simp
     simp only[go_sem,jQ,T]
   . simp only[go_sem]
     refine hK _ _ ⟨by simp only[go_sem,h0],by simp only[go_sem,h1],by simp only[go_sem,F],by simp only[go_sem,J],?_,rfl⟩;have T:(f.at_.toList == (⟨#[]⟩:ByteArray).toList)=true:=by have:=Z;revert this;cases(f.at_.toList == (⟨#[]⟩:ByteArray).toList) <;> simp
     simp only[go_sem,jQ,T]
 . have I:=bC hk I
   subst I;simp only[go_sem,J];exact⟨_,rfl,by rw[hH,Xag]⟩
def Tf(l:List Order)(i:Nat):Order:=l.getD i ⟨ByteArray.empty,[],⟨0,0,0,0⟩,⟨0,0,0,0⟩,0,0,0,0,0,false⟩
theorem KS{l:List Order}{k:Nat}{p:Order}(h:l[k]?=some p):Tf l k=p:=by simp[Tf,List.getD,h]
def fU(n:Network)(d T:Int)(l:List Order)(k:Nat):List Fault:=(jP n.places.length d T l k (Tf l k)).map fun e=>⟨e,iD k⟩
def oU(n:Network)(d T:Int)(l:List Order):List Fault:=opt (decide ((l.length:Int)>10)) ⟨4,ByteArray.empty⟩++(List.range l.length).flatMap (fU n d T l)
theorem rZ(P:Nat)(d T:Int)(l:List Order)(k:Nat)(o:Order):(jP P d T l k o).length<=9:=by
 unfold jP;simp only[Xab,List.length_nil];have h:=fun(b:Bool) (x:Int)=>bV b x
 have h1:=h (!jR o.name) 5;have M:=h (yZ l k o.name) 6;have u:=h (!eU o.load d) 17;have O:=h (!inR o.pick.place (-1) ((P:Int)-1)|| !inR o.drop.place (-1) ((P:Int)-1)) 11;have E:=h (o.pick.place == -1&&o.drop.place == -1) 19;have J:=h (fF o.pick != 0||fF o.drop != 0) 14;have F:=h (!inR o.skills 0 1073741823) 18;have I:=h (!inR o.penalty (-1) 1000000|| !inR o.split 1 4||decide (o.split>1)&&(o.pick.place != -1&&o.drop.place != -1)||decide (o.last< -1)||decide (o.last>=T)||decide (o.now< -1)||decide (o.now>=T)) 2;omega
theorem Eo(n:Network)(d T:Int)(l:List Order)(hl:l.length<=1048576)(hs:∀t∈l,t.name.size<=1048576/\t.load.length<=1048576)(hp:n.places.length<=1048576):
   NC prog 52 [.agg (aU n),int d,int T,.sl (l.map bD)] (bO (oU n d T l)) .os:=by
 refine ncb (fun t=>t == 9) Tryz.func52 ?_;unfold Tryz.f52;simp only[gdS];simp only[go_sem];refine aM fun j hj=>?_
 simp only[go_sem];refine nJ (fun u H'=>u 1=int d/\u 2=int T/\u 3=.sl (l.map bD)/\u 4=.rp (aU n) 0/\∃j',u 9=.os j'/\H' j'=some (bO [])) ⟨by simp only[go_sem],by simp only[go_sem],by simp only[go_sem],by simp only[go_sem],_,by simp only[go_sem],aA _ _ _⟩ ?_;rintro ρ H ⟨h1,J,F,I,j,Z,O⟩;generalize ad:([]:List Fault)=es0 at O;have an:es0.length<=0:=by rw[<-ad];exact Xaf _
 refine bM (fun u H'=>u 1=int d/\u 2=int T/\u 3=.sl (l.map bD)/\u 4=.rp (aU n) 0/\∃j',u 9=.os j'/\H' j'=some (bO (es0++opt (decide ((l.length:Int)>10)) ⟨4,ByteArray.empty⟩))) ?_ fun K hK=>aB (fun hb=>?_) (fun hb=>?_)
 rotate_left
 . simp only[go_sem,h1,J,F,I,Z]
   refine bE O ⟨rfl,rfl⟩ (by simp only[go_sem]) (by simp only[Xaa,Xad,List.length_nil];omega) (fun j' aj=>?_);simp only[go_sem];refine hK _ _ ⟨by simp only[go_sem,h1],by simp only[go_sem,J],by simp only[go_sem,F],by simp only[go_sem,I],j',by simp only[go_sem],?_⟩;rw[gK (show(decide ((l.length:Int)>10))=true from hb)];exact dZ (l':=[⟨4,ByteArray.empty⟩]) rfl
 . simp only[go_sem]
   refine hK _ _ ⟨by simp only[go_sem,h1],by simp only[go_sem,J],by simp only[go_sem,F],by simp only[go_sem,I],j,by simp only[go_sem,Z],?_⟩;rw[gL (show(decide ((l.length:Int)>10))=false from hb),Xah,O]
 clear O h1 J F I Z;rintro ρ H ⟨h1,J,F,I,j,Z,O⟩;generalize ac:es0++opt (decide ((l.length:Int)>10)) (⟨4,ByteArray.empty⟩:Fault)=es1 at O;have ap:es1.length<=es0.length+1:=by rw[<-ac,Xab];have:=bV (decide ((l.length:Int)>10)) (⟨4,ByteArray.empty⟩:Fault);omega
 simp only[go_sem,h1,J,F,I];refine⟨fun ρ H=>∃k:Nat,k<=l.length/\ρ 1=int d/\ρ 2=int T/\ρ 3=.sl (l.map bD)/\ρ 4=.rp (aU n) 0/\ρ 10=int k/\∃j,ρ 9=.os j/\H j=some (bO (es1++(List.range k).flatMap (fU n d T l))),fun ρ _=>l.length-aV (ρ 10),⟨0,Xac _,by simp only[go_sem,h1],by simp only[go_sem,J],by simp only[go_sem,F],by simp only[go_sem,I],by simp only[go_sem];rfl,j,by simp only[go_sem,Z],by simpa using O⟩,?_⟩;clear O h1 J F I Z hj;rintro ρ H ⟨k,hk,h1,J,F,I,E,j,Z,O⟩;generalize ae:es1++(List.range k).flatMap (fU n d T l)=es at O;have ao:es.length<=9*k+1:=by
   have:=eA (f:=fU n d T l) (c:=9) (fun x=>by unfold fU;rw[Xaa];exact rZ _ _ _ _ _ _) (List.range k);rw[<-ae,Xab];rw[Xas]at this;omega
 simp only[go_sem,h1,J,F,I,E,Z];refine aB (fun ab=>?_) (fun ag=>?_)
 . have ab:=aZ ab
   have am:k<=4611686018427387904:=by omega
   have al:es1++(List.range (k+1)).flatMap (fU n d T l)=es++fU n d T l k:=by rw[gD,<-Xai,ae]
   simp only[go_sem,h1,J,F,I,E];obtain⟨o,ho⟩:=aN ab;rw[<-KS ho]at ho;refine PC.use (TU n.places.length d T l k _ ho hp hl hs) ?_;simp only[go_sem];have ak:=rZ n.places.length d T l k (Tf l k);have ai:fU n d T l k=(jP n.places.length d T l k (Tf l k)).map fun e=>⟨e,iD k⟩:=rfl
   generalize jP n.places.length d T l k (Tf l k)=er at ak ai;refine⟨fun ρ H=>∃m:Nat,m<=er.length/\ρ 1=int d/\ρ 2=int T/\ρ 3=.sl (l.map bD)/\ρ 4=.rp (aU n) 0/\ρ 10=int k/\ρ 11=.sl (er.map bN)/\ρ 12=int m/\∃j,ρ 9=.os j/\H j=some (bO (es++(er.take m).map fun e=>⟨e,iD k⟩)),fun ρ _=>er.length-aV (ρ 12),⟨0,Xac _,by simp only[go_sem,h1],by simp only[go_sem,J],by simp only[go_sem,F],by simp only[go_sem,I],by simp only[go_sem,E],by simp only[go_sem],by simp only[go_sem];rfl,j,by simp only[go_sem,Z],by simpa using O⟩,?_⟩;clear O h1 J F I Z E;rintro ρ H ⟨m,hm,h1,J,F,I,E,ah,af,j,Z,O⟩;simp only[go_sem,h1,J,F,I,E,Z,ah,af];refine aB (fun M=>?_) (fun aa=>?_)
   . have M:=aZ M
     obtain⟨e,he⟩:=aN M;have b2:=inB M;simp only[go_sem];refine Dn (by kernel_rfl) ?_;simp only[go_sem,h1,J,F,I,E,Z,ah,af,b2,aE he];refine⟨_,(pF _ (by omega)).q rfl,?_⟩;simp only[go_sem];refine bE O ⟨rfl,rfl⟩ (by simp only[go_sem]) (by simp only[Xaa,Xab,Xal,Xad,List.length_nil];omega) (fun j' aj=>?_);simp only[go_sem,h1,J,F,I,E,ah,af,aP (show m<=4611686018427387904 by omega)];refine⟨⟨m+1,M,rfl,j',rfl,?_⟩,by simp only[aF];omega⟩;rw[A3 he,<-Xai];exact dZ (l':=[⟨e,iD k⟩]) rfl
   . have aa:=bC hm aa
     subst aa;simp only[go_sem,h1,J,F,I,E,Z,aP am];refine⟨⟨k+1,ab,rfl,j,rfl,?_⟩,by simp only[aF];omega⟩;rw[al,O,ai,Xag]
 . have ag:=bC hk ag
   subst ag;simp only[go_sem,Z];exact⟨_,rfl,by rw[O,<-ae,<-ac,<-ad];rfl⟩
end Go.Proofs.YtohmomanmikphaaGreatDoor
end
