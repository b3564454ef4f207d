import Derived.Test.YtdlijlecpopadaaGreatDoorZu06
set_option linter.unusedSimpArgs false
set_option linter.unusedVariables false
set_option maxRecDepth 100000
section
namespace Go.Proofs.YtdlijlecpopadaaGreatDoor
open Go.Proofs.Tryz(prog)
open Go.Aw Go.Aw.D Go.Proofs Ty
def inR(n lo hi:Int):Bool:=decide (n>=lo)&&decide (n<=hi)
theorem oR(n lo hi:Int):PC prog 70 [int n,int lo,int hi] (boo (inR n lo hi)):=by
 refine pcd Tryz.func70 ?_;unfold Tryz.f70;simp only[gdS];simp only[go_sem];exact .refl _
theorem E6(n lo hi:Int):PC prog 136 [int n,int lo,int hi] (boo (inR n lo hi)):=by
 refine pcd Tryz.func136 ?_;unfold Tryz.f136;simp only[gdS];simp only[go_sem];exact .refl _
theorem YV(n:Int):PC prog 132 [int n] (boo (inR n 0 4096)):=by
 refine pcd Tryz.func132 ?_;unfold Tryz.f132;simp only[gdS];simp only[go_sem];exact .refl _
def Dx(c:Int):Bool:=decide (c>=48)&&decide (c<=57)
theorem Ey(c:Int):PC prog 179 [.v (.int .u8 c)] (boo (Dx c)):=by
 refine pcd Tryz.func179 ?_;unfold Tryz.f179;simp only[gdS];simp only[go_sem];exact .refl _
def BT(c:Int):Bool:=decide (c>=97)&&decide (c<=122)||decide (c>=65)&&decide (c<=90)||c == 95
theorem BF(c:Int):PC prog 180 [.v (.int .u8 c)] (boo (BT c)):=by
 refine pcd Tryz.func180 ?_;unfold Tryz.f180;simp only[gdS];simp only[go_sem];exact .refl _
def kC(s:Stop):Bool:=s.place == -1&&s.start == 0&&s.close == 0&&s.service == 0
def Lc(s:Stop):Bool:=decide (s.place<0)||decide (s.start<0)||decide (s.start>s.close)||decide (s.close>4096)||decide (s.service<0)||decide (s.service>4096)
def fI(s:Stop):Int:=if kC s then 0 else if Lc s then 2 else 0
theorem Oi(s:Stop):PC prog 137 [.agg (dZ s)] (int (fI s)):=by
 refine pcd Tryz.func137 ?_;unfold Tryz.f137;simp only[gdS];simp only[go_sem];refine aB (fun h=>?_) (fun h=>?_)
 . simp only[go_sem]
   have:fI s=0:=if_pos h;rw[this];exact .refl _
 . simp only[go_sem]
   refine aB (fun E=>?_) (fun E=>?_)
   . simp only[go_sem]
     have:fI s=2:=by unfold fI;rw[if_neg (by simp[kC,h])];exact if_pos E
     rw[this];exact .refl _
   . simp only[go_sem]
     have:fI s=0:=by unfold fI;rw[if_neg (by simp[kC,h]),if_neg (by simp only[Lc,E];simp)]
     rw[this];exact .refl _
def FM(n:Int):ByteArray:=strOfNums [IntKind.u8.wrap (IntKind.i64.wrap (48+n))]
def kD(n:Nat):ByteArray:=if n<10 then FM n else kD (n/10)++FM (n%10:Nat)
theorem CY(x:Int):(strOfNums [x]).size=1:=by simp[strOfNums];rfl
theorem D4(n:Int):(FM n).size=1:=CY _
theorem Af{n:Nat}(h:10<=n):kD n=kD (n/10)++FM (n%10:Nat):=by rw[kD,if_neg (by omega)]
theorem uW{n:Nat}(h:n<10):kD n=FM n:=by rw[kD,if_pos h]
theorem oA(n:Nat):(kD n).size<=n+1:=by
 induction n using Nat.strongRecOn with
 | ind n ih=>
   rcases Xbe n 10 with h|h
   . rw[uW h,D4];omega
   . rw[Af h,ByteArray.size_append,D4]
     have:=ih (n/10) (by omega);omega
theorem QC(m:Nat):(m:Int).tmod 10=((m%10:Nat):Int):=by rw[Xda (by omega)];rfl
theorem PK(m:Nat):(m:Int).tdiv 10=((m/10:Nat):Int):=by rw[Xbp (by omega)];rfl
theorem Nk{k:Nat}(h:k<=4611686018427387904):IntKind.i64.wrap (k:Int)=(k:Int):=aW (by omega)
theorem xF:IntKind.i64.max=9223372036854775807:=by decide
theorem aiG(n:Nat)(X:n<=4611686018427387904):PC prog 138 [int n] (str (kD n)):=by
 refine pcd Tryz.func138 ?_;unfold Tryz.f138;simp only[gdS];simp only[go_sem];refine⟨fun ρ _=>∃(m:Nat) (s:ByteArray),ρ 0=int m/\ρ 3=str s/\kD n=kD m++s/\s.size+m<=n,
   fun ρ _=>aX (ρ 0),⟨n,ByteArray.empty,rfl,rfl,by simp,by simp⟩,?_⟩
 rintro ρ H ⟨k,s,h0,I,J,O⟩;simp only[go_sem,h0,I];refine aB (fun E=>?_) (fun F=>?_)
 . have E : 10 <= k := by
     have:(10:Int)<=k:=by simpa using E
     omega
   simp only[go_sem,h0,I,PK,QC,Nk (show k/10<=4611686018427387904 by omega),aG];refine⟨by omega,?_,by omega,⟨k/10,_,rfl,rfl,?_,?_⟩,by omega⟩
   . rw[CY,xF];omega
   . rw[J,Af E,ByteArray.append_assoc];rfl
   . rw[ByteArray.size_append,CY];omega
 . have F : k < 10 := by
     have:¬(10:Int)<=k:=by simpa using F
     omega
   simp only[go_sem,h0,I];refine⟨by rw[CY,xF];omega,?_⟩;rw[J,uW F];exact .refl _
def Zs:AV->Nat
 | .v (.bool true)=>1
 | _=>0
theorem rY(n:Nat)(hn:n<=4611686018427387904):PC prog 72 [int n] (str (kD n)):=by
 refine pcd Tryz.func72 ?_;unfold Tryz.f72;simp only[gdS];simp only[go_sem];refine⟨fun ρ _=>∃(b:Bool) (m:Nat) (s:ByteArray),ρ 0=int n/\ρ 5=boo b/\ρ 4=int m/\ρ 3=str s/\(b=true->kD n=kD m++s/\s.size+m<=n)/\(b=false->kD n=s),
   fun ρ _=>aX (ρ 4)+Zs (ρ 5),⟨true,n,ByteArray.empty,rfl,rfl,rfl,rfl,fun _=>by simp,by simp⟩,?_⟩
 rintro ρ H ⟨b,k,s,h0,I,F,J,Z,Y⟩;simp only[go_sem,h0,J,F,I];refine aB (fun E=>?_) (fun E=>?_)
 . subst E
   obtain⟨X,hs⟩:=Z rfl;simp only[go_sem,h0,J,F,I,PK,QC];refine⟨by omega,?_⟩;refine aB (fun E=>?_) (fun E=>?_)
   . exfalso;simp at E;omega
   . simp only[go_sem,h0,J,F,I,PK,QC,Nk (show k/10<=4611686018427387904 by omega),aG]
     refine⟨by rw[CY,xF];omega,by omega,⟨_,k/10,_,rfl,rfl,rfl,?_,?_⟩,?_⟩
     . intro E
       have:10<=k:=by simp at E;omega
       refine⟨?_,?_⟩
       . rw[X,Af this,ByteArray.append_assoc];rfl
       . rw[ByteArray.size_append,CY];omega
     . intro E
       have O:k<10:=by simp at E;omega
       rw[X,uW O,Xbn O];rfl
     . rcases Xbe k 10 with h|h
       . have:k/10=0:=by omega
         simp[this,Zs]
       . simp only[Zs];split <;> omega
 . simp only[go_sem,h0,J,F,I]
   refine aB (fun E=>?_) (fun E=>?_)
   . exfalso;simp at E;omega
   . simp only[go_sem,h0,J,F,I]
     rw[Y (by assumption)];exact .refl _
def eK(l:List Int)(d:Int):Bool:=if(l.length:Int)=d then l.all fun n=> !(decide (n<0)||decide (n>1000))else false
theorem E0{α:Type}{p:α->Bool}{l:List α}(h:∀x∈l,p x=true):l.all p=true:=Xao.2 h
theorem Fn{α:Type}{p:α->Bool}{l:List α}{x:α}(h:x∈l)(E:p x=false):l.all p=false:=by
 cases F:l.all p with
 | false=>rfl
 | true=>rw[Xao.1 F x h]at E;cases E
theorem kI{α:Type}{l:List α}{k:Nat}{x:α}(h:l[k]?=some x):x∈l:=Xad h
theorem yR{α:Type}{q:α->Prop}{l:List α}{k:Nat}{x:α}(I:l[k]?=some x)(h:∀y∈l.take k,q y)(F:q x):∀y∈l.take (k+1),q y:=by
 rw[bX I];intro y E;rcases Xaq.1 E with E|E
 . exact h y E
 . simp at E;subst E;exact F
theorem aZ{k n:Nat}(h:decide ((k:Int)<(n:Int))=true):k<n:=by simpa using h
theorem bD{k n:Nat}(E:k<=n)(h:decide ((k:Int)<(n:Int))=false):k=n:=by
 have:¬k<n:=by simpa using h
 omega
theorem JT(l:List Int)(d:Int)(hl:l.length<=1048576):PC prog 135 [.sl (l.map aR),int d] (boo (eK l d)):=by
 refine pcd Tryz.func135 ?_;unfold Tryz.f135;simp only[gdS];simp only[go_sem];refine aB (fun I=>?_) (fun I=>?_)
 . simp only[go_sem]
   have:eK l d=false:=by unfold eK;rw[if_neg (by simpa using I)]
   rw[this];exact .refl _
 . have I:(l.length:Int)=d:=by simpa using I
   simp only[go_sem];refine⟨fun ρ _=>∃k:Nat,k<=l.length/\ρ 0=.sl (l.map aR)/\ρ 5=int k/\∀n∈l.take k,(decide (n<0)||decide (n>1000))=false,fun ρ _=>l.length-aX (ρ 5),⟨0,Xab _,rfl,rfl,by simp⟩,?_⟩;rintro ρ H ⟨k,hk,h0,J,Y⟩;simp only[go_sem,h0,J];refine aB (fun E=>?_) (fun F=>?_)
   . have E:=aZ E
     obtain⟨r,X⟩:=aQ E;have Z:=inB E;simp only[go_sem,h0,J,Z,aH X];refine aB (fun O=>?_) (fun O=>?_)
     . simp only[go_sem]
       have:eK l d=false:=by unfold eK;rw[if_pos I];exact Fn (kI X) (by simp only[O];rfl)
       rw[this];exact .refl _
     . simp only[go_sem,h0,J,aS (show k<=4611686018427387904 by omega)]
       exact⟨⟨k+1,E,rfl,yR X Y O⟩,by simp only[aG];omega⟩
   . have F:=bD hk F
     subst F;simp only[go_sem];have:eK l d=true:=by unfold eK;rw[if_pos I];exact E0 fun n h=>by rw[Y n (by simpa using h)];rfl
     rw[this];exact .refl _
def zJ(l:List Int)(d:Int):Bool:=if(!inR l.length 1 3||(l.length:Int) != d)=true then false else l.all fun n=>inR n 0 1000
theorem arC(l:List Int)(d:Int)(hl:l.length<=1048576):PC prog 134 [.sl (l.map aR),int d] (boo (zJ l d)):=by
 refine pcd Tryz.func134 ?_;unfold Tryz.f134;simp only[gdS];simp only[go_sem];refine PC.use (oR _ _ _) ?_;simp only[go_sem];refine aB (fun I=>?_) (fun I=>?_)
 . simp only[go_sem]
   have:zJ l d=false:=by unfold zJ;rw[if_pos I]
   rw[this];exact .refl _
 . simp only[go_sem]
   refine⟨fun ρ _=>∃k:Nat,k<=l.length/\ρ 0=.sl (l.map aR)/\ρ 5=int k/\∀n∈l.take k,inR n 0 1000=true,fun ρ _=>l.length-aX (ρ 5),⟨0,Xab _,rfl,rfl,by simp⟩,?_⟩;rintro ρ H ⟨k,hk,h0,J,Y⟩;simp only[go_sem,h0,J];refine aB (fun E=>?_) (fun F=>?_)
   . have E:=aZ E
     obtain⟨r,X⟩:=aQ E;have Z:=inB E;simp only[go_sem,h0,J,Z,aH X];refine PC.use (oR _ _ _) ?_;simp only[go_sem];refine aB (fun O=>?_) (fun O=>?_)
     . simp only[go_sem]
       have:zJ l d=false:=by unfold zJ;rw[if_neg (by rw[I];simp)];exact Fn (kI X) (by simpa using O)
       rw[this];exact .refl _
     . simp only[go_sem,h0,J,aS (show k<=4611686018427387904 by omega)]
       exact⟨⟨k+1,E,rfl,yR X Y (by simpa using O)⟩,by simp only[aG];omega⟩
   . have F:=bD hk F
     subst F;simp only[go_sem];have:zJ l d=true:=by unfold zJ;rw[if_neg (by rw[I];simp)];exact E0 fun n h=>Y n (by simpa using h)
     rw[this];exact .refl _
def uC(s:ByteArray)(i:Nat):Int:=((s.data.getD i 0).toNat:Int)
def lQ(s:ByteArray):Bool:=if(decide ((s.size:Int)<1)||decide ((s.size:Int)>16)||Dx (uC s 0))=true then false else(List.range s.size).all fun i=>BT (uC s i)||Dx (uC s i)
theorem pV{n k:Nat}(h:k<n):(List.range n)[k]?=some k:=by simp[h]
theorem Pz(s:ByteArray)(hl:s.size<=1048576):PC prog 130 [str s] (boo (lQ s)):=by
 refine pcd Tryz.func130 ?_;unfold Tryz.f130;simp only[gdS];simp only[go_sem];refine⟨fun h=>⟨by omega,by simp at h;omega⟩,_,fun _=>(Ey _).q rfl,?_⟩;simp only[go_sem];refine aB (fun J=>?_) (fun J=>?_)
 . simp only[go_sem]
   have:lQ s=false:=by unfold lQ;rw[if_pos (by exact J)]
   rw[this];exact .refl _
 . simp only[go_sem]
   refine⟨fun ρ _=>∃k:Nat,k<=s.size/\ρ 0=str s/\ρ 3=int k/\∀i∈(List.range s.size).take k,(BT (uC s i)||Dx (uC s i))=true,fun ρ _=>s.size-aX (ρ 3),⟨0,Xab _,rfl,rfl,by simp⟩,?_⟩;rintro ρ H ⟨k,Z,h0,I,Y⟩;simp only[go_sem,h0,I];refine aB (fun E=>?_) (fun F=>?_)
   . have E:=aZ E
     have X:=inB E;simp only[go_sem,h0,I,X];refine PC.use (BF _) ?_;simp only[go_sem,h0,I,X];refine⟨_,fun _=>(Ey _).q rfl,?_⟩;simp only[go_sem];refine aB (fun O=>?_) (fun O=>?_)
     . simp only[go_sem]
       have:lQ s=false:=by unfold lQ;rw[if_neg (by intro h;exact absurd (h.symm.trans J) (by simp))];exact Fn (kI (pV E)) (by simpa[uC]using O)
       rw[this];exact .refl _
     . simp only[go_sem,h0,I,aS (show k<=4611686018427387904 by omega)]
       exact⟨⟨k+1,E,rfl,yR (pV E) Y (by
         have:(!BT (uC s k)&& !Dx (uC s k))=false:=O
         revert this;cases BT (uC s k) <;> cases Dx (uC s k) <;> simp)⟩,by simp only[aG];omega⟩
   . have F:=bD Z F
     subst F;simp only[go_sem];have:lQ s=true:=by unfold lQ;rw[if_neg (by intro h;exact absurd (h.symm.trans J) (by simp))];exact E0 fun n h=>Y n (by rw[Xaw (by simp)];exact h)
     rw[this];exact .refl _
def nH(l:List VType):Int:=match l with|[]=>0|t::_=>t.cap.length
theorem J5(l:List VType):PC prog 33 [.sl (l.map aY)] (int (nH l)):=by
 refine pcd Tryz.func33 ?_;unfold Tryz.f33;simp only[gdS];simp only[go_sem];cases l with
 | nil=>
   simp only[go_sem];refine aB (fun E=>?_) (fun E=>?_)
   . simp only[go_sem];exact .refl _
   . simp at E
 | cons t l=>
   refine aB (fun E=>?_) (fun E=>?_)
   . simp at E;omega
   . simp only[go_sem]
     exact⟨⟨by omega,by omega⟩,.refl _⟩
def uD(l:List VType)(k:Nat)(s:ByteArray):Bool:=(l.take k).any fun t=>t.name.toList == s.toList
theorem afW(l:List VType)(m:Nat)(s:ByteArray)(hm:m<=l.length)(hl:l.length<=1048576):PC prog 133 [.sl (l.map aY),int m,str s] (boo (uD l m s)):=by
 refine pcd Tryz.func133 ?_;unfold Tryz.f133;simp only[gdS];simp only[go_sem];refine⟨fun ρ _=>∃k:Nat,k<=m/\ρ 0=.sl (l.map aY)/\ρ 1=int m/\ρ 2=str s/\ρ 7=int k/\∀t∈l.take k,(t.name.toList == s.toList)=false,fun ρ _=>m-aX (ρ 7),⟨0,Xab _,rfl,rfl,rfl,rfl,by simp⟩,?_⟩;rintro ρ H ⟨k,hk,h0,h1,J,I,Y⟩;simp only[go_sem,h0,h1,J,I];refine aB (fun E=>?_) (fun F=>?_)
 . have E:=aZ E
   obtain⟨r,X⟩:=aQ (show k<l.length by omega);have b1:=inB (show k<l.length by omega);simp only[go_sem,h0,h1,J,I,b1,aH X];refine aB (fun O=>?_) (fun O=>?_)
   . simp only[go_sem]
     have:uD l m s=true:=by
       refine Xau.2 ⟨r,?_,O⟩;exact Xad (i:=k) (by rw[List.getElem?_take];simp[E,X])
     rw[this];exact .refl _
   . simp only[go_sem,h0,h1,J,I,aS (show k<=4611686018427387904 by omega)]
     exact⟨⟨k+1,E,rfl,yR X Y O⟩,by simp only[aG];omega⟩
 . have F:=bD hk F
   subst F;simp only[go_sem];have:uD l k s=false:=Xby.2 fun t Z=>by simp[Y t Z]
   rw[this];exact .refl _
def qJ(p:Point):Bool:=decide (p.t<0)||decide (p.t>4096)||decide (p.a<p.t)||decide (p.a>IntKind.i64.wrap (p.t+4096))
def LF(p q:Point):Bool:=decide (p.t<=q.t)||decide (p.a<q.a)
def dW(l:List Point)(i:Nat):Point:=l.getD i ⟨0,0⟩
def F9(n lo hi:Int):Bool:=decide (n<lo)||decide (n>hi)
def iC(l:List Point)(i:Nat):List Fault:=
 opt (qJ (dW l i)) ⟨2,kD i⟩++opt (decide ((i:Int)>0)&&LF (dW l i) (dW l (i-1))) ⟨13,kD i⟩
def jK(l:List Point):List Fault:=opt (F9 l.length 1 16) ⟨4,ByteArray.empty⟩++(List.range l.length).flatMap (iC l)
theorem WM(l:List Point)(i:Nat):(iC l i).length<=2:=by
 unfold iC;rw[Xae];have:=cD (qJ (dW l i)) (⟨2,kD i⟩:Fault);have:=cD (decide ((i:Int)>0)&&LF (dW l i) (dW l (i-1))) (⟨13,kD i⟩:Fault);omega
theorem fH{α E:Type}{f:α->List E}{c:Nat}(h:∀x,(f x).length<=c):∀l:List α,(l.flatMap f).length<=c*l.length
 | []=>by simp
 | x::r=>by
   have h1:=h x;have F:=fH h r;simp only[List.flatMap_cons,Xae,Xac,Nat.mul_add,Nat.mul_one];omega
theorem iO{E:Type}(f:Nat->List E)(k:Nat):(List.range (k+1)).flatMap f=(List.range k).flatMap f++f k:=by rw[Xbx,List.flatMap_append];simp
theorem dY{l:List Point}{k:Nat}{p:Point}(h:l[k]?=some p):dW l k=p:=by simp[dW,List.getD,h]
theorem YD(l:List Point)(hl:l.length<=1048576):NC prog 131 [.sl (l.map cA)] (bN (jK l)) .os:=by
 refine ncb (fun t=>t == 3) Tryz.func131 ?_;unfold Tryz.f131;simp only[gdS];simp only[go_sem];refine aN fun j hj=>?_
 simp only[go_sem];refine bH (fun ρ H=>∃j,ρ 0=.sl (l.map cA)/\ρ 3=.os j/\H j=some (bN (opt (F9 l.length 1 16) ⟨4,ByteArray.empty⟩))) ?_ fun K hK=>aB (fun X=>?_) (fun X=>?_)
 . rintro ρ H ⟨j,h0,E,J⟩
   simp only[go_sem,h0,E];generalize ab:opt (F9 l.length 1 16) (⟨4,ByteArray.empty⟩:Fault)=pre at J;have ak:pre.length<=1:=by rw[<-ab];exact cD _ _
   refine⟨fun ρ H=>∃k:Nat,k<=l.length/\ρ 0=.sl (l.map cA)/\ρ 4=int k/\∃j,ρ 3=.os j/\H j=some (bN (pre++(List.range k).flatMap (iC l))),fun ρ _=>l.length-aX (ρ 4),⟨0,Xab _,by simp only[go_sem,h0],by simp only[go_sem];rfl,j,by simp only[go_sem,E],by simpa using J⟩,?_⟩;rintro ρ H ⟨k,hk,h0,I,j,E,J⟩;generalize ac:pre++(List.range k).flatMap (iC l)=es at J;have aj:es.length<=2*k+1:=by
     have:=fH (WM l) (List.range k);rw[<-ac,Xae];rw[Xbf]at this;omega
   simp only[go_sem,h0,E,I];refine aB (fun Y=>?_) (fun ad=>?_)
   . have Y:=aZ Y
     obtain⟨p,hp⟩:=aQ Y;have b1:=inB Y;simp only[go_sem,h0,E,I,b1,aH hp];refine aN fun i hi=>?_
     simp only[go_sem];refine aM (r:=⟨136,2,[[int 0,int 0]]⟩) (by rw[aA]) (by simp[gX]) ?_;simp only[go_sem];have O:j≠i:=aO J hi;have ag:aI (aI H i (some ⟨136,2,[[int 0,int 0]]⟩)) i (some ⟨136,2,[cA p]⟩) j=some (bN es):=by rw[aD _ _ _ _ O,aD _ _ _ _ O,J]
     refine bH (fun F H'=>∃Z,F 0=.sl (l.map cA)/\F 4=int k/\F 3=.os Z/\F 5=.op i 0 0/\H' i=some ⟨136,2,[cA p]⟩/\Z≠i /\
       H' Z=some (bN (es++opt (qJ p) ⟨2,kD k⟩))) ?_ fun K hK=>aB (fun X=>?_) (fun X=>?_)
     . rintro ρ H ⟨j,h0,I,E,h5,hi,O,J⟩
       generalize ah:es++opt (qJ p) ⟨2,kD k⟩=fs at J;have al:fs.length<=2*k+2:=by
         have:=cD (qJ p) (⟨2,kD k⟩:Fault);rw[<-ah,Xae];omega
       simp only[go_sem];refine fV (by rfl) (by kernel_rfl) ?_;simp only[go_sem,h0,E,I,h5,hi];obtain⟨q,hq⟩:=aQ (show k-1<l.length by omega);simp only[go_sem,h0,E,I,h5,hi,ZE (show k<=4611686018427387904 by omega),aH hq];have af:k<=4611686018427387904:=by omega
       have hg:decide ((k:Int)>0)=true->0<=IntKind.i64.wrap ((k:Int)-1)/\IntKind.i64.wrap ((k:Int)-1)<(l.length:Int):=fun h=>by
         have:(k:Int)>0:=by simpa using h
         rw[oI af];omega
       have ai:pre++(List.range (k+1)).flatMap (iC l)=fs++opt (decide ((k:Int)>0)&&LF p q) ⟨13,kD k⟩:=by
         rw[iO,<-Xav,ac,<-ah,iC,dY hp,dY hq,Xav]
       refine⟨hg,fun h=>hg h.1,hU (fun F H'=>F 0=.sl (l.map cA)/\F 4=int k/\∃j,F 3=.os j/\H' j=some (bN (pre++(List.range (k+1)).flatMap (iC l)))) ?_ fun K hK _ _=>aB (fun X=>?_) (fun X=>?_)⟩
       . rintro ρ H ⟨h0,I,j,E,J⟩
         simp only[go_sem,h0,E,I,aS af];exact⟨⟨k+1,Y,rfl,j,rfl,J⟩,by simp only[aG];omega⟩
       . simp only[go_sem,h0,E,I]
         refine PC.use (rY _ (by omega)) ?_;simp only[go_sem,h0,E,I];refine bG J ⟨rfl,rfl⟩ (by simp only[go_sem]) (by simp only[Xaa,Xac,List.length_nil];omega) (fun Z aa=>?_);simp only[go_sem,h0,E,I];refine hK _ _ ⟨by simp only[go_sem,h0],by simp only[go_sem,I],Z,by simp only[go_sem],?_⟩;rw[ai,iV (by exact X)];exact fG (l':=[⟨13,kD k⟩]) rfl
       . simp only[go_sem]
         refine hK _ _ ⟨by simp only[go_sem,h0],by simp only[go_sem,I],j,by simp only[go_sem,E],?_⟩;rw[ai,iX (by exact X),Xal,J]
     . simp only[go_sem,h0,E,I]
       refine PC.use (rY _ (by omega)) ?_;simp only[go_sem,h0,E,I];refine bG ag ⟨rfl,rfl⟩ (by simp only[go_sem]) (by simp only[Xaa,Xac,List.length_nil];omega) (fun Z aa=>?_);simp only[go_sem,h0,E,I];have ae:=aA (aI H i (some ⟨136,2,[[int 0,int 0]]⟩)) i (some ⟨136,2,[cA p]⟩);refine hK _ _ ⟨Z,by simp only[go_sem,h0],by simp only[go_sem,I],by simp only[go_sem],by simp only[go_sem],dN ae O aa,(aO ae aa).symm,?_⟩;rw[iV (show qJ p=true from X)];exact fG (l':=[⟨2,kD k⟩]) rfl
     . simp only[go_sem]
       refine hK _ _ ⟨j,by simp only[go_sem,h0],by simp only[go_sem,I],by simp only[go_sem,E],by simp only[go_sem],by rw[aA],O,?_⟩;rw[ag,iX (show qJ p=false from X),Xal]
   . have ad:=bD hk ad
     subst ad;simp only[go_sem,E];exact⟨_,rfl,by rw[J,<-ac,<-ab];rfl⟩
 . simp only[go_sem]
   refine bG (r:=bN []) (by simp only[go_sem];rfl) ⟨rfl,rfl⟩ (by simp only[go_sem]) (by simp) (fun Z aa=>?_);simp only[go_sem];refine hK _ _ ⟨Z,rfl,rfl,?_⟩;rw[iV (by exact X)];exact fG (l:=[]) (l':=[⟨4,ByteArray.empty⟩]) rfl
 . simp only[go_sem]
   refine hK _ _ ⟨j,rfl,rfl,?_⟩;rw[iX (by exact X),aA];rfl
def HU(l:List ByteArray)(i:Nat):ByteArray:=l.getD i ByteArray.empty
theorem De{l:List ByteArray}{k:Nat}{p:ByteArray}(h:l[k]?=some p):HU l k=p:=by simp[HU,List.getD,h]
def sX(i:Nat):ByteArray:=⟨#[112,108,97,99,101,32]⟩++kD i
def sW(l:List ByteArray)(i:Nat):Bool:=(l.take i).any fun s=>s.toList == (HU l i).toList
def gH(l:List ByteArray)(i:Nat):List Fault:=match lQ (HU l i)with
 | false=>[⟨5,sX i⟩]
 | true=>opt (sW l i) ⟨6,sX i⟩
theorem SY(l:List ByteArray)(i:Nat):(gH l i).length<=1:=by
 unfold gH;split
 . simp
 . exact cD _ _
def xA(l:List ByteArray):List Fault:=opt (decide ((l.length:Int)>24)) ⟨4,⟨#[112,108,97,99,101,115]⟩⟩++(List.range l.length).flatMap (gH l)
theorem Gg{α:Type}{p:α->Bool}{l:List α}{k:Nat}{x:α}(h:l[k]?=some x):(l.take (k+1)).any p=((l.take k).any p||p x):=by rw[bX h,List.any_append];simp
theorem Oo(i:Nat):(sX i).size<=i+7:=by
 have:=oA i;unfold sX;rw[ByteArray.size_append];have:(⟨#[112,108,97,99,101,32]⟩:ByteArray).size=6:=rfl;omega
theorem CE(n:Network)(hl:n.places.length<=1048576)(hs:∀s∈n.places,s.size<=1048576):NC prog 68 [.agg (aV n)] (bN (xA n.places)) .os:=by
 refine ncb (fun t=>t == 3) Tryz.func68 ?_;unfold Tryz.f68;simp only[gdS];simp only[go_sem];refine aN fun j hj=>?_
 simp only[go_sem];refine bH (fun ρ H=>∃j,ρ 1=.rp (aV n) 0/\ρ 3=.os j/\H j=some (bN (opt (decide ((n.places.length:Int)>24)) ⟨4,⟨#[112,108,97,99,101,115]⟩⟩))) ?_ fun K hK=>aB (fun J=>?_) (fun J=>?_)
 . rintro ρ H ⟨j,h1,E,Y⟩
   simp only[go_sem,h1,E];generalize Z:opt (decide ((n.places.length:Int)>24)) (⟨4,⟨#[112,108,97,99,101,115]⟩⟩:Fault)=pre at Y;have ai:pre.length<=1:=by rw[<-Z];exact cD _ _
   refine⟨fun ρ H=>∃k:Nat,k<=n.places.length/\ρ 1=.rp (aV n) 0/\ρ 4=int k/\∃j,ρ 3=.os j/\H j=some (bN (pre++(List.range k).flatMap (gH n.places))),fun ρ _=>n.places.length-aX (ρ 4),⟨0,Xab _,by simp only[go_sem,h1],by simp only[go_sem];rfl,j,by simp only[go_sem,E],by simpa using Y⟩,?_⟩;rintro ρ H ⟨k,hk,h1,F,j,E,Y⟩;generalize aa:pre++(List.range k).flatMap (gH n.places)=es at Y;have ah:es.length<=k+1:=by
     have:=fH (SY n.places) (List.range k);rw[<-aa,Xae];rw[Xbf]at this;omega
   simp only[go_sem,h1,E,F];refine aB (fun I=>?_) (fun ad=>?_)
   . have I:=aZ I
     obtain⟨p,hp⟩:=aQ I;have b1:=inB I;have af:k<=4611686018427387904:=by omega
     have aj:=oA k;have ac:pre++(List.range (k+1)).flatMap (gH n.places)=es++gH n.places k:=by rw[iO,<-Xav,aa]
     simp only[go_sem,h1,E,F];refine PC.use (rY _ (by omega)) ?_;simp only[go_sem,h1,E,F,b1,aH hp];refine⟨by rw[xF];show((6+(kD k).size:Nat):Int)<=_;omega,?_⟩;refine PC.use (Pz p (hs p (kI hp))) ?_;simp only[go_sem,h1,E,F];refine aB (fun J=>?_) (fun J=>?_)
     . simp only[go_sem,h1,E,F]
       refine bG Y ⟨rfl,rfl⟩ (by simp only[go_sem]) (by simp only[Xaa,Xac,List.length_nil];omega) (fun j' ag=>?_);simp only[go_sem,h1,E,F,aS af];refine⟨⟨k+1,I,rfl,j',rfl,?_⟩,by simp only[aG];omega⟩;have hn:lQ (HU n.places k)=false:=by rw[De hp];simpa using J
       rw[ac,gH,hn];exact fG (l':=[⟨5,sX k⟩]) rfl
     . simp only[go_sem,h1,E,F]
       have hn:lQ (HU n.places k)=true:=by rw[De hp];simpa using J
       refine⟨fun ρ H'=>∃m:Nat,m<=k/\ρ 1=.rp (aV n) 0/\ρ 3=.os j/\ρ 4=int k/\ρ 5=str (sX k)/\ρ 6=boo ((n.places.take m).any fun s=>s.toList == p.toList)/\ρ 7=int m/\H'=H,fun ρ _=>k-aX (ρ 7),⟨0,Xab _,by simp only[go_sem,h1],by simp only[go_sem,E],by simp only[go_sem,F],by simp only[go_sem];rfl,by simp only[go_sem];rfl,by simp only[go_sem];rfl,rfl⟩,?_⟩;rintro ρ H' ⟨m,hm,h1,E,F,h5,h6,h7,rfl⟩;simp only[go_sem,h1,E,F,h5,h6,h7];refine aB (fun X=>?_) (fun O=>?_)
       . have X:=aZ X
         obtain⟨q,hq⟩:=aQ (show m<n.places.length by omega);have b2:=inB (show m<n.places.length by omega);simp only[go_sem];refine fV (by rfl) (by kernel_rfl) ?_;simp only[go_sem,h1,E,F,h5,h6,h7,b1,b2,aH hp,aH hq,aS (show m<=4611686018427387904 by omega)];refine⟨⟨m+1,X,?_,rfl⟩,by simp only[aG];omega⟩;rw[Gg hq]
       . have O:=bD hm O
         subst O;simp only[go_sem,h6];have ae:sW n.places m=(n.places.take m).any fun s=>s.toList == p.toList:=by unfold sW;rw[De hp]
         refine hU (fun ab H'=>ab 1=.rp (aV n) 0/\ab 4=int m/\∃j,ab 3=.os j/\H' j=some (bN (pre++(List.range (m+1)).flatMap (gH n.places)))) ?_ fun K hK _ _=>aB (fun J=>?_) (fun J=>?_)
         . rintro ρ H ⟨h1,F,j,E,Y⟩
           simp only[go_sem,h1,E,F,aS af];exact⟨⟨m+1,I,rfl,j,rfl,Y⟩,by simp only[aG];omega⟩
         . simp only[go_sem,h1,E,F,h5]
           refine bG Y ⟨rfl,rfl⟩ (by simp only[go_sem]) (by simp only[Xaa,Xac,List.length_nil];omega) (fun j' ag=>?_);simp only[go_sem];refine hK _ _ ⟨by simp only[go_sem,h1],by simp only[go_sem,F],j',by simp only[go_sem],?_⟩;rw[ac,gH,hn];show _=some (bN (es++opt (sW n.places m) ⟨6,sX m⟩));rw[iV (ae.trans J)];exact fG (l':=[⟨6,sX m⟩]) rfl
         . simp only[go_sem]
           refine hK _ _ ⟨by simp only[go_sem,h1],by simp only[go_sem,F],j,by simp only[go_sem,E],?_⟩;rw[ac,gH,hn];show _=some (bN (es++opt (sW n.places m) ⟨6,sX m⟩));rw[iX (ae.trans J),Xal,Y]
   . have ad:=bD hk ad
     subst ad;simp only[go_sem,E];exact⟨_,rfl,by rw[Y,<-aa,<-Z];rfl⟩
 . simp only[go_sem]
   refine bG (r:=bN []) (by simp only[go_sem];rfl) ⟨rfl,rfl⟩ (by simp only[go_sem]) (by simp) (fun j' ag=>?_);simp only[go_sem];refine hK _ _ ⟨j',rfl,rfl,?_⟩;rw[iV (by exact J)];exact fG (l:=[]) (l':=[⟨4,⟨#[112,108,97,99,101,115]⟩⟩]) rfl
 . simp only[go_sem]
   refine hK _ _ ⟨j,rfl,rfl,?_⟩;rw[iX (by exact J),aA];rfl
def QF(l:List VType)(i:Nat):VType:=l.getD i ⟨ByteArray.empty,0,0,0,[],0,0,0,0,0,0,0,0,0⟩
theorem EU{l:List VType}{k:Nat}{p:VType}(h:l[k]?=some p):QF l k=p:=by simp[QF,List.getD,h]
def mF(n:Network)(l:List VType)(k:Nat)(t:VType):List Int:=
 []++opt (!lQ t.name) 5++opt (uD l k t.name) 6++opt (!inR t.count 0 10) 22++opt (!inR t.src 0 (n.places.length-1)|| !inR t.dst 0 (n.places.length-1)) 11
   ++ opt (!zJ t.cap (nH l)) 17++opt (!inR t.skills 0 1073741823) 18++opt (!inR t.start 0 t.close||decide (t.close>4096)) 15
   ++ opt (!inR t.drive 1 4096|| !inR t.rest 0 4096) 16++opt (!inR t.profile 0 7|| !inR t.fixed 0 100000|| !inR t.perMile 0 100|| !inR t.perTick 0 100) 2
theorem XC(n:Network)(l:List VType)(k:Nat)(hk:k<l.length)(hl:l.length<=1048576)(hs:∀t∈l,t.name.size<=1048576/\t.cap.length<=1048576)(hp:n.places.length<=1048576):
   PC prog 71 [.agg (aV n),.sl (l.map aY),int k] (.sl ((mF n l k (QF l k)).map aR)):=by
 refine pcb (fun t=>t == 8) Tryz.func71 ?_;unfold Tryz.f71;simp only[gdS];simp only[go_sem];obtain⟨t,ht⟩:=aQ hk;have b1:=inB hk;have al:=hs t (kI ht);rw[EU ht];simp only[go_sem,b1,aH ht];refine aN fun i hi=>?_
 simp only[go_sem];refine aM (aA _ _ _) (by simp[oU]) ?_;simp only[go_sem];refine aN fun j hj=>?_
 have am:=lF (r':=(⟨35,1,[]⟩:Row)) (aA _ _ _) hj;simp only[go_sem,am];refine PC.use (Pz _ al.1) ?_;simp only[go_sem];refine pQ (fun E H'=>E 1=.sl (l.map aY)/\E 2=int k/\E 3=.rp (aV n) 0/\E 7=.op i 0 0/\H' i=some (mL t)/\∃X,E 8=.os X/\X≠i/\H' X=some (kY [])) ⟨by simp only[go_sem],by simp only[go_sem],by simp only[go_sem],by simp only[go_sem],lF (aA _ _ _) hj,_,by simp only[go_sem],(aO (aA _ _ _) hj).symm,aA _ _ _⟩ ?_;rintro ρ H ⟨h1,I,J,F,hi,j,O,Y,hH⟩;generalize ah:([]:List Int)=es0 at hH;have av:es0.length<=0:=by rw[<-ah];exact Xag _
 refine bH (fun E H'=>E 1=.sl (l.map aY)/\E 2=int k/\E 3=.rp (aV n) 0/\E 7=.op i 0 0/\H' i=some (mL t)/\∃X,E 8=.os X/\X≠i/\H' X=some (kY (es0++opt (!lQ t.name) 5))) ?_ fun K hK=>aB (fun hb=>?_) (fun hb=>?_)
 rotate_left
 . simp only[go_sem,h1,I,J,F,O]
   refine bG hH ⟨rfl,rfl⟩ (by simp only[go_sem]) (by simp only[Xaa,Xac,List.length_nil];omega) (fun X Z=>?_);simp only[go_sem];refine hK _ _ ⟨by simp only[go_sem,h1],by simp only[go_sem,I],by simp only[go_sem,J],by simp only[go_sem,F],dN hi Y Z,X,by simp only[go_sem],(aO hi Z).symm,?_⟩;rw[iV (show(!lQ t.name)=true from hb)];exact gR (l':=[5]) rfl
 . simp only[go_sem]
   refine hK _ _ ⟨by simp only[go_sem,h1],by simp only[go_sem,I],by simp only[go_sem,J],by simp only[go_sem,F],hi,j,by simp only[go_sem,O],Y,?_⟩;rw[iX (show(!lQ t.name)=false from hb),Xal,hH]
 clear hH h1 I J F O;rintro ρ H ⟨h1,I,J,F,hi,j,O,Y,hH⟩;generalize ad:es0++opt (!lQ t.name) (5:Int)=es1 at hH;have an:es1.length<=es0.length+1:=by rw[<-ad,Xae];have:=cD (!lQ t.name) (5:Int);omega
 simp only[go_sem,h1,I,J,F,O,hi];refine PC.use (afW l k t.name (by omega) hl) ?_;simp only[go_sem];refine bH (fun E H'=>E 1=.sl (l.map aY)/\E 2=int k/\E 3=.rp (aV n) 0/\E 7=.op i 0 0/\H' i=some (mL t)/\∃X,E 8=.os X/\X≠i/\H' X=some (kY (es1++opt (uD l k t.name) 6))) ?_ fun K hK=>aB (fun hb=>?_) (fun hb=>?_)
 rotate_left
 . simp only[go_sem,h1,I,J,F,O]
   refine bG hH ⟨rfl,rfl⟩ (by simp only[go_sem]) (by simp only[Xaa,Xac,List.length_nil];omega) (fun X Z=>?_);simp only[go_sem];refine hK _ _ ⟨by simp only[go_sem,h1],by simp only[go_sem,I],by simp only[go_sem,J],by simp only[go_sem,F],dN hi Y Z,X,by simp only[go_sem],(aO hi Z).symm,?_⟩;rw[iV (show(uD l k t.name)=true from hb)];exact gR (l':=[6]) rfl
 . simp only[go_sem]
   refine hK _ _ ⟨by simp only[go_sem,h1],by simp only[go_sem,I],by simp only[go_sem,J],by simp only[go_sem,F],hi,j,by simp only[go_sem,O],Y,?_⟩;rw[iX (show(uD l k t.name)=false from hb),Xal,hH]
 clear hH h1 I J F O;rintro ρ H ⟨h1,I,J,F,hi,j,O,Y,hH⟩;generalize ab:es1++opt (uD l k t.name) (6:Int)=es2 at hH;have ax:es2.length<=es1.length+1:=by rw[<-ab,Xae];have:=cD (uD l k t.name) (6:Int);omega
 simp only[go_sem,h1,I,J,F,O,hi];refine PC.use (oR _ _ _) ?_;simp only[go_sem];refine bH (fun E H'=>E 1=.sl (l.map aY)/\E 2=int k/\E 3=.rp (aV n) 0/\E 7=.op i 0 0/\H' i=some (mL t)/\∃X,E 8=.os X/\X≠i/\H' X=some (kY (es2++opt (!inR t.count 0 10) 22))) ?_ fun K hK=>aB (fun hb=>?_) (fun hb=>?_)
 rotate_left
 . simp only[go_sem,h1,I,J,F,O]
   refine bG hH ⟨rfl,rfl⟩ (by simp only[go_sem]) (by simp only[Xaa,Xac,List.length_nil];omega) (fun X Z=>?_);simp only[go_sem];refine hK _ _ ⟨by simp only[go_sem,h1],by simp only[go_sem,I],by simp only[go_sem,J],by simp only[go_sem,F],dN hi Y Z,X,by simp only[go_sem],(aO hi Z).symm,?_⟩;rw[iV (show(!inR t.count 0 10)=true from hb)];exact gR (l':=[22]) rfl
 . simp only[go_sem]
   refine hK _ _ ⟨by simp only[go_sem,h1],by simp only[go_sem,I],by simp only[go_sem,J],by simp only[go_sem,F],hi,j,by simp only[go_sem,O],Y,?_⟩;rw[iX (show(!inR t.count 0 10)=false from hb),Xal,hH]
 clear hH h1 I J F O;rintro ρ H ⟨h1,I,J,F,hi,j,O,Y,hH⟩;generalize aj:es2++opt (!inR t.count 0 10) (22:Int)=es3 at hH;have ay:es3.length<=es2.length+1:=by rw[<-aj,Xae];have:=cD (!inR t.count 0 10) (22:Int);omega
 simp only[go_sem,h1,I,J,F,O,hi,oI (show n.places.length<=4611686018427387904 by omega)];refine PC.use (oR _ _ _) ?_;simp only[go_sem,h1,I,J,F,O,hi,oI (show n.places.length<=4611686018427387904 by omega)];refine⟨_,fun _=>(oR _ _ _).q rfl,?_⟩;simp only[go_sem,h1,I,J,F,O,hi];refine bH (fun E H'=>E 1=.sl (l.map aY)/\E 2=int k/\E 3=.rp (aV n) 0/\E 7=.op i 0 0/\H' i=some (mL t)/\∃X,E 8=.os X/\X≠i/\H' X=some (kY (es3++opt (!inR t.src 0 (n.places.length-1)|| !inR t.dst 0 (n.places.length-1)) 11))) ?_ fun K hK=>aB (fun hb=>?_) (fun hb=>?_)
 rotate_left
 . simp only[go_sem,h1,I,J,F,O]
   refine bG hH ⟨rfl,rfl⟩ (by simp only[go_sem]) (by simp only[Xaa,Xac,List.length_nil];omega) (fun X Z=>?_);simp only[go_sem];refine hK _ _ ⟨by simp only[go_sem,h1],by simp only[go_sem,I],by simp only[go_sem,J],by simp only[go_sem,F],dN hi Y Z,X,by simp only[go_sem],(aO hi Z).symm,?_⟩;rw[iV (show(!inR t.src 0 (n.places.length-1)|| !inR t.dst 0 (n.places.length-1))=true from hb)];exact gR (l':=[11]) rfl
 . simp only[go_sem]
   refine hK _ _ ⟨by simp only[go_sem,h1],by simp only[go_sem,I],by simp only[go_sem,J],by simp only[go_sem,F],hi,j,by simp only[go_sem,O],Y,?_⟩;rw[iX (show(!inR t.src 0 (n.places.length-1)|| !inR t.dst 0 (n.places.length-1))=false from hb),Xal,hH]
 clear hH h1 I J F O;rintro ρ H ⟨h1,I,J,F,hi,j,O,Y,hH⟩;generalize aa:es3++opt (!inR t.src 0 (n.places.length-1)|| !inR t.dst 0 (n.places.length-1)) (11:Int)=es4 at hH;have aw:es4.length<=es3.length+1:=by rw[<-aa,Xae];have:=cD (!inR t.src 0 (n.places.length-1)|| !inR t.dst 0 (n.places.length-1)) (11:Int);omega
 simp only[go_sem,h1,I,J,F,O,hi];refine fV (by rfl) (by kernel_rfl) ?_;simp only[go_sem,h1,I,J,F,O,hi];refine⟨_,(J5 l).q rfl,?_⟩;simp only[go_sem,h1,I,J,F,O,hi];refine⟨_,(arC t.cap (nH l) al.2).q rfl,?_⟩;simp only[go_sem,h1,I,J,F,O,hi];refine bH (fun E H'=>E 1=.sl (l.map aY)/\E 2=int k/\E 3=.rp (aV n) 0/\E 7=.op i 0 0/\H' i=some (mL t)/\∃X,E 8=.os X/\X≠i/\H' X=some (kY (es4++opt (!zJ t.cap (nH l)) 17))) ?_ fun K hK=>aB (fun hb=>?_) (fun hb=>?_)
 rotate_left
 . simp only[go_sem,h1,I,J,F,O]
   refine bG hH ⟨rfl,rfl⟩ (by simp only[go_sem]) (by simp only[Xaa,Xac,List.length_nil];omega) (fun X Z=>?_);simp only[go_sem];refine hK _ _ ⟨by simp only[go_sem,h1],by simp only[go_sem,I],by simp only[go_sem,J],by simp only[go_sem,F],dN hi Y Z,X,by simp only[go_sem],(aO hi Z).symm,?_⟩;rw[iV (show(!zJ t.cap (nH l))=true from hb)];exact gR (l':=[17]) rfl
 . simp only[go_sem]
   refine hK _ _ ⟨by simp only[go_sem,h1],by simp only[go_sem,I],by simp only[go_sem,J],by simp only[go_sem,F],hi,j,by simp only[go_sem,O],Y,?_⟩;rw[iX (show(!zJ t.cap (nH l))=false from hb),Xal,hH]
 clear hH h1 I J F O;rintro ρ H ⟨h1,I,J,F,hi,j,O,Y,hH⟩;generalize ag:es4++opt (!zJ t.cap (nH l)) (17:Int)=es5 at hH;have au:es5.length<=es4.length+1:=by rw[<-ag,Xae];have:=cD (!zJ t.cap (nH l)) (17:Int);omega
 simp only[go_sem,h1,I,J,F,O,hi];refine PC.use (oR _ _ _) ?_;simp only[go_sem,h1,I,J,F,O,hi];refine bH (fun E H'=>E 1=.sl (l.map aY)/\E 2=int k/\E 3=.rp (aV n) 0/\E 7=.op i 0 0/\H' i=some (mL t)/\∃X,E 8=.os X/\X≠i/\H' X=some (kY (es5++opt (!inR t.skills 0 1073741823) 18))) ?_ fun K hK=>aB (fun hb=>?_) (fun hb=>?_)
 rotate_left
 . simp only[go_sem,h1,I,J,F,O]
   refine bG hH ⟨rfl,rfl⟩ (by simp only[go_sem]) (by simp only[Xaa,Xac,List.length_nil];omega) (fun X Z=>?_);simp only[go_sem];refine hK _ _ ⟨by simp only[go_sem,h1],by simp only[go_sem,I],by simp only[go_sem,J],by simp only[go_sem,F],dN hi Y Z,X,by simp only[go_sem],(aO hi Z).symm,?_⟩;rw[iV (show(!inR t.skills 0 1073741823)=true from hb)];exact gR (l':=[18]) rfl
 . simp only[go_sem]
   refine hK _ _ ⟨by simp only[go_sem,h1],by simp only[go_sem,I],by simp only[go_sem,J],by simp only[go_sem,F],hi,j,by simp only[go_sem,O],Y,?_⟩;rw[iX (show(!inR t.skills 0 1073741823)=false from hb),Xal,hH]
 clear hH h1 I J F O;rintro ρ H ⟨h1,I,J,F,hi,j,O,Y,hH⟩;generalize ae:es5++opt (!inR t.skills 0 1073741823) (18:Int)=es6 at hH;have aq:es6.length<=es5.length+1:=by rw[<-ae,Xae];have:=cD (!inR t.skills 0 1073741823) (18:Int);omega
 simp only[go_sem,h1,I,J,F,O,hi];refine PC.use (oR _ _ _) ?_;simp only[go_sem,h1,I,J,F,O,hi];refine bH (fun E H'=>E 1=.sl (l.map aY)/\E 2=int k/\E 3=.rp (aV n) 0/\E 7=.op i 0 0/\H' i=some (mL t)/\∃X,E 8=.os X/\X≠i/\H' X=some (kY (es6++opt (!inR t.start 0 t.close||decide (t.close>4096)) 15))) ?_ fun K hK=>aB (fun hb=>?_) (fun hb=>?_)
 rotate_left
 . simp only[go_sem,h1,I,J,F,O]
   refine bG hH ⟨rfl,rfl⟩ (by simp only[go_sem]) (by simp only[Xaa,Xac,List.length_nil];omega) (fun X Z=>?_);simp only[go_sem];refine hK _ _ ⟨by simp only[go_sem,h1],by simp only[go_sem,I],by simp only[go_sem,J],by simp only[go_sem,F],dN hi Y Z,X,by simp only[go_sem],(aO hi Z).symm,?_⟩;rw[iV (show(!inR t.start 0 t.close||decide (t.close>4096))=true from hb)];exact gR (l':=[15]) rfl
 . simp only[go_sem]
   refine hK _ _ ⟨by simp only[go_sem,h1],by simp only[go_sem,I],by simp only[go_sem,J],by simp only[go_sem,F],hi,j,by simp only[go_sem,O],Y,?_⟩;rw[iX (show(!inR t.start 0 t.close||decide (t.close>4096))=false from hb),Xal,hH]
 clear hH h1 I J F O;rintro ρ H ⟨h1,I,J,F,hi,j,O,Y,hH⟩;generalize ai:es6++opt (!inR t.start 0 t.close||decide (t.close>4096)) (15:Int)=es7 at hH;have ao:es7.length<=es6.length+1:=by rw[<-ai,Xae];have:=cD (!inR t.start 0 t.close||decide (t.close>4096)) (15:Int);omega
 simp only[go_sem,h1,I,J,F,O,hi];refine PC.use (oR _ _ _) ?_;simp only[go_sem,h1,I,J,F,O,hi];refine⟨_,fun _=>(oR _ _ _).q rfl,?_⟩;simp only[go_sem,h1,I,J,F,O,hi];refine bH (fun E H'=>E 1=.sl (l.map aY)/\E 2=int k/\E 3=.rp (aV n) 0/\E 7=.op i 0 0/\H' i=some (mL t)/\∃X,E 8=.os X/\X≠i/\H' X=some (kY (es7++opt (!inR t.drive 1 4096|| !inR t.rest 0 4096) 16))) ?_ fun K hK=>aB (fun hb=>?_) (fun hb=>?_)
 rotate_left
 . simp only[go_sem,h1,I,J,F,O]
   refine bG hH ⟨rfl,rfl⟩ (by simp only[go_sem]) (by simp only[Xaa,Xac,List.length_nil];omega) (fun X Z=>?_);simp only[go_sem];refine hK _ _ ⟨by simp only[go_sem,h1],by simp only[go_sem,I],by simp only[go_sem,J],by simp only[go_sem,F],dN hi Y Z,X,by simp only[go_sem],(aO hi Z).symm,?_⟩;rw[iV (show(!inR t.drive 1 4096|| !inR t.rest 0 4096)=true from hb)];exact gR (l':=[16]) rfl
 . simp only[go_sem]
   refine hK _ _ ⟨by simp only[go_sem,h1],by simp only[go_sem,I],by simp only[go_sem,J],by simp only[go_sem,F],hi,j,by simp only[go_sem,O],Y,?_⟩;rw[iX (show(!inR t.drive 1 4096|| !inR t.rest 0 4096)=false from hb),Xal,hH]
 clear hH h1 I J F O;rintro ρ H ⟨h1,I,J,F,hi,j,O,Y,hH⟩;generalize ac:es7++opt (!inR t.drive 1 4096|| !inR t.rest 0 4096) (16:Int)=es8 at hH;have ap:es8.length<=es7.length+1:=by rw[<-ac,Xae];have:=cD (!inR t.drive 1 4096|| !inR t.rest 0 4096) (16:Int);omega
 simp only[go_sem,h1,I,J,F,O,hi];refine PC.use (oR _ _ _) ?_;simp only[go_sem,h1,I,J,F,O,hi];refine⟨_,fun _=>(oR _ _ _).q rfl,?_⟩;simp only[go_sem,h1,I,J,F,O,hi];refine⟨_,fun _=>(oR _ _ _).q rfl,?_⟩;simp only[go_sem,h1,I,J,F,O,hi];refine⟨_,fun _=>(oR _ _ _).q rfl,?_⟩;simp only[go_sem,h1,I,J,F,O,hi];refine bH (fun E H'=>E 1=.sl (l.map aY)/\E 2=int k/\E 3=.rp (aV n) 0/\E 7=.op i 0 0/\H' i=some (mL t)/\∃X,E 8=.os X/\X≠i/\H' X=some (kY (es8++opt (!inR t.profile 0 7|| !inR t.fixed 0 100000|| !inR t.perMile 0 100|| !inR t.perTick 0 100) 2))) ?_ fun K hK=>aB (fun hb=>?_) (fun hb=>?_)
 rotate_left
 . simp only[go_sem,h1,I,J,F,O]
   refine bG hH ⟨rfl,rfl⟩ (by simp only[go_sem]) (by simp only[Xaa,Xac,List.length_nil];omega) (fun X Z=>?_);simp only[go_sem];refine hK _ _ ⟨by simp only[go_sem,h1],by simp only[go_sem,I],by simp only[go_sem,J],by simp only[go_sem,F],dN hi Y Z,X,by simp only[go_sem],(aO hi Z).symm,?_⟩;rw[iV (show(!inR t.profile 0 7|| !inR t.fixed 0 100000|| !inR t.perMile 0 100|| !inR t.perTick 0 100)=true from hb)];exact gR (l':=[2]) rfl
 . simp only[go_sem]
   refine hK _ _ ⟨by simp only[go_sem,h1],by simp only[go_sem,I],by simp only[go_sem,J],by simp only[go_sem,F],hi,j,by simp only[go_sem,O],Y,?_⟩;rw[iX (show(!inR t.profile 0 7|| !inR t.fixed 0 100000|| !inR t.perMile 0 100|| !inR t.perTick 0 100)=false from hb),Xal,hH]
 clear hH h1 I J F O;rintro ρ H ⟨h1,I,J,F,hi,j,O,Y,hH⟩;generalize af:es8++opt (!inR t.profile 0 7|| !inR t.fixed 0 100000|| !inR t.perMile 0 100|| !inR t.perTick 0 100) (2:Int)=es9 at hH;have ar:es9.length<=es8.length+1:=by rw[<-af,Xae];have:=cD (!inR t.profile 0 7|| !inR t.fixed 0 100000|| !inR t.perMile 0 100|| !inR t.perTick 0 100) (2:Int);omega
 simp only[go_sem,h1,I,J,F,O,hi];have ak:mF n l k t=es9:=by unfold mF;rw[ah,ad,ab,aj,aa,ag,ae,ai,ac,af]
 rw[ak];exact .row _ _ _ hH (ConvE.refl _)
def iL(n:Network)(l:List VType)(k:Nat):List Fault:=(mF n l k (QF l k)).map fun e=>⟨e,kD k⟩
def sU(n:Network)(l:List VType):List Fault:=opt (!inR l.length 1 6) ⟨4,ByteArray.empty⟩++(List.range l.length).flatMap (iL n l)
theorem wG(n:Network)(l:List VType)(k:Nat)(t:VType):(mF n l k t).length<=9:=by
 unfold mF;simp only[Xae,List.length_nil];have h:=fun(b:Bool) (x:Int)=>cD b x
 have h1:=h (!lQ t.name) 5;have Z:=h (uD l k t.name) 6;have Y:=h (!inR t.count 0 10) 22;have J:=h (!inR t.src 0 (n.places.length-1)|| !inR t.dst 0 (n.places.length-1)) 11;have O:=h (!zJ t.cap (nH l)) 17;have E:=h (!inR t.skills 0 1073741823) 18;have F:=h (!inR t.start 0 t.close||decide (t.close>4096)) 15;have I:=h (!inR t.drive 1 4096|| !inR t.rest 0 4096) 16;have X:=h (!inR t.profile 0 7|| !inR t.fixed 0 100000|| !inR t.perMile 0 100|| !inR t.perTick 0 100) 2;omega
theorem Ci{α E:Type}{f:α->E}{l:List α}{k:Nat}{x:α}(h:l[k]?=some x):(l.take (k+1)).map f=(l.take k).map f++[f x]:=by rw[bX h,Xat];rfl
theorem aeQ(n:Network)(l:List VType)(hl:l.length<=1048576)(hs:∀t∈l,t.name.size<=1048576/\t.cap.length<=1048576)(hp:n.places.length<=1048576):
   NC prog 31 [.agg (aV n),.sl (l.map aY)] (bN (sU n l)) .os:=by
 refine ncb (fun t=>t == 5) Tryz.func31 ?_;unfold Tryz.f31;simp only[gdS];simp only[go_sem];refine aN fun j hj=>?_
 simp only[go_sem];refine PC.use (oR _ _ _) ?_;simp only[go_sem];refine pQ (fun J H'=>J 1=.sl (l.map aY)/\J 2=.rp (aV n) 0/\∃Z,J 5=.os Z/\H' Z=some (bN [])) ⟨by simp only[go_sem],by simp only[go_sem],_,by simp only[go_sem],aA _ _ _⟩ ?_;rintro ρ H ⟨h1,E,j,O,I⟩;generalize ab:([]:List Fault)=es0 at I;have al:es0.length<=0:=by rw[<-ab];exact Xag _
 refine bH (fun J H'=>J 1=.sl (l.map aY)/\J 2=.rp (aV n) 0/\∃Z,J 5=.os Z/\H' Z=some (bN (es0++opt (!inR l.length 1 6) ⟨4,ByteArray.empty⟩))) ?_ fun K hK=>aB (fun hb=>?_) (fun hb=>?_)
 rotate_left
 . simp only[go_sem,h1,E,O]
   refine bG I ⟨rfl,rfl⟩ (by simp only[go_sem]) (by simp only[Xaa,Xac,List.length_nil];omega) (fun Z ah=>?_);simp only[go_sem];refine hK _ _ ⟨by simp only[go_sem,h1],by simp only[go_sem,E],Z,by simp only[go_sem],?_⟩;rw[iV (show(!inR l.length 1 6)=true from hb)];exact fG (l':=[⟨4,ByteArray.empty⟩]) rfl
 . simp only[go_sem]
   refine hK _ _ ⟨by simp only[go_sem,h1],by simp only[go_sem,E],j,by simp only[go_sem,O],?_⟩;rw[iX (show(!inR l.length 1 6)=false from hb),Xal,I]
 clear I h1 E O;rintro ρ H ⟨h1,E,j,O,I⟩;generalize aa:es0++opt (!inR l.length 1 6) (⟨4,ByteArray.empty⟩:Fault)=es1 at I;have aj:es1.length<=es0.length+1:=by rw[<-aa,Xae];have:=cD (!inR l.length 1 6) (⟨4,ByteArray.empty⟩:Fault);omega
 simp only[go_sem,h1,E];refine⟨fun ρ H=>∃k:Nat,k<=l.length/\ρ 1=.sl (l.map aY)/\ρ 2=.rp (aV n) 0/\ρ 6=int k/\∃j,ρ 5=.os j/\H j=some (bN (es1++(List.range k).flatMap (iL n l))),fun ρ _=>l.length-aX (ρ 6),⟨0,Xab _,by simp only[go_sem,h1],by simp only[go_sem,E],by simp only[go_sem];rfl,j,by simp only[go_sem,O],by simpa using I⟩,?_⟩;clear I h1 E O hj;rintro ρ H ⟨k,hk,h1,E,h6,j,O,I⟩;generalize ac:es1++(List.range k).flatMap (iL n l)=es at I;have ak:es.length<=9*k+1:=by
   have:=fH (f:=iL n l) (c:=9) (fun x=>by unfold iL;rw[Xaa];exact wG _ _ _ _) (List.range k);rw[<-ac,Xae];rw[Xbf]at this;omega
 simp only[go_sem,h1,E,h6,O];refine aB (fun Y=>?_) (fun ad=>?_)
 . have Y:=aZ Y
   have af:k<=4611686018427387904:=by omega
   have ag:es1++(List.range (k+1)).flatMap (iL n l)=es++iL n l k:=by rw[iO,<-Xav,ac]
   simp only[go_sem,h1,E,h6];refine PC.use (XC n l k Y hl hs hp) ?_;simp only[go_sem];have ai:=wG n l k (QF l k);have ae:iL n l k=(mF n l k (QF l k)).map fun e=>⟨e,kD k⟩:=rfl
   generalize mF n l k (QF l k)=er at ai ae;refine⟨fun ρ H=>∃m:Nat,m<=er.length/\ρ 1=.sl (l.map aY)/\ρ 2=.rp (aV n) 0/\ρ 6=int k/\ρ 7=.sl (er.map aR)/\ρ 8=int m/\∃j,ρ 5=.os j/\H j=some (bN (es++(er.take m).map fun e=>⟨e,kD k⟩)),fun ρ _=>er.length-aX (ρ 8),⟨0,Xab _,by simp only[go_sem,h1],by simp only[go_sem,E],by simp only[go_sem,h6],by simp only[go_sem],by simp only[go_sem];rfl,j,by simp only[go_sem,O],by simpa using I⟩,?_⟩;clear I h1 E O h6;rintro ρ H ⟨m,hm,h1,E,h6,h7,h8,j,O,I⟩;simp only[go_sem,h1,E,h6,O,h7,h8];refine aB (fun F=>?_) (fun X=>?_)
   . have F:=aZ F
     obtain⟨e,he⟩:=aQ F;have b2:=inB F;simp only[go_sem];refine EK (by kernel_rfl) ?_;simp only[go_sem,h1,E,h6,O,h7,h8,b2,aH he];refine⟨_,(rY _ (by omega)).q rfl,?_⟩;simp only[go_sem];refine bG I ⟨rfl,rfl⟩ (by simp only[go_sem]) (by simp only[Xaa,Xae,Xax,Xac,List.length_nil];omega) (fun Z ah=>?_);simp only[go_sem,h1,E,h6,h7,h8,aS (show m<=4611686018427387904 by omega)];refine⟨⟨m+1,F,rfl,Z,rfl,?_⟩,by simp only[aG];omega⟩;rw[Ci he,<-Xav];exact fG (l':=[⟨e,kD k⟩]) rfl
   . have X:=bD hm X
     subst X;simp only[go_sem,h1,E,h6,O,aS af];refine⟨⟨k+1,Y,rfl,j,rfl,?_⟩,by simp only[aG];omega⟩;rw[ag,I,ae,Xaf]
 . have ad:=bD hk ad
   subst ad;simp only[go_sem,O];exact⟨_,rfl,by rw[I,<-ac,<-aa,<-ab];rfl⟩
def Bf(l:List Order)(k:Nat)(s:ByteArray):Bool:=(l.take k).any fun t=>t.name.toList == s.toList
def jR(P:Nat)(d T:Int)(l:List Order)(k:Nat)(o:Order):List Int:=
 []++opt (!lQ o.name) 5++opt (Bf l k o.name) 6++opt (!eK o.load d) 17++opt (!inR o.pick.place (-1) ((P:Int)-1)|| !inR o.drop.place (-1) ((P:Int)-1)) 11++opt (o.pick.place == -1&&o.drop.place == -1) 19++opt (fI o.pick != 0||fI o.drop != 0) 14++opt (!inR o.skills 0 1073741823) 18++opt (!inR o.penalty (-1) 1000000|| !inR o.split 1 4||decide (o.split>1)&&(o.pick.place != -1&&o.drop.place != -1)||decide (o.last< -1)||decide (o.last>=T)||decide (o.now< -1)||decide (o.now>=T)) 2
theorem abX(P:Nat)(d T:Int)(l:List Order)(k:Nat)(o:Order)(ho:l[k]?=some o)(hP:P<=1048576)(hl:l.length<=1048576)(hs:∀t∈l,t.name.size<=1048576/\t.load.length<=1048576):
   PC prog 73 [int P,int d,int T,.sl (l.map bF),int k] (.sl ((jR P d T l k o).map aR)):=by
 refine pcb (fun t=>t == 11) Tryz.func73 ?_;unfold Tryz.f73;simp only[gdS];simp only[go_sem];have hk:k<l.length:=by
   rcases Xbe k l.length with h|h
   . exact h
   . rw[List.getElem?_eq_none h]at ho;simp at ho
 have b1:=inB hk;have ao:=hs o (kI ho);refine aN fun j hj=>?_
 simp only[go_sem,b1,aH ho];refine aN fun i hi=>?_
 simp only[go_sem];refine aM (aA _ _ _) (by simp[kZ]) ?_;simp only[go_sem];refine PC.use (Pz _ ao.1) ?_;simp only[go_sem];have Y:j≠i:=aO (aA _ _ _) hi;refine pQ (fun E H'=>E 0=int P/\E 1=int d/\E 2=int T/\E 3=.sl (l.map bF)/\E 4=int k/\E 12=.op i 0 0/\H' i=some (mG o)/\∃Z,E 11=.os Z/\Z≠i/\H' Z=some (kY []))
   ⟨by simp only[go_sem],by simp only[go_sem],by simp only[go_sem],by simp only[go_sem],by simp only[go_sem],by simp only[go_sem],aA _ _ _,j,by simp only[go_sem],Y,by rw[aD _ _ _ _ Y,aD _ _ _ _ Y,aA];rfl⟩ ?_
 clear hi hj Y;rintro ρ H ⟨h0,h1,J,O,X,F,hi,j,I,Y,hH⟩;generalize aj:([]:List Int)=es0 at hH;have aw:es0.length<=0:=by rw[<-aj];exact Xag _
 refine bH (fun E H'=>E 0=int P/\E 1=int d/\E 2=int T/\E 3=.sl (l.map bF)/\E 4=int k/\E 12=.op i 0 0/\H' i=some (mG o)/\∃Z,E 11=.os Z/\Z≠i/\H' Z=some (kY (es0++opt (!lQ o.name) 5))) ?_ fun K hK=>aB (fun hb=>?_) (fun hb=>?_)
 rotate_left
 . simp only[go_sem,h0,h1,J,O,X,F,I]
   refine bG hH ⟨rfl,rfl⟩ (by simp only[go_sem]) (by simp only[Xaa,Xac,List.length_nil];omega) (fun Z aa=>?_);simp only[go_sem];refine hK _ _ ⟨by simp only[go_sem,h0],by simp only[go_sem,h1],by simp only[go_sem,J],by simp only[go_sem,O],by simp only[go_sem,X],by simp only[go_sem,F],dN hi Y aa,Z,by simp only[go_sem],(aO hi aa).symm,?_⟩;rw[iV (show(!lQ o.name)=true from hb)];exact gR (l':=[5]) rfl
 . simp only[go_sem]
   refine hK _ _ ⟨by simp only[go_sem,h0],by simp only[go_sem,h1],by simp only[go_sem,J],by simp only[go_sem,O],by simp only[go_sem,X],by simp only[go_sem,F],hi,j,by simp only[go_sem,I],Y,?_⟩;rw[iX (show(!lQ o.name)=false from hb),Xal,hH]
 clear hH h0 h1 J O X F I;rintro ρ H ⟨h0,h1,J,O,X,F,hi,j,I,Y,hH⟩;generalize ag:es0++opt (!lQ o.name) (5:Int)=es1 at hH;have ap:es1.length<=es0.length+1:=by rw[<-ag,Xae];have:=cD (!lQ o.name) (5:Int);omega
 simp only[go_sem,h0,h1,J,O,X,F,I,hi];refine FH (fun E H'=>E 0=int P/\E 1=int d/\E 2=int T/\E 3=.sl (l.map bF)/\E 4=int k/\E 12=.op i 0 0/\H' i=some (mG o)/\∃Z,E 11=.os Z/\Z≠i/\H' Z=some (kY (es1++opt (Bf l k o.name) 6))) ?_ fun Q hQ _=>?_
 rotate_left
 . refine ⟨fun E H' => ∃ m : Nat, m <= k /\ E 0 = int P /\ E 1 = int d /\ E 2 = int T /\ E 3 = .sl (l.map bF) /\ E 4 = int k /\ E 12 = .op i 0 0 /\ E 11 = .os j /\ E 13 = int m /\ H' = H /\ ∀ t ∈ l.take m, (t.name.toList == o.name.toList) = false, fun ρ _ => k - aX (ρ 13),
     ⟨0,Xab _,by simp only[go_sem,h0],by simp only[go_sem,h1],by simp only[go_sem,J],by simp only[go_sem,O],by simp only[go_sem,X],by simp only[go_sem,F],by simp only[go_sem,I],by simp only[go_sem];rfl,rfl,by simp⟩,?_⟩
   clear h0 h1 J O X F I;rintro ρ H' ⟨m,hm,h0,h1,J,O,X,F,I,ac,rfl,hn⟩;simp only[go_sem,h0,h1,J,O,X,F,I,ac];refine aB (fun ab=>?_) (fun am=>?_)
   . have ab:=aZ ab
     obtain⟨t,ht⟩:=aQ (show m<l.length by omega);have b2:=inB (show m<l.length by omega);simp only[go_sem];refine fV (by rfl) (by kernel_rfl) ?_;simp only[go_sem,h0,h1,J,O,X,F,I,ac,hi,b2,aH ht];refine aB (fun hb=>?_) (fun hb=>?_)
     . simp only[go_sem,h0,h1,J,O,X,F,I,ac]
       refine bG hH ⟨rfl,rfl⟩ (by simp only[go_sem]) (by simp only[Xaa,Xac,List.length_nil];omega) (fun Z aa=>?_);simp only[go_sem];refine hQ _ _ ⟨by simp only[go_sem,h0],by simp only[go_sem,h1],by simp only[go_sem,J],by simp only[go_sem,O],by simp only[go_sem,X],by simp only[go_sem,F],dN hi Y aa,Z,by simp only[go_sem],(aO hi aa).symm,?_⟩;rw[iV (show Bf l k o.name=true from Xau.2 ⟨t,Xad (i:=m) (by rw[List.getElem?_take];simp[ab,ht]),hb⟩)];exact gR (l':=[6]) rfl
     . simp only[go_sem,h0,h1,J,O,X,F,I,ac,aS (show m<=4611686018427387904 by omega)]
       exact⟨⟨m+1,ab,rfl,yR ht hn hb⟩,by simp only[aG];omega⟩
   . have am:=bD hm am
     subst am;simp only[go_sem];refine hQ _ _ ⟨by simp only[go_sem,h0],by simp only[go_sem,h1],by simp only[go_sem,J],by simp only[go_sem,O],by simp only[go_sem,X],by simp only[go_sem,F],hi,j,by simp only[go_sem,I],Y,?_⟩;rw[iX (show Bf l m o.name=false from Xby.2 fun t ht=>by simp[hn t ht]),Xal,hH]
 clear hH h0 h1 J O X F I;rintro ρ H ⟨h0,h1,J,O,X,F,hi,j,I,Y,hH⟩;generalize ae:es1++opt (Bf l k o.name) (6:Int)=es2 at hH;have ay:es2.length<=es1.length+1:=by rw[<-ae,Xae];have:=cD (Bf l k o.name) (6:Int);omega
 simp only[go_sem,h0,h1,J,O,X,F,I,hi];refine PC.use (JT _ _ ao.2) ?_;simp only[go_sem,h0,h1,J,O,X,F,I,hi];refine bH (fun E H'=>E 0=int P/\E 1=int d/\E 2=int T/\E 3=.sl (l.map bF)/\E 4=int k/\E 12=.op i 0 0/\H' i=some (mG o)/\∃Z,E 11=.os Z/\Z≠i/\H' Z=some (kY (es2++opt (!eK o.load d) 17))) ?_ fun K hK=>aB (fun hb=>?_) (fun hb=>?_)
 rotate_left
 . simp only[go_sem,h0,h1,J,O,X,F,I]
   refine bG hH ⟨rfl,rfl⟩ (by simp only[go_sem]) (by simp only[Xaa,Xac,List.length_nil];omega) (fun Z aa=>?_);simp only[go_sem];refine hK _ _ ⟨by simp only[go_sem,h0],by simp only[go_sem,h1],by simp only[go_sem,J],by simp only[go_sem,O],by simp only[go_sem,X],by simp only[go_sem,F],dN hi Y aa,Z,by simp only[go_sem],(aO hi aa).symm,?_⟩;rw[iV (show(!eK o.load d)=true from hb)];exact gR (l':=[17]) rfl
 . simp only[go_sem]
   refine hK _ _ ⟨by simp only[go_sem,h0],by simp only[go_sem,h1],by simp only[go_sem,J],by simp only[go_sem,O],by simp only[go_sem,X],by simp only[go_sem,F],hi,j,by simp only[go_sem,I],Y,?_⟩;rw[iX (show(!eK o.load d)=false from hb),Xal,hH]
 clear hH h0 h1 J O X F I;rintro ρ H ⟨h0,h1,J,O,X,F,hi,j,I,Y,hH⟩;generalize al:es2++opt (!eK o.load d) (17:Int)=es3 at hH;have az:es3.length<=es2.length+1:=by rw[<-al,Xae];have:=cD (!eK o.load d) (17:Int);omega
 simp only[go_sem,h0,h1,J,O,X,F,I,hi,oI (show P<=4611686018427387904 by omega)];refine PC.use (E6 _ _ _) ?_;simp only[go_sem,h0,h1,J,O,X,F,I,hi,oI (show P<=4611686018427387904 by omega)];refine⟨_,fun _=>(E6 _ _ _).q rfl,?_⟩;simp only[go_sem,h0,h1,J,O,X,F,I,hi,oI (show P<=4611686018427387904 by omega)];refine bH (fun E H'=>E 0=int P/\E 1=int d/\E 2=int T/\E 3=.sl (l.map bF)/\E 4=int k/\E 12=.op i 0 0/\H' i=some (mG o)/\∃Z,E 11=.os Z/\Z≠i/\H' Z=some (kY (es3++opt (!inR o.pick.place (-1) ((P:Int)-1)|| !inR o.drop.place (-1) ((P:Int)-1)) 11))) ?_ fun K hK=>aB (fun hb=>?_) (fun hb=>?_)
 rotate_left
 . simp only[go_sem,h0,h1,J,O,X,F,I]
   refine bG hH ⟨rfl,rfl⟩ (by simp only[go_sem]) (by simp only[Xaa,Xac,List.length_nil];omega) (fun Z aa=>?_);simp only[go_sem];refine hK _ _ ⟨by simp only[go_sem,h0],by simp only[go_sem,h1],by simp only[go_sem,J],by simp only[go_sem,O],by simp only[go_sem,X],by simp only[go_sem,F],dN hi Y aa,Z,by simp only[go_sem],(aO hi aa).symm,?_⟩;rw[iV (show(!inR o.pick.place (-1) ((P:Int)-1)|| !inR o.drop.place (-1) ((P:Int)-1))=true from hb)];exact gR (l':=[11]) rfl
 . simp only[go_sem]
   refine hK _ _ ⟨by simp only[go_sem,h0],by simp only[go_sem,h1],by simp only[go_sem,J],by simp only[go_sem,O],by simp only[go_sem,X],by simp only[go_sem,F],hi,j,by simp only[go_sem,I],Y,?_⟩;rw[iX (show(!inR o.pick.place (-1) ((P:Int)-1)|| !inR o.drop.place (-1) ((P:Int)-1))=false from hb),Xal,hH]
 clear hH h0 h1 J O X F I;rintro ρ H ⟨h0,h1,J,O,X,F,hi,j,I,Y,hH⟩;generalize ad:es3++opt (!inR o.pick.place (-1) ((P:Int)-1)|| !inR o.drop.place (-1) ((P:Int)-1)) (11:Int)=es4 at hH;have ax:es4.length<=es3.length+1:=by rw[<-ad,Xae];have:=cD (!inR o.pick.place (-1) ((P:Int)-1)|| !inR o.drop.place (-1) ((P:Int)-1)) (11:Int);omega
 simp only[go_sem,h0,h1,J,O,X,F,I,hi];refine bH (fun E H'=>E 0=int P/\E 1=int d/\E 2=int T/\E 3=.sl (l.map bF)/\E 4=int k/\E 12=.op i 0 0/\H' i=some (mG o)/\∃Z,E 11=.os Z/\Z≠i/\H' Z=some (kY (es4++opt (o.pick.place == -1&&o.drop.place == -1) 19))) ?_ fun K hK=>aB (fun hb=>?_) (fun hb=>?_)
 rotate_left
 . simp only[go_sem,h0,h1,J,O,X,F,I]
   refine bG hH ⟨rfl,rfl⟩ (by simp only[go_sem]) (by simp only[Xaa,Xac,List.length_nil];omega) (fun Z aa=>?_);simp only[go_sem];refine hK _ _ ⟨by simp only[go_sem,h0],by simp only[go_sem,h1],by simp only[go_sem,J],by simp only[go_sem,O],by simp only[go_sem,X],by simp only[go_sem,F],dN hi Y aa,Z,by simp only[go_sem],(aO hi aa).symm,?_⟩;rw[iV (show(o.pick.place == -1&&o.drop.place == -1)=true from hb)];exact gR (l':=[19]) rfl
 . simp only[go_sem]
   refine hK _ _ ⟨by simp only[go_sem,h0],by simp only[go_sem,h1],by simp only[go_sem,J],by simp only[go_sem,O],by simp only[go_sem,X],by simp only[go_sem,F],hi,j,by simp only[go_sem,I],Y,?_⟩;rw[iX (show(o.pick.place == -1&&o.drop.place == -1)=false from hb),Xal,hH]
 clear hH h0 h1 J O X F I;rintro ρ H ⟨h0,h1,J,O,X,F,hi,j,I,Y,hH⟩;generalize ai:es4++opt (o.pick.place == -1&&o.drop.place == -1) (19:Int)=es5 at hH;have av:es5.length<=es4.length+1:=by rw[<-ai,Xae];have:=cD (o.pick.place == -1&&o.drop.place == -1) (19:Int);omega
 simp only[go_sem,h0,h1,J,O,X,F,I,hi];refine PC.use (Oi _) ?_;simp only[go_sem,h0,h1,J,O,X,F,I,hi];refine⟨_,fun _=>(Oi _).q rfl,?_⟩;simp only[go_sem,h0,h1,J,O,X,F,I,hi];refine bH (fun E H'=>E 0=int P/\E 1=int d/\E 2=int T/\E 3=.sl (l.map bF)/\E 4=int k/\E 12=.op i 0 0/\H' i=some (mG o)/\∃Z,E 11=.os Z/\Z≠i/\H' Z=some (kY (es5++opt (fI o.pick != 0||fI o.drop != 0) 14))) ?_ fun K hK=>aB (fun hb=>?_) (fun hb=>?_)
 rotate_left
 . simp only[go_sem,h0,h1,J,O,X,F,I]
   refine bG hH ⟨rfl,rfl⟩ (by simp only[go_sem]) (by simp only[Xaa,Xac,List.length_nil];omega) (fun Z aa=>?_);simp only[go_sem];refine hK _ _ ⟨by simp only[go_sem,h0],by simp only[go_sem,h1],by simp only[go_sem,J],by simp only[go_sem,O],by simp only[go_sem,X],by simp only[go_sem,F],dN hi Y aa,Z,by simp only[go_sem],(aO hi aa).symm,?_⟩;rw[iV (show(fI o.pick != 0||fI o.drop != 0)=true from hb)];exact gR (l':=[14]) rfl
 . simp only[go_sem]
   refine hK _ _ ⟨by simp only[go_sem,h0],by simp only[go_sem,h1],by simp only[go_sem,J],by simp only[go_sem,O],by simp only[go_sem,X],by simp only[go_sem,F],hi,j,by simp only[go_sem,I],Y,?_⟩;rw[iX (show(fI o.pick != 0||fI o.drop != 0)=false from hb),Xal,hH]
 clear hH h0 h1 J O X F I;rintro ρ H ⟨h0,h1,J,O,X,F,hi,j,I,Y,hH⟩;generalize ah:es5++opt (fI o.pick != 0||fI o.drop != 0) (14:Int)=es6 at hH;have au:es6.length<=es5.length+1:=by rw[<-ah,Xae];have:=cD (fI o.pick != 0||fI o.drop != 0) (14:Int);omega
 simp only[go_sem,h0,h1,J,O,X,F,I,hi];refine PC.use (E6 _ _ _) ?_;simp only[go_sem,h0,h1,J,O,X,F,I,hi,oI (show P<=4611686018427387904 by omega)];refine bH (fun E H'=>E 0=int P/\E 1=int d/\E 2=int T/\E 3=.sl (l.map bF)/\E 4=int k/\E 12=.op i 0 0/\H' i=some (mG o)/\∃Z,E 11=.os Z/\Z≠i/\H' Z=some (kY (es6++opt (!inR o.skills 0 1073741823) 18))) ?_ fun K hK=>aB (fun hb=>?_) (fun hb=>?_)
 rotate_left
 . simp only[go_sem,h0,h1,J,O,X,F,I]
   refine bG hH ⟨rfl,rfl⟩ (by simp only[go_sem]) (by simp only[Xaa,Xac,List.length_nil];omega) (fun Z aa=>?_);simp only[go_sem];refine hK _ _ ⟨by simp only[go_sem,h0],by simp only[go_sem,h1],by simp only[go_sem,J],by simp only[go_sem,O],by simp only[go_sem,X],by simp only[go_sem,F],dN hi Y aa,Z,by simp only[go_sem],(aO hi aa).symm,?_⟩;rw[iV (show(!inR o.skills 0 1073741823)=true from hb)];exact gR (l':=[18]) rfl
 . simp only[go_sem]
   refine hK _ _ ⟨by simp only[go_sem,h0],by simp only[go_sem,h1],by simp only[go_sem,J],by simp only[go_sem,O],by simp only[go_sem,X],by simp only[go_sem,F],hi,j,by simp only[go_sem,I],Y,?_⟩;rw[iX (show(!inR o.skills 0 1073741823)=false from hb),Xal,hH]
 clear hH h0 h1 J O X F I;rintro ρ H ⟨h0,h1,J,O,X,F,hi,j,I,Y,hH⟩;generalize ak:es6++opt (!inR o.skills 0 1073741823) (18:Int)=es7 at hH;have aq:es7.length<=es6.length+1:=by rw[<-ak,Xae];have:=cD (!inR o.skills 0 1073741823) (18:Int);omega
 simp only[go_sem,h0,h1,J,O,X,F,I,hi];refine PC.use (E6 _ _ _) ?_;simp only[go_sem,h0,h1,J,O,X,F,I,hi,oI (show P<=4611686018427387904 by omega)];refine⟨_,fun _=>(E6 _ _ _).q rfl,?_⟩;simp only[go_sem,h0,h1,J,O,X,F,I,hi,oI (show P<=4611686018427387904 by omega)];refine bH (fun E H'=>E 0=int P/\E 1=int d/\E 2=int T/\E 3=.sl (l.map bF)/\E 4=int k/\E 12=.op i 0 0/\H' i=some (mG o)/\∃Z,E 11=.os Z/\Z≠i/\H' Z=some (kY (es7++opt (!inR o.penalty (-1) 1000000|| !inR o.split 1 4||decide (o.split>1)&&(o.pick.place != -1&&o.drop.place != -1)||decide (o.last< -1)||decide (o.last>=T)||decide (o.now< -1)||decide (o.now>=T)) 2))) ?_ fun K hK=>aB (fun hb=>?_) (fun hb=>?_)
 rotate_left
 . simp only[go_sem,h0,h1,J,O,X,F,I]
   refine bG hH ⟨rfl,rfl⟩ (by simp only[go_sem]) (by simp only[Xaa,Xac,List.length_nil];omega) (fun Z aa=>?_);simp only[go_sem];refine hK _ _ ⟨by simp only[go_sem,h0],by simp only[go_sem,h1],by simp only[go_sem,J],by simp only[go_sem,O],by simp only[go_sem,X],by simp only[go_sem,F],dN hi Y aa,Z,by simp only[go_sem],(aO hi aa).symm,?_⟩;rw[iV (show(!inR o.penalty (-1) 1000000|| !inR o.split 1 4||decide (o.split>1)&&(o.pick.place != -1&&o.drop.place != -1)||decide (o.last< -1)||decide (o.last>=T)||decide (o.now< -1)||decide (o.now>=T))=true from hb)];exact gR (l':=[2]) rfl
 . simp only[go_sem]
   refine hK _ _ ⟨by simp only[go_sem,h0],by simp only[go_sem,h1],by simp only[go_sem,J],by simp only[go_sem,O],by simp only[go_sem,X],by simp only[go_sem,F],hi,j,by simp only[go_sem,I],Y,?_⟩;rw[iX (show(!inR o.penalty (-1) 1000000|| !inR o.split 1 4||decide (o.split>1)&&(o.pick.place != -1&&o.drop.place != -1)||decide (o.last< -1)||decide (o.last>=T)||decide (o.now< -1)||decide (o.now>=T))=false from hb),Xal,hH]
 clear hH h0 h1 J O X F I;rintro ρ H ⟨h0,h1,J,O,X,F,hi,j,I,Y,hH⟩;generalize af:es7++opt (!inR o.penalty (-1) 1000000|| !inR o.split 1 4||decide (o.split>1)&&(o.pick.place != -1&&o.drop.place != -1)||decide (o.last< -1)||decide (o.last>=T)||decide (o.now< -1)||decide (o.now>=T)) (2:Int)=es8 at hH;have ar:es8.length<=es7.length+1:=by rw[<-af,Xae];have:=cD (!inR o.penalty (-1) 1000000|| !inR o.split 1 4||decide (o.split>1)&&(o.pick.place != -1&&o.drop.place != -1)||decide (o.last< -1)||decide (o.last>=T)||decide (o.now< -1)||decide (o.now>=T)) (2:Int);omega
 simp only[go_sem,h0,h1,J,O,X,F,I,hi];have an:jR P d T l k o=es8:=by unfold jR;rw[aj,ag,ae,al,ad,ai,ah,ak,af]
 rw[an];exact .row _ _ _ hH (ConvE.refl _)
def lJ(w:ByteArray)(f:Fault):Fault:=⟨f.err,match f.at_.toList == (⟨#[]⟩:ByteArray).toList with|true=>w|false=>w++⟨#[32]⟩++f.at_⟩
theorem EC(w:ByteArray)(l:List Fault)(hw:w.size<=1048576)(hl:l.length<=5000000000000)(hs:∀f∈l,f.at_.size<=268435456):
   NC prog 29 [str w,.sl (l.map gQ)] (bN (l.map (lJ w))) .os:=by
 refine ncb (fun t=>t == 5) Tryz.func29 ?_;unfold Tryz.f29;simp only[gdS];simp only[go_sem];refine aN fun j hj=>?_
 simp only[go_sem];refine⟨fun ρ H=>∃k:Nat,k<=l.length/\ρ 0=str w/\ρ 1=.sl (l.map gQ)/\ρ 6=int k/\∃j,ρ 5=.os j/\H j=some (bN ((l.take k).map (lJ w))),fun ρ _=>l.length-aX (ρ 6),⟨0,Xab _,rfl,rfl,rfl,j,rfl,aA _ _ _⟩,?_⟩;clear hj;rintro ρ H ⟨k,hk,h0,h1,I,j,O,hH⟩;simp only[go_sem,h0,h1,I,O];refine aB (fun E=>?_) (fun J=>?_)
 . have E:=aZ E
   obtain⟨f,X⟩:=aQ E;have Y:=inB E;have aa:=hs f (kI X);simp only[go_sem,h0,h1,I,Y,aH X];refine bH (fun F H'=>F 0=str w/\F 1=.sl (l.map gQ)/\F 6=int k/\F 5=.os j/\F 7=str (lJ w f).at_/\H'=H) ?_ fun K hK=>aB (fun hb=>?_) (fun hb=>?_)
   . clear h0 h1 I O
     rintro ρ H ⟨h0,h1,I,O,h7,rfl⟩;simp only[go_sem,h0,h1,I,O,h7,Y,aH X];refine bG hH ⟨rfl,rfl⟩ (by simp only[go_sem]) (by simp only[Xaa,Xax,Xac,List.length_nil];omega) (fun j' ac=>?_);simp only[go_sem,h0,h1,I,aS (show k<=4611686018427387904 by omega)];refine⟨⟨k+1,E,rfl,j',rfl,?_⟩,by simp only[aG];omega⟩;rw[Ci X];exact fG (l':=[lJ w f]) rfl
   . simp only[go_sem,h0,h1,I,Y,aH X]
     have ab:(#[32]:Array UInt8).size=1:=rfl;refine⟨by rw[xF];omega,by rw[xF];omega,hK _ _ ⟨by simp only[go_sem,h0],by simp only[go_sem,h1],by simp only[go_sem,I],by simp only[go_sem,O],?_,rfl⟩⟩;have Z:(f.at_.toList == (⟨#[]⟩:ByteArray).toList)=false:=by have:=hb;revert this;cases(f.at_.toList == (⟨#[]⟩:ByteArray).toList) <;> simp
     simp only[go_sem,lJ,Z]
   . simp only[go_sem]
     refine hK _ _ ⟨by simp only[go_sem,h0],by simp only[go_sem,h1],by simp only[go_sem,I],by simp only[go_sem,O],?_,rfl⟩;have Z:(f.at_.toList == (⟨#[]⟩:ByteArray).toList)=true:=by have:=hb;revert this;cases(f.at_.toList == (⟨#[]⟩:ByteArray).toList) <;> simp
     simp only[go_sem,lJ,Z]
 . have J:=bD hk J
   subst J;simp only[go_sem,O];exact⟨_,rfl,by rw[hH,Xaf]⟩
def Vv(l:List Order)(i:Nat):Order:=l.getD i ⟨ByteArray.empty,[],⟨0,0,0,0⟩,⟨0,0,0,0⟩,0,0,0,0,0,false⟩
theorem B9{l:List Order}{k:Nat}{p:Order}(h:l[k]?=some p):Vv l k=p:=by simp[Vv,List.getD,h]
def fS(n:Network)(d T:Int)(l:List Order)(k:Nat):List Fault:=(jR n.places.length d T l k (Vv l k)).map fun e=>⟨e,kD k⟩
def oF(n:Network)(d T:Int)(l:List Order):List Fault:=opt (decide ((l.length:Int)>10)) ⟨4,ByteArray.empty⟩++(List.range l.length).flatMap (fS n d T l)
theorem uB(P:Nat)(d T:Int)(l:List Order)(k:Nat)(o:Order):(jR P d T l k o).length<=9:=by
 unfold jR;simp only[Xae,List.length_nil];have h:=fun(b:Bool) (x:Int)=>cD b x
 have h1:=h (!lQ o.name) 5;have Y:=h (Bf l k o.name) 6;have X:=h (!eK o.load d) 17;have J:=h (!inR o.pick.place (-1) ((P:Int)-1)|| !inR o.drop.place (-1) ((P:Int)-1)) 11;have O:=h (o.pick.place == -1&&o.drop.place == -1) 19;have E:=h (fI o.pick != 0||fI o.drop != 0) 14;have F:=h (!inR o.skills 0 1073741823) 18;have I:=h (!inR o.penalty (-1) 1000000|| !inR o.split 1 4||decide (o.split>1)&&(o.pick.place != -1&&o.drop.place != -1)||decide (o.last< -1)||decide (o.last>=T)||decide (o.now< -1)||decide (o.now>=T)) 2;omega
theorem Ge(n:Network)(d T:Int)(l:List Order)(hl:l.length<=1048576)(hs:∀t∈l,t.name.size<=1048576/\t.load.length<=1048576)(hp:n.places.length<=1048576):
   NC prog 32 [.agg (aV n),int d,int T,.sl (l.map bF)] (bN (oF n d T l)) .os:=by
 refine ncb (fun t=>t == 9) Tryz.func32 ?_;unfold Tryz.f32;simp only[gdS];simp only[go_sem];refine aN fun j hj=>?_
 simp only[go_sem];refine pQ (fun E H'=>E 1=int d/\E 2=int T/\E 3=.sl (l.map bF)/\E 4=.rp (aV n) 0/\∃j',E 9=.os j'/\H' j'=some (bN [])) ⟨by simp only[go_sem],by simp only[go_sem],by simp only[go_sem],by simp only[go_sem],_,by simp only[go_sem],aA _ _ _⟩ ?_;rintro ρ H ⟨h1,I,J,O,j,Z,Y⟩;generalize ad:([]:List Fault)=es0 at Y;have ap:es0.length<=0:=by rw[<-ad];exact Xag _
 refine bH (fun E H'=>E 1=int d/\E 2=int T/\E 3=.sl (l.map bF)/\E 4=.rp (aV n) 0/\∃j',E 9=.os j'/\H' j'=some (bN (es0++opt (decide ((l.length:Int)>10)) ⟨4,ByteArray.empty⟩))) ?_ fun K hK=>aB (fun hb=>?_) (fun hb=>?_)
 rotate_left
 . simp only[go_sem,h1,I,J,O,Z]
   refine bG Y ⟨rfl,rfl⟩ (by simp only[go_sem]) (by simp only[Xaa,Xac,List.length_nil];omega) (fun j' al=>?_);simp only[go_sem];refine hK _ _ ⟨by simp only[go_sem,h1],by simp only[go_sem,I],by simp only[go_sem,J],by simp only[go_sem,O],j',by simp only[go_sem],?_⟩;rw[iV (show(decide ((l.length:Int)>10))=true from hb)];exact fG (l':=[⟨4,ByteArray.empty⟩]) rfl
 . simp only[go_sem]
   refine hK _ _ ⟨by simp only[go_sem,h1],by simp only[go_sem,I],by simp only[go_sem,J],by simp only[go_sem,O],j,by simp only[go_sem,Z],?_⟩;rw[iX (show(decide ((l.length:Int)>10))=false from hb),Xal,Y]
 clear Y h1 I J O Z;rintro ρ H ⟨h1,I,J,O,j,Z,Y⟩;generalize ac:es0++opt (decide ((l.length:Int)>10)) (⟨4,ByteArray.empty⟩:Fault)=es1 at Y;have an:es1.length<=es0.length+1:=by rw[<-ac,Xae];have:=cD (decide ((l.length:Int)>10)) (⟨4,ByteArray.empty⟩:Fault);omega
 simp only[go_sem,h1,I,J,O];refine⟨fun ρ H=>∃k:Nat,k<=l.length/\ρ 1=int d/\ρ 2=int T/\ρ 3=.sl (l.map bF)/\ρ 4=.rp (aV n) 0/\ρ 10=int k/\∃j,ρ 9=.os j/\H j=some (bN (es1++(List.range k).flatMap (fS n d T l))),fun ρ _=>l.length-aX (ρ 10),⟨0,Xab _,by simp only[go_sem,h1],by simp only[go_sem,I],by simp only[go_sem,J],by simp only[go_sem,O],by simp only[go_sem];rfl,j,by simp only[go_sem,Z],by simpa using Y⟩,?_⟩;clear Y h1 I J O Z hj;rintro ρ H ⟨k,hk,h1,I,J,O,F,j,Z,Y⟩;generalize ae:es1++(List.range k).flatMap (fS n d T l)=es at Y;have ao:es.length<=9*k+1:=by
   have:=fH (f:=fS n d T l) (c:=9) (fun x=>by unfold fS;rw[Xaa];exact uB _ _ _ _ _ _) (List.range k);rw[<-ae,Xae];rw[Xbf]at this;omega
 simp only[go_sem,h1,I,J,O,F,Z];refine aB (fun ab=>?_) (fun ah=>?_)
 . have ab:=aZ ab
   have aj:k<=4611686018427387904:=by omega
   have ak:es1++(List.range (k+1)).flatMap (fS n d T l)=es++fS n d T l k:=by rw[iO,<-Xav,ae]
   simp only[go_sem,h1,I,J,O,F];obtain⟨o,ho⟩:=aQ ab;rw[<-B9 ho]at ho;refine PC.use (abX n.places.length d T l k _ ho hp hl hs) ?_;simp only[go_sem];have am:=uB n.places.length d T l k (Vv l k);have ai:fS n d T l k=(jR n.places.length d T l k (Vv l k)).map fun e=>⟨e,kD k⟩:=rfl
   generalize jR n.places.length d T l k (Vv l k)=er at am ai;refine⟨fun ρ H=>∃m:Nat,m<=er.length/\ρ 1=int d/\ρ 2=int T/\ρ 3=.sl (l.map bF)/\ρ 4=.rp (aV n) 0/\ρ 10=int k/\ρ 11=.sl (er.map aR)/\ρ 12=int m/\∃j,ρ 9=.os j/\H j=some (bN (es++(er.take m).map fun e=>⟨e,kD k⟩)),fun ρ _=>er.length-aX (ρ 12),⟨0,Xab _,by simp only[go_sem,h1],by simp only[go_sem,I],by simp only[go_sem,J],by simp only[go_sem,O],by simp only[go_sem,F],by simp only[go_sem],by simp only[go_sem];rfl,j,by simp only[go_sem,Z],by simpa using Y⟩,?_⟩;clear Y h1 I J O Z F;rintro ρ H ⟨m,hm,h1,I,J,O,F,ag,af,j,Z,Y⟩;simp only[go_sem,h1,I,J,O,F,Z,ag,af];refine aB (fun X=>?_) (fun aa=>?_)
   . have X:=aZ X
     obtain⟨e,he⟩:=aQ X;have b2:=inB X;simp only[go_sem];refine EK (by kernel_rfl) ?_;simp only[go_sem,h1,I,J,O,F,Z,ag,af,b2,aH he];refine⟨_,(rY _ (by omega)).q rfl,?_⟩;simp only[go_sem];refine bG Y ⟨rfl,rfl⟩ (by simp only[go_sem]) (by simp only[Xaa,Xae,Xax,Xac,List.length_nil];omega) (fun j' al=>?_);simp only[go_sem,h1,I,J,O,F,ag,af,aS (show m<=4611686018427387904 by omega)];refine⟨⟨m+1,X,rfl,j',rfl,?_⟩,by simp only[aG];omega⟩;rw[Ci he,<-Xav];exact fG (l':=[⟨e,kD k⟩]) rfl
   . have aa:=bD hm aa
     subst aa;simp only[go_sem,h1,I,J,O,F,Z,aS aj];refine⟨⟨k+1,ab,rfl,j,rfl,?_⟩,by simp only[aG];omega⟩;rw[ak,Y,ai,Xaf]
 . have ah:=bD hk ah
   subst ah;simp only[go_sem,Z];exact⟨_,rfl,by rw[Y,<-ae,<-ac,<-ad];rfl⟩
end Go.Proofs.YtdlijlecpopadaaGreatDoor
end
