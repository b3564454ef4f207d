import Derived.Test.YtohmomanmikphaaGreatDoorPa06
set_option linter.unusedSimpArgs false
set_option linter.unusedVariables false
set_option maxRecDepth 100000
section
namespace Go.Proofs.YtohmomanmikphaaGreatDoor
open Go.Proofs.Tryz(prog)
open Go.Aw Go.Aw.D Go.Proofs Ty
def inR(n lo hi:Int):Bool:=decide (n>=lo)&&decide (n<=hi)
theorem oY(n lo hi:Int):PC prog 86 [int n,int lo,int hi] (boo (inR n lo hi)):=by
 refine pcd Tryz.func86 ?_;unfold Tryz.f86;simp only[gdS];simp only[go_sem];exact .refl _
theorem Gr(n lo hi:Int):PC prog 148 [int n,int lo,int hi] (boo (inR n lo hi)):=by
 refine pcd Tryz.func148 ?_;unfold Tryz.f148;simp only[gdS];simp only[go_sem];exact .refl _
theorem aaX(n:Int):PC prog 144 [int n] (boo (inR n 0 4096)):=by
 refine pcd Tryz.func144 ?_;unfold Tryz.f144;simp only[gdS];simp only[go_sem];exact .refl _
def DV(c:Int):Bool:=decide (c>=48)&&decide (c<=57)
theorem FE(c:Int):PC prog 209 [.v (.int .u8 c)] (boo (DV c)):=by
 refine pcd Tryz.func209 ?_;unfold Tryz.f209;simp only[gdS];simp only[go_sem];exact .refl _
def Df(c:Int):Bool:=decide (c>=97)&&decide (c<=122)||decide (c>=65)&&decide (c<=90)||c == 95
theorem Y4(c:Int):PC prog 210 [.v (.int .u8 c)] (boo (Df c)):=by
 refine pcd Tryz.func210 ?_;unfold Tryz.f210;simp only[gdS];simp only[go_sem];exact .refl _
def jU(s:Stop):Bool:=s.place == -1&&s.start == 0&&s.close == 0&&s.service == 0
def Mf(s:Stop):Bool:=decide (s.place<0)||decide (s.start<0)||decide (s.start>s.close)||decide (s.close>4096)||decide (s.service<0)||decide (s.service>4096)
def fH(s:Stop):Int:=if jU s then 0 else if Mf s then 2 else 0
theorem P1(s:Stop):PC prog 149 [.agg (dV s)] (int (fH s)):=by
 refine pcd Tryz.func149 ?_;unfold Tryz.f149;simp only[gdS];simp only[go_sem];refine aB (fun h=>?_) (fun h=>?_)
 . simp only[go_sem]
   have:fH s=0:=if_pos h;rw[this];exact .refl _
 . simp only[go_sem]
   refine aB (fun E=>?_) (fun E=>?_)
   . simp only[go_sem]
     have:fH s=2:=by unfold fH;rw[if_neg (by simp[jU,h])];exact if_pos E
     rw[this];exact .refl _
   . simp only[go_sem]
     have:fH s=0:=by unfold fH;rw[if_neg (by simp[jU,h]),if_neg (by simp only[Mf,E];simp)]
     rw[this];exact .refl _
def GM(n:Int):ByteArray:=strOfNums [IntKind.u8.wrap (IntKind.i64.wrap (48+n))]
def kB(n:Nat):ByteArray:=if n<10 then GM n else kB (n/10)++GM (n%10:Nat)
theorem Dq(x:Int):(strOfNums [x]).size=1:=by simp[strOfNums];rfl
theorem ET(n:Int):(GM n).size=1:=Dq _
theorem Bk{n:Nat}(h:10<=n):kB n=kB (n/10)++GM (n%10:Nat):=by rw[kB,if_neg (by omega)]
theorem xB{n:Nat}(h:n<10):kB n=GM n:=by rw[kB,if_pos h]
theorem oQ(n:Nat):(kB n).size<=n+1:=by
 induction n using Nat.strongRecOn with
 | ind n ih=>
   rcases Xbk n 10 with h|h
   . rw[xB h,ET];omega
   . rw[Bk h,ByteArray.size_append,ET]
     have:=ih (n/10) (by omega);omega
theorem QX(m:Nat):(m:Int).tmod 10=((m%10:Nat):Int):=by rw[Xch (by omega)];rfl
theorem TW(m:Nat):(m:Int).tdiv 10=((m/10:Nat):Int):=by rw[Xbx (by omega)];rfl
theorem Qh{k:Nat}(h:k<=4611686018427387904):IntKind.i64.wrap (k:Int)=(k:Int):=bH (by omega)
theorem zE:IntKind.i64.max=9223372036854775807:=by decide
theorem afD(n:Nat)(O:n<=4611686018427387904):PC prog 150 [int n] (str (kB n)):=by
 refine pcd Tryz.func150 ?_;unfold Tryz.f150;simp only[gdS];simp only[go_sem];refine⟨fun ρ _=>∃(m:Nat) (s:ByteArray),ρ 0=int m/\ρ 3=str s/\kB n=kB m++s/\s.size+m<=n,
   fun ρ _=>aV (ρ 0),⟨n,ByteArray.empty,rfl,rfl,by simp,by simp⟩,?_⟩
 rintro ρ H ⟨k,s,h0,I,J,U⟩;simp only[go_sem,h0,I];refine aB (fun F=>?_) (fun E=>?_)
 . have F : 10 <= k := by
     have:(10:Int)<=k:=by simpa using F
     omega
   simp only[go_sem,h0,I,TW,QX,Qh (show k/10<=4611686018427387904 by omega),aE];refine⟨by omega,?_,by omega,⟨k/10,_,rfl,rfl,?_,?_⟩,by omega⟩
   . rw[Dq,zE];omega
   . rw[J,Bk F,ByteArray.append_assoc];rfl
   . rw[ByteArray.size_append,Dq];omega
 . have E : k < 10 := by
     have:¬(10:Int)<=k:=by simpa using E
     omega
   simp only[go_sem,h0,I];refine⟨by rw[Dq,zE];omega,?_⟩;rw[J,xB E];exact .refl _
def aaM:AV->Nat
 | .v (.bool true)=>1
 | _=>0
theorem sP(n:Nat)(Z:n<=4611686018427387904):PC prog 88 [int n] (str (kB n)):=by
 refine pcd Tryz.func88 ?_;unfold Tryz.f88;simp only[gdS];simp only[go_sem];refine⟨fun ρ _=>∃(b:Bool) (m:Nat) (s:ByteArray),ρ 0=int n/\ρ 5=boo b/\ρ 4=int m/\ρ 3=str s/\(b=true->kB n=kB m++s/\s.size+m<=n)/\(b=false->kB n=s),
   fun ρ _=>aV (ρ 4)+aaM (ρ 5),⟨true,n,ByteArray.empty,rfl,rfl,rfl,rfl,fun _=>by simp,by simp⟩,?_⟩
 rintro ρ H ⟨b,k,s,h0,F,I,O,X,V⟩;simp only[go_sem,h0,O,I,F];refine aB (fun E=>?_) (fun E=>?_)
 . subst E
   obtain⟨U,Y⟩:=X rfl;simp only[go_sem,h0,O,I,F,TW,QX];refine⟨by omega,?_⟩;refine aB (fun E=>?_) (fun E=>?_)
   . exfalso;simp at E;omega
   . simp only[go_sem,h0,O,I,F,TW,QX,Qh (show k/10<=4611686018427387904 by omega),aE]
     refine⟨by rw[Dq,zE];omega,by omega,⟨_,k/10,_,rfl,rfl,rfl,?_,?_⟩,?_⟩
     . intro E
       have:10<=k:=by simp at E;omega
       refine⟨?_,?_⟩
       . rw[U,Bk this,ByteArray.append_assoc];rfl
       . rw[ByteArray.size_append,Dq];omega
     . intro E
       have J:k<10:=by simp at E;omega
       rw[U,xB J,Xci J];rfl
     . rcases Xbk k 10 with h|h
       . have:k/10=0:=by omega
         simp[this,aaM]
       . simp only[aaM];split <;> omega
 . simp only[go_sem,h0,O,I,F]
   refine aB (fun E=>?_) (fun E=>?_)
   . exfalso;simp at E;omega
   . simp only[go_sem,h0,O,I,F]
     rw[V (by assumption)];exact .refl _
def fQ(l:List Int)(d:Int):Bool:=if(l.length:Int)=d then l.all fun n=> !(decide (n<0)||decide (n>1000))else false
theorem FV{α:Type}{p:α->Bool}{l:List α}(h:∀x∈l,p x=true):l.all p=true:=Xaj.2 h
theorem Ie{α:Type}{p:α->Bool}{l:List α}{x:α}(h:x∈l)(E:p x=false):l.all p=false:=by
 cases F:l.all p with
 | false=>rfl
 | true=>rw[Xaj.1 F x h]at E;cases E
theorem kD{α:Type}{l:List α}{k:Nat}{x:α}(h:l[k]?=some x):x∈l:=Xac h
theorem tV{α:Type}{q:α->Prop}{l:List α}{k:Nat}{x:α}(F:l[k]?=some x)(h:∀y∈l.take k,q y)(I:q x):∀y∈l.take (k+1),q y:=by
 rw[bQ F];intro y E;rcases Xau.1 E with E|E
 . exact h y E
 . simp at E;subst E;exact I
theorem aQ{k n:Nat}(h:decide ((k:Int)<(n:Int))=true):k<n:=by simpa using h
theorem aR{k n:Nat}(E:k<=n)(h:decide ((k:Int)<(n:Int))=false):k=n:=by
 have:¬k<n:=by simpa using h
 omega
theorem Ll(l:List Int)(d:Int)(Z:l.length<=1048576):PC prog 147 [.sl (l.map bW),int d] (boo (fQ l d)):=by
 refine pcd Tryz.func147 ?_;unfold Tryz.f147;simp only[gdS];simp only[go_sem];refine aB (fun I=>?_) (fun I=>?_)
 . simp only[go_sem]
   have:fQ l d=false:=by unfold fQ;rw[if_neg (by simpa using I)]
   rw[this];exact .refl _
 . have I:(l.length:Int)=d:=by simpa using I
   simp only[go_sem];refine⟨fun ρ _=>∃k:Nat,k<=l.length/\ρ 0=.sl (l.map bW)/\ρ 5=int k/\∀n∈l.take k,(decide (n<0)||decide (n>1000))=false,fun ρ _=>l.length-aV (ρ 5),⟨0,Xab _,rfl,rfl,by simp⟩,?_⟩;rintro ρ H ⟨k,Y,h0,O,V⟩;simp only[go_sem,h0,O];refine aB (fun E=>?_) (fun F=>?_)
   . have E:=aQ E
     obtain⟨r,U⟩:=aN E;have X:=inB E;simp only[go_sem,h0,O,X,aC U];refine aB (fun J=>?_) (fun J=>?_)
     . simp only[go_sem]
       have:fQ l d=false:=by unfold fQ;rw[if_pos I];exact Ie (kD U) (by simp only[J];rfl)
       rw[this];exact .refl _
     . simp only[go_sem,h0,O,aT (show k<=4611686018427387904 by omega)]
       exact⟨⟨k+1,E,rfl,tV U V J⟩,by simp only[aE];omega⟩
   . have F:=aR Y F
     subst F;simp only[go_sem];have:fQ l d=true:=by unfold fQ;rw[if_pos I];exact FV fun n h=>by rw[V n (by simpa using h)];rfl
     rw[this];exact .refl _
def wQ(l:List Int)(d:Int):Bool:=if(!inR l.length 1 3||(l.length:Int) != d)=true then false else l.all fun n=>inR n 0 1000
theorem auQ(l:List Int)(d:Int)(Z:l.length<=1048576):PC prog 146 [.sl (l.map bW),int d] (boo (wQ l d)):=by
 refine pcd Tryz.func146 ?_;unfold Tryz.f146;simp only[gdS];simp only[go_sem];refine PC.use (oY _ _ _) ?_;simp only[go_sem];refine aB (fun I=>?_) (fun I=>?_)
 . simp only[go_sem]
   have:wQ l d=false:=by unfold wQ;rw[if_pos I]
   rw[this];exact .refl _
 . simp only[go_sem]
   refine⟨fun ρ _=>∃k:Nat,k<=l.length/\ρ 0=.sl (l.map bW)/\ρ 5=int k/\∀n∈l.take k,inR n 0 1000=true,fun ρ _=>l.length-aV (ρ 5),⟨0,Xab _,rfl,rfl,by simp⟩,?_⟩;rintro ρ H ⟨k,Y,h0,O,V⟩;simp only[go_sem,h0,O];refine aB (fun E=>?_) (fun F=>?_)
   . have E:=aQ E
     obtain⟨r,U⟩:=aN E;have X:=inB E;simp only[go_sem,h0,O,X,aC U];refine PC.use (oY _ _ _) ?_;simp only[go_sem];refine aB (fun J=>?_) (fun J=>?_)
     . simp only[go_sem]
       have:wQ l d=false:=by unfold wQ;rw[if_neg (by rw[I];simp)];exact Ie (kD U) (by simpa using J)
       rw[this];exact .refl _
     . simp only[go_sem,h0,O,aT (show k<=4611686018427387904 by omega)]
       exact⟨⟨k+1,E,rfl,tV U V (by simpa using J)⟩,by simp only[aE];omega⟩
   . have F:=aR Y F
     subst F;simp only[go_sem];have:wQ l d=true:=by unfold wQ;rw[if_neg (by rw[I];simp)];exact FV fun n h=>V n (by simpa using h)
     rw[this];exact .refl _
def vL(s:ByteArray)(i:Nat):Int:=((s.data.getD i 0).toNat:Int)
def lV(s:ByteArray):Bool:=if(decide ((s.size:Int)<1)||decide ((s.size:Int)>16)||DV (vL s 0))=true then false else(List.range s.size).all fun i=>Df (vL s i)||DV (vL s i)
theorem gL{n k:Nat}(h:k<n):(List.range n)[k]?=some k:=by simp[h]
theorem Q1(s:ByteArray)(Y:s.size<=1048576):PC prog 142 [str s] (boo (lV s)):=by
 refine pcd Tryz.func142 ?_;unfold Tryz.f142;simp only[gdS];simp only[go_sem];refine⟨fun h=>⟨by omega,by simp at h;omega⟩,_,fun _=>(FE _).q rfl,?_⟩;simp only[go_sem];refine aB (fun J=>?_) (fun J=>?_)
 . simp only[go_sem]
   have:lV s=false:=by unfold lV;rw[if_pos (by exact J)]
   rw[this];exact .refl _
 . simp only[go_sem]
   refine⟨fun ρ _=>∃k:Nat,k<=s.size/\ρ 0=str s/\ρ 3=int k/\∀i∈(List.range s.size).take k,(Df (vL s i)||DV (vL s i))=true,fun ρ _=>s.size-aV (ρ 3),⟨0,Xab _,rfl,rfl,by simp⟩,?_⟩;rintro ρ H ⟨k,X,h0,I,U⟩;simp only[go_sem,h0,I];refine aB (fun E=>?_) (fun F=>?_)
   . have E:=aQ E
     have V:=inB E;simp only[go_sem,h0,I,V];refine PC.use (Y4 _) ?_;simp only[go_sem,h0,I,V];refine⟨_,fun _=>(FE _).q rfl,?_⟩;simp only[go_sem];refine aB (fun O=>?_) (fun O=>?_)
     . simp only[go_sem]
       have:lV s=false:=by unfold lV;rw[if_neg (by intro h;exact absurd (h.symm.trans J) (by simp))];exact Ie (kD (gL E)) (by simpa[vL]using O)
       rw[this];exact .refl _
     . simp only[go_sem,h0,I,aT (show k<=4611686018427387904 by omega)]
       exact⟨⟨k+1,E,rfl,tV (gL E) U (by
         have:(!Df (vL s k)&& !DV (vL s k))=false:=O
         revert this;cases Df (vL s k) <;> cases DV (vL s k) <;> simp)⟩,by simp only[aE];omega⟩
   . have F:=aR X F
     subst F;simp only[go_sem];have:lV s=true:=by unfold lV;rw[if_neg (by intro h;exact absurd (h.symm.trans J) (by simp))];exact FV fun n h=>U n (by rw[Xap (by simp)];exact h)
     rw[this];exact .refl _
def jI(l:List VType):Int:=match l with|[]=>0|t::_=>t.cap.length
theorem LY(l:List VType):PC prog 53 [.sl (l.map bC)] (int (jI l)):=by
 refine pcd Tryz.func53 ?_;unfold Tryz.f53;simp only[gdS];simp only[go_sem];cases l with
 | nil=>
   simp only[go_sem];refine aB (fun E=>?_) (fun E=>?_)
   . simp only[go_sem];exact .refl _
   . simp at E
 | cons t l=>
   refine aB (fun E=>?_) (fun E=>?_)
   . simp at E;omega
   . simp only[go_sem]
     exact⟨⟨by omega,by omega⟩,.refl _⟩
def dT(l:List VType)(k:Nat)(s:ByteArray):Bool:=(l.take k).any fun t=>t.name.toList == s.toList
theorem LK(l:List VType)(m:Nat)(s:ByteArray)(hm:m<=l.length)(hl:l.length<=1048576):PC prog 145 [.sl (l.map bC),int m,str s] (boo (dT l m s)):=by
 refine pcd Tryz.func145 ?_;unfold Tryz.f145;simp only[gdS];simp only[go_sem];refine⟨fun ρ _=>∃k:Nat,k<=m/\ρ 0=.sl (l.map bC)/\ρ 1=int m/\ρ 2=str s/\ρ 7=int k/\∀t∈l.take k,(t.name.toList == s.toList)=false,fun ρ _=>m-aV (ρ 7),⟨0,Xab _,rfl,rfl,rfl,rfl,by simp⟩,?_⟩;rintro ρ H ⟨k,Y,h0,h1,J,U,V⟩;simp only[go_sem,h0,h1,J,U];refine aB (fun E=>?_) (fun F=>?_)
 . have E:=aQ E
   obtain⟨r,O⟩:=aN (show k<l.length by omega);have X:=inB (show k<l.length by omega);simp only[go_sem,h0,h1,J,U,X,aC O];refine aB (fun I=>?_) (fun I=>?_)
   . simp only[go_sem]
     have:dT l m s=true:=by
       refine Xan.2 ⟨r,?_,I⟩;exact Xac (i:=k) (by rw[List.getElem?_take];simp[E,O])
     rw[this];exact .refl _
   . simp only[go_sem,h0,h1,J,U,aT (show k<=4611686018427387904 by omega)]
     exact⟨⟨k+1,E,rfl,tV O V I⟩,by simp only[aE];omega⟩
 . have F:=aR Y F
   subst F;simp only[go_sem];have:dT l k s=false:=Xay.2 fun t Z=>by simp[V t Z]
   rw[this];exact .refl _
def rE(p:Point):Bool:=decide (p.t<0)||decide (p.t>4096)||decide (p.a<p.t)||decide (p.a>IntKind.i64.wrap (p.t+4096))
def LS(p q:Point):Bool:=decide (p.t<=q.t)||decide (p.a<q.a)
def eA(l:List Point)(i:Nat):Point:=l.getD i ⟨0,0⟩
def B3(n lo hi:Int):Bool:=decide (n<lo)||decide (n>hi)
def iD(l:List Point)(i:Nat):List Fault:=
 opt (rE (eA l i)) ⟨2,kB i⟩++opt (decide ((i:Int)>0)&&LS (eA l i) (eA l (i-1))) ⟨13,kB i⟩
def iJ(l:List Point):List Fault:=opt (B3 l.length 1 16) ⟨4,ByteArray.empty⟩++(List.range l.length).flatMap (iD l)
theorem YU(l:List Point)(i:Nat):(iD l i).length<=2:=by
 unfold iD;rw[Xae];have:=cL (rE (eA l i)) (⟨2,kB i⟩:Fault);have:=cL (decide ((i:Int)>0)&&LS (eA l i) (eA l (i-1))) (⟨13,kB i⟩:Fault);omega
theorem fM{α E:Type}{f:α->List E}{c:Nat}(h:∀x,(f x).length<=c):∀l:List α,(l.flatMap f).length<=c*l.length
 | []=>by simp
 | x::r=>by
   have h1:=h x;have F:=fM h r;simp only[List.flatMap_cons,Xae,Xad,Nat.mul_add,Nat.mul_one];omega
theorem iK{E:Type}(f:Nat->List E)(k:Nat):(List.range (k+1)).flatMap f=(List.range k).flatMap f++f k:=by rw[Xbg,Xbu];simp
theorem dH{l:List Point}{k:Nat}{p:Point}(h:l[k]?=some p):eA l k=p:=by simp[eA,List.getD,h]
theorem YY(l:List Point)(hl:l.length<=1048576):NC prog 143 [.sl (l.map bY)] (bS (iJ l)) .os:=by
 refine ncb (fun t=>t == 3) Tryz.func143 ?_;unfold Tryz.f143;simp only[gdS];simp only[go_sem];refine aL fun j hj=>?_
 simp only[go_sem];refine bK (fun ρ H=>∃j,ρ 0=.sl (l.map bY)/\ρ 3=.os j/\H j=some (bS (opt (B3 l.length 1 16) ⟨4,ByteArray.empty⟩))) ?_ fun K hK=>aB (fun U=>?_) (fun U=>?_)
 . rintro ρ H ⟨j,h0,E,J⟩
   simp only[go_sem,h0,E];generalize Z:opt (B3 l.length 1 16) (⟨4,ByteArray.empty⟩:Fault)=pre at J;have ai:pre.length<=1:=by rw[<-Z];exact cL _ _
   refine⟨fun ρ H=>∃k:Nat,k<=l.length/\ρ 0=.sl (l.map bY)/\ρ 4=int k/\∃j,ρ 3=.os j/\H j=some (bS (pre++(List.range k).flatMap (iD l))),fun ρ _=>l.length-aV (ρ 4),⟨0,Xab _,by simp only[go_sem,h0],by simp only[go_sem];rfl,j,by simp only[go_sem,E],by simpa using J⟩,?_⟩;rintro ρ H ⟨k,hk,h0,I,j,E,J⟩;generalize aa:pre++(List.range k).flatMap (iD l)=es at J;have ah:es.length<=2*k+1:=by
     have:=fM (YU l) (List.range k);rw[<-aa,Xae];rw[Xaz]at this;omega
   simp only[go_sem,h0,E,I];refine aB (fun V=>?_) (fun ab=>?_)
   . have V:=aQ V
     obtain⟨p,hp⟩:=aN V;have b1:=inB V;simp only[go_sem,h0,E,I,b1,aC hp];refine aL fun i hi=>?_
     simp only[go_sem];refine aH (r:=⟨104,2,[[int 0,int 0]]⟩) (by rw[aA]) (by simp[eQ]) ?_;simp only[go_sem];have O:j≠i:=aP J hi;have ae:aI (aI H i (some ⟨104,2,[[int 0,int 0]]⟩)) i (some ⟨104,2,[bY p]⟩) j=some (bS es):=by rw[aF _ _ _ _ O,aF _ _ _ _ O,J]
     refine bK (fun F H'=>∃X,F 0=.sl (l.map bY)/\F 4=int k/\F 3=.os X/\F 5=.op i 0 0/\H' i=some ⟨104,2,[bY p]⟩/\X≠i /\
       H' X=some (bS (es++opt (rE p) ⟨2,kB k⟩))) ?_ fun K hK=>aB (fun U=>?_) (fun U=>?_)
     . rintro ρ H ⟨j,h0,I,E,h5,hi,O,J⟩
       generalize af:es++opt (rE p) ⟨2,kB k⟩=fs at J;have aj:fs.length<=2*k+2:=by
         have:=cL (rE p) (⟨2,kB k⟩:Fault);rw[<-af,Xae];omega
       simp only[go_sem];refine cN (by rfl) (by kernel_rfl) ?_;simp only[go_sem,h0,E,I,h5,hi];obtain⟨q,hq⟩:=aN (show k-1<l.length by omega);simp only[go_sem,h0,E,I,h5,hi,adR (show k<=4611686018427387904 by omega),aC hq];have ad:k<=4611686018427387904:=by omega
       have hg:decide ((k:Int)>0)=true->0<=IntKind.i64.wrap ((k:Int)-1)/\IntKind.i64.wrap ((k:Int)-1)<(l.length:Int):=fun h=>by
         have:(k:Int)>0:=by simpa using h
         rw[oX ad];omega
       have ac:pre++(List.range (k+1)).flatMap (iD l)=fs++opt (decide ((k:Int)>0)&&LS p q) ⟨13,kB k⟩:=by
         rw[iK,<-Xaw,aa,<-af,iD,dH hp,dH hq,Xaw]
       refine⟨hg,fun h=>hg h.1,gA (fun F H'=>F 0=.sl (l.map bY)/\F 4=int k/\∃j,F 3=.os j/\H' j=some (bS (pre++(List.range (k+1)).flatMap (iD l)))) ?_ fun K hK _ _=>aB (fun U=>?_) (fun U=>?_)⟩
       . rintro ρ H ⟨h0,I,j,E,J⟩
         simp only[go_sem,h0,E,I,aT ad];exact⟨⟨k+1,V,rfl,j,rfl,J⟩,by simp only[aE];omega⟩
       . simp only[go_sem,h0,E,I]
         refine PC.use (sP _ (by omega)) ?_;simp only[go_sem,h0,E,I];refine aZ J ⟨rfl,rfl⟩ (by simp only[go_sem]) (by simp only[Xaa,Xad,List.length_nil];omega) (fun X Y=>?_);simp only[go_sem,h0,E,I];refine hK _ _ ⟨by simp only[go_sem,h0],by simp only[go_sem,I],X,by simp only[go_sem],?_⟩;rw[ac,iX (by exact U)];exact fL (l':=[⟨13,kB k⟩]) rfl
       . simp only[go_sem]
         refine hK _ _ ⟨by simp only[go_sem,h0],by simp only[go_sem,I],j,by simp only[go_sem,E],?_⟩;rw[ac,iW (by exact U),Xai,J]
     . simp only[go_sem,h0,E,I]
       refine PC.use (sP _ (by omega)) ?_;simp only[go_sem,h0,E,I];refine aZ ae ⟨rfl,rfl⟩ (by simp only[go_sem]) (by simp only[Xaa,Xad,List.length_nil];omega) (fun X Y=>?_);simp only[go_sem,h0,E,I];have ag:=aA (aI H i (some ⟨104,2,[[int 0,int 0]]⟩)) i (some ⟨104,2,[bY p]⟩);refine hK _ _ ⟨X,by simp only[go_sem,h0],by simp only[go_sem,I],by simp only[go_sem],by simp only[go_sem],dF ag O Y,(aP ag Y).symm,?_⟩;rw[iX (show rE p=true from U)];exact fL (l':=[⟨2,kB k⟩]) rfl
     . simp only[go_sem]
       refine hK _ _ ⟨j,by simp only[go_sem,h0],by simp only[go_sem,I],by simp only[go_sem,E],by simp only[go_sem],by rw[aA],O,?_⟩;rw[ae,iW (show rE p=false from U),Xai]
   . have ab:=aR hk ab
     subst ab;simp only[go_sem,E];exact⟨_,rfl,by rw[J,<-aa,<-Z];rfl⟩
 . simp only[go_sem]
   refine aZ (r:=bS []) (by simp only[go_sem];rfl) ⟨rfl,rfl⟩ (by simp only[go_sem]) (by simp) (fun X Y=>?_);simp only[go_sem];refine hK _ _ ⟨X,rfl,rfl,?_⟩;rw[iX (by exact U)];exact fL (l:=[]) (l':=[⟨4,ByteArray.empty⟩]) rfl
 . simp only[go_sem]
   refine hK _ _ ⟨j,rfl,rfl,?_⟩;rw[iW (by exact U),aA];rfl
def Jn(l:List ByteArray)(i:Nat):ByteArray:=l.getD i ByteArray.empty
theorem DW{l:List ByteArray}{k:Nat}{p:ByteArray}(h:l[k]?=some p):Jn l k=p:=by simp[Jn,List.getD,h]
def uC(i:Nat):ByteArray:=⟨#[112,108,97,99,101,32]⟩++kB i
def tJ(l:List ByteArray)(i:Nat):Bool:=(l.take i).any fun s=>s.toList == (Jn l i).toList
def gN(l:List ByteArray)(i:Nat):List Fault:=match lV (Jn l i)with
 | false=>[⟨5,uC i⟩]
 | true=>opt (tJ l i) ⟨6,uC i⟩
theorem T7(l:List ByteArray)(i:Nat):(gN l i).length<=1:=by
 unfold gN;split
 . simp
 . exact cL _ _
def zA(l:List ByteArray):List Fault:=opt (decide ((l.length:Int)>24)) ⟨4,⟨#[112,108,97,99,101,115]⟩⟩++(List.range l.length).flatMap (gN l)
theorem HB{α:Type}{p:α->Bool}{l:List α}{k:Nat}{x:α}(h:l[k]?=some x):(l.take (k+1)).any p=((l.take k).any p||p x):=by rw[bQ h,List.any_append];simp
theorem MY(i:Nat):(uC i).size<=i+7:=by
 have:=oQ i;unfold uC;rw[ByteArray.size_append];have:(⟨#[112,108,97,99,101,32]⟩:ByteArray).size=6:=rfl;omega
theorem ZS(n:Network)(hl:n.places.length<=1048576)(hs:∀s∈n.places,s.size<=1048576):NC prog 84 [.agg (aY n)] (bS (zA n.places)) .os:=by
 refine ncb (fun t=>t == 3) Tryz.func84 ?_;unfold Tryz.f84;simp only[gdS];simp only[go_sem];refine aL fun j hj=>?_
 simp only[go_sem];refine bK (fun ρ H=>∃j,ρ 1=.rp (aY n) 0/\ρ 3=.os j/\H j=some (bS (opt (decide ((n.places.length:Int)>24)) ⟨4,⟨#[112,108,97,99,101,115]⟩⟩))) ?_ fun K hK=>aB (fun J=>?_) (fun J=>?_)
 . rintro ρ H ⟨j,h1,E,V⟩
   simp only[go_sem,h1,E];generalize X:opt (decide ((n.places.length:Int)>24)) (⟨4,⟨#[112,108,97,99,101,115]⟩⟩:Fault)=pre at V;have ag:pre.length<=1:=by rw[<-X];exact cL _ _
   refine⟨fun ρ H=>∃k:Nat,k<=n.places.length/\ρ 1=.rp (aY n) 0/\ρ 4=int k/\∃j,ρ 3=.os j/\H j=some (bS (pre++(List.range k).flatMap (gN n.places))),fun ρ _=>n.places.length-aV (ρ 4),⟨0,Xab _,by simp only[go_sem,h1],by simp only[go_sem];rfl,j,by simp only[go_sem,E],by simpa using V⟩,?_⟩;rintro ρ H ⟨k,hk,h1,F,j,E,V⟩;generalize Z:pre++(List.range k).flatMap (gN n.places)=es at V;have af:es.length<=k+1:=by
     have:=fM (T7 n.places) (List.range k);rw[<-Z,Xae];rw[Xaz]at this;omega
   simp only[go_sem,h1,E,F];refine aB (fun I=>?_) (fun ab=>?_)
   . have I:=aQ I
     obtain⟨p,hp⟩:=aN I;have b1:=inB I;have ac:k<=4611686018427387904:=by omega
     have ah:=oQ k;have aa:pre++(List.range (k+1)).flatMap (gN n.places)=es++gN n.places k:=by rw[iK,<-Xaw,Z]
     simp only[go_sem,h1,E,F];refine PC.use (sP _ (by omega)) ?_;simp only[go_sem,h1,E,F,b1,aC hp];refine⟨by rw[zE];show((6+(kB k).size:Nat):Int)<=_;omega,?_⟩;refine PC.use (Q1 p (hs p (kD hp))) ?_;simp only[go_sem,h1,E,F];refine aB (fun J=>?_) (fun J=>?_)
     . simp only[go_sem,h1,E,F]
       refine aZ V ⟨rfl,rfl⟩ (by simp only[go_sem]) (by simp only[Xaa,Xad,List.length_nil];omega) (fun j' ae=>?_);simp only[go_sem,h1,E,F,aT ac];refine⟨⟨k+1,I,rfl,j',rfl,?_⟩,by simp only[aE];omega⟩;have hn:lV (Jn n.places k)=false:=by rw[DW hp];simpa using J
       rw[aa,gN,hn];exact fL (l':=[⟨5,uC k⟩]) rfl
     . simp only[go_sem,h1,E,F]
       have hn:lV (Jn n.places k)=true:=by rw[DW hp];simpa using J
       refine⟨fun ρ H'=>∃m:Nat,m<=k/\ρ 1=.rp (aY n) 0/\ρ 3=.os j/\ρ 4=int k/\ρ 5=str (uC k)/\ρ 6=boo ((n.places.take m).any fun s=>s.toList == p.toList)/\ρ 7=int m/\H'=H,fun ρ _=>k-aV (ρ 7),⟨0,Xab _,by simp only[go_sem,h1],by simp only[go_sem,E],by simp only[go_sem,F],by simp only[go_sem];rfl,by simp only[go_sem];rfl,by simp only[go_sem];rfl,rfl⟩,?_⟩;rintro ρ H' ⟨m,hm,h1,E,F,h5,h6,h7,rfl⟩;simp only[go_sem,h1,E,F,h5,h6,h7];refine aB (fun O=>?_) (fun U=>?_)
       . have O:=aQ O
         obtain⟨q,hq⟩:=aN (show m<n.places.length by omega);have b2:=inB (show m<n.places.length by omega);simp only[go_sem];refine cN (by rfl) (by kernel_rfl) ?_;simp only[go_sem,h1,E,F,h5,h6,h7,b1,b2,aC hp,aC hq,aT (show m<=4611686018427387904 by omega)];refine⟨⟨m+1,O,?_,rfl⟩,by simp only[aE];omega⟩;rw[HB hq]
       . have U:=aR hm U
         subst U;simp only[go_sem,h6];have ad:tJ n.places m=(n.places.take m).any fun s=>s.toList == p.toList:=by unfold tJ;rw[DW hp]
         refine gA (fun Y H'=>Y 1=.rp (aY n) 0/\Y 4=int m/\∃j,Y 3=.os j/\H' j=some (bS (pre++(List.range (m+1)).flatMap (gN n.places)))) ?_ fun K hK _ _=>aB (fun J=>?_) (fun J=>?_)
         . rintro ρ H ⟨h1,F,j,E,V⟩
           simp only[go_sem,h1,E,F,aT ac];exact⟨⟨m+1,I,rfl,j,rfl,V⟩,by simp only[aE];omega⟩
         . simp only[go_sem,h1,E,F,h5]
           refine aZ V ⟨rfl,rfl⟩ (by simp only[go_sem]) (by simp only[Xaa,Xad,List.length_nil];omega) (fun j' ae=>?_);simp only[go_sem];refine hK _ _ ⟨by simp only[go_sem,h1],by simp only[go_sem,F],j',by simp only[go_sem],?_⟩;rw[aa,gN,hn];show _=some (bS (es++opt (tJ n.places m) ⟨6,uC m⟩));rw[iX (ad.trans J)];exact fL (l':=[⟨6,uC m⟩]) rfl
         . simp only[go_sem]
           refine hK _ _ ⟨by simp only[go_sem,h1],by simp only[go_sem,F],j,by simp only[go_sem,E],?_⟩;rw[aa,gN,hn];show _=some (bS (es++opt (tJ n.places m) ⟨6,uC m⟩));rw[iW (ad.trans J),Xai,V]
   . have ab:=aR hk ab
     subst ab;simp only[go_sem,E];exact⟨_,rfl,by rw[V,<-Z,<-X];rfl⟩
 . simp only[go_sem]
   refine aZ (r:=bS []) (by simp only[go_sem];rfl) ⟨rfl,rfl⟩ (by simp only[go_sem]) (by simp) (fun j' ae=>?_);simp only[go_sem];refine hK _ _ ⟨j',rfl,rfl,?_⟩;rw[iX (by exact J)];exact fL (l:=[]) (l':=[⟨4,⟨#[112,108,97,99,101,115]⟩⟩]) rfl
 . simp only[go_sem]
   refine hK _ _ ⟨j,rfl,rfl,?_⟩;rw[iW (by exact J),aA];rfl
def S9(l:List VType)(i:Nat):VType:=l.getD i ⟨ByteArray.empty,0,0,0,[],0,0,0,0,0,0,0,0,0⟩
theorem HR{l:List VType}{k:Nat}{p:VType}(h:l[k]?=some p):S9 l k=p:=by simp[S9,List.getD,h]
def lM(n:Network)(l:List VType)(k:Nat)(t:VType):List Int:=
 []++opt (!lV t.name) 5++opt (dT l k t.name) 6++opt (!inR t.count 0 10) 22++opt (!inR t.src 0 (n.places.length-1)|| !inR t.dst 0 (n.places.length-1)) 11
   ++ opt (!wQ t.cap (jI l)) 17++opt (!inR t.skills 0 1073741823) 18++opt (!inR t.start 0 t.close||decide (t.close>4096)) 15
   ++ opt (!inR t.drive 1 4096|| !inR t.rest 0 4096) 16++opt (!inR t.profile 0 7|| !inR t.fixed 0 100000|| !inR t.perMile 0 100|| !inR t.perTick 0 100) 2
theorem Yx(n:Network)(l:List VType)(k:Nat)(hk:k<l.length)(hl:l.length<=1048576)(hs:∀t∈l,t.name.size<=1048576/\t.cap.length<=1048576)(hp:n.places.length<=1048576):
   PC prog 87 [.agg (aY n),.sl (l.map bC),int k] (.sl ((lM n l k (S9 l k)).map bW)):=by
 refine pcb (fun t=>t == 8) Tryz.func87 ?_;unfold Tryz.f87;simp only[gdS];simp only[go_sem];obtain⟨t,ht⟩:=aN hk;have b1:=inB hk;have ak:=hs t (kD ht);rw[HR ht];simp only[go_sem,b1,aC ht];refine aL fun i hi=>?_
 simp only[go_sem];refine aH (aA _ _ _) (by simp[jZ]) ?_;simp only[go_sem];refine aL fun j hj=>?_
 have am:=eZ (r':=(⟨45,1,[]⟩:Row)) (aA _ _ _) hj;simp only[go_sem,am];refine PC.use (Q1 _ ak.1) ?_;simp only[go_sem];refine qA (fun E H'=>E 1=.sl (l.map bC)/\E 2=int k/\E 3=.rp (aY n) 0/\E 7=.op i 0 0/\H' i=some (kN t)/\∃U,E 8=.os U/\U≠i/\H' U=some (lE [])) ⟨by simp only[go_sem],by simp only[go_sem],by simp only[go_sem],by simp only[go_sem],eZ (aA _ _ _) hj,_,by simp only[go_sem],(aP (aA _ _ _) hj).symm,aA _ _ _⟩ ?_;rintro ρ H ⟨h1,J,F,I,hi,j,O,V,Y⟩;generalize ae:([]:List Int)=es0 at Y;have ar:es0.length<=0:=by rw[<-ae];exact Xah _
 refine bK (fun E H'=>E 1=.sl (l.map bC)/\E 2=int k/\E 3=.rp (aY n) 0/\E 7=.op i 0 0/\H' i=some (kN t)/\∃U,E 8=.os U/\U≠i/\H' U=some (lE (es0++opt (!lV t.name) 5))) ?_ fun K hK=>aB (fun Z=>?_) (fun Z=>?_)
 rotate_left
 . simp only[go_sem,h1,J,F,I,O]
   refine aZ Y ⟨rfl,rfl⟩ (by simp only[go_sem]) (by simp only[Xaa,Xad,List.length_nil];omega) (fun U X=>?_);simp only[go_sem];refine hK _ _ ⟨by simp only[go_sem,h1],by simp only[go_sem,J],by simp only[go_sem,F],by simp only[go_sem,I],dF hi V X,U,by simp only[go_sem],(aP hi X).symm,?_⟩;rw[iX (show(!lV t.name)=true from Z)];exact gW (l':=[5]) rfl
 . simp only[go_sem]
   refine hK _ _ ⟨by simp only[go_sem,h1],by simp only[go_sem,J],by simp only[go_sem,F],by simp only[go_sem,I],hi,j,by simp only[go_sem,O],V,?_⟩;rw[iW (show(!lV t.name)=false from Z),Xai,Y]
 clear Y h1 J F I O;rintro ρ H ⟨h1,J,F,I,hi,j,O,V,Y⟩;generalize aj:es0++opt (!lV t.name) (5:Int)=es1 at Y;have av:es1.length<=es0.length+1:=by rw[<-aj,Xae];have:=cL (!lV t.name) (5:Int);omega
 simp only[go_sem,h1,J,F,I,O,hi];refine PC.use (LK l k t.name (by omega) hl) ?_;simp only[go_sem];refine bK (fun E H'=>E 1=.sl (l.map bC)/\E 2=int k/\E 3=.rp (aY n) 0/\E 7=.op i 0 0/\H' i=some (kN t)/\∃U,E 8=.os U/\U≠i/\H' U=some (lE (es1++opt (dT l k t.name) 6))) ?_ fun K hK=>aB (fun Z=>?_) (fun Z=>?_)
 rotate_left
 . simp only[go_sem,h1,J,F,I,O]
   refine aZ Y ⟨rfl,rfl⟩ (by simp only[go_sem]) (by simp only[Xaa,Xad,List.length_nil];omega) (fun U X=>?_);simp only[go_sem];refine hK _ _ ⟨by simp only[go_sem,h1],by simp only[go_sem,J],by simp only[go_sem,F],by simp only[go_sem,I],dF hi V X,U,by simp only[go_sem],(aP hi X).symm,?_⟩;rw[iX (show(dT l k t.name)=true from Z)];exact gW (l':=[6]) rfl
 . simp only[go_sem]
   refine hK _ _ ⟨by simp only[go_sem,h1],by simp only[go_sem,J],by simp only[go_sem,F],by simp only[go_sem,I],hi,j,by simp only[go_sem,O],V,?_⟩;rw[iW (show(dT l k t.name)=false from Z),Xai,Y]
 clear Y h1 J F I O;rintro ρ H ⟨h1,J,F,I,hi,j,O,V,Y⟩;generalize ac:es1++opt (dT l k t.name) (6:Int)=es2 at Y;have ax:es2.length<=es1.length+1:=by rw[<-ac,Xae];have:=cL (dT l k t.name) (6:Int);omega
 simp only[go_sem,h1,J,F,I,O,hi];refine PC.use (oY _ _ _) ?_;simp only[go_sem];refine bK (fun E H'=>E 1=.sl (l.map bC)/\E 2=int k/\E 3=.rp (aY n) 0/\E 7=.op i 0 0/\H' i=some (kN t)/\∃U,E 8=.os U/\U≠i/\H' U=some (lE (es2++opt (!inR t.count 0 10) 22))) ?_ fun K hK=>aB (fun Z=>?_) (fun Z=>?_)
 rotate_left
 . simp only[go_sem,h1,J,F,I,O]
   refine aZ Y ⟨rfl,rfl⟩ (by simp only[go_sem]) (by simp only[Xaa,Xad,List.length_nil];omega) (fun U X=>?_);simp only[go_sem];refine hK _ _ ⟨by simp only[go_sem,h1],by simp only[go_sem,J],by simp only[go_sem,F],by simp only[go_sem,I],dF hi V X,U,by simp only[go_sem],(aP hi X).symm,?_⟩;rw[iX (show(!inR t.count 0 10)=true from Z)];exact gW (l':=[22]) rfl
 . simp only[go_sem]
   refine hK _ _ ⟨by simp only[go_sem,h1],by simp only[go_sem,J],by simp only[go_sem,F],by simp only[go_sem,I],hi,j,by simp only[go_sem,O],V,?_⟩;rw[iW (show(!inR t.count 0 10)=false from Z),Xai,Y]
 clear Y h1 J F I O;rintro ρ H ⟨h1,J,F,I,hi,j,O,V,Y⟩;generalize ag:es2++opt (!inR t.count 0 10) (22:Int)=es3 at Y;have aq:es3.length<=es2.length+1:=by rw[<-ag,Xae];have:=cL (!inR t.count 0 10) (22:Int);omega
 simp only[go_sem,h1,J,F,I,O,hi,oX (show n.places.length<=4611686018427387904 by omega)];refine PC.use (oY _ _ _) ?_;simp only[go_sem,h1,J,F,I,O,hi,oX (show n.places.length<=4611686018427387904 by omega)];refine⟨_,fun _=>(oY _ _ _).q rfl,?_⟩;simp only[go_sem,h1,J,F,I,O,hi];refine bK (fun E H'=>E 1=.sl (l.map bC)/\E 2=int k/\E 3=.rp (aY n) 0/\E 7=.op i 0 0/\H' i=some (kN t)/\∃U,E 8=.os U/\U≠i/\H' U=some (lE (es3++opt (!inR t.src 0 (n.places.length-1)|| !inR t.dst 0 (n.places.length-1)) 11))) ?_ fun K hK=>aB (fun Z=>?_) (fun Z=>?_)
 rotate_left
 . simp only[go_sem,h1,J,F,I,O]
   refine aZ Y ⟨rfl,rfl⟩ (by simp only[go_sem]) (by simp only[Xaa,Xad,List.length_nil];omega) (fun U X=>?_);simp only[go_sem];refine hK _ _ ⟨by simp only[go_sem,h1],by simp only[go_sem,J],by simp only[go_sem,F],by simp only[go_sem,I],dF hi V X,U,by simp only[go_sem],(aP hi X).symm,?_⟩;rw[iX (show(!inR t.src 0 (n.places.length-1)|| !inR t.dst 0 (n.places.length-1))=true from Z)];exact gW (l':=[11]) rfl
 . simp only[go_sem]
   refine hK _ _ ⟨by simp only[go_sem,h1],by simp only[go_sem,J],by simp only[go_sem,F],by simp only[go_sem,I],hi,j,by simp only[go_sem,O],V,?_⟩;rw[iW (show(!inR t.src 0 (n.places.length-1)|| !inR t.dst 0 (n.places.length-1))=false from Z),Xai,Y]
 clear Y h1 J F I O;rintro ρ H ⟨h1,J,F,I,hi,j,O,V,Y⟩;generalize ad:es3++opt (!inR t.src 0 (n.places.length-1)|| !inR t.dst 0 (n.places.length-1)) (11:Int)=es4 at Y;have au:es4.length<=es3.length+1:=by rw[<-ad,Xae];have:=cL (!inR t.src 0 (n.places.length-1)|| !inR t.dst 0 (n.places.length-1)) (11:Int);omega
 simp only[go_sem,h1,J,F,I,O,hi];refine cN (by rfl) (by kernel_rfl) ?_;simp only[go_sem,h1,J,F,I,O,hi];refine⟨_,(LY l).q rfl,?_⟩;simp only[go_sem,h1,J,F,I,O,hi];refine⟨_,(auQ t.cap (jI l) ak.2).q rfl,?_⟩;simp only[go_sem,h1,J,F,I,O,hi];refine bK (fun E H'=>E 1=.sl (l.map bC)/\E 2=int k/\E 3=.rp (aY n) 0/\E 7=.op i 0 0/\H' i=some (kN t)/\∃U,E 8=.os U/\U≠i/\H' U=some (lE (es4++opt (!wQ t.cap (jI l)) 17))) ?_ fun K hK=>aB (fun Z=>?_) (fun Z=>?_)
 rotate_left
 . simp only[go_sem,h1,J,F,I,O]
   refine aZ Y ⟨rfl,rfl⟩ (by simp only[go_sem]) (by simp only[Xaa,Xad,List.length_nil];omega) (fun U X=>?_);simp only[go_sem];refine hK _ _ ⟨by simp only[go_sem,h1],by simp only[go_sem,J],by simp only[go_sem,F],by simp only[go_sem,I],dF hi V X,U,by simp only[go_sem],(aP hi X).symm,?_⟩;rw[iX (show(!wQ t.cap (jI l))=true from Z)];exact gW (l':=[17]) rfl
 . simp only[go_sem]
   refine hK _ _ ⟨by simp only[go_sem,h1],by simp only[go_sem,J],by simp only[go_sem,F],by simp only[go_sem,I],hi,j,by simp only[go_sem,O],V,?_⟩;rw[iW (show(!wQ t.cap (jI l))=false from Z),Xai,Y]
 clear Y h1 J F I O;rintro ρ H ⟨h1,J,F,I,hi,j,O,V,Y⟩;generalize aa:es4++opt (!wQ t.cap (jI l)) (17:Int)=es5 at Y;have ao:es5.length<=es4.length+1:=by rw[<-aa,Xae];have:=cL (!wQ t.cap (jI l)) (17:Int);omega
 simp only[go_sem,h1,J,F,I,O,hi];refine PC.use (oY _ _ _) ?_;simp only[go_sem,h1,J,F,I,O,hi];refine bK (fun E H'=>E 1=.sl (l.map bC)/\E 2=int k/\E 3=.rp (aY n) 0/\E 7=.op i 0 0/\H' i=some (kN t)/\∃U,E 8=.os U/\U≠i/\H' U=some (lE (es5++opt (!inR t.skills 0 1073741823) 18))) ?_ fun K hK=>aB (fun Z=>?_) (fun Z=>?_)
 rotate_left
 . simp only[go_sem,h1,J,F,I,O]
   refine aZ Y ⟨rfl,rfl⟩ (by simp only[go_sem]) (by simp only[Xaa,Xad,List.length_nil];omega) (fun U X=>?_);simp only[go_sem];refine hK _ _ ⟨by simp only[go_sem,h1],by simp only[go_sem,J],by simp only[go_sem,F],by simp only[go_sem,I],dF hi V X,U,by simp only[go_sem],(aP hi X).symm,?_⟩;rw[iX (show(!inR t.skills 0 1073741823)=true from Z)];exact gW (l':=[18]) rfl
 . simp only[go_sem]
   refine hK _ _ ⟨by simp only[go_sem,h1],by simp only[go_sem,J],by simp only[go_sem,F],by simp only[go_sem,I],hi,j,by simp only[go_sem,O],V,?_⟩;rw[iW (show(!inR t.skills 0 1073741823)=false from Z),Xai,Y]
 clear Y h1 J F I O;rintro ρ H ⟨h1,J,F,I,hi,j,O,V,Y⟩;generalize af:es5++opt (!inR t.skills 0 1073741823) (18:Int)=es6 at Y;have ap:es6.length<=es5.length+1:=by rw[<-af,Xae];have:=cL (!inR t.skills 0 1073741823) (18:Int);omega
 simp only[go_sem,h1,J,F,I,O,hi];refine PC.use (oY _ _ _) ?_;simp only[go_sem,h1,J,F,I,O,hi];refine bK (fun E H'=>E 1=.sl (l.map bC)/\E 2=int k/\E 3=.rp (aY n) 0/\E 7=.op i 0 0/\H' i=some (kN t)/\∃U,E 8=.os U/\U≠i/\H' U=some (lE (es6++opt (!inR t.start 0 t.close||decide (t.close>4096)) 15))) ?_ fun K hK=>aB (fun Z=>?_) (fun Z=>?_)
 rotate_left
 . simp only[go_sem,h1,J,F,I,O]
   refine aZ Y ⟨rfl,rfl⟩ (by simp only[go_sem]) (by simp only[Xaa,Xad,List.length_nil];omega) (fun U X=>?_);simp only[go_sem];refine hK _ _ ⟨by simp only[go_sem,h1],by simp only[go_sem,J],by simp only[go_sem,F],by simp only[go_sem,I],dF hi V X,U,by simp only[go_sem],(aP hi X).symm,?_⟩;rw[iX (show(!inR t.start 0 t.close||decide (t.close>4096))=true from Z)];exact gW (l':=[15]) rfl
 . simp only[go_sem]
   refine hK _ _ ⟨by simp only[go_sem,h1],by simp only[go_sem,J],by simp only[go_sem,F],by simp only[go_sem,I],hi,j,by simp only[go_sem,O],V,?_⟩;rw[iW (show(!inR t.start 0 t.close||decide (t.close>4096))=false from Z),Xai,Y]
 clear Y h1 J F I O;rintro ρ H ⟨h1,J,F,I,hi,j,O,V,Y⟩;generalize ah:es6++opt (!inR t.start 0 t.close||decide (t.close>4096)) (15:Int)=es7 at Y;have aw:es7.length<=es6.length+1:=by rw[<-ah,Xae];have:=cL (!inR t.start 0 t.close||decide (t.close>4096)) (15:Int);omega
 simp only[go_sem,h1,J,F,I,O,hi];refine PC.use (oY _ _ _) ?_;simp only[go_sem,h1,J,F,I,O,hi];refine⟨_,fun _=>(oY _ _ _).q rfl,?_⟩;simp only[go_sem,h1,J,F,I,O,hi];refine bK (fun E H'=>E 1=.sl (l.map bC)/\E 2=int k/\E 3=.rp (aY n) 0/\E 7=.op i 0 0/\H' i=some (kN t)/\∃U,E 8=.os U/\U≠i/\H' U=some (lE (es7++opt (!inR t.drive 1 4096|| !inR t.rest 0 4096) 16))) ?_ fun K hK=>aB (fun Z=>?_) (fun Z=>?_)
 rotate_left
 . simp only[go_sem,h1,J,F,I,O]
   refine aZ Y ⟨rfl,rfl⟩ (by simp only[go_sem]) (by simp only[Xaa,Xad,List.length_nil];omega) (fun U X=>?_);simp only[go_sem];refine hK _ _ ⟨by simp only[go_sem,h1],by simp only[go_sem,J],by simp only[go_sem,F],by simp only[go_sem,I],dF hi V X,U,by simp only[go_sem],(aP hi X).symm,?_⟩;rw[iX (show(!inR t.drive 1 4096|| !inR t.rest 0 4096)=true from Z)];exact gW (l':=[16]) rfl
 . simp only[go_sem]
   refine hK _ _ ⟨by simp only[go_sem,h1],by simp only[go_sem,J],by simp only[go_sem,F],by simp only[go_sem,I],hi,j,by simp only[go_sem,O],V,?_⟩;rw[iW (show(!inR t.drive 1 4096|| !inR t.rest 0 4096)=false from Z),Xai,Y]
 clear Y h1 J F I O;rintro ρ H ⟨h1,J,F,I,hi,j,O,V,Y⟩;generalize ab:es7++opt (!inR t.drive 1 4096|| !inR t.rest 0 4096) (16:Int)=es8 at Y;have an:es8.length<=es7.length+1:=by rw[<-ab,Xae];have:=cL (!inR t.drive 1 4096|| !inR t.rest 0 4096) (16:Int);omega
 simp only[go_sem,h1,J,F,I,O,hi];refine PC.use (oY _ _ _) ?_;simp only[go_sem,h1,J,F,I,O,hi];refine⟨_,fun _=>(oY _ _ _).q rfl,?_⟩;simp only[go_sem,h1,J,F,I,O,hi];refine⟨_,fun _=>(oY _ _ _).q rfl,?_⟩;simp only[go_sem,h1,J,F,I,O,hi];refine⟨_,fun _=>(oY _ _ _).q rfl,?_⟩;simp only[go_sem,h1,J,F,I,O,hi];refine bK (fun E H'=>E 1=.sl (l.map bC)/\E 2=int k/\E 3=.rp (aY n) 0/\E 7=.op i 0 0/\H' i=some (kN t)/\∃U,E 8=.os U/\U≠i/\H' U=some (lE (es8++opt (!inR t.profile 0 7|| !inR t.fixed 0 100000|| !inR t.perMile 0 100|| !inR t.perTick 0 100) 2))) ?_ fun K hK=>aB (fun Z=>?_) (fun Z=>?_)
 rotate_left
 . simp only[go_sem,h1,J,F,I,O]
   refine aZ Y ⟨rfl,rfl⟩ (by simp only[go_sem]) (by simp only[Xaa,Xad,List.length_nil];omega) (fun U X=>?_);simp only[go_sem];refine hK _ _ ⟨by simp only[go_sem,h1],by simp only[go_sem,J],by simp only[go_sem,F],by simp only[go_sem,I],dF hi V X,U,by simp only[go_sem],(aP hi X).symm,?_⟩;rw[iX (show(!inR t.profile 0 7|| !inR t.fixed 0 100000|| !inR t.perMile 0 100|| !inR t.perTick 0 100)=true from Z)];exact gW (l':=[2]) rfl
 . simp only[go_sem]
   refine hK _ _ ⟨by simp only[go_sem,h1],by simp only[go_sem,J],by simp only[go_sem,F],by simp only[go_sem,I],hi,j,by simp only[go_sem,O],V,?_⟩;rw[iW (show(!inR t.profile 0 7|| !inR t.fixed 0 100000|| !inR t.perMile 0 100|| !inR t.perTick 0 100)=false from Z),Xai,Y]
 clear Y h1 J F I O;rintro ρ H ⟨h1,J,F,I,hi,j,O,V,Y⟩;generalize ai:es8++opt (!inR t.profile 0 7|| !inR t.fixed 0 100000|| !inR t.perMile 0 100|| !inR t.perTick 0 100) (2:Int)=es9 at Y;have ay:es9.length<=es8.length+1:=by rw[<-ai,Xae];have:=cL (!inR t.profile 0 7|| !inR t.fixed 0 100000|| !inR t.perMile 0 100|| !inR t.perTick 0 100) (2:Int);omega
 simp only[go_sem,h1,J,F,I,O,hi];have al:lM n l k t=es9:=by unfold lM;rw[ae,aj,ac,ag,ad,aa,af,ah,ab,ai]
 rw[al];exact .row _ _ _ Y (ConvE.refl _)
def iM(n:Network)(l:List VType)(k:Nat):List Fault:=(lM n l k (S9 l k)).map fun e=>⟨e,kB k⟩
def tR(n:Network)(l:List VType):List Fault:=opt (!inR l.length 1 6) ⟨4,ByteArray.empty⟩++(List.range l.length).flatMap (iM n l)
theorem xT(n:Network)(l:List VType)(k:Nat)(t:VType):(lM n l k t).length<=9:=by
 unfold lM;simp only[Xae,List.length_nil];have h:=fun(b:Bool) (x:Int)=>cL b x
 have h1:=h (!lV t.name) 5;have F:=h (dT l k t.name) 6;have J:=h (!inR t.count 0 10) 22;have V:=h (!inR t.src 0 (n.places.length-1)|| !inR t.dst 0 (n.places.length-1)) 11;have I:=h (!wQ t.cap (jI l)) 17;have E:=h (!inR t.skills 0 1073741823) 18;have O:=h (!inR t.start 0 t.close||decide (t.close>4096)) 15;have U:=h (!inR t.drive 1 4096|| !inR t.rest 0 4096) 16;have X:=h (!inR t.profile 0 7|| !inR t.fixed 0 100000|| !inR t.perMile 0 100|| !inR t.perTick 0 100) 2;omega
theorem C3{α E:Type}{f:α->E}{l:List α}{k:Nat}{x:α}(h:l[k]?=some x):(l.take (k+1)).map f=(l.take k).map f++[f x]:=by rw[bQ h,Xar];rfl
theorem ahU(n:Network)(l:List VType)(hl:l.length<=1048576)(hs:∀t∈l,t.name.size<=1048576/\t.cap.length<=1048576)(hp:n.places.length<=1048576):
   NC prog 51 [.agg (aY n),.sl (l.map bC)] (bS (tR n l)) .os:=by
 refine ncb (fun t=>t == 5) Tryz.func51 ?_;unfold Tryz.f51;simp only[gdS];simp only[go_sem];refine aL fun j hj=>?_
 simp only[go_sem];refine PC.use (oY _ _ _) ?_;simp only[go_sem];refine qA (fun J H'=>J 1=.sl (l.map bC)/\J 2=.rp (aY n) 0/\∃V,J 5=.os V/\H' V=some (bS [])) ⟨by simp only[go_sem],by simp only[go_sem],_,by simp only[go_sem],aA _ _ _⟩ ?_;rintro ρ H ⟨h1,E,j,O,I⟩;generalize Z:([]:List Fault)=es0 at I;have aj:es0.length<=0:=by rw[<-Z];exact Xah _
 refine bK (fun J H'=>J 1=.sl (l.map bC)/\J 2=.rp (aY n) 0/\∃V,J 5=.os V/\H' V=some (bS (es0++opt (!inR l.length 1 6) ⟨4,ByteArray.empty⟩))) ?_ fun K hK=>aB (fun hb=>?_) (fun hb=>?_)
 rotate_left
 . simp only[go_sem,h1,E,O]
   refine aZ I ⟨rfl,rfl⟩ (by simp only[go_sem]) (by simp only[Xaa,Xad,List.length_nil];omega) (fun V ag=>?_);simp only[go_sem];refine hK _ _ ⟨by simp only[go_sem,h1],by simp only[go_sem,E],V,by simp only[go_sem],?_⟩;rw[iX (show(!inR l.length 1 6)=true from hb)];exact fL (l':=[⟨4,ByteArray.empty⟩]) rfl
 . simp only[go_sem]
   refine hK _ _ ⟨by simp only[go_sem,h1],by simp only[go_sem,E],j,by simp only[go_sem,O],?_⟩;rw[iW (show(!inR l.length 1 6)=false from hb),Xai,I]
 clear I h1 E O;rintro ρ H ⟨h1,E,j,O,I⟩;generalize aa:es0++opt (!inR l.length 1 6) (⟨4,ByteArray.empty⟩:Fault)=es1 at I;have ak:es1.length<=es0.length+1:=by rw[<-aa,Xae];have:=cL (!inR l.length 1 6) (⟨4,ByteArray.empty⟩:Fault);omega
 simp only[go_sem,h1,E];refine⟨fun ρ H=>∃k:Nat,k<=l.length/\ρ 1=.sl (l.map bC)/\ρ 2=.rp (aY n) 0/\ρ 6=int k/\∃j,ρ 5=.os j/\H j=some (bS (es1++(List.range k).flatMap (iM n l))),fun ρ _=>l.length-aV (ρ 6),⟨0,Xab _,by simp only[go_sem,h1],by simp only[go_sem,E],by simp only[go_sem];rfl,j,by simp only[go_sem,O],by simpa using I⟩,?_⟩;clear I h1 E O hj;rintro ρ H ⟨k,hk,h1,E,Y,j,O,I⟩;generalize ab:es1++(List.range k).flatMap (iM n l)=es at I;have ai:es.length<=9*k+1:=by
   have:=fM (f:=iM n l) (c:=9) (fun x=>by unfold iM;rw[Xaa];exact xT _ _ _ _) (List.range k);rw[<-ab,Xae];rw[Xaz]at this;omega
 simp only[go_sem,h1,E,Y,O];refine aB (fun X=>?_) (fun ac=>?_)
 . have X:=aQ X
   have ae:k<=4611686018427387904:=by omega
   have af:es1++(List.range (k+1)).flatMap (iM n l)=es++iM n l k:=by rw[iK,<-Xaw,ab]
   simp only[go_sem,h1,E,Y];refine PC.use (Yx n l k X hl hs hp) ?_;simp only[go_sem];have ah:=xT n l k (S9 l k);have ad:iM n l k=(lM n l k (S9 l k)).map fun e=>⟨e,kB k⟩:=rfl
   generalize lM n l k (S9 l k)=er at ah ad;refine⟨fun ρ H=>∃m:Nat,m<=er.length/\ρ 1=.sl (l.map bC)/\ρ 2=.rp (aY n) 0/\ρ 6=int k/\ρ 7=.sl (er.map bW)/\ρ 8=int m/\∃j,ρ 5=.os j/\H j=some (bS (es++(er.take m).map fun e=>⟨e,kB k⟩)),fun ρ _=>er.length-aV (ρ 8),⟨0,Xab _,by simp only[go_sem,h1],by simp only[go_sem,E],by simp only[go_sem,Y],by simp only[go_sem],by simp only[go_sem];rfl,j,by simp only[go_sem,O],by simpa using I⟩,?_⟩;clear I h1 E O Y;rintro ρ H ⟨m,hm,h1,E,Y,h7,h8,j,O,I⟩;simp only[go_sem,h1,E,Y,O,h7,h8];refine aB (fun F=>?_) (fun U=>?_)
   . have F:=aQ F
     obtain⟨e,he⟩:=aN F;have b2:=inB F;simp only[go_sem];refine FD (by kernel_rfl) ?_;simp only[go_sem,h1,E,Y,O,h7,h8,b2,aC he];refine⟨_,(sP _ (by omega)).q rfl,?_⟩;simp only[go_sem];refine aZ I ⟨rfl,rfl⟩ (by simp only[go_sem]) (by simp only[Xaa,Xae,Xao,Xad,List.length_nil];omega) (fun V ag=>?_);simp only[go_sem,h1,E,Y,h7,h8,aT (show m<=4611686018427387904 by omega)];refine⟨⟨m+1,F,rfl,V,rfl,?_⟩,by simp only[aE];omega⟩;rw[C3 he,<-Xaw];exact fL (l':=[⟨e,kB k⟩]) rfl
   . have U:=aR hm U
     subst U;simp only[go_sem,h1,E,Y,O,aT ae];refine⟨⟨k+1,X,rfl,j,rfl,?_⟩,by simp only[aE];omega⟩;rw[af,I,ad,Xag]
 . have ac:=aR hk ac
   subst ac;simp only[go_sem,O];exact⟨_,rfl,by rw[I,<-ab,<-aa,<-Z];rfl⟩
def B4(l:List Order)(k:Nat)(s:ByteArray):Bool:=(l.take k).any fun t=>t.name.toList == s.toList
def iZ(P:Nat)(d T:Int)(l:List Order)(k:Nat)(o:Order):List Int:=
 []++opt (!lV o.name) 5++opt (B4 l k o.name) 6++opt (!fQ o.load d) 17++opt (!inR o.pick.place (-1) ((P:Int)-1)|| !inR o.drop.place (-1) ((P:Int)-1)) 11++opt (o.pick.place == -1&&o.drop.place == -1) 19++opt (fH o.pick != 0||fH o.drop != 0) 14++opt (!inR o.skills 0 1073741823) 18++opt (!inR o.penalty (-1) 1000000|| !inR o.split 1 4||decide (o.split>1)&&(o.pick.place != -1&&o.drop.place != -1)||decide (o.last< -1)||decide (o.last>=T)||decide (o.now< -1)||decide (o.now>=T)) 2
theorem YT(P:Nat)(d T:Int)(l:List Order)(k:Nat)(o:Order)(ho:l[k]?=some o)(hP:P<=1048576)(hl:l.length<=1048576)(hs:∀t∈l,t.name.size<=1048576/\t.load.length<=1048576):
   PC prog 89 [int P,int d,int T,.sl (l.map bI),int k] (.sl ((iZ P d T l k o).map bW)):=by
 refine pcb (fun t=>t == 11) Tryz.func89 ?_;unfold Tryz.f89;simp only[gdS];simp only[go_sem];have hk:k<l.length:=by
   rcases Xbk k l.length with h|h
   . exact h
   . rw[List.getElem?_eq_none h]at ho;simp at ho
 have b1:=inB hk;have am:=hs o (kD ho);refine aL fun j hj=>?_
 simp only[go_sem,b1,aC ho];refine aL fun i hi=>?_
 simp only[go_sem];refine aH (aA _ _ _) (by simp[sM]) ?_;simp only[go_sem];refine PC.use (Q1 _ am.1) ?_;simp only[go_sem];have V:j≠i:=aP (aA _ _ _) hi;refine qA (fun E H'=>E 0=int P/\E 1=int d/\E 2=int T/\E 3=.sl (l.map bI)/\E 4=int k/\E 12=.op i 0 0/\H' i=some (mI o)/\∃X,E 11=.os X/\X≠i/\H' X=some (lE []))
   ⟨by simp only[go_sem],by simp only[go_sem],by simp only[go_sem],by simp only[go_sem],by simp only[go_sem],by simp only[go_sem],aA _ _ _,j,by simp only[go_sem],V,by rw[aF _ _ _ _ V,aF _ _ _ _ V,aA];rfl⟩ ?_
 clear hi hj V;rintro ρ H ⟨h0,h1,O,J,U,F,hi,j,I,V,Z⟩;generalize ag:([]:List Int)=es0 at Z;have au:es0.length<=0:=by rw[<-ag];exact Xah _
 refine bK (fun E H'=>E 0=int P/\E 1=int d/\E 2=int T/\E 3=.sl (l.map bI)/\E 4=int k/\E 12=.op i 0 0/\H' i=some (mI o)/\∃X,E 11=.os X/\X≠i/\H' X=some (lE (es0++opt (!lV o.name) 5))) ?_ fun K hK=>aB (fun hb=>?_) (fun hb=>?_)
 rotate_left
 . simp only[go_sem,h0,h1,O,J,U,F,I]
   refine aZ Z ⟨rfl,rfl⟩ (by simp only[go_sem]) (by simp only[Xaa,Xad,List.length_nil];omega) (fun X Y=>?_);simp only[go_sem];refine hK _ _ ⟨by simp only[go_sem,h0],by simp only[go_sem,h1],by simp only[go_sem,O],by simp only[go_sem,J],by simp only[go_sem,U],by simp only[go_sem,F],dF hi V Y,X,by simp only[go_sem],(aP hi Y).symm,?_⟩;rw[iX (show(!lV o.name)=true from hb)];exact gW (l':=[5]) rfl
 . simp only[go_sem]
   refine hK _ _ ⟨by simp only[go_sem,h0],by simp only[go_sem,h1],by simp only[go_sem,O],by simp only[go_sem,J],by simp only[go_sem,U],by simp only[go_sem,F],hi,j,by simp only[go_sem,I],V,?_⟩;rw[iW (show(!lV o.name)=false from hb),Xai,Z]
 clear Z h0 h1 O J U F I;rintro ρ H ⟨h0,h1,O,J,U,F,hi,j,I,V,Z⟩;generalize ak:es0++opt (!lV o.name) (5:Int)=es1 at Z;have aw:es1.length<=es0.length+1:=by rw[<-ak,Xae];have:=cL (!lV o.name) (5:Int);omega
 simp only[go_sem,h0,h1,O,J,U,F,I,hi];refine FJ (fun E H'=>E 0=int P/\E 1=int d/\E 2=int T/\E 3=.sl (l.map bI)/\E 4=int k/\E 12=.op i 0 0/\H' i=some (mI o)/\∃X,E 11=.os X/\X≠i/\H' X=some (lE (es1++opt (B4 l k o.name) 6))) ?_ fun Q hQ _=>?_
 rotate_left
 . refine ⟨fun E H' => ∃ m : Nat, m <= k /\ E 0 = int P /\ E 1 = int d /\ E 2 = int T /\ E 3 = .sl (l.map bI) /\ E 4 = int k /\ E 12 = .op i 0 0 /\ E 11 = .os j /\ E 13 = int m /\ H' = H /\ ∀ t ∈ l.take m, (t.name.toList == o.name.toList) = false, fun ρ _ => k - aV (ρ 13),
     ⟨0,Xab _,by simp only[go_sem,h0],by simp only[go_sem,h1],by simp only[go_sem,O],by simp only[go_sem,J],by simp only[go_sem,U],by simp only[go_sem,F],by simp only[go_sem,I],by simp only[go_sem];rfl,rfl,by simp⟩,?_⟩
   clear h0 h1 O J U F I;rintro ρ H' ⟨m,hm,h0,h1,O,J,U,F,I,aa,rfl,hn⟩;simp only[go_sem,h0,h1,O,J,U,F,I,aa];refine aB (fun ab=>?_) (fun al=>?_)
   . have ab:=aQ ab
     obtain⟨t,ht⟩:=aN (show m<l.length by omega);have b2:=inB (show m<l.length by omega);simp only[go_sem];refine cN (by rfl) (by kernel_rfl) ?_;simp only[go_sem,h0,h1,O,J,U,F,I,aa,hi,b2,aC ht];refine aB (fun hb=>?_) (fun hb=>?_)
     . simp only[go_sem,h0,h1,O,J,U,F,I,aa]
       refine aZ Z ⟨rfl,rfl⟩ (by simp only[go_sem]) (by simp only[Xaa,Xad,List.length_nil];omega) (fun X Y=>?_);simp only[go_sem];refine hQ _ _ ⟨by simp only[go_sem,h0],by simp only[go_sem,h1],by simp only[go_sem,O],by simp only[go_sem,J],by simp only[go_sem,U],by simp only[go_sem,F],dF hi V Y,X,by simp only[go_sem],(aP hi Y).symm,?_⟩;rw[iX (show B4 l k o.name=true from Xan.2 ⟨t,Xac (i:=m) (by rw[List.getElem?_take];simp[ab,ht]),hb⟩)];exact gW (l':=[6]) rfl
     . simp only[go_sem,h0,h1,O,J,U,F,I,aa,aT (show m<=4611686018427387904 by omega)]
       exact⟨⟨m+1,ab,rfl,tV ht hn hb⟩,by simp only[aE];omega⟩
   . have al:=aR hm al
     subst al;simp only[go_sem];refine hQ _ _ ⟨by simp only[go_sem,h0],by simp only[go_sem,h1],by simp only[go_sem,O],by simp only[go_sem,J],by simp only[go_sem,U],by simp only[go_sem,F],hi,j,by simp only[go_sem,I],V,?_⟩;rw[iW (show B4 l m o.name=false from Xay.2 fun t ht=>by simp[hn t ht]),Xai,Z]
 clear Z h0 h1 O J U F I;rintro ρ H ⟨h0,h1,O,J,U,F,hi,j,I,V,Z⟩;generalize ae:es1++opt (B4 l k o.name) (6:Int)=es2 at Z;have ay:es2.length<=es1.length+1:=by rw[<-ae,Xae];have:=cL (B4 l k o.name) (6:Int);omega
 simp only[go_sem,h0,h1,O,J,U,F,I,hi];refine PC.use (Ll _ _ am.2) ?_;simp only[go_sem,h0,h1,O,J,U,F,I,hi];refine bK (fun E H'=>E 0=int P/\E 1=int d/\E 2=int T/\E 3=.sl (l.map bI)/\E 4=int k/\E 12=.op i 0 0/\H' i=some (mI o)/\∃X,E 11=.os X/\X≠i/\H' X=some (lE (es2++opt (!fQ o.load d) 17))) ?_ fun K hK=>aB (fun hb=>?_) (fun hb=>?_)
 rotate_left
 . simp only[go_sem,h0,h1,O,J,U,F,I]
   refine aZ Z ⟨rfl,rfl⟩ (by simp only[go_sem]) (by simp only[Xaa,Xad,List.length_nil];omega) (fun X Y=>?_);simp only[go_sem];refine hK _ _ ⟨by simp only[go_sem,h0],by simp only[go_sem,h1],by simp only[go_sem,O],by simp only[go_sem,J],by simp only[go_sem,U],by simp only[go_sem,F],dF hi V Y,X,by simp only[go_sem],(aP hi Y).symm,?_⟩;rw[iX (show(!fQ o.load d)=true from hb)];exact gW (l':=[17]) rfl
 . simp only[go_sem]
   refine hK _ _ ⟨by simp only[go_sem,h0],by simp only[go_sem,h1],by simp only[go_sem,O],by simp only[go_sem,J],by simp only[go_sem,U],by simp only[go_sem,F],hi,j,by simp only[go_sem,I],V,?_⟩;rw[iW (show(!fQ o.load d)=false from hb),Xai,Z]
 clear Z h0 h1 O J U F I;rintro ρ H ⟨h0,h1,O,J,U,F,hi,j,I,V,Z⟩;generalize ai:es2++opt (!fQ o.load d) (17:Int)=es3 at Z;have ar:es3.length<=es2.length+1:=by rw[<-ai,Xae];have:=cL (!fQ o.load d) (17:Int);omega
 simp only[go_sem,h0,h1,O,J,U,F,I,hi,oX (show P<=4611686018427387904 by omega)];refine PC.use (Gr _ _ _) ?_;simp only[go_sem,h0,h1,O,J,U,F,I,hi,oX (show P<=4611686018427387904 by omega)];refine⟨_,fun _=>(Gr _ _ _).q rfl,?_⟩;simp only[go_sem,h0,h1,O,J,U,F,I,hi,oX (show P<=4611686018427387904 by omega)];refine bK (fun E H'=>E 0=int P/\E 1=int d/\E 2=int T/\E 3=.sl (l.map bI)/\E 4=int k/\E 12=.op i 0 0/\H' i=some (mI o)/\∃X,E 11=.os X/\X≠i/\H' X=some (lE (es3++opt (!inR o.pick.place (-1) ((P:Int)-1)|| !inR o.drop.place (-1) ((P:Int)-1)) 11))) ?_ fun K hK=>aB (fun hb=>?_) (fun hb=>?_)
 rotate_left
 . simp only[go_sem,h0,h1,O,J,U,F,I]
   refine aZ Z ⟨rfl,rfl⟩ (by simp only[go_sem]) (by simp only[Xaa,Xad,List.length_nil];omega) (fun X Y=>?_);simp only[go_sem];refine hK _ _ ⟨by simp only[go_sem,h0],by simp only[go_sem,h1],by simp only[go_sem,O],by simp only[go_sem,J],by simp only[go_sem,U],by simp only[go_sem,F],dF hi V Y,X,by simp only[go_sem],(aP hi Y).symm,?_⟩;rw[iX (show(!inR o.pick.place (-1) ((P:Int)-1)|| !inR o.drop.place (-1) ((P:Int)-1))=true from hb)];exact gW (l':=[11]) rfl
 . simp only[go_sem]
   refine hK _ _ ⟨by simp only[go_sem,h0],by simp only[go_sem,h1],by simp only[go_sem,O],by simp only[go_sem,J],by simp only[go_sem,U],by simp only[go_sem,F],hi,j,by simp only[go_sem,I],V,?_⟩;rw[iW (show(!inR o.pick.place (-1) ((P:Int)-1)|| !inR o.drop.place (-1) ((P:Int)-1))=false from hb),Xai,Z]
 clear Z h0 h1 O J U F I;rintro ρ H ⟨h0,h1,O,J,U,F,hi,j,I,V,Z⟩;generalize af:es3++opt (!inR o.pick.place (-1) ((P:Int)-1)|| !inR o.drop.place (-1) ((P:Int)-1)) (11:Int)=es4 at Z;have av:es4.length<=es3.length+1:=by rw[<-af,Xae];have:=cL (!inR o.pick.place (-1) ((P:Int)-1)|| !inR o.drop.place (-1) ((P:Int)-1)) (11:Int);omega
 simp only[go_sem,h0,h1,O,J,U,F,I,hi];refine bK (fun E H'=>E 0=int P/\E 1=int d/\E 2=int T/\E 3=.sl (l.map bI)/\E 4=int k/\E 12=.op i 0 0/\H' i=some (mI o)/\∃X,E 11=.os X/\X≠i/\H' X=some (lE (es4++opt (o.pick.place == -1&&o.drop.place == -1) 19))) ?_ fun K hK=>aB (fun hb=>?_) (fun hb=>?_)
 rotate_left
 . simp only[go_sem,h0,h1,O,J,U,F,I]
   refine aZ Z ⟨rfl,rfl⟩ (by simp only[go_sem]) (by simp only[Xaa,Xad,List.length_nil];omega) (fun X Y=>?_);simp only[go_sem];refine hK _ _ ⟨by simp only[go_sem,h0],by simp only[go_sem,h1],by simp only[go_sem,O],by simp only[go_sem,J],by simp only[go_sem,U],by simp only[go_sem,F],dF hi V Y,X,by simp only[go_sem],(aP hi Y).symm,?_⟩;rw[iX (show(o.pick.place == -1&&o.drop.place == -1)=true from hb)];exact gW (l':=[19]) rfl
 . simp only[go_sem]
   refine hK _ _ ⟨by simp only[go_sem,h0],by simp only[go_sem,h1],by simp only[go_sem,O],by simp only[go_sem,J],by simp only[go_sem,U],by simp only[go_sem,F],hi,j,by simp only[go_sem,I],V,?_⟩;rw[iW (show(o.pick.place == -1&&o.drop.place == -1)=false from hb),Xai,Z]
 clear Z h0 h1 O J U F I;rintro ρ H ⟨h0,h1,O,J,U,F,hi,j,I,V,Z⟩;generalize ac:es4++opt (o.pick.place == -1&&o.drop.place == -1) (19:Int)=es5 at Z;have ap:es5.length<=es4.length+1:=by rw[<-ac,Xae];have:=cL (o.pick.place == -1&&o.drop.place == -1) (19:Int);omega
 simp only[go_sem,h0,h1,O,J,U,F,I,hi];refine PC.use (P1 _) ?_;simp only[go_sem,h0,h1,O,J,U,F,I,hi];refine⟨_,fun _=>(P1 _).q rfl,?_⟩;simp only[go_sem,h0,h1,O,J,U,F,I,hi];refine bK (fun E H'=>E 0=int P/\E 1=int d/\E 2=int T/\E 3=.sl (l.map bI)/\E 4=int k/\E 12=.op i 0 0/\H' i=some (mI o)/\∃X,E 11=.os X/\X≠i/\H' X=some (lE (es5++opt (fH o.pick != 0||fH o.drop != 0) 14))) ?_ fun K hK=>aB (fun hb=>?_) (fun hb=>?_)
 rotate_left
 . simp only[go_sem,h0,h1,O,J,U,F,I]
   refine aZ Z ⟨rfl,rfl⟩ (by simp only[go_sem]) (by simp only[Xaa,Xad,List.length_nil];omega) (fun X Y=>?_);simp only[go_sem];refine hK _ _ ⟨by simp only[go_sem,h0],by simp only[go_sem,h1],by simp only[go_sem,O],by simp only[go_sem,J],by simp only[go_sem,U],by simp only[go_sem,F],dF hi V Y,X,by simp only[go_sem],(aP hi Y).symm,?_⟩;rw[iX (show(fH o.pick != 0||fH o.drop != 0)=true from hb)];exact gW (l':=[14]) rfl
 . simp only[go_sem]
   refine hK _ _ ⟨by simp only[go_sem,h0],by simp only[go_sem,h1],by simp only[go_sem,O],by simp only[go_sem,J],by simp only[go_sem,U],by simp only[go_sem,F],hi,j,by simp only[go_sem,I],V,?_⟩;rw[iW (show(fH o.pick != 0||fH o.drop != 0)=false from hb),Xai,Z]
 clear Z h0 h1 O J U F I;rintro ρ H ⟨h0,h1,O,J,U,F,hi,j,I,V,Z⟩;generalize ah:es5++opt (fH o.pick != 0||fH o.drop != 0) (14:Int)=es6 at Z;have aq:es6.length<=es5.length+1:=by rw[<-ah,Xae];have:=cL (fH o.pick != 0||fH o.drop != 0) (14:Int);omega
 simp only[go_sem,h0,h1,O,J,U,F,I,hi];refine PC.use (Gr _ _ _) ?_;simp only[go_sem,h0,h1,O,J,U,F,I,hi,oX (show P<=4611686018427387904 by omega)];refine bK (fun E H'=>E 0=int P/\E 1=int d/\E 2=int T/\E 3=.sl (l.map bI)/\E 4=int k/\E 12=.op i 0 0/\H' i=some (mI o)/\∃X,E 11=.os X/\X≠i/\H' X=some (lE (es6++opt (!inR o.skills 0 1073741823) 18))) ?_ fun K hK=>aB (fun hb=>?_) (fun hb=>?_)
 rotate_left
 . simp only[go_sem,h0,h1,O,J,U,F,I]
   refine aZ Z ⟨rfl,rfl⟩ (by simp only[go_sem]) (by simp only[Xaa,Xad,List.length_nil];omega) (fun X Y=>?_);simp only[go_sem];refine hK _ _ ⟨by simp only[go_sem,h0],by simp only[go_sem,h1],by simp only[go_sem,O],by simp only[go_sem,J],by simp only[go_sem,U],by simp only[go_sem,F],dF hi V Y,X,by simp only[go_sem],(aP hi Y).symm,?_⟩;rw[iX (show(!inR o.skills 0 1073741823)=true from hb)];exact gW (l':=[18]) rfl
 . simp only[go_sem]
   refine hK _ _ ⟨by simp only[go_sem,h0],by simp only[go_sem,h1],by simp only[go_sem,O],by simp only[go_sem,J],by simp only[go_sem,U],by simp only[go_sem,F],hi,j,by simp only[go_sem,I],V,?_⟩;rw[iW (show(!inR o.skills 0 1073741823)=false from hb),Xai,Z]
 clear Z h0 h1 O J U F I;rintro ρ H ⟨h0,h1,O,J,U,F,hi,j,I,V,Z⟩;generalize aj:es6++opt (!inR o.skills 0 1073741823) (18:Int)=es7 at Z;have ax:es7.length<=es6.length+1:=by rw[<-aj,Xae];have:=cL (!inR o.skills 0 1073741823) (18:Int);omega
 simp only[go_sem,h0,h1,O,J,U,F,I,hi];refine PC.use (Gr _ _ _) ?_;simp only[go_sem,h0,h1,O,J,U,F,I,hi,oX (show P<=4611686018427387904 by omega)];refine⟨_,fun _=>(Gr _ _ _).q rfl,?_⟩;simp only[go_sem,h0,h1,O,J,U,F,I,hi,oX (show P<=4611686018427387904 by omega)];refine bK (fun E H'=>E 0=int P/\E 1=int d/\E 2=int T/\E 3=.sl (l.map bI)/\E 4=int k/\E 12=.op i 0 0/\H' i=some (mI o)/\∃X,E 11=.os X/\X≠i/\H' X=some (lE (es7++opt (!inR o.penalty (-1) 1000000|| !inR o.split 1 4||decide (o.split>1)&&(o.pick.place != -1&&o.drop.place != -1)||decide (o.last< -1)||decide (o.last>=T)||decide (o.now< -1)||decide (o.now>=T)) 2))) ?_ fun K hK=>aB (fun hb=>?_) (fun hb=>?_)
 rotate_left
 . simp only[go_sem,h0,h1,O,J,U,F,I]
   refine aZ Z ⟨rfl,rfl⟩ (by simp only[go_sem]) (by simp only[Xaa,Xad,List.length_nil];omega) (fun X Y=>?_);simp only[go_sem];refine hK _ _ ⟨by simp only[go_sem,h0],by simp only[go_sem,h1],by simp only[go_sem,O],by simp only[go_sem,J],by simp only[go_sem,U],by simp only[go_sem,F],dF hi V Y,X,by simp only[go_sem],(aP hi Y).symm,?_⟩;rw[iX (show(!inR o.penalty (-1) 1000000|| !inR o.split 1 4||decide (o.split>1)&&(o.pick.place != -1&&o.drop.place != -1)||decide (o.last< -1)||decide (o.last>=T)||decide (o.now< -1)||decide (o.now>=T))=true from hb)];exact gW (l':=[2]) rfl
 . simp only[go_sem]
   refine hK _ _ ⟨by simp only[go_sem,h0],by simp only[go_sem,h1],by simp only[go_sem,O],by simp only[go_sem,J],by simp only[go_sem,U],by simp only[go_sem,F],hi,j,by simp only[go_sem,I],V,?_⟩;rw[iW (show(!inR o.penalty (-1) 1000000|| !inR o.split 1 4||decide (o.split>1)&&(o.pick.place != -1&&o.drop.place != -1)||decide (o.last< -1)||decide (o.last>=T)||decide (o.now< -1)||decide (o.now>=T))=false from hb),Xai,Z]
 clear Z h0 h1 O J U F I;rintro ρ H ⟨h0,h1,O,J,U,F,hi,j,I,V,Z⟩;generalize ad:es7++opt (!inR o.penalty (-1) 1000000|| !inR o.split 1 4||decide (o.split>1)&&(o.pick.place != -1&&o.drop.place != -1)||decide (o.last< -1)||decide (o.last>=T)||decide (o.now< -1)||decide (o.now>=T)) (2:Int)=es8 at Z;have ao:es8.length<=es7.length+1:=by rw[<-ad,Xae];have:=cL (!inR o.penalty (-1) 1000000|| !inR o.split 1 4||decide (o.split>1)&&(o.pick.place != -1&&o.drop.place != -1)||decide (o.last< -1)||decide (o.last>=T)||decide (o.now< -1)||decide (o.now>=T)) (2:Int);omega
 simp only[go_sem,h0,h1,O,J,U,F,I,hi];have an:iZ P d T l k o=es8:=by unfold iZ;rw[ag,ak,ae,ai,af,ac,ah,aj,ad]
 rw[an];exact .row _ _ _ Z (ConvE.refl _)
def lS(w:ByteArray)(f:Fault):Fault:=⟨f.err,match f.at_.toList == (⟨#[]⟩:ByteArray).toList with|true=>w|false=>w++⟨#[32]⟩++f.at_⟩
theorem Fp(w:ByteArray)(l:List Fault)(hw:w.size<=1048576)(hl:l.length<=5000000000000)(hs:∀f∈l,f.at_.size<=268435456):
   NC prog 49 [str w,.sl (l.map gV)] (bS (l.map (lS w))) .os:=by
 refine ncb (fun t=>t == 5) Tryz.func49 ?_;unfold Tryz.f49;simp only[gdS];simp only[go_sem];refine aL fun j hj=>?_
 simp only[go_sem];refine⟨fun ρ H=>∃k:Nat,k<=l.length/\ρ 0=str w/\ρ 1=.sl (l.map gV)/\ρ 6=int k/\∃j,ρ 5=.os j/\H j=some (bS ((l.take k).map (lS w))),fun ρ _=>l.length-aV (ρ 6),⟨0,Xab _,rfl,rfl,rfl,j,rfl,aA _ _ _⟩,?_⟩;clear hj;rintro ρ H ⟨k,hk,h0,h1,I,j,J,hH⟩;simp only[go_sem,h0,h1,I,J];refine aB (fun F=>?_) (fun O=>?_)
 . have F:=aQ F
   obtain⟨f,U⟩:=aN F;have X:=inB F;have ab:=hs f (kD U);simp only[go_sem,h0,h1,I,X,aC U];refine bK (fun E H'=>E 0=str w/\E 1=.sl (l.map gV)/\E 6=int k/\E 5=.os j/\E 7=str (lS w f).at_/\H'=H) ?_ fun K Z=>aB (fun V=>?_) (fun V=>?_)
   . clear h0 h1 I J
     rintro ρ H ⟨h0,h1,I,J,h7,rfl⟩;simp only[go_sem,h0,h1,I,J,h7,X,aC U];refine aZ hH ⟨rfl,rfl⟩ (by simp only[go_sem]) (by simp only[Xaa,Xao,Xad,List.length_nil];omega) (fun j' aa=>?_);simp only[go_sem,h0,h1,I,aT (show k<=4611686018427387904 by omega)];refine⟨⟨k+1,F,rfl,j',rfl,?_⟩,by simp only[aE];omega⟩;rw[C3 U];exact fL (l':=[lS w f]) rfl
   . simp only[go_sem,h0,h1,I,X,aC U]
     have ac:(#[32]:Array UInt8).size=1:=rfl;refine⟨by rw[zE];omega,by rw[zE];omega,Z _ _ ⟨by simp only[go_sem,h0],by simp only[go_sem,h1],by simp only[go_sem,I],by simp only[go_sem,J],?_,rfl⟩⟩;have Y:(f.at_.toList == (⟨#[]⟩:ByteArray).toList)=false:=by have:=V;revert this;cases(f.at_.toList == (⟨#[]⟩:ByteArray).toList) <;> simp
     simp only[go_sem,lS,Y]
   . simp only[go_sem]
     refine Z _ _ ⟨by simp only[go_sem,h0],by simp only[go_sem,h1],by simp only[go_sem,I],by simp only[go_sem,J],?_,rfl⟩;have Y:(f.at_.toList == (⟨#[]⟩:ByteArray).toList)=true:=by have:=V;revert this;cases(f.at_.toList == (⟨#[]⟩:ByteArray).toList) <;> simp
     simp only[go_sem,lS,Y]
 . have O:=aR hk O
   subst O;simp only[go_sem,J];exact⟨_,rfl,by rw[hH,Xag]⟩
def VU(l:List Order)(i:Nat):Order:=l.getD i ⟨ByteArray.empty,[],⟨0,0,0,0⟩,⟨0,0,0,0⟩,0,0,0,0,0,false⟩
theorem CZ{l:List Order}{k:Nat}{p:Order}(h:l[k]?=some p):VU l k=p:=by simp[VU,List.getD,h]
def fY(n:Network)(d T:Int)(l:List Order)(k:Nat):List Fault:=(iZ n.places.length d T l k (VU l k)).map fun e=>⟨e,kB k⟩
def pR(n:Network)(d T:Int)(l:List Order):List Fault:=opt (decide ((l.length:Int)>10)) ⟨4,ByteArray.empty⟩++(List.range l.length).flatMap (fY n d T l)
theorem vK(P:Nat)(d T:Int)(l:List Order)(k:Nat)(o:Order):(iZ P d T l k o).length<=9:=by
 unfold iZ;simp only[Xae,List.length_nil];have h:=fun(b:Bool) (x:Int)=>cL b x
 have h1:=h (!lV o.name) 5;have F:=h (B4 l k o.name) 6;have J:=h (!fQ o.load d) 17;have V:=h (!inR o.pick.place (-1) ((P:Int)-1)|| !inR o.drop.place (-1) ((P:Int)-1)) 11;have I:=h (o.pick.place == -1&&o.drop.place == -1) 19;have E:=h (fH o.pick != 0||fH o.drop != 0) 14;have O:=h (!inR o.skills 0 1073741823) 18;have U:=h (!inR o.penalty (-1) 1000000|| !inR o.split 1 4||decide (o.split>1)&&(o.pick.place != -1&&o.drop.place != -1)||decide (o.last< -1)||decide (o.last>=T)||decide (o.now< -1)||decide (o.now>=T)) 2;omega
theorem GL(n:Network)(d T:Int)(l:List Order)(hl:l.length<=1048576)(hs:∀t∈l,t.name.size<=1048576/\t.load.length<=1048576)(hp:n.places.length<=1048576):
   NC prog 52 [.agg (aY n),int d,int T,.sl (l.map bI)] (bS (pR n d T l)) .os:=by
 refine ncb (fun t=>t == 9) Tryz.func52 ?_;unfold Tryz.f52;simp only[gdS];simp only[go_sem];refine aL fun j hj=>?_
 simp only[go_sem];refine qA (fun E H'=>E 1=int d/\E 2=int T/\E 3=.sl (l.map bI)/\E 4=.rp (aY n) 0/\∃Z,E 9=.os Z/\H' Z=some (bS [])) ⟨by simp only[go_sem],by simp only[go_sem],by simp only[go_sem],by simp only[go_sem],_,by simp only[go_sem],aA _ _ _⟩ ?_;rintro ρ H ⟨h1,J,I,O,j,X,V⟩;generalize ab:([]:List Fault)=es0 at V;have an:es0.length<=0:=by rw[<-ab];exact Xah _
 refine bK (fun E H'=>E 1=int d/\E 2=int T/\E 3=.sl (l.map bI)/\E 4=.rp (aY n) 0/\∃Z,E 9=.os Z/\H' Z=some (bS (es0++opt (decide ((l.length:Int)>10)) ⟨4,ByteArray.empty⟩))) ?_ fun K hK=>aB (fun hb=>?_) (fun hb=>?_)
 rotate_left
 . simp only[go_sem,h1,J,I,O,X]
   refine aZ V ⟨rfl,rfl⟩ (by simp only[go_sem]) (by simp only[Xaa,Xad,List.length_nil];omega) (fun Z ak=>?_);simp only[go_sem];refine hK _ _ ⟨by simp only[go_sem,h1],by simp only[go_sem,J],by simp only[go_sem,I],by simp only[go_sem,O],Z,by simp only[go_sem],?_⟩;rw[iX (show(decide ((l.length:Int)>10))=true from hb)];exact fL (l':=[⟨4,ByteArray.empty⟩]) rfl
 . simp only[go_sem]
   refine hK _ _ ⟨by simp only[go_sem,h1],by simp only[go_sem,J],by simp only[go_sem,I],by simp only[go_sem,O],j,by simp only[go_sem,X],?_⟩;rw[iW (show(decide ((l.length:Int)>10))=false from hb),Xai,V]
 clear V h1 J I O X;rintro ρ H ⟨h1,J,I,O,j,X,V⟩;generalize ac:es0++opt (decide ((l.length:Int)>10)) (⟨4,ByteArray.empty⟩:Fault)=es1 at V;have ao:es1.length<=es0.length+1:=by rw[<-ac,Xae];have:=cL (decide ((l.length:Int)>10)) (⟨4,ByteArray.empty⟩:Fault);omega
 simp only[go_sem,h1,J,I,O];refine⟨fun ρ H=>∃k:Nat,k<=l.length/\ρ 1=int d/\ρ 2=int T/\ρ 3=.sl (l.map bI)/\ρ 4=.rp (aY n) 0/\ρ 10=int k/\∃j,ρ 9=.os j/\H j=some (bS (es1++(List.range k).flatMap (fY n d T l))),fun ρ _=>l.length-aV (ρ 10),⟨0,Xab _,by simp only[go_sem,h1],by simp only[go_sem,J],by simp only[go_sem,I],by simp only[go_sem,O],by simp only[go_sem];rfl,j,by simp only[go_sem,X],by simpa using V⟩,?_⟩;clear V h1 J I O X hj;rintro ρ H ⟨k,hk,h1,J,I,O,F,j,X,V⟩;generalize ad:es1++(List.range k).flatMap (fY n d T l)=es at V;have am:es.length<=9*k+1:=by
   have:=fM (f:=fY n d T l) (c:=9) (fun x=>by unfold fY;rw[Xaa];exact vK _ _ _ _ _ _) (List.range k);rw[<-ad,Xae];rw[Xaz]at this;omega
 simp only[go_sem,h1,J,I,O,F,X];refine aB (fun aa=>?_) (fun ag=>?_)
 . have aa:=aQ aa
   have ai:k<=4611686018427387904:=by omega
   have aj:es1++(List.range (k+1)).flatMap (fY n d T l)=es++fY n d T l k:=by rw[iK,<-Xaw,ad]
   simp only[go_sem,h1,J,I,O,F];obtain⟨o,ho⟩:=aN aa;rw[<-CZ ho]at ho;refine PC.use (YT n.places.length d T l k _ ho hp hl hs) ?_;simp only[go_sem];have al:=vK n.places.length d T l k (VU l k);have ah:fY n d T l k=(iZ n.places.length d T l k (VU l k)).map fun e=>⟨e,kB k⟩:=rfl
   generalize iZ n.places.length d T l k (VU l k)=er at al ah;refine⟨fun ρ H=>∃m:Nat,m<=er.length/\ρ 1=int d/\ρ 2=int T/\ρ 3=.sl (l.map bI)/\ρ 4=.rp (aY n) 0/\ρ 10=int k/\ρ 11=.sl (er.map bW)/\ρ 12=int m/\∃j,ρ 9=.os j/\H j=some (bS (es++(er.take m).map fun e=>⟨e,kB k⟩)),fun ρ _=>er.length-aV (ρ 12),⟨0,Xab _,by simp only[go_sem,h1],by simp only[go_sem,J],by simp only[go_sem,I],by simp only[go_sem,O],by simp only[go_sem,F],by simp only[go_sem],by simp only[go_sem];rfl,j,by simp only[go_sem,X],by simpa using V⟩,?_⟩;clear V h1 J I O X F;rintro ρ H ⟨m,hm,h1,J,I,O,F,af,ae,j,X,V⟩;simp only[go_sem,h1,J,I,O,F,X,af,ae];refine aB (fun U=>?_) (fun Y=>?_)
   . have U:=aQ U
     obtain⟨e,he⟩:=aN U;have b2:=inB U;simp only[go_sem];refine FD (by kernel_rfl) ?_;simp only[go_sem,h1,J,I,O,F,X,af,ae,b2,aC he];refine⟨_,(sP _ (by omega)).q rfl,?_⟩;simp only[go_sem];refine aZ V ⟨rfl,rfl⟩ (by simp only[go_sem]) (by simp only[Xaa,Xae,Xao,Xad,List.length_nil];omega) (fun Z ak=>?_);simp only[go_sem,h1,J,I,O,F,af,ae,aT (show m<=4611686018427387904 by omega)];refine⟨⟨m+1,U,rfl,Z,rfl,?_⟩,by simp only[aE];omega⟩;rw[C3 he,<-Xaw];exact fL (l':=[⟨e,kB k⟩]) rfl
   . have Y:=aR hm Y
     subst Y;simp only[go_sem,h1,J,I,O,F,X,aT ai];refine⟨⟨k+1,aa,rfl,j,rfl,?_⟩,by simp only[aE];omega⟩;rw[aj,V,ah,Xag]
 . have ag:=aR hk ag
   subst ag;simp only[go_sem,X];exact⟨_,rfl,by rw[V,<-ad,<-ac,<-ab];rfl⟩
end Go.Proofs.YtohmomanmikphaaGreatDoor
end
