import Derived.Test.YtohmomanmikphaaGreatDoorRows
import Derived.Carry
import Derived.OpenShut
import Derived.JoinedCond
import Derived.WalkKit
import Derived.ProofKit
import Derived.WideKeyArgs
import Derived.Test.YtohmomanmikphaaGreatDoorPf11
set_option linter.unusedSimpArgs false
set_option linter.unusedVariables false
set_option maxRecDepth 100000
section
namespace Go.Proofs.YtohmomanmikphaaGreatDoor
open Go.Proofs.Tryz(prog)
open Go.Aw Go.Aw.D Go.Proofs Ty
def pAt(l:List Pair)(i:Nat):Pair:=l.getD i ⟨0,0⟩
theorem Jh{l:List Pair}{k:Nat}{p:Pair}(h:l[k]?=some p):pAt l k=p:=by simp[pAt,List.getD,h]
def wY(w:ByteArray)(k:Nat):ByteArray:=w++⟨#[32]⟩++iD k
def AT(N:Int)(p:Pair):Bool:=decide (p.a<0)||decide (p.a>=N)||decide (p.b<0)||decide (p.b>=N)||p.a == p.b
def wE(b:Bool)(p q:Pair):Bool:=(q.a == p.a&&q.b == p.b)||(b&&q.a == p.b&&q.b == p.a)
def fM(N:Int)(l:List Pair)(w:ByteArray)(b:Bool)(k:Nat):List Fault:=match AT N (pAt l k)with
 | true=>[⟨2,wY w k⟩]
 | false=>opt ((l.take k).any (wE b (pAt l k))) ⟨6,wY w k⟩
theorem vR(N:Int)(l:List Pair)(w:ByteArray)(b:Bool)(k:Nat):(fM N l w b k).length<=1:=by
 unfold fM;split
 . simp
 . exact bV _ _
def rJ(N:Int)(l:List Pair)(w:ByteArray)(b:Bool):List Fault:=opt (decide ((l.length:Int)>16)) ⟨4,w⟩++(List.range l.length).flatMap (fM N l w b)
theorem J4(N:Int)(l:List Pair)(w:ByteArray)(b:Bool)(hl:l.length<=1048576)(hw:w.size<=1048576):
   NC prog 90 [int N,.sl (l.map bZ),str w,boo b] (bO (rJ N l w b)) .os:=by
 refine ncb (fun t=>t == 9) Tryz.func90 ?_;unfold Tryz.f90;simp only[gdS];simp only[go_sem];refine aM fun j hj=>?_
 simp only[go_sem];refine nJ (fun u H'=>u 0=int N/\u 1=.sl (l.map bZ)/\u 2=str w/\u 3=boo b/\∃j',u 9=.os j'/\H' j'=some (bO [])) ⟨by simp only[go_sem],by simp only[go_sem],by simp only[go_sem],by simp only[go_sem],_,by simp only[go_sem],aA _ _ _⟩ ?_;rintro ρ H ⟨h0,h1,I,F,j,J,M⟩;generalize ac:([]:List Fault)=es0 at M;have ao:es0.length<=0:=by rw[<-ac];exact Xaf _
 refine bM (fun u H'=>u 0=int N/\u 1=.sl (l.map bZ)/\u 2=str w/\u 3=boo b/\∃j',u 9=.os j'/\H' j'=some (bO (es0++opt (decide ((l.length:Int)>16)) ⟨4,w⟩))) ?_ fun K hK=>aB (fun Z=>?_) (fun Z=>?_)
 rotate_left
 . simp only[go_sem,h0,h1,I,F,J]
   refine bE M ⟨rfl,rfl⟩ (by simp only[go_sem]) (by simp only[Xaa,Xad,List.length_nil];omega) (fun j' ai=>?_);simp only[go_sem];refine hK _ _ ⟨by simp only[go_sem,h0],by simp only[go_sem,h1],by simp only[go_sem,I],by simp only[go_sem,F],j',by simp only[go_sem],?_⟩;rw[gK (show(decide ((l.length:Int)>16))=true from Z)];exact dZ (l':=[⟨4,w⟩]) rfl
 . simp only[go_sem]
   refine hK _ _ ⟨by simp only[go_sem,h0],by simp only[go_sem,h1],by simp only[go_sem,I],by simp only[go_sem,F],j,by simp only[go_sem,J],?_⟩;rw[gL (show(decide ((l.length:Int)>16))=false from Z),Xah,M]
 clear M h0 h1 I F J;rintro ρ H ⟨h0,h1,I,F,j,J,M⟩;generalize ab:es0++opt (decide ((l.length:Int)>16)) (⟨4,w⟩:Fault)=es1 at M;have aq:es1.length<=es0.length+1:=by rw[<-ab,Xab];have:=bV (decide ((l.length:Int)>16)) (⟨4,w⟩:Fault);omega
 simp only[go_sem,h0,h1,I,F,J];refine⟨fun ρ H=>∃k:Nat,k<=l.length/\ρ 0=int N/\ρ 1=.sl (l.map bZ)/\ρ 2=str w/\ρ 3=boo b/\ρ 10=int k/\∃j,ρ 9=.os j/\H j=some (bO (es1++(List.range k).flatMap (fM N l w b))),fun ρ _=>l.length-aV (ρ 10),
   ⟨0,Xac _,by simp only[go_sem,h0],by simp only[go_sem,h1],by simp only[go_sem,I],by simp only[go_sem,F],by simp only[go_sem];rfl,j,by simp only[go_sem,J],by simpa using M⟩,?_⟩
 clear M h0 h1 I F J hj;rintro ρ H ⟨k,hk,h0,h1,I,F,E,j,J,M⟩;generalize ae:es1++(List.range k).flatMap (fM N l w b)=es at M;have ap:es.length<=k+1:=by
   have:=eA (vR N l w b) (List.range k);rw[<-ae,Xab];rw[Xas]at this;omega
 simp only[go_sem,h0,h1,I,F,J,E];refine aB (fun O=>?_) (fun af=>?_)
 . have O:=aZ O
   have an:k<=4611686018427387904:=by omega
   obtain⟨p,hp⟩:=aN O;have b1:=inB O;have au:=lQ k;have ar:(#[32]:Array UInt8).size=1:=rfl;have ag:es1++(List.range (k+1)).flatMap (fM N l w b)=es++fM N l w b k:=by rw[gD,<-Xai,ae]
   simp only[go_sem,h0,h1,I,F,J,E,b1,aE hp];refine⟨by omega,by omega,by rw[uI];omega,?_⟩;refine PC.use (YD _ (by omega)) ?_;simp only[go_sem,h0,h1,I,F,J,E];refine⟨by rw[uI];omega,?_⟩;refine aB (fun Z=>?_) (fun Z=>?_)
   . simp only[go_sem,h0,h1,I,F,J,E]
     refine bE M ⟨rfl,rfl⟩ (by simp only[go_sem]) (by simp only[Xaa,Xad,List.length_nil];omega) (fun j' ai=>?_);simp only[go_sem,h0,h1,I,F,E,aP an];refine⟨⟨k+1,O,rfl,j',rfl,?_⟩,by simp only[aF];omega⟩;have hn:AT N (pAt l k)=true:=by rw[Jh hp];exact Z
     rw[ag,fM,hn];exact dZ (l':=[⟨2,wY w k⟩]) rfl
   . simp only[go_sem,h0,h1,I,F,J,E]
     have hn:AT N (pAt l k)=false:=by rw[Jh hp];exact Z
     refine⟨fun ρ H'=>∃m:Nat,m<=k/\ρ 0=int N/\ρ 1=.sl (l.map bZ)/\ρ 2=str w/\ρ 3=boo b/\ρ 9=.os j/\ρ 10=int k/\ρ 11=int p.a/\ρ 12=int p.b/\ρ 13=str (wY w k)/\ρ 14=boo ((l.take m).any (wE b p))/\ρ 15=int m/\H'=H,fun ρ _=>k-aV (ρ 15),
       ⟨0,Xac _,by simp only[go_sem,h0],by simp only[go_sem,h1],by simp only[go_sem,I],by simp only[go_sem,F],by simp only[go_sem,J],by simp only[go_sem,E],by simp only[go_sem],by simp only[go_sem],by simp only[go_sem];rfl,by simp only[go_sem];rfl,by simp only[go_sem];rfl,rfl⟩,?_⟩
     clear h0 h1 I F J E;rintro ρ H' ⟨m,hm,h0,h1,I,F,J,E,am,al,ah,ad,ak,rfl⟩;simp only[go_sem,h0,h1,I,F,J,E,am,al,ah,ad,ak];refine aB (fun T=>?_) (fun aa=>?_)
     . have T:=aZ T
       obtain⟨q,hq⟩:=aN (show m<l.length by omega);have b2:=inB (show m<l.length by omega);simp only[go_sem,h0,h1,I,F,J,E,am,al,ah,ad,ak,b2,aE hq,aP (show m<=4611686018427387904 by omega)];refine⟨fun _=>by omega,fun _=>by omega,fun _=>by omega,fun _=>by omega,⟨m+1,T,?_,rfl⟩,by simp only[aF];omega⟩;rw[Ek hq];simp only[wE,Bool.or_assoc]
     . have aa:=bC hm aa
       subst aa;simp only[go_sem,ad];have aj:(l.take m).any (wE b (pAt l m))=(l.take m).any (wE b p):=by rw[Jh hp]
       refine kG (fun u H'=>u 0=int N/\u 1=.sl (l.map bZ)/\u 2=str w/\u 3=boo b/\u 10=int m/\∃j,u 9=.os j/\H' j=some (bO (es1++(List.range (m+1)).flatMap (fM N l w b)))) ?_ fun K hK _ _=>aB (fun Z=>?_) (fun Z=>?_)
       . clear M h0 h1 I F J E
         rintro ρ H ⟨h0,h1,I,F,E,j,J,M⟩;simp only[go_sem,h0,h1,I,F,J,E,aP an];exact⟨⟨m+1,O,rfl,j,rfl,M⟩,by simp only[aF];omega⟩
       . simp only[go_sem,h0,h1,I,F,J,E,ah]
         refine bE M ⟨rfl,rfl⟩ (by simp only[go_sem]) (by simp only[Xaa,Xad,List.length_nil];omega) (fun j' ai=>?_);simp only[go_sem];refine hK _ _ ⟨by simp only[go_sem,h0],by simp only[go_sem,h1],by simp only[go_sem,I],by simp only[go_sem,F],by simp only[go_sem,E],j',by simp only[go_sem],?_⟩;rw[ag,fM,hn];show _=some (bO (es++opt _ ⟨6,wY w m⟩));rw[gK (aj.trans Z)];exact dZ (l':=[⟨6,wY w m⟩]) rfl
       . simp only[go_sem]
         refine hK _ _ ⟨by simp only[go_sem,h0],by simp only[go_sem,h1],by simp only[go_sem,I],by simp only[go_sem,F],by simp only[go_sem,E],j,by simp only[go_sem,J],?_⟩;rw[ag,fM,hn];show _=some (bO (es++opt _ ⟨6,wY w m⟩));rw[gL (aj.trans Z),Xah,M]
 . have af:=bC hk af
   subst af;simp only[go_sem,J];exact⟨_,rfl,by rw[M,<-ae,<-ab,<-ac];rfl⟩
theorem nI:∀l:List Fault,cP 2 (l.map fH)
 | []=>trivial
 | f::r=>⟨rfl,nI r⟩
theorem tQ(N:Int)(l:List Pair)(w:ByteArray)(b:Bool):(rJ N l w b).length<=l.length+1:=by
 have:=eA (vR N l w b) (List.range l.length);have u:=bV (decide ((l.length:Int)>16)) (⟨4,w⟩:Fault);rw[rJ,Xab];rw[Xas]at this;omega
theorem Ih(N:Int)(u E:List Pair)(J:u.length<=1048576)(F:E.length<=1048576):
   NC prog 54 [int N,.sl (u.map bZ),.sl (E.map bZ)] (bO (rJ N u ⟨#[97,112,97,114,116]⟩ true++rJ N E ⟨#[98,101,102,111,114,101]⟩ false)) .os:=by
 refine ncb (fun t=>t == 7) Tryz.func54 ?_;unfold Tryz.f54;simp only[gdS];simp only[go_sem];refine NC.use (J4 N u ⟨#[97,112,97,114,116]⟩ true J (by decide)) fun j T=>?_
 simp only[go_sem];refine NC.use (J4 N E ⟨#[98,101,102,111,114,101]⟩ false F (by decide)) fun i M=>?_
 simp only[go_sem];have l1:=tQ N u ⟨#[97,112,97,114,116]⟩ true;have Z:=tQ N E ⟨#[98,101,102,111,114,101]⟩ false;refine A5 (jG (aA _ _ _) M) (aA _ _ _) ⟨rfl,rfl⟩ (nI _) (by simp only[Xaa];omega) (fun O I=>?_);simp only[go_sem];exact⟨_,rfl,dZ rfl⟩
theorem NC.pc{f:FuncId}{args:List AV}{row:Row}(h:NC prog f args row .os):PC prog f args (.sl row.es):=
 RC.conv (RC.mono h fun r H' ⟨k,e,u⟩=>by subst e;exact .row k row row.es u (ConvE.refl _))
def kZ(l:List Arc)(i:Nat):Arc:=l.getD i ⟨0,0,0,0,[],[]⟩
theorem nD{l:List Arc}{k:Nat}{p:Arc}(h:l[k]?=some p):kZ l k=p:=by simp[kZ,List.getD,h]
def fX(k:Nat):ByteArray:=⟨#[97,114,99,32]⟩++iD k
def uV(N:Int)(a:Arc):Bool:=decide (a.src<0)||decide (a.src>=N)||decide (a.dst<0)||decide (a.dst>=N)
def zR(a:Arc):Bool:=decide (a.profile<0)||decide (a.profile>7)||decide (a.miles<0)||decide (a.miles>10000)||a.src == a.dst
def oQ(a b:Arc):Bool:=a.src == b.src&&a.dst == b.dst&&a.profile == b.profile
def mJ(l:List Point)(i:Nat):Bool:= !inR (dF l i).t 0 4096|| !inR (dF l i).a 0 4096||decide ((i:Int)>0)&&decide ((dF l i).t<=(dF l (i-1)).t)
def DZ(n:Network)(k:Nat):List Fault:=
 []++opt (uV n.places.length (kZ n.arcs k)) ⟨11,fX k⟩++opt (zR (kZ n.arcs k)) ⟨2,fX k⟩++opt ((n.arcs.take k).any (oQ (kZ n.arcs k))) ⟨6,fX k⟩
   ++ (iO (kZ n.arcs k).travel).map (fun f=>⟨f.err,fX k⟩)++opt (decide (((kZ n.arcs k).slow.length:Int)>16)) ⟨4,fX k⟩
   ++ (List.range (kZ n.arcs k).slow.length).flatMap fun i=>opt (mJ (kZ n.arcs k).slow i) ⟨2,fX k⟩
theorem RJ(l:List Point)(u:l.length<=1048576):PC prog 143 [.sl (l.map bU)] (.sl ((iO l).map fH)):=NC.pc (UF l u)
theorem Cg(l:List Point):(iO l).length<=2*l.length+1:=by
 have:=eA (W6 l) (List.range l.length);have u:=bV (EN l.length 1 16) (⟨4,ByteArray.empty⟩:Fault);rw[iO,Xab];rw[Xas]at this;omega
theorem aqF(n:Network)(k:Nat)(hk:k<n.arcs.length)(hp:n.places.length<=1048576)(hl:n.arcs.length<=1048576)(hs:∀a∈n.arcs,a.travel.length<=1048576/\a.slow.length<=1048576):
   NC prog 85 [.agg (aU n),int k] (bO (DZ n k)) .os:=by
 refine ncb (fun t=>t == 5) Tryz.func85 ?_;unfold Tryz.f85;simp only[gdS];simp only[go_sem];obtain⟨a,ha⟩:=aN hk;have b1:=inB hk;have av:=hs a (iC ha);have a9:=lQ k;refine aM fun j hj=>?_
 simp only[go_sem];refine PC.use (pF _ (by omega)) ?_;simp only[go_sem,b1,aE ha];have h4:(#[97,114,99,32]:Array UInt8).size=4:=rfl;refine⟨by rw[uI];omega,aM fun i M=>?_⟩;simp only[go_sem];refine aJ (aA _ _ _) (by simp[iH]) ?_;simp only[go_sem];have E:j≠i:=aO (aA _ _ _) M;have aw:fX k=⟨#[97,114,99,32]⟩++iD k:=rfl;refine nJ (fun u H'=>u 1=int k/\u 2=.rp (aU n) 0/\u 6=str (fX k)/\u 7=.op i 0 0/\H' i=some (rL a)/\∃Z,u 5=.os Z/\Z≠i/\H' Z=some (bO []))
   ⟨by simp only[go_sem],by simp only[go_sem],by simp only[go_sem,aw],by simp only[go_sem],aA _ _ _,j,by simp only[go_sem],E,by rw[aD _ _ _ _ E,aD _ _ _ _ E,aA];rfl⟩ ?_
 clear M hj E;rintro ρ H ⟨h1,h2,F,I,M,j,J,E,O⟩;generalize ak:([]:List Fault)=es0 at O;have a5:es0.length<=0:=by rw[<-ak];exact Xaf _
 refine bM (fun u H'=>u 1=int k/\u 2=.rp (aU n) 0/\u 6=str (fX k)/\u 7=.op i 0 0/\H' i=some (rL a)/\∃Z,u 5=.os Z/\Z≠i/\H' Z=some (bO (es0++opt (uV n.places.length a) ⟨11,fX k⟩))) ?_ fun K hK=>aB (fun hb=>?_) (fun hb=>?_)
 rotate_left
 . simp only[go_sem,h1,h2,F,I,J]
   refine bE O ⟨rfl,rfl⟩ (by simp only[go_sem]) (by simp only[Xaa,Xad,List.length_nil];omega) (fun Z T=>?_);simp only[go_sem];refine hK _ _ ⟨by simp only[go_sem,h1],by simp only[go_sem,h2],by simp only[go_sem,F],by simp only[go_sem,I],cV M E T,Z,by simp only[go_sem],(aO M T).symm,?_⟩;rw[gK (show(uV n.places.length a)=true from hb)];exact dZ (l':=[⟨11,fX k⟩]) rfl
 . simp only[go_sem]
   refine hK _ _ ⟨by simp only[go_sem,h1],by simp only[go_sem,h2],by simp only[go_sem,F],by simp only[go_sem,I],M,j,by simp only[go_sem,J],E,?_⟩;rw[gL (show(uV n.places.length a)=false from hb),Xah,O]
 clear O h1 h2 F I J;rintro ρ H ⟨h1,h2,F,I,M,j,J,E,O⟩;generalize ah:es0++opt (uV n.places.length a) (⟨11,fX k⟩:Fault)=es1 at O;have a8:es1.length<=es0.length+1:=by rw[<-ah,Xab];have:=bV (uV n.places.length a) (⟨11,fX k⟩:Fault);omega
 simp only[go_sem,h1,h2,F,I,J,M];refine bM (fun u H'=>u 1=int k/\u 2=.rp (aU n) 0/\u 6=str (fX k)/\u 7=.op i 0 0/\H' i=some (rL a)/\∃Z,u 5=.os Z/\Z≠i/\H' Z=some (bO (es1++opt (zR a) ⟨2,fX k⟩))) ?_ fun K hK=>aB (fun hb=>?_) (fun hb=>?_)
 rotate_left
 . simp only[go_sem,h1,h2,F,I,J]
   refine bE O ⟨rfl,rfl⟩ (by simp only[go_sem]) (by simp only[Xaa,Xad,List.length_nil];omega) (fun Z T=>?_);simp only[go_sem];refine hK _ _ ⟨by simp only[go_sem,h1],by simp only[go_sem,h2],by simp only[go_sem,F],by simp only[go_sem,I],cV M E T,Z,by simp only[go_sem],(aO M T).symm,?_⟩;rw[gK (show(zR a)=true from hb)];exact dZ (l':=[⟨2,fX k⟩]) rfl
 . simp only[go_sem]
   refine hK _ _ ⟨by simp only[go_sem,h1],by simp only[go_sem,h2],by simp only[go_sem,F],by simp only[go_sem,I],M,j,by simp only[go_sem,J],E,?_⟩;rw[gL (show(zR a)=false from hb),Xah,O]
 clear O h1 h2 F I J;rintro ρ H ⟨h1,h2,F,I,M,j,J,E,O⟩;generalize aj:es1++opt (zR a) (⟨2,fX k⟩:Fault)=es2 at O;have a4:es2.length<=es1.length+1:=by rw[<-aj,Xab];have:=bV (zR a) (⟨2,fX k⟩:Fault);omega
 simp only[go_sem,h1,h2,F,I,J,M];refine⟨fun u H'=>∃m:Nat,m<=k/\u 1=int k/\u 2=.rp (aU n) 0/\u 6=str (fX k)/\u 7=.op i 0 0/\u 5=.os j/\u 8=boo ((n.arcs.take m).any (oQ a))/\u 9=int m/\H' i=some (rL a)/\H' j=some (bO es2),fun ρ _=>k-aV (ρ 9),
   ⟨0,Xac _,by simp only[go_sem,h1],by simp only[go_sem,h2],by simp only[go_sem,F],by simp only[go_sem,I],by simp only[go_sem,J],by simp only[go_sem];rfl,by simp only[go_sem];rfl,M,O⟩,?_⟩
 clear h1 h2 F I J M O;rintro ρ H ⟨m,hm,h1,h2,F,I,J,h8,h9,M,O⟩;simp only[go_sem,h1,h2,F,I,J,h8,h9];refine aB (fun aa=>?_) (fun ac=>?_)
 . have aa:=aZ aa
   obtain⟨c,hc⟩:=aN (show m<n.arcs.length by omega);have b2:=inB (show m<n.arcs.length by omega);simp only[go_sem,h1,h2,F,I,J,h8,h9,b2,aE hc];refine aM fun x hx=>?_
   simp only[go_sem];refine aJ (aA _ _ _) (by simp[iH]) ?_;have ad:=aO M hx;have af:=aO O hx;simp only[go_sem,h1,h2,F,I,J,h8,h9,aD _ _ _ _ ad,M,aP (show m<=4611686018427387904 by omega)];refine⟨⟨m+1,aa,?_,rfl,?_⟩,by simp only[aF];omega⟩
   . rw[Ek hc];simp only[oQ]
   . rw[aD _ _ _ _ af,aD _ _ _ _ af,O]
 . have ac:=bC hm ac
   subst ac;simp only[go_sem,h1,h2,F,I,J,h8,h9];clear h1 h2 h8 h9;refine bM (fun u H'=>u 6=str (fX m)/\u 7=.op i 0 0/\H' i=some (rL a)/\∃Z,u 5=.os Z/\Z≠i/\H' Z=some (bO (es2++opt ((n.arcs.take m).any (oQ a)) ⟨6,fX m⟩))) ?_ fun K hK=>aB (fun hb=>?_) (fun hb=>?_)
   rotate_left
   . simp only[go_sem,F,I,J]
     refine bE O ⟨rfl,rfl⟩ (by simp only[go_sem]) (by simp only[Xaa,Xad,List.length_nil];omega) (fun Z T=>?_);simp only[go_sem];refine hK _ _ ⟨by simp only[go_sem,F],by simp only[go_sem,I],cV M E T,Z,by simp only[go_sem],(aO M T).symm,?_⟩;rw[gK (show((n.arcs.take m).any (oQ a))=true from hb)];exact dZ (l':=[⟨6,fX m⟩]) rfl
   . simp only[go_sem]
     refine hK _ _ ⟨by simp only[go_sem,F],by simp only[go_sem,I],M,j,by simp only[go_sem,J],E,?_⟩;rw[gL (show((n.arcs.take m).any (oQ a))=false from hb),Xah,O]
   clear O F I J;rintro ρ H ⟨F,I,M,j,J,E,O⟩;generalize al:es2++opt ((n.arcs.take m).any (oQ a)) (⟨6,fX m⟩:Fault)=es3 at O;have a0:es3.length<=es2.length+1:=by rw[<-al,Xab];have:=bV ((n.arcs.take m).any (oQ a)) (⟨6,fX m⟩:Fault);omega
   simp only[go_sem,F,I,J,M];refine PC.use (RJ a.travel av.1) ?_;simp only[go_sem];have ay:=Cg a.travel;have au:(iO (kZ n.arcs m).travel).map (fun f=>(⟨f.err,fX m⟩:Fault))=(iO a.travel).map (fun f=>⟨f.err,fX m⟩):=by rw[nD ha]
   generalize iO a.travel=tr at ay au;refine⟨fun ρ H=>∃q:Nat,q<=tr.length/\ρ 6=str (fX m)/\ρ 7=.op i 0 0/\ρ 11=.sl (tr.map fH)/\ρ 12=int q/\H i=some (rL a)/\∃j,ρ 5=.os j/\j≠i/\H j=some (bO (es3++(tr.take q).map fun f=>⟨f.err,fX m⟩)),fun ρ _=>tr.length-aV (ρ 12),
     ⟨0,Xac _,by simp only[go_sem,F],by simp only[go_sem,I],by simp only[go_sem],by simp only[go_sem];rfl,M,j,by simp only[go_sem,J],E,by simpa using O⟩,?_⟩
   clear F I J M O E;rintro ρ H ⟨q,hq,F,I,ag,ae,M,j,J,E,O⟩;simp only[go_sem,F,I,J,ag,ae];refine aB (fun aa=>?_) (fun ac=>?_)
   . have aa:=aZ aa
     obtain⟨f,hf⟩:=aN aa;have b2:=inB aa;simp only[go_sem,F,I,J,ag,ae,b2,aE hf];refine bE O ⟨rfl,rfl⟩ (by simp only[go_sem]) (by simp only[Xaa,Xab,Xal,Xad,List.length_nil];omega) (fun Z T=>?_);simp only[go_sem,F,I,J,ag,ae,aP (show q<=4611686018427387904 by omega)];refine⟨⟨q+1,aa,rfl,cV M E T,Z,rfl,(aO M T).symm,?_⟩,by simp only[aF];omega⟩;rw[A3 hf,<-Xai];exact dZ (l':=[⟨f.err,fX m⟩]) rfl
   . have ac:=bC hq ac
     subst ac;simp only[go_sem,F,I,J,ag,ae,M];clear ag ae;rw[Xag]at O;generalize am:es3++tr.map (fun f=>(⟨f.err,fX m⟩:Fault))=es4 at O;have a6:es4.length=es3.length+tr.length:=by rw[<-am,Xab,Xaa]
     refine bM (fun u H'=>u 6=str (fX m)/\u 7=.op i 0 0/\H' i=some (rL a)/\∃Z,u 5=.os Z/\Z≠i/\H' Z=some (bO (es4++opt (decide ((a.slow.length:Int)>16)) ⟨4,fX m⟩))) ?_ fun K hK=>aB (fun hb=>?_) (fun hb=>?_)
     rotate_left
     . simp only[go_sem,F,I,J]
       refine bE O ⟨rfl,rfl⟩ (by simp only[go_sem]) (by simp only[Xaa,Xad,List.length_nil];omega) (fun Z T=>?_);simp only[go_sem];refine hK _ _ ⟨by simp only[go_sem,F],by simp only[go_sem,I],cV M E T,Z,by simp only[go_sem],(aO M T).symm,?_⟩;rw[gK (show(decide ((a.slow.length:Int)>16))=true from hb)];exact dZ (l':=[⟨4,fX m⟩]) rfl
     . simp only[go_sem]
       refine hK _ _ ⟨by simp only[go_sem,F],by simp only[go_sem,I],M,j,by simp only[go_sem,J],E,?_⟩;rw[gL (show(decide ((a.slow.length:Int)>16))=false from hb),Xah,O]
     clear O F I J;rintro ρ H ⟨F,I,M,j,J,E,O⟩;generalize ai:es4++opt (decide ((a.slow.length:Int)>16)) (⟨4,fX m⟩:Fault)=es5 at O;have az:es5.length<=es4.length+1:=by rw[<-ai,Xab];have:=bV (decide ((a.slow.length:Int)>16)) (⟨4,fX m⟩:Fault);omega
     simp only[go_sem,F,I,J,M];refine⟨fun ρ H=>∃k:Nat,k<=a.slow.length/\ρ 6=str (fX m)/\ρ 7=.op i 0 0/\ρ 13=int k/\H i=some (rL a)/\∃j,ρ 5=.os j/\j≠i/\H j=some (bO (es5++(List.range k).flatMap fun x=>opt (mJ a.slow x) ⟨2,fX m⟩)),fun ρ _=>a.slow.length-aV (ρ 13),
       ⟨0,Xac _,by simp only[go_sem,F],by simp only[go_sem,I],by simp only[go_sem];rfl,M,j,by simp only[go_sem,J],E,by simpa using O⟩,?_⟩
     clear F I J M O E;rintro ρ H ⟨k,hk,F,I,ab,M,j,J,E,O⟩;generalize ap:es5++(List.range k).flatMap (fun x=>opt (mJ a.slow x) (⟨2,fX m⟩:Fault))=es at O;have a7:es.length<=es5.length+k:=by
       have:=eA (f:=fun x=>opt (mJ a.slow x) (⟨2,fX m⟩:Fault)) (c:=1) (fun x=>bV _ _) (List.range k);rw[<-ap,Xab];rw[Xas]at this;omega
     simp only[go_sem,F,I,J,ab,M];refine aB (fun aa=>?_) (fun ac=>?_)
     . have aa:=aZ aa
       have an:k<=4611686018427387904:=by omega
       obtain⟨p,hp⟩:=aN aa;obtain⟨r,hr⟩:=aN (show k-1<a.slow.length by omega);have b2:=inB aa;simp only[go_sem,F,I,J,ab,M,b2,aE hp];refine aM fun x hx=>?_
       simp only[go_sem];refine aJ (aA _ _ _) (by simp[fQ]) ?_;have ad:=aO M hx;have af:=aO O hx;simp only[go_sem];refine dA (by rfl) (by kernel_rfl) ?_;simp only[go_sem,F,I,J,ab,aD _ _ _ _ ad,M];refine⟨_,(VI _).q rfl,?_⟩;simp only[go_sem,F,I,J,ab,aD _ _ _ _ ad,M];refine⟨_,fun _=>(VI _).q rfl,?_⟩;simp only[go_sem,F,I,J,ab,aD _ _ _ _ ad,M,VE an,aE hr];have ao:aI (aI H x (some ⟨104,2,[[int 0,int 0]]⟩)) x (some ⟨104,2,[bU p]⟩) i=some (rL a):=by rw[aD _ _ _ _ ad,aD _ _ _ _ ad,M]
       have aq:aI (aI H x (some ⟨104,2,[[int 0,int 0]]⟩)) x (some ⟨104,2,[bU p]⟩) j=some (bO es):=by rw[aD _ _ _ _ af,aD _ _ _ _ af,O]
       have ar:mJ a.slow k=(!inR p.t 0 4096|| !inR p.a 0 4096||decide ((k:Int)>0)&&decide (p.t<=r.t)):=by rw[mJ,dM hp,dM hr]
       have ax:es5++(List.range (k+1)).flatMap (fun x=>opt (mJ a.slow x) (⟨2,fX m⟩:Fault))=es++opt (mJ a.slow k) ⟨2,fX m⟩:=by rw[gD,<-Xai,ap]
       refine⟨fun h=>by
         have:(k:Int)>0:=by simpa using h.2
         rw[mO an];omega,kG (fun u H'=>u 6=str (fX m)/\u 7=.op i 0 0/\u 13=int k/\H' i=some (rL a)/\∃j,u 5=.os j/\j≠i/\H' j=some (bO (es++opt (mJ a.slow k) ⟨2,fX m⟩))) ?_ fun K hK _ _=>aB (fun hb=>?_) (fun hb=>?_)⟩
       . clear F I J ab
         rintro ρ H ⟨F,I,ab,M,j,J,E,O⟩;simp only[go_sem,F,I,J,ab,aP an];exact⟨⟨k+1,aa,rfl,M,j,rfl,E,by rw[ax];exact O⟩,by simp only[aF];omega⟩
       . simp only[go_sem,F,I,J,ab]
         refine bE aq ⟨rfl,rfl⟩ (by simp only[go_sem]) (by simp only[Xaa,Xad,List.length_nil];omega) (fun Z T=>?_);simp only[go_sem];refine hK _ _ ⟨by simp only[go_sem,F],by simp only[go_sem,I],by simp only[go_sem,ab],cV ao E T,Z,by simp only[go_sem],(aO ao T).symm,?_⟩;rw[gK (ar.trans hb)];exact dZ (l':=[⟨2,fX m⟩]) rfl
       . simp only[go_sem]
         refine hK _ _ ⟨by simp only[go_sem,F],by simp only[go_sem,I],by simp only[go_sem,ab],ao,j,by simp only[go_sem,J],E,?_⟩;rw[gL (ar.trans hb),Xah,aq]
     . have ac:=bC hk ac
       subst ac;simp only[go_sem,J];refine⟨_,rfl,?_⟩;rw[O,<-ap,<-ai,<-am,<-au,<-al,<-aj,<-ah,<-ak,DZ,nD ha]
theorem DC(n:Network)(k:Nat)(F:(kZ n.arcs k).travel.length<=1048576)(I:(kZ n.arcs k).slow.length<=1048576):(DZ n k).length<=3145740:=by
 have h1:=bV (uV n.places.length (kZ n.arcs k)) (⟨11,fX k⟩:Fault);have M:=bV (zR (kZ n.arcs k)) (⟨2,fX k⟩:Fault);have E:=bV ((n.arcs.take k).any (oQ (kZ n.arcs k))) (⟨6,fX k⟩:Fault);have O:=Cg (kZ n.arcs k).travel;have J:=bV (decide (((kZ n.arcs k).slow.length:Int)>16)) (⟨4,fX k⟩:Fault);have u:=eA (f:=fun i=>opt (mJ (kZ n.arcs k).slow i) (⟨2,fX k⟩:Fault)) (c:=1) (fun x=>bV _ _) (List.range (kZ n.arcs k).slow.length);rw[Xas]at u;simp only[DZ,Xab,Xaa,List.length_nil];omega
theorem B9{α E:Type}{f:α->List E}{c:Nat}:∀l:List α,(∀x∈l,(f x).length<=c)->(l.flatMap f).length<=c*l.length
 | [],_=>by simp
 | x::r,h=>by
   have h1:=h x (by simp);have F:=B9 r fun y u=>h y (by simp[u])
   simp only[List.flatMap_cons,Xab,Xad,Nat.mul_add,Nat.mul_one];omega
def FE(n:Network):List Fault:=uE n.places++opt (decide ((n.arcs.length:Int)>1024)) ⟨4,⟨#[97,114,99,115]⟩⟩++(List.range n.arcs.length).flatMap (DZ n)
theorem CK(l:List ByteArray):(uE l).length<=l.length+1:=by
 have:=eA (Qr l) (List.range l.length);have u:=bV (decide ((l.length:Int)>24)) (⟨4,⟨#[112,108,97,99,101,115]⟩⟩:Fault);rw[uE,Xab];rw[Xas]at this;omega
theorem afT(n:Network)(hp:n.places.length<=1048576)(ac:∀s∈n.places,s.size<=1048576)(hl:n.arcs.length<=1048576)(hs:∀a∈n.arcs,a.travel.length<=1048576/\a.slow.length<=1048576):
   NC prog 50 [.agg (aU n)] (bO (FE n)) .os:=by
 have Z:∀k,(DZ n k).length<=3145740:=fun k=>by
   rcases Xaw k n.arcs.length with h|h
   . obtain⟨a,ha⟩:=aN h
     have hm:=hs a (iC ha);exact DC n k (by rw[nD ha];exact hm.1) (by rw[nD ha];exact hm.2)
   . have:kZ n.arcs k=⟨0,0,0,0,[],[]⟩:=by simp[kZ,List.getD,List.getElem?_eq_none h]
     exact DC n k (by rw[this];simp) (by rw[this];simp)
 have ad:=CK n.places;refine ncb (fun t=>t == 3) Tryz.func50 ?_;unfold Tryz.f50;simp only[gdS];simp only[go_sem];refine NC.use (US n hp ac) fun j hj=>?_
 simp only[go_sem];refine nJ (fun F H'=>F 1=.rp (aU n) 0/\∃I,F 3=.os I/\H' I=some (bO (uE n.places))) ⟨by simp only[go_sem],j,by simp only[go_sem],aA _ _ _⟩ ?_;clear hj;rintro ρ H ⟨h1,j,E,u⟩;generalize aa:uE n.places=es0 at u ad;refine bM (fun F H'=>F 1=.rp (aU n) 0/\∃I,F 3=.os I/\H' I=some (bO (es0++opt (decide ((n.arcs.length:Int)>1024)) ⟨4,⟨#[97,114,99,115]⟩⟩))) ?_ fun K hK=>aB (fun hb=>?_) (fun hb=>?_)
 rotate_left
 . simp only[go_sem,h1,E]
   refine bE u ⟨rfl,rfl⟩ (by simp only[go_sem]) (by simp only[Xaa,Xad,List.length_nil];omega) (fun I ab=>?_);simp only[go_sem];refine hK _ _ ⟨by simp only[go_sem,h1],I,by simp only[go_sem],?_⟩;rw[gK (show(decide ((n.arcs.length:Int)>1024))=true from hb)];exact dZ (l':=[⟨4,⟨#[97,114,99,115]⟩⟩]) rfl
 . simp only[go_sem]
   refine hK _ _ ⟨by simp only[go_sem,h1],j,by simp only[go_sem,E],?_⟩;rw[gL (show(decide ((n.arcs.length:Int)>1024))=false from hb),Xah,u]
 clear u h1 E;rintro ρ H ⟨h1,j,E,u⟩;generalize M:es0++opt (decide ((n.arcs.length:Int)>1024)) (⟨4,⟨#[97,114,99,115]⟩⟩:Fault)=es1 at u;have af:es1.length<=es0.length+1:=by rw[<-M,Xab];have:=bV (decide ((n.arcs.length:Int)>1024)) (⟨4,⟨#[97,114,99,115]⟩⟩:Fault);omega
 simp only[go_sem,h1,E];refine⟨fun ρ H=>∃k:Nat,k<=n.arcs.length/\ρ 1=.rp (aU n) 0/\ρ 4=int k/\∃j,ρ 3=.os j/\H j=some (bO (es1++(List.range k).flatMap (DZ n))),fun ρ _=>n.arcs.length-aV (ρ 4),⟨0,Xac _,by simp only[go_sem,h1],by simp only[go_sem];rfl,j,by simp only[go_sem,E],by simpa using u⟩,?_⟩;clear u h1 E;rintro ρ H ⟨k,hk,h1,h4,j,E,u⟩;generalize O:es1++(List.range k).flatMap (DZ n)=es at u;have ae:es.length<=es1.length+3145740*k:=by
   have:=eA Z (List.range k);rw[<-O,Xab];rw[Xas]at this;omega
 simp only[go_sem,h1,E,h4];refine aB (fun J=>?_) (fun T=>?_)
 . have J:=aZ J
   simp only[go_sem,h1,E,h4];refine NC.use (aqF n k J hp hl hs) fun i hi=>?_
   simp only[go_sem];have:=Z k;refine A5 (jG u hi) (aA _ _ _) ⟨rfl,rfl⟩ (nI _) (by simp only[Xaa];omega) (fun I ab=>?_);simp only[go_sem,h1,E,h4,aP (show k<=4611686018427387904 by omega)];refine⟨⟨k+1,J,rfl,I,rfl,?_⟩,by simp only[aF];omega⟩;rw[gD,<-Xai,O];exact dZ rfl
 . have T:=bC hk T
   subst T;simp only[go_sem,E];exact⟨_,rfl,by rw[u,<-O,<-M,<-aa];rfl⟩
def oM(l:List Fault):Prop:=∀f∈l,f.at_.size<=4194304
theorem Q6:oM []:=by simp[oM]
theorem gM{a b:List Fault}(u:oM a)(F:oM b):oM (a++b):=fun f E=>(Xba.1 E).elim (u f) (F f)
theorem fZ{b:Bool}{f:Fault}(h:f.at_.size<=4194304):oM (opt b f):=by
 cases b
 . simp[oM,opt]
 . intro g u;simp[opt]at u;subst u;exact h
theorem nO{α:Type}{F:α->List Fault}{l:List α}(h:∀x∈l,oM (F x)):oM (l.flatMap F):=fun f u=>by
 obtain⟨x,E,u⟩:=List.mem_flatMap.1 u;exact h x E f u
theorem BQ{α:Type}{F:α->Fault}{l:List α}(h:∀x∈l,(F x).at_.size<=4194304):oM (l.map F):=fun f u=>by
 obtain⟨x,E,rfl⟩:=List.mem_map.1 u;exact h x E
theorem tF{i n:Nat}(h:i∈List.range n):i<n:=Xaz.1 h
theorem Sd(i:Nat):(fX i).size<=i+5:=by
 have:=lQ i;unfold fX;rw[ByteArray.size_append];have:(⟨#[97,114,99,32]⟩:ByteArray).size=4:=rfl;omega
theorem O0(w:ByteArray)(i:Nat):(wY w i).size<=w.size+i+2:=by
 have:=lQ i;unfold wY;rw[ByteArray.size_append,ByteArray.size_append];have:(⟨#[32]⟩:ByteArray).size=1:=rfl;omega
theorem Iz(l:List ByteArray)(h:l.length<=1048576):oM (uE l):=gM (fZ (by decide)) (nO fun i u=>by
 have:=tF u;have:=Mc i;unfold fA;split
 . exact fZ (b:=true) (by show(pK i).size<=_;omega)
 . exact fZ (by show(pK i).size<=_;omega))
theorem SY(n:Network)(u:n.places.length<=1048576)(F:n.arcs.length<=1048576):oM (FE n):=by
 refine gM (gM (Iz _ u) (fZ (by decide))) (nO fun i E=>?_);have:=tF E;have h:(fX i).size<=4194304:=by have:=Sd i;omega
 exact gM (gM (gM (gM (gM (gM Q6 (fZ h)) (fZ h)) (fZ h)) (BQ fun _ _=>h)) (fZ h)) (nO fun _ _=>fZ h)
theorem L4(n:Network)(l:List VType)(E:l.length<=1048576):oM (sE n l):=
 gM (fZ (by decide)) (nO fun i u=>BQ fun _ _=>by have:=tF u;have:=lQ i;show(iD i).size<=_;omega)
theorem IF(n:Network)(d T:Int)(l:List Order)(E:l.length<=1048576):oM (oU n d T l):=
 gM (fZ (by decide)) (nO fun i u=>BQ fun _ _=>by have:=tF u;have:=lQ i;show(iD i).size<=_;omega)
theorem CG(N:Int)(l:List Pair)(w:ByteArray)(b:Bool)(F:l.length<=1048576)(E:w.size<=100):oM (rJ N l w b):=gM (fZ (by show w.size<=_;omega)) (nO fun i u=>by
 have:=tF u;have:=O0 w i;unfold fM;split
 . exact fZ (b:=true) (by show(wY w i).size<=_;omega)
 . exact fZ (by show(wY w i).size<=_;omega))
theorem Nd(n:Network)(l:List VType):(sE n l).length<=9*l.length+1:=by
 have:=eA (f:=gO n l) (c:=9) (fun x=>by unfold gO;rw[Xaa];exact uF _ _ _ _) (List.range l.length);have u:=bV (!inR l.length 1 6) (⟨4,ByteArray.empty⟩:Fault);rw[sE,Xab];rw[Xas]at this;omega
theorem Lz(n:Network)(d T:Int)(l:List Order):(oU n d T l).length<=9*l.length+1:=by
 have:=eA (f:=fU n d T l) (c:=9) (fun x=>by unfold fU;rw[Xaa];exact rZ _ _ _ _ _ _) (List.range l.length);have u:=bV (decide ((l.length:Int)>10)) (⟨4,ByteArray.empty⟩:Fault);rw[oU,Xab];rw[Xas]at this;omega
structure InB(x:Instance):Prop where
 places:x.net.places.length<=1048576
 place:∀s∈x.net.places,s.size<=1048576
 arcs:x.net.arcs.length<=1048576
 arc:∀a∈x.net.arcs,a.travel.length<=1048576/\a.slow.length<=1048576
 types:x.types.length<=1048576
 type:∀t∈x.types,t.name.size<=1048576/\t.cap.length<=1048576
 orders:x.orders.length<=1048576
 order:∀t∈x.orders,t.name.size<=1048576/\t.load.length<=1048576
 apart:x.apart.length<=1048576
 before:x.before.length<=1048576
def BP(x:Instance):List Fault:=rJ x.orders.length x.apart ⟨#[97,112,97,114,116]⟩ true++rJ x.orders.length x.before ⟨#[98,101,102,111,114,101]⟩ false
def E4(x:Instance):List Fault:=(FE x.net).map (jQ ⟨#[110,101,116]⟩)++(sE x.net x.types).map (jQ ⟨#[116,121,112,101,115]⟩) ++
 (oU x.net (jU x.types) x.types.length x.orders).map (jQ ⟨#[111,114,100,101,114,115]⟩)++(BP x).map (jQ ⟨#[114,117,108,101,115]⟩)
theorem VA(x:Instance)(h:InB x):(FE x.net).length<=3300000000000:=by
 have h1:=CK x.net.places;have M:=bV (decide ((x.net.arcs.length:Int)>1024)) (⟨4,⟨#[97,114,99,115]⟩⟩:Fault);have F:=B9 (f:=DZ x.net) (c:=3145740) (List.range x.net.arcs.length) fun k I=>by
   obtain⟨a,u⟩:=aN (tF I);have E:=h.arc a (iC u);exact DC x.net k (by rw[nD u];exact E.1) (by rw[nD u];exact E.2)
 have O:=h.places;have J:=h.arcs;rw[Xas]at F;simp only[FE,Xab];omega
theorem Z8(x:Instance)(h:InB x):NC prog 22 [.agg (aH x)] (bO (E4 x)) .os:=by
 have c1:PC prog 50 [.agg (aU x.net)] (.sl ((FE x.net).map fH)):=NC.pc (afT x.net h.places h.place h.arcs h.arc);have c2:PC prog 51 [.agg (aU x.net),.sl (x.types.map bB)] (.sl ((sE x.net x.types).map fH)):=NC.pc (XP x.net x.types h.types h.type h.places);have c3:PC prog 52 [.agg (aU x.net),int (jU x.types),int x.types.length,.sl (x.orders.map bD)] (.sl ((oU x.net (jU x.types) x.types.length x.orders).map fH)):=NC.pc (Eo x.net _ _ x.orders h.orders h.order h.places);have c4:PC prog 54 [int x.orders.length,.sl (x.apart.map bZ),.sl (x.before.map bZ)] (.sl ((BP x).map fH)):=NC.pc (Ih x.orders.length x.apart x.before h.apart h.before);have l1:=VA x h;have l2:=Nd x.net x.types;have l3:=Lz x.net (jU x.types) x.types.length x.orders;have l4:(BP x).length<=2097154:=by
   have a1:=tQ x.orders.length x.apart ⟨#[97,112,97,114,116]⟩ true;have a2:=tQ x.orders.length x.before ⟨#[98,101,102,111,114,101]⟩ false;have:=h.apart;have:=h.before;rw[BP,Xab];omega
 have s1:=SY x.net h.places h.arcs;have s2:=L4 x.net x.types h.types;have s3:=IF x.net (jU x.types) x.types.length x.orders h.orders;have s4:oM (BP x):=gM (CG _ _ _ _ h.apart (by decide)) (CG _ _ _ _ h.before (by decide));have ht:=h.types;have ho:=h.orders;refine ncb (fun t=>t == 27) Tryz.func22 ?_;unfold Tryz.f22;simp only[gdS];simp only[go_sem];refine PC.use c1 ?_;simp only[go_sem];refine NC.use (Dh ⟨#[110,101,116]⟩ _ (by decide) (by omega) fun f u=>Xaj (s1 f u) (by decide)) fun j T=>?_
 simp only[go_sem];refine PC.use c2 ?_;simp only[go_sem];refine NC.use (Dh ⟨#[116,121,112,101,115]⟩ _ (by decide) (by omega) fun f u=>Xaj (s2 f u) (by decide)) fun i I=>?_
 simp only[go_sem];refine A5 (jG (aA _ _ _) I) (aA _ _ _) ⟨rfl,rfl⟩ (nI _) (by simp only[Xaa];omega) (fun J O=>?_);simp only[go_sem];refine Dn (by kernel_rfl) ?_;simp only[go_sem];refine⟨_,(I2 x.types).q rfl,?_⟩;simp only[go_sem];have M:=dZ (e:=139) (sz:=2) (enc:=fH) (H:=aI (aI (aI bT j (some (bO ((FE x.net).map (jQ ⟨#[110,101,116]⟩))))) i (some (bO ((sE x.net x.types).map (jQ ⟨#[116,121,112,101,115]⟩))))) j none) (k:=J) (l:=(FE x.net).map (jQ ⟨#[110,101,116]⟩)) (l':=(sE x.net x.types).map (jQ ⟨#[116,121,112,101,115]⟩)) rfl;generalize aI (aI (aI (aI bT j _) i _) j none) J _=H at M |-;generalize F:(FE x.net).map (jQ ⟨#[110,101,116]⟩)++(sE x.net x.types).map (jQ ⟨#[116,121,112,101,115]⟩)=es at M;have Z:es.length<=3300000000000+9*x.types.length+1:=by rw[<-F,Xab,Xaa,Xaa];omega
 clear I T O;refine PC.use c3 ?_;simp only[go_sem];refine NC.use (Dh ⟨#[111,114,100,101,114,115]⟩ _ (by decide) (by omega) fun f u=>Xaj (s3 f u) (by decide)) fun i I=>?_
 simp only[go_sem];refine A5 (jG M I) (aA _ _ _) ⟨rfl,rfl⟩ (nI _) (by simp only[Xaa];omega) (fun k hk=>?_);simp only[go_sem];have E:=dZ (e:=139) (sz:=2) (enc:=fH) (H:=aI (aI H i (some (bO ((oU x.net (jU x.types) x.types.length x.orders).map (jQ ⟨#[111,114,100,101,114,115]⟩))))) J none) (k:=k) (l:=es) (l':=(oU x.net (jU x.types) x.types.length x.orders).map (jQ ⟨#[111,114,100,101,114,115]⟩)) rfl;generalize aI (aI (aI H i _) J none) k _=H2 at E |-;clear I hk;refine PC.use c4 ?_;simp only[go_sem];refine NC.use (Dh ⟨#[114,117,108,101,115]⟩ _ (by decide) (by omega) fun f u=>Xaj (s4 f u) (by decide)) fun q hq=>?_
 simp only[go_sem];refine A5 (jG E hq) (aA _ _ _) ⟨rfl,rfl⟩ (nI _) (by simp only[Xaa,Xab];omega) (fun m hm=>?_);simp only[go_sem];refine⟨m,rfl,?_⟩;rw[E4,F];exact dZ rfl
end Go.Proofs.YtohmomanmikphaaGreatDoor
end
section
namespace Go.Aw.D
open Go.Aw Go.RowKit
def Sw(w:World):Sg:=⟨fun k=>k<w.heap.size,fun k=>k<w.heap.size,fun _=>.slice none 0 0,fun _=>1,0⟩
def Ir(w:World):Prop:=∀t∈SA,pI w t.1=some t.2
theorem Jx{w:World}{g:Nat}{cs:Array Value}(h:pI w g=some cs):g<w.heap.size:=by
 unfold pI at h;split at h
 . rename_i h1;exact(Array.getElem?_eq_some_iff.1 h1).1
 . cases h
theorem agU(w:World)(E:Ir w):St (Sw w) w bT:=⟨fun _ h=>h,fun _ h=>h,fun k r u=>by simp[bT]at u,fun k r u=>by simp[bT]at u,fun k k' r r' u=>by simp[bT]at u,fun t h=>⟨Jx (E t h),E t h⟩⟩
def iL(_:Nat)(x:Int):Prop:= -9223372036854775808<=x/\x<=9223372036854775807
def abB(_:Nat)(_:Bool):Prop:=True
def L5(n:Nat)(s:ByteArray):Prop:=s.size<=n
def bL{α:Type}(b:Nat->α->Prop)(n:Nat)(l:List α):Prop:=l.length<=n/\∀x∈l,b n x
def Rd{H:Type}(e:TypeId×Value->H)(B:DataW H->Nat)(P:Program)(w:World)(t:TypeId){α:Type}(enc:α->List AV)(b:Nat->α->Prop):Prop:=
 ∀fuel cs y,DataW.trod e P w 0 (fun _=>true) true fuel t cs=some y->∃x:α,(bF (Sw w) w (enc x) cs/\∀u∈cs,u.oneCell'=true)/\∀n,B y.1<=n->b n x
section
variable{H:Type}{e:TypeId×Value->H}{P:Program}{w:World}{t:TypeId}
abbrev BK(H:Type):DataW H->Nat:=Go.Proofs.YtohmomanmikphaaGreatDoor.Rows.uptoBulk
theorem dK(E:P.underlying t=some (.int .i64)):Rd e (BK H) P w t bN iL:=by
 intro u cs y h;obtain⟨n,rfl,_,F⟩:=DataW.trod_int E h;refine⟨n,⟨by simp only[bN,bF];exact⟨_,_,rfl,by simp only[rep],rfl⟩,by simp[Value.oneCell']⟩,fun _ _=>bounds_i64 F⟩
theorem XI(E:P.underlying t=some .bool):Rd e (BK H) P w t eG abB:=by
 intro u cs y h;obtain⟨n,rfl,_⟩:=DataW.trod_bool E h;refine⟨n,⟨by simp only[eG,bF];exact⟨_,_,rfl,by simp only[rep],rfl⟩,by simp[Value.oneCell']⟩,fun _ _=>trivial⟩
theorem Jf(E:P.underlying t=some .string):Rd e (BK H) P w t fJ L5:=by
 intro u cs y h;obtain⟨s,rfl,rfl,_⟩:=DataW.trod_string E h;refine⟨s,⟨by simp only[fJ,bF];exact⟨_,_,rfl,by simp only[rep],rfl⟩,by simp[Value.oneCell']⟩,fun n F=>?_⟩;simp only[BK,Go.Proofs.YtohmomanmikphaaGreatDoor.Rows.uptoBulk,Array.length_toList]at F;have:s.size=s.data.size:=rfl;simp only[L5];omega
theorem Gc{d:DataW H}{l:List (DataW H)}(h:d∈l):BK H d<=Go.Proofs.YtohmomanmikphaaGreatDoor.Rows.uptoBulkAll l:=by
 induction l with
 | nil=>cases h
 | cons x r ih=>
   simp only[Go.Proofs.YtohmomanmikphaaGreatDoor.Rows.uptoBulkAll];cases List.mem_cons.1 h with
   | inl e=>subst e;simp only[BK];omega
   | inr e=>have:=ih e;omega
theorem Ue(d:DataW H):1<=BK H d:=by
 cases d with
 | lit l=>cases l <;> simp[BK,Go.Proofs.YtohmomanmikphaaGreatDoor.Rows.uptoBulk]
 | nil=>simp[BK,Go.Proofs.YtohmomanmikphaaGreatDoor.Rows.uptoBulk]
 | ptr d=>simp[BK,Go.Proofs.YtohmomanmikphaaGreatDoor.Rows.uptoBulk]
 | slice elems spare=>simp[BK,Go.Proofs.YtohmomanmikphaaGreatDoor.Rows.uptoBulk]
 | agg parts=>simp[BK,Go.Proofs.YtohmomanmikphaaGreatDoor.Rows.uptoBulk]
 | iface t d=>simp[BK,Go.Proofs.YtohmomanmikphaaGreatDoor.Rows.uptoBulk]
 | map entries=>simp[BK,Go.Proofs.YtohmomanmikphaaGreatDoor.Rows.uptoBulk]
 | held h=>simp[BK,Go.Proofs.YtohmomanmikphaaGreatDoor.Rows.uptoBulk]
theorem LY(l:List (DataW H)):l.length<=Go.Proofs.YtohmomanmikphaaGreatDoor.Rows.uptoBulkAll l:=by
 induction l with
 | nil=>simp[Go.Proofs.YtohmomanmikphaaGreatDoor.Rows.uptoBulkAll]
 | cons x r ih=>have:=Ue x;simp only[Go.Proofs.YtohmomanmikphaaGreatDoor.Rows.uptoBulkAll,List.length_cons,BK]at *;omega
theorem JG{α:Type}(n:Nat)(p:Nat->α->Prop)(h:∀i,i<n->∃x,p i x):∃l:List α,l.length=n/\∀i x,l[i]?=some x->p i x:=by
 induction n with
 | zero=>exact⟨[],rfl,by simp⟩
 | succ n ih=>
   obtain⟨l,I,J⟩:=ih fun i F=>h i (by omega)
   obtain⟨x,M⟩:=h n (by omega);refine⟨l++[x],by simp[I],fun i y u=>?_⟩;rcases Nat.lt_or_ge i n with F|F
   . rw[List.getElem?_append_left (by omega)]at u;exact J i y u
   . rw[List.getElem?_append_right (by omega)]at u
     have:i-l.length=0:=by
       rcases Nat.eq_zero_or_pos (i-l.length)with h0|h0
       . exact h0
       . rw[List.getElem?_eq_none (by simp;omega)]at u;simp at u
     rw[this]at u;have E:i=n:=by omega
     subst E;simp at u;subst u;exact M
theorem Ar{S:Sg}{b sz:Nat}{α:Type}{enc:α->List AV}(u:∀x,(enc x).length=sz):∀(l:List α) (o:Nat),(∀i x,l[i]?=some x->cE S w b (o+i*sz) (enc x))->fY S w b sz o (l.map enc)
 | [],_,_=>by simp[fY]
 | x::r,o,h=>by
   simp only[List.map_cons,fY];refine⟨u x,by simpa using h 0 x rfl,Ar u r (o+sz) fun i y E=>?_⟩;have:=h (i+1) y (by simpa using E)
   rwa [show o+(i+1)*sz=o+sz+i*sz by rw[Nat.add_mul];omega]at this
theorem BD{a:Addr}{n:Nat}{cs:List Value}(h:w.cells? 0 a n=some cs):cs.length=n/\∀j,j<n->w.cell? (a.add j)=cs[j]?:=by
 unfold World.cells? at h;rw[if_pos (Nat.zero_le _)]at h;have E:=mapM_some_length h;exact⟨by simpa using E,fun j u=>mapM_some_get h j j (by simp[u])⟩
theorem lF{α:Type}{enc:α->List AV}{b:Nat->α->Prop}{et:TypeId}{sz:Nat}(ht:P.underlying t=some (.slice et))(hc:P.cellsOf et=sz)(F:0<sz)(ad:∀x,(enc x).length=sz)(hr:Rd e (BK H) P w et enc b):
   Rd e (BK H) P w t (fun l:List α=>[.sl (l.map enc)]) (bL b):=by
 intro ak cs y h;rcases DataW.trod_slice ht h with⟨rfl,rfl⟩|⟨a,len,cap,E,rest,n,rfl,rfl,rfl,_,ag,T,af,M,am,_⟩
 . refine⟨[],⟨?_,by simp[Value.oneCell']⟩,fun n _=>⟨by simp,by simp⟩⟩
   simp only[bF,rep,List.map_nil];exact⟨_,_,rfl,⟨none,0,0,rfl,rfl,Nat.le_refl _,Nat.zero_le _,by simp⟩,rfl⟩
 . have hp : ∀ i, i < len -> ∃ x : α, ∃ z cs', E[i]? = some z /\ w.cells? 0 (a.add (i * sz)) sz = some cs' /\ (bF (Sw w) w (enc x) cs' /\ ∀ u ∈ cs', u.oneCell' = true) /\ ∀ n, BK H z.1 <= n -> b n x := fun i hi => by
     have hg:=M i hi;rw[List.getElem?_eq_getElem (by omega),hc,Option.bind_eq_some_iff]at hg;obtain⟨cs',h1,h2⟩:=hg;obtain⟨x,Z,J⟩:=hr _ _ _ h2;exact⟨x,_,cs',List.getElem?_eq_getElem (by omega),h1,Z,J⟩
   obtain⟨l,hl,O⟩:=JG len _ hp;refine⟨l,⟨?_,by simp[Value.oneCell']⟩,fun m hm=>⟨?_,fun x Z=>?_⟩⟩
   . simp only[bF]
     refine⟨_,_,rfl,?_,rfl⟩;simp only[rep];refine⟨some a,len,cap,rfl,by simp[hl],ag,T,?_⟩;rcases Nat.eq_zero_or_pos len with h0|h0
     . left;rw[List.eq_nil_of_length_eq_zero (hl.trans h0)];rfl
     . right
       have ai:=hp 0 h0;obtain⟨_,_,al,_,aa,_⟩:=ai;have q:=(BD aa).2 0 F;have ah:=(BD aa).1;rw[List.getElem?_eq_getElem (by omega)]at q;simp only[Nat.zero_mul,Addr.add,if_true]at q;have I:a.spot=none/\a.block<w.heap.size:=by
         unfold World.cell? at q;split at q
         . rename_i c _ _ J
           split at q
           . simp at q
           . rename_i hs
             refine⟨by simpa using hs,?_⟩;rcases Nat.lt_or_ge a.block w.heap.size with h|h
             . exact h
             . rw[Array.getElem?_eq_none h]at J;simp at J
         . simp at q
       obtain⟨ab,ao,an⟩:=a;obtain⟨hs,ac⟩:=I;simp only at hs ac;subst hs;refine⟨ab,ao,sz,rfl,ac,F,Ar ad l ao fun i x Z=>?_⟩;obtain⟨z,cs',_,aj,⟨h1,h2⟩,_⟩:=O i x Z;refine gV _ cs' _ h1 h2 fun j u hj=>?_
       obtain⟨e1,e2⟩:=BD aj;have ae:j<sz:=by
         rcases Nat.lt_or_ge j sz with h|h
         . exact h
         . rw[List.getElem?_eq_none (by omega)]at hj;simp at hj
       have:=e2 j ae;rw[hj,Addr.add_lit,Addr.add_lit]at this;exact this
   . rw[hl,<-af]
     have h1:=LY (E.map (·.1));simp only[BK,Go.Proofs.YtohmomanmikphaaGreatDoor.Rows.uptoBulk,List.length_map]at hm h1;omega
   . obtain⟨i,hi⟩:=List.mem_iff_getElem?.1 Z
     obtain⟨z,cs',hz,_,_,J⟩:=O i x hi;refine J m ?_;have h1:=Gc (List.mem_map_of_mem (f:=(·.1)) (List.mem_of_getElem? hz));simp only[BK,Go.Proofs.YtohmomanmikphaaGreatDoor.Rows.uptoBulk]at hm h1 |-;omega
theorem fld{u o m:Nat}{cs:List Value}{z:DataW H×List MemPlace}(E:P.cellsOf t=m)(h:DataW.trod e P w 0 (fun _=>true) true u t ((cs.drop o).take (P.cellsOf t))=some z):DataW.trod e P w 0 (fun _=>true) true u t ((cs.drop o).take m)=some z:=E▸h
theorem aY{S:Sg}{a b:List AV}{cs:List Value}{o m:Nat}(h:bF S w a ((cs.drop o).take m))(u:bF S w b (cs.drop (o+m))):bF S w (a++b) (cs.drop o):=by
 have:=cT a b _ _ h u
 rwa [<-List.drop_drop,List.take_append_drop]at this
theorem jX{S:Sg}{cs:List Value}{o:Nat}(h:cs.length=o):bF S w [] (cs.drop o):=by
 rw[List.drop_eq_nil_of_le (by omega)];simp[bF]
theorem bH{cs:List Value}{o m:Nat}(h:∀u∈(cs.drop o).take m,u.oneCell'=true)(F:∀u∈cs.drop (o+m),u.oneCell'=true):∀u∈cs.drop o,u.oneCell'=true:=by
 intro u E;rw[<-List.take_append_drop m (cs.drop o),List.drop_drop]at E;rcases List.mem_append.1 E with E|E
 . exact h u E
 . exact F u E
theorem lW{cs:List Value}{o:Nat}(h:cs.length=o):∀u∈cs.drop o,u.oneCell'=true:=by
 rw[List.drop_eq_nil_of_le (by omega)];simp
theorem aQ{xs:List (DataW H×List MemPlace)}{i:Nat}{z:DataW H×List MemPlace}(u:xs[i]?=some z){n:Nat}(h:BK H (.agg (xs.map (·.1)))<=n):BK H z.1<=n:=by
 have h1:=Gc (List.mem_map_of_mem (f:=(·.1)) (List.mem_of_getElem? u));simp only[BK,Go.Proofs.YtohmomanmikphaaGreatDoor.Rows.uptoBulk]at h h1 |-;omega
theorem bJ{α:Type}{xs:List α}{n i:Nat}(h:xs.length=n)(u:i<n):∃z,xs[i]?=some z:=⟨xs[i],List.getElem?_eq_getElem (by omega)⟩
end
section
open Go.Proofs Go.Proofs.YtohmomanmikphaaGreatDoor
variable{H:Type}{e:TypeId×Value->H}{w:World}
theorem aaV:Rd e (BK H) Tryz.prog w 22 (fun l:List ByteArray=>[.sl (l.map fJ)]) (bL L5):=lF (sz:=1) Tryz.underlying22 (by kernel_rfl) (by omega) (fun _=>rfl) (Jf Tryz.underlying9)
def Im(n:Nat)(x:Point):Prop:=iL n x.t/\iL n x.a
theorem Wz:Rd e (BK H) Tryz.prog w 104 bU Im:=by
 intro M cs y h;obtain⟨xs,n,rfl,rfl,J,u,I⟩:=DataW.trod_struct Tryz.underlying104 h;have u:xs.length=2:=u;have J:cs.length=2:=J.trans (by kernel_rfl);obtain⟨z0,F⟩:=bJ u (show 0<2 by omega);obtain⟨x0,⟨r0,Z⟩,b0⟩:=(dK Tryz.underlying3:Rd e (BK H) Tryz.prog w 3 _ _) n ((cs.drop 0).take 1) z0 (fld (t:=3) (o:=0) (m:=1) (by kernel_rfl) ((I 0 _ rfl).trans F));obtain⟨z1,E⟩:=bJ u (show 1<2 by omega);obtain⟨x1,⟨r1,o1⟩,T⟩:=(dK Tryz.underlying3:Rd e (BK H) Tryz.prog w 3 _ _) n ((cs.drop 1).take 1) z1 (fld (t:=3) (o:=1) (m:=1) (by kernel_rfl) ((I 1 _ rfl).trans E));refine⟨⟨x0,x1⟩,⟨?_,?_⟩,fun m O=>⟨b0 m (aQ F O),T m (aQ E O)⟩⟩
 . have:=aY (o:=0) (m:=1) r0 (aY (o:=1) (m:=1) r1 (jX (by omega)))
   rw[List.drop_zero]at this;exact this
 . have:=bH (o:=0) (m:=1) Z (bH (o:=1) (m:=1) o1 (lW (by omega)))
   rw[List.drop_zero]at this;exact this
theorem Gv:Rd e (BK H) Tryz.prog w 105 (fun l:List Point=>[.sl (l.map bU)]) (bL Im):=lF (sz:=2) Tryz.underlying105 (by kernel_rfl) (by omega) (fun _=>rfl) (Wz)
def aeM(n:Nat)(x:Arc):Prop:=iL n x.src/\iL n x.dst/\iL n x.profile/\iL n x.miles/\(bL Im) n x.travel/\(bL Im) n x.slow
theorem acX:Rd e (BK H) Tryz.prog w 107 fL aeM:=by
 intro aa cs y h;obtain⟨xs,n,rfl,rfl,hl,u,E⟩:=DataW.trod_struct Tryz.underlying107 h;have u:xs.length=6:=u;have hl:cs.length=6:=hl.trans (by kernel_rfl);obtain⟨z0,T⟩:=bJ u (show 0<6 by omega);obtain⟨x0,⟨r0,o0⟩,b0⟩:=(dK Tryz.underlying3:Rd e (BK H) Tryz.prog w 3 _ _) n ((cs.drop 0).take 1) z0 (fld (t:=3) (o:=0) (m:=1) (by kernel_rfl) ((E 0 _ rfl).trans T));obtain⟨z1,M⟩:=bJ u (show 1<6 by omega);obtain⟨x1,⟨r1,o1⟩,b1⟩:=(dK Tryz.underlying3:Rd e (BK H) Tryz.prog w 3 _ _) n ((cs.drop 1).take 1) z1 (fld (t:=3) (o:=1) (m:=1) (by kernel_rfl) ((E 1 _ rfl).trans M));obtain⟨z2,I⟩:=bJ u (show 2<6 by omega);obtain⟨x2,⟨r2,o2⟩,b2⟩:=(dK Tryz.underlying3:Rd e (BK H) Tryz.prog w 3 _ _) n ((cs.drop 2).take 1) z2 (fld (t:=3) (o:=2) (m:=1) (by kernel_rfl) ((E 2 _ rfl).trans I));obtain⟨z3,Z⟩:=bJ u (show 3<6 by omega);obtain⟨x3,⟨r3,o3⟩,b3⟩:=(dK Tryz.underlying3:Rd e (BK H) Tryz.prog w 3 _ _) n ((cs.drop 3).take 1) z3 (fld (t:=3) (o:=3) (m:=1) (by kernel_rfl) ((E 3 _ rfl).trans Z));obtain⟨z4,J⟩:=bJ u (show 4<6 by omega);obtain⟨x4,⟨r4,o4⟩,b4⟩:=(Gv:Rd e (BK H) Tryz.prog w 105 _ _) n ((cs.drop 4).take 1) z4 (fld (t:=105) (o:=4) (m:=1) (by kernel_rfl) ((E 4 _ rfl).trans J));obtain⟨z5,O⟩:=bJ u (show 5<6 by omega);obtain⟨x5,⟨r5,o5⟩,b5⟩:=(Gv:Rd e (BK H) Tryz.prog w 105 _ _) n ((cs.drop 5).take 1) z5 (fld (t:=105) (o:=5) (m:=1) (by kernel_rfl) ((E 5 _ rfl).trans O));refine⟨⟨x0,x1,x2,x3,x4,x5⟩,⟨?_,?_⟩,fun m F=>⟨b0 m (aQ T F),b1 m (aQ M F),b2 m (aQ I F),b3 m (aQ Z F),b4 m (aQ J F),b5 m (aQ O F)⟩⟩
 . have:=aY (o:=0) (m:=1) r0 (aY (o:=1) (m:=1) r1 (aY (o:=2) (m:=1) r2 (aY (o:=3) (m:=1) r3 (aY (o:=4) (m:=1) r4 (aY (o:=5) (m:=1) r5 (jX (by omega)))))))
   rw[List.drop_zero]at this;exact this
 . have:=bH (o:=0) (m:=1) o0 (bH (o:=1) (m:=1) o1 (bH (o:=2) (m:=1) o2 (bH (o:=3) (m:=1) o3 (bH (o:=4) (m:=1) o4 (bH (o:=5) (m:=1) o5 (lW (by omega)))))))
   rw[List.drop_zero]at this;exact this
theorem Y6:Rd e (BK H) Tryz.prog w 23 (fun l:List Arc=>[.sl (l.map fL)]) (bL aeM):=lF (sz:=6) Tryz.underlying23 (by kernel_rfl) (by omega) (fun _=>rfl) (acX)
def Lg(n:Nat)(x:Network):Prop:=(bL L5) n x.places/\(bL aeM) n x.arcs
theorem Oq:Rd e (BK H) Tryz.prog w 25 aU Lg:=by
 intro M cs y h;obtain⟨xs,n,rfl,rfl,J,u,I⟩:=DataW.trod_struct Tryz.underlying25 h;have u:xs.length=2:=u;have J:cs.length=2:=J.trans (by kernel_rfl);obtain⟨z0,F⟩:=bJ u (show 0<2 by omega);obtain⟨x0,⟨r0,Z⟩,b0⟩:=(aaV:Rd e (BK H) Tryz.prog w 22 _ _) n ((cs.drop 0).take 1) z0 (fld (t:=22) (o:=0) (m:=1) (by kernel_rfl) ((I 0 _ rfl).trans F));obtain⟨z1,E⟩:=bJ u (show 1<2 by omega);obtain⟨x1,⟨r1,o1⟩,T⟩:=(Y6:Rd e (BK H) Tryz.prog w 23 _ _) n ((cs.drop 1).take 1) z1 (fld (t:=23) (o:=1) (m:=1) (by kernel_rfl) ((I 1 _ rfl).trans E));refine⟨⟨x0,x1⟩,⟨?_,?_⟩,fun m O=>⟨b0 m (aQ F O),T m (aQ E O)⟩⟩
 . have:=aY (o:=0) (m:=1) r0 (aY (o:=1) (m:=1) r1 (jX (by omega)))
   rw[List.drop_zero]at this;exact this
 . have:=bH (o:=0) (m:=1) Z (bH (o:=1) (m:=1) o1 (lW (by omega)))
   rw[List.drop_zero]at this;exact this
theorem PB:Rd e (BK H) Tryz.prog w 86 (fun l:List Int=>[.sl (l.map bN)]) (bL iL):=lF (sz:=1) Tryz.underlying86 (by kernel_rfl) (by omega) (fun _=>rfl) (dK Tryz.underlying3)
def Ns(n:Nat)(x:VType):Prop:=L5 n x.name/\iL n x.count/\iL n x.src/\iL n x.dst/\(bL iL) n x.cap/\iL n x.skills/\iL n x.profile/\iL n x.start/\iL n x.close/\iL n x.drive/\iL n x.rest/\iL n x.fixed/\iL n x.perMile/\iL n x.perTick
theorem V9:Rd e (BK H) Tryz.prog w 113 bB Ns:=by
 intro a7 cs y h;obtain⟨xs,n,rfl,rfl,hl,u,F⟩:=DataW.trod_struct Tryz.underlying113 h;have u:xs.length=14:=u;have hl:cs.length=14:=hl.trans (by kernel_rfl);obtain⟨z0,af⟩:=bJ u (show 0<14 by omega);obtain⟨x0,⟨r0,o0⟩,b0⟩:=(Jf Tryz.underlying9:Rd e (BK H) Tryz.prog w 9 _ _) n ((cs.drop 0).take 1) z0 (fld (t:=9) (o:=0) (m:=1) (by kernel_rfl) ((F 0 _ rfl).trans af));obtain⟨z1,aa⟩:=bJ u (show 1<14 by omega);obtain⟨x1,⟨r1,o1⟩,b1⟩:=(dK Tryz.underlying3:Rd e (BK H) Tryz.prog w 3 _ _) n ((cs.drop 1).take 1) z1 (fld (t:=3) (o:=1) (m:=1) (by kernel_rfl) ((F 1 _ rfl).trans aa));obtain⟨z2,T⟩:=bJ u (show 2<14 by omega);obtain⟨x2,⟨r2,o2⟩,b2⟩:=(dK Tryz.underlying3:Rd e (BK H) Tryz.prog w 3 _ _) n ((cs.drop 2).take 1) z2 (fld (t:=3) (o:=2) (m:=1) (by kernel_rfl) ((F 2 _ rfl).trans T));obtain⟨z3,ag⟩:=bJ u (show 3<14 by omega);obtain⟨x3,⟨r3,o3⟩,b3⟩:=(dK Tryz.underlying3:Rd e (BK H) Tryz.prog w 3 _ _) n ((cs.drop 3).take 1) z3 (fld (t:=3) (o:=3) (m:=1) (by kernel_rfl) ((F 3 _ rfl).trans ag));obtain⟨z4,Z⟩:=bJ u (show 4<14 by omega);obtain⟨x4,⟨r4,o4⟩,b4⟩:=(PB:Rd e (BK H) Tryz.prog w 86 _ _) n ((cs.drop 4).take 1) z4 (fld (t:=86) (o:=4) (m:=1) (by kernel_rfl) ((F 4 _ rfl).trans Z));obtain⟨z5,ab⟩:=bJ u (show 5<14 by omega);obtain⟨x5,⟨r5,o5⟩,b5⟩:=(dK Tryz.underlying3:Rd e (BK H) Tryz.prog w 3 _ _) n ((cs.drop 5).take 1) z5 (fld (t:=3) (o:=5) (m:=1) (by kernel_rfl) ((F 5 _ rfl).trans ab));obtain⟨z6,ah⟩:=bJ u (show 6<14 by omega);obtain⟨x6,⟨r6,o6⟩,b6⟩:=(dK Tryz.underlying3:Rd e (BK H) Tryz.prog w 3 _ _) n ((cs.drop 6).take 1) z6 (fld (t:=3) (o:=6) (m:=1) (by kernel_rfl) ((F 6 _ rfl).trans ah));obtain⟨z7,ae⟩:=bJ u (show 7<14 by omega);obtain⟨x7,⟨r7,o7⟩,b7⟩:=(dK Tryz.underlying3:Rd e (BK H) Tryz.prog w 3 _ _) n ((cs.drop 7).take 1) z7 (fld (t:=3) (o:=7) (m:=1) (by kernel_rfl) ((F 7 _ rfl).trans ae));obtain⟨z8,ad⟩:=bJ u (show 8<14 by omega);obtain⟨x8,⟨r8,o8⟩,b8⟩:=(dK Tryz.underlying3:Rd e (BK H) Tryz.prog w 3 _ _) n ((cs.drop 8).take 1) z8 (fld (t:=3) (o:=8) (m:=1) (by kernel_rfl) ((F 8 _ rfl).trans ad));obtain⟨z9,ac⟩:=bJ u (show 9<14 by omega);obtain⟨x9,⟨r9,o9⟩,b9⟩:=(dK Tryz.underlying3:Rd e (BK H) Tryz.prog w 3 _ _) n ((cs.drop 9).take 1) z9 (fld (t:=3) (o:=9) (m:=1) (by kernel_rfl) ((F 9 _ rfl).trans ac));obtain⟨az,O⟩:=bJ u (show 10<14 by omega);obtain⟨ao,⟨ax,aw⟩,am⟩:=(dK Tryz.underlying3:Rd e (BK H) Tryz.prog w 3 _ _) n ((cs.drop 10).take 1) az (fld (t:=3) (o:=10) (m:=1) (by kernel_rfl) ((F 10 _ rfl).trans O));obtain⟨ai,M⟩:=bJ u (show 11<14 by omega);obtain⟨ap,⟨au,av⟩,an⟩:=(dK Tryz.underlying3:Rd e (BK H) Tryz.prog w 3 _ _) n ((cs.drop 11).take 1) ai (fld (t:=3) (o:=11) (m:=1) (by kernel_rfl) ((F 11 _ rfl).trans M));obtain⟨ar,J⟩:=bJ u (show 12<14 by omega);obtain⟨ay,⟨al,aj⟩,a5⟩:=(dK Tryz.underlying3:Rd e (BK H) Tryz.prog w 3 _ _) n ((cs.drop 12).take 1) ar (fld (t:=3) (o:=12) (m:=1) (by kernel_rfl) ((F 12 _ rfl).trans J));obtain⟨a4,I⟩:=bJ u (show 13<14 by omega);obtain⟨a6,⟨a0,ak⟩,aq⟩:=(dK Tryz.underlying3:Rd e (BK H) Tryz.prog w 3 _ _) n ((cs.drop 13).take 1) a4 (fld (t:=3) (o:=13) (m:=1) (by kernel_rfl) ((F 13 _ rfl).trans I));refine⟨⟨x0,x1,x2,x3,x4,x5,x6,x7,x8,x9,ao,ap,ay,a6⟩,⟨?_,?_⟩,fun m E=>⟨b0 m (aQ af E),b1 m (aQ aa E),b2 m (aQ T E),b3 m (aQ ag E),b4 m (aQ Z E),b5 m (aQ ab E),b6 m (aQ ah E),b7 m (aQ ae E),b8 m (aQ ad E),b9 m (aQ ac E),am m (aQ O E),an m (aQ M E),a5 m (aQ J E),aq m (aQ I E)⟩⟩
 . have:=aY (o:=0) (m:=1) r0 (aY (o:=1) (m:=1) r1 (aY (o:=2) (m:=1) r2 (aY (o:=3) (m:=1) r3 (aY (o:=4) (m:=1) r4 (aY (o:=5) (m:=1) r5 (aY (o:=6) (m:=1) r6 (aY (o:=7) (m:=1) r7 (aY (o:=8) (m:=1) r8 (aY (o:=9) (m:=1) r9 (aY (o:=10) (m:=1) ax (aY (o:=11) (m:=1) au (aY (o:=12) (m:=1) al (aY (o:=13) (m:=1) a0 (jX (by omega)))))))))))))))
   rw[List.drop_zero]at this;exact this
 . have:=bH (o:=0) (m:=1) o0 (bH (o:=1) (m:=1) o1 (bH (o:=2) (m:=1) o2 (bH (o:=3) (m:=1) o3 (bH (o:=4) (m:=1) o4 (bH (o:=5) (m:=1) o5 (bH (o:=6) (m:=1) o6 (bH (o:=7) (m:=1) o7 (bH (o:=8) (m:=1) o8 (bH (o:=9) (m:=1) o9 (bH (o:=10) (m:=1) aw (bH (o:=11) (m:=1) av (bH (o:=12) (m:=1) aj (bH (o:=13) (m:=1) ak (lW (by omega)))))))))))))))
   rw[List.drop_zero]at this;exact this
theorem SM:Rd e (BK H) Tryz.prog w 26 (fun l:List VType=>[.sl (l.map bB)]) (bL Ns):=lF (sz:=14) Tryz.underlying26 (by kernel_rfl) (by omega) (fun _=>rfl) (V9)
def U8(n:Nat)(x:Stop):Prop:=iL n x.place/\iL n x.start/\iL n x.close/\iL n x.service
theorem PD:Rd e (BK H) Tryz.prog w 109 dR U8:=by
 intro Z cs y h;obtain⟨xs,n,rfl,rfl,T,u,M⟩:=DataW.trod_struct Tryz.underlying109 h;have u:xs.length=4:=u;have T:cs.length=4:=T.trans (by kernel_rfl);obtain⟨z0,F⟩:=bJ u (show 0<4 by omega);obtain⟨x0,⟨r0,o0⟩,b0⟩:=(dK Tryz.underlying3:Rd e (BK H) Tryz.prog w 3 _ _) n ((cs.drop 0).take 1) z0 (fld (t:=3) (o:=0) (m:=1) (by kernel_rfl) ((M 0 _ rfl).trans F));obtain⟨z1,E⟩:=bJ u (show 1<4 by omega);obtain⟨x1,⟨r1,o1⟩,b1⟩:=(dK Tryz.underlying3:Rd e (BK H) Tryz.prog w 3 _ _) n ((cs.drop 1).take 1) z1 (fld (t:=3) (o:=1) (m:=1) (by kernel_rfl) ((M 1 _ rfl).trans E));obtain⟨z2,I⟩:=bJ u (show 2<4 by omega);obtain⟨x2,⟨r2,o2⟩,b2⟩:=(dK Tryz.underlying3:Rd e (BK H) Tryz.prog w 3 _ _) n ((cs.drop 2).take 1) z2 (fld (t:=3) (o:=2) (m:=1) (by kernel_rfl) ((M 2 _ rfl).trans I));obtain⟨z3,J⟩:=bJ u (show 3<4 by omega);obtain⟨x3,⟨r3,o3⟩,b3⟩:=(dK Tryz.underlying3:Rd e (BK H) Tryz.prog w 3 _ _) n ((cs.drop 3).take 1) z3 (fld (t:=3) (o:=3) (m:=1) (by kernel_rfl) ((M 3 _ rfl).trans J));refine⟨⟨x0,x1,x2,x3⟩,⟨?_,?_⟩,fun m O=>⟨b0 m (aQ F O),b1 m (aQ E O),b2 m (aQ I O),b3 m (aQ J O)⟩⟩
 . have:=aY (o:=0) (m:=1) r0 (aY (o:=1) (m:=1) r1 (aY (o:=2) (m:=1) r2 (aY (o:=3) (m:=1) r3 (jX (by omega)))))
   rw[List.drop_zero]at this;exact this
 . have:=bH (o:=0) (m:=1) o0 (bH (o:=1) (m:=1) o1 (bH (o:=2) (m:=1) o2 (bH (o:=3) (m:=1) o3 (lW (by omega)))))
   rw[List.drop_zero]at this;exact this
def OC(n:Nat)(x:Order):Prop:=L5 n x.name/\(bL iL) n x.load/\U8 n x.pick/\U8 n x.drop/\iL n x.skills/\iL n x.penalty/\iL n x.split/\iL n x.last/\iL n x.now/\abB n x.off
theorem Wm:Rd e (BK H) Tryz.prog w 111 bD OC:=by
 intro ae cs y h;obtain⟨xs,n,rfl,rfl,hl,u,E⟩:=DataW.trod_struct Tryz.underlying111 h;have u:xs.length=10:=u;have hl:cs.length=16:=hl.trans (by kernel_rfl);obtain⟨z0,aa⟩:=bJ u (show 0<10 by omega);obtain⟨x0,⟨r0,o0⟩,b0⟩:=(Jf Tryz.underlying9:Rd e (BK H) Tryz.prog w 9 _ _) n ((cs.drop 0).take 1) z0 (fld (t:=9) (o:=0) (m:=1) (by kernel_rfl) ((E 0 _ rfl).trans aa));obtain⟨z1,O⟩:=bJ u (show 1<10 by omega);obtain⟨x1,⟨r1,o1⟩,b1⟩:=(PB:Rd e (BK H) Tryz.prog w 86 _ _) n ((cs.drop 1).take 1) z1 (fld (t:=86) (o:=1) (m:=1) (by kernel_rfl) ((E 1 _ rfl).trans O));obtain⟨z2,I⟩:=bJ u (show 2<10 by omega);obtain⟨x2,⟨r2,o2⟩,b2⟩:=(PD:Rd e (BK H) Tryz.prog w 109 _ _) n ((cs.drop 2).take 4) z2 (fld (t:=109) (o:=2) (m:=4) (by kernel_rfl) ((E 2 _ rfl).trans I));obtain⟨z3,ac⟩:=bJ u (show 3<10 by omega);obtain⟨x3,⟨r3,o3⟩,b3⟩:=(PD:Rd e (BK H) Tryz.prog w 109 _ _) n ((cs.drop 6).take 4) z3 (fld (t:=109) (o:=6) (m:=4) (by kernel_rfl) ((E 3 _ rfl).trans ac));obtain⟨z4,M⟩:=bJ u (show 4<10 by omega);obtain⟨x4,⟨r4,o4⟩,b4⟩:=(dK Tryz.underlying3:Rd e (BK H) Tryz.prog w 3 _ _) n ((cs.drop 10).take 1) z4 (fld (t:=3) (o:=10) (m:=1) (by kernel_rfl) ((E 4 _ rfl).trans M));obtain⟨z5,T⟩:=bJ u (show 5<10 by omega);obtain⟨x5,⟨r5,o5⟩,b5⟩:=(dK Tryz.underlying3:Rd e (BK H) Tryz.prog w 3 _ _) n ((cs.drop 11).take 1) z5 (fld (t:=3) (o:=11) (m:=1) (by kernel_rfl) ((E 5 _ rfl).trans T));obtain⟨z6,ad⟩:=bJ u (show 6<10 by omega);obtain⟨x6,⟨r6,o6⟩,b6⟩:=(dK Tryz.underlying3:Rd e (BK H) Tryz.prog w 3 _ _) n ((cs.drop 12).take 1) z6 (fld (t:=3) (o:=12) (m:=1) (by kernel_rfl) ((E 6 _ rfl).trans ad));obtain⟨z7,J⟩:=bJ u (show 7<10 by omega);obtain⟨x7,⟨r7,o7⟩,b7⟩:=(dK Tryz.underlying3:Rd e (BK H) Tryz.prog w 3 _ _) n ((cs.drop 13).take 1) z7 (fld (t:=3) (o:=13) (m:=1) (by kernel_rfl) ((E 7 _ rfl).trans J));obtain⟨z8,ab⟩:=bJ u (show 8<10 by omega);obtain⟨x8,⟨r8,o8⟩,b8⟩:=(dK Tryz.underlying3:Rd e (BK H) Tryz.prog w 3 _ _) n ((cs.drop 14).take 1) z8 (fld (t:=3) (o:=14) (m:=1) (by kernel_rfl) ((E 8 _ rfl).trans ab));obtain⟨z9,Z⟩:=bJ u (show 9<10 by omega);obtain⟨x9,⟨r9,o9⟩,b9⟩:=(XI Tryz.underlying4:Rd e (BK H) Tryz.prog w 4 _ _) n ((cs.drop 15).take 1) z9 (fld (t:=4) (o:=15) (m:=1) (by kernel_rfl) ((E 9 _ rfl).trans Z));refine⟨⟨x0,x1,x2,x3,x4,x5,x6,x7,x8,x9⟩,⟨?_,?_⟩,fun m F=>⟨b0 m (aQ aa F),b1 m (aQ O F),b2 m (aQ I F),b3 m (aQ ac F),b4 m (aQ M F),b5 m (aQ T F),b6 m (aQ ad F),b7 m (aQ J F),b8 m (aQ ab F),b9 m (aQ Z F)⟩⟩
 . have:=aY (o:=0) (m:=1) r0 (aY (o:=1) (m:=1) r1 (aY (o:=2) (m:=4) r2 (aY (o:=6) (m:=4) r3 (aY (o:=10) (m:=1) r4 (aY (o:=11) (m:=1) r5 (aY (o:=12) (m:=1) r6 (aY (o:=13) (m:=1) r7 (aY (o:=14) (m:=1) r8 (aY (o:=15) (m:=1) r9 (jX (by omega)))))))))))
   rw[List.drop_zero]at this;exact this
 . have:=bH (o:=0) (m:=1) o0 (bH (o:=1) (m:=1) o1 (bH (o:=2) (m:=4) o2 (bH (o:=6) (m:=4) o3 (bH (o:=10) (m:=1) o4 (bH (o:=11) (m:=1) o5 (bH (o:=12) (m:=1) o6 (bH (o:=13) (m:=1) o7 (bH (o:=14) (m:=1) o8 (bH (o:=15) (m:=1) o9 (lW (by omega)))))))))))
   rw[List.drop_zero]at this;exact this
theorem RG:Rd e (BK H) Tryz.prog w 27 (fun l:List Order=>[.sl (l.map bD)]) (bL OC):=lF (sz:=16) Tryz.underlying27 (by kernel_rfl) (by omega) (fun _=>rfl) (Wm)
def PJ(n:Nat)(x:Pair):Prop:=iL n x.a/\iL n x.b
theorem YU:Rd e (BK H) Tryz.prog w 194 bZ PJ:=by
 intro M cs y h;obtain⟨xs,n,rfl,rfl,J,E,I⟩:=DataW.trod_array Tryz.underlying194 h;have J:cs.length=2:=J.trans (by kernel_rfl);obtain⟨z0,F⟩:=bJ E (show 0<2 by omega);obtain⟨x0,⟨r0,Z⟩,b0⟩:=(dK Tryz.underlying3:Rd e (BK H) Tryz.prog w 3 _ _) n ((cs.drop 0).take 1) z0 (fld (t:=3) (o:=0) (m:=1) (by kernel_rfl) ((I 0 (by omega)).trans F));obtain⟨z1,u⟩:=bJ E (show 1<2 by omega);obtain⟨x1,⟨r1,o1⟩,T⟩:=(dK Tryz.underlying3:Rd e (BK H) Tryz.prog w 3 _ _) n ((cs.drop 1).take 1) z1 (fld (t:=3) (o:=1) (m:=1) (by kernel_rfl) ((I 1 (by omega)).trans u));refine⟨⟨x0,x1⟩,⟨?_,?_⟩,fun m O=>⟨b0 m (aQ F O),T m (aQ u O)⟩⟩
 . have:=aY (o:=0) (m:=1) r0 (aY (o:=1) (m:=1) r1 (jX (by omega)))
   rw[List.drop_zero]at this;exact this
 . have:=bH (o:=0) (m:=1) Z (bH (o:=1) (m:=1) o1 (lW (by omega)))
   rw[List.drop_zero]at this;exact this
theorem Kb:Rd e (BK H) Tryz.prog w 28 (fun l:List Pair=>[.sl (l.map bZ)]) (bL PJ):=lF (sz:=2) Tryz.underlying28 (by kernel_rfl) (by omega) (fun _=>rfl) (YU)
def Bo(n:Nat)(x:Instance):Prop:=Lg n x.net/\(bL Ns) n x.types/\(bL OC) n x.orders/\(bL PJ) n x.apart/\(bL PJ) n x.before
theorem LB:Rd e (BK H) Tryz.prog w 30 aH Bo:=by
 intro aa cs y h;obtain⟨xs,n,rfl,rfl,Z,u,J⟩:=DataW.trod_struct Tryz.underlying30 h;have u:xs.length=5:=u;have Z:cs.length=6:=Z.trans (by kernel_rfl);obtain⟨z0,M⟩:=bJ u (show 0<5 by omega);obtain⟨x0,⟨r0,o0⟩,b0⟩:=(Oq:Rd e (BK H) Tryz.prog w 25 _ _) n ((cs.drop 0).take 2) z0 (fld (t:=25) (o:=0) (m:=2) (by kernel_rfl) ((J 0 _ rfl).trans M));obtain⟨z1,I⟩:=bJ u (show 1<5 by omega);obtain⟨x1,⟨r1,o1⟩,b1⟩:=(SM:Rd e (BK H) Tryz.prog w 26 _ _) n ((cs.drop 2).take 1) z1 (fld (t:=26) (o:=2) (m:=1) (by kernel_rfl) ((J 1 _ rfl).trans I));obtain⟨z2,E⟩:=bJ u (show 2<5 by omega);obtain⟨x2,⟨r2,o2⟩,b2⟩:=(RG:Rd e (BK H) Tryz.prog w 27 _ _) n ((cs.drop 3).take 1) z2 (fld (t:=27) (o:=3) (m:=1) (by kernel_rfl) ((J 2 _ rfl).trans E));obtain⟨z3,O⟩:=bJ u (show 3<5 by omega);obtain⟨x3,⟨r3,o3⟩,b3⟩:=(Kb:Rd e (BK H) Tryz.prog w 28 _ _) n ((cs.drop 4).take 1) z3 (fld (t:=28) (o:=4) (m:=1) (by kernel_rfl) ((J 3 _ rfl).trans O));obtain⟨z4,F⟩:=bJ u (show 4<5 by omega);obtain⟨x4,⟨r4,o4⟩,b4⟩:=(Kb:Rd e (BK H) Tryz.prog w 28 _ _) n ((cs.drop 5).take 1) z4 (fld (t:=28) (o:=5) (m:=1) (by kernel_rfl) ((J 4 _ rfl).trans F));refine⟨⟨x0,x1,x2,x3,x4⟩,⟨?_,?_⟩,fun m T=>⟨b0 m (aQ M T),b1 m (aQ I T),b2 m (aQ E T),b3 m (aQ O T),b4 m (aQ F T)⟩⟩
 . have:=aY (o:=0) (m:=2) r0 (aY (o:=2) (m:=1) r1 (aY (o:=3) (m:=1) r2 (aY (o:=4) (m:=1) r3 (aY (o:=5) (m:=1) r4 (jX (by omega))))))
   rw[List.drop_zero]at this;exact this
 . have:=bH (o:=0) (m:=2) o0 (bH (o:=2) (m:=1) o1 (bH (o:=3) (m:=1) o2 (bH (o:=4) (m:=1) o3 (bH (o:=5) (m:=1) o4 (lW (by omega))))))
   rw[List.drop_zero]at this;exact this
def adL(n:Nat)(x:Cut):Prop:=iL n x.kind/\iL n x.set/\iL n x.n
theorem aeY:Rd e (BK H) Tryz.prog w 115 dX adL:=by
 intro T cs y h;obtain⟨xs,n,rfl,rfl,O,u,J⟩:=DataW.trod_struct Tryz.underlying115 h;have u:xs.length=3:=u;have O:cs.length=3:=O.trans (by kernel_rfl);obtain⟨z0,F⟩:=bJ u (show 0<3 by omega);obtain⟨x0,⟨r0,o0⟩,b0⟩:=(dK Tryz.underlying3:Rd e (BK H) Tryz.prog w 3 _ _) n ((cs.drop 0).take 1) z0 (fld (t:=3) (o:=0) (m:=1) (by kernel_rfl) ((J 0 _ rfl).trans F));obtain⟨z1,E⟩:=bJ u (show 1<3 by omega);obtain⟨x1,⟨r1,o1⟩,Z⟩:=(dK Tryz.underlying3:Rd e (BK H) Tryz.prog w 3 _ _) n ((cs.drop 1).take 1) z1 (fld (t:=3) (o:=1) (m:=1) (by kernel_rfl) ((J 1 _ rfl).trans E));obtain⟨z2,I⟩:=bJ u (show 2<3 by omega);obtain⟨x2,⟨r2,o2⟩,b2⟩:=(dK Tryz.underlying3:Rd e (BK H) Tryz.prog w 3 _ _) n ((cs.drop 2).take 1) z2 (fld (t:=3) (o:=2) (m:=1) (by kernel_rfl) ((J 2 _ rfl).trans I));refine⟨⟨x0,x1,x2⟩,⟨?_,?_⟩,fun m M=>⟨b0 m (aQ F M),Z m (aQ E M),b2 m (aQ I M)⟩⟩
 . have:=aY (o:=0) (m:=1) r0 (aY (o:=1) (m:=1) r1 (aY (o:=2) (m:=1) r2 (jX (by omega))))
   rw[List.drop_zero]at this;exact this
 . have:=bH (o:=0) (m:=1) o0 (bH (o:=1) (m:=1) o1 (bH (o:=2) (m:=1) o2 (lW (by omega))))
   rw[List.drop_zero]at this;exact this
theorem Y4:Rd e (BK H) Tryz.prog w 31 (fun l:List Cut=>[.sl (l.map dX)]) (bL adL):=lF (sz:=3) Tryz.underlying31 (by kernel_rfl) (by omega) (fun _=>rfl) (aeY)
def xM(n:Nat)(x:Decision):Prop:=iL n x.kind/\iL n x.a/\iL n x.b/\iL n x.n
theorem L0:Rd e (BK H) Tryz.prog w 95 aW xM:=by
 intro Z cs y h;obtain⟨xs,n,rfl,rfl,T,u,M⟩:=DataW.trod_struct Tryz.underlying95 h;have u:xs.length=4:=u;have T:cs.length=4:=T.trans (by kernel_rfl);obtain⟨z0,F⟩:=bJ u (show 0<4 by omega);obtain⟨x0,⟨r0,o0⟩,b0⟩:=(dK Tryz.underlying3:Rd e (BK H) Tryz.prog w 3 _ _) n ((cs.drop 0).take 1) z0 (fld (t:=3) (o:=0) (m:=1) (by kernel_rfl) ((M 0 _ rfl).trans F));obtain⟨z1,E⟩:=bJ u (show 1<4 by omega);obtain⟨x1,⟨r1,o1⟩,b1⟩:=(dK Tryz.underlying3:Rd e (BK H) Tryz.prog w 3 _ _) n ((cs.drop 1).take 1) z1 (fld (t:=3) (o:=1) (m:=1) (by kernel_rfl) ((M 1 _ rfl).trans E));obtain⟨z2,I⟩:=bJ u (show 2<4 by omega);obtain⟨x2,⟨r2,o2⟩,b2⟩:=(dK Tryz.underlying3:Rd e (BK H) Tryz.prog w 3 _ _) n ((cs.drop 2).take 1) z2 (fld (t:=3) (o:=2) (m:=1) (by kernel_rfl) ((M 2 _ rfl).trans I));obtain⟨z3,J⟩:=bJ u (show 3<4 by omega);obtain⟨x3,⟨r3,o3⟩,b3⟩:=(dK Tryz.underlying3:Rd e (BK H) Tryz.prog w 3 _ _) n ((cs.drop 3).take 1) z3 (fld (t:=3) (o:=3) (m:=1) (by kernel_rfl) ((M 3 _ rfl).trans J));refine⟨⟨x0,x1,x2,x3⟩,⟨?_,?_⟩,fun m O=>⟨b0 m (aQ F O),b1 m (aQ E O),b2 m (aQ I O),b3 m (aQ J O)⟩⟩
 . have:=aY (o:=0) (m:=1) r0 (aY (o:=1) (m:=1) r1 (aY (o:=2) (m:=1) r2 (aY (o:=3) (m:=1) r3 (jX (by omega)))))
   rw[List.drop_zero]at this;exact this
 . have:=bH (o:=0) (m:=1) o0 (bH (o:=1) (m:=1) o1 (bH (o:=2) (m:=1) o2 (bH (o:=3) (m:=1) o3 (lW (by omega)))))
   rw[List.drop_zero]at this;exact this
theorem IU:Rd e (BK H) Tryz.prog w 32 (fun l:List Decision=>[.sl (l.map aW)]) (bL xM):=lF (sz:=4) Tryz.underlying32 (by kernel_rfl) (by omega) (fun _=>rfl) (L0)
theorem X4:Rd e (BK H) Tryz.prog w 33 (fun l:List ByteArray=>[.sl (l.map fJ)]) (bL L5):=lF (sz:=1) Tryz.underlying33 (by kernel_rfl) (by omega) (fun _=>rfl) (Jf Tryz.underlying44)
def abU(n:Nat)(x:Ask3):Prop:=Bo n x.x/\(bL adL) n x.cuts/\(bL xM) n x.d/\(bL L5) n x.dual
theorem Yv:Rd e (BK H) Tryz.prog w 35 gJ abU:=by
 intro Z cs y h;obtain⟨xs,n,rfl,rfl,T,u,M⟩:=DataW.trod_struct Tryz.underlying35 h;have u:xs.length=4:=u;have T:cs.length=9:=T.trans (by kernel_rfl);obtain⟨z0,F⟩:=bJ u (show 0<4 by omega);obtain⟨x0,⟨r0,o0⟩,b0⟩:=(LB:Rd e (BK H) Tryz.prog w 30 _ _) n ((cs.drop 0).take 6) z0 (fld (t:=30) (o:=0) (m:=6) (by kernel_rfl) ((M 0 _ rfl).trans F));obtain⟨z1,E⟩:=bJ u (show 1<4 by omega);obtain⟨x1,⟨r1,o1⟩,b1⟩:=(Y4:Rd e (BK H) Tryz.prog w 31 _ _) n ((cs.drop 6).take 1) z1 (fld (t:=31) (o:=6) (m:=1) (by kernel_rfl) ((M 1 _ rfl).trans E));obtain⟨z2,I⟩:=bJ u (show 2<4 by omega);obtain⟨x2,⟨r2,o2⟩,b2⟩:=(IU:Rd e (BK H) Tryz.prog w 32 _ _) n ((cs.drop 7).take 1) z2 (fld (t:=32) (o:=7) (m:=1) (by kernel_rfl) ((M 2 _ rfl).trans I));obtain⟨z3,J⟩:=bJ u (show 3<4 by omega);obtain⟨x3,⟨r3,o3⟩,b3⟩:=(X4:Rd e (BK H) Tryz.prog w 33 _ _) n ((cs.drop 8).take 1) z3 (fld (t:=33) (o:=8) (m:=1) (by kernel_rfl) ((M 3 _ rfl).trans J));refine⟨⟨x0,x1,x2,x3⟩,⟨?_,?_⟩,fun m O=>⟨b0 m (aQ F O),b1 m (aQ E O),b2 m (aQ I O),b3 m (aQ J O)⟩⟩
 . have:=aY (o:=0) (m:=6) r0 (aY (o:=6) (m:=1) r1 (aY (o:=7) (m:=1) r2 (aY (o:=8) (m:=1) r3 (jX (by omega)))))
   rw[List.drop_zero]at this;exact this
 . have:=bH (o:=0) (m:=6) o0 (bH (o:=6) (m:=1) o1 (bH (o:=7) (m:=1) o2 (bH (o:=8) (m:=1) o3 (lW (by omega)))))
   rw[List.drop_zero]at this;exact this
end
end Go.Aw.D
end
section
namespace Go.Proofs.YtohmomanmikphaaGreatDoor
open Go.Aw Go.Aw.D Go.Proofs Go.RowKit Go.ChangeShapes Go.WideShapes Go.ChangeAt
section
variable{H:Type}{e:TypeId×Value->H}{P:Program}{W W':World}
theorem KF{f:FuncId}{args:List AV}{vals:List Value}(h:PC P f args (.v (.bool true)))(I:Ir W)(O:bF (Sw W) W args vals):
   Calls P f vals.toArray W fun E W'=>E=.returned (.bool true)/\Below W.heap.size W W':=
 (h (Sw W) W vals (agU W I) (fun _ h=>h) O).mono fun E W' ⟨v,r,H',S',M,J,_,F,u,_⟩=>by
   subst J;simp only[rep]at F;subst F;exact⟨M,u.os,u.tape,u.output,u.size,u.same⟩
theorem Af(M:laidOutB P=true)(J:Below W.heap.size W W'):∀{E:List TypeId} {vs:List Value} {ds:List (DataW H)} {ps:List MemPlace},(∀t∈E,P.readableRec t=true/\t<P.types.size) ->
   DataW.TrodAll e P W 0 (fun _=>true) true E vs ds ps->(∀x∈ps,x.block<W.heap.size)->∀F:Nat->Bool,(∀x∈ps,F x.block=true)->DataW.TrodAll e P W' 0 F true E vs ds ps
 | [],[],[],_,_,h,_,_,_=>h
 | t::E,v::vs,d::ds,ps,ht,⟨p,q,h1,h2,he⟩,hlt,F,hs=>by
   subst he;have h0:=ht t (by simp);exact⟨p,q,WideElems.Trod_stays M h0.1 h0.2 h1 (fun x u=>J.same (hlt x (by simp[u]))) (fun x u=>hs x (by simp[u])),
     Af M J (fun t I=>ht t (by simp[I])) h2 (fun x u=>hlt x (by simp[u])) F (fun x u=>hs x (by simp[u])),rfl⟩
theorem Pk{t:TypeId}{fs:Array Field}{α:Type}{enc:α->List AV}{b:Nat->α->Prop}{r:Reach}{I:Nat}{v:Value}{d:DataW H}{O:List MemPlace}(F:P.underlying t=some (.struct fs))
   (M:Rd e (BK H) P W t enc b) (E:Value.okWide P W r I t v) (Z:DataW.Trod e P W 0 (fun _=>true) true t v d O):∃x:α,rep (Sw W) W (.agg (enc x)) v/\∀n,BK H d<=n->b n x:=by
 obtain⟨cs,rfl,_⟩:=okWide_struct F E;obtain⟨u,h⟩:=Z;obtain⟨x,⟨h1,T⟩,J⟩:=M u _ _ h;refine⟨x,?_,J⟩;simp only[rep];exact⟨cs.toList,by simp,h1,T⟩
theorem Ry{fn:Func}{s:ChangeSpec}{args:Array Value}{ds gs:List (DataW H)}{before:List MemPlace}(hl:laidOutB P=true)(af:∀t∈fn.params.toList,P.readableRec t=true/\t<P.types.size)
   (u:s.vars=[]) {tb:TypeId} (T:P.underlying tb=some .bool) (O:fn.resultTypes=#[tb]) (hW:DataW.Whole e P fn.params.toList s.vars false W args.toList ds gs before)
   (Z:(s.fn H (ds++gs)).results=[.lit (.bool true)]) (I:(s.fn H (ds++gs)).args=ds) (ad:(s.fn H (ds++gs)).vars=[]) (hb:Below W.heap.size W W'):
   s.post e P fn false true false false W args (.bool true) W':=by
 have J:=hW.lt;have ae:=hW;obtain⟨p,q,hA,hV,rfl,ab,ag⟩:=hW;rw[u]at hV;obtain⟨rfl,rfl⟩:=trodVars_none hV;have hk:W.keptBut W' (·∈p++[]):=hb.frame _;have M:∀x∈p++[],(fun b=>decide (b<W.heap.size)) x.block=true:=fun x F=>by simpa using J x F
 have r1:∀(b:Nat) (E:Nat->Bool) (hd:Bool),DataW.TrodAll e P W' b E hd fn.resultTypes.toList ((Value.bool true).resultList fn.resultTypes.size) (s.fn H (ds++[])).results []:=fun b E hd=>by
   rw[O,Z];exact trodAll_cons_mk (shut_bool T _) trodAll_mk0
 have r2:∀E:Nat->Bool,(∀x∈p++[],E x.block=true)->DataW.TrodAll e P W' 0 E true fn.params.toList args.toList (s.fn H (ds++[])).args p:=fun E ac=>by
   rw[I];exact Af hl hb af hA (fun x F=>J x (by simp[F])) E (fun x F=>ac x (by simp[F]))
 have r3:∀E:Nat->Bool,DataW.TrodVars e P W' E s.vars (s.fn H (ds++[])).vars []:=fun E=>by
   rw[u,ad];simp[DataW.TrodVars]
 refine⟨ds,[],p++[],[],p,[],ae,r1 _ _ _,r2 _ M,r3 _,World.keptBut_mono (fun x F=>⟨F,.inr (by simpa using F)⟩) hk,fun _=>?_⟩;refine⟨?_,_,_,([]++p)++[],⟨[]++p,[],trodAll_append (r2 _ (fun _ _=>rfl)) (r1 _ _ _),r3 _,rfl,?_,?_⟩,?_⟩
 . exact ok_one O rfl (okWide_bool_mk T _)
 . intro b off hp
   have aa:MemPlace.cell b off∈p++[]:=by simpa using hp
   rw[hb.frozen (J _ aa)];exact ab b off aa
 . intro ha;simp at ha
 . intro x F _
   simpa using F
end
end Go.Proofs.YtohmomanmikphaaGreatDoor
end
section
namespace Go.Proofs.YtohmomanmikphaaGreatDoor
open Go.Proofs.Tryz(prog)
def dG(n N:Int):Bool:=decide (n<0)||decide (n>=N)
end Go.Proofs.YtohmomanmikphaaGreatDoor
namespace Go.Proofs.YtohmomanmikphaaGreatDoor.Mv
open Go.Proofs.Tryz(prog)
open Go.Aw Go.Aw.D Go.Proofs Ty
theorem bW{H:aG}{k:IntKind}{a b:Int}(h:a=b):Conv H (.v (.int k a)) (.v (.int k b)):=h▸.refl _
theorem cN{H:aG}{a b:Bool}(h:a=b):Conv H (.v (.bool a)) (.v (.bool b)):=h▸.refl _
abbrev wA(l:List Int):Row:=⟨3,1,l.map bN⟩
theorem U0{n:Int}(h:0<=n/\n<18446744073709551616):IntKind.u64.wrap n=n:=by
 have e:IntKind.u64.wrap n=n%18446744073709551616:=rfl;rw[e];omega
theorem aT{α:Type}{p:α->Prop}{l:List α}{k:Nat}{x:α}(F:l[k]?=some x)(E:p x)(h:∀x∈l.take k,p x):∀x∈l.take (k+1),p x:=by
 rw[bQ F];intro y u;rcases Xba.1 u with u|u
 . exact h y u
 . simp at u;subst u;exact E
theorem NC.pc{f:FuncId}{args:List AV}{r:Row}(h:NC prog f args r .os):PC prog f args (.sl r.es):=
 RC.conv (RC.mono h fun x H' ⟨k,u,E⟩=>u▸.row k r r.es E (ConvE.refl _))
end Go.Proofs.YtohmomanmikphaaGreatDoor.Mv
end
section
namespace Go.Proofs.YtohmomanmikphaaGreatDoor.Sq
open Go.Aw Go.Aw.D Go.Proofs Ty
open Mv (bW cN NC.pc aT)
def Uo(s i:Int):Bool:=decide (s>=0)&&decide (i>=0)&&decide (i<=62)&&((shV .shr .i64 s (IntKind.u64.wrap i)).tmod 2 == 1)
def Y2(s n:Int):Int:=if Uo s n=true then s else IntKind.i64.wrap (s+shV .shl .i64 1 (IntKind.u64.wrap n))
def Fq(v:Visit):Bool:=decide (v.order<0)||decide (v.order>62)
def abD(l:List Visit):Int:=l.foldl (fun s v=>Y2 s v.order) 0
def mP(l:List Visit):Int×Int:=if l.any Fq=true then(0,2)else(abD l,0)
def Em(v u:Visit):Bool:=u.order == v.order&&(u.drop == v.drop&&true)
def lU{α:Type}(p:α->Bool):List α->Int->Int
 | [],_=> -1
 | x::r,n=>if p x=true then n else lU p r (n+1)
theorem mS{α:Type}{p:α->Bool}{l:List α}{k:Nat}{x:α}(h:∀y∈l.take k,p y=false)(u:l[k]?=some x)(F:p x=true):∀n,lU p l n=n+k:=by
 induction l generalizing k with
 | nil=>simp at u
 | cons a r ih=>
   intro n;cases k with
   | zero=>simp at u;subst u;simp only[lU];rw[if_pos F];simp
   | succ k=>
     have h0:=h a (by simp);simp only[lU];rw[if_neg (by rw[h0];simp),ih (k:=k) (fun y E=>h y (by simp[E])) (by simpa using u)];omega
theorem kN{α:Type}{p:α->Bool}{l:List α}(h:∀y∈l,p y=false):∀n,lU p l n= -1:=by
 induction l with
 | nil=>intro n;rfl
 | cons a r ih=>intro n;simp only[lU];rw[if_neg (by rw[h a (by simp)];simp)];exact ih (fun y u=>h y (by simp[u])) _
def eV(l:List Visit)(v:Visit):Int:=lU (Em v) l 0
def Oi(l s:List Visit):Bool:=s.all fun v=> !decide (eV l v<0)
def AT(l vs:List Visit)(v:Visit):Bool:=decide (eV vs v<0)|| !Oi l vs||((vs.length:Int) == 2&&decide (eV l (vs.getD 0 ⟨0,false⟩)>eV l (vs.getD 1 ⟨0,false⟩)))
def fG(l:List Visit)(j:Nat):Int:=(l.getD j ⟨0,false⟩).order
theorem sN{l:List Visit}{j:Nat}{v:Visit}(h:l[j]?=some v):fG l j=v.order:=by simp[fG,List.getD,h]
def Zu(l:List Visit)(a b:Int)(j k:Nat):Bool:=fG l j == a&&fG l k == b
def Uj(l:List Visit)(a b:Int):Bool:=(List.range l.length).any fun j=>(List.range j).any fun k=>Zu l a b j k
def LM(x:Instance)(i:Int):Bool:=match x.orders[i.toNat]? with|some o=>o.off|none=>false
theorem BA{α:Type}{p:α->Bool}{l:List α}(h:∀x∈l,p x=false):l.any p=false:=by
 rw[List.any_eq_false];intro x u;rw[h x u];simp
def jE(a c:List Int):Bool:=((a.length:Int) == (c.length:Int))&&(List.range a.length).all fun i=> !decide (a.getD i 0>c.getD i 0)
def kB(x:Instance):Int:=match x.types[0]? with|some t=>t.cap.length|none=>0
def rD(l:List Int):List AV:=[.sl (l.map bN)]
end Go.Proofs.YtohmomanmikphaaGreatDoor.Sq
end
section
namespace Go.Proofs.YtohmomanmikphaaGreatDoor.Sq
open Go.Aw Go.Aw.D Go.Proofs Ty
open Mv (bW cN NC.pc aT)
open Mv (bW cN NC.pc aT)
abbrev akH(ll:List (List Int)):Row:=⟨86,1,ll.map rD⟩
def JT(x:Instance)(t:Int):List Int:=match x.types[t.toNat]? with|some t=>t.cap|none=>[]
def Iw(n:Network)(i:Int):Bool:=decide (i>=0)&&decide (i<(n.places.length:Int))
def An:Arc:=⟨0,0,0,0,[],[]⟩
def Kn(p f t:Int)(a:Arc):Bool:=a.src == f&&a.dst == t&&a.profile == p
def xA(n:Network)(p f t:Int):Option Arc:=n.arcs.find? (Kn p f t)
theorem Mg{α:Type}{p:α->Bool}{l:List α}{k:Nat}{x:α}(h:∀y∈l.take k,p y=false)(u:l[k]?=some x)(F:p x=true):l.find? p=some x:=by
 induction l generalizing k with
 | nil=>simp at u
 | cons a r ih=>
   cases k with
   | zero=>simp at u;subst u;simp[List.find?,F]
   | succ k=>
     have h0:=h a (by simp);rw[List.find?_cons,h0];exact ih (k:=k) (fun y E=>h y (by simp[E])) (by simpa using u)
theorem GC{α:Type}{p:α->Bool}{l:List α}(h:∀y∈l,p y=false):l.find? p=none:=List.find?_eq_none.2 fun y u=>by rw[h y u];simp
def W(n:Int):Int:=IntKind.i64.wrap n
def oK(l:List Point)(t:Int)(k:Nat):Bool:=decide ((dF l k).t<=t)&&decide (t<(dF l (k+1)).t)
def MG(p q:Point)(t:Int):Int:=W (p.a+IntKind.i64.wrap (Int.tdiv (W (W (W (W (W (t-p.t)*W (q.a-p.a))+q.t)-p.t)-1)) (W (q.t-p.t))))
def Al(e:Point)(t:Int):Int:=W (W (t+e.a)-e.t)
def BI(l:List Point)(t:Int):Bool:=decide (((iO l).length:Int)>0)||decide (t<0)||decide (t>1073741824)
def mK(l:List Point)(t:Int):Int:=
 if BI l t=true then 0 else match (List.range (l.length-1)).find? (oK l t)with
 | some k=>MG (dF l k) (dF l (k+1)) t
 | none=>if decide (t>(dF l 0).t)=true then Al (dF l (l.length-1)) t else Al (dF l 0) t
def i64B(n:Int):Prop:= -9223372036854775808<=n/\n<=9223372036854775807
theorem Zj{n:Int}(h:0<n/\n<18446744073709551616):¬IntKind.i64.wrap n=0:=by
 show ¬(if(true&&decide (n%18446744073709551616>=9223372036854775808))=true then n%18446744073709551616-18446744073709551616 else n%18446744073709551616)=0;by_cases h1:n%18446744073709551616>=9223372036854775808
 . rw[if_pos (by simpa using h1)];omega
 . rw[if_neg (by simpa using h1)];omega
end Go.Proofs.YtohmomanmikphaaGreatDoor.Sq
end
section
namespace Go.Proofs.YtohmomanmikphaaGreatDoor.Sq
open Go.Aw Go.Aw.D Go.Proofs Ty
open Mv (bW cN NC.pc aT)
def B4(t:Int)(s:Int)(p:Point):Int:=if decide (p.t<=t)=true then W (s+p.a)else s
def DR(a:Arc)(t:Int):Int:=a.slow.foldl (B4 t) (mK a.travel t)
structure ArcB(a:Arc):Prop where
 travel:a.travel.length<=1048576
 slow:a.slow.length<=1048576
 time:∀p∈a.travel,i64B p.t
structure NetB(n:Network):Prop where
 arcs:n.arcs.length<=1048576
 arc:∀a∈n.arcs,ArcB a
def iM(n:Network)(p f t time:Int):Int×Int×Int:=
 if(!Iw n f|| !Iw n t)=true then(0,0,11)else if(f == t)=true then(time,0,0)
 else match xA n p f t with|some a=>(DR a time,a.miles,0)|none=>(0,0,12)
structure Score where
 cost:Int
 moved:Int
 other:Int
 work:Int
def eY(s:Score):List AV:=[int s.cost,int s.moved,int s.other,int s.work]
def sI(l:List Visit)(n:Nat):Bool:=(List.range n).all fun i=> !(fG l i == fG l n)
def cR:Score:=⟨0,0,0,0⟩
def jH:Stop:=⟨0,0,0,0⟩
def vC(o:Order)(v:Visit):Stop:=if v.drop=true then o.drop else o.pick
def iF(x:Instance)(v:Visit):Stop×Bool:=if dG v.order x.orders.length=true then(jH,false)else
 match x.orders[v.order.toNat]? with
 | some o=>(vC o v,decide ((vC o v).place>=0))
 | none=>(jH,false)
def fN(x:Instance)(r:Route):Bool:=
 !(dG r.type x.types.length||decide (r.start<0)||decide (r.start>4096)||decide ((r.visits.length:Int)>20))&&r.visits.all fun v=>(iF x v).2
structure St8 where
 place:Int
 time:Int
 driven:Int
 miles:Int
structure Tm where
 arrive:Int
 begin_:Int
 depart:Int
 rest:Bool
def qB(t:Tm):List AV:=[int t.arrive,int t.begin_,int t.depart,boo t.rest]
theorem Q0(s:Tm):(qB s).length=4:=(rfl)
theorem Ti(s:Tm):(qB s).take 4=qB s:=(rfl)
attribute [go_sem] Q0 Ti
structure Sheet where
 rest:Bool
 depart:Int
 times:List Tm
 end_:Int
 miles:Int
def cM(s:Sheet):List AV:=[boo s.rest,int s.depart,.sl (s.times.map qB),int s.end_,int s.miles]
def cA:Sheet:=⟨false,0,[],0,0⟩
theorem yN{x:Instance}{r:Route}(h:fN x r=true):0<=r.type/\r.type<(x.types.length:Int):=by
 unfold fN at h;simp only[Xap,Xbm,Xak,dG,decide_eq_false_iff_not]at h;omega
theorem abG{H:aG}{i j:Nat}{r:Row}{a b:Option Row}(u:H i=some r)(E:H j=none):aI (aI H j a) j b i=some r:=by
 have h1:=aO u E;rw[aD _ _ _ _ h1,aD _ _ _ _ h1,u]
theorem abZ{H:aG}{i j:Nat}{r:Row}{b:Option Row}(u:H i=some r)(h1:i≠j):aI H j b i=some r:=by rw[aD _ _ _ _ h1,u]
theorem Ua{H:aG}{i j:Nat}{r r':Row}(E:H i=some r)(u:H j=some r')(h:(r.e == r'.e)=false):i≠j:=fun e=>by
 subst e;rw[E]at u;injection u with u;rw[u]at h;simp at h
abbrev xW(s:Stop):Row:=⟨109,4,[dR s]⟩
abbrev Cy(l:List Tm):Row:=⟨380,4,l.map qB⟩
abbrev oG(l:List Int):Row:=⟨3,1,l.map bN⟩
abbrev gF(cs:List AV):Row:=⟨260,5,[cs]⟩
abbrev zeroCells:List AV:=[boo false,int 0,.sl [],int 0,int 0]
abbrev XQ(l:List Bool):Row:=⟨4,1,l.map eG⟩
def BH(r:Route):List Bool:=r.rests++List.replicate (r.visits.length+1-r.rests.length) false
theorem gW(s:Sheet):(cM s).length=5:=(rfl)
theorem Nm(s:Sheet):(cM s).getD 3 .any=int s.end_:=(rfl)
theorem MJ(s:Sheet):(cM s).getD 4 .any=int s.miles:=(rfl)
theorem IX(s:Sheet):(cM s).take 5=cM s:=(rfl)
attribute [go_sem] Nm MJ IX
theorem M7{a:List Bool}{n:Nat}(h:a.length<=n):((List.replicate n [boo false]).take 0++(a.map eG).take (min (a.map eG).length (List.replicate n [boo false]).length))++(List.replicate n [boo false]).drop (0+min (a.map eG).length (List.replicate n [boo false]).length)=(a++List.replicate (n-a.length) false).map eG:=by
 have e:min (a.map eG).length (List.replicate n [boo false]).length=a.length:=by simp;omega
 rw[e,List.take_zero,Xax,Nat.zero_add,Xan (by simp),List.drop_replicate,Xam,List.map_replicate];rfl
theorem mL(s:Score):(eY s).length=4:=(rfl)
theorem Ox(s:Score):(eY s).getD 0 .any=int s.cost:=(rfl)
theorem OY(s:Score):(eY s).getD 1 .any=int s.moved:=(rfl)
theorem NA(s:Score):(eY s).getD 2 .any=int s.other:=(rfl)
theorem O5(s:Score):(eY s).getD 3 .any=int s.work:=(rfl)
theorem IL(s:Score):(eY s).take 4=eY s:=(rfl)
attribute [go_sem] gW mL Ox OY NA O5 IL
abbrev mY(s:Score):Row:=⟨262,4,[eY s]⟩
def Ob(o:Order)(t:Int):Bool:=o.now != -1&&o.now != t
def NJ(o:Order)(t:Int):Bool:=o.last != -1&&o.last != t
def EK(o:Order)(t:Int)(a:Score):Score:=if Ob o t=true then⟨a.cost,W (a.moved+1),a.other,a.work⟩else a
def Eg(o:Order)(t:Int)(a:Score):Score:=if NJ o t=true then⟨a.cost,a.moved,W (a.other+1),a.work⟩else a
def jM(x:Instance)(r:Route)(a:Score)(i:Nat):Score:=
 if(dG (fG r.visits i) x.orders.length|| !sI r.visits i)=true then a
 else match x.orders[(fG r.visits i).toNat]? with
 | some o=>Eg o r.type (EK o r.type a)
 | none=>a
def Bs(t:VType)(s:Sheet):Score:=
 ⟨W (W (t.fixed+W (t.perMile*s.miles))+W (t.perTick*W (s.end_-t.start))),0,0,
   W (W (Int.tdiv (W (s.end_-t.start)) 64)*W (Int.tdiv (W (s.end_-t.start)) 64))⟩
def Ul(x:Instance)(r:Route)(s:Sheet)(t:VType):Score:=(List.range r.visits.length).foldl (jM x r) (Bs t s)
def rI(x:Instance)(r:Route)(s:Sheet):Score:=
 if dG r.type x.types.length=true then cR else match x.types[r.type.toNat]? with
 | some t=>Ul x r s t
 | none=>cR
structure InsB(x:Instance):Prop where
 net:NetB x.net
 types:x.types.length<=1048576
 orders:x.orders.length<=1048576
 apart:x.apart.length<=1048576
 before:x.before.length<=1048576
structure PlanB(p:Plan):Prop where
 routes:p.routes.length<=1048576
 visits:∀r∈p.routes,r.visits.length<=1048576
 unserved:p.unserved.length<=1048576
theorem zI{P:Program}{C:kH}{PC:FuncId->List AV->aG->AV->Prop}{mt:Nat->Bool}{ops:Array Oper}{K:Env->aG->Prop}{m:Nat}{ρ:Env}{H:aG}(J:Env->aG->Prop)(h1:∀ρ H,J ρ H->K ρ H)
 (u:∀K':Env->aG->Prop,(∀ρ H,J ρ H->K' ρ H)->qW P C PC mt ops K' m ρ H):qW P C PC mt ops K m ρ H:=u K h1
end Go.Proofs.YtohmomanmikphaaGreatDoor.Sq
end
