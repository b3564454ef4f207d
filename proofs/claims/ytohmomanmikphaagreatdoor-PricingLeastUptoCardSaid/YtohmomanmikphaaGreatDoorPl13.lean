import Derived.Test.YtohmomanmikphaaGreatDoorRows
import Derived.Carry
import Derived.OpenShut
import Derived.JoinedCond
import Derived.WalkKit
import Derived.ProofKit
import Derived.WideKeyArgs
import Derived.Test.YtohmomanmikphaaGreatDoorPl12
set_option linter.unusedSimpArgs false
set_option linter.unusedVariables false
set_option maxRecDepth 100000
section
namespace Go.Proofs.YtohmomanmikphaaGreatDoor
open Go.Proofs.Tryz(prog)
open Go.Aw Go.Aw.D Go.Proofs Ty
def pAt(l:List Pair)(i:Nat):Pair:=l.getD i ⟨0,0⟩
theorem Jg{l:List Pair}{k:Nat}{p:Pair}(h:l[k]?=some p):pAt l k=p:=by simp[pAt,List.getD,h]
def yF(w:ByteArray)(k:Nat):ByteArray:=w++⟨#[32]⟩++jB k
def BB(N:Int)(p:Pair):Bool:=decide (p.a<0)||decide (p.a>=N)||decide (p.b<0)||decide (p.b>=N)||p.a == p.b
def xI(b:Bool)(p q:Pair):Bool:=(q.a == p.a&&q.b == p.b)||(b&&q.a == p.b&&q.b == p.a)
def gC(N:Int)(l:List Pair)(w:ByteArray)(b:Bool)(k:Nat):List Fault:=match BB N (pAt l k)with
 | true=>[⟨2,yF w k⟩]
 | false=>opt ((l.take k).any (xI b (pAt l k))) ⟨6,yF w k⟩
theorem yN(N:Int)(l:List Pair)(w:ByteArray)(b:Bool)(k:Nat):(gC N l w b k).length<=1:=by
 unfold gC;split
 . simp
 . exact cE _ _
def tF(N:Int)(l:List Pair)(w:ByteArray)(b:Bool):List Fault:=opt (decide ((l.length:Int)>16)) ⟨4,w⟩++(List.range l.length).flatMap (gC N l w b)
theorem L3(N:Int)(l:List Pair)(w:ByteArray)(b:Bool)(hl:l.length<=1048576)(hw:w.size<=1048576):
   NC prog 90 [int N,.sl (l.map cM),str w,boo b] (bO (tF N l w b)) .os:=by
 refine ncb (fun t=>t == 9) Tryz.func90 ?_;unfold Tryz.f90;simp only[gdS];simp only[go_sem];refine aK fun j hj=>?_
 simp only[go_sem];refine oN (fun u H'=>u 0=int N/\u 1=.sl (l.map cM)/\u 2=str w/\u 3=boo b/\∃T,u 9=.os T/\H' T=some (bO [])) ⟨by simp only[go_sem],by simp only[go_sem],by simp only[go_sem],by simp only[go_sem],_,by simp only[go_sem],aB _ _ _⟩ ?_;rintro ρ H ⟨h0,h1,I,F,j,J,M⟩;generalize ac:([]:List Fault)=es0 at M;have aq:es0.length<=0:=by rw[<-ac];exact Xaf _
 refine bH (fun u H'=>u 0=int N/\u 1=.sl (l.map cM)/\u 2=str w/\u 3=boo b/\∃T,u 9=.os T/\H' T=some (bO (es0++opt (decide ((l.length:Int)>16)) ⟨4,w⟩))) ?_ fun K hK=>aA (fun hb=>?_) (fun hb=>?_)
 rotate_left
 . simp only[go_sem,h0,h1,I,F,J]
   refine aX M ⟨rfl,rfl⟩ (by simp only[go_sem]) (by simp only[Xaa,Xad,List.length_nil];omega) (fun T am=>?_);simp only[go_sem];refine hK _ _ ⟨by simp only[go_sem,h0],by simp only[go_sem,h1],by simp only[go_sem,I],by simp only[go_sem,F],T,by simp only[go_sem],?_⟩;rw[iF (show(decide ((l.length:Int)>16))=true from hb)];exact eR (l':=[⟨4,w⟩]) rfl
 . simp only[go_sem]
   refine hK _ _ ⟨by simp only[go_sem,h0],by simp only[go_sem,h1],by simp only[go_sem,I],by simp only[go_sem,F],j,by simp only[go_sem,J],?_⟩;rw[iE (show(decide ((l.length:Int)>16))=false from hb),Xah,M]
 clear M h0 h1 I F J;rintro ρ H ⟨h0,h1,I,F,j,J,M⟩;generalize ab:es0++opt (decide ((l.length:Int)>16)) (⟨4,w⟩:Fault)=es1 at M;have ao:es1.length<=es0.length+1:=by rw[<-ab,Xac];have:=cE (decide ((l.length:Int)>16)) (⟨4,w⟩:Fault);omega
 simp only[go_sem,h0,h1,I,F,J];refine⟨fun ρ H=>∃k:Nat,k<=l.length/\ρ 0=int N/\ρ 1=.sl (l.map cM)/\ρ 2=str w/\ρ 3=boo b/\ρ 10=int k/\∃j,ρ 9=.os j/\H j=some (bO (es1++(List.range k).flatMap (gC N l w b))),fun ρ _=>l.length-aT (ρ 10),
   ⟨0,Xab _,by simp only[go_sem,h0],by simp only[go_sem,h1],by simp only[go_sem,I],by simp only[go_sem,F],by simp only[go_sem];rfl,j,by simp only[go_sem,J],by simpa using M⟩,?_⟩
 clear M h0 h1 I F J hj;rintro ρ H ⟨k,hk,h0,h1,I,F,E,j,J,M⟩;generalize ag:es1++(List.range k).flatMap (gC N l w b)=es at M;have ap:es.length<=k+1:=by
   have:=eT (yN N l w b) (List.range k);rw[<-ag,Xac];rw[Xau]at this;omega
 simp only[go_sem,h0,h1,I,F,J,E];refine aA (fun O=>?_) (fun ah=>?_)
 . have O:=bD O
   have ak:k<=4611686018427387904:=by omega
   obtain⟨p,hp⟩:=aN O;have b1:=inB O;have ar:=mV k;have au:(#[32]:Array UInt8).size=1:=rfl;have ad:es1++(List.range (k+1)).flatMap (gC N l w b)=es++gC N l w b k:=by rw[hJ,<-Xai,ag]
   simp only[go_sem,h0,h1,I,F,J,E,b1,aF hp];refine⟨by omega,by omega,by rw[uY];omega,?_⟩;refine PC.use (aeO _ (by omega)) ?_;simp only[go_sem,h0,h1,I,F,J,E];refine⟨by rw[uY];omega,?_⟩;refine aA (fun hb=>?_) (fun hb=>?_)
   . simp only[go_sem,h0,h1,I,F,J,E]
     refine aX M ⟨rfl,rfl⟩ (by simp only[go_sem]) (by simp only[Xaa,Xad,List.length_nil];omega) (fun T am=>?_);simp only[go_sem,h0,h1,I,F,E,aP ak];refine⟨⟨k+1,O,rfl,T,rfl,?_⟩,by simp only[aE];omega⟩;have hn:BB N (pAt l k)=true:=by rw[Jg hp];exact hb
     rw[ad,gC,hn];exact eR (l':=[⟨2,yF w k⟩]) rfl
   . simp only[go_sem,h0,h1,I,F,J,E]
     have hn:BB N (pAt l k)=false:=by rw[Jg hp];exact hb
     refine⟨fun ρ H'=>∃m:Nat,m<=k/\ρ 0=int N/\ρ 1=.sl (l.map cM)/\ρ 2=str w/\ρ 3=boo b/\ρ 9=.os j/\ρ 10=int k/\ρ 11=int p.a/\ρ 12=int p.b/\ρ 13=str (yF w k)/\ρ 14=boo ((l.take m).any (xI b p))/\ρ 15=int m/\H'=H,fun ρ _=>k-aT (ρ 15),
       ⟨0,Xab _,by simp only[go_sem,h0],by simp only[go_sem,h1],by simp only[go_sem,I],by simp only[go_sem,F],by simp only[go_sem,J],by simp only[go_sem,E],by simp only[go_sem],by simp only[go_sem],by simp only[go_sem];rfl,by simp only[go_sem];rfl,by simp only[go_sem];rfl,rfl⟩,?_⟩
     clear h0 h1 I F J E;rintro ρ H' ⟨m,hm,h0,h1,I,F,J,E,an,aj,af,ae,ai,rfl⟩;simp only[go_sem,h0,h1,I,F,J,E,an,aj,af,ae,ai];refine aA (fun Z=>?_) (fun aa=>?_)
     . have Z:=bD Z
       obtain⟨q,hq⟩:=aN (show m<l.length by omega);have b2:=inB (show m<l.length by omega);simp only[go_sem,h0,h1,I,F,J,E,an,aj,af,ae,ai,b2,aF hq,aP (show m<=4611686018427387904 by omega)];refine⟨fun _=>by omega,fun _=>by omega,fun _=>by omega,fun _=>by omega,⟨m+1,Z,?_,rfl⟩,by simp only[aE];omega⟩;rw[F9 hq];simp only[xI,Bool.or_assoc]
     . have aa:=bF hm aa
       subst aa;simp only[go_sem,ae];have al:(l.take m).any (xI b (pAt l m))=(l.take m).any (xI b p):=by rw[Jg hp]
       refine lC (fun u H'=>u 0=int N/\u 1=.sl (l.map cM)/\u 2=str w/\u 3=boo b/\u 10=int m/\∃j,u 9=.os j/\H' j=some (bO (es1++(List.range (m+1)).flatMap (gC N l w b)))) ?_ fun K hK _ _=>aA (fun hb=>?_) (fun hb=>?_)
       . clear M h0 h1 I F J E
         rintro ρ H ⟨h0,h1,I,F,E,j,J,M⟩;simp only[go_sem,h0,h1,I,F,J,E,aP ak];exact⟨⟨m+1,O,rfl,j,rfl,M⟩,by simp only[aE];omega⟩
       . simp only[go_sem,h0,h1,I,F,J,E,af]
         refine aX M ⟨rfl,rfl⟩ (by simp only[go_sem]) (by simp only[Xaa,Xad,List.length_nil];omega) (fun T am=>?_);simp only[go_sem];refine hK _ _ ⟨by simp only[go_sem,h0],by simp only[go_sem,h1],by simp only[go_sem,I],by simp only[go_sem,F],by simp only[go_sem,E],T,by simp only[go_sem],?_⟩;rw[ad,gC,hn];show _=some (bO (es++opt _ ⟨6,yF w m⟩));rw[iF (al.trans hb)];exact eR (l':=[⟨6,yF w m⟩]) rfl
       . simp only[go_sem]
         refine hK _ _ ⟨by simp only[go_sem,h0],by simp only[go_sem,h1],by simp only[go_sem,I],by simp only[go_sem,F],by simp only[go_sem,E],j,by simp only[go_sem,J],?_⟩;rw[ad,gC,hn];show _=some (bO (es++opt _ ⟨6,yF w m⟩));rw[iE (al.trans hb),Xah,M]
 . have ah:=bF hk ah
   subst ah;simp only[go_sem,J];exact⟨_,rfl,by rw[M,<-ag,<-ab,<-ac];rfl⟩
theorem oT:∀l:List Fault,cZ 2 (l.map fV)
 | []=>trivial
 | f::r=>⟨rfl,oT r⟩
theorem uX(N:Int)(l:List Pair)(w:ByteArray)(b:Bool):(tF N l w b).length<=l.length+1:=by
 have:=eT (yN N l w b) (List.range l.length);have u:=cE (decide ((l.length:Int)>16)) (⟨4,w⟩:Fault);rw[tF,Xac];rw[Xau]at this;omega
theorem Ky(N:Int)(u E:List Pair)(M:u.length<=1048576)(F:E.length<=1048576):
   NC prog 54 [int N,.sl (u.map cM),.sl (E.map cM)] (bO (tF N u ⟨#[97,112,97,114,116]⟩ true++tF N E ⟨#[98,101,102,111,114,101]⟩ false)) .os:=by
 refine ncb (fun t=>t == 7) Tryz.func54 ?_;unfold Tryz.f54;simp only[gdS];simp only[go_sem];refine NC.use (L3 N u ⟨#[97,112,97,114,116]⟩ true M (by decide)) fun j hj=>?_
 simp only[go_sem];refine NC.use (L3 N E ⟨#[98,101,102,111,114,101]⟩ false F (by decide)) fun i J=>?_
 simp only[go_sem];have Z:=uX N u ⟨#[97,112,97,114,116]⟩ true;have T:=uX N E ⟨#[98,101,102,111,114,101]⟩ false;refine Bo (jV (aB _ _ _) J) (aB _ _ _) ⟨rfl,rfl⟩ (oT _) (by simp only[Xaa];omega) (fun O I=>?_);simp only[go_sem];exact⟨_,rfl,eR rfl⟩
theorem NC.pc{f:FuncId}{args:List AV}{row:Row}(h:NC prog f args row .os):PC prog f args (.sl row.es):=
 RC.conv (RC.mono h fun r H' ⟨k,e,u⟩=>by subst e;exact .row k row row.es u (ConvE.refl _))
def mB(l:List Arc)(i:Nat):Arc:=l.getD i ⟨0,0,0,0,[],[]⟩
theorem oW{l:List Arc}{k:Nat}{p:Arc}(h:l[k]?=some p):mB l k=p:=by simp[mB,List.getD,h]
def gR(k:Nat):ByteArray:=⟨#[97,114,99,32]⟩++jB k
def uW(N:Int)(a:Arc):Bool:=decide (a.src<0)||decide (a.src>=N)||decide (a.dst<0)||decide (a.dst>=N)
def AX(a:Arc):Bool:=decide (a.profile<0)||decide (a.profile>7)||decide (a.miles<0)||decide (a.miles>10000)||a.src == a.dst
def qE(a b:Arc):Bool:=a.src == b.src&&a.dst == b.dst&&a.profile == b.profile
def nF(l:List Point)(i:Nat):Bool:= !inR (dX l i).t 0 4096|| !inR (dX l i).a 0 4096||decide ((i:Int)>0)&&decide ((dX l i).t<=(dX l (i-1)).t)
def Fi(n:Network)(k:Nat):List Fault:=
 []++opt (uW n.places.length (mB n.arcs k)) ⟨11,gR k⟩++opt (AX (mB n.arcs k)) ⟨2,gR k⟩++opt ((n.arcs.take k).any (qE (mB n.arcs k))) ⟨6,gR k⟩
   ++ (jR (mB n.arcs k).travel).map (fun f=>⟨f.err,gR k⟩)++opt (decide (((mB n.arcs k).slow.length:Int)>16)) ⟨4,gR k⟩
   ++ (List.range (mB n.arcs k).slow.length).flatMap fun i=>opt (nF (mB n.arcs k).slow i) ⟨2,gR k⟩
theorem Tv(l:List Point)(u:l.length<=1048576):PC prog 143 [.sl (l.map cA)] (.sl ((jR l).map fV)):=NC.pc (WM l u)
theorem Dq(l:List Point):(jR l).length<=2*l.length+1:=by
 have:=eT (Y3 l) (List.range l.length);have u:=cE (F8 l.length 1 16) (⟨4,ByteArray.empty⟩:Fault);rw[jR,Xac];rw[Xau]at this;omega
theorem auN(n:Network)(k:Nat)(hk:k<n.arcs.length)(hp:n.places.length<=1048576)(hl:n.arcs.length<=1048576)(hs:∀a∈n.arcs,a.travel.length<=1048576/\a.slow.length<=1048576):
   NC prog 85 [.agg (aY n),int k] (bO (Fi n k)) .os:=by
 refine ncb (fun t=>t == 5) Tryz.func85 ?_;unfold Tryz.f85;simp only[gdS];simp only[go_sem];obtain⟨a,ha⟩:=aN hk;have b1:=inB hk;have aw:=hs a (iY ha);have a8:=mV k;refine aK fun j hj=>?_
 simp only[go_sem];refine PC.use (qQ _ (by omega)) ?_;simp only[go_sem,b1,aF ha];have h4:(#[97,114,99,32]:Array UInt8).size=4:=rfl;refine⟨by rw[uY];omega,aK fun i M=>?_⟩;simp only[go_sem];refine aJ (aB _ _ _) (by simp[jF]) ?_;simp only[go_sem];have E:j≠i:=aQ (aB _ _ _) M;have au:gR k=⟨#[97,114,99,32]⟩++jB k:=rfl;refine oN (fun u H'=>u 1=int k/\u 2=.rp (aY n) 0/\u 6=str (gR k)/\u 7=.op i 0 0/\H' i=some (tR a)/\∃j',u 5=.os j'/\j'≠i/\H' j'=some (bO []))
   ⟨by simp only[go_sem],by simp only[go_sem],by simp only[go_sem,au],by simp only[go_sem],aB _ _ _,j,by simp only[go_sem],E,by rw[aD _ _ _ _ E,aD _ _ _ _ E,aB];rfl⟩ ?_
 clear M hj E;rintro ρ H ⟨h1,h2,F,I,M,j,J,E,O⟩;generalize ah:([]:List Fault)=es0 at O;have a0:es0.length<=0:=by rw[<-ah];exact Xaf _
 refine bH (fun u H'=>u 1=int k/\u 2=.rp (aY n) 0/\u 6=str (gR k)/\u 7=.op i 0 0/\H' i=some (tR a)/\∃j',u 5=.os j'/\j'≠i/\H' j'=some (bO (es0++opt (uW n.places.length a) ⟨11,gR k⟩))) ?_ fun K hK=>aA (fun hb=>?_) (fun hb=>?_)
 rotate_left
 . simp only[go_sem,h1,h2,F,I,J]
   refine aX O ⟨rfl,rfl⟩ (by simp only[go_sem]) (by simp only[Xaa,Xad,List.length_nil];omega) (fun j' T=>?_);simp only[go_sem];refine hK _ _ ⟨by simp only[go_sem,h1],by simp only[go_sem,h2],by simp only[go_sem,F],by simp only[go_sem,I],dH M E T,j',by simp only[go_sem],(aQ M T).symm,?_⟩;rw[iF (show(uW n.places.length a)=true from hb)];exact eR (l':=[⟨11,gR k⟩]) rfl
 . simp only[go_sem]
   refine hK _ _ ⟨by simp only[go_sem,h1],by simp only[go_sem,h2],by simp only[go_sem,F],by simp only[go_sem,I],M,j,by simp only[go_sem,J],E,?_⟩;rw[iE (show(uW n.places.length a)=false from hb),Xah,O]
 clear O h1 h2 F I J;rintro ρ H ⟨h1,h2,F,I,M,j,J,E,O⟩;generalize ak:es0++opt (uW n.places.length a) (⟨11,gR k⟩:Fault)=es1 at O;have a5:es1.length<=es0.length+1:=by rw[<-ak,Xac];have:=cE (uW n.places.length a) (⟨11,gR k⟩:Fault);omega
 simp only[go_sem,h1,h2,F,I,J,M];refine bH (fun u H'=>u 1=int k/\u 2=.rp (aY n) 0/\u 6=str (gR k)/\u 7=.op i 0 0/\H' i=some (tR a)/\∃j',u 5=.os j'/\j'≠i/\H' j'=some (bO (es1++opt (AX a) ⟨2,gR k⟩))) ?_ fun K hK=>aA (fun hb=>?_) (fun hb=>?_)
 rotate_left
 . simp only[go_sem,h1,h2,F,I,J]
   refine aX O ⟨rfl,rfl⟩ (by simp only[go_sem]) (by simp only[Xaa,Xad,List.length_nil];omega) (fun j' T=>?_);simp only[go_sem];refine hK _ _ ⟨by simp only[go_sem,h1],by simp only[go_sem,h2],by simp only[go_sem,F],by simp only[go_sem,I],dH M E T,j',by simp only[go_sem],(aQ M T).symm,?_⟩;rw[iF (show(AX a)=true from hb)];exact eR (l':=[⟨2,gR k⟩]) rfl
 . simp only[go_sem]
   refine hK _ _ ⟨by simp only[go_sem,h1],by simp only[go_sem,h2],by simp only[go_sem,F],by simp only[go_sem,I],M,j,by simp only[go_sem,J],E,?_⟩;rw[iE (show(AX a)=false from hb),Xah,O]
 clear O h1 h2 F I J;rintro ρ H ⟨h1,h2,F,I,M,j,J,E,O⟩;generalize ag:es1++opt (AX a) (⟨2,gR k⟩:Fault)=es2 at O;have a6:es2.length<=es1.length+1:=by rw[<-ag,Xac];have:=cE (AX a) (⟨2,gR k⟩:Fault);omega
 simp only[go_sem,h1,h2,F,I,J,M];refine⟨fun u H'=>∃m:Nat,m<=k/\u 1=int k/\u 2=.rp (aY n) 0/\u 6=str (gR k)/\u 7=.op i 0 0/\u 5=.os j/\u 8=boo ((n.arcs.take m).any (qE a))/\u 9=int m/\H' i=some (tR a)/\H' j=some (bO es2),fun ρ _=>k-aT (ρ 9),
   ⟨0,Xab _,by simp only[go_sem,h1],by simp only[go_sem,h2],by simp only[go_sem,F],by simp only[go_sem,I],by simp only[go_sem,J],by simp only[go_sem];rfl,by simp only[go_sem];rfl,M,O⟩,?_⟩
 clear h1 h2 F I J M O;rintro ρ H ⟨m,hm,h1,h2,F,I,J,h8,h9,M,O⟩;simp only[go_sem,h1,h2,F,I,J,h8,h9];refine aA (fun Z=>?_) (fun ab=>?_)
 . have Z:=bD Z
   obtain⟨c,hc⟩:=aN (show m<n.arcs.length by omega);have b2:=inB (show m<n.arcs.length by omega);simp only[go_sem,h1,h2,F,I,J,h8,h9,b2,aF hc];refine aK fun x hx=>?_
   simp only[go_sem];refine aJ (aB _ _ _) (by simp[jF]) ?_;have ac:=aQ M hx;have ad:=aQ O hx;simp only[go_sem,h1,h2,F,I,J,h8,h9,aD _ _ _ _ ac,M,aP (show m<=4611686018427387904 by omega)];refine⟨⟨m+1,Z,?_,rfl,?_⟩,by simp only[aE];omega⟩
   . rw[F9 hc];simp only[qE]
   . rw[aD _ _ _ _ ad,aD _ _ _ _ ad,O]
 . have ab:=bF hm ab
   subst ab;simp only[go_sem,h1,h2,F,I,J,h8,h9];clear h1 h2 h8 h9;refine bH (fun u H'=>u 6=str (gR m)/\u 7=.op i 0 0/\H' i=some (tR a)/\∃j',u 5=.os j'/\j'≠i/\H' j'=some (bO (es2++opt ((n.arcs.take m).any (qE a)) ⟨6,gR m⟩))) ?_ fun K hK=>aA (fun hb=>?_) (fun hb=>?_)
   rotate_left
   . simp only[go_sem,F,I,J]
     refine aX O ⟨rfl,rfl⟩ (by simp only[go_sem]) (by simp only[Xaa,Xad,List.length_nil];omega) (fun j' T=>?_);simp only[go_sem];refine hK _ _ ⟨by simp only[go_sem,F],by simp only[go_sem,I],dH M E T,j',by simp only[go_sem],(aQ M T).symm,?_⟩;rw[iF (show((n.arcs.take m).any (qE a))=true from hb)];exact eR (l':=[⟨6,gR m⟩]) rfl
   . simp only[go_sem]
     refine hK _ _ ⟨by simp only[go_sem,F],by simp only[go_sem,I],M,j,by simp only[go_sem,J],E,?_⟩;rw[iE (show((n.arcs.take m).any (qE a))=false from hb),Xah,O]
   clear O F I J;rintro ρ H ⟨F,I,M,j,J,E,O⟩;generalize aj:es2++opt ((n.arcs.take m).any (qE a)) (⟨6,gR m⟩:Fault)=es3 at O;have a4:es3.length<=es2.length+1:=by rw[<-aj,Xac];have:=cE ((n.arcs.take m).any (qE a)) (⟨6,gR m⟩:Fault);omega
   simp only[go_sem,F,I,J,M];refine PC.use (Tv a.travel aw.1) ?_;simp only[go_sem];have ax:=Dq a.travel;have ap:(jR (mB n.arcs m).travel).map (fun f=>(⟨f.err,gR m⟩:Fault))=(jR a.travel).map (fun f=>⟨f.err,gR m⟩):=by rw[oW ha]
   generalize jR a.travel=tr at ax ap;refine⟨fun ρ H=>∃q:Nat,q<=tr.length/\ρ 6=str (gR m)/\ρ 7=.op i 0 0/\ρ 11=.sl (tr.map fV)/\ρ 12=int q/\H i=some (tR a)/\∃j,ρ 5=.os j/\j≠i/\H j=some (bO (es3++(tr.take q).map fun f=>⟨f.err,gR m⟩)),fun ρ _=>tr.length-aT (ρ 12),
     ⟨0,Xab _,by simp only[go_sem,F],by simp only[go_sem,I],by simp only[go_sem],by simp only[go_sem];rfl,M,j,by simp only[go_sem,J],E,by simpa using O⟩,?_⟩
   clear F I J M O E;rintro ρ H ⟨q,hq,F,I,ae,af,M,j,J,E,O⟩;simp only[go_sem,F,I,J,ae,af];refine aA (fun Z=>?_) (fun ab=>?_)
   . have Z:=bD Z
     obtain⟨f,hf⟩:=aN Z;have b2:=inB Z;simp only[go_sem,F,I,J,ae,af,b2,aF hf];refine aX O ⟨rfl,rfl⟩ (by simp only[go_sem]) (by simp only[Xaa,Xac,Xal,Xad,List.length_nil];omega) (fun j' T=>?_);simp only[go_sem,F,I,J,ae,af,aP (show q<=4611686018427387904 by omega)];refine⟨⟨q+1,Z,rfl,dH M E T,j',rfl,(aQ M T).symm,?_⟩,by simp only[aE];omega⟩;rw[A8 hf,<-Xai];exact eR (l':=[⟨f.err,gR m⟩]) rfl
   . have ab:=bF hq ab
     subst ab;simp only[go_sem,F,I,J,ae,af,M];clear ae af;rw[Xag]at O;generalize ai:es3++tr.map (fun f=>(⟨f.err,gR m⟩:Fault))=es4 at O;have a7:es4.length=es3.length+tr.length:=by rw[<-ai,Xac,Xaa]
     refine bH (fun u H'=>u 6=str (gR m)/\u 7=.op i 0 0/\H' i=some (tR a)/\∃j',u 5=.os j'/\j'≠i/\H' j'=some (bO (es4++opt (decide ((a.slow.length:Int)>16)) ⟨4,gR m⟩))) ?_ fun K hK=>aA (fun hb=>?_) (fun hb=>?_)
     rotate_left
     . simp only[go_sem,F,I,J]
       refine aX O ⟨rfl,rfl⟩ (by simp only[go_sem]) (by simp only[Xaa,Xad,List.length_nil];omega) (fun j' T=>?_);simp only[go_sem];refine hK _ _ ⟨by simp only[go_sem,F],by simp only[go_sem,I],dH M E T,j',by simp only[go_sem],(aQ M T).symm,?_⟩;rw[iF (show(decide ((a.slow.length:Int)>16))=true from hb)];exact eR (l':=[⟨4,gR m⟩]) rfl
     . simp only[go_sem]
       refine hK _ _ ⟨by simp only[go_sem,F],by simp only[go_sem,I],M,j,by simp only[go_sem,J],E,?_⟩;rw[iE (show(decide ((a.slow.length:Int)>16))=false from hb),Xah,O]
     clear O F I J;rintro ρ H ⟨F,I,M,j,J,E,O⟩;generalize al:es4++opt (decide ((a.slow.length:Int)>16)) (⟨4,gR m⟩:Fault)=es5 at O;have ay:es5.length<=es4.length+1:=by rw[<-al,Xac];have:=cE (decide ((a.slow.length:Int)>16)) (⟨4,gR m⟩:Fault);omega
     simp only[go_sem,F,I,J,M];refine⟨fun ρ H=>∃k:Nat,k<=a.slow.length/\ρ 6=str (gR m)/\ρ 7=.op i 0 0/\ρ 13=int k/\H i=some (tR a)/\∃j,ρ 5=.os j/\j≠i/\H j=some (bO (es5++(List.range k).flatMap fun x=>opt (nF a.slow x) ⟨2,gR m⟩)),fun ρ _=>a.slow.length-aT (ρ 13),
       ⟨0,Xab _,by simp only[go_sem,F],by simp only[go_sem,I],by simp only[go_sem];rfl,M,j,by simp only[go_sem,J],E,by simpa using O⟩,?_⟩
     clear F I J M O E;rintro ρ H ⟨k,hk,F,I,aa,M,j,J,E,O⟩;generalize ao:es5++(List.range k).flatMap (fun x=>opt (nF a.slow x) (⟨2,gR m⟩:Fault))=es at O;have az:es.length<=es5.length+k:=by
       have:=eT (f:=fun x=>opt (nF a.slow x) (⟨2,gR m⟩:Fault)) (c:=1) (fun x=>cE _ _) (List.range k);rw[<-ao,Xac];rw[Xau]at this;omega
     simp only[go_sem,F,I,J,aa,M];refine aA (fun Z=>?_) (fun ab=>?_)
     . have Z:=bD Z
       have am:k<=4611686018427387904:=by omega
       obtain⟨p,hp⟩:=aN Z;obtain⟨r,hr⟩:=aN (show k-1<a.slow.length by omega);have b2:=inB Z;simp only[go_sem,F,I,J,aa,M,b2,aF hp];refine aK fun x hx=>?_
       simp only[go_sem];refine aJ (aB _ _ _) (by simp[gH]) ?_;have ac:=aQ M hx;have ad:=aQ O hx;simp only[go_sem];refine dJ (by rfl) (by kernel_rfl) ?_;simp only[go_sem,F,I,J,aa,aD _ _ _ _ ac,M];refine⟨_,(V7 _).q rfl,?_⟩;simp only[go_sem,F,I,J,aa,aD _ _ _ _ ac,M];refine⟨_,fun _=>(V7 _).q rfl,?_⟩;simp only[go_sem,F,I,J,aa,aD _ _ _ _ ac,M,Y9 am,aF hr];have an:aI (aI H x (some ⟨104,2,[[int 0,int 0]]⟩)) x (some ⟨104,2,[cA p]⟩) i=some (tR a):=by rw[aD _ _ _ _ ac,aD _ _ _ _ ac,M]
       have aq:aI (aI H x (some ⟨104,2,[[int 0,int 0]]⟩)) x (some ⟨104,2,[cA p]⟩) j=some (bO es):=by rw[aD _ _ _ _ ad,aD _ _ _ _ ad,O]
       have ar:nF a.slow k=(!inR p.t 0 4096|| !inR p.a 0 4096||decide ((k:Int)>0)&&decide (p.t<=r.t)):=by rw[nF,eG hp,eG hr]
       have av:es5++(List.range (k+1)).flatMap (fun x=>opt (nF a.slow x) (⟨2,gR m⟩:Fault))=es++opt (nF a.slow k) ⟨2,gR m⟩:=by rw[hJ,<-Xai,ao]
       refine⟨fun h=>by
         have:(k:Int)>0:=by simpa using h.2
         rw[nX am];omega,lC (fun u H'=>u 6=str (gR m)/\u 7=.op i 0 0/\u 13=int k/\H' i=some (tR a)/\∃j,u 5=.os j/\j≠i/\H' j=some (bO (es++opt (nF a.slow k) ⟨2,gR m⟩))) ?_ fun K hK _ _=>aA (fun hb=>?_) (fun hb=>?_)⟩
       . clear F I J aa
         rintro ρ H ⟨F,I,aa,M,j,J,E,O⟩;simp only[go_sem,F,I,J,aa,aP am];exact⟨⟨k+1,Z,rfl,M,j,rfl,E,by rw[av];exact O⟩,by simp only[aE];omega⟩
       . simp only[go_sem,F,I,J,aa]
         refine aX aq ⟨rfl,rfl⟩ (by simp only[go_sem]) (by simp only[Xaa,Xad,List.length_nil];omega) (fun j' T=>?_);simp only[go_sem];refine hK _ _ ⟨by simp only[go_sem,F],by simp only[go_sem,I],by simp only[go_sem,aa],dH an E T,j',by simp only[go_sem],(aQ an T).symm,?_⟩;rw[iF (ar.trans hb)];exact eR (l':=[⟨2,gR m⟩]) rfl
       . simp only[go_sem]
         refine hK _ _ ⟨by simp only[go_sem,F],by simp only[go_sem,I],by simp only[go_sem,aa],an,j,by simp only[go_sem,J],E,?_⟩;rw[iE (ar.trans hb),Xah,aq]
     . have ab:=bF hk ab
       subst ab;simp only[go_sem,J];refine⟨_,rfl,?_⟩;rw[O,<-ao,<-al,<-ai,<-ap,<-aj,<-ag,<-ak,<-ah,Fi,oW ha]
theorem Fg(n:Network)(k:Nat)(O:(mB n.arcs k).travel.length<=1048576)(J:(mB n.arcs k).slow.length<=1048576):(Fi n k).length<=3145740:=by
 have h1:=cE (uW n.places.length (mB n.arcs k)) (⟨11,gR k⟩:Fault);have E:=cE (AX (mB n.arcs k)) (⟨2,gR k⟩:Fault);have I:=cE ((n.arcs.take k).any (qE (mB n.arcs k))) (⟨6,gR k⟩:Fault);have M:=Dq (mB n.arcs k).travel;have F:=cE (decide (((mB n.arcs k).slow.length:Int)>16)) (⟨4,gR k⟩:Fault);have u:=eT (f:=fun i=>opt (nF (mB n.arcs k).slow i) (⟨2,gR k⟩:Fault)) (c:=1) (fun x=>cE _ _) (List.range (mB n.arcs k).slow.length);rw[Xau]at u;simp only[Fi,Xac,Xaa,List.length_nil];omega
theorem DC{α E:Type}{f:α->List E}{c:Nat}:∀l:List α,(∀x∈l,(f x).length<=c)->(l.flatMap f).length<=c*l.length
 | [],_=>by simp
 | x::r,h=>by
   have h1:=h x (by simp);have F:=DC r fun y u=>h y (by simp[u])
   simp only[List.flatMap_cons,Xac,Xad,Nat.mul_add,Nat.mul_one];omega
def Gu(n:Network):List Fault:=wL n.places++opt (decide ((n.arcs.length:Int)>1024)) ⟨4,⟨#[97,114,99,115]⟩⟩++(List.range n.arcs.length).flatMap (Fi n)
theorem DY(l:List ByteArray):(wL l).length<=l.length+1:=by
 have:=eT (S4 l) (List.range l.length);have u:=cE (decide ((l.length:Int)>24)) (⟨4,⟨#[112,108,97,99,101,115]⟩⟩:Fault);rw[wL,Xac];rw[Xau]at this;omega
theorem auU(n:Network)(hp:n.places.length<=1048576)(ac:∀s∈n.places,s.size<=1048576)(hl:n.arcs.length<=1048576)(hs:∀a∈n.arcs,a.travel.length<=1048576/\a.slow.length<=1048576):
   NC prog 50 [.agg (aY n)] (bO (Gu n)) .os:=by
 have aa:∀k,(Fi n k).length<=3145740:=fun k=>by
   rcases Xar k n.arcs.length with h|h
   . obtain⟨a,ha⟩:=aN h
     have hm:=hs a (iY ha);exact Fg n k (by rw[oW ha];exact hm.1) (by rw[oW ha];exact hm.2)
   . have:mB n.arcs k=⟨0,0,0,0,[],[]⟩:=by simp[mB,List.getD,List.getElem?_eq_none h]
     exact Fg n k (by rw[this];simp) (by rw[this];simp)
 have ad:=DY n.places;refine ncb (fun t=>t == 3) Tryz.func50 ?_;unfold Tryz.f50;simp only[gdS];simp only[go_sem];refine NC.use (XF n hp ac) fun j hj=>?_
 simp only[go_sem];refine oN (fun F H'=>F 1=.rp (aY n) 0/\∃I,F 3=.os I/\H' I=some (bO (wL n.places))) ⟨by simp only[go_sem],j,by simp only[go_sem],aB _ _ _⟩ ?_;clear hj;rintro ρ H ⟨h1,j,E,u⟩;generalize Z:wL n.places=es0 at u ad;refine bH (fun F H'=>F 1=.rp (aY n) 0/\∃I,F 3=.os I/\H' I=some (bO (es0++opt (decide ((n.arcs.length:Int)>1024)) ⟨4,⟨#[97,114,99,115]⟩⟩))) ?_ fun K hK=>aA (fun hb=>?_) (fun hb=>?_)
 rotate_left
 . simp only[go_sem,h1,E]
   refine aX u ⟨rfl,rfl⟩ (by simp only[go_sem]) (by simp only[Xaa,Xad,List.length_nil];omega) (fun I ab=>?_);simp only[go_sem];refine hK _ _ ⟨by simp only[go_sem,h1],I,by simp only[go_sem],?_⟩;rw[iF (show(decide ((n.arcs.length:Int)>1024))=true from hb)];exact eR (l':=[⟨4,⟨#[97,114,99,115]⟩⟩]) rfl
 . simp only[go_sem]
   refine hK _ _ ⟨by simp only[go_sem,h1],j,by simp only[go_sem,E],?_⟩;rw[iE (show(decide ((n.arcs.length:Int)>1024))=false from hb),Xah,u]
 clear u h1 E;rintro ρ H ⟨h1,j,E,u⟩;generalize M:es0++opt (decide ((n.arcs.length:Int)>1024)) (⟨4,⟨#[97,114,99,115]⟩⟩:Fault)=es1 at u;have ae:es1.length<=es0.length+1:=by rw[<-M,Xac];have:=cE (decide ((n.arcs.length:Int)>1024)) (⟨4,⟨#[97,114,99,115]⟩⟩:Fault);omega
 simp only[go_sem,h1,E];refine⟨fun ρ H=>∃k:Nat,k<=n.arcs.length/\ρ 1=.rp (aY n) 0/\ρ 4=int k/\∃j,ρ 3=.os j/\H j=some (bO (es1++(List.range k).flatMap (Fi n))),fun ρ _=>n.arcs.length-aT (ρ 4),⟨0,Xab _,by simp only[go_sem,h1],by simp only[go_sem];rfl,j,by simp only[go_sem,E],by simpa using u⟩,?_⟩;clear u h1 E;rintro ρ H ⟨k,hk,h1,h4,j,E,u⟩;generalize T:es1++(List.range k).flatMap (Fi n)=es at u;have af:es.length<=es1.length+3145740*k:=by
   have:=eT aa (List.range k);rw[<-T,Xac];rw[Xau]at this;omega
 simp only[go_sem,h1,E,h4];refine aA (fun J=>?_) (fun O=>?_)
 . have J:=bD J
   simp only[go_sem,h1,E,h4];refine NC.use (auN n k J hp hl hs) fun i hi=>?_
   simp only[go_sem];have:=aa k;refine Bo (jV u hi) (aB _ _ _) ⟨rfl,rfl⟩ (oT _) (by simp only[Xaa];omega) (fun I ab=>?_);simp only[go_sem,h1,E,h4,aP (show k<=4611686018427387904 by omega)];refine⟨⟨k+1,J,rfl,I,rfl,?_⟩,by simp only[aE];omega⟩;rw[hJ,<-Xai,T];exact eR rfl
 . have O:=bF hk O
   subst O;simp only[go_sem,E];exact⟨_,rfl,by rw[u,<-T,<-M,<-Z];rfl⟩
def qA(l:List Fault):Prop:=∀f∈l,f.at_.size<=4194304
theorem Uw:qA []:=by simp[qA]
theorem iH{a b:List Fault}(u:qA a)(F:qA b):qA (a++b):=fun f E=>(Xbe.1 E).elim (u f) (F f)
theorem gS{b:Bool}{f:Fault}(h:f.at_.size<=4194304):qA (opt b f):=by
 cases b
 . simp[qA,opt]
 . intro g u;simp[opt]at u;subst u;exact h
theorem oX{α:Type}{F:α->List Fault}{l:List α}(h:∀x∈l,qA (F x)):qA (l.flatMap F):=fun f u=>by
 obtain⟨x,E,u⟩:=List.mem_flatMap.1 u;exact h x E f u
theorem Cn{α:Type}{F:α->Fault}{l:List α}(h:∀x∈l,(F x).at_.size<=4194304):qA (l.map F):=fun f u=>by
 obtain⟨x,E,rfl⟩:=List.mem_map.1 u;exact h x E
theorem uP{i n:Nat}(h:i∈List.range n):i<n:=Xbi.1 h
theorem TU(i:Nat):(gR i).size<=i+5:=by
 have:=mV i;unfold gR;rw[ByteArray.size_append];have:(⟨#[97,114,99,32]⟩:ByteArray).size=4:=rfl;omega
theorem OM(w:ByteArray)(i:Nat):(yF w i).size<=w.size+i+2:=by
 have:=mV i;unfold yF;rw[ByteArray.size_append,ByteArray.size_append];have:(⟨#[32]⟩:ByteArray).size=1:=rfl;omega
theorem Kt(l:List ByteArray)(h:l.length<=1048576):qA (wL l):=iH (gS (by decide)) (oX fun i u=>by
 have:=uP u;have:=Mf i;unfold fP;split
 . exact gS (b:=true) (by show(rU i).size<=_;omega)
 . exact gS (by show(rU i).size<=_;omega))
theorem UG(n:Network)(E:n.places.length<=1048576)(F:n.arcs.length<=1048576):qA (Gu n):=by
 refine iH (iH (Kt _ E) (gS (by decide))) (oX fun i u=>?_);have:=uP u;have h:(gR i).size<=4194304:=by have:=TU i;omega
 exact iH (iH (iH (iH (iH (iH Uw (gS h)) (gS h)) (gS h)) (Cn fun _ _=>h)) (gS h)) (oX fun _ _=>gS h)
theorem NT(n:Network)(l:List VType)(E:l.length<=1048576):qA (tC n l):=
 iH (gS (by decide)) (oX fun i u=>Cn fun _ _=>by have:=uP u;have:=mV i;show(jB i).size<=_;omega)
theorem Kl(n:Network)(d T:Int)(l:List Order)(E:l.length<=1048576):qA (qF n d T l):=
 iH (gS (by decide)) (oX fun i u=>Cn fun _ _=>by have:=uP u;have:=mV i;show(jB i).size<=_;omega)
theorem D1(N:Int)(l:List Pair)(w:ByteArray)(b:Bool)(F:l.length<=1048576)(E:w.size<=100):qA (tF N l w b):=iH (gS (by show w.size<=_;omega)) (oX fun i u=>by
 have:=uP u;have:=OM w i;unfold gC;split
 . exact gS (b:=true) (by show(yF w i).size<=_;omega)
 . exact gS (by show(yF w i).size<=_;omega))
theorem OG(n:Network)(l:List VType):(tC n l).length<=9*l.length+1:=by
 have:=eT (f:=iL n l) (c:=9) (fun x=>by unfold iL;rw[Xaa];exact wO _ _ _ _) (List.range l.length);have u:=cE (!inR l.length 1 6) (⟨4,ByteArray.empty⟩:Fault);rw[tC,Xac];rw[Xau]at this;omega
theorem MY(n:Network)(d T:Int)(l:List Order):(qF n d T l).length<=9*l.length+1:=by
 have:=eT (f:=gN n d T l) (c:=9) (fun x=>by unfold gN;rw[Xaa];exact tQ _ _ _ _ _ _) (List.range l.length);have u:=cE (decide ((l.length:Int)>10)) (⟨4,ByteArray.empty⟩:Fault);rw[qF,Xac];rw[Xau]at this;omega
structure InB(x:Instance):Prop where
 places:x.net.places.length<=1048576
 place:∀s∈x.net.places,s.size<=1048576
 arcs:x.net.arcs.length<=1048576
 arc:∀a∈x.net.arcs,a.travel.length<=1048576/\a.slow.length<=1048576
 types:x.types.length<=1048576
 type:∀t∈x.types,t.name.size<=1048576/\t.cap.length<=1048576
 orders:x.orders.length<=1048576
 order:∀t∈x.orders,t.name.size<=1048576/\t.load.length<=1048576
 apart:x.apart.length<=1048576
 before:x.before.length<=1048576
def CR(x:Instance):List Fault:=tF x.orders.length x.apart ⟨#[97,112,97,114,116]⟩ true++tF x.orders.length x.before ⟨#[98,101,102,111,114,101]⟩ false
def FG(x:Instance):List Fault:=(Gu x.net).map (kP ⟨#[110,101,116]⟩)++(tC x.net x.types).map (kP ⟨#[116,121,112,101,115]⟩) ++
 (qF x.net (jI x.types) x.types.length x.orders).map (kP ⟨#[111,114,100,101,114,115]⟩)++(CR x).map (kP ⟨#[114,117,108,101,115]⟩)
theorem WB(x:Instance)(h:InB x):(Gu x.net).length<=3300000000000:=by
 have h1:=DY x.net.places;have J:=cE (decide ((x.net.arcs.length:Int)>1024)) (⟨4,⟨#[97,114,99,115]⟩⟩:Fault);have F:=DC (f:=Fi x.net) (c:=3145740) (List.range x.net.arcs.length) fun k I=>by
   obtain⟨a,u⟩:=aN (uP I);have E:=h.arc a (iY u);exact Fg x.net k (by rw[oW u];exact E.1) (by rw[oW u];exact E.2)
 have O:=h.places;have M:=h.arcs;rw[Xau]at F;simp only[Gu,Xac];omega
theorem Z4(x:Instance)(h:InB x):NC prog 22 [.agg (aG x)] (bO (FG x)) .os:=by
 have c1:PC prog 50 [.agg (aY x.net)] (.sl ((Gu x.net).map fV)):=NC.pc (auU x.net h.places h.place h.arcs h.arc);have c2:PC prog 51 [.agg (aY x.net),.sl (x.types.map bC)] (.sl ((tC x.net x.types).map fV)):=NC.pc (adL x.net x.types h.types h.type h.places);have c3:PC prog 52 [.agg (aY x.net),int (jI x.types),int x.types.length,.sl (x.orders.map bE)] (.sl ((qF x.net (jI x.types) x.types.length x.orders).map fV)):=NC.pc (Fb x.net _ _ x.orders h.orders h.order h.places);have c4:PC prog 54 [int x.orders.length,.sl (x.apart.map cM),.sl (x.before.map cM)] (.sl ((CR x).map fV)):=NC.pc (Ky x.orders.length x.apart x.before h.apart h.before);have l1:=WB x h;have l2:=OG x.net x.types;have l3:=MY x.net (jI x.types) x.types.length x.orders;have l4:(CR x).length<=2097154:=by
   have a1:=uX x.orders.length x.apart ⟨#[97,112,97,114,116]⟩ true;have a2:=uX x.orders.length x.before ⟨#[98,101,102,111,114,101]⟩ false;have:=h.apart;have:=h.before;rw[CR,Xac];omega
 have s1:=UG x.net h.places h.arcs;have Z:=NT x.net x.types h.types;have s3:=Kl x.net (jI x.types) x.types.length x.orders h.orders;have s4:qA (CR x):=iH (D1 _ _ _ _ h.apart (by decide)) (D1 _ _ _ _ h.before (by decide));have ht:=h.types;have ho:=h.orders;refine ncb (fun t=>t == 27) Tryz.func22 ?_;unfold Tryz.f22;simp only[gdS];simp only[go_sem];refine PC.use c1 ?_;simp only[go_sem];refine NC.use (Ew ⟨#[110,101,116]⟩ _ (by decide) (by omega) fun f u=>Xaj (s1 f u) (by decide)) fun j hj=>?_
 simp only[go_sem];refine PC.use c2 ?_;simp only[go_sem];refine NC.use (Ew ⟨#[116,121,112,101,115]⟩ _ (by decide) (by omega) fun f u=>Xaj (Z f u) (by decide)) fun i E=>?_
 simp only[go_sem];refine Bo (jV (aB _ _ _) E) (aB _ _ _) ⟨rfl,rfl⟩ (oT _) (by simp only[Xaa];omega) (fun J O=>?_);simp only[go_sem];refine Es (by kernel_rfl) ?_;simp only[go_sem];refine⟨_,(JS x.types).q rfl,?_⟩;simp only[go_sem];have M:=eR (e:=139) (sz:=2) (enc:=fV) (H:=aI (aI (aI bY j (some (bO ((Gu x.net).map (kP ⟨#[110,101,116]⟩))))) i (some (bO ((tC x.net x.types).map (kP ⟨#[116,121,112,101,115]⟩))))) j none) (k:=J) (l:=(Gu x.net).map (kP ⟨#[110,101,116]⟩)) (l':=(tC x.net x.types).map (kP ⟨#[116,121,112,101,115]⟩)) rfl;generalize aI (aI (aI (aI bY j _) i _) j none) J _=H at M |-;generalize I:(Gu x.net).map (kP ⟨#[110,101,116]⟩)++(tC x.net x.types).map (kP ⟨#[116,121,112,101,115]⟩)=es at M;have aa:es.length<=3300000000000+9*x.types.length+1:=by rw[<-I,Xac,Xaa,Xaa];omega
 clear E hj O;refine PC.use c3 ?_;simp only[go_sem];refine NC.use (Ew ⟨#[111,114,100,101,114,115]⟩ _ (by decide) (by omega) fun f u=>Xaj (s3 f u) (by decide)) fun i E=>?_
 simp only[go_sem];refine Bo (jV M E) (aB _ _ _) ⟨rfl,rfl⟩ (oT _) (by simp only[Xaa];omega) (fun k hk=>?_);simp only[go_sem];have F:=eR (e:=139) (sz:=2) (enc:=fV) (H:=aI (aI H i (some (bO ((qF x.net (jI x.types) x.types.length x.orders).map (kP ⟨#[111,114,100,101,114,115]⟩))))) J none) (k:=k) (l:=es) (l':=(qF x.net (jI x.types) x.types.length x.orders).map (kP ⟨#[111,114,100,101,114,115]⟩)) rfl;generalize aI (aI (aI H i _) J none) k _=H2 at F |-;clear E hk;refine PC.use c4 ?_;simp only[go_sem];refine NC.use (Ew ⟨#[114,117,108,101,115]⟩ _ (by decide) (by omega) fun f u=>Xaj (s4 f u) (by decide)) fun q T=>?_
 simp only[go_sem];refine Bo (jV F T) (aB _ _ _) ⟨rfl,rfl⟩ (oT _) (by simp only[Xaa,Xac];omega) (fun m hm=>?_);simp only[go_sem];refine⟨m,rfl,?_⟩;rw[FG,I];exact eR rfl
end Go.Proofs.YtohmomanmikphaaGreatDoor
end
section
namespace Go.Aw.D
open Go.Aw Go.RowKit
def Sw(w:World):Sg:=⟨fun k=>k<w.heap.size,fun k=>k<w.heap.size,fun _=>.slice none 0 0,fun _=>1,0⟩
def KD(w:World):Prop:=∀t∈UT,qV w t.1=some t.2
theorem Nr{w:World}{g:Nat}{cs:Array Value}(h:qV w g=some cs):g<w.heap.size:=by
 unfold qV at h;split at h
 . rename_i h1;exact(Array.getElem?_eq_some_iff.1 h1).1
 . cases h
theorem aqS(w:World)(E:KD w):St (Sw w) w bY:=⟨fun _ h=>h,fun _ h=>h,fun k r u=>by simp[bY]at u,fun k r u=>by simp[bY]at u,fun k k' r r' u=>by simp[bY]at u,fun t h=>⟨Nr (E t h),E t h⟩⟩
def jW(_:Nat)(x:Int):Prop:= -9223372036854775808<=x/\x<=9223372036854775807
def afC(_:Nat)(_:Bool):Prop:=True
def Lg(n:Nat)(s:ByteArray):Prop:=s.size<=n
def bL{α:Type}(b:Nat->α->Prop)(n:Nat)(l:List α):Prop:=l.length<=n/\∀x∈l,b n x
def Rd{H:Type}(e:TypeId×Value->H)(B:DataW H->Nat)(P:Program)(w:World)(t:TypeId){α:Type}(enc:α->List AV)(b:Nat->α->Prop):Prop:=
 ∀fuel cs y,DataW.trod e P w 0 (fun _=>true) true fuel t cs=some y->∃x:α,(bG (Sw w) w (enc x) cs/\∀u∈cs,u.oneCell'=true)/\∀n,B y.1<=n->b n x
section
variable{H:Type}{e:TypeId×Value->H}{P:Program}{w:World}{t:TypeId}
abbrev BK(H:Type):DataW H->Nat:=Go.Proofs.YtohmomanmikphaaGreatDoor.Rows.uptoBulk
theorem eF(F:P.underlying t=some (.int .i64)):Rd e (BK H) P w t bJ jW:=by
 intro u cs y h;obtain⟨n,rfl,_,E⟩:=DataW.trod_int F h;refine⟨n,⟨by simp only[bJ,bG];exact⟨_,_,rfl,by simp only[rep],rfl⟩,by simp[Value.oneCell']⟩,fun _ _=>bounds_i64 E⟩
theorem ZK(E:P.underlying t=some .bool):Rd e (BK H) P w t eV afC:=by
 intro u cs y h;obtain⟨n,rfl,_⟩:=DataW.trod_bool E h;refine⟨n,⟨by simp only[eV,bG];exact⟨_,_,rfl,by simp only[rep],rfl⟩,by simp[Value.oneCell']⟩,fun _ _=>trivial⟩
theorem JL(F:P.underlying t=some .string):Rd e (BK H) P w t fA Lg:=by
 intro u cs y h;obtain⟨s,rfl,rfl,_⟩:=DataW.trod_string F h;refine⟨s,⟨by simp only[fA,bG];exact⟨_,_,rfl,by simp only[rep],rfl⟩,by simp[Value.oneCell']⟩,fun n E=>?_⟩;simp only[BK,Go.Proofs.YtohmomanmikphaaGreatDoor.Rows.uptoBulk,Array.length_toList]at E;have:s.size=s.data.size:=rfl;simp only[Lg];omega
theorem I3{d:DataW H}{l:List (DataW H)}(h:d∈l):BK H d<=Go.Proofs.YtohmomanmikphaaGreatDoor.Rows.uptoBulkAll l:=by
 induction l with
 | nil=>cases h
 | cons x r ih=>
   simp only[Go.Proofs.YtohmomanmikphaaGreatDoor.Rows.uptoBulkAll];cases List.mem_cons.1 h with
   | inl e=>subst e;simp only[BK];omega
   | inr e=>have:=ih e;omega
theorem YU(d:DataW H):1<=BK H d:=by
 cases d with
 | lit l=>cases l <;> simp[BK,Go.Proofs.YtohmomanmikphaaGreatDoor.Rows.uptoBulk]
 | nil=>simp[BK,Go.Proofs.YtohmomanmikphaaGreatDoor.Rows.uptoBulk]
 | ptr d=>simp[BK,Go.Proofs.YtohmomanmikphaaGreatDoor.Rows.uptoBulk]
 | slice elems spare=>simp[BK,Go.Proofs.YtohmomanmikphaaGreatDoor.Rows.uptoBulk]
 | agg parts=>simp[BK,Go.Proofs.YtohmomanmikphaaGreatDoor.Rows.uptoBulk]
 | iface t d=>simp[BK,Go.Proofs.YtohmomanmikphaaGreatDoor.Rows.uptoBulk]
 | map entries=>simp[BK,Go.Proofs.YtohmomanmikphaaGreatDoor.Rows.uptoBulk]
 | held h=>simp[BK,Go.Proofs.YtohmomanmikphaaGreatDoor.Rows.uptoBulk]
theorem Lx(l:List (DataW H)):l.length<=Go.Proofs.YtohmomanmikphaaGreatDoor.Rows.uptoBulkAll l:=by
 induction l with
 | nil=>simp[Go.Proofs.YtohmomanmikphaaGreatDoor.Rows.uptoBulkAll]
 | cons x r ih=>have:=YU x;simp only[Go.Proofs.YtohmomanmikphaaGreatDoor.Rows.uptoBulkAll,List.length_cons,BK]at *;omega
theorem KT{α:Type}(n:Nat)(p:Nat->α->Prop)(h:∀i,i<n->∃x,p i x):∃l:List α,l.length=n/\∀i x,l[i]?=some x->p i x:=by
 induction n with
 | zero=>exact⟨[],rfl,by simp⟩
 | succ n ih=>
   obtain⟨l,M,I⟩:=ih fun i F=>h i (by omega)
   obtain⟨x,J⟩:=h n (by omega);refine⟨l++[x],by simp[M],fun i y u=>?_⟩;rcases Nat.lt_or_ge i n with F|F
   . rw[List.getElem?_append_left (by omega)]at u;exact I i y u
   . rw[List.getElem?_append_right (by omega)]at u
     have:i-l.length=0:=by
       rcases Nat.eq_zero_or_pos (i-l.length)with h0|h0
       . exact h0
       . rw[List.getElem?_eq_none (by simp;omega)]at u;simp at u
     rw[this]at u;have E:i=n:=by omega
     subst E;simp at u;subst u;exact J
theorem BG{S:Sg}{b sz:Nat}{α:Type}{enc:α->List AV}(u:∀x,(enc x).length=sz):∀(l:List α) (o:Nat),(∀i x,l[i]?=some x->cR S w b (o+i*sz) (enc x))->gX S w b sz o (l.map enc)
 | [],_,_=>by simp[gX]
 | x::r,o,h=>by
   simp only[List.map_cons,gX];refine⟨u x,by simpa using h 0 x rfl,BG u r (o+sz) fun i y E=>?_⟩;have:=h (i+1) y (by simpa using E)
   rwa [show o+(i+1)*sz=o+sz+i*sz by rw[Nat.add_mul];omega]at this
theorem C0{a:Addr}{n:Nat}{cs:List Value}(h:w.cells? 0 a n=some cs):cs.length=n/\∀j,j<n->w.cell? (a.add j)=cs[j]?:=by
 unfold World.cells? at h;rw[if_pos (Nat.zero_le _)]at h;have u:=mapM_some_length h;exact⟨by simpa using u,fun j E=>mapM_some_get h j j (by simp[E])⟩
theorem mD{α:Type}{enc:α->List AV}{b:Nat->α->Prop}{et:TypeId}{sz:Nat}(ht:P.underlying t=some (.slice et))(hc:P.cellsOf et=sz)(F:0<sz)(M:∀x,(enc x).length=sz)(hr:Rd e (BK H) P w et enc b):
   Rd e (BK H) P w t (fun l:List α=>[.sl (l.map enc)]) (bL b):=by
 intro ak cs y h;rcases DataW.trod_slice ht h with⟨rfl,rfl⟩|⟨a,len,cap,E,rest,n,rfl,rfl,rfl,_,ai,O,ag,ad,an,_⟩
 . refine⟨[],⟨?_,by simp[Value.oneCell']⟩,fun n _=>⟨by simp,by simp⟩⟩
   simp only[bG,rep,List.map_nil];exact⟨_,_,rfl,⟨none,0,0,rfl,rfl,Nat.le_refl _,Nat.zero_le _,by simp⟩,rfl⟩
 . have hp : ∀ i, i < len -> ∃ x : α, ∃ z cs', E[i]? = some z /\ w.cells? 0 (a.add (i * sz)) sz = some cs' /\ (bG (Sw w) w (enc x) cs' /\ ∀ u ∈ cs', u.oneCell' = true) /\ ∀ n, BK H z.1 <= n -> b n x := fun i hi => by
     have hg:=ad i hi;rw[List.getElem?_eq_getElem (by omega),hc,Option.bind_eq_some_iff]at hg;obtain⟨cs',h1,h2⟩:=hg;obtain⟨x,Z,J⟩:=hr _ _ _ h2;exact⟨x,_,cs',List.getElem?_eq_getElem (by omega),h1,Z,J⟩
   obtain⟨l,hl,T⟩:=KT len _ hp;refine⟨l,⟨?_,by simp[Value.oneCell']⟩,fun m hm=>⟨?_,fun x Z=>?_⟩⟩
   . simp only[bG]
     refine⟨_,_,rfl,?_,rfl⟩;simp only[rep];refine⟨some a,len,cap,rfl,by simp[hl],ai,O,?_⟩;rcases Nat.eq_zero_or_pos len with h0|h0
     . left;rw[List.eq_nil_of_length_eq_zero (hl.trans h0)];rfl
     . right
       have ae:=hp 0 h0;obtain⟨_,_,am,_,ac,_⟩:=ae;have q:=(C0 ac).2 0 F;have af:=(C0 ac).1;rw[List.getElem?_eq_getElem (by omega)]at q;simp only[Nat.zero_mul,Addr.add,if_true]at q;have I:a.spot=none/\a.block<w.heap.size:=by
         unfold World.cell? at q;split at q
         . rename_i c _ _ J
           split at q
           . simp at q
           . rename_i hs
             refine⟨by simpa using hs,?_⟩;rcases Nat.lt_or_ge a.block w.heap.size with h|h
             . exact h
             . rw[Array.getElem?_eq_none h]at J;simp at J
         . simp at q
       obtain⟨ab,ao,al⟩:=a;obtain⟨hs,aa⟩:=I;simp only at hs aa;subst hs;refine⟨ab,ao,sz,rfl,aa,F,BG M l ao fun i x Z=>?_⟩;obtain⟨z,cs',_,aj,⟨h1,h2⟩,_⟩:=T i x Z;refine iT _ cs' _ h1 h2 fun j u hj=>?_
       obtain⟨e1,e2⟩:=C0 aj;have ah:j<sz:=by
         rcases Nat.lt_or_ge j sz with h|h
         . exact h
         . rw[List.getElem?_eq_none (by omega)]at hj;simp at hj
       have:=e2 j ah;rw[hj,Addr.add_lit,Addr.add_lit]at this;exact this
   . rw[hl,<-ag]
     have h1:=Lx (E.map (·.1));simp only[BK,Go.Proofs.YtohmomanmikphaaGreatDoor.Rows.uptoBulk,List.length_map]at hm h1;omega
   . obtain⟨i,hi⟩:=List.mem_iff_getElem?.1 Z
     obtain⟨z,cs',hz,_,_,J⟩:=T i x hi;refine J m ?_;have h1:=I3 (List.mem_map_of_mem (f:=(·.1)) (List.mem_of_getElem? hz));simp only[BK,Go.Proofs.YtohmomanmikphaaGreatDoor.Rows.uptoBulk]at hm h1 |-;omega
theorem fld{u o m:Nat}{cs:List Value}{z:DataW H×List MemPlace}(E:P.cellsOf t=m)(h:DataW.trod e P w 0 (fun _=>true) true u t ((cs.drop o).take (P.cellsOf t))=some z):DataW.trod e P w 0 (fun _=>true) true u t ((cs.drop o).take m)=some z:=E▸h
theorem bB{S:Sg}{a b:List AV}{cs:List Value}{o m:Nat}(h:bG S w a ((cs.drop o).take m))(u:bG S w b (cs.drop (o+m))):bG S w (a++b) (cs.drop o):=by
 have:=dI a b _ _ h u
 rwa [<-List.drop_drop,List.take_append_drop]at this
theorem kZ{S:Sg}{cs:List Value}{o:Nat}(h:cs.length=o):bG S w [] (cs.drop o):=by
 rw[List.drop_eq_nil_of_le (by omega)];simp[bG]
theorem bM{cs:List Value}{o m:Nat}(h:∀u∈(cs.drop o).take m,u.oneCell'=true)(F:∀u∈cs.drop (o+m),u.oneCell'=true):∀u∈cs.drop o,u.oneCell'=true:=by
 intro u E;rw[<-List.take_append_drop m (cs.drop o),List.drop_drop]at E;rcases List.mem_append.1 E with E|E
 . exact h u E
 . exact F u E
theorem nJ{cs:List Value}{o:Nat}(h:cs.length=o):∀u∈cs.drop o,u.oneCell'=true:=by
 rw[List.drop_eq_nil_of_le (by omega)];simp
theorem aV{xs:List (DataW H×List MemPlace)}{i:Nat}{z:DataW H×List MemPlace}(u:xs[i]?=some z){n:Nat}(h:BK H (.agg (xs.map (·.1)))<=n):BK H z.1<=n:=by
 have h1:=I3 (List.mem_map_of_mem (f:=(·.1)) (List.mem_of_getElem? u));simp only[BK,Go.Proofs.YtohmomanmikphaaGreatDoor.Rows.uptoBulk]at h h1 |-;omega
theorem bK{α:Type}{xs:List α}{n i:Nat}(h:xs.length=n)(u:i<n):∃z,xs[i]?=some z:=⟨xs[i],List.getElem?_eq_getElem (by omega)⟩
end
section
open Go.Proofs Go.Proofs.YtohmomanmikphaaGreatDoor
variable{H:Type}{e:TypeId×Value->H}{w:World}
theorem abM:Rd e (BK H) Tryz.prog w 22 (fun l:List ByteArray=>[.sl (l.map fA)]) (bL Lg):=mD (sz:=1) Tryz.underlying22 (by kernel_rfl) (by omega) (fun _=>rfl) (JL Tryz.underlying9)
def Kf(n:Nat)(x:Point):Prop:=jW n x.t/\jW n x.a
theorem WR:Rd e (BK H) Tryz.prog w 104 cA Kf:=by
 intro J cs y h;obtain⟨xs,n,rfl,rfl,O,u,M⟩:=DataW.trod_struct Tryz.underlying104 h;have u:xs.length=2:=u;have O:cs.length=2:=O.trans (by kernel_rfl);obtain⟨z0,E⟩:=bK u (show 0<2 by omega);obtain⟨x0,⟨r0,o0⟩,Z⟩:=(eF Tryz.underlying3:Rd e (BK H) Tryz.prog w 3 _ _) n ((cs.drop 0).take 1) z0 (fld (t:=3) (o:=0) (m:=1) (by kernel_rfl) ((M 0 _ rfl).trans E));obtain⟨z1,F⟩:=bK u (show 1<2 by omega);obtain⟨x1,⟨T,o1⟩,b1⟩:=(eF Tryz.underlying3:Rd e (BK H) Tryz.prog w 3 _ _) n ((cs.drop 1).take 1) z1 (fld (t:=3) (o:=1) (m:=1) (by kernel_rfl) ((M 1 _ rfl).trans F));refine⟨⟨x0,x1⟩,⟨?_,?_⟩,fun m I=>⟨Z m (aV E I),b1 m (aV F I)⟩⟩
 . have:=bB (o:=0) (m:=1) r0 (bB (o:=1) (m:=1) T (kZ (by omega)))
   rw[List.drop_zero]at this;exact this
 . have:=bM (o:=0) (m:=1) o0 (bM (o:=1) (m:=1) o1 (nJ (by omega)))
   rw[List.drop_zero]at this;exact this
theorem HD:Rd e (BK H) Tryz.prog w 105 (fun l:List Point=>[.sl (l.map cA)]) (bL Kf):=mD (sz:=2) Tryz.underlying105 (by kernel_rfl) (by omega) (fun _=>rfl) (WR)
def ahI(n:Nat)(x:Arc):Prop:=jW n x.src/\jW n x.dst/\jW n x.profile/\jW n x.miles/\(bL Kf) n x.travel/\(bL Kf) n x.slow
theorem agH:Rd e (BK H) Tryz.prog w 107 gB ahI:=by
 intro aa cs y h;obtain⟨xs,n,rfl,rfl,hl,u,F⟩:=DataW.trod_struct Tryz.underlying107 h;have u:xs.length=6:=u;have hl:cs.length=6:=hl.trans (by kernel_rfl);obtain⟨z0,O⟩:=bK u (show 0<6 by omega);obtain⟨x0,⟨r0,o0⟩,b0⟩:=(eF Tryz.underlying3:Rd e (BK H) Tryz.prog w 3 _ _) n ((cs.drop 0).take 1) z0 (fld (t:=3) (o:=0) (m:=1) (by kernel_rfl) ((F 0 _ rfl).trans O));obtain⟨z1,Z⟩:=bK u (show 1<6 by omega);obtain⟨x1,⟨r1,o1⟩,b1⟩:=(eF Tryz.underlying3:Rd e (BK H) Tryz.prog w 3 _ _) n ((cs.drop 1).take 1) z1 (fld (t:=3) (o:=1) (m:=1) (by kernel_rfl) ((F 1 _ rfl).trans Z));obtain⟨z2,J⟩:=bK u (show 2<6 by omega);obtain⟨x2,⟨r2,o2⟩,b2⟩:=(eF Tryz.underlying3:Rd e (BK H) Tryz.prog w 3 _ _) n ((cs.drop 2).take 1) z2 (fld (t:=3) (o:=2) (m:=1) (by kernel_rfl) ((F 2 _ rfl).trans J));obtain⟨z3,I⟩:=bK u (show 3<6 by omega);obtain⟨x3,⟨r3,o3⟩,b3⟩:=(eF Tryz.underlying3:Rd e (BK H) Tryz.prog w 3 _ _) n ((cs.drop 3).take 1) z3 (fld (t:=3) (o:=3) (m:=1) (by kernel_rfl) ((F 3 _ rfl).trans I));obtain⟨z4,T⟩:=bK u (show 4<6 by omega);obtain⟨x4,⟨r4,o4⟩,b4⟩:=(HD:Rd e (BK H) Tryz.prog w 105 _ _) n ((cs.drop 4).take 1) z4 (fld (t:=105) (o:=4) (m:=1) (by kernel_rfl) ((F 4 _ rfl).trans T));obtain⟨z5,M⟩:=bK u (show 5<6 by omega);obtain⟨x5,⟨r5,o5⟩,b5⟩:=(HD:Rd e (BK H) Tryz.prog w 105 _ _) n ((cs.drop 5).take 1) z5 (fld (t:=105) (o:=5) (m:=1) (by kernel_rfl) ((F 5 _ rfl).trans M));refine⟨⟨x0,x1,x2,x3,x4,x5⟩,⟨?_,?_⟩,fun m E=>⟨b0 m (aV O E),b1 m (aV Z E),b2 m (aV J E),b3 m (aV I E),b4 m (aV T E),b5 m (aV M E)⟩⟩
 . have:=bB (o:=0) (m:=1) r0 (bB (o:=1) (m:=1) r1 (bB (o:=2) (m:=1) r2 (bB (o:=3) (m:=1) r3 (bB (o:=4) (m:=1) r4 (bB (o:=5) (m:=1) r5 (kZ (by omega)))))))
   rw[List.drop_zero]at this;exact this
 . have:=bM (o:=0) (m:=1) o0 (bM (o:=1) (m:=1) o1 (bM (o:=2) (m:=1) o2 (bM (o:=3) (m:=1) o3 (bM (o:=4) (m:=1) o4 (bM (o:=5) (m:=1) o5 (nJ (by omega)))))))
   rw[List.drop_zero]at this;exact this
theorem acR:Rd e (BK H) Tryz.prog w 23 (fun l:List Arc=>[.sl (l.map gB)]) (bL ahI):=mD (sz:=6) Tryz.underlying23 (by kernel_rfl) (by omega) (fun _=>rfl) (agH)
def LE(n:Nat)(x:Network):Prop:=(bL Lg) n x.places/\(bL ahI) n x.arcs
theorem Ow:Rd e (BK H) Tryz.prog w 25 aY LE:=by
 intro J cs y h;obtain⟨xs,n,rfl,rfl,O,u,M⟩:=DataW.trod_struct Tryz.underlying25 h;have u:xs.length=2:=u;have O:cs.length=2:=O.trans (by kernel_rfl);obtain⟨z0,E⟩:=bK u (show 0<2 by omega);obtain⟨x0,⟨r0,o0⟩,Z⟩:=(abM:Rd e (BK H) Tryz.prog w 22 _ _) n ((cs.drop 0).take 1) z0 (fld (t:=22) (o:=0) (m:=1) (by kernel_rfl) ((M 0 _ rfl).trans E));obtain⟨z1,F⟩:=bK u (show 1<2 by omega);obtain⟨x1,⟨T,o1⟩,b1⟩:=(acR:Rd e (BK H) Tryz.prog w 23 _ _) n ((cs.drop 1).take 1) z1 (fld (t:=23) (o:=1) (m:=1) (by kernel_rfl) ((M 1 _ rfl).trans F));refine⟨⟨x0,x1⟩,⟨?_,?_⟩,fun m I=>⟨Z m (aV E I),b1 m (aV F I)⟩⟩
 . have:=bB (o:=0) (m:=1) r0 (bB (o:=1) (m:=1) T (kZ (by omega)))
   rw[List.drop_zero]at this;exact this
 . have:=bM (o:=0) (m:=1) o0 (bM (o:=1) (m:=1) o1 (nJ (by omega)))
   rw[List.drop_zero]at this;exact this
theorem SN:Rd e (BK H) Tryz.prog w 86 (fun l:List Int=>[.sl (l.map bJ)]) (bL jW):=mD (sz:=1) Tryz.underlying86 (by kernel_rfl) (by omega) (fun _=>rfl) (eF Tryz.underlying3)
def Pp(n:Nat)(x:VType):Prop:=Lg n x.name/\jW n x.count/\jW n x.src/\jW n x.dst/\(bL jW) n x.cap/\jW n x.skills/\jW n x.profile/\jW n x.start/\jW n x.close/\jW n x.drive/\jW n x.rest/\jW n x.fixed/\jW n x.perMile/\jW n x.perTick
theorem Vn:Rd e (BK H) Tryz.prog w 113 bC Pp:=by
 intro a7 cs y h;obtain⟨xs,n,rfl,rfl,hl,u,F⟩:=DataW.trod_struct Tryz.underlying113 h;have u:xs.length=14:=u;have hl:cs.length=14:=hl.trans (by kernel_rfl);obtain⟨z0,af⟩:=bK u (show 0<14 by omega);obtain⟨x0,⟨r0,o0⟩,b0⟩:=(JL Tryz.underlying9:Rd e (BK H) Tryz.prog w 9 _ _) n ((cs.drop 0).take 1) z0 (fld (t:=9) (o:=0) (m:=1) (by kernel_rfl) ((F 0 _ rfl).trans af));obtain⟨z1,ac⟩:=bK u (show 1<14 by omega);obtain⟨x1,⟨r1,o1⟩,b1⟩:=(eF Tryz.underlying3:Rd e (BK H) Tryz.prog w 3 _ _) n ((cs.drop 1).take 1) z1 (fld (t:=3) (o:=1) (m:=1) (by kernel_rfl) ((F 1 _ rfl).trans ac));obtain⟨z2,aa⟩:=bK u (show 2<14 by omega);obtain⟨x2,⟨r2,o2⟩,b2⟩:=(eF Tryz.underlying3:Rd e (BK H) Tryz.prog w 3 _ _) n ((cs.drop 2).take 1) z2 (fld (t:=3) (o:=2) (m:=1) (by kernel_rfl) ((F 2 _ rfl).trans aa));obtain⟨z3,T⟩:=bK u (show 3<14 by omega);obtain⟨x3,⟨r3,o3⟩,b3⟩:=(eF Tryz.underlying3:Rd e (BK H) Tryz.prog w 3 _ _) n ((cs.drop 3).take 1) z3 (fld (t:=3) (o:=3) (m:=1) (by kernel_rfl) ((F 3 _ rfl).trans T));obtain⟨z4,ah⟩:=bK u (show 4<14 by omega);obtain⟨x4,⟨r4,o4⟩,b4⟩:=(SN:Rd e (BK H) Tryz.prog w 86 _ _) n ((cs.drop 4).take 1) z4 (fld (t:=86) (o:=4) (m:=1) (by kernel_rfl) ((F 4 _ rfl).trans ah));obtain⟨z5,ae⟩:=bK u (show 5<14 by omega);obtain⟨x5,⟨r5,o5⟩,b5⟩:=(eF Tryz.underlying3:Rd e (BK H) Tryz.prog w 3 _ _) n ((cs.drop 5).take 1) z5 (fld (t:=3) (o:=5) (m:=1) (by kernel_rfl) ((F 5 _ rfl).trans ae));obtain⟨z6,ab⟩:=bK u (show 6<14 by omega);obtain⟨x6,⟨r6,o6⟩,b6⟩:=(eF Tryz.underlying3:Rd e (BK H) Tryz.prog w 3 _ _) n ((cs.drop 6).take 1) z6 (fld (t:=3) (o:=6) (m:=1) (by kernel_rfl) ((F 6 _ rfl).trans ab));obtain⟨z7,ad⟩:=bK u (show 7<14 by omega);obtain⟨x7,⟨r7,o7⟩,b7⟩:=(eF Tryz.underlying3:Rd e (BK H) Tryz.prog w 3 _ _) n ((cs.drop 7).take 1) z7 (fld (t:=3) (o:=7) (m:=1) (by kernel_rfl) ((F 7 _ rfl).trans ad));obtain⟨z8,Z⟩:=bK u (show 8<14 by omega);obtain⟨x8,⟨r8,o8⟩,b8⟩:=(eF Tryz.underlying3:Rd e (BK H) Tryz.prog w 3 _ _) n ((cs.drop 8).take 1) z8 (fld (t:=3) (o:=8) (m:=1) (by kernel_rfl) ((F 8 _ rfl).trans Z));obtain⟨z9,ag⟩:=bK u (show 9<14 by omega);obtain⟨x9,⟨r9,o9⟩,b9⟩:=(eF Tryz.underlying3:Rd e (BK H) Tryz.prog w 3 _ _) n ((cs.drop 9).take 1) z9 (fld (t:=3) (o:=9) (m:=1) (by kernel_rfl) ((F 9 _ rfl).trans ag));obtain⟨ak,O⟩:=bK u (show 10<14 by omega);obtain⟨an,⟨az,am⟩,av⟩:=(eF Tryz.underlying3:Rd e (BK H) Tryz.prog w 3 _ _) n ((cs.drop 10).take 1) ak (fld (t:=3) (o:=10) (m:=1) (by kernel_rfl) ((F 10 _ rfl).trans O));obtain⟨au,I⟩:=bK u (show 11<14 by omega);obtain⟨a5,⟨ai,al⟩,ay⟩:=(eF Tryz.underlying3:Rd e (BK H) Tryz.prog w 3 _ _) n ((cs.drop 11).take 1) au (fld (t:=3) (o:=11) (m:=1) (by kernel_rfl) ((F 11 _ rfl).trans I));obtain⟨a4,J⟩:=bK u (show 12<14 by omega);obtain⟨aq,⟨a0,ao⟩,ar⟩:=(eF Tryz.underlying3:Rd e (BK H) Tryz.prog w 3 _ _) n ((cs.drop 12).take 1) a4 (fld (t:=3) (o:=12) (m:=1) (by kernel_rfl) ((F 12 _ rfl).trans J));obtain⟨ap,M⟩:=bK u (show 13<14 by omega);obtain⟨ax,⟨a6,aw⟩,aj⟩:=(eF Tryz.underlying3:Rd e (BK H) Tryz.prog w 3 _ _) n ((cs.drop 13).take 1) ap (fld (t:=3) (o:=13) (m:=1) (by kernel_rfl) ((F 13 _ rfl).trans M));refine⟨⟨x0,x1,x2,x3,x4,x5,x6,x7,x8,x9,an,a5,aq,ax⟩,⟨?_,?_⟩,fun m E=>⟨b0 m (aV af E),b1 m (aV ac E),b2 m (aV aa E),b3 m (aV T E),b4 m (aV ah E),b5 m (aV ae E),b6 m (aV ab E),b7 m (aV ad E),b8 m (aV Z E),b9 m (aV ag E),av m (aV O E),ay m (aV I E),ar m (aV J E),aj m (aV M E)⟩⟩
 . have:=bB (o:=0) (m:=1) r0 (bB (o:=1) (m:=1) r1 (bB (o:=2) (m:=1) r2 (bB (o:=3) (m:=1) r3 (bB (o:=4) (m:=1) r4 (bB (o:=5) (m:=1) r5 (bB (o:=6) (m:=1) r6 (bB (o:=7) (m:=1) r7 (bB (o:=8) (m:=1) r8 (bB (o:=9) (m:=1) r9 (bB (o:=10) (m:=1) az (bB (o:=11) (m:=1) ai (bB (o:=12) (m:=1) a0 (bB (o:=13) (m:=1) a6 (kZ (by omega)))))))))))))))
   rw[List.drop_zero]at this;exact this
 . have:=bM (o:=0) (m:=1) o0 (bM (o:=1) (m:=1) o1 (bM (o:=2) (m:=1) o2 (bM (o:=3) (m:=1) o3 (bM (o:=4) (m:=1) o4 (bM (o:=5) (m:=1) o5 (bM (o:=6) (m:=1) o6 (bM (o:=7) (m:=1) o7 (bM (o:=8) (m:=1) o8 (bM (o:=9) (m:=1) o9 (bM (o:=10) (m:=1) am (bM (o:=11) (m:=1) al (bM (o:=12) (m:=1) ao (bM (o:=13) (m:=1) aw (nJ (by omega)))))))))))))))
   rw[List.drop_zero]at this;exact this
theorem U6:Rd e (BK H) Tryz.prog w 26 (fun l:List VType=>[.sl (l.map bC)]) (bL Pp):=mD (sz:=14) Tryz.underlying26 (by kernel_rfl) (by omega) (fun _=>rfl) (Vn)
def Wz(n:Nat)(x:Stop):Prop:=jW n x.place/\jW n x.start/\jW n x.close/\jW n x.service
theorem Rk:Rd e (BK H) Tryz.prog w 109 eI Wz:=by
 intro T cs y h;obtain⟨xs,n,rfl,rfl,Z,u,O⟩:=DataW.trod_struct Tryz.underlying109 h;have u:xs.length=4:=u;have Z:cs.length=4:=Z.trans (by kernel_rfl);obtain⟨z0,I⟩:=bK u (show 0<4 by omega);obtain⟨x0,⟨r0,o0⟩,b0⟩:=(eF Tryz.underlying3:Rd e (BK H) Tryz.prog w 3 _ _) n ((cs.drop 0).take 1) z0 (fld (t:=3) (o:=0) (m:=1) (by kernel_rfl) ((O 0 _ rfl).trans I));obtain⟨z1,J⟩:=bK u (show 1<4 by omega);obtain⟨x1,⟨r1,o1⟩,b1⟩:=(eF Tryz.underlying3:Rd e (BK H) Tryz.prog w 3 _ _) n ((cs.drop 1).take 1) z1 (fld (t:=3) (o:=1) (m:=1) (by kernel_rfl) ((O 1 _ rfl).trans J));obtain⟨z2,F⟩:=bK u (show 2<4 by omega);obtain⟨x2,⟨r2,o2⟩,b2⟩:=(eF Tryz.underlying3:Rd e (BK H) Tryz.prog w 3 _ _) n ((cs.drop 2).take 1) z2 (fld (t:=3) (o:=2) (m:=1) (by kernel_rfl) ((O 2 _ rfl).trans F));obtain⟨z3,E⟩:=bK u (show 3<4 by omega);obtain⟨x3,⟨r3,o3⟩,b3⟩:=(eF Tryz.underlying3:Rd e (BK H) Tryz.prog w 3 _ _) n ((cs.drop 3).take 1) z3 (fld (t:=3) (o:=3) (m:=1) (by kernel_rfl) ((O 3 _ rfl).trans E));refine⟨⟨x0,x1,x2,x3⟩,⟨?_,?_⟩,fun m M=>⟨b0 m (aV I M),b1 m (aV J M),b2 m (aV F M),b3 m (aV E M)⟩⟩
 . have:=bB (o:=0) (m:=1) r0 (bB (o:=1) (m:=1) r1 (bB (o:=2) (m:=1) r2 (bB (o:=3) (m:=1) r3 (kZ (by omega)))))
   rw[List.drop_zero]at this;exact this
 . have:=bM (o:=0) (m:=1) o0 (bM (o:=1) (m:=1) o1 (bM (o:=2) (m:=1) o2 (bM (o:=3) (m:=1) o3 (nJ (by omega)))))
   rw[List.drop_zero]at this;exact this
def QQ(n:Nat)(x:Order):Prop:=Lg n x.name/\(bL jW) n x.load/\Wz n x.pick/\Wz n x.drop/\jW n x.skills/\jW n x.penalty/\jW n x.split/\jW n x.last/\jW n x.now/\afC n x.off
theorem Yf:Rd e (BK H) Tryz.prog w 111 bE QQ:=by
 intro ae cs y h;obtain⟨xs,n,rfl,rfl,hl,u,F⟩:=DataW.trod_struct Tryz.underlying111 h;have u:xs.length=10:=u;have hl:cs.length=16:=hl.trans (by kernel_rfl);obtain⟨z0,aa⟩:=bK u (show 0<10 by omega);obtain⟨x0,⟨r0,o0⟩,b0⟩:=(JL Tryz.underlying9:Rd e (BK H) Tryz.prog w 9 _ _) n ((cs.drop 0).take 1) z0 (fld (t:=9) (o:=0) (m:=1) (by kernel_rfl) ((F 0 _ rfl).trans aa));obtain⟨z1,ad⟩:=bK u (show 1<10 by omega);obtain⟨x1,⟨r1,o1⟩,b1⟩:=(SN:Rd e (BK H) Tryz.prog w 86 _ _) n ((cs.drop 1).take 1) z1 (fld (t:=86) (o:=1) (m:=1) (by kernel_rfl) ((F 1 _ rfl).trans ad));obtain⟨z2,O⟩:=bK u (show 2<10 by omega);obtain⟨x2,⟨r2,o2⟩,b2⟩:=(Rk:Rd e (BK H) Tryz.prog w 109 _ _) n ((cs.drop 2).take 4) z2 (fld (t:=109) (o:=2) (m:=4) (by kernel_rfl) ((F 2 _ rfl).trans O));obtain⟨z3,J⟩:=bK u (show 3<10 by omega);obtain⟨x3,⟨r3,o3⟩,b3⟩:=(Rk:Rd e (BK H) Tryz.prog w 109 _ _) n ((cs.drop 6).take 4) z3 (fld (t:=109) (o:=6) (m:=4) (by kernel_rfl) ((F 3 _ rfl).trans J));obtain⟨z4,ac⟩:=bK u (show 4<10 by omega);obtain⟨x4,⟨r4,o4⟩,b4⟩:=(eF Tryz.underlying3:Rd e (BK H) Tryz.prog w 3 _ _) n ((cs.drop 10).take 1) z4 (fld (t:=3) (o:=10) (m:=1) (by kernel_rfl) ((F 4 _ rfl).trans ac));obtain⟨z5,Z⟩:=bK u (show 5<10 by omega);obtain⟨x5,⟨r5,o5⟩,b5⟩:=(eF Tryz.underlying3:Rd e (BK H) Tryz.prog w 3 _ _) n ((cs.drop 11).take 1) z5 (fld (t:=3) (o:=11) (m:=1) (by kernel_rfl) ((F 5 _ rfl).trans Z));obtain⟨z6,T⟩:=bK u (show 6<10 by omega);obtain⟨x6,⟨r6,o6⟩,b6⟩:=(eF Tryz.underlying3:Rd e (BK H) Tryz.prog w 3 _ _) n ((cs.drop 12).take 1) z6 (fld (t:=3) (o:=12) (m:=1) (by kernel_rfl) ((F 6 _ rfl).trans T));obtain⟨z7,I⟩:=bK u (show 7<10 by omega);obtain⟨x7,⟨r7,o7⟩,b7⟩:=(eF Tryz.underlying3:Rd e (BK H) Tryz.prog w 3 _ _) n ((cs.drop 13).take 1) z7 (fld (t:=3) (o:=13) (m:=1) (by kernel_rfl) ((F 7 _ rfl).trans I));obtain⟨z8,M⟩:=bK u (show 8<10 by omega);obtain⟨x8,⟨r8,o8⟩,b8⟩:=(eF Tryz.underlying3:Rd e (BK H) Tryz.prog w 3 _ _) n ((cs.drop 14).take 1) z8 (fld (t:=3) (o:=14) (m:=1) (by kernel_rfl) ((F 8 _ rfl).trans M));obtain⟨z9,ab⟩:=bK u (show 9<10 by omega);obtain⟨x9,⟨r9,o9⟩,b9⟩:=(ZK Tryz.underlying4:Rd e (BK H) Tryz.prog w 4 _ _) n ((cs.drop 15).take 1) z9 (fld (t:=4) (o:=15) (m:=1) (by kernel_rfl) ((F 9 _ rfl).trans ab));refine⟨⟨x0,x1,x2,x3,x4,x5,x6,x7,x8,x9⟩,⟨?_,?_⟩,fun m E=>⟨b0 m (aV aa E),b1 m (aV ad E),b2 m (aV O E),b3 m (aV J E),b4 m (aV ac E),b5 m (aV Z E),b6 m (aV T E),b7 m (aV I E),b8 m (aV M E),b9 m (aV ab E)⟩⟩
 . have:=bB (o:=0) (m:=1) r0 (bB (o:=1) (m:=1) r1 (bB (o:=2) (m:=4) r2 (bB (o:=6) (m:=4) r3 (bB (o:=10) (m:=1) r4 (bB (o:=11) (m:=1) r5 (bB (o:=12) (m:=1) r6 (bB (o:=13) (m:=1) r7 (bB (o:=14) (m:=1) r8 (bB (o:=15) (m:=1) r9 (kZ (by omega)))))))))))
   rw[List.drop_zero]at this;exact this
 . have:=bM (o:=0) (m:=1) o0 (bM (o:=1) (m:=1) o1 (bM (o:=2) (m:=4) o2 (bM (o:=6) (m:=4) o3 (bM (o:=10) (m:=1) o4 (bM (o:=11) (m:=1) o5 (bM (o:=12) (m:=1) o6 (bM (o:=13) (m:=1) o7 (bM (o:=14) (m:=1) o8 (bM (o:=15) (m:=1) o9 (nJ (by omega)))))))))))
   rw[List.drop_zero]at this;exact this
theorem UI:Rd e (BK H) Tryz.prog w 27 (fun l:List Order=>[.sl (l.map bE)]) (bL QQ):=mD (sz:=16) Tryz.underlying27 (by kernel_rfl) (by omega) (fun _=>rfl) (Yf)
def ST(n:Nat)(x:Pair):Prop:=jW n x.a/\jW n x.b
theorem acW:Rd e (BK H) Tryz.prog w 194 cM ST:=by
 intro J cs y h;obtain⟨xs,n,rfl,rfl,O,F,M⟩:=DataW.trod_array Tryz.underlying194 h;have O:cs.length=2:=O.trans (by kernel_rfl);obtain⟨z0,u⟩:=bK F (show 0<2 by omega);obtain⟨x0,⟨r0,o0⟩,Z⟩:=(eF Tryz.underlying3:Rd e (BK H) Tryz.prog w 3 _ _) n ((cs.drop 0).take 1) z0 (fld (t:=3) (o:=0) (m:=1) (by kernel_rfl) ((M 0 (by omega)).trans u));obtain⟨z1,E⟩:=bK F (show 1<2 by omega);obtain⟨x1,⟨T,o1⟩,b1⟩:=(eF Tryz.underlying3:Rd e (BK H) Tryz.prog w 3 _ _) n ((cs.drop 1).take 1) z1 (fld (t:=3) (o:=1) (m:=1) (by kernel_rfl) ((M 1 (by omega)).trans E));refine⟨⟨x0,x1⟩,⟨?_,?_⟩,fun m I=>⟨Z m (aV u I),b1 m (aV E I)⟩⟩
 . have:=bB (o:=0) (m:=1) r0 (bB (o:=1) (m:=1) T (kZ (by omega)))
   rw[List.drop_zero]at this;exact this
 . have:=bM (o:=0) (m:=1) o0 (bM (o:=1) (m:=1) o1 (nJ (by omega)))
   rw[List.drop_zero]at this;exact this
theorem NQ:Rd e (BK H) Tryz.prog w 28 (fun l:List Pair=>[.sl (l.map cM)]) (bL ST):=mD (sz:=2) Tryz.underlying28 (by kernel_rfl) (by omega) (fun _=>rfl) (acW)
def CW(n:Nat)(x:Instance):Prop:=LE n x.net/\(bL Pp) n x.types/\(bL QQ) n x.orders/\(bL ST) n x.apart/\(bL ST) n x.before
theorem K4:Rd e (BK H) Tryz.prog w 30 aG CW:=by
 intro Z cs y h;obtain⟨xs,n,rfl,rfl,hl,u,T⟩:=DataW.trod_struct Tryz.underlying30 h;have u:xs.length=5:=u;have hl:cs.length=6:=hl.trans (by kernel_rfl);obtain⟨z0,J⟩:=bK u (show 0<5 by omega);obtain⟨x0,⟨r0,o0⟩,b0⟩:=(Ow:Rd e (BK H) Tryz.prog w 25 _ _) n ((cs.drop 0).take 2) z0 (fld (t:=25) (o:=0) (m:=2) (by kernel_rfl) ((T 0 _ rfl).trans J));obtain⟨z1,O⟩:=bK u (show 1<5 by omega);obtain⟨x1,⟨r1,o1⟩,b1⟩:=(U6:Rd e (BK H) Tryz.prog w 26 _ _) n ((cs.drop 2).take 1) z1 (fld (t:=26) (o:=2) (m:=1) (by kernel_rfl) ((T 1 _ rfl).trans O));obtain⟨z2,F⟩:=bK u (show 2<5 by omega);obtain⟨x2,⟨r2,o2⟩,b2⟩:=(UI:Rd e (BK H) Tryz.prog w 27 _ _) n ((cs.drop 3).take 1) z2 (fld (t:=27) (o:=3) (m:=1) (by kernel_rfl) ((T 2 _ rfl).trans F));obtain⟨z3,E⟩:=bK u (show 3<5 by omega);obtain⟨x3,⟨r3,o3⟩,b3⟩:=(NQ:Rd e (BK H) Tryz.prog w 28 _ _) n ((cs.drop 4).take 1) z3 (fld (t:=28) (o:=4) (m:=1) (by kernel_rfl) ((T 3 _ rfl).trans E));obtain⟨z4,M⟩:=bK u (show 4<5 by omega);obtain⟨x4,⟨r4,o4⟩,b4⟩:=(NQ:Rd e (BK H) Tryz.prog w 28 _ _) n ((cs.drop 5).take 1) z4 (fld (t:=28) (o:=5) (m:=1) (by kernel_rfl) ((T 4 _ rfl).trans M));refine⟨⟨x0,x1,x2,x3,x4⟩,⟨?_,?_⟩,fun m I=>⟨b0 m (aV J I),b1 m (aV O I),b2 m (aV F I),b3 m (aV E I),b4 m (aV M I)⟩⟩
 . have:=bB (o:=0) (m:=2) r0 (bB (o:=2) (m:=1) r1 (bB (o:=3) (m:=1) r2 (bB (o:=4) (m:=1) r3 (bB (o:=5) (m:=1) r4 (kZ (by omega))))))
   rw[List.drop_zero]at this;exact this
 . have:=bM (o:=0) (m:=2) o0 (bM (o:=2) (m:=1) o1 (bM (o:=3) (m:=1) o2 (bM (o:=4) (m:=1) o3 (bM (o:=5) (m:=1) o4 (nJ (by omega))))))
   rw[List.drop_zero]at this;exact this
def aiV(n:Nat)(x:Cut):Prop:=jW n x.kind/\jW n x.set/\jW n x.n
theorem ajJ:Rd e (BK H) Tryz.prog w 115 dS aiV:=by
 intro O cs y h;obtain⟨xs,n,rfl,rfl,T,u,M⟩:=DataW.trod_struct Tryz.underlying115 h;have u:xs.length=3:=u;have T:cs.length=3:=T.trans (by kernel_rfl);obtain⟨z0,F⟩:=bK u (show 0<3 by omega);obtain⟨x0,⟨r0,o0⟩,b0⟩:=(eF Tryz.underlying3:Rd e (BK H) Tryz.prog w 3 _ _) n ((cs.drop 0).take 1) z0 (fld (t:=3) (o:=0) (m:=1) (by kernel_rfl) ((M 0 _ rfl).trans F));obtain⟨z1,I⟩:=bK u (show 1<3 by omega);obtain⟨x1,⟨Z,o1⟩,b1⟩:=(eF Tryz.underlying3:Rd e (BK H) Tryz.prog w 3 _ _) n ((cs.drop 1).take 1) z1 (fld (t:=3) (o:=1) (m:=1) (by kernel_rfl) ((M 1 _ rfl).trans I));obtain⟨z2,E⟩:=bK u (show 2<3 by omega);obtain⟨x2,⟨r2,o2⟩,b2⟩:=(eF Tryz.underlying3:Rd e (BK H) Tryz.prog w 3 _ _) n ((cs.drop 2).take 1) z2 (fld (t:=3) (o:=2) (m:=1) (by kernel_rfl) ((M 2 _ rfl).trans E));refine⟨⟨x0,x1,x2⟩,⟨?_,?_⟩,fun m J=>⟨b0 m (aV F J),b1 m (aV I J),b2 m (aV E J)⟩⟩
 . have:=bB (o:=0) (m:=1) r0 (bB (o:=1) (m:=1) Z (bB (o:=2) (m:=1) r2 (kZ (by omega))))
   rw[List.drop_zero]at this;exact this
 . have:=bM (o:=0) (m:=1) o0 (bM (o:=1) (m:=1) o1 (bM (o:=2) (m:=1) o2 (nJ (by omega))))
   rw[List.drop_zero]at this;exact this
theorem aeS:Rd e (BK H) Tryz.prog w 31 (fun l:List Cut=>[.sl (l.map dS)]) (bL aiV):=mD (sz:=3) Tryz.underlying31 (by kernel_rfl) (by omega) (fun _=>rfl) (ajJ)
def Dc(n:Nat)(x:Decision):Prop:=jW n x.kind/\jW n x.a/\jW n x.b/\jW n x.n
theorem Nt:Rd e (BK H) Tryz.prog w 95 aW Dc:=by
 intro T cs y h;obtain⟨xs,n,rfl,rfl,Z,u,O⟩:=DataW.trod_struct Tryz.underlying95 h;have u:xs.length=4:=u;have Z:cs.length=4:=Z.trans (by kernel_rfl);obtain⟨z0,I⟩:=bK u (show 0<4 by omega);obtain⟨x0,⟨r0,o0⟩,b0⟩:=(eF Tryz.underlying3:Rd e (BK H) Tryz.prog w 3 _ _) n ((cs.drop 0).take 1) z0 (fld (t:=3) (o:=0) (m:=1) (by kernel_rfl) ((O 0 _ rfl).trans I));obtain⟨z1,J⟩:=bK u (show 1<4 by omega);obtain⟨x1,⟨r1,o1⟩,b1⟩:=(eF Tryz.underlying3:Rd e (BK H) Tryz.prog w 3 _ _) n ((cs.drop 1).take 1) z1 (fld (t:=3) (o:=1) (m:=1) (by kernel_rfl) ((O 1 _ rfl).trans J));obtain⟨z2,F⟩:=bK u (show 2<4 by omega);obtain⟨x2,⟨r2,o2⟩,b2⟩:=(eF Tryz.underlying3:Rd e (BK H) Tryz.prog w 3 _ _) n ((cs.drop 2).take 1) z2 (fld (t:=3) (o:=2) (m:=1) (by kernel_rfl) ((O 2 _ rfl).trans F));obtain⟨z3,E⟩:=bK u (show 3<4 by omega);obtain⟨x3,⟨r3,o3⟩,b3⟩:=(eF Tryz.underlying3:Rd e (BK H) Tryz.prog w 3 _ _) n ((cs.drop 3).take 1) z3 (fld (t:=3) (o:=3) (m:=1) (by kernel_rfl) ((O 3 _ rfl).trans E));refine⟨⟨x0,x1,x2,x3⟩,⟨?_,?_⟩,fun m M=>⟨b0 m (aV I M),b1 m (aV J M),b2 m (aV F M),b3 m (aV E M)⟩⟩
 . have:=bB (o:=0) (m:=1) r0 (bB (o:=1) (m:=1) r1 (bB (o:=2) (m:=1) r2 (bB (o:=3) (m:=1) r3 (kZ (by omega)))))
   rw[List.drop_zero]at this;exact this
 . have:=bM (o:=0) (m:=1) o0 (bM (o:=1) (m:=1) o1 (bM (o:=2) (m:=1) o2 (bM (o:=3) (m:=1) o3 (nJ (by omega)))))
   rw[List.drop_zero]at this;exact this
theorem JU:Rd e (BK H) Tryz.prog w 32 (fun l:List Decision=>[.sl (l.map aW)]) (bL Dc):=mD (sz:=4) Tryz.underlying32 (by kernel_rfl) (by omega) (fun _=>rfl) (Nt)
theorem abG:Rd e (BK H) Tryz.prog w 33 (fun l:List ByteArray=>[.sl (l.map fA)]) (bL Lg):=mD (sz:=1) Tryz.underlying33 (by kernel_rfl) (by omega) (fun _=>rfl) (JL Tryz.underlying44)
def afU(n:Nat)(x:Ask3):Prop:=CW n x.x/\(bL aiV) n x.cuts/\(bL Dc) n x.d/\(bL Lg) n x.dual
theorem aeI:Rd e (BK H) Tryz.prog w 35 gY afU:=by
 intro T cs y h;obtain⟨xs,n,rfl,rfl,Z,u,O⟩:=DataW.trod_struct Tryz.underlying35 h;have u:xs.length=4:=u;have Z:cs.length=9:=Z.trans (by kernel_rfl);obtain⟨z0,I⟩:=bK u (show 0<4 by omega);obtain⟨x0,⟨r0,o0⟩,b0⟩:=(K4:Rd e (BK H) Tryz.prog w 30 _ _) n ((cs.drop 0).take 6) z0 (fld (t:=30) (o:=0) (m:=6) (by kernel_rfl) ((O 0 _ rfl).trans I));obtain⟨z1,J⟩:=bK u (show 1<4 by omega);obtain⟨x1,⟨r1,o1⟩,b1⟩:=(aeS:Rd e (BK H) Tryz.prog w 31 _ _) n ((cs.drop 6).take 1) z1 (fld (t:=31) (o:=6) (m:=1) (by kernel_rfl) ((O 1 _ rfl).trans J));obtain⟨z2,F⟩:=bK u (show 2<4 by omega);obtain⟨x2,⟨r2,o2⟩,b2⟩:=(JU:Rd e (BK H) Tryz.prog w 32 _ _) n ((cs.drop 7).take 1) z2 (fld (t:=32) (o:=7) (m:=1) (by kernel_rfl) ((O 2 _ rfl).trans F));obtain⟨z3,E⟩:=bK u (show 3<4 by omega);obtain⟨x3,⟨r3,o3⟩,b3⟩:=(abG:Rd e (BK H) Tryz.prog w 33 _ _) n ((cs.drop 8).take 1) z3 (fld (t:=33) (o:=8) (m:=1) (by kernel_rfl) ((O 3 _ rfl).trans E));refine⟨⟨x0,x1,x2,x3⟩,⟨?_,?_⟩,fun m M=>⟨b0 m (aV I M),b1 m (aV J M),b2 m (aV F M),b3 m (aV E M)⟩⟩
 . have:=bB (o:=0) (m:=6) r0 (bB (o:=6) (m:=1) r1 (bB (o:=7) (m:=1) r2 (bB (o:=8) (m:=1) r3 (kZ (by omega)))))
   rw[List.drop_zero]at this;exact this
 . have:=bM (o:=0) (m:=6) o0 (bM (o:=6) (m:=1) o1 (bM (o:=7) (m:=1) o2 (bM (o:=8) (m:=1) o3 (nJ (by omega)))))
   rw[List.drop_zero]at this;exact this
end
end Go.Aw.D
end
section
namespace Go.Proofs.YtohmomanmikphaaGreatDoor
open Go.Aw Go.Aw.D Go.Proofs Go.RowKit Go.ChangeShapes Go.WideShapes Go.ChangeAt
section
variable{H:Type}{e:TypeId×Value->H}{P:Program}{W W':World}
theorem Na{f:FuncId}{args:List AV}{vals:List Value}(h:PC P f args (.v (.bool true)))(M:KD W)(O:bG (Sw W) W args vals):
   Calls P f vals.toArray W fun E W'=>E=.returned (.bool true)/\Below W.heap.size W W':=
 (h (Sw W) W vals (aqS W M) (fun _ h=>h) O).mono fun E W' ⟨v,r,H',S',I,J,_,F,u,_⟩=>by
   subst J;simp only[rep]at F;subst F;exact⟨I,u.os,u.tape,u.output,u.size,u.same⟩
theorem Bc(M:laidOutB P=true)(J:Below W.heap.size W W'):∀{E:List TypeId} {vs:List Value} {ds:List (DataW H)} {ps:List MemPlace},(∀t∈E,P.readableRec t=true/\t<P.types.size) ->
   DataW.TrodAll e P W 0 (fun _=>true) true E vs ds ps->(∀x∈ps,x.block<W.heap.size)->∀F:Nat->Bool,(∀x∈ps,F x.block=true)->DataW.TrodAll e P W' 0 F true E vs ds ps
 | [],[],[],_,_,h,_,_,_=>h
 | t::E,v::vs,d::ds,ps,ht,⟨p,q,h1,h2,he⟩,hlt,F,hs=>by
   subst he;have h0:=ht t (by simp);exact⟨p,q,WideElems.Trod_stays M h0.1 h0.2 h1 (fun x u=>J.same (hlt x (by simp[u]))) (fun x u=>hs x (by simp[u])),
     Bc M J (fun t I=>ht t (by simp[I])) h2 (fun x u=>hlt x (by simp[u])) F (fun x u=>hs x (by simp[u])),rfl⟩
theorem Pb{t:TypeId}{fs:Array Field}{α:Type}{enc:α->List AV}{b:Nat->α->Prop}{r:Reach}{T:Nat}{v:Value}{d:DataW H}{J:List MemPlace}(M:P.underlying t=some (.struct fs))
   (I:Rd e (BK H) P W t enc b) (u:Value.okWide P W r T t v) (O:DataW.Trod e P W 0 (fun _=>true) true t v d J):∃x:α,rep (Sw W) W (.agg (enc x)) v/\∀n,BK H d<=n->b n x:=by
 obtain⟨cs,rfl,_⟩:=okWide_struct M u;obtain⟨E,h⟩:=O;obtain⟨x,⟨h1,F⟩,Z⟩:=I E _ _ h;refine⟨x,?_,Z⟩;simp only[rep];exact⟨cs.toList,by simp,h1,F⟩
theorem UO{fn:Func}{s:ChangeSpec}{args:Array Value}{ds gs:List (DataW H)}{before:List MemPlace}(hl:laidOutB P=true)(af:∀t∈fn.params.toList,P.readableRec t=true/\t<P.types.size)
   (u:s.vars=[]) {tb:TypeId} (T:P.underlying tb=some .bool) (O:fn.resultTypes=#[tb]) (hW:DataW.Whole e P fn.params.toList s.vars false W args.toList ds gs before)
   (Z:(s.fn H (ds++gs)).results=[.lit (.bool true)]) (J:(s.fn H (ds++gs)).args=ds) (ac:(s.fn H (ds++gs)).vars=[]) (hb:Below W.heap.size W W'):
   s.post e P fn false true false false W args (.bool true) W':=by
 have I:=hW.lt;have ae:=hW;obtain⟨p,q,hA,hV,rfl,ad,ag⟩:=hW;rw[u]at hV;obtain⟨rfl,rfl⟩:=trodVars_none hV;have hk:W.keptBut W' (·∈p++[]):=hb.frame _;have M:∀x∈p++[],(fun b=>decide (b<W.heap.size)) x.block=true:=fun x F=>by simpa using I x F
 have r1:∀(b:Nat) (E:Nat->Bool) (hd:Bool),DataW.TrodAll e P W' b E hd fn.resultTypes.toList ((Value.bool true).resultList fn.resultTypes.size) (s.fn H (ds++[])).results []:=fun b E hd=>by
   rw[O,Z];exact trodAll_cons_mk (shut_bool T _) trodAll_mk0
 have r2:∀E:Nat->Bool,(∀x∈p++[],E x.block=true)->DataW.TrodAll e P W' 0 E true fn.params.toList args.toList (s.fn H (ds++[])).args p:=fun E ab=>by
   rw[J];exact Bc hl hb af hA (fun x F=>I x (by simp[F])) E (fun x F=>ab x (by simp[F]))
 have r3:∀E:Nat->Bool,DataW.TrodVars e P W' E s.vars (s.fn H (ds++[])).vars []:=fun E=>by
   rw[u,ac];simp[DataW.TrodVars]
 refine⟨ds,[],p++[],[],p,[],ae,r1 _ _ _,r2 _ M,r3 _,World.keptBut_mono (fun x F=>⟨F,.inr (by simpa using F)⟩) hk,fun _=>?_⟩;refine⟨?_,_,_,([]++p)++[],⟨[]++p,[],trodAll_append (r2 _ (fun _ _=>rfl)) (r1 _ _ _),r3 _,rfl,?_,?_⟩,?_⟩
 . exact ok_one O rfl (okWide_bool_mk T _)
 . intro b off hp
   have aa:MemPlace.cell b off∈p++[]:=by simpa using hp
   rw[hb.frozen (I _ aa)];exact ad b off aa
 . intro ha;simp at ha
 . intro x F _
   simpa using F
end
end Go.Proofs.YtohmomanmikphaaGreatDoor
end
section
namespace Go.Proofs.YtohmomanmikphaaGreatDoor
open Go.Proofs.Tryz(prog)
def dW(n N:Int):Bool:=decide (n<0)||decide (n>=N)
end Go.Proofs.YtohmomanmikphaaGreatDoor
namespace Go.Proofs.YtohmomanmikphaaGreatDoor.Mv
open Go.Proofs.Tryz(prog)
open Go.Aw Go.Aw.D Go.Proofs Ty
theorem cH{H:aH}{k:IntKind}{a b:Int}(h:a=b):Conv H (.v (.int k a)) (.v (.int k b)):=h▸.refl _
theorem dK{H:aH}{a b:Bool}(h:a=b):Conv H (.v (.bool a)) (.v (.bool b)):=h▸.refl _
abbrev qZ(l:List Int):Row:=⟨3,1,l.map bJ⟩
theorem VE{n:Int}(h:0<=n/\n<18446744073709551616):IntKind.u64.wrap n=n:=by
 have e:IntKind.u64.wrap n=n%18446744073709551616:=rfl;rw[e];omega
theorem aZ{α:Type}{p:α->Prop}{l:List α}{k:Nat}{x:α}(F:l[k]?=some x)(E:p x)(h:∀x∈l.take k,p x):∀x∈l.take (k+1),p x:=by
 rw[bP F];intro y u;rcases Xbe.1 u with u|u
 . exact h y u
 . simp at u;subst u;exact E
theorem NC.pc{f:FuncId}{args:List AV}{r:Row}(h:NC prog f args r .os):PC prog f args (.sl r.es):=
 RC.conv (RC.mono h fun x H' ⟨k,u,E⟩=>u▸.row k r r.es E (ConvE.refl _))
end Go.Proofs.YtohmomanmikphaaGreatDoor.Mv
end
section
namespace Go.Proofs.YtohmomanmikphaaGreatDoor.Sq
open Go.Aw Go.Aw.D Go.Proofs Ty
open Mv (cH dK NC.pc aZ)
def Ye(s i:Int):Bool:=decide (s>=0)&&decide (i>=0)&&decide (i<=62)&&((shV .shr .i64 s (IntKind.u64.wrap i)).tmod 2 == 1)
def Zo(s n:Int):Int:=if Ye s n=true then s else IntKind.i64.wrap (s+shV .shl .i64 1 (IntKind.u64.wrap n))
def GY(v:Visit):Bool:=decide (v.order<0)||decide (v.order>62)
def aeZ(l:List Visit):Int:=l.foldl (fun s v=>Zo s v.order) 0
def nD(l:List Visit):Int×Int:=if l.any GY=true then(0,2)else(aeZ l,0)
def F0(v u:Visit):Bool:=u.order == v.order&&(u.drop == v.drop&&true)
def nA{α:Type}(p:α->Bool):List α->Int->Int
 | [],_=> -1
 | x::r,n=>if p x=true then n else nA p r (n+1)
theorem nQ{α:Type}{p:α->Bool}{l:List α}{k:Nat}{x:α}(h:∀y∈l.take k,p y=false)(u:l[k]?=some x)(F:p x=true):∀n,nA p l n=n+k:=by
 induction l generalizing k with
 | nil=>simp at u
 | cons a r ih=>
   intro n;cases k with
   | zero=>simp at u;subst u;simp only[nA];rw[if_pos F];simp
   | succ k=>
     have h0:=h a (by simp);simp only[nA];rw[if_neg (by rw[h0];simp),ih (k:=k) (fun y E=>h y (by simp[E])) (by simpa using u)];omega
theorem lM{α:Type}{p:α->Bool}{l:List α}(h:∀y∈l,p y=false):∀n,nA p l n= -1:=by
 induction l with
 | nil=>intro n;rfl
 | cons a r ih=>intro n;simp only[nA];rw[if_neg (by rw[h a (by simp)];simp)];exact ih (fun y u=>h y (by simp[u])) _
def fK(l:List Visit)(v:Visit):Int:=nA (F0 v) l 0
def Og(l s:List Visit):Bool:=s.all fun v=> !decide (fK l v<0)
def BB(l vs:List Visit)(v:Visit):Bool:=decide (fK vs v<0)|| !Og l vs||((vs.length:Int) == 2&&decide (fK l (vs.getD 0 ⟨0,false⟩)>fK l (vs.getD 1 ⟨0,false⟩)))
def fX(l:List Visit)(j:Nat):Int:=(l.getD j ⟨0,false⟩).order
theorem uF{l:List Visit}{j:Nat}{v:Visit}(h:l[j]?=some v):fX l j=v.order:=by simp[fX,List.getD,h]
def Zd(l:List Visit)(a b:Int)(j k:Nat):Bool:=fX l j == a&&fX l k == b
def Xk(l:List Visit)(a b:Int):Bool:=(List.range l.length).any fun j=>(List.range j).any fun k=>Zd l a b j k
def MM(x:Instance)(i:Int):Bool:=match x.orders[i.toNat]? with|some o=>o.off|none=>false
theorem AU{α:Type}{p:α->Bool}{l:List α}(h:∀x∈l,p x=false):l.any p=false:=by
 rw[List.any_eq_false];intro x u;rw[h x u];simp
def kA(a c:List Int):Bool:=((a.length:Int) == (c.length:Int))&&(List.range a.length).all fun i=> !decide (a.getD i 0>c.getD i 0)
def kQ(x:Instance):Int:=match x.types[0]? with|some t=>t.cap.length|none=>0
def sP(l:List Int):List AV:=[.sl (l.map bJ)]
end Go.Proofs.YtohmomanmikphaaGreatDoor.Sq
end
section
namespace Go.Proofs.YtohmomanmikphaaGreatDoor.Sq
open Go.Aw Go.Aw.D Go.Proofs Ty
open Mv (cH dK NC.pc aZ)
open Mv (cH dK NC.pc aZ)
abbrev azV(ll:List (List Int)):Row:=⟨86,1,ll.map sP⟩
def NJ(x:Instance)(t:Int):List Int:=match x.types[t.toNat]? with|some t=>t.cap|none=>[]
def Ks(n:Network)(i:Int):Bool:=decide (i>=0)&&decide (i<(n.places.length:Int))
def BR:Arc:=⟨0,0,0,0,[],[]⟩
def KZ(p f t:Int)(a:Arc):Bool:=a.src == f&&a.dst == t&&a.profile == p
def yL(n:Network)(p f t:Int):Option Arc:=n.arcs.find? (KZ p f t)
theorem Nl{α:Type}{p:α->Bool}{l:List α}{k:Nat}{x:α}(h:∀y∈l.take k,p y=false)(u:l[k]?=some x)(F:p x=true):l.find? p=some x:=by
 induction l generalizing k with
 | nil=>simp at u
 | cons a r ih=>
   cases k with
   | zero=>simp at u;subst u;simp[List.find?,F]
   | succ k=>
     have h0:=h a (by simp);rw[List.find?_cons,h0];exact ih (k:=k) (fun y E=>h y (by simp[E])) (by simpa using u)
theorem Hj{α:Type}{p:α->Bool}{l:List α}(h:∀y∈l,p y=false):l.find? p=none:=List.find?_eq_none.2 fun y u=>by rw[h y u];simp
def W(n:Int):Int:=IntKind.i64.wrap n
def qB(l:List Point)(t:Int)(k:Nat):Bool:=decide ((dX l k).t<=t)&&decide (t<(dX l (k+1)).t)
def OA(p q:Point)(t:Int):Int:=W (p.a+IntKind.i64.wrap (Int.tdiv (W (W (W (W (W (t-p.t)*W (q.a-p.a))+q.t)-p.t)-1)) (W (q.t-p.t))))
def Bx(e:Point)(t:Int):Int:=W (W (t+e.a)-e.t)
def CG(l:List Point)(t:Int):Bool:=decide (((jR l).length:Int)>0)||decide (t<0)||decide (t>1073741824)
def nI(l:List Point)(t:Int):Int:=
 if CG l t=true then 0 else match (List.range (l.length-1)).find? (qB l t)with
 | some k=>OA (dX l k) (dX l (k+1)) t
 | none=>if decide (t>(dX l 0).t)=true then Bx (dX l (l.length-1)) t else Bx (dX l 0) t
def i64B(n:Int):Prop:= -9223372036854775808<=n/\n<=9223372036854775807
theorem abI{n:Int}(h:0<n/\n<18446744073709551616):¬IntKind.i64.wrap n=0:=by
 show ¬(if(true&&decide (n%18446744073709551616>=9223372036854775808))=true then n%18446744073709551616-18446744073709551616 else n%18446744073709551616)=0;by_cases h1:n%18446744073709551616>=9223372036854775808
 . rw[if_pos (by simpa using h1)];omega
 . rw[if_neg (by simpa using h1)];omega
end Go.Proofs.YtohmomanmikphaaGreatDoor.Sq
end
section
namespace Go.Proofs.YtohmomanmikphaaGreatDoor.Sq
open Go.Aw Go.Aw.D Go.Proofs Ty
open Mv (cH dK NC.pc aZ)
def D0(t:Int)(s:Int)(p:Point):Int:=if decide (p.t<=t)=true then W (s+p.a)else s
def Fu(a:Arc)(t:Int):Int:=a.slow.foldl (D0 t) (nI a.travel t)
structure ArcB(a:Arc):Prop where
 travel:a.travel.length<=1048576
 slow:a.slow.length<=1048576
 time:∀p∈a.travel,i64B p.t
structure NetB(n:Network):Prop where
 arcs:n.arcs.length<=1048576
 arc:∀a∈n.arcs,ArcB a
def jN(n:Network)(p f t time:Int):Int×Int×Int:=
 if(!Ks n f|| !Ks n t)=true then(0,0,11)else if(f == t)=true then(time,0,0)
 else match yL n p f t with|some a=>(Fu a time,a.miles,0)|none=>(0,0,12)
structure Score where
 cost:Int
 moved:Int
 other:Int
 work:Int
def fM(s:Score):List AV:=[int s.cost,int s.moved,int s.other,int s.work]
def uK(l:List Visit)(n:Nat):Bool:=(List.range n).all fun i=> !(fX l i == fX l n)
def dF:Score:=⟨0,0,0,0⟩
def kH:Stop:=⟨0,0,0,0⟩
def wV(o:Order)(v:Visit):Stop:=if v.drop=true then o.drop else o.pick
def iZ(x:Instance)(v:Visit):Stop×Bool:=if dW v.order x.orders.length=true then(kH,false)else
 match x.orders[v.order.toNat]? with
 | some o=>(wV o v,decide ((wV o v).place>=0))
 | none=>(kH,false)
def gA(x:Instance)(r:Route):Bool:=
 !(dW r.type x.types.length||decide (r.start<0)||decide (r.start>4096)||decide ((r.visits.length:Int)>20))&&r.visits.all fun v=>(iZ x v).2
structure St8 where
 place:Int
 time:Int
 driven:Int
 miles:Int
structure Tm where
 arrive:Int
 begin_:Int
 depart:Int
 rest:Bool
def rF(t:Tm):List AV:=[int t.arrive,int t.begin_,int t.depart,boo t.rest]
theorem Ua(s:Tm):(rF s).length=4:=(rfl)
theorem TH(s:Tm):(rF s).take 4=rF s:=(rfl)
attribute [go_sem] Ua TH
structure Sheet where
 rest:Bool
 depart:Int
 times:List Tm
 end_:Int
 miles:Int
def cX(s:Sheet):List AV:=[boo s.rest,int s.depart,.sl (s.times.map rF),int s.end_,int s.miles]
def cP:Sheet:=⟨false,0,[],0,0⟩
theorem zW{x:Instance}{r:Route}(h:gA x r=true):0<=r.type/\r.type<(x.types.length:Int):=by
 unfold gA at h;simp only[Xap,Xbp,Xak,dW,decide_eq_false_iff_not]at h;omega
theorem afD{H:aH}{i j:Nat}{r:Row}{a b:Option Row}(u:H i=some r)(E:H j=none):aI (aI H j a) j b i=some r:=by
 have h1:=aQ u E;rw[aD _ _ _ _ h1,aD _ _ _ _ h1,u]
theorem afB{H:aH}{i j:Nat}{r:Row}{b:Option Row}(u:H i=some r)(h1:i≠j):aI H j b i=some r:=by rw[aD _ _ _ _ h1,u]
theorem VF{H:aH}{i j:Nat}{r r':Row}(E:H i=some r)(u:H j=some r')(h:(r.e == r'.e)=false):i≠j:=fun e=>by
 subst e;rw[E]at u;injection u with u;rw[u]at h;simp at h
abbrev yZ(s:Stop):Row:=⟨109,4,[eI s]⟩
abbrev DN(l:List Tm):Row:=⟨380,4,l.map rF⟩
abbrev pR(l:List Int):Row:=⟨3,1,l.map bJ⟩
abbrev iC(cs:List AV):Row:=⟨260,5,[cs]⟩
abbrev zeroCells:List AV:=[boo false,int 0,.sl [],int 0,int 0]
abbrev abB(l:List Bool):Row:=⟨4,1,l.map eV⟩
def Ch(r:Route):List Bool:=r.rests++List.replicate (r.visits.length+1-r.rests.length) false
theorem iU(s:Sheet):(cX s).length=5:=(rfl)
theorem Qo(s:Sheet):(cX s).getD 3 .any=int s.end_:=(rfl)
theorem QV(s:Sheet):(cX s).getD 4 .any=int s.miles:=(rfl)
theorem Km(s:Sheet):(cX s).take 5=cX s:=(rfl)
attribute [go_sem] Qo QV Km
theorem Pv{a:List Bool}{n:Nat}(h:a.length<=n):((List.replicate n [boo false]).take 0++(a.map eV).take (min (a.map eV).length (List.replicate n [boo false]).length))++(List.replicate n [boo false]).drop (0+min (a.map eV).length (List.replicate n [boo false]).length)=(a++List.replicate (n-a.length) false).map eV:=by
 have e:min (a.map eV).length (List.replicate n [boo false]).length=a.length:=by simp;omega
 rw[e,List.take_zero,Xbf,Nat.zero_add,Xan (by simp),List.drop_replicate,Xam,List.map_replicate];rfl
theorem nG(s:Score):(fM s).length=4:=(rfl)
theorem OO(s:Score):(fM s).getD 0 .any=int s.cost:=(rfl)
theorem Ou(s:Score):(fM s).getD 1 .any=int s.moved:=(rfl)
theorem Oq(s:Score):(fM s).getD 2 .any=int s.other:=(rfl)
theorem QG(s:Score):(fM s).getD 3 .any=int s.work:=(rfl)
theorem J4(s:Score):(fM s).take 4=fM s:=(rfl)
attribute [go_sem] iU nG OO Ou Oq QG J4
abbrev oG(s:Score):Row:=⟨262,4,[fM s]⟩
def Ol(o:Order)(t:Int):Bool:=o.now != -1&&o.now != t
def O1(o:Order)(t:Int):Bool:=o.last != -1&&o.last != t
def EZ(o:Order)(t:Int)(a:Score):Score:=if Ol o t=true then⟨a.cost,W (a.moved+1),a.other,a.work⟩else a
def Fn(o:Order)(t:Int)(a:Score):Score:=if O1 o t=true then⟨a.cost,a.moved,W (a.other+1),a.work⟩else a
def kO(x:Instance)(r:Route)(a:Score)(i:Nat):Score:=
 if(dW (fX r.visits i) x.orders.length|| !uK r.visits i)=true then a
 else match x.orders[(fX r.visits i).toNat]? with
 | some o=>Fn o r.type (EZ o r.type a)
 | none=>a
def CN(t:VType)(s:Sheet):Score:=
 ⟨W (W (t.fixed+W (t.perMile*s.miles))+W (t.perTick*W (s.end_-t.start))),0,0,
   W (W (Int.tdiv (W (s.end_-t.start)) 64)*W (Int.tdiv (W (s.end_-t.start)) 64))⟩
def X9(x:Instance)(r:Route)(s:Sheet)(t:VType):Score:=(List.range r.visits.length).foldl (kO x r) (CN t s)
def sU(x:Instance)(r:Route)(s:Sheet):Score:=
 if dW r.type x.types.length=true then dF else match x.types[r.type.toNat]? with
 | some t=>X9 x r s t
 | none=>dF
structure InsB(x:Instance):Prop where
 net:NetB x.net
 types:x.types.length<=1048576
 orders:x.orders.length<=1048576
 apart:x.apart.length<=1048576
 before:x.before.length<=1048576
structure PlanB(p:Plan):Prop where
 routes:p.routes.length<=1048576
 visits:∀r∈p.routes,r.visits.length<=1048576
 unserved:p.unserved.length<=1048576
theorem AH{P:Program}{C:lB}{PC:FuncId->List AV->aH->AV->Prop}{mt:Nat->Bool}{ops:Array Oper}{K:Env->aH->Prop}{m:Nat}{ρ:Env}{H:aH}(J:Env->aH->Prop)(h1:∀ρ H,J ρ H->K ρ H)
 (u:∀K':Env->aH->Prop,(∀ρ H,J ρ H->K' ρ H)->tA P C PC mt ops K' m ρ H):tA P C PC mt ops K m ρ H:=u K h1
end Go.Proofs.YtohmomanmikphaaGreatDoor.Sq
end
