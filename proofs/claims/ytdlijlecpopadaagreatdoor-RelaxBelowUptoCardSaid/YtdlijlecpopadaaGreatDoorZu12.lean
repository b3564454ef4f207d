import Derived.Test.YtdlijlecpopadaaGreatDoorRows
import Derived.Carry
import Derived.OpenShut
import Derived.JoinedCond
import Derived.WalkKit
import Derived.ProofKit
import Derived.WideKeyArgs
import Derived.Test.YtdlijlecpopadaaGreatDoorZu11
set_option linter.unusedSimpArgs false
set_option linter.unusedVariables false
set_option maxRecDepth 100000
section
namespace Go.Proofs.YtdlijlecpopadaaGreatDoor
open Go.Proofs.Tryz(prog)
open Go.Aw Go.Aw.D Go.Proofs Ty
def pAt(l:List Pair)(i:Nat):Pair:=l.getD i ⟨0,0⟩
theorem Kd{l:List Pair}{k:Nat}{p:Pair}(h:l[k]?=some p):pAt l k=p:=by simp[pAt,List.getD,h]
def yE(w:ByteArray)(k:Nat):ByteArray:=w++⟨#[32]⟩++kD k
def Bo(N:Int)(p:Pair):Bool:=decide (p.a<0)||decide (p.a>=N)||decide (p.b<0)||decide (p.b>=N)||p.a == p.b
def zD(b:Bool)(p q:Pair):Bool:=(q.a == p.a&&q.b == p.b)||(b&&q.a == p.b&&q.b == p.a)
def gT(N:Int)(l:List Pair)(w:ByteArray)(b:Bool)(k:Nat):List Fault:=match Bo N (pAt l k)with
 | true=>[⟨2,yE w k⟩]
 | false=>opt ((l.take k).any (zD b (pAt l k))) ⟨6,yE w k⟩
theorem yB(N:Int)(l:List Pair)(w:ByteArray)(b:Bool)(k:Nat):(gT N l w b k).length<=1:=by
 unfold gT;split
 . simp
 . exact cD _ _
def uS(N:Int)(l:List Pair)(w:ByteArray)(b:Bool):List Fault:=opt (decide ((l.length:Int)>16)) ⟨4,w⟩++(List.range l.length).flatMap (gT N l w b)
theorem MG(N:Int)(l:List Pair)(w:ByteArray)(b:Bool)(hl:l.length<=1048576)(hw:w.size<=1048576):
   NC prog 74 [int N,.sl (l.map dC),str w,boo b] (bN (uS N l w b)) .os:=by
 refine ncb (fun t=>t == 9) Tryz.func74 ?_;unfold Tryz.f74;simp only[gdS];simp only[go_sem];refine aN fun j hj=>?_
 simp only[go_sem];refine pQ (fun E H'=>E 0=int N/\E 1=.sl (l.map dC)/\E 2=str w/\E 3=boo b/\∃j',E 9=.os j'/\H' j'=some (bN [])) ⟨by simp only[go_sem],by simp only[go_sem],by simp only[go_sem],by simp only[go_sem],_,by simp only[go_sem],aA _ _ _⟩ ?_;rintro ρ H ⟨h0,h1,I,J,j,O,X⟩;generalize ad:([]:List Fault)=es0 at X;have ar:es0.length<=0:=by rw[<-ad];exact Xag _
 refine bH (fun E H'=>E 0=int N/\E 1=.sl (l.map dC)/\E 2=str w/\E 3=boo b/\∃j',E 9=.os j'/\H' j'=some (bN (es0++opt (decide ((l.length:Int)>16)) ⟨4,w⟩))) ?_ fun K hK=>aB (fun Z=>?_) (fun Z=>?_)
 rotate_left
 . simp only[go_sem,h0,h1,I,J,O]
   refine bG X ⟨rfl,rfl⟩ (by simp only[go_sem]) (by simp only[Xaa,Xac,List.length_nil];omega) (fun j' ao=>?_);simp only[go_sem];refine hK _ _ ⟨by simp only[go_sem,h0],by simp only[go_sem,h1],by simp only[go_sem,I],by simp only[go_sem,J],j',by simp only[go_sem],?_⟩;rw[iV (show(decide ((l.length:Int)>16))=true from Z)];exact fG (l':=[⟨4,w⟩]) rfl
 . simp only[go_sem]
   refine hK _ _ ⟨by simp only[go_sem,h0],by simp only[go_sem,h1],by simp only[go_sem,I],by simp only[go_sem,J],j,by simp only[go_sem,O],?_⟩;rw[iX (show(decide ((l.length:Int)>16))=false from Z),Xal,X]
 clear X h0 h1 I J O;rintro ρ H ⟨h0,h1,I,J,j,O,X⟩;generalize ac:es0++opt (decide ((l.length:Int)>16)) (⟨4,w⟩:Fault)=es1 at X;have ap:es1.length<=es0.length+1:=by rw[<-ac,Xae];have:=cD (decide ((l.length:Int)>16)) (⟨4,w⟩:Fault);omega
 simp only[go_sem,h0,h1,I,J,O];refine⟨fun ρ H=>∃k:Nat,k<=l.length/\ρ 0=int N/\ρ 1=.sl (l.map dC)/\ρ 2=str w/\ρ 3=boo b/\ρ 10=int k/\∃j,ρ 9=.os j/\H j=some (bN (es1++(List.range k).flatMap (gT N l w b))),fun ρ _=>l.length-aX (ρ 10),
   ⟨0,Xab _,by simp only[go_sem,h0],by simp only[go_sem,h1],by simp only[go_sem,I],by simp only[go_sem,J],by simp only[go_sem];rfl,j,by simp only[go_sem,O],by simpa using X⟩,?_⟩
 clear X h0 h1 I J O hj;rintro ρ H ⟨k,hk,h0,h1,I,J,F,j,O,X⟩;generalize ae:es1++(List.range k).flatMap (gT N l w b)=es at X;have aq:es.length<=k+1:=by
   have:=fH (yB N l w b) (List.range k);rw[<-ae,Xae];rw[Xbf]at this;omega
 simp only[go_sem,h0,h1,I,J,O,F];refine aB (fun Y=>?_) (fun ag=>?_)
 . have Y:=aZ Y
   have ak:k<=4611686018427387904:=by omega
   obtain⟨p,hp⟩:=aQ Y;have b1:=inB Y;have av:=oA k;have au:(#[32]:Array UInt8).size=1:=rfl;have af:es1++(List.range (k+1)).flatMap (gT N l w b)=es++gT N l w b k:=by rw[iO,<-Xav,ae]
   simp only[go_sem,h0,h1,I,J,O,F,b1,aH hp];refine⟨by omega,by omega,by rw[xF];omega,?_⟩;refine PC.use (aiG _ (by omega)) ?_;simp only[go_sem,h0,h1,I,J,O,F];refine⟨by rw[xF];omega,?_⟩;refine aB (fun Z=>?_) (fun Z=>?_)
   . simp only[go_sem,h0,h1,I,J,O,F]
     refine bG X ⟨rfl,rfl⟩ (by simp only[go_sem]) (by simp only[Xaa,Xac,List.length_nil];omega) (fun j' ao=>?_);simp only[go_sem,h0,h1,I,J,F,aS ak];refine⟨⟨k+1,Y,rfl,j',rfl,?_⟩,by simp only[aG];omega⟩;have hn:Bo N (pAt l k)=true:=by rw[Kd hp];exact Z
     rw[af,gT,hn];exact fG (l':=[⟨2,yE w k⟩]) rfl
   . simp only[go_sem,h0,h1,I,J,O,F]
     have hn:Bo N (pAt l k)=false:=by rw[Kd hp];exact Z
     refine⟨fun ρ H'=>∃m:Nat,m<=k/\ρ 0=int N/\ρ 1=.sl (l.map dC)/\ρ 2=str w/\ρ 3=boo b/\ρ 9=.os j/\ρ 10=int k/\ρ 11=int p.a/\ρ 12=int p.b/\ρ 13=str (yE w k)/\ρ 14=boo ((l.take m).any (zD b p))/\ρ 15=int m/\H'=H,fun ρ _=>k-aX (ρ 15),
       ⟨0,Xab _,by simp only[go_sem,h0],by simp only[go_sem,h1],by simp only[go_sem,I],by simp only[go_sem,J],by simp only[go_sem,O],by simp only[go_sem,F],by simp only[go_sem],by simp only[go_sem],by simp only[go_sem];rfl,by simp only[go_sem];rfl,by simp only[go_sem];rfl,rfl⟩,?_⟩
     clear h0 h1 I J O F;rintro ρ H' ⟨m,hm,h0,h1,I,J,O,F,an,am,ah,ai,al,rfl⟩;simp only[go_sem,h0,h1,I,J,O,F,an,am,ah,ai,al];refine aB (fun ab=>?_) (fun aa=>?_)
     . have ab:=aZ ab
       obtain⟨q,hq⟩:=aQ (show m<l.length by omega);have b2:=inB (show m<l.length by omega);simp only[go_sem,h0,h1,I,J,O,F,an,am,ah,ai,al,b2,aH hq,aS (show m<=4611686018427387904 by omega)];refine⟨fun _=>by omega,fun _=>by omega,fun _=>by omega,fun _=>by omega,⟨m+1,ab,?_,rfl⟩,by simp only[aG];omega⟩;rw[Gg hq];simp only[zD,Bool.or_assoc]
     . have aa:=bD hm aa
       subst aa;simp only[go_sem,ai];have aj:(l.take m).any (zD b (pAt l m))=(l.take m).any (zD b p):=by rw[Kd hp]
       refine hU (fun E H'=>E 0=int N/\E 1=.sl (l.map dC)/\E 2=str w/\E 3=boo b/\E 10=int m/\∃j,E 9=.os j/\H' j=some (bN (es1++(List.range (m+1)).flatMap (gT N l w b)))) ?_ fun K hK _ _=>aB (fun Z=>?_) (fun Z=>?_)
       . clear X h0 h1 I J O F
         rintro ρ H ⟨h0,h1,I,J,F,j,O,X⟩;simp only[go_sem,h0,h1,I,J,O,F,aS ak];exact⟨⟨m+1,Y,rfl,j,rfl,X⟩,by simp only[aG];omega⟩
       . simp only[go_sem,h0,h1,I,J,O,F,ah]
         refine bG X ⟨rfl,rfl⟩ (by simp only[go_sem]) (by simp only[Xaa,Xac,List.length_nil];omega) (fun j' ao=>?_);simp only[go_sem];refine hK _ _ ⟨by simp only[go_sem,h0],by simp only[go_sem,h1],by simp only[go_sem,I],by simp only[go_sem,J],by simp only[go_sem,F],j',by simp only[go_sem],?_⟩;rw[af,gT,hn];show _=some (bN (es++opt _ ⟨6,yE w m⟩));rw[iV (aj.trans Z)];exact fG (l':=[⟨6,yE w m⟩]) rfl
       . simp only[go_sem]
         refine hK _ _ ⟨by simp only[go_sem,h0],by simp only[go_sem,h1],by simp only[go_sem,I],by simp only[go_sem,J],by simp only[go_sem,F],j,by simp only[go_sem,O],?_⟩;rw[af,gT,hn];show _=some (bN (es++opt _ ⟨6,yE w m⟩));rw[iX (aj.trans Z),Xal,X]
 . have ag:=bD hk ag
   subst ag;simp only[go_sem,O];exact⟨_,rfl,by rw[X,<-ae,<-ac,<-ad];rfl⟩
theorem pU:∀l:List Fault,cZ 2 (l.map gQ)
 | []=>trivial
 | f::r=>⟨rfl,pU r⟩
theorem wO(N:Int)(l:List Pair)(w:ByteArray)(b:Bool):(uS N l w b).length<=l.length+1:=by
 have:=fH (yB N l w b) (List.range l.length);have E:=cD (decide ((l.length:Int)>16)) (⟨4,w⟩:Fault);rw[uS,Xae];rw[Xbf]at this;omega
theorem K8(N:Int)(F E:List Pair)(J:F.length<=1048576)(I:E.length<=1048576):
   NC prog 34 [int N,.sl (F.map dC),.sl (E.map dC)] (bN (uS N F ⟨#[97,112,97,114,116]⟩ true++uS N E ⟨#[98,101,102,111,114,101]⟩ false)) .os:=by
 refine ncb (fun t=>t == 7) Tryz.func34 ?_;unfold Tryz.f34;simp only[gdS];simp only[go_sem];refine NC.use (MG N F ⟨#[97,112,97,114,116]⟩ true J (by decide)) fun j X=>?_
 simp only[go_sem];refine NC.use (MG N E ⟨#[98,101,102,111,114,101]⟩ false I (by decide)) fun i hi=>?_
 simp only[go_sem];have Y:=wO N F ⟨#[97,112,97,114,116]⟩ true;have l2:=wO N E ⟨#[98,101,102,111,114,101]⟩ false;refine Cu (lF (aA _ _ _) hi) (aA _ _ _) ⟨rfl,rfl⟩ (pU _) (by simp only[Xaa];omega) (fun Z O=>?_);simp only[go_sem];exact⟨_,rfl,fG rfl⟩
theorem NC.pc{f:FuncId}{args:List AV}{row:Row}(h:NC prog f args row .os):PC prog f args (.sl row.es):=
 RC.conv (RC.mono h fun r H' ⟨k,e,E⟩=>by subst e;exact .row k row row.es E (ConvE.refl _))
def nG(l:List Arc)(i:Nat):Arc:=l.getD i ⟨0,0,0,0,[],[]⟩
theorem nW{l:List Arc}{k:Nat}{p:Arc}(h:l[k]?=some p):nG l k=p:=by simp[nG,List.getD,h]
def iF(k:Nat):ByteArray:=⟨#[97,114,99,32]⟩++kD k
def wY(N:Int)(a:Arc):Bool:=decide (a.src<0)||decide (a.src>=N)||decide (a.dst<0)||decide (a.dst>=N)
def zI(a:Arc):Bool:=decide (a.profile<0)||decide (a.profile>7)||decide (a.miles<0)||decide (a.miles>10000)||a.src == a.dst
def rQ(a b:Arc):Bool:=a.src == b.src&&a.dst == b.dst&&a.profile == b.profile
def oW(l:List Point)(i:Nat):Bool:= !inR (dW l i).t 0 4096|| !inR (dW l i).a 0 4096||decide ((i:Int)>0)&&decide ((dW l i).t<=(dW l (i-1)).t)
def Er(n:Network)(k:Nat):List Fault:=
 []++opt (wY n.places.length (nG n.arcs k)) ⟨11,iF k⟩++opt (zI (nG n.arcs k)) ⟨2,iF k⟩++opt ((n.arcs.take k).any (rQ (nG n.arcs k))) ⟨6,iF k⟩
   ++ (jK (nG n.arcs k).travel).map (fun f=>⟨f.err,iF k⟩)++opt (decide (((nG n.arcs k).slow.length:Int)>16)) ⟨4,iF k⟩
   ++ (List.range (nG n.arcs k).slow.length).flatMap fun i=>opt (oW (nG n.arcs k).slow i) ⟨2,iF k⟩
theorem UY(l:List Point)(E:l.length<=1048576):PC prog 131 [.sl (l.map cA)] (.sl ((jK l).map gQ)):=NC.pc (YD l E)
theorem DE(l:List Point):(jK l).length<=2*l.length+1:=by
 have:=fH (WM l) (List.range l.length);have E:=cD (F9 l.length 1 16) (⟨4,ByteArray.empty⟩:Fault);rw[jK,Xae];rw[Xbf]at this;omega
theorem atL(n:Network)(k:Nat)(hk:k<n.arcs.length)(hp:n.places.length<=1048576)(hl:n.arcs.length<=1048576)(hs:∀a∈n.arcs,a.travel.length<=1048576/\a.slow.length<=1048576):
   NC prog 69 [.agg (aV n),int k] (bN (Er n k)) .os:=by
 refine ncb (fun t=>t == 5) Tryz.func69 ?_;unfold Tryz.f69;simp only[gdS];simp only[go_sem];obtain⟨a,ha⟩:=aQ hk;have b1:=inB hk;have ax:=hs a (kI ha);have a8:=oA k;refine aN fun j hj=>?_
 simp only[go_sem];refine PC.use (rY _ (by omega)) ?_;simp only[go_sem,b1,aH ha];have h4:(#[97,114,99,32]:Array UInt8).size=4:=rfl;refine⟨by rw[xF];omega,aN fun i hi=>?_⟩;simp only[go_sem];refine aM (aA _ _ _) (by simp[jH]) ?_;simp only[go_sem];have F:j≠i:=aO (aA _ _ _) hi;have aw:iF k=⟨#[97,114,99,32]⟩++kD k:=rfl;refine pQ (fun E H'=>E 1=int k/\E 2=.rp (aV n) 0/\E 6=str (iF k)/\E 7=.op i 0 0/\H' i=some (uN a)/\∃j',E 5=.os j'/\j'≠i/\H' j'=some (bN []))
   ⟨by simp only[go_sem],by simp only[go_sem],by simp only[go_sem,aw],by simp only[go_sem],aA _ _ _,j,by simp only[go_sem],F,by rw[aD _ _ _ _ F,aD _ _ _ _ F,aA];rfl⟩ ?_
 clear hi hj F;rintro ρ H ⟨h1,h2,J,I,hi,j,O,F,X⟩;generalize ah:([]:List Fault)=es0 at X;have a6:es0.length<=0:=by rw[<-ah];exact Xag _
 refine bH (fun E H'=>E 1=int k/\E 2=.rp (aV n) 0/\E 6=str (iF k)/\E 7=.op i 0 0/\H' i=some (uN a)/\∃j',E 5=.os j'/\j'≠i/\H' j'=some (bN (es0++opt (wY n.places.length a) ⟨11,iF k⟩))) ?_ fun K hK=>aB (fun hb=>?_) (fun hb=>?_)
 rotate_left
 . simp only[go_sem,h1,h2,J,I,O]
   refine bG X ⟨rfl,rfl⟩ (by simp only[go_sem]) (by simp only[Xaa,Xac,List.length_nil];omega) (fun j' Y=>?_);simp only[go_sem];refine hK _ _ ⟨by simp only[go_sem,h1],by simp only[go_sem,h2],by simp only[go_sem,J],by simp only[go_sem,I],dN hi F Y,j',by simp only[go_sem],(aO hi Y).symm,?_⟩;rw[iV (show(wY n.places.length a)=true from hb)];exact fG (l':=[⟨11,iF k⟩]) rfl
 . simp only[go_sem]
   refine hK _ _ ⟨by simp only[go_sem,h1],by simp only[go_sem,h2],by simp only[go_sem,J],by simp only[go_sem,I],hi,j,by simp only[go_sem,O],F,?_⟩;rw[iX (show(wY n.places.length a)=false from hb),Xal,X]
 clear X h1 h2 J I O;rintro ρ H ⟨h1,h2,J,I,hi,j,O,F,X⟩;generalize ak:es0++opt (wY n.places.length a) (⟨11,iF k⟩:Fault)=es1 at X;have a4:es1.length<=es0.length+1:=by rw[<-ak,Xae];have:=cD (wY n.places.length a) (⟨11,iF k⟩:Fault);omega
 simp only[go_sem,h1,h2,J,I,O,hi];refine bH (fun E H'=>E 1=int k/\E 2=.rp (aV n) 0/\E 6=str (iF k)/\E 7=.op i 0 0/\H' i=some (uN a)/\∃j',E 5=.os j'/\j'≠i/\H' j'=some (bN (es1++opt (zI a) ⟨2,iF k⟩))) ?_ fun K hK=>aB (fun hb=>?_) (fun hb=>?_)
 rotate_left
 . simp only[go_sem,h1,h2,J,I,O]
   refine bG X ⟨rfl,rfl⟩ (by simp only[go_sem]) (by simp only[Xaa,Xac,List.length_nil];omega) (fun j' Y=>?_);simp only[go_sem];refine hK _ _ ⟨by simp only[go_sem,h1],by simp only[go_sem,h2],by simp only[go_sem,J],by simp only[go_sem,I],dN hi F Y,j',by simp only[go_sem],(aO hi Y).symm,?_⟩;rw[iV (show(zI a)=true from hb)];exact fG (l':=[⟨2,iF k⟩]) rfl
 . simp only[go_sem]
   refine hK _ _ ⟨by simp only[go_sem,h1],by simp only[go_sem,h2],by simp only[go_sem,J],by simp only[go_sem,I],hi,j,by simp only[go_sem,O],F,?_⟩;rw[iX (show(zI a)=false from hb),Xal,X]
 clear X h1 h2 J I O;rintro ρ H ⟨h1,h2,J,I,hi,j,O,F,X⟩;generalize aj:es1++opt (zI a) (⟨2,iF k⟩:Fault)=es2 at X;have a7:es2.length<=es1.length+1:=by rw[<-aj,Xae];have:=cD (zI a) (⟨2,iF k⟩:Fault);omega
 simp only[go_sem,h1,h2,J,I,O,hi];refine⟨fun E H'=>∃m:Nat,m<=k/\E 1=int k/\E 2=.rp (aV n) 0/\E 6=str (iF k)/\E 7=.op i 0 0/\E 5=.os j/\E 8=boo ((n.arcs.take m).any (rQ a))/\E 9=int m/\H' i=some (uN a)/\H' j=some (bN es2),fun ρ _=>k-aX (ρ 9),
   ⟨0,Xab _,by simp only[go_sem,h1],by simp only[go_sem,h2],by simp only[go_sem,J],by simp only[go_sem,I],by simp only[go_sem,O],by simp only[go_sem];rfl,by simp only[go_sem];rfl,hi,X⟩,?_⟩
 clear h1 h2 J I O hi X;rintro ρ H ⟨m,hm,h1,h2,J,I,O,h8,h9,hi,X⟩;simp only[go_sem,h1,h2,J,I,O,h8,h9];refine aB (fun Z=>?_) (fun ab=>?_)
 . have Z:=aZ Z
   obtain⟨c,hc⟩:=aQ (show m<n.arcs.length by omega);have b2:=inB (show m<n.arcs.length by omega);simp only[go_sem,h1,h2,J,I,O,h8,h9,b2,aH hc];refine aN fun x hx=>?_
   simp only[go_sem];refine aM (aA _ _ _) (by simp[jH]) ?_;have ac:=aO hi hx;have af:=aO X hx;simp only[go_sem,h1,h2,J,I,O,h8,h9,aD _ _ _ _ ac,hi,aS (show m<=4611686018427387904 by omega)];refine⟨⟨m+1,Z,?_,rfl,?_⟩,by simp only[aG];omega⟩
   . rw[Gg hc];simp only[rQ]
   . rw[aD _ _ _ _ af,aD _ _ _ _ af,X]
 . have ab:=bD hm ab
   subst ab;simp only[go_sem,h1,h2,J,I,O,h8,h9];clear h1 h2 h8 h9;refine bH (fun E H'=>E 6=str (iF m)/\E 7=.op i 0 0/\H' i=some (uN a)/\∃j',E 5=.os j'/\j'≠i/\H' j'=some (bN (es2++opt ((n.arcs.take m).any (rQ a)) ⟨6,iF m⟩))) ?_ fun K hK=>aB (fun hb=>?_) (fun hb=>?_)
   rotate_left
   . simp only[go_sem,J,I,O]
     refine bG X ⟨rfl,rfl⟩ (by simp only[go_sem]) (by simp only[Xaa,Xac,List.length_nil];omega) (fun j' Y=>?_);simp only[go_sem];refine hK _ _ ⟨by simp only[go_sem,J],by simp only[go_sem,I],dN hi F Y,j',by simp only[go_sem],(aO hi Y).symm,?_⟩;rw[iV (show((n.arcs.take m).any (rQ a))=true from hb)];exact fG (l':=[⟨6,iF m⟩]) rfl
   . simp only[go_sem]
     refine hK _ _ ⟨by simp only[go_sem,J],by simp only[go_sem,I],hi,j,by simp only[go_sem,O],F,?_⟩;rw[iX (show((n.arcs.take m).any (rQ a))=false from hb),Xal,X]
   clear X J I O;rintro ρ H ⟨J,I,hi,j,O,F,X⟩;generalize ai:es2++opt ((n.arcs.take m).any (rQ a)) (⟨6,iF m⟩:Fault)=es3 at X;have a0:es3.length<=es2.length+1:=by rw[<-ai,Xae];have:=cD ((n.arcs.take m).any (rQ a)) (⟨6,iF m⟩:Fault);omega
   simp only[go_sem,J,I,O,hi];refine PC.use (UY a.travel ax.1) ?_;simp only[go_sem];have au:=DE a.travel;have ar:(jK (nG n.arcs m).travel).map (fun f=>(⟨f.err,iF m⟩:Fault))=(jK a.travel).map (fun f=>⟨f.err,iF m⟩):=by rw[nW ha]
   generalize jK a.travel=tr at au ar;refine⟨fun ρ H=>∃q:Nat,q<=tr.length/\ρ 6=str (iF m)/\ρ 7=.op i 0 0/\ρ 11=.sl (tr.map gQ)/\ρ 12=int q/\H i=some (uN a)/\∃j,ρ 5=.os j/\j≠i/\H j=some (bN (es3++(tr.take q).map fun f=>⟨f.err,iF m⟩)),fun ρ _=>tr.length-aX (ρ 12),
     ⟨0,Xab _,by simp only[go_sem,J],by simp only[go_sem,I],by simp only[go_sem],by simp only[go_sem];rfl,hi,j,by simp only[go_sem,O],F,by simpa using X⟩,?_⟩
   clear J I O hi X F;rintro ρ H ⟨q,hq,J,I,ad,ae,hi,j,O,F,X⟩;simp only[go_sem,J,I,O,ad,ae];refine aB (fun Z=>?_) (fun ab=>?_)
   . have Z:=aZ Z
     obtain⟨f,hf⟩:=aQ Z;have b2:=inB Z;simp only[go_sem,J,I,O,ad,ae,b2,aH hf];refine bG X ⟨rfl,rfl⟩ (by simp only[go_sem]) (by simp only[Xaa,Xae,Xax,Xac,List.length_nil];omega) (fun j' Y=>?_);simp only[go_sem,J,I,O,ad,ae,aS (show q<=4611686018427387904 by omega)];refine⟨⟨q+1,Z,rfl,dN hi F Y,j',rfl,(aO hi Y).symm,?_⟩,by simp only[aG];omega⟩;rw[Ci hf,<-Xav];exact fG (l':=[⟨f.err,iF m⟩]) rfl
   . have ab:=bD hq ab
     subst ab;simp only[go_sem,J,I,O,ad,ae,hi];clear ad ae;rw[Xaf]at X;generalize ag:es3++tr.map (fun f=>(⟨f.err,iF m⟩:Fault))=es4 at X;have az:es4.length=es3.length+tr.length:=by rw[<-ag,Xae,Xaa]
     refine bH (fun E H'=>E 6=str (iF m)/\E 7=.op i 0 0/\H' i=some (uN a)/\∃j',E 5=.os j'/\j'≠i/\H' j'=some (bN (es4++opt (decide ((a.slow.length:Int)>16)) ⟨4,iF m⟩))) ?_ fun K hK=>aB (fun hb=>?_) (fun hb=>?_)
     rotate_left
     . simp only[go_sem,J,I,O]
       refine bG X ⟨rfl,rfl⟩ (by simp only[go_sem]) (by simp only[Xaa,Xac,List.length_nil];omega) (fun j' Y=>?_);simp only[go_sem];refine hK _ _ ⟨by simp only[go_sem,J],by simp only[go_sem,I],dN hi F Y,j',by simp only[go_sem],(aO hi Y).symm,?_⟩;rw[iV (show(decide ((a.slow.length:Int)>16))=true from hb)];exact fG (l':=[⟨4,iF m⟩]) rfl
     . simp only[go_sem]
       refine hK _ _ ⟨by simp only[go_sem,J],by simp only[go_sem,I],hi,j,by simp only[go_sem,O],F,?_⟩;rw[iX (show(decide ((a.slow.length:Int)>16))=false from hb),Xal,X]
     clear X J I O;rintro ρ H ⟨J,I,hi,j,O,F,X⟩;generalize al:es4++opt (decide ((a.slow.length:Int)>16)) (⟨4,iF m⟩:Fault)=es5 at X;have ay:es5.length<=es4.length+1:=by rw[<-al,Xae];have:=cD (decide ((a.slow.length:Int)>16)) (⟨4,iF m⟩:Fault);omega
     simp only[go_sem,J,I,O,hi];refine⟨fun ρ H=>∃k:Nat,k<=a.slow.length/\ρ 6=str (iF m)/\ρ 7=.op i 0 0/\ρ 13=int k/\H i=some (uN a)/\∃j,ρ 5=.os j/\j≠i/\H j=some (bN (es5++(List.range k).flatMap fun x=>opt (oW a.slow x) ⟨2,iF m⟩)),fun ρ _=>a.slow.length-aX (ρ 13),
       ⟨0,Xab _,by simp only[go_sem,J],by simp only[go_sem,I],by simp only[go_sem];rfl,hi,j,by simp only[go_sem,O],F,by simpa using X⟩,?_⟩
     clear J I O hi X F;rintro ρ H ⟨k,hk,J,I,aa,hi,j,O,F,X⟩;generalize ao:es5++(List.range k).flatMap (fun x=>opt (oW a.slow x) (⟨2,iF m⟩:Fault))=es at X;have a5:es.length<=es5.length+k:=by
       have:=fH (f:=fun x=>opt (oW a.slow x) (⟨2,iF m⟩:Fault)) (c:=1) (fun x=>cD _ _) (List.range k);rw[<-ao,Xae];rw[Xbf]at this;omega
     simp only[go_sem,J,I,O,aa,hi];refine aB (fun Z=>?_) (fun ab=>?_)
     . have Z:=aZ Z
       have am:k<=4611686018427387904:=by omega
       obtain⟨p,hp⟩:=aQ Z;obtain⟨r,hr⟩:=aQ (show k-1<a.slow.length by omega);have b2:=inB Z;simp only[go_sem,J,I,O,aa,hi,b2,aH hp];refine aN fun x hx=>?_
       simp only[go_sem];refine aM (aA _ _ _) (by simp[gX]) ?_;have ac:=aO hi hx;have af:=aO X hx;simp only[go_sem];refine fV (by rfl) (by kernel_rfl) ?_;simp only[go_sem,J,I,O,aa,aD _ _ _ _ ac,hi];refine⟨_,(YV _).q rfl,?_⟩;simp only[go_sem,J,I,O,aa,aD _ _ _ _ ac,hi];refine⟨_,fun _=>(YV _).q rfl,?_⟩;simp only[go_sem,J,I,O,aa,aD _ _ _ _ ac,hi,ZE am,aH hr];have an:aI (aI H x (some ⟨136,2,[[int 0,int 0]]⟩)) x (some ⟨136,2,[cA p]⟩) i=some (uN a):=by rw[aD _ _ _ _ ac,aD _ _ _ _ ac,hi]
       have ap:aI (aI H x (some ⟨136,2,[[int 0,int 0]]⟩)) x (some ⟨136,2,[cA p]⟩) j=some (bN es):=by rw[aD _ _ _ _ af,aD _ _ _ _ af,X]
       have aq:oW a.slow k=(!inR p.t 0 4096|| !inR p.a 0 4096||decide ((k:Int)>0)&&decide (p.t<=r.t)):=by rw[oW,dY hp,dY hr]
       have av:es5++(List.range (k+1)).flatMap (fun x=>opt (oW a.slow x) (⟨2,iF m⟩:Fault))=es++opt (oW a.slow k) ⟨2,iF m⟩:=by rw[iO,<-Xav,ao]
       refine⟨fun h=>by
         have:(k:Int)>0:=by simpa using h.2
         rw[oI am];omega,hU (fun E H'=>E 6=str (iF m)/\E 7=.op i 0 0/\E 13=int k/\H' i=some (uN a)/\∃j,E 5=.os j/\j≠i/\H' j=some (bN (es++opt (oW a.slow k) ⟨2,iF m⟩))) ?_ fun K hK _ _=>aB (fun hb=>?_) (fun hb=>?_)⟩
       . clear J I O aa
         rintro ρ H ⟨J,I,aa,hi,j,O,F,X⟩;simp only[go_sem,J,I,O,aa,aS am];exact⟨⟨k+1,Z,rfl,hi,j,rfl,F,by rw[av];exact X⟩,by simp only[aG];omega⟩
       . simp only[go_sem,J,I,O,aa]
         refine bG ap ⟨rfl,rfl⟩ (by simp only[go_sem]) (by simp only[Xaa,Xac,List.length_nil];omega) (fun j' Y=>?_);simp only[go_sem];refine hK _ _ ⟨by simp only[go_sem,J],by simp only[go_sem,I],by simp only[go_sem,aa],dN an F Y,j',by simp only[go_sem],(aO an Y).symm,?_⟩;rw[iV (aq.trans hb)];exact fG (l':=[⟨2,iF m⟩]) rfl
       . simp only[go_sem]
         refine hK _ _ ⟨by simp only[go_sem,J],by simp only[go_sem,I],by simp only[go_sem,aa],an,j,by simp only[go_sem,O],F,?_⟩;rw[iX (aq.trans hb),Xal,ap]
     . have ab:=bD hk ab
       subst ab;simp only[go_sem,O];refine⟨_,rfl,?_⟩;rw[X,<-ao,<-al,<-ag,<-ar,<-ai,<-aj,<-ak,<-ah,Er,nW ha]
theorem FS(n:Network)(k:Nat)(I:(nG n.arcs k).travel.length<=1048576)(F:(nG n.arcs k).slow.length<=1048576):(Er n k).length<=3145740:=by
 have h1:=cD (wY n.places.length (nG n.arcs k)) (⟨11,iF k⟩:Fault);have Y:=cD (zI (nG n.arcs k)) (⟨2,iF k⟩:Fault);have X:=cD ((n.arcs.take k).any (rQ (nG n.arcs k))) (⟨6,iF k⟩:Fault);have J:=DE (nG n.arcs k).travel;have O:=cD (decide (((nG n.arcs k).slow.length:Int)>16)) (⟨4,iF k⟩:Fault);have E:=fH (f:=fun i=>opt (oW (nG n.arcs k).slow i) (⟨2,iF k⟩:Fault)) (c:=1) (fun x=>cD _ _) (List.range (nG n.arcs k).slow.length);rw[Xbf]at E;simp only[Er,Xae,Xaa,List.length_nil];omega
theorem Ee{α E:Type}{f:α->List E}{c:Nat}:∀l:List α,(∀x∈l,(f x).length<=c)->(l.flatMap f).length<=c*l.length
 | [],_=>by simp
 | x::r,h=>by
   have h1:=h x (by simp);have I:=Ee r fun y F=>h y (by simp[F])
   simp only[List.flatMap_cons,Xae,Xac,Nat.mul_add,Nat.mul_one];omega
def Fe(n:Network):List Fault:=xA n.places++opt (decide ((n.arcs.length:Int)>1024)) ⟨4,⟨#[97,114,99,115]⟩⟩++(List.range n.arcs.length).flatMap (Er n)
theorem DU(l:List ByteArray):(xA l).length<=l.length+1:=by
 have:=fH (SY l) (List.range l.length);have E:=cD (decide ((l.length:Int)>24)) (⟨4,⟨#[112,108,97,99,101,115]⟩⟩:Fault);rw[xA,Xae];rw[Xbf]at this;omega
theorem arY(n:Network)(hp:n.places.length<=1048576)(ad:∀s∈n.places,s.size<=1048576)(hl:n.arcs.length<=1048576)(hs:∀a∈n.arcs,a.travel.length<=1048576/\a.slow.length<=1048576):
   NC prog 30 [.agg (aV n)] (bN (Fe n)) .os:=by
 have aa:∀k,(Er n k).length<=3145740:=fun k=>by
   rcases Xbe k n.arcs.length with h|h
   . obtain⟨a,ha⟩:=aQ h
     have hm:=hs a (kI ha);exact FS n k (by rw[nW ha];exact hm.1) (by rw[nW ha];exact hm.2)
   . have:nG n.arcs k=⟨0,0,0,0,[],[]⟩:=by simp[nG,List.getD,List.getElem?_eq_none h]
     exact FS n k (by rw[this];simp) (by rw[this];simp)
 have ac:=DU n.places;refine ncb (fun t=>t == 3) Tryz.func30 ?_;unfold Tryz.f30;simp only[gdS];simp only[go_sem];refine NC.use (CE n hp ad) fun j hj=>?_
 simp only[go_sem];refine pQ (fun I H'=>I 1=.rp (aV n) 0/\∃O,I 3=.os O/\H' O=some (bN (xA n.places))) ⟨by simp only[go_sem],j,by simp only[go_sem],aA _ _ _⟩ ?_;clear hj;rintro ρ H ⟨h1,j,E,F⟩;generalize ab:xA n.places=es0 at F ac;refine bH (fun I H'=>I 1=.rp (aV n) 0/\∃O,I 3=.os O/\H' O=some (bN (es0++opt (decide ((n.arcs.length:Int)>1024)) ⟨4,⟨#[97,114,99,115]⟩⟩))) ?_ fun K hK=>aB (fun hb=>?_) (fun hb=>?_)
 rotate_left
 . simp only[go_sem,h1,E]
   refine bG F ⟨rfl,rfl⟩ (by simp only[go_sem]) (by simp only[Xaa,Xac,List.length_nil];omega) (fun O ae=>?_);simp only[go_sem];refine hK _ _ ⟨by simp only[go_sem,h1],O,by simp only[go_sem],?_⟩;rw[iV (show(decide ((n.arcs.length:Int)>1024))=true from hb)];exact fG (l':=[⟨4,⟨#[97,114,99,115]⟩⟩]) rfl
 . simp only[go_sem]
   refine hK _ _ ⟨by simp only[go_sem,h1],j,by simp only[go_sem,E],?_⟩;rw[iX (show(decide ((n.arcs.length:Int)>1024))=false from hb),Xal,F]
 clear F h1 E;rintro ρ H ⟨h1,j,E,F⟩;generalize X:es0++opt (decide ((n.arcs.length:Int)>1024)) (⟨4,⟨#[97,114,99,115]⟩⟩:Fault)=es1 at F;have af:es1.length<=es0.length+1:=by rw[<-X,Xae];have:=cD (decide ((n.arcs.length:Int)>1024)) (⟨4,⟨#[97,114,99,115]⟩⟩:Fault);omega
 simp only[go_sem,h1,E];refine⟨fun ρ H=>∃k:Nat,k<=n.arcs.length/\ρ 1=.rp (aV n) 0/\ρ 4=int k/\∃j,ρ 3=.os j/\H j=some (bN (es1++(List.range k).flatMap (Er n))),fun ρ _=>n.arcs.length-aX (ρ 4),⟨0,Xab _,by simp only[go_sem,h1],by simp only[go_sem];rfl,j,by simp only[go_sem,E],by simpa using F⟩,?_⟩;clear F h1 E;rintro ρ H ⟨k,hk,h1,h4,j,E,F⟩;generalize Y:es1++(List.range k).flatMap (Er n)=es at F;have ag:es.length<=es1.length+3145740*k:=by
   have:=fH aa (List.range k);rw[<-Y,Xae];rw[Xbf]at this;omega
 simp only[go_sem,h1,E,h4];refine aB (fun J=>?_) (fun Z=>?_)
 . have J:=aZ J
   simp only[go_sem,h1,E,h4];refine NC.use (atL n k J hp hl hs) fun i hi=>?_
   simp only[go_sem];have:=aa k;refine Cu (lF F hi) (aA _ _ _) ⟨rfl,rfl⟩ (pU _) (by simp only[Xaa];omega) (fun O ae=>?_);simp only[go_sem,h1,E,h4,aS (show k<=4611686018427387904 by omega)];refine⟨⟨k+1,J,rfl,O,rfl,?_⟩,by simp only[aG];omega⟩;rw[iO,<-Xav,Y];exact fG rfl
 . have Z:=bD hk Z
   subst Z;simp only[go_sem,E];exact⟨_,rfl,by rw[F,<-Y,<-X,<-ab];rfl⟩
def small(l:List Fault):Prop:=∀f∈l,f.at_.size<=4194304
theorem Vx:small []:=by simp[small]
theorem jA{a b:List Fault}(E:small a)(I:small b):small (a++b):=fun f F=>(Xaq.1 F).elim (E f) (I f)
theorem iI{b:Bool}{f:Fault}(h:f.at_.size<=4194304):small (opt b f):=by
 cases b
 . simp[small,opt]
 . intro g E;simp[opt]at E;subst E;exact h
theorem pK{α:Type}{F:α->List Fault}{l:List α}(h:∀x∈l,small (F x)):small (l.flatMap F):=fun f E=>by
 obtain⟨x,I,E⟩:=Xbo.1 E;exact h x I f E
theorem Ds{α:Type}{F:α->Fault}{l:List α}(h:∀x∈l,(F x).at_.size<=4194304):small (l.map F):=fun f E=>by
 obtain⟨x,I,rfl⟩:=List.mem_map.1 E;exact h x I
theorem uU{i n:Nat}(h:i∈List.range n):i<n:=Xap.1 h
theorem UC(i:Nat):(iF i).size<=i+5:=by
 have:=oA i;unfold iF;rw[ByteArray.size_append];have:(⟨#[97,114,99,32]⟩:ByteArray).size=4:=rfl;omega
theorem RT(w:ByteArray)(i:Nat):(yE w i).size<=w.size+i+2:=by
 have:=oA i;unfold yE;rw[ByteArray.size_append,ByteArray.size_append];have:(⟨#[32]⟩:ByteArray).size=1:=rfl;omega
theorem KM(l:List ByteArray)(h:l.length<=1048576):small (xA l):=jA (iI (by decide)) (pK fun i hi=>by
 have:=uU hi;have:=Oo i;unfold gH;split
 . exact iI (b:=true) (by show(sX i).size<=_;omega)
 . exact iI (by show(sX i).size<=_;omega))
theorem Vm(n:Network)(E:n.places.length<=1048576)(F:n.arcs.length<=1048576):small (Fe n):=by
 refine jA (jA (KM _ E) (iI (by decide))) (pK fun i hi=>?_);have:=uU hi;have h:(iF i).size<=4194304:=by have:=UC i;omega
 exact jA (jA (jA (jA (jA (jA Vx (iI h)) (iI h)) (iI h)) (Ds fun _ _=>h)) (iI h)) (pK fun _ _=>iI h)
theorem N8(n:Network)(l:List VType)(E:l.length<=1048576):small (sU n l):=
 jA (iI (by decide)) (pK fun i hi=>Ds fun _ _=>by have:=uU hi;have:=oA i;show(kD i).size<=_;omega)
theorem LJ(n:Network)(d T:Int)(l:List Order)(E:l.length<=1048576):small (oF n d T l):=
 jA (iI (by decide)) (pK fun i hi=>Ds fun _ _=>by have:=uU hi;have:=oA i;show(kD i).size<=_;omega)
theorem D5(N:Int)(l:List Pair)(w:ByteArray)(b:Bool)(E:l.length<=1048576)(F:w.size<=100):small (uS N l w b):=jA (iI (by show w.size<=_;omega)) (pK fun i hi=>by
 have:=uU hi;have:=RT w i;unfold gT;split
 . exact iI (b:=true) (by show(yE w i).size<=_;omega)
 . exact iI (by show(yE w i).size<=_;omega))
theorem PB(n:Network)(l:List VType):(sU n l).length<=9*l.length+1:=by
 have:=fH (f:=iL n l) (c:=9) (fun x=>by unfold iL;rw[Xaa];exact wG _ _ _ _) (List.range l.length);have E:=cD (!inR l.length 1 6) (⟨4,ByteArray.empty⟩:Fault);rw[sU,Xae];rw[Xbf]at this;omega
theorem OM(n:Network)(d T:Int)(l:List Order):(oF n d T l).length<=9*l.length+1:=by
 have:=fH (f:=fS n d T l) (c:=9) (fun x=>by unfold fS;rw[Xaa];exact uB _ _ _ _ _ _) (List.range l.length);have E:=cD (decide ((l.length:Int)>10)) (⟨4,ByteArray.empty⟩:Fault);rw[oF,Xae];rw[Xbf]at this;omega
structure InB(x:Instance):Prop where
 places:x.net.places.length<=1048576
 place:∀s∈x.net.places,s.size<=1048576
 arcs:x.net.arcs.length<=1048576
 arc:∀a∈x.net.arcs,a.travel.length<=1048576/\a.slow.length<=1048576
 types:x.types.length<=1048576
 type:∀t∈x.types,t.name.size<=1048576/\t.cap.length<=1048576
 orders:x.orders.length<=1048576
 order:∀t∈x.orders,t.name.size<=1048576/\t.load.length<=1048576
 apart:x.apart.length<=1048576
 before:x.before.length<=1048576
def C7(x:Instance):List Fault:=uS x.orders.length x.apart ⟨#[97,112,97,114,116]⟩ true++uS x.orders.length x.before ⟨#[98,101,102,111,114,101]⟩ false
def kH(x:Instance):List Fault:=(Fe x.net).map (lJ ⟨#[110,101,116]⟩)++(sU x.net x.types).map (lJ ⟨#[116,121,112,101,115]⟩) ++
 (oF x.net (nH x.types) x.types.length x.orders).map (lJ ⟨#[111,114,100,101,114,115]⟩)++(C7 x).map (lJ ⟨#[114,117,108,101,115]⟩)
theorem WU(x:Instance)(h:InB x):(Fe x.net).length<=3300000000000:=by
 have h1:=DU x.net.places;have Y:=cD (decide ((x.net.arcs.length:Int)>1024)) (⟨4,⟨#[97,114,99,115]⟩⟩:Fault);have J:=Ee (f:=Er x.net) (c:=3145740) (List.range x.net.arcs.length) fun k I=>by
   obtain⟨a,E⟩:=aQ (uU I);have F:=h.arc a (kI E);exact FS x.net k (by rw[nW E];exact F.1) (by rw[nW E];exact F.2)
 have O:=h.places;have X:=h.arcs;rw[Xbf]at J;simp only[Fe,Xae];omega
theorem aeM(x:Instance)(h:InB x):NC prog 9 [.agg (aL x)] (bN (kH x)) .os:=by
 have c1:PC prog 30 [.agg (aV x.net)] (.sl ((Fe x.net).map gQ)):=NC.pc (arY x.net h.places h.place h.arcs h.arc);have c2:PC prog 31 [.agg (aV x.net),.sl (x.types.map aY)] (.sl ((sU x.net x.types).map gQ)):=NC.pc (aeQ x.net x.types h.types h.type h.places);have Z:PC prog 32 [.agg (aV x.net),int (nH x.types),int x.types.length,.sl (x.orders.map bF)] (.sl ((oF x.net (nH x.types) x.types.length x.orders).map gQ)):=NC.pc (Ge x.net _ _ x.orders h.orders h.order h.places);have c4:PC prog 34 [int x.orders.length,.sl (x.apart.map dC),.sl (x.before.map dC)] (.sl ((C7 x).map gQ)):=NC.pc (K8 x.orders.length x.apart x.before h.apart h.before);have l1:=WU x h;have l2:=PB x.net x.types;have l3:=OM x.net (nH x.types) x.types.length x.orders;have l4:(C7 x).length<=2097154:=by
   have a1:=wO x.orders.length x.apart ⟨#[97,112,97,114,116]⟩ true;have a2:=wO x.orders.length x.before ⟨#[98,101,102,111,114,101]⟩ false;have:=h.apart;have:=h.before;rw[C7,Xae];omega
 have s1:=Vm x.net h.places h.arcs;have s2:=N8 x.net x.types h.types;have s3:=LJ x.net (nH x.types) x.types.length x.orders h.orders;have Y:small (C7 x):=jA (D5 _ _ _ _ h.apart (by decide)) (D5 _ _ _ _ h.before (by decide));have ht:=h.types;have ho:=h.orders;refine ncb (fun t=>t == 27) Tryz.func9 ?_;unfold Tryz.f9;simp only[gdS];simp only[go_sem];refine PC.use c1 ?_;simp only[go_sem];refine NC.use (EC ⟨#[110,101,116]⟩ _ (by decide) (by omega) fun f E=>Xah (s1 f E) (by decide)) fun j hj=>?_
 simp only[go_sem];refine PC.use c2 ?_;simp only[go_sem];refine NC.use (EC ⟨#[116,121,112,101,115]⟩ _ (by decide) (by omega) fun f E=>Xah (s2 f E) (by decide)) fun i hi=>?_
 simp only[go_sem];refine Cu (lF (aA _ _ _) hi) (aA _ _ _) ⟨rfl,rfl⟩ (pU _) (by simp only[Xaa];omega) (fun J X=>?_);simp only[go_sem];refine EK (by kernel_rfl) ?_;simp only[go_sem];refine⟨_,(J5 x.types).q rfl,?_⟩;simp only[go_sem];have O:=fG (e:=128) (sz:=2) (enc:=gQ) (H:=aI (aI (aI bS j (some (bN ((Fe x.net).map (lJ ⟨#[110,101,116]⟩))))) i (some (bN ((sU x.net x.types).map (lJ ⟨#[116,121,112,101,115]⟩))))) j none) (k:=J) (l:=(Fe x.net).map (lJ ⟨#[110,101,116]⟩)) (l':=(sU x.net x.types).map (lJ ⟨#[116,121,112,101,115]⟩)) rfl;generalize aI (aI (aI (aI bS j _) i _) j none) J _=H at O |-;generalize I:(Fe x.net).map (lJ ⟨#[110,101,116]⟩)++(sU x.net x.types).map (lJ ⟨#[116,121,112,101,115]⟩)=es at O;have aa:es.length<=3300000000000+9*x.types.length+1:=by rw[<-I,Xae,Xaa,Xaa];omega
 clear hi hj X;refine PC.use Z ?_;simp only[go_sem];refine NC.use (EC ⟨#[111,114,100,101,114,115]⟩ _ (by decide) (by omega) fun f E=>Xah (s3 f E) (by decide)) fun i hi=>?_
 simp only[go_sem];refine Cu (lF O hi) (aA _ _ _) ⟨rfl,rfl⟩ (pU _) (by simp only[Xaa];omega) (fun k hk=>?_);simp only[go_sem];have F:=fG (e:=128) (sz:=2) (enc:=gQ) (H:=aI (aI H i (some (bN ((oF x.net (nH x.types) x.types.length x.orders).map (lJ ⟨#[111,114,100,101,114,115]⟩))))) J none) (k:=k) (l:=es) (l':=(oF x.net (nH x.types) x.types.length x.orders).map (lJ ⟨#[111,114,100,101,114,115]⟩)) rfl;generalize aI (aI (aI H i _) J none) k _=H2 at F |-;clear hi hk;refine PC.use c4 ?_;simp only[go_sem];refine NC.use (EC ⟨#[114,117,108,101,115]⟩ _ (by decide) (by omega) fun f E=>Xah (Y f E) (by decide)) fun q hq=>?_
 simp only[go_sem];refine Cu (lF F hq) (aA _ _ _) ⟨rfl,rfl⟩ (pU _) (by simp only[Xaa,Xae];omega) (fun m hm=>?_);simp only[go_sem];refine⟨m,rfl,?_⟩;rw[kH,I];exact fG rfl
end Go.Proofs.YtdlijlecpopadaaGreatDoor
end
section
namespace Go.Aw.D
open Go.Aw Go.RowKit
def Sw(w:World):Sg:=⟨fun k=>k<w.heap.size,fun k=>k<w.heap.size,fun _=>.slice none 0 0,fun _=>1,0⟩
def Ll(w:World):Prop:=∀t∈Vy,sT w t.1=some t.2
theorem Of{w:World}{g:Nat}{cs:Array Value}(h:sT w g=some cs):g<w.heap.size:=by
 unfold sT at h;split at h
 . rename_i h1;exact(Array.getElem?_eq_some_iff.1 h1).1
 . cases h
theorem azM(w:World)(F:Ll w):St (Sw w) w bS:=⟨fun _ h=>h,fun _ h=>h,fun k r E=>by simp[bS]at E,fun k r E=>by simp[bS]at E,fun k k' r r' E=>by simp[bS]at E,fun t h=>⟨Of (F t h),F t h⟩⟩
def lK(_:Nat)(x:Int):Prop:= -9223372036854775808<=x/\x<=9223372036854775807
def akB(_:Nat)(_:Bool):Prop:=True
def Nx(n:Nat)(s:ByteArray):Prop:=s.size<=n
def bL{α:Type}(b:Nat->α->Prop)(n:Nat)(l:List α):Prop:=l.length<=n/\∀x∈l,b n x
def Rd{H:Type}(e:TypeId×Value->H)(B:DataW H->Nat)(P:Program)(w:World)(t:TypeId){α:Type}(enc:α->List AV)(b:Nat->α->Prop):Prop:=
 ∀fuel cs y,DataW.trod e P w 0 (fun _=>true) true fuel t cs=some y->∃x:α,(bC (Sw w) w (enc x) cs/\∀u∈cs,u.oneCell'=true)/\∀n,B y.1<=n->b n x
section
variable{H:Type}{e:TypeId×Value->H}{P:Program}{w:World}{t:TypeId}
abbrev BK(H:Type):DataW H->Nat:=Go.Proofs.YtdlijlecpopadaaGreatDoor.Rows.uptoBulk
theorem fY(F:P.underlying t=some (.int .i64)):Rd e (BK H) P w t aR lK:=by
 intro E cs y h;obtain⟨n,rfl,_,I⟩:=DataW.trod_int F h;refine⟨n,⟨by simp only[aR,bC];exact⟨_,_,rfl,by simp only[rep],rfl⟩,by simp[Value.oneCell']⟩,fun _ _=>bounds_i64 I⟩
theorem aeV(F:P.underlying t=some .bool):Rd e (BK H) P w t fX akB:=by
 intro E cs y h;obtain⟨n,rfl,_⟩:=DataW.trod_bool F h;refine⟨n,⟨by simp only[fX,bC];exact⟨_,_,rfl,by simp only[rep],rfl⟩,by simp[Value.oneCell']⟩,fun _ _=>trivial⟩
theorem Lr(F:P.underlying t=some .string):Rd e (BK H) P w t fK Nx:=by
 intro E cs y h;obtain⟨s,rfl,rfl,_⟩:=DataW.trod_string F h;refine⟨s,⟨by simp only[fK,bC];exact⟨_,_,rfl,by simp only[rep],rfl⟩,by simp[Value.oneCell']⟩,fun n I=>?_⟩;simp only[BK,Go.Proofs.YtdlijlecpopadaaGreatDoor.Rows.uptoBulk,Array.length_toList]at I;have:s.size=s.data.size:=rfl;simp only[Nx];omega
theorem Hi{d:DataW H}{l:List (DataW H)}(h:d∈l):BK H d<=Go.Proofs.YtdlijlecpopadaaGreatDoor.Rows.uptoBulkAll l:=by
 induction l with
 | nil=>cases h
 | cons x r ih=>
   simp only[Go.Proofs.YtdlijlecpopadaaGreatDoor.Rows.uptoBulkAll];cases List.mem_cons.1 h with
   | inl e=>subst e;simp only[BK];omega
   | inr e=>have:=ih e;omega
theorem ZW(d:DataW H):1<=BK H d:=by
 cases d with
 | lit l=>cases l <;> simp[BK,Go.Proofs.YtdlijlecpopadaaGreatDoor.Rows.uptoBulk]
 | nil=>simp[BK,Go.Proofs.YtdlijlecpopadaaGreatDoor.Rows.uptoBulk]
 | ptr d=>simp[BK,Go.Proofs.YtdlijlecpopadaaGreatDoor.Rows.uptoBulk]
 | slice elems spare=>simp[BK,Go.Proofs.YtdlijlecpopadaaGreatDoor.Rows.uptoBulk]
 | agg parts=>simp[BK,Go.Proofs.YtdlijlecpopadaaGreatDoor.Rows.uptoBulk]
 | iface t d=>simp[BK,Go.Proofs.YtdlijlecpopadaaGreatDoor.Rows.uptoBulk]
 | map entries=>simp[BK,Go.Proofs.YtdlijlecpopadaaGreatDoor.Rows.uptoBulk]
 | held h=>simp[BK,Go.Proofs.YtdlijlecpopadaaGreatDoor.Rows.uptoBulk]
theorem Nq(l:List (DataW H)):l.length<=Go.Proofs.YtdlijlecpopadaaGreatDoor.Rows.uptoBulkAll l:=by
 induction l with
 | nil=>simp[Go.Proofs.YtdlijlecpopadaaGreatDoor.Rows.uptoBulkAll]
 | cons x r ih=>have:=ZW x;simp only[Go.Proofs.YtdlijlecpopadaaGreatDoor.Rows.uptoBulkAll,List.length_cons,BK]at *;omega
theorem Ny{α:Type}(n:Nat)(p:Nat->α->Prop)(h:∀i,i<n->∃x,p i x):∃l:List α,l.length=n/\∀i x,l[i]?=some x->p i x:=by
 induction n with
 | zero=>exact⟨[],rfl,by simp⟩
 | succ n ih=>
   obtain⟨l,I,J⟩:=ih fun i hi=>h i (by omega)
   obtain⟨x,O⟩:=h n (by omega);refine⟨l++[x],by simp[I],fun i y E=>?_⟩;rcases Nat.lt_or_ge i n with hi|hi
   . rw[List.getElem?_append_left (by omega)]at E;exact J i y E
   . rw[List.getElem?_append_right (by omega)]at E
     have:i-l.length=0:=by
       rcases Nat.eq_zero_or_pos (i-l.length)with h0|h0
       . exact h0
       . rw[List.getElem?_eq_none (by simp;omega)]at E;simp at E
     rw[this]at E;have F:i=n:=by omega
     subst F;simp at E;subst E;exact O
theorem BL{S:Sg}{b sz:Nat}{α:Type}{enc:α->List AV}(E:∀x,(enc x).length=sz):∀(l:List α) (o:Nat),(∀i x,l[i]?=some x->cU S w b (o+i*sz) (enc x))->iG S w b sz o (l.map enc)
 | [],_,_=>by simp[iG]
 | x::r,o,h=>by
   simp only[List.map_cons,iG];refine⟨E x,by simpa using h 0 x rfl,BL E r (o+sz) fun i y F=>?_⟩;have:=h (i+1) y (by simpa using F)
   rwa [show o+(i+1)*sz=o+sz+i*sz by rw[Nat.add_mul];omega]at this
theorem C9{a:Addr}{n:Nat}{cs:List Value}(h:w.cells? 0 a n=some cs):cs.length=n/\∀j,j<n->w.cell? (a.add j)=cs[j]?:=by
 unfold World.cells? at h;rw[if_pos (Nat.zero_le _)]at h;have F:=mapM_some_length h;exact⟨by simpa using F,fun j E=>mapM_some_get h j j (by simp[E])⟩
theorem qW{α:Type}{enc:α->List AV}{b:Nat->α->Prop}{et:TypeId}{sz:Nat}(ht:P.underlying t=some (.slice et))(hc:P.cellsOf et=sz)(F:0<sz)(Z:∀x,(enc x).length=sz)(hr:Rd e (BK H) P w et enc b):
   Rd e (BK H) P w t (fun l:List α=>[.sl (l.map enc)]) (bL b):=by
 intro ak cs y h;rcases DataW.trod_slice ht h with⟨rfl,rfl⟩|⟨a,len,cap,E,rest,n,rfl,rfl,rfl,_,ae,ad,aj,aa,al,_⟩
 . refine⟨[],⟨?_,by simp[Value.oneCell']⟩,fun n _=>⟨by simp,by simp⟩⟩
   simp only[bC,rep,List.map_nil];exact⟨_,_,rfl,⟨none,0,0,rfl,rfl,Nat.le_refl _,Nat.zero_le _,by simp⟩,rfl⟩
 . have hp : ∀ i, i < len -> ∃ x : α, ∃ z cs', E[i]? = some z /\ w.cells? 0 (a.add (i * sz)) sz = some cs' /\ (bC (Sw w) w (enc x) cs' /\ ∀ u ∈ cs', u.oneCell' = true) /\ ∀ n, BK H z.1 <= n -> b n x := fun i hi => by
     have hg:=aa i hi;rw[List.getElem?_eq_getElem (by omega),hc,Option.bind_eq_some_iff]at hg;obtain⟨cs',h1,h2⟩:=hg;obtain⟨x,X,J⟩:=hr _ _ _ h2;exact⟨x,_,cs',List.getElem?_eq_getElem (by omega),h1,X,J⟩
   obtain⟨l,hl,O⟩:=Ny len _ hp;refine⟨l,⟨?_,by simp[Value.oneCell']⟩,fun m hm=>⟨?_,fun x X=>?_⟩⟩
   . simp only[bC]
     refine⟨_,_,rfl,?_,rfl⟩;simp only[rep];refine⟨some a,len,cap,rfl,by simp[hl],ae,ad,?_⟩;rcases Nat.eq_zero_or_pos len with h0|h0
     . left;rw[List.eq_nil_of_length_eq_zero (hl.trans h0)];rfl
     . right
       have ag:=hp 0 h0;obtain⟨_,_,an,_,ac,_⟩:=ag;have q:=(C9 ac).2 0 F;have ah:=(C9 ac).1;rw[List.getElem?_eq_getElem (by omega)]at q;simp only[Nat.zero_mul,Addr.add,if_true]at q;have I:a.spot=none/\a.block<w.heap.size:=by
         unfold World.cell? at q;split at q
         . rename_i c _ _ J
           split at q
           . simp at q
           . rename_i hs
             refine⟨by simpa using hs,?_⟩;rcases Nat.lt_or_ge a.block w.heap.size with h|h
             . exact h
             . rw[Array.getElem?_eq_none h]at J;simp at J
         . simp at q
       obtain⟨ab,ao,am⟩:=a;obtain⟨hs,Y⟩:=I;simp only at hs Y;subst hs;refine⟨ab,ao,sz,rfl,Y,F,BL Z l ao fun i x X=>?_⟩;obtain⟨z,cs',_,af,⟨h1,h2⟩,_⟩:=O i x X;refine jS _ cs' _ h1 h2 fun j u hj=>?_
       obtain⟨e1,e2⟩:=C9 af;have ai:j<sz:=by
         rcases Nat.lt_or_ge j sz with h|h
         . exact h
         . rw[List.getElem?_eq_none (by omega)]at hj;simp at hj
       have:=e2 j ai;rw[hj,Addr.add_lit,Addr.add_lit]at this;exact this
   . rw[hl,<-aj]
     have h1:=Nq (E.map (·.1));simp only[BK,Go.Proofs.YtdlijlecpopadaaGreatDoor.Rows.uptoBulk,List.length_map]at hm h1;omega
   . obtain⟨i,hi⟩:=List.mem_iff_getElem?.1 X
     obtain⟨z,cs',hz,_,_,J⟩:=O i x hi;refine J m ?_;have h1:=Hi (List.mem_map_of_mem (f:=(·.1)) (List.mem_of_getElem? hz));simp only[BK,Go.Proofs.YtdlijlecpopadaaGreatDoor.Rows.uptoBulk]at hm h1 |-;omega
theorem fld{E o m:Nat}{cs:List Value}{z:DataW H×List MemPlace}(F:P.cellsOf t=m)(h:DataW.trod e P w 0 (fun _=>true) true E t ((cs.drop o).take (P.cellsOf t))=some z):DataW.trod e P w 0 (fun _=>true) true E t ((cs.drop o).take m)=some z:=F▸h
theorem bO{S:Sg}{a b:List AV}{cs:List Value}{o m:Nat}(h:bC S w a ((cs.drop o).take m))(E:bC S w b (cs.drop (o+m))):bC S w (a++b) (cs.drop o):=by
 have:=dJ a b _ _ h E
 rwa [<-List.drop_drop,List.take_append_drop]at this
theorem qM{S:Sg}{cs:List Value}{o:Nat}(h:cs.length=o):bC S w [] (cs.drop o):=by
 rw[List.drop_eq_nil_of_le (by omega)];simp[bC]
theorem bT{cs:List Value}{o m:Nat}(h:∀u∈(cs.drop o).take m,u.oneCell'=true)(F:∀u∈cs.drop (o+m),u.oneCell'=true):∀u∈cs.drop o,u.oneCell'=true:=by
 intro u E;rw[<-List.take_append_drop m (cs.drop o),List.drop_drop]at E;rcases List.mem_append.1 E with E|E
 . exact h u E
 . exact F u E
theorem tT{cs:List Value}{o:Nat}(h:cs.length=o):∀u∈cs.drop o,u.oneCell'=true:=by
 rw[List.drop_eq_nil_of_le (by omega)];simp
theorem bE{xs:List (DataW H×List MemPlace)}{i:Nat}{z:DataW H×List MemPlace}(E:xs[i]?=some z){n:Nat}(h:BK H (.agg (xs.map (·.1)))<=n):BK H z.1<=n:=by
 have h1:=Hi (List.mem_map_of_mem (f:=(·.1)) (List.mem_of_getElem? E));simp only[BK,Go.Proofs.YtdlijlecpopadaaGreatDoor.Rows.uptoBulk]at h h1 |-;omega
theorem bU{α:Type}{xs:List α}{n i:Nat}(h:xs.length=n)(hi:i<n):∃z,xs[i]?=some z:=⟨xs[i],List.getElem?_eq_getElem (by omega)⟩
end
section
open Go.Proofs Go.Proofs.YtdlijlecpopadaaGreatDoor
variable{H:Type}{e:TypeId×Value->H}{w:World}
theorem acG:Rd e (BK H) Tryz.prog w 22 (fun l:List ByteArray=>[.sl (l.map fK)]) (bL Nx):=qW (sz:=1) Tryz.underlying22 (by kernel_rfl) (by omega) (fun _=>rfl) (Lr Tryz.underlying9)
def Lf(n:Nat)(x:Point):Prop:=lK n x.t/\lK n x.a
theorem acD:Rd e (BK H) Tryz.prog w 136 cA Lf:=by
 intro Y cs y h;obtain⟨xs,n,rfl,rfl,J,E,O⟩:=DataW.trod_struct Tryz.underlying136 h;have E:xs.length=2:=E;have J:cs.length=2:=J.trans (by kernel_rfl);obtain⟨z0,F⟩:=bU E (show 0<2 by omega);obtain⟨Z,⟨r0,o0⟩,b0⟩:=(fY Tryz.underlying3:Rd e (BK H) Tryz.prog w 3 _ _) n ((cs.drop 0).take 1) z0 (fld (t:=3) (o:=0) (m:=1) (by kernel_rfl) ((O 0 _ rfl).trans F));obtain⟨z1,I⟩:=bU E (show 1<2 by omega);obtain⟨x1,⟨r1,o1⟩,b1⟩:=(fY Tryz.underlying3:Rd e (BK H) Tryz.prog w 3 _ _) n ((cs.drop 1).take 1) z1 (fld (t:=3) (o:=1) (m:=1) (by kernel_rfl) ((O 1 _ rfl).trans I));refine⟨⟨Z,x1⟩,⟨?_,?_⟩,fun m X=>⟨b0 m (bE F X),b1 m (bE I X)⟩⟩
 . have:=bO (o:=0) (m:=1) r0 (bO (o:=1) (m:=1) r1 (qM (by omega)))
   rw[List.drop_zero]at this;exact this
 . have:=bT (o:=0) (m:=1) o0 (bT (o:=1) (m:=1) o1 (tT (by omega)))
   rw[List.drop_zero]at this;exact this
theorem Iv:Rd e (BK H) Tryz.prog w 137 (fun l:List Point=>[.sl (l.map cA)]) (bL Lf):=qW (sz:=2) Tryz.underlying137 (by kernel_rfl) (by omega) (fun _=>rfl) (acD)
def aoA(n:Nat)(x:Arc):Prop:=lK n x.src/\lK n x.dst/\lK n x.profile/\lK n x.miles/\(bL Lf) n x.travel/\(bL Lf) n x.slow
theorem alT:Rd e (BK H) Tryz.prog w 139 gF aoA:=by
 intro ab cs y h;obtain⟨xs,n,rfl,rfl,hl,E,F⟩:=DataW.trod_struct Tryz.underlying139 h;have E:xs.length=6:=E;have hl:cs.length=6:=hl.trans (by kernel_rfl);obtain⟨z0,J⟩:=bU E (show 0<6 by omega);obtain⟨x0,⟨r0,o0⟩,b0⟩:=(fY Tryz.underlying3:Rd e (BK H) Tryz.prog w 3 _ _) n ((cs.drop 0).take 1) z0 (fld (t:=3) (o:=0) (m:=1) (by kernel_rfl) ((F 0 _ rfl).trans J));obtain⟨z1,Y⟩:=bU E (show 1<6 by omega);obtain⟨x1,⟨r1,o1⟩,b1⟩:=(fY Tryz.underlying3:Rd e (BK H) Tryz.prog w 3 _ _) n ((cs.drop 1).take 1) z1 (fld (t:=3) (o:=1) (m:=1) (by kernel_rfl) ((F 1 _ rfl).trans Y));obtain⟨z2,aa⟩:=bU E (show 2<6 by omega);obtain⟨x2,⟨r2,o2⟩,b2⟩:=(fY Tryz.underlying3:Rd e (BK H) Tryz.prog w 3 _ _) n ((cs.drop 2).take 1) z2 (fld (t:=3) (o:=2) (m:=1) (by kernel_rfl) ((F 2 _ rfl).trans aa));obtain⟨z3,Z⟩:=bU E (show 3<6 by omega);obtain⟨x3,⟨r3,o3⟩,b3⟩:=(fY Tryz.underlying3:Rd e (BK H) Tryz.prog w 3 _ _) n ((cs.drop 3).take 1) z3 (fld (t:=3) (o:=3) (m:=1) (by kernel_rfl) ((F 3 _ rfl).trans Z));obtain⟨z4,O⟩:=bU E (show 4<6 by omega);obtain⟨x4,⟨r4,o4⟩,b4⟩:=(Iv:Rd e (BK H) Tryz.prog w 137 _ _) n ((cs.drop 4).take 1) z4 (fld (t:=137) (o:=4) (m:=1) (by kernel_rfl) ((F 4 _ rfl).trans O));obtain⟨z5,X⟩:=bU E (show 5<6 by omega);obtain⟨x5,⟨r5,o5⟩,b5⟩:=(Iv:Rd e (BK H) Tryz.prog w 137 _ _) n ((cs.drop 5).take 1) z5 (fld (t:=137) (o:=5) (m:=1) (by kernel_rfl) ((F 5 _ rfl).trans X));refine⟨⟨x0,x1,x2,x3,x4,x5⟩,⟨?_,?_⟩,fun m I=>⟨b0 m (bE J I),b1 m (bE Y I),b2 m (bE aa I),b3 m (bE Z I),b4 m (bE O I),b5 m (bE X I)⟩⟩
 . have:=bO (o:=0) (m:=1) r0 (bO (o:=1) (m:=1) r1 (bO (o:=2) (m:=1) r2 (bO (o:=3) (m:=1) r3 (bO (o:=4) (m:=1) r4 (bO (o:=5) (m:=1) r5 (qM (by omega)))))))
   rw[List.drop_zero]at this;exact this
 . have:=bT (o:=0) (m:=1) o0 (bT (o:=1) (m:=1) o1 (bT (o:=2) (m:=1) o2 (bT (o:=3) (m:=1) o3 (bT (o:=4) (m:=1) o4 (bT (o:=5) (m:=1) o5 (tT (by omega)))))))
   rw[List.drop_zero]at this;exact this
theorem ahL:Rd e (BK H) Tryz.prog w 23 (fun l:List Arc=>[.sl (l.map gF)]) (bL aoA):=qW (sz:=6) Tryz.underlying23 (by kernel_rfl) (by omega) (fun _=>rfl) (alT)
def Nn(n:Nat)(x:Network):Prop:=(bL Nx) n x.places/\(bL aoA) n x.arcs
theorem QA:Rd e (BK H) Tryz.prog w 25 aV Nn:=by
 intro Y cs y h;obtain⟨xs,n,rfl,rfl,J,E,O⟩:=DataW.trod_struct Tryz.underlying25 h;have E:xs.length=2:=E;have J:cs.length=2:=J.trans (by kernel_rfl);obtain⟨z0,F⟩:=bU E (show 0<2 by omega);obtain⟨Z,⟨r0,o0⟩,b0⟩:=(acG:Rd e (BK H) Tryz.prog w 22 _ _) n ((cs.drop 0).take 1) z0 (fld (t:=22) (o:=0) (m:=1) (by kernel_rfl) ((O 0 _ rfl).trans F));obtain⟨z1,I⟩:=bU E (show 1<2 by omega);obtain⟨x1,⟨r1,o1⟩,b1⟩:=(ahL:Rd e (BK H) Tryz.prog w 23 _ _) n ((cs.drop 1).take 1) z1 (fld (t:=23) (o:=1) (m:=1) (by kernel_rfl) ((O 1 _ rfl).trans I));refine⟨⟨Z,x1⟩,⟨?_,?_⟩,fun m X=>⟨b0 m (bE F X),b1 m (bE I X)⟩⟩
 . have:=bO (o:=0) (m:=1) r0 (bO (o:=1) (m:=1) r1 (qM (by omega)))
   rw[List.drop_zero]at this;exact this
 . have:=bT (o:=0) (m:=1) o0 (bT (o:=1) (m:=1) o1 (tT (by omega)))
   rw[List.drop_zero]at this;exact this
theorem Lu:Rd e (BK H) Tryz.prog w 31 (fun l:List Int=>[.sl (l.map aR)]) (bL lK):=qW (sz:=1) Tryz.underlying31 (by kernel_rfl) (by omega) (fun _=>rfl) (fY Tryz.underlying3)
def PU(n:Nat)(x:VType):Prop:=Nx n x.name/\lK n x.count/\lK n x.src/\lK n x.dst/\(bL lK) n x.cap/\lK n x.skills/\lK n x.profile/\lK n x.start/\lK n x.close/\lK n x.drive/\lK n x.rest/\lK n x.fixed/\lK n x.perMile/\lK n x.perTick
theorem WT:Rd e (BK H) Tryz.prog w 87 aY PU:=by
 intro a8 cs y h;obtain⟨xs,n,rfl,rfl,hl,E,I⟩:=DataW.trod_struct Tryz.underlying87 h;have E:xs.length=14:=E;have hl:cs.length=14:=hl.trans (by kernel_rfl);obtain⟨z0,ab⟩:=bU E (show 0<14 by omega);obtain⟨x0,⟨r0,o0⟩,b0⟩:=(Lr Tryz.underlying9:Rd e (BK H) Tryz.prog w 9 _ _) n ((cs.drop 0).take 1) z0 (fld (t:=9) (o:=0) (m:=1) (by kernel_rfl) ((I 0 _ rfl).trans ab));obtain⟨z1,ae⟩:=bU E (show 1<14 by omega);obtain⟨x1,⟨r1,o1⟩,b1⟩:=(fY Tryz.underlying3:Rd e (BK H) Tryz.prog w 3 _ _) n ((cs.drop 1).take 1) z1 (fld (t:=3) (o:=1) (m:=1) (by kernel_rfl) ((I 1 _ rfl).trans ae));obtain⟨z2,aa⟩:=bU E (show 2<14 by omega);obtain⟨x2,⟨r2,o2⟩,b2⟩:=(fY Tryz.underlying3:Rd e (BK H) Tryz.prog w 3 _ _) n ((cs.drop 2).take 1) z2 (fld (t:=3) (o:=2) (m:=1) (by kernel_rfl) ((I 2 _ rfl).trans aa));obtain⟨z3,ai⟩:=bU E (show 3<14 by omega);obtain⟨x3,⟨r3,o3⟩,b3⟩:=(fY Tryz.underlying3:Rd e (BK H) Tryz.prog w 3 _ _) n ((cs.drop 3).take 1) z3 (fld (t:=3) (o:=3) (m:=1) (by kernel_rfl) ((I 3 _ rfl).trans ai));obtain⟨z4,ac⟩:=bU E (show 4<14 by omega);obtain⟨x4,⟨r4,o4⟩,b4⟩:=(Lu:Rd e (BK H) Tryz.prog w 31 _ _) n ((cs.drop 4).take 1) z4 (fld (t:=31) (o:=4) (m:=1) (by kernel_rfl) ((I 4 _ rfl).trans ac));obtain⟨z5,ad⟩:=bU E (show 5<14 by omega);obtain⟨x5,⟨r5,o5⟩,b5⟩:=(fY Tryz.underlying3:Rd e (BK H) Tryz.prog w 3 _ _) n ((cs.drop 5).take 1) z5 (fld (t:=3) (o:=5) (m:=1) (by kernel_rfl) ((I 5 _ rfl).trans ad));obtain⟨z6,ag⟩:=bU E (show 6<14 by omega);obtain⟨x6,⟨r6,o6⟩,b6⟩:=(fY Tryz.underlying3:Rd e (BK H) Tryz.prog w 3 _ _) n ((cs.drop 6).take 1) z6 (fld (t:=3) (o:=6) (m:=1) (by kernel_rfl) ((I 6 _ rfl).trans ag));obtain⟨z7,af⟩:=bU E (show 7<14 by omega);obtain⟨x7,⟨r7,o7⟩,b7⟩:=(fY Tryz.underlying3:Rd e (BK H) Tryz.prog w 3 _ _) n ((cs.drop 7).take 1) z7 (fld (t:=3) (o:=7) (m:=1) (by kernel_rfl) ((I 7 _ rfl).trans af));obtain⟨z8,ah⟩:=bU E (show 8<14 by omega);obtain⟨x8,⟨r8,o8⟩,b8⟩:=(fY Tryz.underlying3:Rd e (BK H) Tryz.prog w 3 _ _) n ((cs.drop 8).take 1) z8 (fld (t:=3) (o:=8) (m:=1) (by kernel_rfl) ((I 8 _ rfl).trans ah));obtain⟨z9,Z⟩:=bU E (show 9<14 by omega);obtain⟨x9,⟨r9,o9⟩,b9⟩:=(fY Tryz.underlying3:Rd e (BK H) Tryz.prog w 3 _ _) n ((cs.drop 9).take 1) z9 (fld (t:=3) (o:=9) (m:=1) (by kernel_rfl) ((I 9 _ rfl).trans Z));obtain⟨az,Y⟩:=bU E (show 10<14 by omega);obtain⟨a7,⟨a5,ao⟩,an⟩:=(fY Tryz.underlying3:Rd e (BK H) Tryz.prog w 3 _ _) n ((cs.drop 10).take 1) az (fld (t:=3) (o:=10) (m:=1) (by kernel_rfl) ((I 10 _ rfl).trans Y));obtain⟨ap,O⟩:=bU E (show 11<14 by omega);obtain⟨aj,⟨aw,al⟩,ak⟩:=(fY Tryz.underlying3:Rd e (BK H) Tryz.prog w 3 _ _) n ((cs.drop 11).take 1) ap (fld (t:=3) (o:=11) (m:=1) (by kernel_rfl) ((I 11 _ rfl).trans O));obtain⟨ay,J⟩:=bU E (show 12<14 by omega);obtain⟨av,⟨au,ar⟩,aq⟩:=(fY Tryz.underlying3:Rd e (BK H) Tryz.prog w 3 _ _) n ((cs.drop 12).take 1) ay (fld (t:=3) (o:=12) (m:=1) (by kernel_rfl) ((I 12 _ rfl).trans J));obtain⟨ax,X⟩:=bU E (show 13<14 by omega);obtain⟨a6,⟨a0,a4⟩,am⟩:=(fY Tryz.underlying3:Rd e (BK H) Tryz.prog w 3 _ _) n ((cs.drop 13).take 1) ax (fld (t:=3) (o:=13) (m:=1) (by kernel_rfl) ((I 13 _ rfl).trans X));refine⟨⟨x0,x1,x2,x3,x4,x5,x6,x7,x8,x9,a7,aj,av,a6⟩,⟨?_,?_⟩,fun m F=>⟨b0 m (bE ab F),b1 m (bE ae F),b2 m (bE aa F),b3 m (bE ai F),b4 m (bE ac F),b5 m (bE ad F),b6 m (bE ag F),b7 m (bE af F),b8 m (bE ah F),b9 m (bE Z F),an m (bE Y F),ak m (bE O F),aq m (bE J F),am m (bE X F)⟩⟩
 . have:=bO (o:=0) (m:=1) r0 (bO (o:=1) (m:=1) r1 (bO (o:=2) (m:=1) r2 (bO (o:=3) (m:=1) r3 (bO (o:=4) (m:=1) r4 (bO (o:=5) (m:=1) r5 (bO (o:=6) (m:=1) r6 (bO (o:=7) (m:=1) r7 (bO (o:=8) (m:=1) r8 (bO (o:=9) (m:=1) r9 (bO (o:=10) (m:=1) a5 (bO (o:=11) (m:=1) aw (bO (o:=12) (m:=1) au (bO (o:=13) (m:=1) a0 (qM (by omega)))))))))))))))
   rw[List.drop_zero]at this;exact this
 . have:=bT (o:=0) (m:=1) o0 (bT (o:=1) (m:=1) o1 (bT (o:=2) (m:=1) o2 (bT (o:=3) (m:=1) o3 (bT (o:=4) (m:=1) o4 (bT (o:=5) (m:=1) o5 (bT (o:=6) (m:=1) o6 (bT (o:=7) (m:=1) o7 (bT (o:=8) (m:=1) o8 (bT (o:=9) (m:=1) o9 (bT (o:=10) (m:=1) ao (bT (o:=11) (m:=1) al (bT (o:=12) (m:=1) ar (bT (o:=13) (m:=1) a4 (tT (by omega)))))))))))))))
   rw[List.drop_zero]at this;exact this
theorem Vd:Rd e (BK H) Tryz.prog w 26 (fun l:List VType=>[.sl (l.map aY)]) (bL PU):=qW (sz:=14) Tryz.underlying26 (by kernel_rfl) (by omega) (fun _=>rfl) (WT)
def Xe(n:Nat)(x:Stop):Prop:=lK n x.place/\lK n x.start/\lK n x.close/\lK n x.service
theorem Up:Rd e (BK H) Tryz.prog w 141 dZ Xe:=by
 intro aa cs y h;obtain⟨xs,n,rfl,rfl,Z,E,X⟩:=DataW.trod_struct Tryz.underlying141 h;have E:xs.length=4:=E;have Z:cs.length=4:=Z.trans (by kernel_rfl);obtain⟨z0,F⟩:=bU E (show 0<4 by omega);obtain⟨x0,⟨r0,o0⟩,b0⟩:=(fY Tryz.underlying3:Rd e (BK H) Tryz.prog w 3 _ _) n ((cs.drop 0).take 1) z0 (fld (t:=3) (o:=0) (m:=1) (by kernel_rfl) ((X 0 _ rfl).trans F));obtain⟨z1,J⟩:=bU E (show 1<4 by omega);obtain⟨x1,⟨r1,o1⟩,b1⟩:=(fY Tryz.underlying3:Rd e (BK H) Tryz.prog w 3 _ _) n ((cs.drop 1).take 1) z1 (fld (t:=3) (o:=1) (m:=1) (by kernel_rfl) ((X 1 _ rfl).trans J));obtain⟨z2,I⟩:=bU E (show 2<4 by omega);obtain⟨x2,⟨r2,o2⟩,b2⟩:=(fY Tryz.underlying3:Rd e (BK H) Tryz.prog w 3 _ _) n ((cs.drop 2).take 1) z2 (fld (t:=3) (o:=2) (m:=1) (by kernel_rfl) ((X 2 _ rfl).trans I));obtain⟨z3,O⟩:=bU E (show 3<4 by omega);obtain⟨x3,⟨r3,o3⟩,b3⟩:=(fY Tryz.underlying3:Rd e (BK H) Tryz.prog w 3 _ _) n ((cs.drop 3).take 1) z3 (fld (t:=3) (o:=3) (m:=1) (by kernel_rfl) ((X 3 _ rfl).trans O));refine⟨⟨x0,x1,x2,x3⟩,⟨?_,?_⟩,fun m Y=>⟨b0 m (bE F Y),b1 m (bE J Y),b2 m (bE I Y),b3 m (bE O Y)⟩⟩
 . have:=bO (o:=0) (m:=1) r0 (bO (o:=1) (m:=1) r1 (bO (o:=2) (m:=1) r2 (bO (o:=3) (m:=1) r3 (qM (by omega)))))
   rw[List.drop_zero]at this;exact this
 . have:=bT (o:=0) (m:=1) o0 (bT (o:=1) (m:=1) o1 (bT (o:=2) (m:=1) o2 (bT (o:=3) (m:=1) o3 (tT (by omega)))))
   rw[List.drop_zero]at this;exact this
def Qz(n:Nat)(x:Order):Prop:=Nx n x.name/\(bL lK) n x.load/\Xe n x.pick/\Xe n x.drop/\lK n x.skills/\lK n x.penalty/\lK n x.split/\lK n x.last/\lK n x.now/\akB n x.off
theorem abV:Rd e (BK H) Tryz.prog w 143 bF Qz:=by
 intro af cs y h;obtain⟨xs,n,rfl,rfl,hl,E,F⟩:=DataW.trod_struct Tryz.underlying143 h;have E:xs.length=10:=E;have hl:cs.length=16:=hl.trans (by kernel_rfl);obtain⟨z0,J⟩:=bU E (show 0<10 by omega);obtain⟨x0,⟨r0,o0⟩,b0⟩:=(Lr Tryz.underlying9:Rd e (BK H) Tryz.prog w 9 _ _) n ((cs.drop 0).take 1) z0 (fld (t:=9) (o:=0) (m:=1) (by kernel_rfl) ((F 0 _ rfl).trans J));obtain⟨z1,Y⟩:=bU E (show 1<10 by omega);obtain⟨x1,⟨r1,o1⟩,b1⟩:=(Lu:Rd e (BK H) Tryz.prog w 31 _ _) n ((cs.drop 1).take 1) z1 (fld (t:=31) (o:=1) (m:=1) (by kernel_rfl) ((F 1 _ rfl).trans Y));obtain⟨z2,ae⟩:=bU E (show 2<10 by omega);obtain⟨x2,⟨r2,o2⟩,b2⟩:=(Up:Rd e (BK H) Tryz.prog w 141 _ _) n ((cs.drop 2).take 4) z2 (fld (t:=141) (o:=2) (m:=4) (by kernel_rfl) ((F 2 _ rfl).trans ae));obtain⟨z3,ad⟩:=bU E (show 3<10 by omega);obtain⟨x3,⟨r3,o3⟩,b3⟩:=(Up:Rd e (BK H) Tryz.prog w 141 _ _) n ((cs.drop 6).take 4) z3 (fld (t:=141) (o:=6) (m:=4) (by kernel_rfl) ((F 3 _ rfl).trans ad));obtain⟨z4,O⟩:=bU E (show 4<10 by omega);obtain⟨x4,⟨r4,o4⟩,b4⟩:=(fY Tryz.underlying3:Rd e (BK H) Tryz.prog w 3 _ _) n ((cs.drop 10).take 1) z4 (fld (t:=3) (o:=10) (m:=1) (by kernel_rfl) ((F 4 _ rfl).trans O));obtain⟨z5,X⟩:=bU E (show 5<10 by omega);obtain⟨x5,⟨r5,o5⟩,b5⟩:=(fY Tryz.underlying3:Rd e (BK H) Tryz.prog w 3 _ _) n ((cs.drop 11).take 1) z5 (fld (t:=3) (o:=11) (m:=1) (by kernel_rfl) ((F 5 _ rfl).trans X));obtain⟨z6,ab⟩:=bU E (show 6<10 by omega);obtain⟨x6,⟨r6,o6⟩,b6⟩:=(fY Tryz.underlying3:Rd e (BK H) Tryz.prog w 3 _ _) n ((cs.drop 12).take 1) z6 (fld (t:=3) (o:=12) (m:=1) (by kernel_rfl) ((F 6 _ rfl).trans ab));obtain⟨z7,Z⟩:=bU E (show 7<10 by omega);obtain⟨x7,⟨r7,o7⟩,b7⟩:=(fY Tryz.underlying3:Rd e (BK H) Tryz.prog w 3 _ _) n ((cs.drop 13).take 1) z7 (fld (t:=3) (o:=13) (m:=1) (by kernel_rfl) ((F 7 _ rfl).trans Z));obtain⟨z8,ac⟩:=bU E (show 8<10 by omega);obtain⟨x8,⟨r8,o8⟩,b8⟩:=(fY Tryz.underlying3:Rd e (BK H) Tryz.prog w 3 _ _) n ((cs.drop 14).take 1) z8 (fld (t:=3) (o:=14) (m:=1) (by kernel_rfl) ((F 8 _ rfl).trans ac));obtain⟨z9,aa⟩:=bU E (show 9<10 by omega);obtain⟨x9,⟨r9,o9⟩,b9⟩:=(aeV Tryz.underlying4:Rd e (BK H) Tryz.prog w 4 _ _) n ((cs.drop 15).take 1) z9 (fld (t:=4) (o:=15) (m:=1) (by kernel_rfl) ((F 9 _ rfl).trans aa));refine⟨⟨x0,x1,x2,x3,x4,x5,x6,x7,x8,x9⟩,⟨?_,?_⟩,fun m I=>⟨b0 m (bE J I),b1 m (bE Y I),b2 m (bE ae I),b3 m (bE ad I),b4 m (bE O I),b5 m (bE X I),b6 m (bE ab I),b7 m (bE Z I),b8 m (bE ac I),b9 m (bE aa I)⟩⟩
 . have:=bO (o:=0) (m:=1) r0 (bO (o:=1) (m:=1) r1 (bO (o:=2) (m:=4) r2 (bO (o:=6) (m:=4) r3 (bO (o:=10) (m:=1) r4 (bO (o:=11) (m:=1) r5 (bO (o:=12) (m:=1) r6 (bO (o:=13) (m:=1) r7 (bO (o:=14) (m:=1) r8 (bO (o:=15) (m:=1) r9 (qM (by omega)))))))))))
   rw[List.drop_zero]at this;exact this
 . have:=bT (o:=0) (m:=1) o0 (bT (o:=1) (m:=1) o1 (bT (o:=2) (m:=4) o2 (bT (o:=6) (m:=4) o3 (bT (o:=10) (m:=1) o4 (bT (o:=11) (m:=1) o5 (bT (o:=12) (m:=1) o6 (bT (o:=13) (m:=1) o7 (bT (o:=14) (m:=1) o8 (bT (o:=15) (m:=1) o9 (tT (by omega)))))))))))
   rw[List.drop_zero]at this;exact this
theorem Wq:Rd e (BK H) Tryz.prog w 27 (fun l:List Order=>[.sl (l.map bF)]) (bL Qz):=qW (sz:=16) Tryz.underlying27 (by kernel_rfl) (by omega) (fun _=>rfl) (abV)
def Ub(n:Nat)(x:Pair):Prop:=lK n x.a/\lK n x.b
theorem aeL:Rd e (BK H) Tryz.prog w 192 dC Ub:=by
 intro Y cs y h;obtain⟨xs,n,rfl,rfl,J,I,O⟩:=DataW.trod_array Tryz.underlying192 h;have J:cs.length=2:=J.trans (by kernel_rfl);obtain⟨z0,E⟩:=bU I (show 0<2 by omega);obtain⟨Z,⟨r0,o0⟩,b0⟩:=(fY Tryz.underlying3:Rd e (BK H) Tryz.prog w 3 _ _) n ((cs.drop 0).take 1) z0 (fld (t:=3) (o:=0) (m:=1) (by kernel_rfl) ((O 0 (by omega)).trans E));obtain⟨z1,F⟩:=bU I (show 1<2 by omega);obtain⟨x1,⟨r1,o1⟩,b1⟩:=(fY Tryz.underlying3:Rd e (BK H) Tryz.prog w 3 _ _) n ((cs.drop 1).take 1) z1 (fld (t:=3) (o:=1) (m:=1) (by kernel_rfl) ((O 1 (by omega)).trans F));refine⟨⟨Z,x1⟩,⟨?_,?_⟩,fun m X=>⟨b0 m (bE E X),b1 m (bE F X)⟩⟩
 . have:=bO (o:=0) (m:=1) r0 (bO (o:=1) (m:=1) r1 (qM (by omega)))
   rw[List.drop_zero]at this;exact this
 . have:=bT (o:=0) (m:=1) o0 (bT (o:=1) (m:=1) o1 (tT (by omega)))
   rw[List.drop_zero]at this;exact this
theorem OU:Rd e (BK H) Tryz.prog w 28 (fun l:List Pair=>[.sl (l.map dC)]) (bL Ub):=qW (sz:=2) Tryz.underlying28 (by kernel_rfl) (by omega) (fun _=>rfl) (aeL)
def Dq(n:Nat)(x:Instance):Prop:=Nn n x.net/\(bL PU) n x.types/\(bL Qz) n x.orders/\(bL Ub) n x.apart/\(bL Ub) n x.before
theorem Ni:Rd e (BK H) Tryz.prog w 30 aL Dq:=by
 intro aa cs y h;obtain⟨xs,n,rfl,rfl,hl,E,F⟩:=DataW.trod_struct Tryz.underlying30 h;have E:xs.length=5:=E;have hl:cs.length=6:=hl.trans (by kernel_rfl);obtain⟨z0,I⟩:=bU E (show 0<5 by omega);obtain⟨x0,⟨r0,o0⟩,b0⟩:=(QA:Rd e (BK H) Tryz.prog w 25 _ _) n ((cs.drop 0).take 2) z0 (fld (t:=25) (o:=0) (m:=2) (by kernel_rfl) ((F 0 _ rfl).trans I));obtain⟨z1,O⟩:=bU E (show 1<5 by omega);obtain⟨x1,⟨r1,o1⟩,b1⟩:=(Vd:Rd e (BK H) Tryz.prog w 26 _ _) n ((cs.drop 2).take 1) z1 (fld (t:=26) (o:=2) (m:=1) (by kernel_rfl) ((F 1 _ rfl).trans O));obtain⟨z2,Z⟩:=bU E (show 2<5 by omega);obtain⟨x2,⟨r2,o2⟩,b2⟩:=(Wq:Rd e (BK H) Tryz.prog w 27 _ _) n ((cs.drop 3).take 1) z2 (fld (t:=27) (o:=3) (m:=1) (by kernel_rfl) ((F 2 _ rfl).trans Z));obtain⟨z3,Y⟩:=bU E (show 3<5 by omega);obtain⟨x3,⟨r3,o3⟩,b3⟩:=(OU:Rd e (BK H) Tryz.prog w 28 _ _) n ((cs.drop 4).take 1) z3 (fld (t:=28) (o:=4) (m:=1) (by kernel_rfl) ((F 3 _ rfl).trans Y));obtain⟨z4,J⟩:=bU E (show 4<5 by omega);obtain⟨x4,⟨r4,o4⟩,b4⟩:=(OU:Rd e (BK H) Tryz.prog w 28 _ _) n ((cs.drop 5).take 1) z4 (fld (t:=28) (o:=5) (m:=1) (by kernel_rfl) ((F 4 _ rfl).trans J));refine⟨⟨x0,x1,x2,x3,x4⟩,⟨?_,?_⟩,fun m X=>⟨b0 m (bE I X),b1 m (bE O X),b2 m (bE Z X),b3 m (bE Y X),b4 m (bE J X)⟩⟩
 . have:=bO (o:=0) (m:=2) r0 (bO (o:=2) (m:=1) r1 (bO (o:=3) (m:=1) r2 (bO (o:=4) (m:=1) r3 (bO (o:=5) (m:=1) r4 (qM (by omega))))))
   rw[List.drop_zero]at this;exact this
 . have:=bT (o:=0) (m:=2) o0 (bT (o:=2) (m:=1) o1 (bT (o:=3) (m:=1) o2 (bT (o:=4) (m:=1) o3 (bT (o:=5) (m:=1) o4 (tT (by omega))))))
   rw[List.drop_zero]at this;exact this
end
end Go.Aw.D
end
section
namespace Go.Proofs.YtdlijlecpopadaaGreatDoor
open Go.Aw Go.Aw.D Go.Proofs Go.RowKit Go.ChangeShapes Go.WideShapes Go.ChangeAt
section
variable{H:Type}{e:TypeId×Value->H}{P:Program}{W W':World}
theorem Oe{f:FuncId}{args:List AV}{vals:List Value}(h:PC P f args (.v (.bool true)))(O:Ll W)(X:bC (Sw W) W args vals):
   Calls P f vals.toArray W fun F W'=>F=.returned (.bool true)/\Below W.heap.size W W':=
 (h (Sw W) W vals (azM W O) (fun _ h=>h) X).mono fun F W' ⟨v,r,H',S',J,Y,_,I,E,_⟩=>by
   subst Y;simp only[rep]at I;subst I;exact⟨J,E.os,E.tape,E.output,E.size,E.same⟩
theorem Cf(O:laidOutB P=true)(X:Below W.heap.size W W'):∀{I:List TypeId} {vs:List Value} {ds:List (DataW H)} {ps:List MemPlace},(∀t∈I,P.readableRec t=true/\t<P.types.size) ->
   DataW.TrodAll e P W 0 (fun _=>true) true I vs ds ps->(∀x∈ps,x.block<W.heap.size)->∀F:Nat->Bool,(∀x∈ps,F x.block=true)->DataW.TrodAll e P W' 0 F true I vs ds ps
 | [],[],[],_,_,h,_,_,_=>h
 | t::I,v::vs,d::ds,ps,ht,⟨p,q,h1,h2,he⟩,hlt,F,hs=>by
   subst he;have h0:=ht t (by simp);exact⟨p,q,WideElems.Trod_stays O h0.1 h0.2 h1 (fun x E=>X.same (hlt x (by simp[E]))) (fun x E=>hs x (by simp[E])),
     Cf O X (fun t J=>ht t (by simp[J])) h2 (fun x E=>hlt x (by simp[E])) F (fun x E=>hs x (by simp[E])),rfl⟩
theorem Qo{t:TypeId}{fs:Array Field}{α:Type}{enc:α->List AV}{b:Nat->α->Prop}{r:Reach}{Y:Nat}{v:Value}{d:DataW H}{O:List MemPlace}(I:P.underlying t=some (.struct fs))
   (Z:Rd e (BK H) P W t enc b) (E:Value.okWide P W r Y t v) (J:DataW.Trod e P W 0 (fun _=>true) true t v d O):∃x:α,rep (Sw W) W (.agg (enc x)) v/\∀n,BK H d<=n->b n x:=by
 obtain⟨cs,rfl,_⟩:=okWide_struct I E;obtain⟨F,h⟩:=J;obtain⟨x,⟨h1,X⟩,h3⟩:=Z F _ _ h;refine⟨x,?_,h3⟩;simp only[rep];exact⟨cs.toList,by simp,h1,X⟩
theorem Hs{t Y:TypeId}{α:Type}{enc:α->List AV}{b:Nat->List α->Prop}{r:Reach}{Z:Nat}{v:Value}{d:DataW H}{X:List MemPlace}(J:P.underlying t=some (.slice Y))
   (hr:Rd e (BK H) P W t (fun l:List α=>[.sl (l.map enc)]) b) (E:Value.okWide P W r Z t v) (O:DataW.Trod e P W 0 (fun _=>true) true t v d X):∃x:List α,rep (Sw W) W (.sl (x.map enc)) v/\∀n,BK H d<=n->b n x:=by
 obtain⟨a,len,cap,rfl⟩:=okWide_slice J E;obtain⟨F,h⟩:=O;obtain⟨x,⟨h1,h2⟩,h3⟩:=hr F _ _ h;refine⟨x,?_,h3⟩;simp only[bC]at h1;obtain⟨u,tl,I,h5,rfl⟩:=h1;have:Value.cells (.slice a len cap)=#[.slice a len cap]:=rfl;rw[this]at I;simp at I;subst I;exact h5
theorem UG{fn:Func}{s:ChangeSpec}{args:Array Value}{J gs:List (DataW H)}{before:List MemPlace}(hl:laidOutB P=true)(af:∀t∈fn.params.toList,P.readableRec t=true/\t<P.types.size)
   (E:s.vars=[]) {tb:TypeId} (Z:P.underlying tb=some .bool) (Y:fn.resultTypes=#[tb]) (hW:DataW.Whole e P fn.params.toList s.vars false W args.toList J gs before)
   (ac:(s.fn H (J++gs)).results=[.lit (.bool true)]) (O:(s.fn H (J++gs)).args=J) (ad:(s.fn H (J++gs)).vars=[]) (hb:Below W.heap.size W W'):
   s.post e P fn false true false false W args (.bool true) W':=by
 have X:=hW.lt;have ag:=hW;obtain⟨p,q,hA,hV,rfl,ah,ai⟩:=hW;rw[E]at hV;obtain⟨rfl,rfl⟩:=trodVars_none hV;have hk:W.keptBut W' (·∈p++[]):=hb.frame _;have ab:∀x∈p++[],(fun b=>decide (b<W.heap.size)) x.block=true:=fun x F=>by simpa using X x F
 have r1:∀(b:Nat) (I:Nat->Bool) (hd:Bool),DataW.TrodAll e P W' b I hd fn.resultTypes.toList ((Value.bool true).resultList fn.resultTypes.size) (s.fn H (J++[])).results []:=fun b I hd=>by
   rw[Y,ac];exact trodAll_cons_mk (shut_bool Z _) trodAll_mk0
 have r2:∀I:Nat->Bool,(∀x∈p++[],I x.block=true)->DataW.TrodAll e P W' 0 I true fn.params.toList args.toList (s.fn H (J++[])).args p:=fun I ae=>by
   rw[O];exact Cf hl hb af hA (fun x F=>X x (by simp[F])) I (fun x F=>ae x (by simp[F]))
 have r3:∀I:Nat->Bool,DataW.TrodVars e P W' I s.vars (s.fn H (J++[])).vars []:=fun I=>by
   rw[E,ad];simp[DataW.TrodVars]
 refine⟨J,[],p++[],[],p,[],ag,r1 _ _ _,r2 _ ab,r3 _,World.keptBut_mono (fun x F=>⟨F,.inr (by simpa using F)⟩) hk,fun _=>?_⟩;refine⟨?_,_,_,([]++p)++[],⟨[]++p,[],trodAll_append (r2 _ (fun _ _=>rfl)) (r1 _ _ _),r3 _,rfl,?_,?_⟩,?_⟩
 . exact ok_one Y rfl (okWide_bool_mk Z _)
 . intro b off hp
   have aa:MemPlace.cell b off∈p++[]:=by simpa using hp
   rw[hb.frozen (X _ aa)];exact ah b off aa
 . intro ha;simp at ha
 . intro x F _
   simpa using F
end
end Go.Proofs.YtdlijlecpopadaaGreatDoor
end
section
namespace Go.Proofs.YtdlijlecpopadaaGreatDoor
open Go.Proofs.Tryz(prog)
def dF(n N:Int):Bool:=decide (n<0)||decide (n>=N)
end Go.Proofs.YtdlijlecpopadaaGreatDoor
namespace Go.Proofs.YtdlijlecpopadaaGreatDoor.Mv
open Go.Proofs.Tryz(prog)
open Go.Aw Go.Aw.D Go.Proofs Ty
theorem bZ{H:aJ}{k:IntKind}{a b:Int}(h:a=b):Conv H (.v (.int k a)) (.v (.int k b)):=h▸.refl _
theorem cQ{H:aJ}{a b:Bool}(h:a=b):Conv H (.v (.bool a)) (.v (.bool b)):=h▸.refl _
abbrev nA(l:List Int):Row:=⟨3,1,l.map aR⟩
theorem WP{n:Int}(h:0<=n/\n<18446744073709551616):IntKind.u64.wrap n=n:=by
 have e:IntKind.u64.wrap n=n%18446744073709551616:=rfl;rw[e];omega
theorem aT{α:Type}{p:α->Prop}{l:List α}{k:Nat}{x:α}(I:l[k]?=some x)(F:p x)(h:∀x∈l.take k,p x):∀x∈l.take (k+1),p x:=by
 rw[bX I];intro y E;rcases Xaq.1 E with E|E
 . exact h y E
 . simp at E;subst E;exact F
theorem NC.pc{f:FuncId}{args:List AV}{r:Row}(h:NC prog f args r .os):PC prog f args (.sl r.es):=
 RC.conv (RC.mono h fun x H' ⟨k,E,F⟩=>E▸.row k r r.es F (ConvE.refl _))
end Go.Proofs.YtdlijlecpopadaaGreatDoor.Mv
end
section
namespace Go.Proofs.YtdlijlecpopadaaGreatDoor.Sq
open Go.Aw Go.Aw.D Go.Proofs Ty
open Mv (bZ cQ NC.pc aT)
def W6(s i:Int):Bool:=decide (s>=0)&&decide (i>=0)&&decide (i<=62)&&((shV .shr .i64 s (IntKind.u64.wrap i)).tmod 2 == 1)
def acN(s n:Int):Int:=if W6 s n=true then s else IntKind.i64.wrap (s+shV .shl .i64 1 (IntKind.u64.wrap n))
def GW(v:Visit):Bool:=decide (v.order<0)||decide (v.order>62)
def akL(l:List Visit):Int:=l.foldl (fun s v=>acN s v.order) 0
def gM(l:List Visit):Int×Int:=if l.any GW=true then(0,2)else(akL l,0)
def AE(v u:Visit):Bool:=u.order == v.order&&(u.drop == v.drop&&true)
def nE{α:Type}(p:α->Bool):List α->Int->Int
 | [],_=> -1
 | x::r,n=>if p x=true then n else nE p r (n+1)
theorem lE{α:Type}{p:α->Bool}{l:List α}{k:Nat}{x:α}(h:∀y∈l.take k,p y=false)(E:l[k]?=some x)(F:p x=true):∀n,nE p l n=n+k:=by
 induction l generalizing k with
 | nil=>simp at E
 | cons a r ih=>
   intro n;cases k with
   | zero=>simp at E;subst E;simp only[nE];rw[if_pos F];simp
   | succ k=>
     have h0:=h a (by simp);simp only[nE];rw[if_neg (by rw[h0];simp),ih (k:=k) (fun y I=>h y (by simp[I])) (by simpa using E)];omega
theorem jQ{α:Type}{p:α->Bool}{l:List α}(h:∀y∈l,p y=false):∀n,nE p l n= -1:=by
 induction l with
 | nil=>intro n;rfl
 | cons a r ih=>intro n;simp only[nE];rw[if_neg (by rw[h a (by simp)];simp)];exact ih (fun y E=>h y (by simp[E])) _
def dT(l:List Visit)(v:Visit):Int:=nE (AE v) l 0
def Q8(l s:List Visit):Bool:=s.all fun v=> !decide (dT l v<0)
def Bo(l vs:List Visit)(v:Visit):Bool:=decide (dT vs v<0)|| !Q8 l vs||((vs.length:Int) == 2&&decide (dT l (vs.getD 0 ⟨0,false⟩)>dT l (vs.getD 1 ⟨0,false⟩)))
def aF(l:List Visit)(j:Nat):Int:=(l.getD j ⟨0,false⟩).order
theorem eU{l:List Visit}{j:Nat}{v:Visit}(h:l[j]?=some v):aF l j=v.order:=by simp[aF,List.getD,h]
def IG(x:Instance)(i:Int):Bool:=match x.orders[i.toNat]? with|some o=>o.off|none=>false
theorem Bj{α:Type}{p:α->Bool}{l:List α}(h:∀x∈l,p x=false):l.any p=false:=by
 rw[Xby];intro x E;rw[h x E];simp
def fE(a c:List Int):Bool:=((a.length:Int) == (c.length:Int))&&(List.range a.length).all fun i=> !decide (a.getD i 0>c.getD i 0)
def mW(x:Instance):Int:=match x.types[0]? with|some t=>t.cap.length|none=>0
def wB(l:List Int):List AV:=[.sl (l.map aR)]
end Go.Proofs.YtdlijlecpopadaaGreatDoor.Sq
end
section
namespace Go.Proofs.YtdlijlecpopadaaGreatDoor.Sq
open Go.Aw Go.Aw.D Go.Proofs Ty
open Mv (bZ cQ NC.pc aT)
open Mv (bZ cQ NC.pc aT)
abbrev aqA(ll:List (List Int)):Row:=⟨31,1,ll.map wB⟩
def B0(x:Instance)(t:Int):List Int:=match x.types[t.toNat]? with|some t=>t.cap|none=>[]
def LD(n:Network)(i:Int):Bool:=decide (i>=0)&&decide (i<(n.places.length:Int))
def Ca:Arc:=⟨0,0,0,0,[],[]⟩
def N4(p f t:Int)(a:Arc):Bool:=a.src == f&&a.dst == t&&a.profile == p
def nP(n:Network)(p f t:Int):Option Arc:=n.arcs.find? (N4 p f t)
theorem NP{α:Type}{p:α->Bool}{l:List α}{k:Nat}{x:α}(h:∀y∈l.take k,p y=false)(E:l[k]?=some x)(F:p x=true):l.find? p=some x:=by
 induction l generalizing k with
 | nil=>simp at E
 | cons a r ih=>
   cases k with
   | zero=>simp at E;subst E;simp[List.find?,F]
   | succ k=>
     have h0:=h a (by simp);rw[List.find?_cons,h0];exact ih (k:=k) (fun y I=>h y (by simp[I])) (by simpa using E)
theorem HH{α:Type}{p:α->Bool}{l:List α}(h:∀y∈l,p y=false):l.find? p=none:=List.find?_eq_none.2 fun y E=>by rw[h y E];simp
def W(n:Int):Int:=IntKind.i64.wrap n
def pD(l:List Point)(t:Int)(k:Nat):Bool:=decide ((dW l k).t<=t)&&decide (t<(dW l (k+1)).t)
def Et(p q:Point)(t:Int):Int:=W (p.a+IntKind.i64.wrap (Int.tdiv (W (W (W (W (W (t-p.t)*W (q.a-p.a))+q.t)-p.t)-1)) (W (q.t-p.t))))
def xH(e:Point)(t:Int):Int:=W (W (t+e.a)-e.t)
def A8(l:List Point)(t:Int):Bool:=decide (((jK l).length:Int)>0)||decide (t<0)||decide (t>1073741824)
def jT(l:List Point)(t:Int):Int:=
 if A8 l t=true then 0 else match (List.range (l.length-1)).find? (pD l t)with
 | some k=>Et (dW l k) (dW l (k+1)) t
 | none=>if decide (t>(dW l 0).t)=true then xH (dW l (l.length-1)) t else xH (dW l 0) t
def i64B(n:Int):Prop:= -9223372036854775808<=n/\n<=9223372036854775807
theorem ahR{n:Int}(h:0<n/\n<18446744073709551616):¬IntKind.i64.wrap n=0:=by
 show ¬(if(true&&decide (n%18446744073709551616>=9223372036854775808))=true then n%18446744073709551616-18446744073709551616 else n%18446744073709551616)=0;by_cases h1:n%18446744073709551616>=9223372036854775808
 . rw[if_pos (by simpa using h1)];omega
 . rw[if_neg (by simpa using h1)];omega
end Go.Proofs.YtdlijlecpopadaaGreatDoor.Sq
end
section
namespace Go.Proofs.YtdlijlecpopadaaGreatDoor.Sq
open Go.Aw Go.Aw.D Go.Proofs Ty
open Mv (bZ cQ NC.pc aT)
def oX(t:Int)(s:Int)(p:Point):Int:=if decide (p.t<=t)=true then W (s+p.a)else s
def qQ(a:Arc)(t:Int):Int:=a.slow.foldl (oX t) (jT a.travel t)
structure ArcB(a:Arc):Prop where
 travel:a.travel.length<=1048576
 slow:a.slow.length<=1048576
 time:∀p∈a.travel,i64B p.t
structure NetB(n:Network):Prop where
 arcs:n.arcs.length<=1048576
 arc:∀a∈n.arcs,ArcB a
def dH(n:Network)(p f t time:Int):Int×Int×Int:=
 if(!LD n f|| !LD n t)=true then(0,0,11)else if(f == t)=true then(time,0,0)
 else match nP n p f t with|some a=>(qQ a time,a.miles,0)|none=>(0,0,12)
structure Score where
 cost:Int
 moved:Int
 other:Int
 work:Int
def gC(s:Score):List AV:=[int s.cost,int s.moved,int s.other,int s.work]
def qI(l:List Visit)(n:Nat):Bool:=(List.range n).all fun i=> !(aF l i == aF l n)
def KB(c s:Int)(i:Nat):Bool:=(IntKind.i64.wrap (Int.tdiv s (2^i:Nat))).tmod 2 == 1&&(IntKind.i64.wrap (Int.tdiv c (2^i:Nat))).tmod 2 == 0
def oQ(c s:Int):Bool:= !(decide (c<0)||decide (s<0))&&(List.range 63).all fun i=> !KB c s i
def dI:Score:=⟨0,0,0,0⟩
def kC:Stop:=⟨0,0,0,0⟩
def qS(o:Order)(v:Visit):Stop:=if v.drop=true then o.drop else o.pick
def fP(x:Instance)(v:Visit):Stop×Bool:=if dF v.order x.orders.length=true then(kC,false)else
 match x.orders[v.order.toNat]? with
 | some o=>(qS o v,decide ((qS o v).place>=0))
 | none=>(kC,false)
def gG(x:Instance)(r:Route):Bool:=
 !(dF r.type x.types.length||decide (r.start<0)||decide (r.start>4096)||decide ((r.visits.length:Int)>20))&&r.visits.all fun v=>(fP x v).2
structure St8 where
 place:Int
 time:Int
 driven:Int
 miles:Int
structure Tm where
 arrive:Int
 begin_:Int
 depart:Int
 rest:Bool
def tB(t:Tm):List AV:=[int t.arrive,int t.begin_,int t.depart,boo t.rest]
theorem WA(s:Tm):(tB s).length=4:=(rfl)
theorem U7(s:Tm):(tB s).take 4=tB s:=(rfl)
attribute [go_sem] WA U7
structure Sheet where
 rest:Bool
 depart:Int
 times:List Tm
 end_:Int
 miles:Int
def dB(s:Sheet):List AV:=[boo s.rest,int s.depart,.sl (s.times.map tB),int s.end_,int s.miles]
def cN:Sheet:=⟨false,0,[],0,0⟩
theorem AD{x:Instance}{r:Route}(h:gG x r=true):0<=r.type/\r.type<(x.types.length:Int):=by
 unfold gG at h;simp only[Xam,Xbh,Xai,dF,decide_eq_false_iff_not]at h;omega
theorem akC{H:aJ}{i j:Nat}{r:Row}{a b:Option Row}(hi:H i=some r)(E:H j=none):aI (aI H j a) j b i=some r:=by
 have h1:=aO hi E;rw[aD _ _ _ _ h1,aD _ _ _ _ h1,hi]
theorem akO{H:aJ}{i j:Nat}{r:Row}{b:Option Row}(hi:H i=some r)(h1:i≠j):aI H j b i=some r:=by rw[aD _ _ _ _ h1,hi]
theorem Ze{H:aJ}{i j:Nat}{r r':Row}(hi:H i=some r)(E:H j=some r')(h:(r.e == r'.e)=false):i≠j:=fun e=>by
 subst e;rw[hi]at E;injection E with E;rw[E]at h;simp at h
abbrev tX(s:Stop):Row:=⟨141,4,[dZ s]⟩
abbrev Ed(l:List Tm):Row:=⟨365,4,l.map tB⟩
abbrev zK(l:List Int):Row:=⟨3,1,l.map aR⟩
abbrev iP(cs:List AV):Row:=⟨238,5,[cs]⟩
abbrev zeroCells:List AV:=[boo false,int 0,.sl [],int 0,int 0]
abbrev agA(l:List Bool):Row:=⟨4,1,l.map fX⟩
def sR(r:Route):List Bool:=r.rests++List.replicate (r.visits.length+1-r.rests.length) false
theorem jU(s:Sheet):(dB s).length=5:=(rfl)
theorem RK(s:Sheet):(dB s).getD 3 .any=int s.end_:=(rfl)
theorem Py(s:Sheet):(dB s).getD 4 .any=int s.miles:=(rfl)
theorem KL(s:Sheet):(dB s).take 5=dB s:=(rfl)
attribute [go_sem] RK Py KL
theorem Ss{a:List Bool}{n:Nat}(h:a.length<=n):((List.replicate n [boo false]).take 0++(a.map fX).take (min (a.map fX).length (List.replicate n [boo false]).length))++(List.replicate n [boo false]).drop (0+min (a.map fX).length (List.replicate n [boo false]).length)=(a++List.replicate (n-a.length) false).map fX:=by
 have e:min (a.map fX).length (List.replicate n [boo false]).length=a.length:=by simp;omega
 rw[e,List.take_zero,Xbd,Nat.zero_add,Xaw (by simp),List.drop_replicate,Xat,List.map_replicate];rfl
theorem oM(s:Score):(gC s).length=4:=(rfl)
theorem Ps(s:Score):(gC s).getD 0 .any=int s.cost:=(rfl)
theorem QV(s:Score):(gC s).getD 1 .any=int s.moved:=(rfl)
theorem QO(s:Score):(gC s).getD 2 .any=int s.other:=(rfl)
theorem Rq(s:Score):(gC s).getD 3 .any=int s.work:=(rfl)
theorem JQ(s:Score):(gC s).take 4=gC s:=(rfl)
attribute [go_sem] jU oM Ps QV QO Rq JQ
abbrev pE(s:Score):Row:=⟨240,4,[gC s]⟩
def Kz(o:Order)(t:Int):Bool:=o.now != -1&&o.now != t
def KO(o:Order)(t:Int):Bool:=o.last != -1&&o.last != t
def AN(o:Order)(t:Int)(a:Score):Score:=if Kz o t=true then⟨a.cost,W (a.moved+1),a.other,a.work⟩else a
def zB(o:Order)(t:Int)(a:Score):Score:=if KO o t=true then⟨a.cost,a.moved,W (a.other+1),a.work⟩else a
def jB(x:Instance)(r:Route)(a:Score)(i:Nat):Score:=
 if(dF (aF r.visits i) x.orders.length|| !qI r.visits i)=true then a
 else match x.orders[(aF r.visits i).toNat]? with
 | some o=>zB o r.type (AN o r.type a)
 | none=>a
def xG(t:VType)(s:Sheet):Score:=
 ⟨W (W (t.fixed+W (t.perMile*s.miles))+W (t.perTick*W (s.end_-t.start))),0,0,
   W (W (Int.tdiv (W (s.end_-t.start)) 64)*W (Int.tdiv (W (s.end_-t.start)) 64))⟩
def RD(x:Instance)(r:Route)(s:Sheet)(t:VType):Score:=(List.range r.visits.length).foldl (jB x r) (xG t s)
def oP(x:Instance)(r:Route)(s:Sheet):Score:=
 if dF r.type x.types.length=true then dI else match x.types[r.type.toNat]? with
 | some t=>RD x r s t
 | none=>dI
structure InsB(x:Instance):Prop where
 net:NetB x.net
 types:x.types.length<=1048576
 orders:x.orders.length<=1048576
 apart:x.apart.length<=1048576
 before:x.before.length<=1048576
structure PlanB(p:Plan):Prop where
 routes:p.routes.length<=1048576
 visits:∀r∈p.routes,r.visits.length<=1048576
 unserved:p.unserved.length<=1048576
theorem Bh{P:Program}{C:lW}{PC:FuncId->List AV->aJ->AV->Prop}{mt:Nat->Bool}{ops:Array Oper}{K:Env->aJ->Prop}{m:Nat}{ρ:Env}{H:aJ}(J:Env->aJ->Prop)(h1:∀ρ H,J ρ H->K ρ H)
 (E:∀K':Env->aJ->Prop,(∀ρ H,J ρ H->K' ρ H)->tK P C PC mt ops K' m ρ H):tK P C PC mt ops K m ρ H:=E K h1
end Go.Proofs.YtdlijlecpopadaaGreatDoor.Sq
end
