import Derived.Test.YtgncgpcpbadfnaaGreatDoorRows
import Derived.Carry
import Derived.OpenShut
import Derived.JoinedCond
import Derived.WalkKit
import Derived.ProofKit
import Derived.WideKeyArgs
import Derived.Test.YtgncgpcpbadfnaaGreatDoorVc11
set_option linter.unusedSimpArgs false
set_option linter.unusedVariables false
set_option linter.defProp false
set_option maxRecDepth 100000
section
namespace Go.Proofs.YtgncgpcpbadfnaaGreatDoor
open Go.Proofs.Tryz
open Go.Aw Go.Aw.D Go.Proofs Ty
def pAt(l:List Pair)(i:Nat):Pair:=l.getD i ⟨0,0⟩
def Kc{l:List Pair}{k:Nat}{p:Pair}(h:l[k]?=some p):pAt l k=p:=by simp[pAt,List.getD,h]
def Ae(w:ByteArray)(k:Nat):ByteArray:=w++⟨#[32]⟩++iX k
def B6(N:Int)(p:Pair):Bool:=decide (p.a<0)||decide (p.a>=N)||decide (p.b<0)||decide (p.b>=N)||p.a == p.b
def xY(b:Bool)(p q:Pair):Bool:=(q.a == p.a&&q.b == p.b)||(b&&q.a == p.b&&q.b == p.a)
def fT(N:Int)(l:List Pair)(w:ByteArray)(b:Bool)(k:Nat):List Fault:=match B6 N (pAt l k)with
 | true=>[⟨2,Ae w k⟩]
 | false=>opt ((l.take k).any (xY b (pAt l k))) ⟨6,Ae w k⟩
def yQ(N:Int)(l:List Pair)(w:ByteArray)(b:Bool)(k:Nat):(fT N l w b k).length<=1:=by
 unfold fT;split
 ·simp
 ·exact bW _ _
def uG(N:Int)(l:List Pair)(w:ByteArray)(b:Bool):List Fault:=opt (decide ((l.length:Int)>16)) ⟨4,w⟩++(List.range l.length).flatMap (fT N l w b)
def Nb(N:Int)(l:List Pair)(w:ByteArray)(b:Bool)(hl:l.length<=1048576)(hw:w.size<=1048576):
  NC prog 59 [int N,.sl (l.map cN),str w,boo b] (bK (uG N l w b)) .os:=by
 refine ncb (fun t=>t == 9) func59 rfl rfl ?_;simp only[go_sem];refine aJ fun j hj=>?_
 simp only[go_sem];refine oN (fun A H'=>A 0=int N/\A 1=.sl (l.map cN)/\A 2=str w/\A 3=boo b/\∃j',A 9=.os j'/\H' j'=some (bK [])) ⟨by simp only[go_sem],by simp only[go_sem],by simp only[go_sem],by simp only[go_sem],_,by simp only[go_sem],aB _ _ _⟩ ?_;rintro ρ H ⟨h0,h1,I,F,j,J,M⟩;generalize Y:([]:List Fault)=es0 at M;have an:es0.length<=0:=by rw[<-Y];exact Xag _
 refine bN (fun A H'=>A 0=int N/\A 1=.sl (l.map cN)/\A 2=str w/\A 3=boo b/\∃j',A 9=.os j'/\H' j'=some (bK (es0++opt (decide ((l.length:Int)>16)) ⟨4,w⟩))) ?_ fun K hK=>aA (fun X=>?_) (fun X=>?_)
 rotate_left
 ·simp only[go_sem,h0,h1,I,F,J];refine aX M ⟨rfl,rfl⟩ (by simp only[go_sem]) (by simp only[Xaa,Xad,List.length_nil];omega) (fun j' ak=>?_);simp only[go_sem];refine hK _ _ ⟨by simp only[go_sem,h0],by simp only[go_sem,h1],by simp only[go_sem,I],by simp only[go_sem,F],j',by simp only[go_sem],?_⟩;rw[gX (show(decide ((l.length:Int)>16))=true from X)];exact eF (l':=[⟨4,w⟩]) rfl
 ·simp only[go_sem];refine hK _ _ ⟨by simp only[go_sem,h0],by simp only[go_sem,h1],by simp only[go_sem,I],by simp only[go_sem,F],j,by simp only[go_sem,J],?_⟩;rw[gY (show(decide ((l.length:Int)>16))=false from X),Xak,M]
 clear M h0 h1 I F J;rintro ρ H ⟨h0,h1,I,F,j,J,M⟩;generalize Z:es0++opt (decide ((l.length:Int)>16)) (⟨4,w⟩:Fault)=es1 at M;have am:es1.length<=es0.length+1:=by rw[<-Z,Xaf];have:=bW (decide ((l.length:Int)>16)) (⟨4,w⟩:Fault);omega
 simp only[go_sem,h0,h1,I,F,J];refine⟨fun ρ H=>∃k:Nat,k<=l.length/\ρ 0=int N/\ρ 1=.sl (l.map cN)/\ρ 2=str w/\ρ 3=boo b/\ρ 10=int k/\∃j,ρ 9=.os j/\H j=some (bK (es1++(List.range k).flatMap (fT N l w b))),fun ρ _=>l.length-aT (ρ 10),
  ⟨0,Xab _,by simp only[go_sem,h0],by simp only[go_sem,h1],by simp only[go_sem,I],by simp only[go_sem,F],by simp only[go_sem];rfl,j,by simp only[go_sem,J],by simpa using M⟩,?_⟩
 clear M h0 h1 I F J hj;rintro ρ H ⟨k,hk,h0,h1,I,F,E,j,J,M⟩;generalize ac:es1++(List.range k).flatMap (fT N l w b)=es at M;have ao:es.length<=k+1:=by have:=eC (yQ N l w b) (List.range k);rw[<-ac,Xaf];rw[Xas]at this;omega
 simp only[go_sem,h0,h1,I,F,J,E];refine aA (fun O=>?_) (fun aa=>?_)
 ·have O:=bA O;have ag:k<=4611686018427387904:=by omega
  obtain⟨p,hp⟩:=aM O;have b1:=inB O;have aq:=mV k;have ap:(#[32]:Array UInt8).size=1:=rfl;have ae:es1++(List.range (k+1)).flatMap (fT N l w b)=es++fT N l w b k:=by rw[gM,<-Xar,ac]
  simp only[go_sem,h0,h1,I,F,J,E,b1,aC hp];refine⟨by omega,by omega,by rw[vR];omega,?_⟩;refine aP (acT _ (by omega)) ?_;simp only[go_sem,h0,h1,I,F,J,E];refine⟨by rw[vR];omega,?_⟩;refine aA (fun X=>?_) (fun X=>?_)
  ·simp only[go_sem,h0,h1,I,F,J,E];refine aX M ⟨rfl,rfl⟩ (by simp only[go_sem]) (by simp only[Xaa,Xad,List.length_nil];omega) (fun j' ak=>?_);simp only[go_sem,h0,h1,I,F,E,mX ag];refine⟨⟨k+1,O,rfl,j',rfl,?_⟩,by simp only[aF];omega⟩;have hn:B6 N (pAt l k)=true:=by rw[Kc hp];exact X
   rw[ae,fT,hn];exact eF (l':=[⟨2,Ae w k⟩]) rfl
  ·simp only[go_sem,h0,h1,I,F,J,E];have hn:B6 N (pAt l k)=false:=by rw[Kc hp];exact X
   refine⟨fun ρ H'=>∃m:Nat,m<=k/\ρ 0=int N/\ρ 1=.sl (l.map cN)/\ρ 2=str w/\ρ 3=boo b/\ρ 9=.os j/\ρ 10=int k/\ρ 11=int p.a/\ρ 12=int p.b/\ρ 13=str (Ae w k)/\ρ 14=boo ((l.take m).any (xY b p))/\ρ 15=int m/\H'=H,fun ρ _=>k-aT (ρ 15),
    ⟨0,Xab _,by simp only[go_sem,h0],by simp only[go_sem,h1],by simp only[go_sem,I],by simp only[go_sem,F],by simp only[go_sem,J],by simp only[go_sem,E],by simp only[go_sem],by simp only[go_sem],by simp only[go_sem];rfl,by simp only[go_sem];rfl,by simp only[go_sem];rfl,rfl⟩,?_⟩
   clear h0 h1 I F J E;rintro ρ H' ⟨m,hm,h0,h1,I,F,J,E,aj,al,af,ab,ai,rfl⟩;simp only[go_sem,h0,h1,I,F,J,E,aj,al,af,ab,ai];refine aA (fun T=>?_) (fun U=>?_)
   ·have T:=bA T;obtain⟨q,hq⟩:=aM (show m<l.length by omega);have b2:=inB (show m<l.length by omega);simp only[go_sem,h0,h1,I,F,J,E,aj,al,af,ab,ai,b2,aC hq,aV m];refine⟨fun _=>by omega,fun _=>by omega,fun _=>by omega,fun _=>by omega,⟨m+1,T,?_,rfl⟩,by simp only[aF];omega⟩;rw[GD hq];simp only[xY,Bool.or_assoc]
   ·have U:=bB hm U;subst U;simp only[go_sem,ab];have ah:(l.take m).any (xY b (pAt l m))=(l.take m).any (xY b p):=by rw[Kc hp]
    refine lK (fun A H'=>A 0=int N/\A 1=.sl (l.map cN)/\A 2=str w/\A 3=boo b/\A 10=int m/\∃j,A 9=.os j/\H' j=some (bK (es1++(List.range (m+1)).flatMap (fT N l w b)))) ?_ fun K hK _ _=>aA (fun X=>?_) (fun X=>?_)
    ·clear M h0 h1 I F J E;rintro ρ H ⟨h0,h1,I,F,E,j,J,M⟩;simp only[go_sem,h0,h1,I,F,J,E,mX ag];exact⟨⟨m+1,O,rfl,j,rfl,M⟩,by simp only[aF];omega⟩
    ·simp only[go_sem,h0,h1,I,F,J,E,af];refine aX M ⟨rfl,rfl⟩ (by simp only[go_sem]) (by simp only[Xaa,Xad,List.length_nil];omega) (fun j' ak=>?_);simp only[go_sem];refine hK _ _ ⟨by simp only[go_sem,h0],by simp only[go_sem,h1],by simp only[go_sem,I],by simp only[go_sem,F],by simp only[go_sem,E],j',by simp only[go_sem],?_⟩;rw[ae,fT,hn];show _=some (bK (es++opt _ ⟨6,Ae w m⟩));rw[gX (ah.trans X)];exact eF (l':=[⟨6,Ae w m⟩]) rfl
    ·simp only[go_sem];refine hK _ _ ⟨by simp only[go_sem,h0],by simp only[go_sem,h1],by simp only[go_sem,I],by simp only[go_sem,F],by simp only[go_sem,E],j,by simp only[go_sem,J],?_⟩;rw[ae,fT,hn];show _=some (bK (es++opt _ ⟨6,Ae w m⟩));rw[gY (ah.trans X),Xak,M]
 ·have aa:=bB hk aa;subst aa;simp only[go_sem,J];exact⟨_,rfl,by rw[M,<-ac,<-Z,<-Y];rfl⟩
def oY:∀l:List Fault,cH 2 (l.map fO)
 | []=>trivial
 | f::r=>⟨rfl,oY r⟩
def wI(N:Int)(l:List Pair)(w:ByteArray)(b:Bool):(uG N l w b).length<=l.length+1:=by have:=eC (yQ N l w b) (List.range l.length);have A:=bW (decide ((l.length:Int)>16)) (⟨4,w⟩:Fault);rw[uG,Xaf];rw[Xas]at this;omega
def J0(N:Int)(E A:List Pair)(J:E.length<=1048576)(F:A.length<=1048576):
  NC prog 38 [int N,.sl (E.map cN),.sl (A.map cN)] (bK (uG N E ⟨#[97,112,97,114,116]⟩ true++uG N A ⟨#[98,101,102,111,114,101]⟩ false)) .os:=by
 refine ncb (fun t=>t == 7) func38 rfl rfl ?_;simp only[go_sem];refine NC.use (Nb N E ⟨#[97,112,97,114,116]⟩ true J (by decide)) fun j O=>?_
 simp only[go_sem];refine NC.use (Nb N A ⟨#[98,101,102,111,114,101]⟩ false F (by decide)) fun i I=>?_
 simp only[go_sem];have T:=wI N E ⟨#[97,112,97,114,116]⟩ true;have U:=wI N A ⟨#[98,101,102,111,114,101]⟩ false;refine Cw (hY (aB _ _ _) I) (aB _ _ _) ⟨rfl,rfl⟩ (oY _) (by simp only[Xaa];omega) (fun j' M=>?_);simp only[go_sem];exact⟨_,rfl,eF rfl⟩
def NC.pc{f:FuncId}{args:List AV}{row:Row}(h:NC prog f args row .os):PC prog f args (.sl row.es):=
 RC.conv (RC.mono h fun r H' ⟨k,e,A⟩=>by subst e;exact .row k row row.es A (ConvE.refl _))
def mC(l:List Arc)(i:Nat):Arc:=l.getD i ⟨0,0,0,0,[],[]⟩
def oJ{l:List Arc}{k:Nat}{p:Arc}(h:l[k]?=some p):mC l k=p:=by simp[mC,List.getD,h]
def gD(k:Nat):ByteArray:=⟨#[97,114,99,32]⟩++iX k
def xA(N:Int)(a:Arc):Bool:=decide (a.src<0)||decide (a.src>=N)||decide (a.dst<0)||decide (a.dst>=N)
def Bu(a:Arc):Bool:=decide (a.profile<0)||decide (a.profile>7)||decide (a.miles<0)||decide (a.miles>10000)||a.src == a.dst
def qX(a b:Arc):Bool:=a.src == b.src&&a.dst == b.dst&&a.profile == b.profile
def nI(l:List Point)(i:Nat):Bool:= !inR (dM l i).t 0 4096|| !inR (dM l i).a 0 4096||decide ((i:Int)>0)&&decide ((dM l i).t<=(dM l (i-1)).t)
def G0(n:Network)(k:Nat):List Fault:=
 []++opt (xA n.places.length (mC n.arcs k)) ⟨11,gD k⟩++opt (Bu (mC n.arcs k)) ⟨2,gD k⟩++opt ((n.arcs.take k).any (qX (mC n.arcs k))) ⟨6,gD k⟩
   ++ (jD (mC n.arcs k).travel).map (fun f=>⟨f.err,gD k⟩)++opt (decide (((mC n.arcs k).slow.length:Int)>16)) ⟨4,gD k⟩
   ++ (List.range (mC n.arcs k).slow.length).flatMap fun i=>opt (nI (mC n.arcs k).slow i) ⟨2,gD k⟩
def VJ(l:List Point)(A:l.length<=1048576):PC prog 90 [.sl (l.map bV)] (.sl ((jD l).map fO)):=NC.pc (Xv l A)
def El(l:List Point):(jD l).length<=2*l.length+1:=by have:=eC (ZS l) (List.range l.length);have A:=bW (Fp l.length 1 16) (⟨4,ByteArray.empty⟩:Fault);rw[jD,Xaf];rw[Xas]at this;omega
def ajB(n:Network)(k:Nat)(hk:k<n.arcs.length)(hp:n.places.length<=1048576)(hl:n.arcs.length<=1048576)(hs:∀a∈n.arcs,a.travel.length<=1048576/\a.slow.length<=1048576):
  NC prog 54 [.agg (aY n),int k] (bK (G0 n k)) .os:=by
 refine ncb (fun t=>t == 5) func54 rfl rfl ?_;simp only[go_sem];obtain⟨a,ha⟩:=aM hk;have b1:=inB hk;have ar:=hs a (iV ha);have a7:=mV k;refine aJ fun j hj=>?_
 simp only[go_sem];refine aP (rF _ (by omega)) ?_;simp only[go_sem,b1,aC ha];have h4:(#[97,114,99,32]:Array UInt8).size=4:=rfl;refine⟨by rw[vR];omega,aJ fun i M=>?_⟩;simp only[go_sem];refine aN (aB _ _ _) (by simp[iY]) ?_;simp only[go_sem];have E:j≠i:=aR (aB _ _ _) M;have av:gD k=⟨#[97,114,99,32]⟩++iX k:=rfl;refine oN (fun A H'=>A 1=int k/\A 2=.rp (aY n) 0/\A 6=str (gD k)/\A 7=.op i 0 0/\H' i=some (tY a)/\∃j',A 5=.os j'/\j'≠i/\H' j'=some (bK []))
  ⟨by simp only[go_sem],by simp only[go_sem],by simp only[go_sem,av],by simp only[go_sem],aB _ _ _,j,by simp only[go_sem],E,by rw[aD _ _ _ _ E,aD _ _ _ _ E,aB];rfl⟩ ?_
 clear M hj E;rintro ρ H ⟨h1,Z,I,F,M,j,J,E,O⟩;generalize ai:([]:List Fault)=es0 at O;have az:es0.length<=0:=by rw[<-ai];exact Xag _
 refine bN (fun A H'=>A 1=int k/\A 2=.rp (aY n) 0/\A 6=str (gD k)/\A 7=.op i 0 0/\H' i=some (tY a)/\∃j',A 5=.os j'/\j'≠i/\H' j'=some (bK (es0++opt (xA n.places.length a) ⟨11,gD k⟩))) ?_ fun K hK=>aA (fun hb=>?_) (fun hb=>?_)
 rotate_left
 ·simp only[go_sem,h1,Z,I,F,J];refine aX O ⟨rfl,rfl⟩ (by simp only[go_sem]) (by simp only[Xaa,Xad,List.length_nil];omega) (fun j' T=>?_);simp only[go_sem];refine hK _ _ ⟨by simp only[go_sem,h1],by simp only[go_sem,Z],by simp only[go_sem,I],by simp only[go_sem,F],cT M E T,j',by simp only[go_sem],(aR M T).symm,?_⟩;rw[gX (show(xA n.places.length a)=true from hb)];exact eF (l':=[⟨11,gD k⟩]) rfl
 ·simp only[go_sem];refine hK _ _ ⟨by simp only[go_sem,h1],by simp only[go_sem,Z],by simp only[go_sem,I],by simp only[go_sem,F],M,j,by simp only[go_sem,J],E,?_⟩;rw[gY (show(xA n.places.length a)=false from hb),Xak,O]
 clear O h1 Z I F J;rintro ρ H ⟨h1,Z,I,F,M,j,J,E,O⟩;generalize ak:es0++opt (xA n.places.length a) (⟨11,gD k⟩:Fault)=es1 at O;have a5:es1.length<=es0.length+1:=by rw[<-ak,Xaf];have:=bW (xA n.places.length a) (⟨11,gD k⟩:Fault);omega
 simp only[go_sem,h1,Z,I,F,J,M];refine bN (fun A H'=>A 1=int k/\A 2=.rp (aY n) 0/\A 6=str (gD k)/\A 7=.op i 0 0/\H' i=some (tY a)/\∃j',A 5=.os j'/\j'≠i/\H' j'=some (bK (es1++opt (Bu a) ⟨2,gD k⟩))) ?_ fun K hK=>aA (fun hb=>?_) (fun hb=>?_)
 rotate_left
 ·simp only[go_sem,h1,Z,I,F,J];refine aX O ⟨rfl,rfl⟩ (by simp only[go_sem]) (by simp only[Xaa,Xad,List.length_nil];omega) (fun j' T=>?_);simp only[go_sem];refine hK _ _ ⟨by simp only[go_sem,h1],by simp only[go_sem,Z],by simp only[go_sem,I],by simp only[go_sem,F],cT M E T,j',by simp only[go_sem],(aR M T).symm,?_⟩;rw[gX (show(Bu a)=true from hb)];exact eF (l':=[⟨2,gD k⟩]) rfl
 ·simp only[go_sem];refine hK _ _ ⟨by simp only[go_sem,h1],by simp only[go_sem,Z],by simp only[go_sem,I],by simp only[go_sem,F],M,j,by simp only[go_sem,J],E,?_⟩;rw[gY (show(Bu a)=false from hb),Xak,O]
 clear O h1 Z I F J;rintro ρ H ⟨h1,Z,I,F,M,j,J,E,O⟩;generalize ah:es1++opt (Bu a) (⟨2,gD k⟩:Fault)=es2 at O;have ax:es2.length<=es1.length+1:=by rw[<-ah,Xaf];have:=bW (Bu a) (⟨2,gD k⟩:Fault);omega
 simp only[go_sem,h1,Z,I,F,J,M];refine⟨fun A H'=>∃m:Nat,m<=k/\A 1=int k/\A 2=.rp (aY n) 0/\A 6=str (gD k)/\A 7=.op i 0 0/\A 5=.os j/\A 8=boo ((n.arcs.take m).any (qX a))/\A 9=int m/\H' i=some (tY a)/\H' j=some (bK es2),fun ρ _=>k-aT (ρ 9),
  ⟨0,Xab _,by simp only[go_sem,h1],by simp only[go_sem,Z],by simp only[go_sem,I],by simp only[go_sem,F],by simp only[go_sem,J],by simp only[go_sem];rfl,by simp only[go_sem];rfl,M,O⟩,?_⟩
 clear h1 Z I F J M O;rintro ρ H ⟨m,hm,h1,Z,I,F,J,h8,h9,M,O⟩;simp only[go_sem,h1,Z,I,F,J,h8,h9];refine aA (fun U=>?_) (fun X=>?_)
 ·have U:=bA U;obtain⟨c,hc⟩:=aM (show m<n.arcs.length by omega);have b2:=inB (show m<n.arcs.length by omega);simp only[go_sem,h1,Z,I,F,J,h8,h9,b2,aC hc];refine aJ fun x hx=>?_
  simp only[go_sem];refine aN (aB _ _ _) (by simp[iY]) ?_;have aa:=aR M hx;have ab:=aR O hx;simp only[go_sem,h1,Z,I,F,J,h8,h9,aD _ _ _ _ aa,M,aV m];refine⟨⟨m+1,U,?_,rfl,?_⟩,by simp only[aF];omega⟩
  ·rw[GD hc];simp only[qX]
  ·rw[aD _ _ _ _ ab,aD _ _ _ _ ab,O]
 ·have X:=bB hm X;subst X;simp only[go_sem,h1,Z,I,F,J,h8,h9];clear h1 Z h8 h9;refine bN (fun A H'=>A 6=str (gD m)/\A 7=.op i 0 0/\H' i=some (tY a)/\∃j',A 5=.os j'/\j'≠i/\H' j'=some (bK (es2++opt ((n.arcs.take m).any (qX a)) ⟨6,gD m⟩))) ?_ fun K hK=>aA (fun hb=>?_) (fun hb=>?_)
  rotate_left
  ·simp only[go_sem,I,F,J];refine aX O ⟨rfl,rfl⟩ (by simp only[go_sem]) (by simp only[Xaa,Xad,List.length_nil];omega) (fun j' T=>?_);simp only[go_sem];refine hK _ _ ⟨by simp only[go_sem,I],by simp only[go_sem,F],cT M E T,j',by simp only[go_sem],(aR M T).symm,?_⟩;rw[gX (show((n.arcs.take m).any (qX a))=true from hb)];exact eF (l':=[⟨6,gD m⟩]) rfl
  ·simp only[go_sem];refine hK _ _ ⟨by simp only[go_sem,I],by simp only[go_sem,F],M,j,by simp only[go_sem,J],E,?_⟩;rw[gY (show((n.arcs.take m).any (qX a))=false from hb),Xak,O]
  clear O I F J;rintro ρ H ⟨I,F,M,j,J,E,O⟩;generalize aj:es2++opt ((n.arcs.take m).any (qX a)) (⟨6,gD m⟩:Fault)=es3 at O;have a0:es3.length<=es2.length+1:=by rw[<-aj,Xaf];have:=bW ((n.arcs.take m).any (qX a)) (⟨6,gD m⟩:Fault);omega
  simp only[go_sem,I,F,J,M];refine aP (VJ a.travel ar.1) ?_;simp only[go_sem];have au:=El a.travel;have ao:(jD (mC n.arcs m).travel).map (fun f=>(⟨f.err,gD m⟩:Fault))=(jD a.travel).map (fun f=>⟨f.err,gD m⟩):=by rw[oJ ha]
  generalize jD a.travel=tr at au ao;refine⟨fun ρ H=>∃q:Nat,q<=tr.length/\ρ 6=str (gD m)/\ρ 7=.op i 0 0/\ρ 11=.sl (tr.map fO)/\ρ 12=int q/\H i=some (tY a)/\∃j,ρ 5=.os j/\j≠i/\H j=some (bK (es3++(tr.take q).map fun f=>⟨f.err,gD m⟩)),fun ρ _=>tr.length-aT (ρ 12),
   ⟨0,Xab _,by simp only[go_sem,I],by simp only[go_sem,F],by simp only[go_sem],by simp only[go_sem];rfl,M,j,by simp only[go_sem,J],E,by simpa using O⟩,?_⟩
  clear I F J M O E;rintro ρ H ⟨q,hq,I,F,ac,ae,M,j,J,E,O⟩;simp only[go_sem,I,F,J,ac,ae];refine aA (fun U=>?_) (fun X=>?_)
  ·have U:=bA U;obtain⟨f,hf⟩:=aM U;have b2:=inB U;simp only[go_sem,I,F,J,ac,ae,b2,aC hf];refine aX O ⟨rfl,rfl⟩ (by simp only[go_sem]) (by simp only[Xaa,Xaf,Xal,Xad,List.length_nil];omega) (fun j' T=>?_);simp only[go_sem,I,F,J,ac,ae,aV q];refine⟨⟨q+1,U,rfl,cT M E T,j',rfl,(aR M T).symm,?_⟩,by simp only[aF];omega⟩;rw[CK hf,<-Xar];exact eF (l':=[⟨f.err,gD m⟩]) rfl
  ·have X:=bB hq X;subst X;simp only[go_sem,I,F,J,ac,ae,M];clear ac ae;rw[Xae]at O;generalize ag:es3++tr.map (fun f=>(⟨f.err,gD m⟩:Fault))=es4 at O;have ay:es4.length=es3.length+tr.length:=by rw[<-ag,Xaf,Xaa]
   refine bN (fun A H'=>A 6=str (gD m)/\A 7=.op i 0 0/\H' i=some (tY a)/\∃j',A 5=.os j'/\j'≠i/\H' j'=some (bK (es4++opt (decide ((a.slow.length:Int)>16)) ⟨4,gD m⟩))) ?_ fun K hK=>aA (fun hb=>?_) (fun hb=>?_)
   rotate_left
   ·simp only[go_sem,I,F,J];refine aX O ⟨rfl,rfl⟩ (by simp only[go_sem]) (by simp only[Xaa,Xad,List.length_nil];omega) (fun j' T=>?_);simp only[go_sem];refine hK _ _ ⟨by simp only[go_sem,I],by simp only[go_sem,F],cT M E T,j',by simp only[go_sem],(aR M T).symm,?_⟩;rw[gX (show(decide ((a.slow.length:Int)>16))=true from hb)];exact eF (l':=[⟨4,gD m⟩]) rfl
   ·simp only[go_sem];refine hK _ _ ⟨by simp only[go_sem,I],by simp only[go_sem,F],M,j,by simp only[go_sem,J],E,?_⟩;rw[gY (show(decide ((a.slow.length:Int)>16))=false from hb),Xak,O]
   clear O I F J;rintro ρ H ⟨I,F,M,j,J,E,O⟩;generalize af:es4++opt (decide ((a.slow.length:Int)>16)) (⟨4,gD m⟩:Fault)=es5 at O;have a4:es5.length<=es4.length+1:=by rw[<-af,Xaf];have:=bW (decide ((a.slow.length:Int)>16)) (⟨4,gD m⟩:Fault);omega
   simp only[go_sem,I,F,J,M];refine⟨fun ρ H=>∃k:Nat,k<=a.slow.length/\ρ 6=str (gD m)/\ρ 7=.op i 0 0/\ρ 13=int k/\H i=some (tY a)/\∃j,ρ 5=.os j/\j≠i/\H j=some (bK (es5++(List.range k).flatMap fun x=>opt (nI a.slow x) ⟨2,gD m⟩)),fun ρ _=>a.slow.length-aT (ρ 13),
    ⟨0,Xab _,by simp only[go_sem,I],by simp only[go_sem,F],by simp only[go_sem];rfl,M,j,by simp only[go_sem,J],E,by simpa using O⟩,?_⟩
   clear I F J M O E;rintro ρ H ⟨k,hk,I,F,Y,M,j,J,E,O⟩;generalize an:es5++(List.range k).flatMap (fun x=>opt (nI a.slow x) (⟨2,gD m⟩:Fault))=es at O;have a6:es.length<=es5.length+k:=by have:=eC (f:=fun x=>opt (nI a.slow x) (⟨2,gD m⟩:Fault)) (c:=1) (fun x=>bW _ _) (List.range k);rw[<-an,Xaf];rw[Xas]at this;omega
   simp only[go_sem,I,F,J,Y,M];refine aA (fun U=>?_) (fun X=>?_)
   ·have U:=bA U;have al:k<=4611686018427387904:=by omega
    obtain⟨p,hp⟩:=aM U;obtain⟨r,hr⟩:=aM (show k-1<a.slow.length by omega);have b2:=inB U;simp only[go_sem,I,F,J,Y,M,b2,aC hp];refine aJ fun x hx=>?_
    simp only[go_sem];refine aN (aB _ _ _) (by simp[fZ]) ?_;have aa:=aR M hx;have ab:=aR O hx;simp only[go_sem];refine dF (by rfl) (by kernel_rfl) ?_;simp only[go_sem,I,F,J,Y,aD _ _ _ _ aa,M];refine⟨_,(YT _).q rfl,?_⟩;simp only[go_sem,I,F,J,Y,aD _ _ _ _ aa,M];refine⟨_,fun _=>(YT _).q rfl,?_⟩;simp only[go_sem,I,F,J,Y,aD _ _ _ _ aa,M,XC al,aC hr];have am:aI (aI H x (some ⟨119,2,[[int 0,int 0]]⟩)) x (some ⟨119,2,[bV p]⟩) i=some (tY a):=by rw[aD _ _ _ _ aa,aD _ _ _ _ aa,M]
    have aq:aI (aI H x (some ⟨119,2,[[int 0,int 0]]⟩)) x (some ⟨119,2,[bV p]⟩) j=some (bK es):=by rw[aD _ _ _ _ ab,aD _ _ _ _ ab,O]
    have ap:nI a.slow k=(!inR p.t 0 4096|| !inR p.a 0 4096||decide ((k:Int)>0)&&decide (p.t<=r.t)):=by rw[nI,dO hp,dO hr]
    have aw:es5++(List.range (k+1)).flatMap (fun x=>opt (nI a.slow x) (⟨2,gD m⟩:Fault))=es++opt (nI a.slow k) ⟨2,gD m⟩:=by rw[gM,<-Xar,an]
    refine⟨fun h=>by
     have:(k:Int)>0:=by simpa using h.2
     rw[nT al];omega,lK (fun A H'=>A 6=str (gD m)/\A 7=.op i 0 0/\A 13=int k/\H' i=some (tY a)/\∃j,A 5=.os j/\j≠i/\H' j=some (bK (es++opt (nI a.slow k) ⟨2,gD m⟩))) ?_ fun K hK _ _=>aA (fun hb=>?_) (fun hb=>?_)⟩
    ·clear I F J Y;rintro ρ H ⟨I,F,Y,M,j,J,E,O⟩;simp only[go_sem,I,F,J,Y,mX al];exact⟨⟨k+1,U,rfl,M,j,rfl,E,by rw[aw];exact O⟩,by simp only[aF];omega⟩
    ·simp only[go_sem,I,F,J,Y];refine aX aq ⟨rfl,rfl⟩ (by simp only[go_sem]) (by simp only[Xaa,Xad,List.length_nil];omega) (fun j' T=>?_);simp only[go_sem];refine hK _ _ ⟨by simp only[go_sem,I],by simp only[go_sem,F],by simp only[go_sem,Y],cT am E T,j',by simp only[go_sem],(aR am T).symm,?_⟩;rw[gX (ap.trans hb)];exact eF (l':=[⟨2,gD m⟩]) rfl
    ·simp only[go_sem];refine hK _ _ ⟨by simp only[go_sem,I],by simp only[go_sem,F],by simp only[go_sem,Y],am,j,by simp only[go_sem,J],E,?_⟩;rw[gY (ap.trans hb),Xak,aq]
   ·have X:=bB hk X;subst X;simp only[go_sem,J];refine⟨_,rfl,?_⟩;rw[O,<-an,<-af,<-ag,<-ao,<-aj,<-ah,<-ak,<-ai,G0,oJ ha]
def GI(n:Network)(k:Nat)(F:(mC n.arcs k).travel.length<=1048576)(M:(mC n.arcs k).slow.length<=1048576):(G0 n k).length<=3145740:=by have h1:=bW (xA n.places.length (mC n.arcs k)) (⟨11,gD k⟩:Fault);have O:=bW (Bu (mC n.arcs k)) (⟨2,gD k⟩:Fault);have J:=bW ((n.arcs.take k).any (qX (mC n.arcs k))) (⟨6,gD k⟩:Fault);have E:=El (mC n.arcs k).travel;have I:=bW (decide (((mC n.arcs k).slow.length:Int)>16)) (⟨4,gD k⟩:Fault);have A:=eC (f:=fun i=>opt (nI (mC n.arcs k).slow i) (⟨2,gD k⟩:Fault)) (c:=1) (fun x=>bW _ _) (List.range (mC n.arcs k).slow.length);rw[Xas]at A;simp only[G0,Xaf,Xaa,List.length_nil];omega
def Eh{α E:Type}{f:α->List E}{c:Nat}:∀l:List α,(∀x∈l,(f x).length<=c)->(l.flatMap f).length<=c*l.length
 | [],_=>by simp
 | x::r,h=>by
  have h1:=h x (by simp);have F:=Eh r fun y A=>h y (by simp[A])
  simp only[List.flatMap_cons,Xaf,Xad,Nat.mul_add,Nat.mul_one];omega
def HU(n:Network):List Fault:=wS n.places++opt (decide ((n.arcs.length:Int)>1024)) ⟨4,⟨#[97,114,99,115]⟩⟩++(List.range n.arcs.length).flatMap (G0 n)
def Ef(l:List ByteArray):(wS l).length<=l.length+1:=by have:=eC (Ua l) (List.range l.length);have A:=bW (decide ((l.length:Int)>24)) (⟨4,⟨#[112,108,97,99,101,115]⟩⟩:Fault);rw[wS,Xaf];rw[Xas]at this;omega
def ajR(n:Network)(hp:n.places.length<=1048576)(ab:∀s∈n.places,s.size<=1048576)(hl:n.arcs.length<=1048576)(hs:∀a∈n.arcs,a.travel.length<=1048576/\a.slow.length<=1048576):
  NC prog 34 [.agg (aY n)] (bK (HU n)) .os:=by
 have U:∀k,(G0 n k).length<=3145740:=fun k=>by
  rcases Xbb k n.arcs.length with h|h
  ·obtain⟨a,Z⟩:=aM h;have hm:=hs a (iV Z);exact GI n k (by rw[oJ Z];exact hm.1) (by rw[oJ Z];exact hm.2)
  ·have:mC n.arcs k=⟨0,0,0,0,[],[]⟩:=by simp[mC,List.getD,List.getElem?_eq_none h]
   exact GI n k (by rw[this];simp) (by rw[this];simp)
 have X:=Ef n.places;refine ncb (fun t=>t == 3) func34 rfl rfl ?_;simp only[go_sem];refine NC.use (Ya n hp ab) fun j hj=>?_
 simp only[go_sem];refine oN (fun F H'=>F 1=.rp (aY n) 0/\∃j',F 3=.os j'/\H' j'=some (bK (wS n.places))) ⟨by simp only[go_sem],j,by simp only[go_sem],aB _ _ _⟩ ?_;clear hj;rintro ρ H ⟨h1,j,A,E⟩;generalize T:wS n.places=es0 at E X;refine bN (fun F H'=>F 1=.rp (aY n) 0/\∃j',F 3=.os j'/\H' j'=some (bK (es0++opt (decide ((n.arcs.length:Int)>1024)) ⟨4,⟨#[97,114,99,115]⟩⟩))) ?_ fun K hK=>aA (fun hb=>?_) (fun hb=>?_)
 rotate_left
 ·simp only[go_sem,h1,A];refine aX E ⟨rfl,rfl⟩ (by simp only[go_sem]) (by simp only[Xaa,Xad,List.length_nil];omega) (fun j' aa=>?_);simp only[go_sem];refine hK _ _ ⟨by simp only[go_sem,h1],j',by simp only[go_sem],?_⟩;rw[gX (show(decide ((n.arcs.length:Int)>1024))=true from hb)];exact eF (l':=[⟨4,⟨#[97,114,99,115]⟩⟩]) rfl
 ·simp only[go_sem];refine hK _ _ ⟨by simp only[go_sem,h1],j,by simp only[go_sem,A],?_⟩;rw[gY (show(decide ((n.arcs.length:Int)>1024))=false from hb),Xak,E]
 clear E h1 A;rintro ρ H ⟨h1,j,A,E⟩;generalize J:es0++opt (decide ((n.arcs.length:Int)>1024)) (⟨4,⟨#[97,114,99,115]⟩⟩:Fault)=es1 at E;have ac:es1.length<=es0.length+1:=by rw[<-J,Xaf];have:=bW (decide ((n.arcs.length:Int)>1024)) (⟨4,⟨#[97,114,99,115]⟩⟩:Fault);omega
 simp only[go_sem,h1,A];refine⟨fun ρ H=>∃k:Nat,k<=n.arcs.length/\ρ 1=.rp (aY n) 0/\ρ 4=int k/\∃j,ρ 3=.os j/\H j=some (bK (es1++(List.range k).flatMap (G0 n))),fun ρ _=>n.arcs.length-aT (ρ 4),⟨0,Xab _,by simp only[go_sem,h1],by simp only[go_sem];rfl,j,by simp only[go_sem,A],by simpa using E⟩,?_⟩;clear E h1 A;rintro ρ H ⟨k,hk,h1,Y,j,A,E⟩;generalize O:es1++(List.range k).flatMap (G0 n)=es at E;have ae:es.length<=es1.length+3145740*k:=by have:=eC U (List.range k);rw[<-O,Xaf];rw[Xas]at this;omega
 simp only[go_sem,h1,A,Y];refine aA (fun I=>?_) (fun M=>?_)
 ·have I:=bA I;simp only[go_sem,h1,A,Y];refine NC.use (ajB n k I hp hl hs) fun i hi=>?_
  simp only[go_sem];have:=U k;refine Cw (hY E hi) (aB _ _ _) ⟨rfl,rfl⟩ (oY _) (by simp only[Xaa];omega) (fun j' aa=>?_);simp only[go_sem,h1,A,Y,aV k];refine⟨⟨k+1,I,rfl,j',rfl,?_⟩,by simp only[aF];omega⟩;rw[gM,<-Xar,O];exact eF rfl
 ·have M:=bB hk M;subst M;simp only[go_sem,A];exact⟨_,rfl,by rw[E,<-O,<-J,<-T];rfl⟩
def qF(l:List Fault):Prop:=∀f∈l,f.at_.size<=4194304
def Vt:qF []:=by simp[qF]
def hJ{a b:List Fault}(E:qF a)(A:qF b):qF (a++b):=fun f F=>(Xat.1 F).elim (E f) (A f)
def gJ{b:Bool}{f:Fault}(h:f.at_.size<=4194304):qF (opt b f):=by
 cases b
 ·simp[qF,opt]
 ·intro g A;simp[opt]at A;subst A;exact h
def oT{α:Type}{F:α->List Fault}{l:List α}(h:∀x∈l,qF (F x)):qF (l.flatMap F):=fun f A=>by obtain⟨x,E,A⟩:=List.mem_flatMap.1 A;exact h x E f A
def Dz{α:Type}{F:α->Fault}{l:List α}(h:∀x∈l,(F x).at_.size<=4194304):qF (l.map F):=fun f E=>by obtain⟨x,A,rfl⟩:=Xay.1 E;exact h x A
def vA{i n:Nat}(h:i∈List.range n):i<n:=Xav.1 h
def VH(i:Nat):(gD i).size<=i+5:=by have:=mV i;unfold gD;rw[ByteArray.size_append];have:(⟨#[97,114,99,32]⟩:ByteArray).size=4:=rfl;omega
def RB(w:ByteArray)(i:Nat):(Ae w i).size<=w.size+i+2:=by have:=mV i;unfold Ae;rw[ByteArray.size_append,ByteArray.size_append];have:(⟨#[32]⟩:ByteArray).size=1:=rfl;omega
def KV(l:List ByteArray)(h:l.length<=1048576):qF (wS l):=hJ (gJ (by decide)) (oT fun i A=>by
 have:=vA A;have:=Ou i;unfold fI;split
 ·exact gJ (b:=true) (by show(rW i).size<=_;omega)
 ·exact gJ (by show(rW i).size<=_;omega))
def UT(n:Network)(E:n.places.length<=1048576)(F:n.arcs.length<=1048576):qF (HU n):=by
 refine hJ (hJ (KV _ E) (gJ (by decide))) (oT fun i A=>?_);have:=vA A;have h:(gD i).size<=4194304:=by have:=VH i;omega
 exact hJ (hJ (hJ (hJ (hJ (hJ Vt (gJ h)) (gJ h)) (gJ h)) (Dz fun _ _=>h)) (gJ h)) (oT fun _ _=>gJ h)
def OU(n:Network)(l:List VType)(E:l.length<=1048576):qF (tU n l):=
 hJ (gJ (by decide)) (oT fun i A=>Dz fun _ _=>by have:=vA A;have:=mV i;show(iX i).size<=_;omega)
def J7(n:Network)(d T:Int)(l:List Order)(E:l.length<=1048576):qF (qT n d T l):=
 hJ (gJ (by decide)) (oT fun i A=>Dz fun _ _=>by have:=vA A;have:=mV i;show(iX i).size<=_;omega)
def D8(N:Int)(l:List Pair)(w:ByteArray)(b:Bool)(F:l.length<=1048576)(E:w.size<=100):qF (uG N l w b):=hJ (gJ (by show w.size<=_;omega)) (oT fun i A=>by
 have:=vA A;have:=RB w i;unfold fT;split
 ·exact gJ (b:=true) (by show(Ae w i).size<=_;omega)
 ·exact gJ (by show(Ae w i).size<=_;omega))
def Rg(n:Network)(l:List VType):(tU n l).length<=9*l.length+1:=by have:=eC (f:=iC n l) (c:=9) (fun x=>by unfold iC;rw[Xaa];exact xF _ _ _ _) (List.range l.length);have A:=bW (!inR l.length 1 6) (⟨4,ByteArray.empty⟩:Fault);rw[tU,Xaf];rw[Xas]at this;omega
def LG(n:Network)(d T:Int)(l:List Order):(qT n d T l).length<=9*l.length+1:=by have:=eC (f:=gC n d T l) (c:=9) (fun x=>by unfold gC;rw[Xaa];exact tW _ _ _ _ _ _) (List.range l.length);have A:=bW (decide ((l.length:Int)>10)) (⟨4,ByteArray.empty⟩:Fault);rw[qT,Xaf];rw[Xas]at this;omega
structure InB(x:Instance):Prop where
 places:x.net.places.length<=1048576
 place:∀s∈x.net.places,s.size<=1048576
 arcs:x.net.arcs.length<=1048576
 arc:∀a∈x.net.arcs,a.travel.length<=1048576/\a.slow.length<=1048576
 types:x.types.length<=1048576
 type:∀t∈x.types,t.name.size<=1048576/\t.cap.length<=1048576
 orders:x.orders.length<=1048576
 order:∀t∈x.orders,t.name.size<=1048576/\t.load.length<=1048576
 apart:x.apart.length<=1048576
 before:x.before.length<=1048576
def CU(x:Instance):List Fault:=uG x.orders.length x.apart ⟨#[97,112,97,114,116]⟩ true++uG x.orders.length x.before ⟨#[98,101,102,111,114,101]⟩ false
def Dv(x:Instance):List Fault:=(HU x.net).map (kT ⟨#[110,101,116]⟩)++(tU x.net x.types).map (kT ⟨#[116,121,112,101,115]⟩) ++
 (qT x.net (jP x.types) x.types.length x.orders).map (kT ⟨#[111,114,100,101,114,115]⟩)++(CU x).map (kT ⟨#[114,117,108,101,115]⟩)
def XU(x:Instance)(h:InB x):(HU x.net).length<=3300000000000:=by
 have h1:=Ef x.net.places;have O:=bW (decide ((x.net.arcs.length:Int)>1024)) (⟨4,⟨#[97,114,99,115]⟩⟩:Fault);have I:=Eh (f:=G0 x.net) (c:=3145740) (List.range x.net.arcs.length) fun k F=>by obtain⟨a,A⟩:=aM (vA F);have E:=h.arc a (iV A);exact GI x.net k (by rw[oJ A];exact E.1) (by rw[oJ A];exact E.2)
 have J:=h.places;have M:=h.arcs;rw[Xas]at I;simp only[HU,Xaf];omega
def acG(x:Instance)(h:InB x):NC prog 14 [.agg (aE x)] (bK (Dv x)) .os:=by
 have O:PC prog 34 [.agg (aY x.net)] (.sl ((HU x.net).map fO)):=NC.pc (ajR x.net h.places h.place h.arcs h.arc);have c2:PC prog 35 [.agg (aY x.net),.sl (x.types.map aZ)] (.sl ((tU x.net x.types).map fO)):=NC.pc (abX x.net x.types h.types h.type h.places);have T:PC prog 36 [.agg (aY x.net),int (jP x.types),int x.types.length,.sl (x.orders.map aW)] (.sl ((qT x.net (jP x.types) x.types.length x.orders).map fO)):=NC.pc (Hj x.net _ _ x.orders h.orders h.order h.places);have U:PC prog 38 [int x.orders.length,.sl (x.apart.map cN),.sl (x.before.map cN)] (.sl ((CU x).map fO)):=NC.pc (J0 x.orders.length x.apart x.before h.apart h.before);have l1:=XU x h;have l2:=Rg x.net x.types;have l3:=LG x.net (jP x.types) x.types.length x.orders;have l4:(CU x).length<=2097154:=by have a1:=wI x.orders.length x.apart ⟨#[97,112,97,114,116]⟩ true;have a2:=wI x.orders.length x.before ⟨#[98,101,102,111,114,101]⟩ false;have:=h.apart;have:=h.before;rw[CU,Xaf];omega
 have s1:=UT x.net h.places h.arcs;have X:=OU x.net x.types h.types;have s3:=J7 x.net (jP x.types) x.types.length x.orders h.orders;have Z:qF (CU x):=hJ (D8 _ _ _ _ h.apart (by decide)) (D8 _ _ _ _ h.before (by decide));have ht:=h.types;have ho:=h.orders;refine ncb (fun t=>t == 27) func14 rfl rfl ?_;simp only[go_sem];refine aP O ?_;simp only[go_sem];refine NC.use (Ff ⟨#[110,101,116]⟩ _ (by decide) (by omega) fun f A=>Xai (s1 f A) (by decide)) fun j hj=>?_
 simp only[go_sem];refine aP c2 ?_;simp only[go_sem];refine NC.use (Ff ⟨#[116,121,112,101,115]⟩ _ (by decide) (by omega) fun f A=>Xai (X f A) (by decide)) fun i F=>?_
 simp only[go_sem];refine Cw (hY (aB _ _ _) F) (aB _ _ _) ⟨rfl,rfl⟩ (oY _) (by simp only[Xaa];omega) (fun j' J=>?_);simp only[go_sem];refine E7 (by kernel_rfl) ?_;simp only[go_sem];refine⟨_,(J2 x.types).q rfl,?_⟩;simp only[go_sem];have M:=eF (e:=139) (sz:=2) (enc:=fO) (H:=aI (aI (aI bS j (some (bK ((HU x.net).map (kT ⟨#[110,101,116]⟩))))) i (some (bK ((tU x.net x.types).map (kT ⟨#[116,121,112,101,115]⟩))))) j none) (k:=j') (l:=(HU x.net).map (kT ⟨#[110,101,116]⟩)) (l':=(tU x.net x.types).map (kT ⟨#[116,121,112,101,115]⟩)) rfl;generalize aI (aI (aI (aI bS j _) i _) j none) j' _=H at M |-;generalize E:(HU x.net).map (kT ⟨#[110,101,116]⟩)++(tU x.net x.types).map (kT ⟨#[116,121,112,101,115]⟩)=es at M;have aa:es.length<=3300000000000+9*x.types.length+1:=by rw[<-E,Xaf,Xaa,Xaa];omega
 clear F hj J;refine aP T ?_;simp only[go_sem];refine NC.use (Ff ⟨#[111,114,100,101,114,115]⟩ _ (by decide) (by omega) fun f A=>Xai (s3 f A) (by decide)) fun i F=>?_
 simp only[go_sem];refine Cw (hY M F) (aB _ _ _) ⟨rfl,rfl⟩ (oY _) (by simp only[Xaa];omega) (fun k hk=>?_);simp only[go_sem];have I:=eF (e:=139) (sz:=2) (enc:=fO) (H:=aI (aI H i (some (bK ((qT x.net (jP x.types) x.types.length x.orders).map (kT ⟨#[111,114,100,101,114,115]⟩))))) j' none) (k:=k) (l:=es) (l':=(qT x.net (jP x.types) x.types.length x.orders).map (kT ⟨#[111,114,100,101,114,115]⟩)) rfl;generalize aI (aI (aI H i _) j' none) k _=H2 at I |-;clear F hk;refine aP U ?_;simp only[go_sem];refine NC.use (Ff ⟨#[114,117,108,101,115]⟩ _ (by decide) (by omega) fun f A=>Xai (Z f A) (by decide)) fun q Y=>?_
 simp only[go_sem];refine Cw (hY I Y) (aB _ _ _) ⟨rfl,rfl⟩ (oY _) (by simp only[Xaa,Xaf];omega) (fun m hm=>?_);simp only[go_sem];refine⟨m,rfl,?_⟩;rw[Dv,E];exact eF rfl
end Go.Proofs.YtgncgpcpbadfnaaGreatDoor
end
section
namespace Go.Aw.D
open Go.Aw Go.RowKit
def Sw(w:World):Sg:=⟨fun k=>k<w.heap.size,fun k=>k<w.heap.size,fun _=>.slice none 0 0,fun _=>1,0⟩
def J9(w:World):Prop:=∀t∈VV,rS w t.1=some t.2
theorem Od{w:World}{g:Nat}{cs:Array Value}(h:rS w g=some cs):g<w.heap.size:=by
 unfold rS at h;split at h
 ·rename_i h1;exact(Array.getElem?_eq_some_iff.1 h1).1
 ·cases h
theorem ajF(w:World)(E:J9 w):St (Sw w) w bS:=⟨fun _ h=>h,fun _ h=>h,fun k r A=>by simp[bS]at A,fun k r A=>by simp[bS]at A,fun k k' r r' A=>by simp[bS]at A,fun t h=>⟨Od (E t h),E t h⟩⟩
def iB(_:Nat)(x:Int):Prop:= -9223372036854775808<=x/\x<=9223372036854775807
def Gh(_:Nat)(_:Bool):Prop:=True
def Mn(n:Nat)(s:ByteArray):Prop:=s.size<=n
def bL{α:Type}(b:Nat->α->Prop)(n:Nat)(l:List α):Prop:=l.length<=n/\∀x∈l,b n x
def Rd{H:Type}(e:TypeId×Value->H)(B:DataW H->Nat)(P:Program)(w:World)(t:TypeId){α:Type}(enc:α->List AV)(b:Nat->α->Prop):Prop:=
 ∀fuel cs y,DataW.trod e P w 0 (fun _=>true) true fuel t cs=some y->∃x:α,(bC (Sw w) w (enc x) cs/\∀u∈cs,u.oneCell'=true)/\∀n,B y.1<=n->b n x
section
variable{H:Type}{e:TypeId×Value->H}{P:Program}{w:World}{t:TypeId}
abbrev BK(H:Type):DataW H->Nat:=Go.Proofs.YtgncgpcpbadfnaaGreatDoor.Rows.uptoBulk
theorem dA(F:P.underlying t=some (.int .i64)):Rd e (BK H) P w t aQ iB:=by intro A cs y h;obtain⟨n,rfl,_,E⟩:=DataW.trod_int F h;refine⟨n,⟨by simp only[aQ,bC];exact⟨_,_,rfl,by simp only[rep],rfl⟩,by simp[Value.oneCell']⟩,fun _ _=>bounds_i64 E⟩
theorem CL(E:P.underlying t=some .bool):Rd e (BK H) P w t eO Gh:=by intro A cs y h;obtain⟨n,rfl,_⟩:=DataW.trod_bool E h;refine⟨n,⟨by simp only[eO,bC];exact⟨_,_,rfl,by simp only[rep],rfl⟩,by simp[Value.oneCell']⟩,fun _ _=>trivial⟩
theorem K6(E:P.underlying t=some .string):Rd e (BK H) P w t dL Mn:=by intro A cs y h;obtain⟨s,rfl,rfl,_⟩:=DataW.trod_string E h;refine⟨s,⟨by simp only[dL,bC];exact⟨_,_,rfl,by simp only[rep],rfl⟩,by simp[Value.oneCell']⟩,fun n F=>?_⟩;simp only[BK,Go.Proofs.YtgncgpcpbadfnaaGreatDoor.Rows.uptoBulk,Array.length_toList]at F;have:s.size=s.data.size:=rfl;simp only[Mn];omega
theorem JK{d:DataW H}{l:List (DataW H)}(h:d∈l):BK H d<=Go.Proofs.YtgncgpcpbadfnaaGreatDoor.Rows.uptoBulkAll l:=by
 induction l with
 | nil=>cases h
 | cons x r ih=>
  simp only[Go.Proofs.YtgncgpcpbadfnaaGreatDoor.Rows.uptoBulkAll];cases List.mem_cons.1 h with
  | inl e=>subst e;simp only[BK];omega
  | inr e=>have:=ih e;omega
theorem ZT(d:DataW H):1<=BK H d:=by
 cases d with
 | lit l=>cases l <;> simp[BK,Go.Proofs.YtgncgpcpbadfnaaGreatDoor.Rows.uptoBulk]
 | nil=>simp[BK,Go.Proofs.YtgncgpcpbadfnaaGreatDoor.Rows.uptoBulk]
 | ptr d=>simp[BK,Go.Proofs.YtgncgpcpbadfnaaGreatDoor.Rows.uptoBulk]
 | slice elems spare=>simp[BK,Go.Proofs.YtgncgpcpbadfnaaGreatDoor.Rows.uptoBulk]
 | agg parts=>simp[BK,Go.Proofs.YtgncgpcpbadfnaaGreatDoor.Rows.uptoBulk]
 | iface t d=>simp[BK,Go.Proofs.YtgncgpcpbadfnaaGreatDoor.Rows.uptoBulk]
 | map entries=>simp[BK,Go.Proofs.YtgncgpcpbadfnaaGreatDoor.Rows.uptoBulk]
 | held h=>simp[BK,Go.Proofs.YtgncgpcpbadfnaaGreatDoor.Rows.uptoBulk]
theorem Nc(l:List (DataW H)):l.length<=Go.Proofs.YtgncgpcpbadfnaaGreatDoor.Rows.uptoBulkAll l:=by
 induction l with
 | nil=>simp[Go.Proofs.YtgncgpcpbadfnaaGreatDoor.Rows.uptoBulkAll]
 | cons x r ih=>have:=ZT x;simp only[Go.Proofs.YtgncgpcpbadfnaaGreatDoor.Rows.uptoBulkAll,List.length_cons,BK]at *;omega
theorem Mg{α:Type}(n:Nat)(p:Nat->α->Prop)(h:∀i,i<n->∃x,p i x):∃l:List α,l.length=n/\∀i x,l[i]?=some x->p i x:=by
 induction n with
 | zero=>exact⟨[],rfl,by simp⟩
 | succ n ih=>
  obtain⟨l,J,M⟩:=ih fun i F=>h i (by omega)
  obtain⟨x,I⟩:=h n (by omega);refine⟨l++[x],by simp[J],fun i y A=>?_⟩;rcases Nat.lt_or_ge i n with F|F
  ·rw[List.getElem?_append_left (by omega)]at A;exact M i y A
  ·rw[List.getElem?_append_right (by omega)]at A;have:i-l.length=0:=by
    rcases Nat.eq_zero_or_pos (i-l.length)with h0|h0
    ·exact h0
    ·rw[List.getElem?_eq_none (by simp;omega)]at A;simp at A
   rw[this]at A;have E:i=n:=by omega
   subst E;simp at A;subst A;exact I
theorem BX{S:Sg}{b sz:Nat}{α:Type}{enc:α->List AV}(A:∀x,(enc x).length=sz):∀(l:List α) (o:Nat),(∀i x,l[i]?=some x->cM S w b (o+i*sz) (enc x))->gI S w b sz o (l.map enc)
 | [],_,_=>by simp[gI]
 | x::r,o,h=>by
  simp only[List.map_cons,gI];refine⟨A x,by simpa using h 0 x rfl,BX A r (o+sz) fun i y E=>?_⟩;have:=h (i+1) y (by simpa using E)
  rwa [show o+(i+1)*sz=o+sz+i*sz by rw[Nat.add_mul];omega]at this
theorem CW{a:Addr}{n:Nat}{cs:List Value}(h:w.cells? 0 a n=some cs):cs.length=n/\∀j,j<n->w.cell? (a.add j)=cs[j]?:=by unfold World.cells? at h;rw[if_pos (Nat.zero_le _)]at h;have E:=mapM_some_length h;exact⟨by simpa using E,fun j A=>mapM_some_get h j j (by simp[A])⟩
theorem jI{α:Type}{enc:α->List AV}{b:Nat->α->Prop}{et:TypeId}{sz:Nat}(ht:P.underlying t=some (.slice et))(hc:P.cellsOf et=sz)(E:0<sz)(Y:∀x,(enc x).length=sz)(hr:Rd e (BK H) P w et enc b):
  Rd e (BK H) P w t (fun l:List α=>[.sl (l.map enc)]) (bL b):=by
 intro ai cs y h;rcases DataW.trod_slice ht h with⟨rfl,rfl⟩|⟨a,len,cap,A,rest,n,rfl,rfl,rfl,_,ac,U,ah,M,al,_⟩
 ·refine⟨[],⟨?_,by simp[Value.oneCell']⟩,fun n _=>⟨by simp,by simp⟩⟩;simp only[bC,rep,List.map_nil];exact⟨_,_,rfl,⟨none,0,0,rfl,rfl,Nat.le_refl _,Nat.zero_le _,by simp⟩,rfl⟩
 ·have hp : ∀ i, i < len -> ∃ x : α, ∃ z cs', A[i]? = some z /\ w.cells? 0 (a.add (i * sz)) sz = some cs' /\ (bC (Sw w) w (enc x) cs' /\ ∀ u ∈ cs', u.oneCell' = true) /\ ∀ n, BK H z.1 <= n -> b n x := fun i hi => by have hg:=M i hi;rw[List.getElem?_eq_getElem (by omega),hc,Option.bind_eq_some_iff]at hg;obtain⟨cs',h1,h2⟩:=hg;obtain⟨x,O,I⟩:=hr _ _ _ h2;exact⟨x,_,cs',List.getElem?_eq_getElem (by omega),h1,O,I⟩
  obtain⟨l,hl,J⟩:=Mg len _ hp;refine⟨l,⟨?_,by simp[Value.oneCell']⟩,fun m hm=>⟨?_,fun x O=>?_⟩⟩
  ·simp only[bC];refine⟨_,_,rfl,?_,rfl⟩;simp only[rep];refine⟨some a,len,cap,rfl,by simp[hl],ac,U,?_⟩;rcases Nat.eq_zero_or_pos len with h0|h0
   ·left;rw[List.eq_nil_of_length_eq_zero (hl.trans h0)];rfl
   ·right;have ag:=hp 0 h0;obtain⟨_,_,aj,_,T,_⟩:=ag;have q:=(CW T).2 0 E;have aa:=(CW T).1;rw[List.getElem?_eq_getElem (by omega)]at q;simp only[Nat.zero_mul,Addr.add,if_true]at q;have F:a.spot=none/\a.block<w.heap.size:=by
     unfold World.cell? at q;split at q
     ·rename_i c _ _ I;split at q
      ·simp at q
      ·rename_i Z;refine⟨by simpa using Z,?_⟩;rcases Nat.lt_or_ge a.block w.heap.size with h|h
       ·exact h
       ·rw[Array.getElem?_eq_none h]at I;simp at I
     ·simp at q
    obtain⟨ab,ao,ak⟩:=a;obtain⟨Z,X⟩:=F;simp only at Z X;subst Z;refine⟨ab,ao,sz,rfl,X,E,BX Y l ao fun i x O=>?_⟩;obtain⟨z,cs',_,ae,⟨h1,h2⟩,_⟩:=J i x O;refine iJ _ cs' _ h1 h2 fun j u hj=>?_
    obtain⟨e1,e2⟩:=CW ae;have af:j<sz:=by
     rcases Nat.lt_or_ge j sz with h|h
     ·exact h
     ·rw[List.getElem?_eq_none (by omega)]at hj;simp at hj
    have:=e2 j af;rw[hj,Addr.add_lit,Addr.add_lit]at this;exact this
  ·rw[hl,<-ah];have h1:=Nc (A.map (·.1));simp only[BK,Go.Proofs.YtgncgpcpbadfnaaGreatDoor.Rows.uptoBulk,List.length_map]at hm h1;omega
  ·obtain⟨i,hi⟩:=List.mem_iff_getElem?.1 O;obtain⟨z,cs',hz,_,_,I⟩:=J i x hi;refine I m ?_;have h1:=JK (List.mem_map_of_mem (f:=(·.1)) (List.mem_of_getElem? hz));simp only[BK,Go.Proofs.YtgncgpcpbadfnaaGreatDoor.Rows.uptoBulk]at hm h1 |-;omega
theorem fld{A o m:Nat}{cs:List Value}{z:DataW H×List MemPlace}(E:P.cellsOf t=m)(h:DataW.trod e P w 0 (fun _=>true) true A t ((cs.drop o).take (P.cellsOf t))=some z):DataW.trod e P w 0 (fun _=>true) true A t ((cs.drop o).take m)=some z:=E▸h
theorem Ak{S:Sg}{a b:List AV}{cs:List Value}{o m:Nat}(h:bC S w a ((cs.drop o).take m))(A:bC S w b (cs.drop (o+m))):bC S w (a++b) (cs.drop o):=by
 have:=cR a b _ _ h A
 rwa [<-List.drop_drop,List.take_append_drop]at this
theorem Mc{S:Sg}{cs:List Value}{o:Nat}(h:cs.length=o):bC S w [] (cs.drop o):=by rw[List.drop_eq_nil_of_le (by omega)];simp[bC]
theorem CO{cs:List Value}{o m:Nat}(h:∀u∈(cs.drop o).take m,u.oneCell'=true)(E:∀u∈cs.drop (o+m),u.oneCell'=true):∀u∈cs.drop o,u.oneCell'=true:=by
 intro u A;rw[<-List.take_append_drop m (cs.drop o),List.drop_drop]at A;rcases List.mem_append.1 A with A|A
 ·exact h u A
 ·exact E u A
theorem Ti{cs:List Value}{o:Nat}(h:cs.length=o):∀u∈cs.drop o,u.oneCell'=true:=by rw[List.drop_eq_nil_of_le (by omega)];simp
theorem Bw{xs:List (DataW H×List MemPlace)}{i:Nat}{z:DataW H×List MemPlace}(A:xs[i]?=some z){n:Nat}(h:BK H (.agg (xs.map (·.1)))<=n):BK H z.1<=n:=by have h1:=JK (List.mem_map_of_mem (f:=(·.1)) (List.mem_of_getElem? A));simp only[BK,Go.Proofs.YtgncgpcpbadfnaaGreatDoor.Rows.uptoBulk]at h h1 |-;omega
theorem Fl{α:Type}{xs:List α}{n i:Nat}(h:xs.length=n)(A:i<n):∃z,xs[i]?=some z:=⟨xs[i],List.getElem?_eq_getElem (by omega)⟩
def RdL(e:TypeId×Value->H)(P:Program)(w:World)(T:TypeId)(fs:Array Field)(i o:Nat){α:Type}(enc:α->List AV)(b:Nat->α->Prop):Prop:=
 ∀(n:Nat) (cs:List Value) (xs:List (DataW H×List MemPlace)),cs.length=P.cellsOf T->xs.length=fs.size ->
   (∀(j:Nat) (f:Field),fs[j]?=some f->DataW.trod e P w 0 (fun _=>true) true n f.type ((cs.drop f.offset).take (P.cellsOf f.type))=xs[j]?) ->
   ∃x:α,(bC (Sw w) w (enc x) (cs.drop o)/\∀u∈cs.drop o,u.oneCell'=true)/\∀m,BK H (.agg (xs.map (·.1)))<=m->b m x
theorem rdF{fs:Array Field}{i o:Nat}{t:TypeId}(m:Nat){α:Type}{enc:α->List AV}{b:Nat->α->Prop}(R:Rd e (BK H) P w t enc b)(I:(fs[i]?).map (fun f:Field=>(f.type,f.offset))=some (t,o))(T:P.cellsOf t=m)
  {n:Nat} {cs:List Value} {xs:List (DataW H×List MemPlace)} (U:xs.length=fs.size) (J:∀(j:Nat) (f:Field),fs[j]?=some f->DataW.trod e P w 0 (fun _=>true) true n f.type ((cs.drop f.offset).take (P.cellsOf f.type))=xs[j]?):
  ∃x:α,(bC (Sw w) w (enc x) ((cs.drop o).take m)/\∀u∈(cs.drop o).take m,u.oneCell'=true)/\∀m,BK H (.agg (xs.map (·.1)))<=m->b m x:=by
 obtain⟨f,A,E⟩:=Option.map_eq_some_iff.1 I;obtain⟨rfl,rfl⟩:=Prod.mk.inj E;obtain⟨z,F⟩:=Fl U (Array.getElem?_eq_some_iff.1 A).1;obtain⟨x,h,M⟩:=R n ((cs.drop f.offset).take m) z (fld T ((J i f A).trans F));exact⟨x,h,fun k O=>M k (Bw F O)⟩
theorem rdC{T:TypeId}{fs:Array Field}{i o:Nat}{t:TypeId}(m:Nat){α E:Type}{enc:α->List AV}{b:Nat->α->Prop}{A:E->List AV}{F:Nat->E->Prop}(R:Rd e (BK H) P w t enc b)(r:RdL e P w T fs (i+1) (o+m) A F)
  (Y:(fs[i]?).map (fun f:Field=>(f.type,f.offset))=some (t,o):=by rfl) (hm:P.cellsOf t=m:=by kernel_rfl):RdL e P w T fs i o (fun p:α×E=>enc p.1++A p.2) (fun n p=>b n p.1/\F n p.2):=fun n cs xs h1 M I=>by
 obtain⟨x,⟨Z,X⟩,U⟩:=rdF m R Y hm M I;obtain⟨y,⟨r2,O⟩,b2⟩:=r n cs xs h1 M I;exact⟨(x,y),⟨Ak Z r2,CO X O⟩,fun k J=>⟨U k J,b2 k J⟩⟩
theorem rdE{T:TypeId}{fs:Array Field}{i o:Nat}{t:TypeId}(m:Nat){α:Type}{enc:α->List AV}{b:Nat->α->Prop}(R:Rd e (BK H) P w t enc b)
  (F:(fs[i]?).map (fun f:Field=>(f.type,f.offset))=some (t,o):=by rfl) (O:P.cellsOf t=m:=by kernel_rfl) (A:P.cellsOf T=o+m:=by kernel_rfl):RdL e P w T fs i o enc b:=fun n cs xs h1 M I=>by
 obtain⟨x,⟨J,E⟩,U⟩:=rdF m R F O M I;refine⟨x,⟨?_,CO E (Ti (h1.trans A))⟩,U⟩;have:=Ak J (Mc (h1.trans A))
 rwa [List.append_nil]at this
theorem rdS{T:TypeId}{fs:Array Field}{α X:Type}{enc:α->List AV}{b:Nat->α->Prop}{A:X->List AV}{I:Nat->X->Prop}(O:P.underlying T=some (.struct fs))(r:RdL e P w T fs 0 0 enc b)(E:α->X)
  (Y:∀p,A (E p)=enc p) (hb:∀n p,b n p->I n (E p)):Rd e (BK H) P w T A I:=by
 intro J cs y h;obtain⟨xs,n,rfl,rfl,U,F,Z⟩:=DataW.trod_struct O h;obtain⟨x,⟨r1,M⟩,b1⟩:=r n cs xs U F Z;exact⟨E x,⟨by rw[Y];rwa [List.drop_zero]at r1,by rwa [List.drop_zero]at M⟩,fun m hm=>hb m x (b1 m hm)⟩
end
section
open Go.Proofs Go.Proofs.YtgncgpcpbadfnaaGreatDoor
variable{H:Type}{e:TypeId×Value->H}{w:World}
theorem abN:Rd e (BK H) Tryz.prog w 22 (fun l:List ByteArray=>[.sl (l.map dL)]) (bL Mn):=jI (sz:=1) Tryz.underlying22 (by kernel_rfl) (by omega) (fun _=>rfl) (K6 Tryz.underlying9)
def K0(n:Nat)(x:Point):Prop:=iB n x.t/\iB n x.a
theorem Yo:Rd e (BK H) Tryz.prog w 119 bV K0:=rdS Tryz.underlying119 (rdC 1 (dA Tryz.underlying3) (rdE 1 (dA Tryz.underlying3))) (fun(a,b)=>⟨a,b⟩) (fun _=>rfl) (fun _ (_,_) h=>h)
theorem Im:Rd e (BK H) Tryz.prog w 120 (fun l:List Point=>[.sl (l.map bV)]) (bL K0):=jI (sz:=2) Tryz.underlying120 (by kernel_rfl) (by omega) (fun _=>rfl) (Yo)
def agE(n:Nat)(x:Arc):Prop:=iB n x.src/\iB n x.dst/\iB n x.profile/\iB n x.miles/\(bL K0) n x.travel/\(bL K0) n x.slow
theorem ahF:Rd e (BK H) Tryz.prog w 122 eA agE:=rdS Tryz.underlying122 (rdC 1 (dA Tryz.underlying3) (rdC 1 (dA Tryz.underlying3) (rdC 1 (dA Tryz.underlying3) (rdC 1 (dA Tryz.underlying3) (rdC 1 Im (rdE 1 Im)))))) (fun(a,b,c,d,e,f)=>⟨a,b,c,d,e,f⟩) (fun _=>rfl) (fun _ (_,_,_,_,_,_) h=>h)
theorem adP:Rd e (BK H) Tryz.prog w 23 (fun l:List Arc=>[.sl (l.map eA)]) (bL agE):=jI (sz:=6) Tryz.underlying23 (by kernel_rfl) (by omega) (fun _=>rfl) (ahF)
def Ot(n:Nat)(x:Network):Prop:=(bL Mn) n x.places/\(bL agE) n x.arcs
theorem Sp:Rd e (BK H) Tryz.prog w 25 aY Ot:=rdS Tryz.underlying25 (rdC 1 abN (rdE 1 adP)) (fun(a,b)=>⟨a,b⟩) (fun _=>rfl) (fun _ (_,_) h=>h)
theorem KB:Rd e (BK H) Tryz.prog w 32 (fun l:List Int=>[.sl (l.map aQ)]) (bL iB):=jI (sz:=1) Tryz.underlying32 (by kernel_rfl) (by omega) (fun _=>rfl) (dA Tryz.underlying3)
def Qv(n:Nat)(x:VType):Prop:=Mn n x.name/\iB n x.count/\iB n x.src/\iB n x.dst/\(bL iB) n x.cap/\iB n x.skills/\iB n x.profile/\iB n x.start/\iB n x.close/\iB n x.drive/\iB n x.rest/\iB n x.fixed/\iB n x.perMile/\iB n x.perTick
theorem Yr:Rd e (BK H) Tryz.prog w 124 aZ Qv:=rdS Tryz.underlying124 (rdC 1 (K6 Tryz.underlying9) (rdC 1 (dA Tryz.underlying3) (rdC 1 (dA Tryz.underlying3) (rdC 1 (dA Tryz.underlying3) (rdC 1 KB (rdC 1 (dA Tryz.underlying3) (rdC 1 (dA Tryz.underlying3) (rdC 1 (dA Tryz.underlying3) (rdC 1 (dA Tryz.underlying3) (rdC 1 (dA Tryz.underlying3) (rdC 1 (dA Tryz.underlying3) (rdC 1 (dA Tryz.underlying3) (rdC 1 (dA Tryz.underlying3) (rdE 1 (dA Tryz.underlying3))))))))))))))) (fun(a,b,c,d,e,f,g,h,i,j,k,l,m,n)=>⟨a,b,c,d,e,f,g,h,i,j,k,l,m,n⟩) (fun _=>rfl) (fun _ (_,_,_,_,_,_,_,_,_,_,_,_,_,_) h=>h)
theorem V3:Rd e (BK H) Tryz.prog w 26 (fun l:List VType=>[.sl (l.map aZ)]) (bL Qv):=jI (sz:=14) Tryz.underlying26 (by kernel_rfl) (by omega) (fun _=>rfl) (Yr)
def Yx(n:Nat)(x:Stop):Prop:=iB n x.place/\iB n x.start/\iB n x.close/\iB n x.service
theorem T7:Rd e (BK H) Tryz.prog w 79 dQ Yx:=rdS Tryz.underlying79 (rdC 1 (dA Tryz.underlying3) (rdC 1 (dA Tryz.underlying3) (rdC 1 (dA Tryz.underlying3) (rdE 1 (dA Tryz.underlying3))))) (fun(a,b,c,d)=>⟨a,b,c,d⟩) (fun _=>rfl) (fun _ (_,_,_,_) h=>h)
def Ru(n:Nat)(x:Order):Prop:=Mn n x.name/\(bL iB) n x.load/\Yx n x.pick/\Yx n x.drop/\iB n x.skills/\iB n x.penalty/\iB n x.split/\iB n x.last/\iB n x.now/\Gh n x.off
theorem XL:Rd e (BK H) Tryz.prog w 81 aW Ru:=rdS Tryz.underlying81 (rdC 1 (K6 Tryz.underlying9) (rdC 1 KB (rdC 4 T7 (rdC 4 T7 (rdC 1 (dA Tryz.underlying3) (rdC 1 (dA Tryz.underlying3) (rdC 1 (dA Tryz.underlying3) (rdC 1 (dA Tryz.underlying3) (rdC 1 (dA Tryz.underlying3) (rdE 1 (CL Tryz.underlying4))))))))))) (fun(a,b,c,d,e,f,g,h,i,j)=>⟨a,b,c,d,e,f,g,h,i,j⟩) (fun _=>rfl) (fun _ (_,_,_,_,_,_,_,_,_,_) h=>h)
theorem Ww:Rd e (BK H) Tryz.prog w 27 (fun l:List Order=>[.sl (l.map aW)]) (bL Ru):=jI (sz:=16) Tryz.underlying27 (by kernel_rfl) (by omega) (fun _=>rfl) (XL)
def TD(n:Nat)(x:Pair):Prop:=iB n x.a/\iB n x.b
theorem aaE:Rd e (BK H) Tryz.prog w 101 cN TD:=by
 intro M cs y h;obtain⟨xs,n,rfl,rfl,I,E,J⟩:=DataW.trod_array Tryz.underlying101 h;have I:cs.length=2:=I.trans (by kernel_rfl);obtain⟨z0,A⟩:=Fl E (show 0<2 by omega);obtain⟨x0,⟨Y,U⟩,b0⟩:=(dA Tryz.underlying3:Rd e (BK H) Tryz.prog w 3 _ _) n ((cs.drop 0).take 1) z0 (fld (t:=3) (o:=0) (m:=1) (by kernel_rfl) ((J 0 (by omega)).trans A));obtain⟨X,F⟩:=Fl E (show 1<2 by omega);obtain⟨Z,⟨r1,T⟩,b1⟩:=(dA Tryz.underlying3:Rd e (BK H) Tryz.prog w 3 _ _) n ((cs.drop 1).take 1) X (fld (t:=3) (o:=1) (m:=1) (by kernel_rfl) ((J 1 (by omega)).trans F));refine⟨⟨x0,Z⟩,⟨?_,?_⟩,fun m O=>⟨b0 m (Bw A O),b1 m (Bw F O)⟩⟩
 ·have:=Ak (o:=0) (m:=1) Y (Ak (o:=1) (m:=1) r1 (Mc (by omega)));rw[List.drop_zero]at this;exact this
 ·have:=CO (o:=0) (m:=1) U (CO (o:=1) (m:=1) T (Ti (by omega)));rw[List.drop_zero]at this;exact this
theorem L7:Rd e (BK H) Tryz.prog w 28 (fun l:List Pair=>[.sl (l.map cN)]) (bL TD):=jI (sz:=2) Tryz.underlying28 (by kernel_rfl) (by omega) (fun _=>rfl) (aaE)
def rA(n:Nat)(x:Instance):Prop:=Ot n x.net/\(bL Qv) n x.types/\(bL Ru) n x.orders/\(bL TD) n x.apart/\(bL TD) n x.before
theorem NG:Rd e (BK H) Tryz.prog w 30 aE rA:=rdS Tryz.underlying30 (rdC 2 Sp (rdC 1 V3 (rdC 1 Ww (rdC 1 L7 (rdE 1 L7))))) (fun(a,b,c,d,e)=>⟨a,b,c,d,e⟩) (fun _=>rfl) (fun _ (_,_,_,_,_) h=>h)
theorem XI:Rd e (BK H) Tryz.prog w 62 (fun l:List Bool=>[.sl (l.map eO)]) (bL Gh):=jI (sz:=1) Tryz.underlying62 (by kernel_rfl) (by omega) (fun _=>rfl) (CL Tryz.underlying4)
def OW(n:Nat)(x:Visit):Prop:=iB n x.order/\Gh n x.drop
theorem Xf:Rd e (BK H) Tryz.prog w 126 aL OW:=rdS Tryz.underlying126 (rdC 1 (dA Tryz.underlying3) (rdE 1 (CL Tryz.underlying4))) (fun(a,b)=>⟨a,b⟩) (fun _=>rfl) (fun _ (_,_) h=>h)
theorem Wh:Rd e (BK H) Tryz.prog w 63 (fun l:List Visit=>[.sl (l.map aL)]) (bL OW):=jI (sz:=2) Tryz.underlying63 (by kernel_rfl) (by omega) (fun _=>rfl) (Xf)
def QX(n:Nat)(x:Route):Prop:=iB n x.type/\iB n x.start/\(bL Gh) n x.rests/\(bL OW) n x.visits
theorem Yb:Rd e (BK H) Tryz.prog w 65 bI QX:=rdS Tryz.underlying65 (rdC 1 (dA Tryz.underlying3) (rdC 1 (dA Tryz.underlying3) (rdC 1 XI (rdE 1 Wh)))) (fun(a,b,c,d)=>⟨a,b,c,d⟩) (fun _=>rfl) (fun _ (_,_,_,_) h=>h)
theorem Wc:Rd e (BK H) Tryz.prog w 31 (fun l:List Route=>[.sl (l.map bI)]) (bL QX):=jI (sz:=4) Tryz.underlying31 (by kernel_rfl) (by omega) (fun _=>rfl) (Yb)
def TK(n:Nat)(x:Plan):Prop:=(bL QX) n x.routes/\(bL iB) n x.unserved
theorem SB:Rd e (BK H) Tryz.prog w 34 gA TK:=rdS Tryz.underlying34 (rdC 1 Wc (rdE 1 KB)) (fun(a,b)=>⟨a,b⟩) (fun _=>rfl) (fun _ (_,_) h=>h)
def ahC(n:Nat)(x:Cut):Prop:=iB n x.kind/\iB n x.set/\iB n x.n
theorem agT:Rd e (BK H) Tryz.prog w 105 eP ahC:=rdS Tryz.underlying105 (rdC 1 (dA Tryz.underlying3) (rdC 1 (dA Tryz.underlying3) (rdE 1 (dA Tryz.underlying3)))) (fun(a,b,c)=>⟨a,b,c⟩) (fun _=>rfl) (fun _ (_,_,_) h=>h)
theorem acX:Rd e (BK H) Tryz.prog w 55 (fun l:List Cut=>[.sl (l.map eP)]) (bL ahC):=jI (sz:=3) Tryz.underlying55 (by kernel_rfl) (by omega) (fun _=>rfl) (agT)
theorem adC:Rd e (BK H) Tryz.prog w 56 (fun l:List ByteArray=>[.sl (l.map dL)]) (bL Mn):=jI (sz:=1) Tryz.underlying56 (by kernel_rfl) (by omega) (fun _=>rfl) (K6 Tryz.underlying77)
def Jn(n:Nat)(x:Decision):Prop:=iB n x.kind/\iB n x.a/\iB n x.b/\iB n x.n
theorem MA:Rd e (BK H) Tryz.prog w 58 aO Jn:=rdS Tryz.underlying58 (rdC 1 (dA Tryz.underlying3) (rdC 1 (dA Tryz.underlying3) (rdC 1 (dA Tryz.underlying3) (rdE 1 (dA Tryz.underlying3))))) (fun(a,b,c,d)=>⟨a,b,c,d⟩) (fun _=>rfl) (fun _ (_,_,_,_) h=>h)
def PT(n:Nat)(x:TNode):Prop:=Gh n x.leaf/\iB n x.kind/\(bL ahC) n x.cuts/\(bL Mn) n x.dual/\Jn n x.choice/\iB n x.yes/\iB n x.no
theorem Z6:Rd e (BK H) Tryz.prog w 60 bO PT:=rdS Tryz.underlying60 (rdC 1 (CL Tryz.underlying4) (rdC 1 (dA Tryz.underlying3) (rdC 1 acX (rdC 1 adC (rdC 4 MA (rdC 1 (dA Tryz.underlying3) (rdE 1 (dA Tryz.underlying3)))))))) (fun(a,b,c,d,e,f,g)=>⟨a,b,c,d,e,f,g⟩) (fun _=>rfl) (fun _ (_,_,_,_,_,_,_) h=>h)
theorem Wa:Rd e (BK H) Tryz.prog w 35 (fun l:List TNode=>[.sl (l.map bO)]) (bL PT):=jI (sz:=10) Tryz.underlying35 (by kernel_rfl) (by omega) (fun _=>rfl) (Z6)
def G6(n:Nat)(x:Proof):Prop:=Gh n x.noPlan/\TK n x.plan/\(bL PT) n x.nodes
theorem Ye:Rd e (BK H) Tryz.prog w 37 dI G6:=rdS Tryz.underlying37 (rdC 1 (CL Tryz.underlying4) (rdC 2 SB (rdE 1 Wa))) (fun(a,b,c)=>⟨a,b,c⟩) (fun _=>rfl) (fun _ (_,_,_) h=>h)
end
end Go.Aw.D
end
section
namespace Go.Proofs.YtgncgpcpbadfnaaGreatDoor
open Go.Aw Go.Aw.D Go.Proofs Go.RowKit Go.ChangeShapes Go.WideShapes Go.ChangeAt
section
variable{H:Type}{e:TypeId×Value->H}{P:Program}{W W':World}
theorem N2{f:FuncId}{args:List AV}{vals:List Value}(h:PC P f args (.v (.bool true)))(J:J9 W)(O:bC (Sw W) W args vals):
  Calls P f vals.toArray W fun E W'=>E=.returned (.bool true)/\Below W.heap.size W W':=
 (h (Sw W) W vals (ajF W J) (fun _ h=>h) O).mono fun E W' ⟨v,r,H',S',M,I,_,F,A,_⟩=>by subst I;simp only[rep]at F;subst F;exact⟨M,A.os,A.tape,A.output,A.size,A.same⟩
theorem Cc(M:laidOutB P=true)(J:Below W.heap.size W W'):∀{E:List TypeId} {vs:List Value} {ds:List (DataW H)} {ps:List MemPlace},(∀t∈E,P.readableRec t=true/\t<P.types.size) ->
  DataW.TrodAll e P W 0 (fun _=>true) true E vs ds ps->(∀x∈ps,x.block<W.heap.size)->∀F:Nat->Bool,(∀x∈ps,F x.block=true)->DataW.TrodAll e P W' 0 F true E vs ds ps
 | [],[],[],_,_,h,_,_,_=>h
 | t::E,v::vs,d::ds,ps,ht,⟨p,q,h1,h2,he⟩,hlt,F,hs=>by
  subst he;have h0:=ht t (by simp);exact⟨p,q,WideElems.Trod_stays M h0.1 h0.2 h1 (fun x A=>J.same (hlt x (by simp[A]))) (fun x A=>hs x (by simp[A])),
   Cc M J (fun t I=>ht t (by simp[I])) h2 (fun x A=>hlt x (by simp[A])) F (fun x A=>hs x (by simp[A])),rfl⟩
theorem BJ{t:TypeId}{fs:Array Field}{α:Type}{enc:α->List AV}{b:Nat->α->Prop}{r:Reach}{M:Nat}{v:Value}{d:DataW H}{I:List MemPlace}(J:P.underlying t=some (.struct fs))
  (F:Rd e (BK H) P W t enc b) (A:Value.okWide P W r M t v) (O:DataW.Trod e P W 0 (fun _=>true) true t v d I):∃x:α,rep (Sw W) W (.agg (enc x)) v/\∀n,BK H d<=n->b n x:=by
 obtain⟨cs,rfl,_⟩:=okWide_struct J A;obtain⟨E,h⟩:=O;obtain⟨x,⟨h1,U⟩,T⟩:=F E _ _ h;refine⟨x,?_,T⟩;simp only[rep];exact⟨cs.toList,by simp,h1,U⟩
theorem Wu{fn:Func}{s:ChangeSpec}{args:Array Value}{ds gs:List (DataW H)}{before:List MemPlace}(hl:laidOutB P=true)(Y:∀t∈fn.params.toList,P.readableRec t=true/\t<P.types.size)
  (A:s.vars=[]) {tb:TypeId} (X:P.underlying tb=some .bool) (O:fn.resultTypes=#[tb]) (hW:DataW.Whole e P fn.params.toList s.vars false W args.toList ds gs before)
  (M:(s.fn H (ds++gs)).results=[.lit (.bool true)]) (I:(s.fn H (ds++gs)).args=ds) (aa:(s.fn H (ds++gs)).vars=[]) (hb:Below W.heap.size W W'):
  s.post e P fn false true false false W args (.bool true) W':=by
 have J:=hW.lt;have Z:=hW;obtain⟨p,q,hA,hV,rfl,ab,ae⟩:=hW;rw[A]at hV;obtain⟨rfl,rfl⟩:=trodVars_none hV;have hk:W.keptBut W' (·∈p++[]):=hb.frame _;have U:∀x∈p++[],(fun b=>decide (b<W.heap.size)) x.block=true:=fun x E=>by simpa using J x E
 have r1:∀(b:Nat) (F:Nat->Bool) (hd:Bool),DataW.TrodAll e P W' b F hd fn.resultTypes.toList ((Value.bool true).resultList fn.resultTypes.size) (s.fn H (ds++[])).results []:=fun b F hd=>by rw[O,M];exact trodAll_cons_mk (shut_bool X _) trodAll_mk0
 have r2:∀F:Nat->Bool,(∀x∈p++[],F x.block=true)->DataW.TrodAll e P W' 0 F true fn.params.toList args.toList (s.fn H (ds++[])).args p:=fun F ac=>by rw[I];exact Cc hl hb Y hA (fun x E=>J x (by simp[E])) F (fun x E=>ac x (by simp[E]))
 have r3:∀F:Nat->Bool,DataW.TrodVars e P W' F s.vars (s.fn H (ds++[])).vars []:=fun F=>by rw[A,aa];simp[DataW.TrodVars]
 refine⟨ds,[],p++[],[],p,[],Z,r1 _ _ _,r2 _ U,r3 _,World.keptBut_mono (fun x E=>⟨E,.inr (by simpa using E)⟩) hk,fun _=>?_⟩;refine⟨?_,_,_,([]++p)++[],⟨[]++p,[],trodAll_append (r2 _ (fun _ _=>rfl)) (r1 _ _ _),r3 _,rfl,?_,?_⟩,?_⟩
 ·exact ok_one O rfl (okWide_bool_mk X _)
 ·intro b off hp;have T:MemPlace.cell b off∈p++[]:=by simpa using hp
  rw[hb.frozen (J _ T)];exact ab b off T
 ·intro ha;simp at ha
 ·intro x E _;simpa using E
end
end Go.Proofs.YtgncgpcpbadfnaaGreatDoor
end
section
namespace Go.Proofs.YtgncgpcpbadfnaaGreatDoor
def cD(n N:Int):Bool:=decide (n<0)||decide (n>=N)
end Go.Proofs.YtgncgpcpbadfnaaGreatDoor
namespace Go.Proofs.YtgncgpcpbadfnaaGreatDoor.Mv
open Go.Aw Go.Aw.D Go.Proofs Ty
def bZ{H:aH}{k:IntKind}{a b:Int}(h:a=b):Conv H (.v (.int k a)) (.v (.int k b)):=h▸.refl _
def cK{H:aH}{a b:Bool}(h:a=b):Conv H (.v (.bool a)) (.v (.bool b)):=h▸.refl _
abbrev eL(l:List Int):Row:=⟨3,1,l.map aQ⟩
def XX{n:Int}(h:0<=n/\n<18446744073709551616):IntKind.u64.wrap n=n:=by have e:IntKind.u64.wrap n=n%18446744073709551616:=rfl;rw[e];omega
def aS{α:Type}{p:α->Prop}{l:List α}{k:Nat}{x:α}(F:l[k]?=some x)(E:p x)(h:∀x∈l.take k,p x):∀x∈l.take (k+1),p x:=by
 rw[bE F];intro y A;rcases Xat.1 A with A|A
 ·exact h y A
 ·simp at A;subst A;exact E
end Go.Proofs.YtgncgpcpbadfnaaGreatDoor.Mv
end
section
namespace Go.Proofs.YtgncgpcpbadfnaaGreatDoor.Sq
open Go.Aw Go.Aw.D Go.Proofs Ty
open Mv (bZ cK aS)
def X3(s i:Int):Bool:=decide (s>=0)&&decide (i>=0)&&decide (i<=62)&&((shV .shr .i64 s (IntKind.u64.wrap i)).tmod 2 == 1)
def acU(s n:Int):Int:=if X3 s n=true then s else IntKind.i64.wrap (s+shV .shl .i64 1 (IntKind.u64.wrap n))
def Ht(v:Visit):Bool:=decide (v.order<0)||decide (v.order>62)
def aeM(l:List Visit):Int:=l.foldl (fun s v=>acU s v.order) 0
def nQ(l:List Visit):Int×Int:=if l.any Ht=true then(0,2)else(aeM l,0)
def G4(v u:Visit):Bool:=u.order == v.order&&(u.drop == v.drop&&true)
def qY{α:Type}(p:α->Bool):List α->Int->Int
 | [],_=> -1
 | x::r,n=>if p x=true then n else qY p r (n+1)
def pN{α:Type}{p:α->Bool}{l:List α}{k:Nat}{x:α}(h:∀y∈l.take k,p y=false)(A:l[k]?=some x)(F:p x=true):∀n,qY p l n=n+k:=by
 induction l generalizing k with
 | nil=>simp at A
 | cons a r ih=>
  intro n;cases k with
  | zero=>simp at A;subst A;simp only[qY];rw[if_pos F];simp
  | succ k=>have h0:=h a (by simp);simp only[qY];rw[if_neg (by rw[h0];simp),ih (k:=k) (fun y E=>h y (by simp[E])) (by simpa using A)];omega
def mY{α:Type}{p:α->Bool}{l:List α}(h:∀y∈l,p y=false):∀n,qY p l n= -1:=by
 induction l with
 | nil=>intro n;rfl
 | cons a r ih=>intro n;simp only[qY];rw[if_neg (by rw[h a (by simp)];simp)];exact ih (fun y A=>h y (by simp[A])) _
def fD(l:List Visit)(v:Visit):Int:=qY (G4 v) l 0
def O6(l s:List Visit):Bool:=s.all fun v=> !decide (fD l v<0)
def B6(l vs:List Visit)(v:Visit):Bool:=decide (fD vs v<0)|| !O6 l vs||((vs.length:Int) == 2&&decide (fD l (vs.getD 0 ⟨0,false⟩)>fD l (vs.getD 1 ⟨0,false⟩)))
def mI(l:List Visit)(j:Nat):Int:=(l.getD j ⟨0,false⟩).order
def uJ{l:List Visit}{j:Nat}{v:Visit}(h:l[j]?=some v):mI l j=v.order:=by simp[mI,List.getD,h]
def Ow(x:Instance)(i:Int):Bool:=match x.orders[i.toNat]? with|some o=>o.off|none=>false
def Db{α:Type}{p:α->Bool}{l:List α}(h:∀x∈l,p x=false):l.any p=false:=by rw[Xax];intro x A;rw[h x A];simp
def kV(a c:List Int):Bool:=((a.length:Int) == (c.length:Int))&&(List.range a.length).all fun i=> !decide (a.getD i 0>c.getD i 0)
def lO(x:Instance):Int:=match x.types[0]? with|some t=>t.cap.length|none=>0
def sX(l:List Int):List AV:=[.sl (l.map aQ)]
end Go.Proofs.YtgncgpcpbadfnaaGreatDoor.Sq
end
section
namespace Go.Proofs.YtgncgpcpbadfnaaGreatDoor.Sq
open Go.Aw Go.Aw.D Go.Proofs Ty
open Mv (bZ cK aS)
open Mv (bZ cK aS)
abbrev ajX(ll:List (List Int)):Row:=⟨32,1,ll.map sX⟩
def LQ(x:Instance)(t:Int):List Int:=match x.types[t.toNat]? with|some t=>t.cap|none=>[]
def Lb(n:Network)(i:Int):Bool:=decide (i>=0)&&decide (i<(n.places.length:Int))
def Cq:Arc:=⟨0,0,0,0,[],[]⟩
def Ma(p f t:Int)(a:Arc):Bool:=a.src == f&&a.dst == t&&a.profile == p
def zT(n:Network)(p f t:Int):Option Arc:=n.arcs.find? (Ma p f t)
def NK{α:Type}{p:α->Bool}{l:List α}{k:Nat}{x:α}(h:∀y∈l.take k,p y=false)(A:l[k]?=some x)(F:p x=true):l.find? p=some x:=by
 induction l generalizing k with
 | nil=>simp at A
 | cons a r ih=>
  cases k with
  | zero=>simp at A;subst A;simp[List.find?,F]
  | succ k=>have h0:=h a (by simp);rw[List.find?_cons,h0];exact ih (k:=k) (fun y E=>h y (by simp[E])) (by simpa using A)
def Jy{α:Type}{p:α->Bool}{l:List α}(h:∀y∈l,p y=false):l.find? p=none:=List.find?_eq_none.2 fun y A=>by rw[h y A];simp
def W(n:Int):Int:=IntKind.i64.wrap n
def qB(l:List Point)(t:Int)(k:Nat):Bool:=decide ((dM l k).t<=t)&&decide (t<(dM l (k+1)).t)
def Sk(p q:Point)(t:Int):Int:=W (p.a+IntKind.i64.wrap (Int.tdiv (W (W (W (W (W (t-p.t)*W (q.a-p.a))+q.t)-p.t)-1)) (W (q.t-p.t))))
def BV(e:Point)(t:Int):Int:=W (W (t+e.a)-e.t)
def Dy(l:List Point)(t:Int):Bool:=decide (((jD l).length:Int)>0)||decide (t<0)||decide (t>1073741824)
def nU(l:List Point)(t:Int):Int:=
 if Dy l t=true then 0 else match (List.range (l.length-1)).find? (qB l t)with
 | some k=>Sk (dM l k) (dM l (k+1)) t
 | none=>if decide (t>(dM l 0).t)=true then BV (dM l (l.length-1)) t else BV (dM l 0) t
def acH{n:Int}(h:0<n/\n<18446744073709551616):¬IntKind.i64.wrap n=0:=by
 show ¬(if(true&&decide (n%18446744073709551616>=9223372036854775808))=true then n%18446744073709551616-18446744073709551616 else n%18446744073709551616)=0;by_cases h1:n%18446744073709551616>=9223372036854775808
 ·rw[if_pos (by simpa using h1)];omega
 ·rw[if_neg (by simpa using h1)];omega
end Go.Proofs.YtgncgpcpbadfnaaGreatDoor.Sq
end
section
namespace Go.Proofs.YtgncgpcpbadfnaaGreatDoor.Sq
open Go.Aw Go.Aw.D Go.Proofs Ty
open Mv (bZ cK aS)
def DO(t:Int)(s:Int)(p:Point):Int:=if decide (p.t<=t)=true then W (s+p.a)else s
def Gg(a:Arc)(t:Int):Int:=a.slow.foldl (DO t) (nU a.travel t)
def jO(n:Network)(p f t time:Int):Int×Int×Int:=
 if(!Lb n f|| !Lb n t)=true then(0,0,11)else if(f == t)=true then(time,0,0)
 else match zT n p f t with|some a=>(Gg a time,a.miles,0)|none=>(0,0,12)
structure Score where
 cost:Int
 moved:Int
 other:Int
 work:Int
def bD(s:Score):List AV:=[int s.cost,int s.moved,int s.other,int s.work]
def uV(a b:Score):Score:=⟨W (a.cost+b.cost),W (a.moved+b.moved),W (a.other+b.other),W (a.work+b.work)⟩
def vO(l:List Visit)(n:Nat):Bool:=(List.range n).all fun i=> !(mI l i == mI l n)
def bJ:Score:=⟨0,0,0,0⟩
def eT(o:Order):Score×Int:=if o.off=true then(bJ,9)else if(o.penalty == -1)=true then(bJ,23)else(⟨o.penalty,if(o.now != -1)=true then 1 else 0,0,0⟩,0)
def cE(x:Instance)(k:Int):Score×Int:=if cD k x.orders.length=true then(bJ,2)else match x.orders[k.toNat]? with|some o=>eT o|none=>(bJ,2)
def kI:Stop:=⟨0,0,0,0⟩
def xT(o:Order)(v:Visit):Stop:=if v.drop=true then o.drop else o.pick
def jL(x:Instance)(v:Visit):Stop×Bool:=if cD v.order x.orders.length=true then(kI,false)else
 match x.orders[v.order.toNat]? with
 | some o=>(xT o v,decide ((xT o v).place>=0))
 | none=>(kI,false)
def fW(x:Instance)(r:Route):Bool:=
 !(cD r.type x.types.length||decide (r.start<0)||decide (r.start>4096)||decide ((r.visits.length:Int)>20))&&r.visits.all fun v=>(jL x v).2
structure Tm where
 arrive:Int
 begin_:Int
 depart:Int
 rest:Bool
def sE(t:Tm):List AV:=[int t.arrive,int t.begin_,int t.depart,boo t.rest]
def Ws(s:Tm):(sE s).length=4:=(rfl)
def Wm(s:Tm):(sE s).take 4=sE s:=(rfl)
attribute [go_sem] Ws Wm
structure Sheet where
 rest:Bool
 depart:Int
 times:List Tm
 end_:Int
 miles:Int
def bY(s:Sheet):List AV:=[boo s.rest,int s.depart,.sl (s.times.map sE),int s.end_,int s.miles]
def cF:Sheet:=⟨false,0,[],0,0⟩
def AQ{x:Instance}{r:Route}(h:fW x r=true):0<=r.type/\r.type<(x.types.length:Int):=by unfold fW at h;simp only[Xam,Xbk,Xah,cD,decide_eq_false_iff_not]at h;omega
def aeT{H:aH}{i j:Nat}{r:Row}{a b:Option Row}(A:H i=some r)(E:H j=none):aI (aI H j a) j b i=some r:=by have h1:=aR A E;rw[aD _ _ _ _ h1,aD _ _ _ _ h1,A]
def aeV{H:aH}{i j:Nat}{r:Row}{b:Option Row}(A:H i=some r)(h1:i≠j):aI H j b i=some r:=by rw[aD _ _ _ _ h1,A]
def X1{H:aH}{i j:Nat}{r r':Row}(E:H i=some r)(A:H j=some r')(h:(r.e == r'.e)=false):i≠j:=fun e=>by subst e;rw[E]at A;injection A with A;rw[A]at h;simp at h
abbrev Ai(s:Stop):Row:=⟨79,4,[dQ s]⟩
abbrev DW(l:List Tm):Row:=⟨303,4,l.map sE⟩
abbrev vY(l:List Int):Row:=⟨3,1,l.map aQ⟩
abbrev fQ(cs:List AV):Row:=⟨129,5,[cs]⟩
abbrev zeroCells:List AV:=[boo false,int 0,.sl [],int 0,int 0]
abbrev abT(l:List Bool):Row:=⟨4,1,l.map eO⟩
def Dd(r:Route):List Bool:=r.rests++List.replicate (r.visits.length+1-r.rests.length) false
def eK(s:Sheet):(bY s).length=5:=(rfl)
def BA(s:Sheet):(bY s).getD 3 .any=int s.end_:=(rfl)
def Ba(s:Sheet):(bY s).getD 4 .any=int s.miles:=(rfl)
def vW(s:Sheet):(bY s).take 5=bY s:=(rfl)
attribute [go_sem] BA Ba vW
def Qb{a:List Bool}{n:Nat}(h:a.length<=n):((List.replicate n [boo false]).take 0++(a.map eO).take (min (a.map eO).length (List.replicate n [boo false]).length))++(List.replicate n [boo false]).drop (0+min (a.map eO).length (List.replicate n [boo false]).length)=(a++List.replicate (n-a.length) false).map eO:=by
 have e:min (a.map eO).length (List.replicate n [boo false]).length=a.length:=by simp;omega
 rw[e,List.take_zero,Xbl,Nat.zero_add,Xaq (by simp),List.drop_replicate,Xan,List.map_replicate];rfl
def cC(s:Score):(bD s).length=4:=(rfl)
def wF(s:Score):(bD s).getD 0 .any=int s.cost:=(rfl)
def vV(s:Score):(bD s).getD 1 .any=int s.moved:=(rfl)
def vZ(s:Score):(bD s).getD 2 .any=int s.other:=(rfl)
def xG(s:Score):(bD s).getD 3 .any=int s.work:=(rfl)
def qL(s:Score):(bD s).take 4=bD s:=(rfl)
attribute [go_sem] eK cC wF vV vZ xG qL
abbrev mZ(s:Score):Row:=⟨83,4,[bD s]⟩
def Pc(o:Order)(t:Int):Bool:=o.now != -1&&o.now != t
def Qk(o:Order)(t:Int):Bool:=o.last != -1&&o.last != t
def Hk(o:Order)(t:Int)(a:Score):Score:=if Pc o t=true then⟨a.cost,W (a.moved+1),a.other,a.work⟩else a
def FO(o:Order)(t:Int)(a:Score):Score:=if Qk o t=true then⟨a.cost,a.moved,W (a.other+1),a.work⟩else a
def kR(x:Instance)(r:Route)(a:Score)(i:Nat):Score:=
 if(cD (mI r.visits i) x.orders.length|| !vO r.visits i)=true then a
 else match x.orders[(mI r.visits i).toNat]? with
 | some o=>FO o r.type (Hk o r.type a)
 | none=>a
def DD(t:VType)(s:Sheet):Score:=
 ⟨W (W (t.fixed+W (t.perMile*s.miles))+W (t.perTick*W (s.end_-t.start))),0,0,
   W (W (Int.tdiv (W (s.end_-t.start)) 64)*W (Int.tdiv (W (s.end_-t.start)) 64))⟩
def YK(x:Instance)(r:Route)(s:Sheet)(t:VType):Score:=(List.range r.visits.length).foldl (kR x r) (DD t s)
def tB(x:Instance)(r:Route)(s:Sheet):Score:=
 if cD r.type x.types.length=true then bJ else match x.types[r.type.toNat]? with
 | some t=>YK x r s t
 | none=>bJ
structure PlanB(p:Plan):Prop where
 routes:p.routes.length<=1048576
 visits:∀r∈p.routes,r.visits.length<=1048576
 unserved:p.unserved.length<=1048576
def Bb{P:Program}{C:kY}{PC:FuncId->List AV->aH->AV->Prop}{mt:Nat->Bool}{ops:Array Oper}{K:Env->aH->Prop}{m:Nat}{ρ:Env}{H:aH}(J:Env->aH->Prop)(h1:∀ρ H,J ρ H->K ρ H)
 (A:∀K':Env->aH->Prop,(∀ρ H,J ρ H->K' ρ H)->tQ P C PC mt ops K' m ρ H):tQ P C PC mt ops K m ρ H:=A K h1
end Go.Proofs.YtgncgpcpbadfnaaGreatDoor.Sq
end
section
namespace Go.Proofs.YtgncgpcpbadfnaaGreatDoor.Sq
open Go.Proofs.Tryz
open Go.Aw Go.Aw.D Go.Proofs Ty
open Mv (bZ cK aS)
def pJ{α:Type}{p:α->Bool}:∀(l:List α) (n:Int),0<=n->decide (qY p l n>=0)=l.any p
 | [],n,_=>rfl
 | a::r,n,hn=>by
  have ih:=pJ (p:=p) r (n+1) (by omega);rw[Xap]at ih |-;simp only[decide_eq_true_eq]at ih |-;rw[List.any_cons,Xbm,<-ih];by_cases h:p a=true
  ·rw[show qY p (a::r) n=n from if_pos h];exact⟨fun _=>.inl h,fun _=>hn⟩
  ·rw[show qY p (a::r) n=qY p r (n+1)from if_neg h];exact⟨fun x=>.inr x,fun x=>x.resolve_left h⟩
def Kk(l:List Int):(sX l).length=1:=(rfl)
def Ul(l:List Int):(sX l).getD 0 .any=.sl (l.map aQ):=(rfl)
attribute [go_sem] Kk Ul
def Co{g:Nat}{cap:List AV}{p:Visit->Bool}(l:List (Visit))(Z:l.length<=1048576)(O:aG prog g=true)(X:∀v∈l,PC prog g (.agg (aL v)::cap) (boo (p v))):
  PC prog 167 [.sl (l.map aL),.fn g cap] (int (qY p l 0)):=by
 refine pcd func167 rfl rfl ?_;simp only[go_sem];refine⟨fun ρ _=>∃k:Nat,k<=l.length/\ρ 0=.sl (l.map aL)/\ρ 1=.fn g cap/\ρ 7=int l.length/\ρ 8=int k/\∀u∈l.take k,p u=false,fun ρ _=>l.length-aT (ρ 8),⟨0,Xab _,rfl,rfl,rfl,rfl,by simp⟩,?_⟩;rintro ρ H ⟨k,Y,h0,h1,J,F,I⟩;simp only[go_sem,h0,h1,J,F];refine aA (fun A=>?_) (fun E=>?_)
 ·have A:=bA A;obtain⟨u,M⟩:=aM A;have U:=inB A;simp only[go_sem,h0,h1,J,F,aC M,U,O];refine aP (X u (Xac M)) ?_;simp only[go_sem,h0,h1,J,F];refine aA (fun T=>?_) (fun T=>?_)
  ·simp only[go_sem,F];exact bZ (by rw[pN I M T];omega)
  ·simp only[go_sem,h0,h1,J,F,aV k];exact⟨⟨k+1,A,rfl,aS (p:=fun u=>p u=false) M T I⟩,by simp only[aF];omega⟩
 ·have E:=bB Y E;subst E;rw[Xae]at I;simp only[go_sem];exact bZ (by rw[mY I])
def pY{g:Nat}{cap:List AV}{p:Visit->Bool}(l:List (Visit))(E:l.length<=1048576)(A:aG prog g=true)(F:∀v∈l,PC prog g (.agg (aL v)::cap) (boo (p v))):
  PC prog 119 [.sl (l.map aL),.fn g cap] (boo (l.any p)):=by
 refine pcd func119 rfl rfl ?_;simp only[go_sem];refine aP (Co l E A F) ?_;simp only[go_sem];exact cK (pJ l 0 (Xbw _))
def Ke{g:Nat}{cap:List AV}{p:List Int->Bool}(l:List (List Int))(Z:l.length<=1048576)(O:aG prog g=true)(X:∀v∈l,PC prog g (.sl (v.map aQ)::cap) (boo (p v))):
  PC prog 176 [.sl (l.map sX),.fn g cap] (int (qY p l 0)):=by
 refine pcd func176 rfl rfl ?_;simp only[go_sem];refine⟨fun ρ _=>∃k:Nat,k<=l.length/\ρ 0=.sl (l.map sX)/\ρ 1=.fn g cap/\ρ 7=int l.length/\ρ 8=int k/\∀u∈l.take k,p u=false,fun ρ _=>l.length-aT (ρ 8),⟨0,Xab _,rfl,rfl,rfl,rfl,by simp⟩,?_⟩;rintro ρ H ⟨k,Y,h0,h1,J,F,I⟩;simp only[go_sem,h0,h1,J,F];refine aA (fun A=>?_) (fun E=>?_)
 ·have A:=bA A;obtain⟨u,M⟩:=aM A;have U:=inB A;simp only[go_sem,h0,h1,J,F,aC M,U,O];refine aP (X u (Xac M)) ?_;simp only[go_sem,h0,h1,J,F];refine aA (fun T=>?_) (fun T=>?_)
  ·simp only[go_sem,F];exact bZ (by rw[pN I M T];omega)
  ·simp only[go_sem,h0,h1,J,F,aV k];exact⟨⟨k+1,A,rfl,aS (p:=fun u=>p u=false) M T I⟩,by simp only[aF];omega⟩
 ·have E:=bB Y E;subst E;rw[Xae]at I;simp only[go_sem];exact bZ (by rw[mY I])
def EJ{g:Nat}{cap:List AV}{p:List Int->Bool}(l:List (List Int))(E:l.length<=1048576)(A:aG prog g=true)(F:∀v∈l,PC prog g (.sl (v.map aQ)::cap) (boo (p v))):
  PC prog 128 [.sl (l.map sX),.fn g cap] (boo (l.any p)):=by
 refine pcd func128 rfl rfl ?_;simp only[go_sem];refine aP (Ke l E A F) ?_;simp only[go_sem];exact cK (pJ l 0 (Xbw _))
def TX(l:List Visit)(v:Visit)(Z:l.length<=1048576):PC prog 209 [.sl (l.map aL),.agg (aL v)] (int (fD l v)):=by
 refine pcd func209 rfl rfl ?_;simp only[go_sem];refine⟨fun ρ _=>∃k:Nat,k<=l.length/\ρ 0=.sl (l.map aL)/\ρ 3=.rp (aL v) 0/\ρ 7=int l.length/\ρ 8=int k/\∀u∈l.take k,G4 v u=false,fun ρ _=>l.length-aT (ρ 8),⟨0,Xab _,rfl,rfl,rfl,rfl,by simp⟩,?_⟩;rintro ρ H ⟨k,Y,h0,O,M,I,J⟩;simp only[go_sem,h0,O,M,I];refine aA (fun A=>?_) (fun E=>?_)
 ·have A:=bA A;obtain⟨u,T⟩:=aM A;have X:=inB A;have U:(v.order == u.order&&(v.drop == u.drop&&true))=G4 v u:=by unfold G4;rw[show(v.order == u.order)=(u.order == v.order)from Xap.2 (by simp only[Xba];exact eq_comm),show(v.drop == u.drop)=(u.drop == v.drop)from by cases v.drop <;> cases u.drop <;> rfl]
  simp only[go_sem,h0,O,M,I];refine dF (by rfl) (by kernel_rfl) ?_;simp only[go_sem,h0,O,M,I,aC T,X];refine aA (fun F=>?_) (fun F=>?_)
  ·have F:G4 v u=true:=by rw[<-U];exact F
   simp only[go_sem,I];exact bZ (by rw[fD,pN J T F];omega)
  ·have F:G4 v u=false:=by rw[<-U];exact F
   simp only[go_sem,h0,O,M,I,aV k];exact⟨⟨k+1,A,rfl,aS (p:=fun u=>G4 v u=false) T F J⟩,by simp only[aF];omega⟩
 ·have E:=bB Y E;subst E;rw[Xae]at J;simp only[go_sem];exact bZ (by rw[fD,mY J])
def inV(l:List Visit)(v:Visit):Bool:=decide (fD l v>=0)
def O9(l:List Visit)(v:Visit)(A:l.length<=1048576):PC prog 169 [.sl (l.map aL),.agg (aL v)] (boo (inV l v)):=by refine pcd func169 rfl rfl ?_;simp only[go_sem];refine aP (TX l v A) ?_;simp only[go_sem];exact .refl _
def CM(l:List Visit)(v:Visit)(A:l.length<=1048576):PC prog 168 [.sl (l.map aL),.agg (aL v)] (int (fD l v)):=by refine pcd func168 rfl rfl ?_;simp only[go_sem];refine aP (TX l v A) ?_;simp only[go_sem];exact .refl _
def FP(l:List Visit)(o:Int):Bool:=l.any fun v=>v.order == o
def aiE(o:Int)(v:Visit):PC prog 170 [.agg (aL v),.rp [int o] 0] (boo (v.order == o)):=by refine pcd func170 rfl rfl ?_;simp only[go_sem];exact .refl _
def UN(o:Int)(v:Visit):PC prog 171 [.agg (aL v),.rp [int o] 0] (boo (v.order == o)):=by refine pcd func171 rfl rfl ?_;simp only[go_sem];exact .refl _
def sW(l:List Visit)(o:Int)(A:l.length<=1048576):PC prog 124 [.sl (l.map aL),int o] (boo (FP l o)):=by refine pcd func124 rfl rfl ?_;simp only[go_sem];refine aP (pY (p:=fun v=>v.order == o) l A (by kernel_rfl) (fun v _=>aiE o v)) ?_;simp only[go_sem];exact .refl _
def Tx(l:List Order)(k:Int):PC prog 184 [.sl (l.map aW),int k] (boo (!cD k l.length)):=by refine pcd func184 rfl rfl ?_;simp only[go_sem];refine cK ?_;unfold cD;rw[Xap];simp
def qO{α:Type}{p:α->Bool}{l:List α}{k:Nat}{x:α}(E:l[k]?=some x)(A:p x=false):l.all p=false:=by rw[List.all_eq_false];exact⟨x,Xac E,by simp[A]⟩
def uM{α:Type}{p:α->Bool}{l:List α}(h:∀x∈l.take l.length,p x=true):l.all p=true:=by rw[Xae]at h;rw[Xaj];exact h
def aiU(x:Int):pP .and .i64 x 1=x%2:=by
 have h:((BitVec.ofInt 64 x &&& BitVec.ofInt 64 1).toNat:Int)=x%2:=by
  rw[BitVec.toNat_and,BitVec.toNat_ofInt,BitVec.toNat_ofInt];have:((1:Int)%((2^64:Nat):Int)).toNat=1:=by decide
  rw[this,Nat.and_one_is_mod];omega
 refine Eq.trans (congrArg IntKind.i64.wrap h) ?_;exact bG (by omega)
def yX{a b:Nat}(E:a<2^63)(A:b<2^63):pP .or .i64 (a:Int) (b:Int)=((a ||| b:Nat):Int):=by
 have h:((BitVec.ofInt 64 (a:Int) ||| BitVec.ofInt 64 (b:Int)).toNat:Int)=((a ||| b:Nat):Int):=by
  rw[BitVec.toNat_or,BitVec.toNat_ofInt,BitVec.toNat_ofInt];have h1:((a:Int)%((2^64:Nat):Int)).toNat=a:=by omega
  have F:((b:Int)%((2^64:Nat):Int)).toNat=b:=by omega
  rw[h1,F]
 refine Eq.trans (congrArg IntKind.i64.wrap h) ?_;have:=Xbx E A;exact bG (by omega)
def wW{x:Int}{i:Nat}(h:i<=62):shV .shr .i64 x (i:Int)=x/2^i:=by
 show x.fdiv (2^min ((i:Int)).toNat 64)=_;have:min ((i:Int)).toNat 64=i:=by omega
 rw[this,Int.fdiv_eq_ediv_of_nonneg _ (by exact Int.le_of_lt (Int.pow_pos (by decide)))]
def Gi{i:Nat}(h:i<=62):shV .shl .i64 1 (i:Int)=((2^i:Nat):Int):=by
 show IntKind.i64.wrap (1*2^min ((i:Int)).toNat 64)=_;have:min ((i:Int)).toNat 64=i:=by omega
 rw[this,Int.one_mul];have A:(2:Nat)^i<=2^62:=Xau (by decide) h;have E:((2:Int)^i)=((2^i:Nat):Int):=by norm_cast
 rw[E];generalize 2^i=m at A;exact bG (by omega)
def dH(set i:Int):Bool:=decide (i>=0)&&decide (i<=62)&&((set/2^i.toNat)%2 == 1)
def uC(set i:Int):PC prog 52 [int set,int i] (boo (dH set i)):=by
 refine pcd func52 rfl rfl ?_;simp only[go_sem];refine⟨fun h=>?_,?_⟩
 ·simp at h;omega
 ·refine cK ?_;unfold dH;rw[aiU];by_cases h:0<=i/\i<=62
  ·obtain⟨h0,h1⟩:=h;have e:=wW (x:=set) (i:=i.toNat) (by omega);rw[Int.toNat_of_nonneg h0]at e;rw[e]
  ·have:(decide (i>=0)&&decide (i<=62))=false:=by simp;omega
   rw[this];rfl
def nF(l:List Visit):Nat:=l.foldl (fun s v=>s ||| 2^v.order.toNat) 0
def X2(l:List Visit)(v:Visit):nF (l++[v])=nF l ||| 2^v.order.toNat:=by simp[nF]
def EZ{m:Nat}(l:List Visit)(h:∀v∈l,v.order.toNat<m):nF l<2^m:=by
 suffices ∀(l:List Visit) (s:Nat),s<2^m->(∀v∈l,v.order.toNat<m)->l.foldl (fun s v=>s ||| 2^v.order.toNat) s<2^m from this l 0 (Nat.two_pow_pos m) h
 intro l;induction l with
 | nil=>intro s A _;exact A
 | cons v r ih=>intro s A h;rw[List.foldl_cons];exact ih _ (Xbx A (Xca (by decide) (h v (by simp)))) fun v E=>h v (by simp[E])
def GE(l:List Visit)(i:Nat):(nF l).testBit i=l.any fun v=>v.order.toNat == i:=by
 suffices ∀(l:List Visit) (s:Nat),(l.foldl (fun s v=>s ||| 2^v.order.toNat) s).testBit i=(s.testBit i||l.any fun v=>v.order.toNat == i)from by have:=this l 0;simpa[nF]using this
 intro l;induction l with
 | nil=>intro s;simp
 | cons v r ih=>intro s;rw[List.foldl_cons,ih,Nat.testBit_or,Nat.testBit_two_pow,List.any_cons,Bool.or_assoc];rfl
def MV{s i:Nat}(h:s.testBit i=true):s ||| 2^i=s:=by
 apply Nat.eq_of_testBit_eq;intro j;rw[Nat.testBit_or,Nat.testBit_two_pow];by_cases e:i=j
 ·subst e;simp[h]
 ·simp[e]
def okV(v:Visit):Bool:= !(decide (v.order<0)||decide (v.order>62))
def gF(l:List Visit):Int×Int:=if l.all okV then(((nF l:Nat):Int),0)else(0,2)
def DK(r:Route)(hr:r.visits.length<=1048576):PC prog 31 [.agg (bI r)] (.tup [int (gF r.visits).1,int (gF r.visits).2]):=by
 refine pcd func31 rfl rfl ?_;simp only[go_sem];refine⟨fun ρ _=>∃k:Nat,k<=r.visits.length/\ρ 8=.sl (r.visits.map aL)/\ρ 9=int r.visits.length/\ρ 10=int k/\ρ 4=int (nF (r.visits.take k):Nat)/\∀v∈r.visits.take k,okV v=true,fun ρ _=>r.visits.length-aT (ρ 10),⟨0,Xab _,rfl,rfl,rfl,rfl,by simp⟩,?_⟩;rintro ρ H ⟨k,hk,T,X,E,M,Z⟩;simp only[go_sem,T,X,E,M];refine aA (fun A=>?_) (fun I=>?_)
 ·have A:=bA A;obtain⟨v,F⟩:=aM A;have Y:=inB A;simp only[go_sem,T,X,E,M,aC F,Y];refine aJ fun j hj=>?_
  simp only[go_sem,T,X,E,M,aC F,Y];refine aN (aB _ _ _) (by simp[cX]) ?_;simp only[go_sem,T,X,E,M,aC F,Y];refine aA (fun hb=>?_) (fun hb=>?_)
  ·simp only[go_sem];have:gF r.visits=(0,2):=by unfold gF;rw[qO F (by unfold okV;rw[hb];rfl)];rfl
   rw[this];exact .refl _
  ·have U:okV v=true:=by unfold okV;rw[hb];rfl
   have O:0<=v.order/\v.order<=62:=by simp[okV]at U;omega
   have J:nF (r.visits.take k)<2^63:=EZ _ fun v F=>by have:=Z v F;simp[okV]at this;omega
   have e1:=Gi (i:=v.order.toNat) (by omega);rw[Int.toNat_of_nonneg O.1]at e1;have e2:=yX (a:=nF (r.visits.take k)) (b:=2^v.order.toNat) J (Xca (by decide) (by omega));simp only[go_sem,T,X,E,M,aC F,Y,e1,e2,aV k];refine⟨O.1,⟨k+1,A,rfl,?_,aS (p:=fun v=>okV v=true) F U Z⟩,by simp only[aF];omega⟩;rw[bE F,X2]
 ·have I:=bB hk I;subst I;simp only[go_sem,M];have:gF r.visits=(((nF r.visits:Nat):Int),0):=by unfold gF;rw[uM Z];rfl
  rw[this,Xae];exact .refl _
def Xo{s i:Nat}(F:s<2^63)(A:i<63)(h:s.testBit i=false):s ||| 2^i=s+2^i:=by
 have E:2^i<2^63:=Xca (by decide) A;have h0:BitVec.ofNat 64 s &&& BitVec.ofNat 64 (2^i)=0#64:=by
  apply BitVec.eq_of_toNat_eq;rw[BitVec.toNat_and,BitVec.toNat_ofNat,BitVec.toNat_ofNat,Xbc (by omega),Xbc (by omega)];apply Nat.eq_of_testBit_eq;intro j;rw[Nat.testBit_and,Nat.testBit_two_pow];by_cases e:i=j
  ·subst e;simp[h]
  ·simp[e]
 have h1:=congrArg BitVec.toNat (BitVec.add_eq_or_of_and_eq_zero (BitVec.ofNat 64 s) (BitVec.ofNat 64 (2^i)) h0);rw[BitVec.toNat_add,BitVec.toNat_or,BitVec.toNat_ofNat,BitVec.toNat_ofNat,Xbc (by omega:s<2^64),Xbc (by omega:2^i<2^64),Xbc (by omega)]at h1;exact h1.symm
def DI{n:Int}(h:0<=n/\n<18446744073709551616):IntKind.u64.wrap n=n:=Mv.XX h
def pR{s:Nat}{i:Int}(h0:0<=i)(h1:i<=62):dH (s:Int) i=s.testBit i.toNat:=by
 rw[Nat.testBit_eq_decide_div_mod_eq];unfold dH;have A:((2:Int)^i.toNat)=((2^i.toNat:Nat):Int):=by norm_cast
 have:((s:Int)/2^i.toNat)=((s/2^i.toNat:Nat):Int):=by rw[A];rfl
 rw[this];generalize s/2^i.toNat=m;rw[Xap];simp only[Xba,decide_eq_true_eq,Xam];omega
def UA{s:Nat}{i:Int}(h0:0<=i)(h1:i<=62):X3 (s:Int) i=s.testBit i.toNat:=by
 rw[<-pR h0 h1];unfold X3 dH;rw[DI (by omega)];obtain⟨n,rfl⟩:=Int.eq_ofNat_of_zero_le h0;rw[wW (by omega)];have A:((2:Int)^n)=((2^n:Nat):Int):=by norm_cast
 have e:((n:Int)).toNat=n:=Xbd n;rw[e];have:((s:Int)/2^n)=((s/2^n:Nat):Int):=by rw[A];rfl
 rw[this];generalize s/2^n=m;rw[Xcb (by omega)];rw[Xap];simp only[Xba,decide_eq_true_eq,Xam];omega
def WU{s:Nat}{n:Int}(I:s<2^63)(h0:0<=n)(h1:n<=62):acU (s:Int) n=((s ||| 2^n.toNat:Nat):Int):=by
 unfold acU;rw[UA h0 h1];cases F:s.testBit n.toNat with
 | true=>rw[if_pos rfl,MV F]
 | false=>rw[if_neg (by simp),DI (by omega)];obtain⟨k,rfl⟩:=Int.eq_ofNat_of_zero_le h0;have e:((k:Int)).toNat=k:=Xbd k;rw[e]at F |-;have J:2^k<2^63:=Xca (by decide) (by omega);have A:=Xo I (by omega) F;have E:=Xbx I J;rw[A]at E |-;rw[Gi (by omega),bG (by omega)];omega
def Jz{l:List Visit}(h:∀v∈l,Ht v=false):aeM l=(nF l:Nat):=by
 suffices ∀(l:List Visit) (s:Nat),s<2^63->(∀v∈l,Ht v=false)->l.foldl (fun s v=>acU s v.order) (s:Int)=((l.foldl (fun s v=>s ||| 2^v.order.toNat) s:Nat):Int)from this l 0 (by decide) h
 intro l;induction l with
 | nil=>intro s _ _;rfl
 | cons v r ih=>intro s E h;have A:=h v (by simp);unfold Ht at A;simp only[Xah,decide_eq_false_iff_not]at A;rw[List.foldl_cons,List.foldl_cons,WU E (by omega) (by omega)];exact ih _ (Xbx E (Xca (by decide) (by omega))) fun u F=>h u (by simp[F])
def T6(v:Visit):okV v= !Ht v:=rfl
def Qi(l:List Visit):gF l=nQ l:=by
 unfold gF nQ;by_cases h:l.any Ht=true
 ·rw[if_pos h,if_neg];rw[Xaj];intro I;obtain⟨v,A,E⟩:=Xao.1 h;have:=I v A;rw[T6,E]at this;cases this
 ·have F : ∀ v ∈ l, Ht v = false := fun v A => by
   cases E:Ht v with
   | false=>rfl
   | true=>exact absurd (Xao.2 ⟨v,A,E⟩) h
  rw[if_neg h,if_pos (Xaj.2 fun v A=>by rw[T6,F v A];rfl),Jz F]
def Hj(r:Route)(A:r.visits.length<=1048576):PC prog 31 [.agg (bI r)] (.tup [int (nQ r.visits).1,int (nQ r.visits).2]):=Qi r.visits▸DK r A
end Go.Proofs.YtgncgpcpbadfnaaGreatDoor.Sq
end
