import Derived.Test.YtohmomanmikphaaGreatDoorRows
import Derived.Carry
import Derived.OpenShut
import Derived.JoinedCond
import Derived.WalkKit
import Derived.ProofKit
import Derived.WideKeyArgs
import Derived.Test.YtohmomanmikphaaGreatDoorPa11
set_option linter.unusedSimpArgs false
set_option linter.unusedVariables false
set_option maxRecDepth 100000
section
namespace Go.Proofs.YtohmomanmikphaaGreatDoor
open Go.Proofs.Tryz(prog)
open Go.Aw Go.Aw.D Go.Proofs Ty
def pAt(l:List Pair)(i:Nat):Pair:=l.getD i ⟨0,0⟩
theorem K6{l:List Pair}{k:Nat}{p:Pair}(h:l[k]?=some p):pAt l k=p:=by simp[pAt,List.getD,h]
def Ak(w:ByteArray)(k:Nat):ByteArray:=w++⟨#[32]⟩++kB k
def lU(N:Int)(p:Pair):Bool:=decide (p.a<0)||decide (p.a>=N)||decide (p.b<0)||decide (p.b>=N)||p.a == p.b
def Aq(b:Bool)(p q:Pair):Bool:=(q.a == p.a&&q.b == p.b)||(b&&q.a == p.b&&q.b == p.a)
def gK(N:Int)(l:List Pair)(w:ByteArray)(b:Bool)(k:Nat):List Fault:=match lU N (pAt l k)with
 | true=>[⟨2,Ak w k⟩]
 | false=>opt ((l.take k).any (Aq b (pAt l k))) ⟨6,Ak w k⟩
theorem At(N:Int)(l:List Pair)(w:ByteArray)(b:Bool)(k:Nat):(gK N l w b k).length<=1:=by
 unfold gK;split
 . simp
 . exact cL _ _
def rT(N:Int)(l:List Pair)(w:ByteArray)(b:Bool):List Fault:=opt (decide ((l.length:Int)>16)) ⟨4,w⟩++(List.range l.length).flatMap (gK N l w b)
theorem OS(N:Int)(l:List Pair)(w:ByteArray)(b:Bool)(hl:l.length<=1048576)(hw:w.size<=1048576):
   NC prog 90 [int N,.sl (l.map cU),str w,boo b] (bS (rT N l w b)) .os:=by
 refine ncb (fun t=>t == 9) Tryz.func90 ?_;unfold Tryz.f90;simp only[gdS];simp only[go_sem];refine aL fun j hj=>?_
 simp only[go_sem];refine qA (fun E H'=>E 0=int N/\E 1=.sl (l.map cU)/\E 2=str w/\E 3=boo b/\∃Y,E 9=.os Y/\H' Y=some (bS [])) ⟨by simp only[go_sem],by simp only[go_sem],by simp only[go_sem],by simp only[go_sem],_,by simp only[go_sem],aA _ _ _⟩ ?_;rintro ρ H ⟨h0,h1,J,I,j,O,U⟩;generalize ab:([]:List Fault)=es0 at U;have ap:es0.length<=0:=by rw[<-ab];exact Xah _
 refine bK (fun E H'=>E 0=int N/\E 1=.sl (l.map cU)/\E 2=str w/\E 3=boo b/\∃Y,E 9=.os Y/\H' Y=some (bS (es0++opt (decide ((l.length:Int)>16)) ⟨4,w⟩))) ?_ fun K hK=>aB (fun X=>?_) (fun X=>?_)
 rotate_left
 . simp only[go_sem,h0,h1,J,I,O]
   refine aZ U ⟨rfl,rfl⟩ (by simp only[go_sem]) (by simp only[Xaa,Xad,List.length_nil];omega) (fun Y am=>?_);simp only[go_sem];refine hK _ _ ⟨by simp only[go_sem,h0],by simp only[go_sem,h1],by simp only[go_sem,J],by simp only[go_sem,I],Y,by simp only[go_sem],?_⟩;rw[iX (show(decide ((l.length:Int)>16))=true from X)];exact fL (l':=[⟨4,w⟩]) rfl
 . simp only[go_sem]
   refine hK _ _ ⟨by simp only[go_sem,h0],by simp only[go_sem,h1],by simp only[go_sem,J],by simp only[go_sem,I],j,by simp only[go_sem,O],?_⟩;rw[iW (show(decide ((l.length:Int)>16))=false from X),Xai,U]
 clear U h0 h1 J I O;rintro ρ H ⟨h0,h1,J,I,j,O,U⟩;generalize ac:es0++opt (decide ((l.length:Int)>16)) (⟨4,w⟩:Fault)=es1 at U;have aq:es1.length<=es0.length+1:=by rw[<-ac,Xae];have:=cL (decide ((l.length:Int)>16)) (⟨4,w⟩:Fault);omega
 simp only[go_sem,h0,h1,J,I,O];refine⟨fun ρ H=>∃k:Nat,k<=l.length/\ρ 0=int N/\ρ 1=.sl (l.map cU)/\ρ 2=str w/\ρ 3=boo b/\ρ 10=int k/\∃j,ρ 9=.os j/\H j=some (bS (es1++(List.range k).flatMap (gK N l w b))),fun ρ _=>l.length-aV (ρ 10),
   ⟨0,Xab _,by simp only[go_sem,h0],by simp only[go_sem,h1],by simp only[go_sem,J],by simp only[go_sem,I],by simp only[go_sem];rfl,j,by simp only[go_sem,O],by simpa using U⟩,?_⟩
 clear U h0 h1 J I O hj;rintro ρ H ⟨k,hk,h0,h1,J,I,F,j,O,U⟩;generalize ae:es1++(List.range k).flatMap (gK N l w b)=es at U;have ao:es.length<=k+1:=by
   have:=fM (At N l w b) (List.range k);rw[<-ae,Xae];rw[Xaz]at this;omega
 simp only[go_sem,h0,h1,J,I,O,F];refine aB (fun V=>?_) (fun ah=>?_)
 . have V:=aQ V
   have ai:k<=4611686018427387904:=by omega
   obtain⟨p,hp⟩:=aN V;have b1:=inB V;have ar:=oQ k;have au:(#[32]:Array UInt8).size=1:=rfl;have ag:es1++(List.range (k+1)).flatMap (gK N l w b)=es++gK N l w b k:=by rw[iK,<-Xaw,ae]
   simp only[go_sem,h0,h1,J,I,O,F,b1,aC hp];refine⟨by omega,by omega,by rw[zE];omega,?_⟩;refine PC.use (afD _ (by omega)) ?_;simp only[go_sem,h0,h1,J,I,O,F];refine⟨by rw[zE];omega,?_⟩;refine aB (fun X=>?_) (fun X=>?_)
   . simp only[go_sem,h0,h1,J,I,O,F]
     refine aZ U ⟨rfl,rfl⟩ (by simp only[go_sem]) (by simp only[Xaa,Xad,List.length_nil];omega) (fun Y am=>?_);simp only[go_sem,h0,h1,J,I,F,aT ai];refine⟨⟨k+1,V,rfl,Y,rfl,?_⟩,by simp only[aE];omega⟩;have hn:lU N (pAt l k)=true:=by rw[K6 hp];exact X
     rw[ag,gK,hn];exact fL (l':=[⟨2,Ak w k⟩]) rfl
   . simp only[go_sem,h0,h1,J,I,O,F]
     have hn:lU N (pAt l k)=false:=by rw[K6 hp];exact X
     refine⟨fun ρ H'=>∃m:Nat,m<=k/\ρ 0=int N/\ρ 1=.sl (l.map cU)/\ρ 2=str w/\ρ 3=boo b/\ρ 9=.os j/\ρ 10=int k/\ρ 11=int p.a/\ρ 12=int p.b/\ρ 13=str (Ak w k)/\ρ 14=boo ((l.take m).any (Aq b p))/\ρ 15=int m/\H'=H,fun ρ _=>k-aV (ρ 15),
       ⟨0,Xab _,by simp only[go_sem,h0],by simp only[go_sem,h1],by simp only[go_sem,J],by simp only[go_sem,I],by simp only[go_sem,O],by simp only[go_sem,F],by simp only[go_sem],by simp only[go_sem],by simp only[go_sem];rfl,by simp only[go_sem];rfl,by simp only[go_sem];rfl,rfl⟩,?_⟩
     clear h0 h1 J I O F;rintro ρ H' ⟨m,hm,h0,h1,J,I,O,F,ak,aj,ad,af,an,rfl⟩;simp only[go_sem,h0,h1,J,I,O,F,ak,aj,ad,af,an];refine aB (fun Z=>?_) (fun aa=>?_)
     . have Z:=aQ Z
       obtain⟨q,hq⟩:=aN (show m<l.length by omega);have b2:=inB (show m<l.length by omega);simp only[go_sem,h0,h1,J,I,O,F,ak,aj,ad,af,an,b2,aC hq,aT (show m<=4611686018427387904 by omega)];refine⟨fun _=>by omega,fun _=>by omega,fun _=>by omega,fun _=>by omega,⟨m+1,Z,?_,rfl⟩,by simp only[aE];omega⟩;rw[HB hq];simp only[Aq,Bool.or_assoc]
     . have aa:=aR hm aa
       subst aa;simp only[go_sem,af];have al:(l.take m).any (Aq b (pAt l m))=(l.take m).any (Aq b p):=by rw[K6 hp]
       refine gA (fun E H'=>E 0=int N/\E 1=.sl (l.map cU)/\E 2=str w/\E 3=boo b/\E 10=int m/\∃j,E 9=.os j/\H' j=some (bS (es1++(List.range (m+1)).flatMap (gK N l w b)))) ?_ fun K hK _ _=>aB (fun X=>?_) (fun X=>?_)
       . clear U h0 h1 J I O F
         rintro ρ H ⟨h0,h1,J,I,F,j,O,U⟩;simp only[go_sem,h0,h1,J,I,O,F,aT ai];exact⟨⟨m+1,V,rfl,j,rfl,U⟩,by simp only[aE];omega⟩
       . simp only[go_sem,h0,h1,J,I,O,F,ad]
         refine aZ U ⟨rfl,rfl⟩ (by simp only[go_sem]) (by simp only[Xaa,Xad,List.length_nil];omega) (fun Y am=>?_);simp only[go_sem];refine hK _ _ ⟨by simp only[go_sem,h0],by simp only[go_sem,h1],by simp only[go_sem,J],by simp only[go_sem,I],by simp only[go_sem,F],Y,by simp only[go_sem],?_⟩;rw[ag,gK,hn];show _=some (bS (es++opt _ ⟨6,Ak w m⟩));rw[iX (al.trans X)];exact fL (l':=[⟨6,Ak w m⟩]) rfl
       . simp only[go_sem]
         refine hK _ _ ⟨by simp only[go_sem,h0],by simp only[go_sem,h1],by simp only[go_sem,J],by simp only[go_sem,I],by simp only[go_sem,F],j,by simp only[go_sem,O],?_⟩;rw[ag,gK,hn];show _=some (bS (es++opt _ ⟨6,Ak w m⟩));rw[iW (al.trans X),Xai,U]
 . have ah:=aR hk ah
   subst ah;simp only[go_sem,O];exact⟨_,rfl,by rw[U,<-ae,<-ac,<-ab];rfl⟩
theorem qP:∀l:List Fault,cZ 2 (l.map gV)
 | []=>trivial
 | f::r=>⟨rfl,qP r⟩
theorem xU(N:Int)(l:List Pair)(w:ByteArray)(b:Bool):(rT N l w b).length<=l.length+1:=by
 have:=fM (At N l w b) (List.range l.length);have E:=cL (decide ((l.length:Int)>16)) (⟨4,w⟩:Fault);rw[rT,Xae];rw[Xaz]at this;omega
theorem LV(N:Int)(F E:List Pair)(J:F.length<=1048576)(I:E.length<=1048576):
   NC prog 54 [int N,.sl (F.map cU),.sl (E.map cU)] (bS (rT N F ⟨#[97,112,97,114,116]⟩ true++rT N E ⟨#[98,101,102,111,114,101]⟩ false)) .os:=by
 refine ncb (fun t=>t == 7) Tryz.func54 ?_;unfold Tryz.f54;simp only[gdS];simp only[go_sem];refine NC.use (OS N F ⟨#[97,112,97,114,116]⟩ true J (by decide)) fun j Y=>?_
 simp only[go_sem];refine NC.use (OS N E ⟨#[98,101,102,111,114,101]⟩ false I (by decide)) fun i hi=>?_
 simp only[go_sem];have U:=xU N F ⟨#[97,112,97,114,116]⟩ true;have X:=xU N E ⟨#[98,101,102,111,114,101]⟩ false;refine Cq (eZ (aA _ _ _) hi) (aA _ _ _) ⟨rfl,rfl⟩ (qP _) (by simp only[Xaa];omega) (fun V O=>?_);simp only[go_sem];exact⟨_,rfl,fL rfl⟩
theorem NC.pc{f:FuncId}{args:List AV}{row:Row}(h:NC prog f args row .os):PC prog f args (.sl row.es):=
 RC.conv (RC.mono h fun r H' ⟨k,e,E⟩=>by subst e;exact .row k row row.es E (ConvE.refl _))
def nG(l:List Arc)(i:Nat):Arc:=l.getD i ⟨0,0,0,0,[],[]⟩
theorem oR{l:List Arc}{k:Nat}{p:Arc}(h:l[k]?=some p):nG l k=p:=by simp[nG,List.getD,h]
def iE(k:Nat):ByteArray:=⟨#[97,114,99,32]⟩++kB k
def xQ(N:Int)(a:Arc):Bool:=decide (a.src<0)||decide (a.src>=N)||decide (a.dst<0)||decide (a.dst>=N)
def BJ(a:Arc):Bool:=decide (a.profile<0)||decide (a.profile>7)||decide (a.miles<0)||decide (a.miles>10000)||a.src == a.dst
def sH(a b:Arc):Bool:=a.src == b.src&&a.dst == b.dst&&a.profile == b.profile
def nV(l:List Point)(i:Nat):Bool:= !inR (eA l i).t 0 4096|| !inR (eA l i).a 0 4096||decide ((i:Int)>0)&&decide ((eA l i).t<=(eA l (i-1)).t)
def Dy(n:Network)(k:Nat):List Fault:=
 []++opt (xQ n.places.length (nG n.arcs k)) ⟨11,iE k⟩++opt (BJ (nG n.arcs k)) ⟨2,iE k⟩++opt ((n.arcs.take k).any (sH (nG n.arcs k))) ⟨6,iE k⟩
   ++ (iJ (nG n.arcs k).travel).map (fun f=>⟨f.err,iE k⟩)++opt (decide (((nG n.arcs k).slow.length:Int)>16)) ⟨4,iE k⟩
   ++ (List.range (nG n.arcs k).slow.length).flatMap fun i=>opt (nV (nG n.arcs k).slow i) ⟨2,iE k⟩
theorem Jf(l:List Point)(E:l.length<=1048576):PC prog 143 [.sl (l.map bY)] (.sl ((iJ l).map gV)):=NC.pc (YY l E)
theorem Ek(l:List Point):(iJ l).length<=2*l.length+1:=by
 have:=fM (YU l) (List.range l.length);have E:=cL (B3 l.length 1 16) (⟨4,ByteArray.empty⟩:Fault);rw[iJ,Xae];rw[Xaz]at this;omega
theorem aAD(n:Network)(k:Nat)(hk:k<n.arcs.length)(hp:n.places.length<=1048576)(hl:n.arcs.length<=1048576)(hs:∀a∈n.arcs,a.travel.length<=1048576/\a.slow.length<=1048576):
   NC prog 85 [.agg (aY n),int k] (bS (Dy n k)) .os:=by
 refine ncb (fun t=>t == 5) Tryz.func85 ?_;unfold Tryz.f85;simp only[gdS];simp only[go_sem];obtain⟨a,ha⟩:=aN hk;have b1:=inB hk;have ar:=hs a (kD ha);have a7:=oQ k;refine aL fun j hj=>?_
 simp only[go_sem];refine PC.use (sP _ (by omega)) ?_;simp only[go_sem,b1,aC ha];have h4:(#[97,114,99,32]:Array UInt8).size=4:=rfl;refine⟨by rw[zE];omega,aL fun i hi=>?_⟩;simp only[go_sem];refine aH (aA _ _ _) (by simp[eF]) ?_;simp only[go_sem];have F:j≠i:=aP (aA _ _ _) hi;have aw:iE k=⟨#[97,114,99,32]⟩++kB k:=rfl;refine qA (fun E H'=>E 1=int k/\E 2=.rp (aY n) 0/\E 6=str (iE k)/\E 7=.op i 0 0/\H' i=some (vR a)/\∃X,E 5=.os X/\X≠i/\H' X=some (bS []))
   ⟨by simp only[go_sem],by simp only[go_sem],by simp only[go_sem,aw],by simp only[go_sem],aA _ _ _,j,by simp only[go_sem],F,by rw[aF _ _ _ _ F,aF _ _ _ _ F,aA];rfl⟩ ?_
 clear hi hj F;rintro ρ H ⟨h1,h2,J,I,hi,j,O,F,U⟩;generalize ah:([]:List Fault)=es0 at U;have a5:es0.length<=0:=by rw[<-ah];exact Xah _
 refine bK (fun E H'=>E 1=int k/\E 2=.rp (aY n) 0/\E 6=str (iE k)/\E 7=.op i 0 0/\H' i=some (vR a)/\∃X,E 5=.os X/\X≠i/\H' X=some (bS (es0++opt (xQ n.places.length a) ⟨11,iE k⟩))) ?_ fun K hK=>aB (fun hb=>?_) (fun hb=>?_)
 rotate_left
 . simp only[go_sem,h1,h2,J,I,O]
   refine aZ U ⟨rfl,rfl⟩ (by simp only[go_sem]) (by simp only[Xaa,Xad,List.length_nil];omega) (fun X V=>?_);simp only[go_sem];refine hK _ _ ⟨by simp only[go_sem,h1],by simp only[go_sem,h2],by simp only[go_sem,J],by simp only[go_sem,I],dF hi F V,X,by simp only[go_sem],(aP hi V).symm,?_⟩;rw[iX (show(xQ n.places.length a)=true from hb)];exact fL (l':=[⟨11,iE k⟩]) rfl
 . simp only[go_sem]
   refine hK _ _ ⟨by simp only[go_sem,h1],by simp only[go_sem,h2],by simp only[go_sem,J],by simp only[go_sem,I],hi,j,by simp only[go_sem,O],F,?_⟩;rw[iW (show(xQ n.places.length a)=false from hb),Xai,U]
 clear U h1 h2 J I O;rintro ρ H ⟨h1,h2,J,I,hi,j,O,F,U⟩;generalize ak:es0++opt (xQ n.places.length a) (⟨11,iE k⟩:Fault)=es1 at U;have a0:es1.length<=es0.length+1:=by rw[<-ak,Xae];have:=cL (xQ n.places.length a) (⟨11,iE k⟩:Fault);omega
 simp only[go_sem,h1,h2,J,I,O,hi];refine bK (fun E H'=>E 1=int k/\E 2=.rp (aY n) 0/\E 6=str (iE k)/\E 7=.op i 0 0/\H' i=some (vR a)/\∃X,E 5=.os X/\X≠i/\H' X=some (bS (es1++opt (BJ a) ⟨2,iE k⟩))) ?_ fun K hK=>aB (fun hb=>?_) (fun hb=>?_)
 rotate_left
 . simp only[go_sem,h1,h2,J,I,O]
   refine aZ U ⟨rfl,rfl⟩ (by simp only[go_sem]) (by simp only[Xaa,Xad,List.length_nil];omega) (fun X V=>?_);simp only[go_sem];refine hK _ _ ⟨by simp only[go_sem,h1],by simp only[go_sem,h2],by simp only[go_sem,J],by simp only[go_sem,I],dF hi F V,X,by simp only[go_sem],(aP hi V).symm,?_⟩;rw[iX (show(BJ a)=true from hb)];exact fL (l':=[⟨2,iE k⟩]) rfl
 . simp only[go_sem]
   refine hK _ _ ⟨by simp only[go_sem,h1],by simp only[go_sem,h2],by simp only[go_sem,J],by simp only[go_sem,I],hi,j,by simp only[go_sem,O],F,?_⟩;rw[iW (show(BJ a)=false from hb),Xai,U]
 clear U h1 h2 J I O;rintro ρ H ⟨h1,h2,J,I,hi,j,O,F,U⟩;generalize ai:es1++opt (BJ a) (⟨2,iE k⟩:Fault)=es2 at U;have a6:es2.length<=es1.length+1:=by rw[<-ai,Xae];have:=cL (BJ a) (⟨2,iE k⟩:Fault);omega
 simp only[go_sem,h1,h2,J,I,O,hi];refine⟨fun E H'=>∃m:Nat,m<=k/\E 1=int k/\E 2=.rp (aY n) 0/\E 6=str (iE k)/\E 7=.op i 0 0/\E 5=.os j/\E 8=boo ((n.arcs.take m).any (sH a))/\E 9=int m/\H' i=some (vR a)/\H' j=some (bS es2),fun ρ _=>k-aV (ρ 9),
   ⟨0,Xab _,by simp only[go_sem,h1],by simp only[go_sem,h2],by simp only[go_sem,J],by simp only[go_sem,I],by simp only[go_sem,O],by simp only[go_sem];rfl,by simp only[go_sem];rfl,hi,U⟩,?_⟩
 clear h1 h2 J I O hi U;rintro ρ H ⟨m,hm,h1,h2,J,I,O,h8,h9,hi,U⟩;simp only[go_sem,h1,h2,J,I,O,h8,h9];refine aB (fun Y=>?_) (fun aa=>?_)
 . have Y:=aQ Y
   obtain⟨c,hc⟩:=aN (show m<n.arcs.length by omega);have b2:=inB (show m<n.arcs.length by omega);simp only[go_sem,h1,h2,J,I,O,h8,h9,b2,aC hc];refine aL fun x hx=>?_
   simp only[go_sem];refine aH (aA _ _ _) (by simp[eF]) ?_;have ab:=aP hi hx;have ad:=aP U hx;simp only[go_sem,h1,h2,J,I,O,h8,h9,aF _ _ _ _ ab,hi,aT (show m<=4611686018427387904 by omega)];refine⟨⟨m+1,Y,?_,rfl,?_⟩,by simp only[aE];omega⟩
   . rw[HB hc];simp only[sH]
   . rw[aF _ _ _ _ ad,aF _ _ _ _ ad,U]
 . have aa:=aR hm aa
   subst aa;simp only[go_sem,h1,h2,J,I,O,h8,h9];clear h1 h2 h8 h9;refine bK (fun E H'=>E 6=str (iE m)/\E 7=.op i 0 0/\H' i=some (vR a)/\∃X,E 5=.os X/\X≠i/\H' X=some (bS (es2++opt ((n.arcs.take m).any (sH a)) ⟨6,iE m⟩))) ?_ fun K hK=>aB (fun hb=>?_) (fun hb=>?_)
   rotate_left
   . simp only[go_sem,J,I,O]
     refine aZ U ⟨rfl,rfl⟩ (by simp only[go_sem]) (by simp only[Xaa,Xad,List.length_nil];omega) (fun X V=>?_);simp only[go_sem];refine hK _ _ ⟨by simp only[go_sem,J],by simp only[go_sem,I],dF hi F V,X,by simp only[go_sem],(aP hi V).symm,?_⟩;rw[iX (show((n.arcs.take m).any (sH a))=true from hb)];exact fL (l':=[⟨6,iE m⟩]) rfl
   . simp only[go_sem]
     refine hK _ _ ⟨by simp only[go_sem,J],by simp only[go_sem,I],hi,j,by simp only[go_sem,O],F,?_⟩;rw[iW (show((n.arcs.take m).any (sH a))=false from hb),Xai,U]
   clear U J I O;rintro ρ H ⟨J,I,hi,j,O,F,U⟩;generalize aj:es2++opt ((n.arcs.take m).any (sH a)) (⟨6,iE m⟩:Fault)=es3 at U;have a4:es3.length<=es2.length+1:=by rw[<-aj,Xae];have:=cL ((n.arcs.take m).any (sH a)) (⟨6,iE m⟩:Fault);omega
   simp only[go_sem,J,I,O,hi];refine PC.use (Jf a.travel ar.1) ?_;simp only[go_sem];have av:=Ek a.travel;have aq:(iJ (nG n.arcs m).travel).map (fun f=>(⟨f.err,iE m⟩:Fault))=(iJ a.travel).map (fun f=>⟨f.err,iE m⟩):=by rw[oR ha]
   generalize iJ a.travel=tr at av aq;refine⟨fun ρ H=>∃q:Nat,q<=tr.length/\ρ 6=str (iE m)/\ρ 7=.op i 0 0/\ρ 11=.sl (tr.map gV)/\ρ 12=int q/\H i=some (vR a)/\∃j,ρ 5=.os j/\j≠i/\H j=some (bS (es3++(tr.take q).map fun f=>⟨f.err,iE m⟩)),fun ρ _=>tr.length-aV (ρ 12),
     ⟨0,Xab _,by simp only[go_sem,J],by simp only[go_sem,I],by simp only[go_sem],by simp only[go_sem];rfl,hi,j,by simp only[go_sem,O],F,by simpa using U⟩,?_⟩
   clear J I O hi U F;rintro ρ H ⟨q,hq,J,I,ac,ae,hi,j,O,F,U⟩;simp only[go_sem,J,I,O,ac,ae];refine aB (fun Y=>?_) (fun aa=>?_)
   . have Y:=aQ Y
     obtain⟨f,hf⟩:=aN Y;have b2:=inB Y;simp only[go_sem,J,I,O,ac,ae,b2,aC hf];refine aZ U ⟨rfl,rfl⟩ (by simp only[go_sem]) (by simp only[Xaa,Xae,Xao,Xad,List.length_nil];omega) (fun X V=>?_);simp only[go_sem,J,I,O,ac,ae,aT (show q<=4611686018427387904 by omega)];refine⟨⟨q+1,Y,rfl,dF hi F V,X,rfl,(aP hi V).symm,?_⟩,by simp only[aE];omega⟩;rw[C3 hf,<-Xaw];exact fL (l':=[⟨f.err,iE m⟩]) rfl
   . have aa:=aR hq aa
     subst aa;simp only[go_sem,J,I,O,ac,ae,hi];clear ac ae;rw[Xag]at U;generalize ag:es3++tr.map (fun f=>(⟨f.err,iE m⟩:Fault))=es4 at U;have az:es4.length=es3.length+tr.length:=by rw[<-ag,Xae,Xaa]
     refine bK (fun E H'=>E 6=str (iE m)/\E 7=.op i 0 0/\H' i=some (vR a)/\∃X,E 5=.os X/\X≠i/\H' X=some (bS (es4++opt (decide ((a.slow.length:Int)>16)) ⟨4,iE m⟩))) ?_ fun K hK=>aB (fun hb=>?_) (fun hb=>?_)
     rotate_left
     . simp only[go_sem,J,I,O]
       refine aZ U ⟨rfl,rfl⟩ (by simp only[go_sem]) (by simp only[Xaa,Xad,List.length_nil];omega) (fun X V=>?_);simp only[go_sem];refine hK _ _ ⟨by simp only[go_sem,J],by simp only[go_sem,I],dF hi F V,X,by simp only[go_sem],(aP hi V).symm,?_⟩;rw[iX (show(decide ((a.slow.length:Int)>16))=true from hb)];exact fL (l':=[⟨4,iE m⟩]) rfl
     . simp only[go_sem]
       refine hK _ _ ⟨by simp only[go_sem,J],by simp only[go_sem,I],hi,j,by simp only[go_sem,O],F,?_⟩;rw[iW (show(decide ((a.slow.length:Int)>16))=false from hb),Xai,U]
     clear U J I O;rintro ρ H ⟨J,I,hi,j,O,F,U⟩;generalize af:es4++opt (decide ((a.slow.length:Int)>16)) (⟨4,iE m⟩:Fault)=es5 at U;have ax:es5.length<=es4.length+1:=by rw[<-af,Xae];have:=cL (decide ((a.slow.length:Int)>16)) (⟨4,iE m⟩:Fault);omega
     simp only[go_sem,J,I,O,hi];refine⟨fun ρ H=>∃k:Nat,k<=a.slow.length/\ρ 6=str (iE m)/\ρ 7=.op i 0 0/\ρ 13=int k/\H i=some (vR a)/\∃j,ρ 5=.os j/\j≠i/\H j=some (bS (es5++(List.range k).flatMap fun x=>opt (nV a.slow x) ⟨2,iE m⟩)),fun ρ _=>a.slow.length-aV (ρ 13),
       ⟨0,Xab _,by simp only[go_sem,J],by simp only[go_sem,I],by simp only[go_sem];rfl,hi,j,by simp only[go_sem,O],F,by simpa using U⟩,?_⟩
     clear J I O hi U F;rintro ρ H ⟨k,hk,J,I,Z,hi,j,O,F,U⟩;generalize al:es5++(List.range k).flatMap (fun x=>opt (nV a.slow x) (⟨2,iE m⟩:Fault))=es at U;have ay:es.length<=es5.length+k:=by
       have:=fM (f:=fun x=>opt (nV a.slow x) (⟨2,iE m⟩:Fault)) (c:=1) (fun x=>cL _ _) (List.range k);rw[<-al,Xae];rw[Xaz]at this;omega
     simp only[go_sem,J,I,O,Z,hi];refine aB (fun Y=>?_) (fun aa=>?_)
     . have Y:=aQ Y
       have an:k<=4611686018427387904:=by omega
       obtain⟨p,hp⟩:=aN Y;obtain⟨r,hr⟩:=aN (show k-1<a.slow.length by omega);have b2:=inB Y;simp only[go_sem,J,I,O,Z,hi,b2,aC hp];refine aL fun x hx=>?_
       simp only[go_sem];refine aH (aA _ _ _) (by simp[eQ]) ?_;have ab:=aP hi hx;have ad:=aP U hx;simp only[go_sem];refine cN (by rfl) (by kernel_rfl) ?_;simp only[go_sem,J,I,O,Z,aF _ _ _ _ ab,hi];refine⟨_,(aaX _).q rfl,?_⟩;simp only[go_sem,J,I,O,Z,aF _ _ _ _ ab,hi];refine⟨_,fun _=>(aaX _).q rfl,?_⟩;simp only[go_sem,J,I,O,Z,aF _ _ _ _ ab,hi,adR an,aC hr];have am:aI (aI H x (some ⟨104,2,[[int 0,int 0]]⟩)) x (some ⟨104,2,[bY p]⟩) i=some (vR a):=by rw[aF _ _ _ _ ab,aF _ _ _ _ ab,hi]
       have ao:aI (aI H x (some ⟨104,2,[[int 0,int 0]]⟩)) x (some ⟨104,2,[bY p]⟩) j=some (bS es):=by rw[aF _ _ _ _ ad,aF _ _ _ _ ad,U]
       have ap:nV a.slow k=(!inR p.t 0 4096|| !inR p.a 0 4096||decide ((k:Int)>0)&&decide (p.t<=r.t)):=by rw[nV,dH hp,dH hr]
       have au:es5++(List.range (k+1)).flatMap (fun x=>opt (nV a.slow x) (⟨2,iE m⟩:Fault))=es++opt (nV a.slow k) ⟨2,iE m⟩:=by rw[iK,<-Xaw,al]
       refine⟨fun h=>by
         have:(k:Int)>0:=by simpa using h.2
         rw[oX an];omega,gA (fun E H'=>E 6=str (iE m)/\E 7=.op i 0 0/\E 13=int k/\H' i=some (vR a)/\∃j,E 5=.os j/\j≠i/\H' j=some (bS (es++opt (nV a.slow k) ⟨2,iE m⟩))) ?_ fun K hK _ _=>aB (fun hb=>?_) (fun hb=>?_)⟩
       . clear J I O Z
         rintro ρ H ⟨J,I,Z,hi,j,O,F,U⟩;simp only[go_sem,J,I,O,Z,aT an];exact⟨⟨k+1,Y,rfl,hi,j,rfl,F,by rw[au];exact U⟩,by simp only[aE];omega⟩
       . simp only[go_sem,J,I,O,Z]
         refine aZ ao ⟨rfl,rfl⟩ (by simp only[go_sem]) (by simp only[Xaa,Xad,List.length_nil];omega) (fun X V=>?_);simp only[go_sem];refine hK _ _ ⟨by simp only[go_sem,J],by simp only[go_sem,I],by simp only[go_sem,Z],dF am F V,X,by simp only[go_sem],(aP am V).symm,?_⟩;rw[iX (ap.trans hb)];exact fL (l':=[⟨2,iE m⟩]) rfl
       . simp only[go_sem]
         refine hK _ _ ⟨by simp only[go_sem,J],by simp only[go_sem,I],by simp only[go_sem,Z],am,j,by simp only[go_sem,O],F,?_⟩;rw[iW (ap.trans hb),Xai,ao]
     . have aa:=aR hk aa
       subst aa;simp only[go_sem,O];refine⟨_,rfl,?_⟩;rw[U,<-al,<-af,<-ag,<-aq,<-aj,<-ai,<-ak,<-ah,Dy,oR ha]
theorem Gx(n:Network)(k:Nat)(O:(nG n.arcs k).travel.length<=1048576)(F:(nG n.arcs k).slow.length<=1048576):(Dy n k).length<=3145740:=by
 have h1:=cL (xQ n.places.length (nG n.arcs k)) (⟨11,iE k⟩:Fault);have J:=cL (BJ (nG n.arcs k)) (⟨2,iE k⟩:Fault);have U:=cL ((n.arcs.take k).any (sH (nG n.arcs k))) (⟨6,iE k⟩:Fault);have V:=Ek (nG n.arcs k).travel;have I:=cL (decide (((nG n.arcs k).slow.length:Int)>16)) (⟨4,iE k⟩:Fault);have E:=fM (f:=fun i=>opt (nV (nG n.arcs k).slow i) (⟨2,iE k⟩:Fault)) (c:=1) (fun x=>cL _ _) (List.range (nG n.arcs k).slow.length);rw[Xaz]at E;simp only[Dy,Xae,Xaa,List.length_nil];omega
theorem En{α F:Type}{f:α->List F}{c:Nat}:∀l:List α,(∀x∈l,(f x).length<=c)->(l.flatMap f).length<=c*l.length
 | [],_=>by simp
 | x::r,h=>by
   have h1:=h x (by simp);have I:=En r fun y E=>h y (by simp[E])
   simp only[List.flatMap_cons,Xae,Xad,Nat.mul_add,Nat.mul_one];omega
def He(n:Network):List Fault:=zA n.places++opt (decide ((n.arcs.length:Int)>1024)) ⟨4,⟨#[97,114,99,115]⟩⟩++(List.range n.arcs.length).flatMap (Dy n)
theorem E2(l:List ByteArray):(zA l).length<=l.length+1:=by
 have:=fM (T7 l) (List.range l.length);have E:=cL (decide ((l.length:Int)>24)) (⟨4,⟨#[112,108,97,99,101,115]⟩⟩:Fault);rw[zA,Xae];rw[Xaz]at this;omega
theorem aAB(n:Network)(hp:n.places.length<=1048576)(ab:∀s∈n.places,s.size<=1048576)(hl:n.arcs.length<=1048576)(hs:∀a∈n.arcs,a.travel.length<=1048576/\a.slow.length<=1048576):
   NC prog 50 [.agg (aY n)] (bS (He n)) .os:=by
 have Y:∀k,(Dy n k).length<=3145740:=fun k=>by
   rcases Xbk k n.arcs.length with h|h
   . obtain⟨a,ha⟩:=aN h
     have hm:=hs a (kD ha);exact Gx n k (by rw[oR ha];exact hm.1) (by rw[oR ha];exact hm.2)
   . have:nG n.arcs k=⟨0,0,0,0,[],[]⟩:=by simp[nG,List.getD,List.getElem?_eq_none h]
     exact Gx n k (by rw[this];simp) (by rw[this];simp)
 have aa:=E2 n.places;refine ncb (fun t=>t == 3) Tryz.func50 ?_;unfold Tryz.f50;simp only[gdS];simp only[go_sem];refine NC.use (ZS n hp ab) fun j hj=>?_
 simp only[go_sem];refine qA (fun I H'=>I 1=.rp (aY n) 0/\∃J,I 3=.os J/\H' J=some (bS (zA n.places))) ⟨by simp only[go_sem],j,by simp only[go_sem],aA _ _ _⟩ ?_;clear hj;rintro ρ H ⟨h1,j,F,E⟩;generalize Z:zA n.places=es0 at E aa;refine bK (fun I H'=>I 1=.rp (aY n) 0/\∃J,I 3=.os J/\H' J=some (bS (es0++opt (decide ((n.arcs.length:Int)>1024)) ⟨4,⟨#[97,114,99,115]⟩⟩))) ?_ fun K hK=>aB (fun hb=>?_) (fun hb=>?_)
 rotate_left
 . simp only[go_sem,h1,F]
   refine aZ E ⟨rfl,rfl⟩ (by simp only[go_sem]) (by simp only[Xaa,Xad,List.length_nil];omega) (fun J ac=>?_);simp only[go_sem];refine hK _ _ ⟨by simp only[go_sem,h1],J,by simp only[go_sem],?_⟩;rw[iX (show(decide ((n.arcs.length:Int)>1024))=true from hb)];exact fL (l':=[⟨4,⟨#[97,114,99,115]⟩⟩]) rfl
 . simp only[go_sem]
   refine hK _ _ ⟨by simp only[go_sem,h1],j,by simp only[go_sem,F],?_⟩;rw[iW (show(decide ((n.arcs.length:Int)>1024))=false from hb),Xai,E]
 clear E h1 F;rintro ρ H ⟨h1,j,F,E⟩;generalize U:es0++opt (decide ((n.arcs.length:Int)>1024)) (⟨4,⟨#[97,114,99,115]⟩⟩:Fault)=es1 at E;have ae:es1.length<=es0.length+1:=by rw[<-U,Xae];have:=cL (decide ((n.arcs.length:Int)>1024)) (⟨4,⟨#[97,114,99,115]⟩⟩:Fault);omega
 simp only[go_sem,h1,F];refine⟨fun ρ H=>∃k:Nat,k<=n.arcs.length/\ρ 1=.rp (aY n) 0/\ρ 4=int k/\∃j,ρ 3=.os j/\H j=some (bS (es1++(List.range k).flatMap (Dy n))),fun ρ _=>n.arcs.length-aV (ρ 4),⟨0,Xab _,by simp only[go_sem,h1],by simp only[go_sem];rfl,j,by simp only[go_sem,F],by simpa using E⟩,?_⟩;clear E h1 F;rintro ρ H ⟨k,hk,h1,h4,j,F,E⟩;generalize V:es1++(List.range k).flatMap (Dy n)=es at E;have ad:es.length<=es1.length+3145740*k:=by
   have:=fM Y (List.range k);rw[<-V,Xae];rw[Xaz]at this;omega
 simp only[go_sem,h1,F,h4];refine aB (fun O=>?_) (fun X=>?_)
 . have O:=aQ O
   simp only[go_sem,h1,F,h4];refine NC.use (aAD n k O hp hl hs) fun i hi=>?_
   simp only[go_sem];have:=Y k;refine Cq (eZ E hi) (aA _ _ _) ⟨rfl,rfl⟩ (qP _) (by simp only[Xaa];omega) (fun J ac=>?_);simp only[go_sem,h1,F,h4,aT (show k<=4611686018427387904 by omega)];refine⟨⟨k+1,O,rfl,J,rfl,?_⟩,by simp only[aE];omega⟩;rw[iK,<-Xaw,V];exact fL rfl
 . have X:=aR hk X
   subst X;simp only[go_sem,F];exact⟨_,rfl,by rw[E,<-V,<-U,<-Z];rfl⟩
def rW(l:List Fault):Prop:=∀f∈l,f.at_.size<=4194304
theorem Xi:rW []:=by simp[rW]
theorem jA{a b:List Fault}(E:rW a)(F:rW b):rW (a++b):=fun f I=>(Xau.1 I).elim (E f) (F f)
theorem iI{b:Bool}{f:Fault}(h:f.at_.size<=4194304):rW (opt b f):=by
 cases b
 . simp[rW,opt]
 . intro g E;simp[opt]at E;subst E;exact h
theorem qD{α:Type}{F:α->List Fault}{l:List α}(h:∀x∈l,rW (F x)):rW (l.flatMap F):=fun f E=>by
 obtain⟨x,I,E⟩:=List.mem_flatMap.1 E;exact h x I f E
theorem D8{α:Type}{F:α->Fault}{l:List α}(h:∀x∈l,(F x).at_.size<=4194304):rW (l.map F):=fun f E=>by
 obtain⟨x,I,rfl⟩:=Xbd.1 E;exact h x I
theorem xE{i n:Nat}(h:i∈List.range n):i<n:=Xam.1 h
theorem VX(i:Nat):(iE i).size<=i+5:=by
 have:=oQ i;unfold iE;rw[ByteArray.size_append];have:(⟨#[97,114,99,32]⟩:ByteArray).size=4:=rfl;omega
theorem Tf(w:ByteArray)(i:Nat):(Ak w i).size<=w.size+i+2:=by
 have:=oQ i;unfold Ak;rw[ByteArray.size_append,ByteArray.size_append];have:(⟨#[32]⟩:ByteArray).size=1:=rfl;omega
theorem Lo(l:List ByteArray)(h:l.length<=1048576):rW (zA l):=jA (iI (by decide)) (qD fun i hi=>by
 have:=xE hi;have:=MY i;unfold gN;split
 . exact iI (b:=true) (by show(uC i).size<=_;omega)
 . exact iI (by show(uC i).size<=_;omega))
theorem WQ(n:Network)(E:n.places.length<=1048576)(F:n.arcs.length<=1048576):rW (He n):=by
 refine jA (jA (Lo _ E) (iI (by decide))) (qD fun i hi=>?_);have:=xE hi;have h:(iE i).size<=4194304:=by have:=VX i;omega
 exact jA (jA (jA (jA (jA (jA Xi (iI h)) (iI h)) (iI h)) (D8 fun _ _=>h)) (iI h)) (qD fun _ _=>iI h)
theorem OV(n:Network)(l:List VType)(E:l.length<=1048576):rW (tR n l):=
 jA (iI (by decide)) (qD fun i hi=>D8 fun _ _=>by have:=xE hi;have:=oQ i;show(kB i).size<=_;omega)
theorem LA(n:Network)(d T:Int)(l:List Order)(E:l.length<=1048576):rW (pR n d T l):=
 jA (iI (by decide)) (qD fun i hi=>D8 fun _ _=>by have:=xE hi;have:=oQ i;show(kB i).size<=_;omega)
theorem Em(N:Int)(l:List Pair)(w:ByteArray)(b:Bool)(F:l.length<=1048576)(E:w.size<=100):rW (rT N l w b):=jA (iI (by show w.size<=_;omega)) (qD fun i hi=>by
 have:=xE hi;have:=Tf w i;unfold gK;split
 . exact iI (b:=true) (by show(Ak w i).size<=_;omega)
 . exact iI (by show(Ak w i).size<=_;omega))
theorem SL(n:Network)(l:List VType):(tR n l).length<=9*l.length+1:=by
 have:=fM (f:=iM n l) (c:=9) (fun x=>by unfold iM;rw[Xaa];exact xT _ _ _ _) (List.range l.length);have E:=cL (!inR l.length 1 6) (⟨4,ByteArray.empty⟩:Fault);rw[tR,Xae];rw[Xaz]at this;omega
theorem Nw(n:Network)(d T:Int)(l:List Order):(pR n d T l).length<=9*l.length+1:=by
 have:=fM (f:=fY n d T l) (c:=9) (fun x=>by unfold fY;rw[Xaa];exact vK _ _ _ _ _ _) (List.range l.length);have E:=cL (decide ((l.length:Int)>10)) (⟨4,ByteArray.empty⟩:Fault);rw[pR,Xae];rw[Xaz]at this;omega
structure InB(x:Instance):Prop where
 places:x.net.places.length<=1048576
 place:∀s∈x.net.places,s.size<=1048576
 arcs:x.net.arcs.length<=1048576
 arc:∀a∈x.net.arcs,a.travel.length<=1048576/\a.slow.length<=1048576
 types:x.types.length<=1048576
 type:∀t∈x.types,t.name.size<=1048576/\t.cap.length<=1048576
 orders:x.orders.length<=1048576
 order:∀t∈x.orders,t.name.size<=1048576/\t.load.length<=1048576
 apart:x.apart.length<=1048576
 before:x.before.length<=1048576
def B5(x:Instance):List Fault:=rT x.orders.length x.apart ⟨#[97,112,97,114,116]⟩ true++rT x.orders.length x.before ⟨#[98,101,102,111,114,101]⟩ false
def qQ(x:Instance):List Fault:=(He x.net).map (lS ⟨#[110,101,116]⟩)++(tR x.net x.types).map (lS ⟨#[116,121,112,101,115]⟩) ++
 (pR x.net (jI x.types) x.types.length x.orders).map (lS ⟨#[111,114,100,101,114,115]⟩)++(B5 x).map (lS ⟨#[114,117,108,101,115]⟩)
theorem Zx(x:Instance)(h:InB x):(He x.net).length<=3300000000000:=by
 have h1:=E2 x.net.places;have O:=cL (decide ((x.net.arcs.length:Int)>1024)) (⟨4,⟨#[97,114,99,115]⟩⟩:Fault);have J:=En (f:=Dy x.net) (c:=3145740) (List.range x.net.arcs.length) fun k I=>by
   obtain⟨a,E⟩:=aN (xE I);have F:=h.arc a (kD E);exact Gx x.net k (by rw[oR E];exact F.1) (by rw[oR E];exact F.2)
 have V:=h.places;have U:=h.arcs;rw[Xaz]at J;simp only[He,Xae];omega
theorem afF(x:Instance)(h:InB x):NC prog 22 [.agg (aD x)] (bS (qQ x)) .os:=by
 have c1:PC prog 50 [.agg (aY x.net)] (.sl ((He x.net).map gV)):=NC.pc (aAB x.net h.places h.place h.arcs h.arc);have V:PC prog 51 [.agg (aY x.net),.sl (x.types.map bC)] (.sl ((tR x.net x.types).map gV)):=NC.pc (ahU x.net x.types h.types h.type h.places);have X:PC prog 52 [.agg (aY x.net),int (jI x.types),int x.types.length,.sl (x.orders.map bI)] (.sl ((pR x.net (jI x.types) x.types.length x.orders).map gV)):=NC.pc (GL x.net _ _ x.orders h.orders h.order h.places);have Y:PC prog 54 [int x.orders.length,.sl (x.apart.map cU),.sl (x.before.map cU)] (.sl ((B5 x).map gV)):=NC.pc (LV x.orders.length x.apart x.before h.apart h.before);have l1:=Zx x h;have l2:=SL x.net x.types;have l3:=Nw x.net (jI x.types) x.types.length x.orders;have l4:(B5 x).length<=2097154:=by
   have a1:=xU x.orders.length x.apart ⟨#[97,112,97,114,116]⟩ true;have a2:=xU x.orders.length x.before ⟨#[98,101,102,111,114,101]⟩ false;have:=h.apart;have:=h.before;rw[B5,Xae];omega
 have s1:=WQ x.net h.places h.arcs;have s2:=OV x.net x.types h.types;have s3:=LA x.net (jI x.types) x.types.length x.orders h.orders;have s4:rW (B5 x):=jA (Em _ _ _ _ h.apart (by decide)) (Em _ _ _ _ h.before (by decide));have ht:=h.types;have ho:=h.orders;refine ncb (fun t=>t == 27) Tryz.func22 ?_;unfold Tryz.f22;simp only[gdS];simp only[go_sem];refine PC.use c1 ?_;simp only[go_sem];refine NC.use (Fp ⟨#[110,101,116]⟩ _ (by decide) (by omega) fun f E=>Xal (s1 f E) (by decide)) fun j hj=>?_
 simp only[go_sem];refine PC.use V ?_;simp only[go_sem];refine NC.use (Fp ⟨#[116,121,112,101,115]⟩ _ (by decide) (by omega) fun f E=>Xal (s2 f E) (by decide)) fun i hi=>?_
 simp only[go_sem];refine Cq (eZ (aA _ _ _) hi) (aA _ _ _) ⟨rfl,rfl⟩ (qP _) (by simp only[Xaa];omega) (fun J U=>?_);simp only[go_sem];refine FD (by kernel_rfl) ?_;simp only[go_sem];refine⟨_,(LY x.types).q rfl,?_⟩;simp only[go_sem];have O:=fL (e:=139) (sz:=2) (enc:=gV) (H:=aI (aI (aI bV j (some (bS ((He x.net).map (lS ⟨#[110,101,116]⟩))))) i (some (bS ((tR x.net x.types).map (lS ⟨#[116,121,112,101,115]⟩))))) j none) (k:=J) (l:=(He x.net).map (lS ⟨#[110,101,116]⟩)) (l':=(tR x.net x.types).map (lS ⟨#[116,121,112,101,115]⟩)) rfl;generalize aI (aI (aI (aI bV j _) i _) j none) J _=H at O |-;generalize F:(He x.net).map (lS ⟨#[110,101,116]⟩)++(tR x.net x.types).map (lS ⟨#[116,121,112,101,115]⟩)=es at O;have Z:es.length<=3300000000000+9*x.types.length+1:=by rw[<-F,Xae,Xaa,Xaa];omega
 clear hi hj U;refine PC.use X ?_;simp only[go_sem];refine NC.use (Fp ⟨#[111,114,100,101,114,115]⟩ _ (by decide) (by omega) fun f E=>Xal (s3 f E) (by decide)) fun i hi=>?_
 simp only[go_sem];refine Cq (eZ O hi) (aA _ _ _) ⟨rfl,rfl⟩ (qP _) (by simp only[Xaa];omega) (fun k hk=>?_);simp only[go_sem];have I:=fL (e:=139) (sz:=2) (enc:=gV) (H:=aI (aI H i (some (bS ((pR x.net (jI x.types) x.types.length x.orders).map (lS ⟨#[111,114,100,101,114,115]⟩))))) J none) (k:=k) (l:=es) (l':=(pR x.net (jI x.types) x.types.length x.orders).map (lS ⟨#[111,114,100,101,114,115]⟩)) rfl;generalize aI (aI (aI H i _) J none) k _=H2 at I |-;clear hi hk;refine PC.use Y ?_;simp only[go_sem];refine NC.use (Fp ⟨#[114,117,108,101,115]⟩ _ (by decide) (by omega) fun f E=>Xal (s4 f E) (by decide)) fun q hq=>?_
 simp only[go_sem];refine Cq (eZ I hq) (aA _ _ _) ⟨rfl,rfl⟩ (qP _) (by simp only[Xaa,Xae];omega) (fun m hm=>?_);simp only[go_sem];refine⟨m,rfl,?_⟩;rw[qQ,F];exact fL rfl
end Go.Proofs.YtohmomanmikphaaGreatDoor
end
section
namespace Go.Aw.D
open Go.Aw Go.RowKit
def Sw(w:World):Sg:=⟨fun k=>k<w.heap.size,fun k=>k<w.heap.size,fun _=>.slice none 0 0,fun _=>1,0⟩
def LQ(w:World):Prop:=∀t∈XN,tH w t.1=some t.2
theorem Pf{w:World}{g:Nat}{cs:Array Value}(h:tH w g=some cs):g<w.heap.size:=by
 unfold tH at h;split at h
 . rename_i h1;exact(Array.getElem?_eq_some_iff.1 h1).1
 . cases h
theorem auN(w:World)(F:LQ w):St (Sw w) w bV:=⟨fun _ h=>h,fun _ h=>h,fun k r E=>by simp[bV]at E,fun k r E=>by simp[bV]at E,fun k k' r r' E=>by simp[bV]at E,fun t h=>⟨Pf (F t h),F t h⟩⟩
def kX(_:Nat)(x:Int):Prop:= -9223372036854775808<=x/\x<=9223372036854775807
def amK(_:Nat)(_:Bool):Prop:=True
def Ph(n:Nat)(s:ByteArray):Prop:=s.size<=n
def bL{α:Type}(b:Nat->α->Prop)(n:Nat)(l:List α):Prop:=l.length<=n/\∀x∈l,b n x
def Rd{H:Type}(e:TypeId×Value->H)(B:DataW H->Nat)(P:Program)(w:World)(t:TypeId){α:Type}(enc:α->List AV)(b:Nat->α->Prop):Prop:=
 ∀fuel cs y,DataW.trod e P w 0 (fun _=>true) true fuel t cs=some y->∃x:α,(bG (Sw w) w (enc x) cs/\∀u∈cs,u.oneCell'=true)/\∀n,B y.1<=n->b n x
section
variable{H:Type}{e:TypeId×Value->H}{P:Program}{w:World}{t:TypeId}
abbrev BK(H:Type):DataW H->Nat:=Go.Proofs.YtohmomanmikphaaGreatDoor.Rows.uptoBulk
theorem eM(F:P.underlying t=some (.int .i64)):Rd e (BK H) P w t bW kX:=by
 intro E cs y h;obtain⟨n,rfl,_,I⟩:=DataW.trod_int F h;refine⟨n,⟨by simp only[bW,bG];exact⟨_,_,rfl,by simp only[rep],rfl⟩,by simp[Value.oneCell']⟩,fun _ _=>bounds_i64 I⟩
theorem alB(F:P.underlying t=some .bool):Rd e (BK H) P w t cR amK:=by
 intro E cs y h;obtain⟨n,rfl,_⟩:=DataW.trod_bool F h;refine⟨n,⟨by simp only[cR,bG];exact⟨_,_,rfl,by simp only[rep],rfl⟩,by simp[Value.oneCell']⟩,fun _ _=>trivial⟩
theorem Ls(I:P.underlying t=some .string):Rd e (BK H) P w t gR Ph:=by
 intro E cs y h;obtain⟨s,rfl,rfl,_⟩:=DataW.trod_string I h;refine⟨s,⟨by simp only[gR,bG];exact⟨_,_,rfl,by simp only[rep],rfl⟩,by simp[Value.oneCell']⟩,fun n F=>?_⟩;simp only[BK,Go.Proofs.YtohmomanmikphaaGreatDoor.Rows.uptoBulk,Array.length_toList]at F;have:s.size=s.data.size:=rfl;simp only[Ph];omega
theorem KD{d:DataW H}{l:List (DataW H)}(h:d∈l):BK H d<=Go.Proofs.YtohmomanmikphaaGreatDoor.Rows.uptoBulkAll l:=by
 induction l with
 | nil=>cases h
 | cons x r ih=>
   simp only[Go.Proofs.YtohmomanmikphaaGreatDoor.Rows.uptoBulkAll];cases List.mem_cons.1 h with
   | inl e=>subst e;simp only[BK];omega
   | inr e=>have:=ih e;omega
theorem Zq(d:DataW H):1<=BK H d:=by
 cases d with
 | lit l=>cases l <;> simp[BK,Go.Proofs.YtohmomanmikphaaGreatDoor.Rows.uptoBulk]
 | nil=>simp[BK,Go.Proofs.YtohmomanmikphaaGreatDoor.Rows.uptoBulk]
 | ptr d=>simp[BK,Go.Proofs.YtohmomanmikphaaGreatDoor.Rows.uptoBulk]
 | slice elems spare=>simp[BK,Go.Proofs.YtohmomanmikphaaGreatDoor.Rows.uptoBulk]
 | agg parts=>simp[BK,Go.Proofs.YtohmomanmikphaaGreatDoor.Rows.uptoBulk]
 | iface t d=>simp[BK,Go.Proofs.YtohmomanmikphaaGreatDoor.Rows.uptoBulk]
 | map entries=>simp[BK,Go.Proofs.YtohmomanmikphaaGreatDoor.Rows.uptoBulk]
 | held h=>simp[BK,Go.Proofs.YtohmomanmikphaaGreatDoor.Rows.uptoBulk]
theorem Ns(l:List (DataW H)):l.length<=Go.Proofs.YtohmomanmikphaaGreatDoor.Rows.uptoBulkAll l:=by
 induction l with
 | nil=>simp[Go.Proofs.YtohmomanmikphaaGreatDoor.Rows.uptoBulkAll]
 | cons x r ih=>have:=Zq x;simp only[Go.Proofs.YtohmomanmikphaaGreatDoor.Rows.uptoBulkAll,List.length_cons,BK]at *;omega
theorem Ng{α:Type}(n:Nat)(p:Nat->α->Prop)(h:∀i,i<n->∃x,p i x):∃l:List α,l.length=n/\∀i x,l[i]?=some x->p i x:=by
 induction n with
 | zero=>exact⟨[],rfl,by simp⟩
 | succ n ih=>
   obtain⟨l,I,O⟩:=ih fun i hi=>h i (by omega)
   obtain⟨x,J⟩:=h n (by omega);refine⟨l++[x],by simp[I],fun i y E=>?_⟩;rcases Nat.lt_or_ge i n with hi|hi
   . rw[List.getElem?_append_left (by omega)]at E;exact O i y E
   . rw[List.getElem?_append_right (by omega)]at E
     have:i-l.length=0:=by
       rcases Nat.eq_zero_or_pos (i-l.length)with h0|h0
       . exact h0
       . rw[List.getElem?_eq_none (by simp;omega)]at E;simp at E
     rw[this]at E;have F:i=n:=by omega
     subst F;simp at E;subst E;exact J
theorem C1{S:Sg}{b sz:Nat}{α:Type}{enc:α->List AV}(E:∀x,(enc x).length=sz):∀(l:List α) (o:Nat),(∀i x,l[i]?=some x->dC S w b (o+i*sz) (enc x))->iG S w b sz o (l.map enc)
 | [],_,_=>by simp[iG]
 | x::r,o,h=>by
   simp only[List.map_cons,iG];refine⟨E x,by simpa using h 0 x rfl,C1 E r (o+sz) fun i y F=>?_⟩;have:=h (i+1) y (by simpa using F)
   rwa [show o+(i+1)*sz=o+sz+i*sz by rw[Nat.add_mul];omega]at this
theorem DP{a:Addr}{n:Nat}{cs:List Value}(h:w.cells? 0 a n=some cs):cs.length=n/\∀j,j<n->w.cell? (a.add j)=cs[j]?:=by
 unfold World.cells? at h;rw[if_pos (Nat.zero_le _)]at h;have E:=mapM_some_length h;exact⟨by simpa using E,fun j F=>mapM_some_get h j j (by simp[F])⟩
theorem nP{α:Type}{enc:α->List AV}{b:Nat->α->Prop}{et:TypeId}{sz:Nat}(ht:P.underlying t=some (.slice et))(hc:P.cellsOf et=sz)(F:0<sz)(Y:∀x,(enc x).length=sz)(hr:Rd e (BK H) P w et enc b):
   Rd e (BK H) P w t (fun l:List α=>[.sl (l.map enc)]) (bL b):=by
 intro ah cs y h;rcases DataW.trod_slice ht h with⟨rfl,rfl⟩|⟨a,len,cap,E,rest,n,rfl,rfl,rfl,_,ad,V,af,Z,aj,_⟩
 . refine⟨[],⟨?_,by simp[Value.oneCell']⟩,fun n _=>⟨by simp,by simp⟩⟩
   simp only[bG,rep,List.map_nil];exact⟨_,_,rfl,⟨none,0,0,rfl,rfl,Nat.le_refl _,Nat.zero_le _,by simp⟩,rfl⟩
 . have hp : ∀ i, i < len -> ∃ x : α, ∃ z cs', E[i]? = some z /\ w.cells? 0 (a.add (i * sz)) sz = some cs' /\ (bG (Sw w) w (enc x) cs' /\ ∀ u ∈ cs', u.oneCell' = true) /\ ∀ n, BK H z.1 <= n -> b n x := fun i hi => by
     have hg:=Z i hi;rw[List.getElem?_eq_getElem (by omega),hc,Option.bind_eq_some_iff]at hg;obtain⟨cs',h1,h2⟩:=hg;obtain⟨x,hx,J⟩:=hr _ _ _ h2;exact⟨x,_,cs',List.getElem?_eq_getElem (by omega),h1,hx,J⟩
   obtain⟨l,hl,U⟩:=Ng len _ hp;refine⟨l,⟨?_,by simp[Value.oneCell']⟩,fun m hm=>⟨?_,fun x hx=>?_⟩⟩
   . simp only[bG]
     refine⟨_,_,rfl,?_,rfl⟩;simp only[rep];refine⟨some a,len,cap,rfl,by simp[hl],ad,V,?_⟩;rcases Nat.eq_zero_or_pos len with h0|h0
     . left;rw[List.eq_nil_of_length_eq_zero (hl.trans h0)];rfl
     . right
       have ac:=hp 0 h0;obtain⟨_,_,ak,_,O,_⟩:=ac;have q:=(DP O).2 0 F;have ag:=(DP O).1;rw[List.getElem?_eq_getElem (by omega)]at q;simp only[Nat.zero_mul,Addr.add,if_true]at q;have I:a.spot=none/\a.block<w.heap.size:=by
         unfold World.cell? at q;split at q
         . rename_i c _ _ J
           split at q
           . simp at q
           . rename_i hs
             refine⟨by simpa using hs,?_⟩;rcases Nat.lt_or_ge a.block w.heap.size with h|h
             . exact h
             . rw[Array.getElem?_eq_none h]at J;simp at J
         . simp at q
       obtain⟨ab,ao,ai⟩:=a;obtain⟨hs,X⟩:=I;simp only at hs X;subst hs;refine⟨ab,ao,sz,rfl,X,F,C1 Y l ao fun i x hx=>?_⟩;obtain⟨z,cs',_,aa,⟨h1,h2⟩,_⟩:=U i x hx;refine jQ _ cs' _ h1 h2 fun j u hj=>?_
       obtain⟨e1,e2⟩:=DP aa;have ae:j<sz:=by
         rcases Nat.lt_or_ge j sz with h|h
         . exact h
         . rw[List.getElem?_eq_none (by omega)]at hj;simp at hj
       have:=e2 j ae;rw[hj,Addr.add_lit,Addr.add_lit]at this;exact this
   . rw[hl,<-af]
     have h1:=Ns (E.map (·.1));simp only[BK,Go.Proofs.YtohmomanmikphaaGreatDoor.Rows.uptoBulk,List.length_map]at hm h1;omega
   . obtain⟨i,hi⟩:=List.mem_iff_getElem?.1 hx
     obtain⟨z,cs',hz,_,_,J⟩:=U i x hi;refine J m ?_;have h1:=KD (List.mem_map_of_mem (f:=(·.1)) (List.mem_of_getElem? hz));simp only[BK,Go.Proofs.YtohmomanmikphaaGreatDoor.Rows.uptoBulk]at hm h1 |-;omega
theorem fld{E o m:Nat}{cs:List Value}{z:DataW H×List MemPlace}(F:P.cellsOf t=m)(h:DataW.trod e P w 0 (fun _=>true) true E t ((cs.drop o).take (P.cellsOf t))=some z):DataW.trod e P w 0 (fun _=>true) true E t ((cs.drop o).take m)=some z:=F▸h
theorem bB{S:Sg}{a b:List AV}{cs:List Value}{o m:Nat}(h:bG S w a ((cs.drop o).take m))(E:bG S w b (cs.drop (o+m))):bG S w (a++b) (cs.drop o):=by
 have:=dO a b _ _ h E
 rwa [<-List.drop_drop,List.take_append_drop]at this
theorem mH{S:Sg}{cs:List Value}{o:Nat}(h:cs.length=o):bG S w [] (cs.drop o):=by
 rw[List.drop_eq_nil_of_le (by omega)];simp[bG]
theorem bM{cs:List Value}{o m:Nat}(h:∀u∈(cs.drop o).take m,u.oneCell'=true)(F:∀u∈cs.drop (o+m),u.oneCell'=true):∀u∈cs.drop o,u.oneCell'=true:=by
 intro u E;rw[<-List.take_append_drop m (cs.drop o),List.drop_drop]at E;rcases List.mem_append.1 E with E|E
 . exact h u E
 . exact F u E
theorem pH{cs:List Value}{o:Nat}(h:cs.length=o):∀u∈cs.drop o,u.oneCell'=true:=by
 rw[List.drop_eq_nil_of_le (by omega)];simp
theorem aX{xs:List (DataW H×List MemPlace)}{i:Nat}{z:DataW H×List MemPlace}(E:xs[i]?=some z){n:Nat}(h:BK H (.agg (xs.map (·.1)))<=n):BK H z.1<=n:=by
 have h1:=KD (List.mem_map_of_mem (f:=(·.1)) (List.mem_of_getElem? E));simp only[BK,Go.Proofs.YtohmomanmikphaaGreatDoor.Rows.uptoBulk]at h h1 |-;omega
theorem bN{α:Type}{xs:List α}{n i:Nat}(h:xs.length=n)(hi:i<n):∃z,xs[i]?=some z:=⟨xs[i],List.getElem?_eq_getElem (by omega)⟩
end
section
open Go.Proofs Go.Proofs.YtohmomanmikphaaGreatDoor
variable{H:Type}{e:TypeId×Value->H}{w:World}
theorem ajE:Rd e (BK H) Tryz.prog w 22 (fun l:List ByteArray=>[.sl (l.map gR)]) (bL Ph):=nP (sz:=1) Tryz.underlying22 (by kernel_rfl) (by omega) (fun _=>rfl) (Ls Tryz.underlying9)
def MT(n:Nat)(x:Point):Prop:=kX n x.t/\kX n x.a
theorem abP:Rd e (BK H) Tryz.prog w 104 bY MT:=by
 intro V cs y h;obtain⟨xs,n,rfl,rfl,U,E,J⟩:=DataW.trod_struct Tryz.underlying104 h;have E:xs.length=2:=E;have U:cs.length=2:=U.trans (by kernel_rfl);obtain⟨X,F⟩:=bN E (show 0<2 by omega);obtain⟨Y,⟨r0,Z⟩,b0⟩:=(eM Tryz.underlying3:Rd e (BK H) Tryz.prog w 3 _ _) n ((cs.drop 0).take 1) X (fld (t:=3) (o:=0) (m:=1) (by kernel_rfl) ((J 0 _ rfl).trans F));obtain⟨z1,I⟩:=bN E (show 1<2 by omega);obtain⟨x1,⟨r1,o1⟩,b1⟩:=(eM Tryz.underlying3:Rd e (BK H) Tryz.prog w 3 _ _) n ((cs.drop 1).take 1) z1 (fld (t:=3) (o:=1) (m:=1) (by kernel_rfl) ((J 1 _ rfl).trans I));refine⟨⟨Y,x1⟩,⟨?_,?_⟩,fun m O=>⟨b0 m (aX F O),b1 m (aX I O)⟩⟩
 . have:=bB (o:=0) (m:=1) r0 (bB (o:=1) (m:=1) r1 (mH (by omega)))
   rw[List.drop_zero]at this;exact this
 . have:=bM (o:=0) (m:=1) Z (bM (o:=1) (m:=1) o1 (pH (by omega)))
   rw[List.drop_zero]at this;exact this
theorem JB:Rd e (BK H) Tryz.prog w 105 (fun l:List Point=>[.sl (l.map bY)]) (bL MT):=nP (sz:=2) Tryz.underlying105 (by kernel_rfl) (by omega) (fun _=>rfl) (abP)
def anX(n:Nat)(x:Arc):Prop:=kX n x.src/\kX n x.dst/\kX n x.profile/\kX n x.miles/\(bL MT) n x.travel/\(bL MT) n x.slow
theorem apL:Rd e (BK H) Tryz.prog w 107 fK anX:=by
 intro Z cs y h;obtain⟨xs,n,rfl,rfl,hl,E,F⟩:=DataW.trod_struct Tryz.underlying107 h;have E:xs.length=6:=E;have hl:cs.length=6:=hl.trans (by kernel_rfl);obtain⟨z0,V⟩:=bN E (show 0<6 by omega);obtain⟨x0,⟨r0,o0⟩,b0⟩:=(eM Tryz.underlying3:Rd e (BK H) Tryz.prog w 3 _ _) n ((cs.drop 0).take 1) z0 (fld (t:=3) (o:=0) (m:=1) (by kernel_rfl) ((F 0 _ rfl).trans V));obtain⟨z1,Y⟩:=bN E (show 1<6 by omega);obtain⟨x1,⟨r1,o1⟩,b1⟩:=(eM Tryz.underlying3:Rd e (BK H) Tryz.prog w 3 _ _) n ((cs.drop 1).take 1) z1 (fld (t:=3) (o:=1) (m:=1) (by kernel_rfl) ((F 1 _ rfl).trans Y));obtain⟨z2,U⟩:=bN E (show 2<6 by omega);obtain⟨x2,⟨r2,o2⟩,b2⟩:=(eM Tryz.underlying3:Rd e (BK H) Tryz.prog w 3 _ _) n ((cs.drop 2).take 1) z2 (fld (t:=3) (o:=2) (m:=1) (by kernel_rfl) ((F 2 _ rfl).trans U));obtain⟨z3,O⟩:=bN E (show 3<6 by omega);obtain⟨x3,⟨r3,o3⟩,b3⟩:=(eM Tryz.underlying3:Rd e (BK H) Tryz.prog w 3 _ _) n ((cs.drop 3).take 1) z3 (fld (t:=3) (o:=3) (m:=1) (by kernel_rfl) ((F 3 _ rfl).trans O));obtain⟨z4,X⟩:=bN E (show 4<6 by omega);obtain⟨x4,⟨r4,o4⟩,b4⟩:=(JB:Rd e (BK H) Tryz.prog w 105 _ _) n ((cs.drop 4).take 1) z4 (fld (t:=105) (o:=4) (m:=1) (by kernel_rfl) ((F 4 _ rfl).trans X));obtain⟨z5,J⟩:=bN E (show 5<6 by omega);obtain⟨x5,⟨r5,o5⟩,b5⟩:=(JB:Rd e (BK H) Tryz.prog w 105 _ _) n ((cs.drop 5).take 1) z5 (fld (t:=105) (o:=5) (m:=1) (by kernel_rfl) ((F 5 _ rfl).trans J));refine⟨⟨x0,x1,x2,x3,x4,x5⟩,⟨?_,?_⟩,fun m I=>⟨b0 m (aX V I),b1 m (aX Y I),b2 m (aX U I),b3 m (aX O I),b4 m (aX X I),b5 m (aX J I)⟩⟩
 . have:=bB (o:=0) (m:=1) r0 (bB (o:=1) (m:=1) r1 (bB (o:=2) (m:=1) r2 (bB (o:=3) (m:=1) r3 (bB (o:=4) (m:=1) r4 (bB (o:=5) (m:=1) r5 (mH (by omega)))))))
   rw[List.drop_zero]at this;exact this
 . have:=bM (o:=0) (m:=1) o0 (bM (o:=1) (m:=1) o1 (bM (o:=2) (m:=1) o2 (bM (o:=3) (m:=1) o3 (bM (o:=4) (m:=1) o4 (bM (o:=5) (m:=1) o5 (pH (by omega)))))))
   rw[List.drop_zero]at this;exact this
theorem aeE:Rd e (BK H) Tryz.prog w 23 (fun l:List Arc=>[.sl (l.map fK)]) (bL anX):=nP (sz:=6) Tryz.underlying23 (by kernel_rfl) (by omega) (fun _=>rfl) (apL)
def O8(n:Nat)(x:Network):Prop:=(bL Ph) n x.places/\(bL anX) n x.arcs
theorem To:Rd e (BK H) Tryz.prog w 25 aY O8:=by
 intro V cs y h;obtain⟨xs,n,rfl,rfl,U,E,J⟩:=DataW.trod_struct Tryz.underlying25 h;have E:xs.length=2:=E;have U:cs.length=2:=U.trans (by kernel_rfl);obtain⟨X,F⟩:=bN E (show 0<2 by omega);obtain⟨Y,⟨r0,Z⟩,b0⟩:=(ajE:Rd e (BK H) Tryz.prog w 22 _ _) n ((cs.drop 0).take 1) X (fld (t:=22) (o:=0) (m:=1) (by kernel_rfl) ((J 0 _ rfl).trans F));obtain⟨z1,I⟩:=bN E (show 1<2 by omega);obtain⟨x1,⟨r1,o1⟩,b1⟩:=(aeE:Rd e (BK H) Tryz.prog w 23 _ _) n ((cs.drop 1).take 1) z1 (fld (t:=23) (o:=1) (m:=1) (by kernel_rfl) ((J 1 _ rfl).trans I));refine⟨⟨Y,x1⟩,⟨?_,?_⟩,fun m O=>⟨b0 m (aX F O),b1 m (aX I O)⟩⟩
 . have:=bB (o:=0) (m:=1) r0 (bB (o:=1) (m:=1) r1 (mH (by omega)))
   rw[List.drop_zero]at this;exact this
 . have:=bM (o:=0) (m:=1) Z (bM (o:=1) (m:=1) o1 (pH (by omega)))
   rw[List.drop_zero]at this;exact this
theorem Vm:Rd e (BK H) Tryz.prog w 86 (fun l:List Int=>[.sl (l.map bW)]) (bL kX):=nP (sz:=1) Tryz.underlying86 (by kernel_rfl) (by omega) (fun _=>rfl) (eM Tryz.underlying3)
def SK(n:Nat)(x:VType):Prop:=Ph n x.name/\kX n x.count/\kX n x.src/\kX n x.dst/\(bL kX) n x.cap/\kX n x.skills/\kX n x.profile/\kX n x.start/\kX n x.close/\kX n x.drive/\kX n x.rest/\kX n x.fixed/\kX n x.perMile/\kX n x.perTick
theorem Z2:Rd e (BK H) Tryz.prog w 113 bC SK:=by
 intro a6 cs y h;obtain⟨xs,n,rfl,rfl,hl,E,F⟩:=DataW.trod_struct Tryz.underlying113 h;have E:xs.length=14:=E;have hl:cs.length=14:=hl.trans (by kernel_rfl);obtain⟨z0,af⟩:=bN E (show 0<14 by omega);obtain⟨x0,⟨r0,o0⟩,b0⟩:=(Ls Tryz.underlying9:Rd e (BK H) Tryz.prog w 9 _ _) n ((cs.drop 0).take 1) z0 (fld (t:=9) (o:=0) (m:=1) (by kernel_rfl) ((F 0 _ rfl).trans af));obtain⟨z1,ag⟩:=bN E (show 1<14 by omega);obtain⟨x1,⟨r1,o1⟩,b1⟩:=(eM Tryz.underlying3:Rd e (BK H) Tryz.prog w 3 _ _) n ((cs.drop 1).take 1) z1 (fld (t:=3) (o:=1) (m:=1) (by kernel_rfl) ((F 1 _ rfl).trans ag));obtain⟨z2,Z⟩:=bN E (show 2<14 by omega);obtain⟨x2,⟨r2,o2⟩,b2⟩:=(eM Tryz.underlying3:Rd e (BK H) Tryz.prog w 3 _ _) n ((cs.drop 2).take 1) z2 (fld (t:=3) (o:=2) (m:=1) (by kernel_rfl) ((F 2 _ rfl).trans Z));obtain⟨z3,ad⟩:=bN E (show 3<14 by omega);obtain⟨x3,⟨r3,o3⟩,b3⟩:=(eM Tryz.underlying3:Rd e (BK H) Tryz.prog w 3 _ _) n ((cs.drop 3).take 1) z3 (fld (t:=3) (o:=3) (m:=1) (by kernel_rfl) ((F 3 _ rfl).trans ad));obtain⟨z4,aa⟩:=bN E (show 4<14 by omega);obtain⟨x4,⟨r4,o4⟩,b4⟩:=(Vm:Rd e (BK H) Tryz.prog w 86 _ _) n ((cs.drop 4).take 1) z4 (fld (t:=86) (o:=4) (m:=1) (by kernel_rfl) ((F 4 _ rfl).trans aa));obtain⟨z5,Y⟩:=bN E (show 5<14 by omega);obtain⟨x5,⟨r5,o5⟩,b5⟩:=(eM Tryz.underlying3:Rd e (BK H) Tryz.prog w 3 _ _) n ((cs.drop 5).take 1) z5 (fld (t:=3) (o:=5) (m:=1) (by kernel_rfl) ((F 5 _ rfl).trans Y));obtain⟨z6,X⟩:=bN E (show 6<14 by omega);obtain⟨x6,⟨r6,o6⟩,b6⟩:=(eM Tryz.underlying3:Rd e (BK H) Tryz.prog w 3 _ _) n ((cs.drop 6).take 1) z6 (fld (t:=3) (o:=6) (m:=1) (by kernel_rfl) ((F 6 _ rfl).trans X));obtain⟨z7,ae⟩:=bN E (show 7<14 by omega);obtain⟨x7,⟨r7,o7⟩,b7⟩:=(eM Tryz.underlying3:Rd e (BK H) Tryz.prog w 3 _ _) n ((cs.drop 7).take 1) z7 (fld (t:=3) (o:=7) (m:=1) (by kernel_rfl) ((F 7 _ rfl).trans ae));obtain⟨z8,ac⟩:=bN E (show 8<14 by omega);obtain⟨x8,⟨r8,o8⟩,b8⟩:=(eM Tryz.underlying3:Rd e (BK H) Tryz.prog w 3 _ _) n ((cs.drop 8).take 1) z8 (fld (t:=3) (o:=8) (m:=1) (by kernel_rfl) ((F 8 _ rfl).trans ac));obtain⟨z9,ab⟩:=bN E (show 9<14 by omega);obtain⟨x9,⟨r9,o9⟩,b9⟩:=(eM Tryz.underlying3:Rd e (BK H) Tryz.prog w 3 _ _) n ((cs.drop 9).take 1) z9 (fld (t:=3) (o:=9) (m:=1) (by kernel_rfl) ((F 9 _ rfl).trans ab));obtain⟨az,O⟩:=bN E (show 10<14 by omega);obtain⟨au,⟨a5,ax⟩,ar⟩:=(eM Tryz.underlying3:Rd e (BK H) Tryz.prog w 3 _ _) n ((cs.drop 10).take 1) az (fld (t:=3) (o:=10) (m:=1) (by kernel_rfl) ((F 10 _ rfl).trans O));obtain⟨ap,V⟩:=bN E (show 11<14 by omega);obtain⟨an,⟨a4,aq⟩,ak⟩:=(eM Tryz.underlying3:Rd e (BK H) Tryz.prog w 3 _ _) n ((cs.drop 11).take 1) ap (fld (t:=3) (o:=11) (m:=1) (by kernel_rfl) ((F 11 _ rfl).trans V));obtain⟨ah,J⟩:=bN E (show 12<14 by omega);obtain⟨al,⟨a0,aj⟩,aw⟩:=(eM Tryz.underlying3:Rd e (BK H) Tryz.prog w 3 _ _) n ((cs.drop 12).take 1) ah (fld (t:=3) (o:=12) (m:=1) (by kernel_rfl) ((F 12 _ rfl).trans J));obtain⟨ay,U⟩:=bN E (show 13<14 by omega);obtain⟨ao,⟨am,av⟩,ai⟩:=(eM Tryz.underlying3:Rd e (BK H) Tryz.prog w 3 _ _) n ((cs.drop 13).take 1) ay (fld (t:=3) (o:=13) (m:=1) (by kernel_rfl) ((F 13 _ rfl).trans U));refine⟨⟨x0,x1,x2,x3,x4,x5,x6,x7,x8,x9,au,an,al,ao⟩,⟨?_,?_⟩,fun m I=>⟨b0 m (aX af I),b1 m (aX ag I),b2 m (aX Z I),b3 m (aX ad I),b4 m (aX aa I),b5 m (aX Y I),b6 m (aX X I),b7 m (aX ae I),b8 m (aX ac I),b9 m (aX ab I),ar m (aX O I),ak m (aX V I),aw m (aX J I),ai m (aX U I)⟩⟩
 . have:=bB (o:=0) (m:=1) r0 (bB (o:=1) (m:=1) r1 (bB (o:=2) (m:=1) r2 (bB (o:=3) (m:=1) r3 (bB (o:=4) (m:=1) r4 (bB (o:=5) (m:=1) r5 (bB (o:=6) (m:=1) r6 (bB (o:=7) (m:=1) r7 (bB (o:=8) (m:=1) r8 (bB (o:=9) (m:=1) r9 (bB (o:=10) (m:=1) a5 (bB (o:=11) (m:=1) a4 (bB (o:=12) (m:=1) a0 (bB (o:=13) (m:=1) am (mH (by omega)))))))))))))))
   rw[List.drop_zero]at this;exact this
 . have:=bM (o:=0) (m:=1) o0 (bM (o:=1) (m:=1) o1 (bM (o:=2) (m:=1) o2 (bM (o:=3) (m:=1) o3 (bM (o:=4) (m:=1) o4 (bM (o:=5) (m:=1) o5 (bM (o:=6) (m:=1) o6 (bM (o:=7) (m:=1) o7 (bM (o:=8) (m:=1) o8 (bM (o:=9) (m:=1) o9 (bM (o:=10) (m:=1) ax (bM (o:=11) (m:=1) aq (bM (o:=12) (m:=1) aj (bM (o:=13) (m:=1) av (pH (by omega)))))))))))))))
   rw[List.drop_zero]at this;exact this
theorem W8:Rd e (BK H) Tryz.prog w 26 (fun l:List VType=>[.sl (l.map bC)]) (bL SK):=nP (sz:=14) Tryz.underlying26 (by kernel_rfl) (by omega) (fun _=>rfl) (Z2)
def YB(n:Nat)(x:Stop):Prop:=kX n x.place/\kX n x.start/\kX n x.close/\kX n x.service
theorem U5:Rd e (BK H) Tryz.prog w 109 dV YB:=by
 intro Y cs y h;obtain⟨xs,n,rfl,rfl,X,E,U⟩:=DataW.trod_struct Tryz.underlying109 h;have E:xs.length=4:=E;have X:cs.length=4:=X.trans (by kernel_rfl);obtain⟨z0,J⟩:=bN E (show 0<4 by omega);obtain⟨x0,⟨r0,o0⟩,b0⟩:=(eM Tryz.underlying3:Rd e (BK H) Tryz.prog w 3 _ _) n ((cs.drop 0).take 1) z0 (fld (t:=3) (o:=0) (m:=1) (by kernel_rfl) ((U 0 _ rfl).trans J));obtain⟨z1,O⟩:=bN E (show 1<4 by omega);obtain⟨x1,⟨r1,o1⟩,b1⟩:=(eM Tryz.underlying3:Rd e (BK H) Tryz.prog w 3 _ _) n ((cs.drop 1).take 1) z1 (fld (t:=3) (o:=1) (m:=1) (by kernel_rfl) ((U 1 _ rfl).trans O));obtain⟨Z,I⟩:=bN E (show 2<4 by omega);obtain⟨x2,⟨r2,o2⟩,b2⟩:=(eM Tryz.underlying3:Rd e (BK H) Tryz.prog w 3 _ _) n ((cs.drop 2).take 1) Z (fld (t:=3) (o:=2) (m:=1) (by kernel_rfl) ((U 2 _ rfl).trans I));obtain⟨z3,F⟩:=bN E (show 3<4 by omega);obtain⟨x3,⟨r3,o3⟩,b3⟩:=(eM Tryz.underlying3:Rd e (BK H) Tryz.prog w 3 _ _) n ((cs.drop 3).take 1) z3 (fld (t:=3) (o:=3) (m:=1) (by kernel_rfl) ((U 3 _ rfl).trans F));refine⟨⟨x0,x1,x2,x3⟩,⟨?_,?_⟩,fun m V=>⟨b0 m (aX J V),b1 m (aX O V),b2 m (aX I V),b3 m (aX F V)⟩⟩
 . have:=bB (o:=0) (m:=1) r0 (bB (o:=1) (m:=1) r1 (bB (o:=2) (m:=1) r2 (bB (o:=3) (m:=1) r3 (mH (by omega)))))
   rw[List.drop_zero]at this;exact this
 . have:=bM (o:=0) (m:=1) o0 (bM (o:=1) (m:=1) o1 (bM (o:=2) (m:=1) o2 (bM (o:=3) (m:=1) o3 (pH (by omega)))))
   rw[List.drop_zero]at this;exact this
def RZ(n:Nat)(x:Order):Prop:=Ph n x.name/\(bL kX) n x.load/\YB n x.pick/\YB n x.drop/\kX n x.skills/\kX n x.penalty/\kX n x.split/\kX n x.last/\kX n x.now/\amK n x.off
theorem ZX:Rd e (BK H) Tryz.prog w 111 bI RZ:=by
 intro ad cs y h;obtain⟨xs,n,rfl,rfl,hl,E,F⟩:=DataW.trod_struct Tryz.underlying111 h;have E:xs.length=10:=E;have hl:cs.length=16:=hl.trans (by kernel_rfl);obtain⟨z0,aa⟩:=bN E (show 0<10 by omega);obtain⟨x0,⟨r0,o0⟩,b0⟩:=(Ls Tryz.underlying9:Rd e (BK H) Tryz.prog w 9 _ _) n ((cs.drop 0).take 1) z0 (fld (t:=9) (o:=0) (m:=1) (by kernel_rfl) ((F 0 _ rfl).trans aa));obtain⟨z1,ac⟩:=bN E (show 1<10 by omega);obtain⟨x1,⟨r1,o1⟩,b1⟩:=(Vm:Rd e (BK H) Tryz.prog w 86 _ _) n ((cs.drop 1).take 1) z1 (fld (t:=86) (o:=1) (m:=1) (by kernel_rfl) ((F 1 _ rfl).trans ac));obtain⟨z2,Z⟩:=bN E (show 2<10 by omega);obtain⟨x2,⟨r2,o2⟩,b2⟩:=(U5:Rd e (BK H) Tryz.prog w 109 _ _) n ((cs.drop 2).take 4) z2 (fld (t:=109) (o:=2) (m:=4) (by kernel_rfl) ((F 2 _ rfl).trans Z));obtain⟨z3,X⟩:=bN E (show 3<10 by omega);obtain⟨x3,⟨r3,o3⟩,b3⟩:=(U5:Rd e (BK H) Tryz.prog w 109 _ _) n ((cs.drop 6).take 4) z3 (fld (t:=109) (o:=6) (m:=4) (by kernel_rfl) ((F 3 _ rfl).trans X));obtain⟨z4,ab⟩:=bN E (show 4<10 by omega);obtain⟨x4,⟨r4,o4⟩,b4⟩:=(eM Tryz.underlying3:Rd e (BK H) Tryz.prog w 3 _ _) n ((cs.drop 10).take 1) z4 (fld (t:=3) (o:=10) (m:=1) (by kernel_rfl) ((F 4 _ rfl).trans ab));obtain⟨z5,V⟩:=bN E (show 5<10 by omega);obtain⟨x5,⟨r5,o5⟩,b5⟩:=(eM Tryz.underlying3:Rd e (BK H) Tryz.prog w 3 _ _) n ((cs.drop 11).take 1) z5 (fld (t:=3) (o:=11) (m:=1) (by kernel_rfl) ((F 5 _ rfl).trans V));obtain⟨z6,U⟩:=bN E (show 6<10 by omega);obtain⟨x6,⟨r6,o6⟩,b6⟩:=(eM Tryz.underlying3:Rd e (BK H) Tryz.prog w 3 _ _) n ((cs.drop 12).take 1) z6 (fld (t:=3) (o:=12) (m:=1) (by kernel_rfl) ((F 6 _ rfl).trans U));obtain⟨z7,Y⟩:=bN E (show 7<10 by omega);obtain⟨x7,⟨r7,o7⟩,b7⟩:=(eM Tryz.underlying3:Rd e (BK H) Tryz.prog w 3 _ _) n ((cs.drop 13).take 1) z7 (fld (t:=3) (o:=13) (m:=1) (by kernel_rfl) ((F 7 _ rfl).trans Y));obtain⟨z8,O⟩:=bN E (show 8<10 by omega);obtain⟨x8,⟨r8,o8⟩,b8⟩:=(eM Tryz.underlying3:Rd e (BK H) Tryz.prog w 3 _ _) n ((cs.drop 14).take 1) z8 (fld (t:=3) (o:=14) (m:=1) (by kernel_rfl) ((F 8 _ rfl).trans O));obtain⟨z9,J⟩:=bN E (show 9<10 by omega);obtain⟨x9,⟨r9,o9⟩,b9⟩:=(alB Tryz.underlying4:Rd e (BK H) Tryz.prog w 4 _ _) n ((cs.drop 15).take 1) z9 (fld (t:=4) (o:=15) (m:=1) (by kernel_rfl) ((F 9 _ rfl).trans J));refine⟨⟨x0,x1,x2,x3,x4,x5,x6,x7,x8,x9⟩,⟨?_,?_⟩,fun m I=>⟨b0 m (aX aa I),b1 m (aX ac I),b2 m (aX Z I),b3 m (aX X I),b4 m (aX ab I),b5 m (aX V I),b6 m (aX U I),b7 m (aX Y I),b8 m (aX O I),b9 m (aX J I)⟩⟩
 . have:=bB (o:=0) (m:=1) r0 (bB (o:=1) (m:=1) r1 (bB (o:=2) (m:=4) r2 (bB (o:=6) (m:=4) r3 (bB (o:=10) (m:=1) r4 (bB (o:=11) (m:=1) r5 (bB (o:=12) (m:=1) r6 (bB (o:=13) (m:=1) r7 (bB (o:=14) (m:=1) r8 (bB (o:=15) (m:=1) r9 (mH (by omega)))))))))))
   rw[List.drop_zero]at this;exact this
 . have:=bM (o:=0) (m:=1) o0 (bM (o:=1) (m:=1) o1 (bM (o:=2) (m:=4) o2 (bM (o:=6) (m:=4) o3 (bM (o:=10) (m:=1) o4 (bM (o:=11) (m:=1) o5 (bM (o:=12) (m:=1) o6 (bM (o:=13) (m:=1) o7 (bM (o:=14) (m:=1) o8 (bM (o:=15) (m:=1) o9 (pH (by omega)))))))))))
   rw[List.drop_zero]at this;exact this
theorem V4:Rd e (BK H) Tryz.prog w 27 (fun l:List Order=>[.sl (l.map bI)]) (bL RZ):=nP (sz:=16) Tryz.underlying27 (by kernel_rfl) (by omega) (fun _=>rfl) (ZX)
def VD(n:Nat)(x:Pair):Prop:=kX n x.a/\kX n x.b
theorem alJ:Rd e (BK H) Tryz.prog w 194 cU VD:=by
 intro V cs y h;obtain⟨xs,n,rfl,rfl,U,E,J⟩:=DataW.trod_array Tryz.underlying194 h;have U:cs.length=2:=U.trans (by kernel_rfl);obtain⟨X,F⟩:=bN E (show 0<2 by omega);obtain⟨Y,⟨r0,Z⟩,b0⟩:=(eM Tryz.underlying3:Rd e (BK H) Tryz.prog w 3 _ _) n ((cs.drop 0).take 1) X (fld (t:=3) (o:=0) (m:=1) (by kernel_rfl) ((J 0 (by omega)).trans F));obtain⟨z1,I⟩:=bN E (show 1<2 by omega);obtain⟨x1,⟨r1,o1⟩,b1⟩:=(eM Tryz.underlying3:Rd e (BK H) Tryz.prog w 3 _ _) n ((cs.drop 1).take 1) z1 (fld (t:=3) (o:=1) (m:=1) (by kernel_rfl) ((J 1 (by omega)).trans I));refine⟨⟨Y,x1⟩,⟨?_,?_⟩,fun m O=>⟨b0 m (aX F O),b1 m (aX I O)⟩⟩
 . have:=bB (o:=0) (m:=1) r0 (bB (o:=1) (m:=1) r1 (mH (by omega)))
   rw[List.drop_zero]at this;exact this
 . have:=bM (o:=0) (m:=1) Z (bM (o:=1) (m:=1) o1 (pH (by omega)))
   rw[List.drop_zero]at this;exact this
theorem N1:Rd e (BK H) Tryz.prog w 28 (fun l:List Pair=>[.sl (l.map cU)]) (bL VD):=nP (sz:=2) Tryz.underlying28 (by kernel_rfl) (by omega) (fun _=>rfl) (alJ)
def DL(n:Nat)(x:Instance):Prop:=O8 n x.net/\(bL SK) n x.types/\(bL RZ) n x.orders/\(bL VD) n x.apart/\(bL VD) n x.before
theorem Oy:Rd e (BK H) Tryz.prog w 30 aD DL:=by
 intro Y cs y h;obtain⟨xs,n,rfl,rfl,Z,E,F⟩:=DataW.trod_struct Tryz.underlying30 h;have E:xs.length=5:=E;have Z:cs.length=6:=Z.trans (by kernel_rfl);obtain⟨z0,U⟩:=bN E (show 0<5 by omega);obtain⟨x0,⟨r0,o0⟩,b0⟩:=(To:Rd e (BK H) Tryz.prog w 25 _ _) n ((cs.drop 0).take 2) z0 (fld (t:=25) (o:=0) (m:=2) (by kernel_rfl) ((F 0 _ rfl).trans U));obtain⟨z1,X⟩:=bN E (show 1<5 by omega);obtain⟨x1,⟨r1,o1⟩,b1⟩:=(W8:Rd e (BK H) Tryz.prog w 26 _ _) n ((cs.drop 2).take 1) z1 (fld (t:=26) (o:=2) (m:=1) (by kernel_rfl) ((F 1 _ rfl).trans X));obtain⟨z2,O⟩:=bN E (show 2<5 by omega);obtain⟨x2,⟨r2,o2⟩,b2⟩:=(V4:Rd e (BK H) Tryz.prog w 27 _ _) n ((cs.drop 3).take 1) z2 (fld (t:=27) (o:=3) (m:=1) (by kernel_rfl) ((F 2 _ rfl).trans O));obtain⟨z3,J⟩:=bN E (show 3<5 by omega);obtain⟨x3,⟨r3,o3⟩,b3⟩:=(N1:Rd e (BK H) Tryz.prog w 28 _ _) n ((cs.drop 4).take 1) z3 (fld (t:=28) (o:=4) (m:=1) (by kernel_rfl) ((F 3 _ rfl).trans J));obtain⟨z4,V⟩:=bN E (show 4<5 by omega);obtain⟨x4,⟨r4,o4⟩,b4⟩:=(N1:Rd e (BK H) Tryz.prog w 28 _ _) n ((cs.drop 5).take 1) z4 (fld (t:=28) (o:=5) (m:=1) (by kernel_rfl) ((F 4 _ rfl).trans V));refine⟨⟨x0,x1,x2,x3,x4⟩,⟨?_,?_⟩,fun m I=>⟨b0 m (aX U I),b1 m (aX X I),b2 m (aX O I),b3 m (aX J I),b4 m (aX V I)⟩⟩
 . have:=bB (o:=0) (m:=2) r0 (bB (o:=2) (m:=1) r1 (bB (o:=3) (m:=1) r2 (bB (o:=4) (m:=1) r3 (bB (o:=5) (m:=1) r4 (mH (by omega))))))
   rw[List.drop_zero]at this;exact this
 . have:=bM (o:=0) (m:=2) o0 (bM (o:=2) (m:=1) o1 (bM (o:=3) (m:=1) o2 (bM (o:=4) (m:=1) o3 (bM (o:=5) (m:=1) o4 (pH (by omega))))))
   rw[List.drop_zero]at this;exact this
def anC(n:Nat)(x:Cut):Prop:=kX n x.kind/\kX n x.set/\kX n x.n
theorem aqE:Rd e (BK H) Tryz.prog w 115 jM anC:=by
 intro X cs y h;obtain⟨xs,n,rfl,rfl,V,E,O⟩:=DataW.trod_struct Tryz.underlying115 h;have E:xs.length=3:=E;have V:cs.length=3:=V.trans (by kernel_rfl);obtain⟨Z,I⟩:=bN E (show 0<3 by omega);obtain⟨x0,⟨r0,o0⟩,b0⟩:=(eM Tryz.underlying3:Rd e (BK H) Tryz.prog w 3 _ _) n ((cs.drop 0).take 1) Z (fld (t:=3) (o:=0) (m:=1) (by kernel_rfl) ((O 0 _ rfl).trans I));obtain⟨z1,J⟩:=bN E (show 1<3 by omega);obtain⟨x1,⟨r1,o1⟩,b1⟩:=(eM Tryz.underlying3:Rd e (BK H) Tryz.prog w 3 _ _) n ((cs.drop 1).take 1) z1 (fld (t:=3) (o:=1) (m:=1) (by kernel_rfl) ((O 1 _ rfl).trans J));obtain⟨Y,F⟩:=bN E (show 2<3 by omega);obtain⟨x2,⟨r2,o2⟩,b2⟩:=(eM Tryz.underlying3:Rd e (BK H) Tryz.prog w 3 _ _) n ((cs.drop 2).take 1) Y (fld (t:=3) (o:=2) (m:=1) (by kernel_rfl) ((O 2 _ rfl).trans F));refine⟨⟨x0,x1,x2⟩,⟨?_,?_⟩,fun m U=>⟨b0 m (aX I U),b1 m (aX J U),b2 m (aX F U)⟩⟩
 . have:=bB (o:=0) (m:=1) r0 (bB (o:=1) (m:=1) r1 (bB (o:=2) (m:=1) r2 (mH (by omega))))
   rw[List.drop_zero]at this;exact this
 . have:=bM (o:=0) (m:=1) o0 (bM (o:=1) (m:=1) o1 (bM (o:=2) (m:=1) o2 (pH (by omega))))
   rw[List.drop_zero]at this;exact this
theorem akI:Rd e (BK H) Tryz.prog w 31 (fun l:List Cut=>[.sl (l.map jM)]) (bL anC):=nP (sz:=3) Tryz.underlying31 (by kernel_rfl) (by omega) (fun _=>rfl) (aqE)
def Be(n:Nat)(x:Decision):Prop:=kX n x.kind/\kX n x.a/\kX n x.b/\kX n x.n
theorem Nv:Rd e (BK H) Tryz.prog w 95 bE Be:=by
 intro Y cs y h;obtain⟨xs,n,rfl,rfl,X,E,U⟩:=DataW.trod_struct Tryz.underlying95 h;have E:xs.length=4:=E;have X:cs.length=4:=X.trans (by kernel_rfl);obtain⟨z0,J⟩:=bN E (show 0<4 by omega);obtain⟨x0,⟨r0,o0⟩,b0⟩:=(eM Tryz.underlying3:Rd e (BK H) Tryz.prog w 3 _ _) n ((cs.drop 0).take 1) z0 (fld (t:=3) (o:=0) (m:=1) (by kernel_rfl) ((U 0 _ rfl).trans J));obtain⟨z1,O⟩:=bN E (show 1<4 by omega);obtain⟨x1,⟨r1,o1⟩,b1⟩:=(eM Tryz.underlying3:Rd e (BK H) Tryz.prog w 3 _ _) n ((cs.drop 1).take 1) z1 (fld (t:=3) (o:=1) (m:=1) (by kernel_rfl) ((U 1 _ rfl).trans O));obtain⟨Z,I⟩:=bN E (show 2<4 by omega);obtain⟨x2,⟨r2,o2⟩,b2⟩:=(eM Tryz.underlying3:Rd e (BK H) Tryz.prog w 3 _ _) n ((cs.drop 2).take 1) Z (fld (t:=3) (o:=2) (m:=1) (by kernel_rfl) ((U 2 _ rfl).trans I));obtain⟨z3,F⟩:=bN E (show 3<4 by omega);obtain⟨x3,⟨r3,o3⟩,b3⟩:=(eM Tryz.underlying3:Rd e (BK H) Tryz.prog w 3 _ _) n ((cs.drop 3).take 1) z3 (fld (t:=3) (o:=3) (m:=1) (by kernel_rfl) ((U 3 _ rfl).trans F));refine⟨⟨x0,x1,x2,x3⟩,⟨?_,?_⟩,fun m V=>⟨b0 m (aX J V),b1 m (aX O V),b2 m (aX I V),b3 m (aX F V)⟩⟩
 . have:=bB (o:=0) (m:=1) r0 (bB (o:=1) (m:=1) r1 (bB (o:=2) (m:=1) r2 (bB (o:=3) (m:=1) r3 (mH (by omega)))))
   rw[List.drop_zero]at this;exact this
 . have:=bM (o:=0) (m:=1) o0 (bM (o:=1) (m:=1) o1 (bM (o:=2) (m:=1) o2 (bM (o:=3) (m:=1) o3 (pH (by omega)))))
   rw[List.drop_zero]at this;exact this
theorem Mk:Rd e (BK H) Tryz.prog w 32 (fun l:List Decision=>[.sl (l.map bE)]) (bL Be):=nP (sz:=4) Tryz.underlying32 (by kernel_rfl) (by omega) (fun _=>rfl) (Nv)
theorem akQ:Rd e (BK H) Tryz.prog w 33 (fun l:List ByteArray=>[.sl (l.map gR)]) (bL Ph):=nP (sz:=1) Tryz.underlying33 (by kernel_rfl) (by omega) (fun _=>rfl) (Ls Tryz.underlying44)
def amB(n:Nat)(x:Ask3):Prop:=DL n x.x/\(bL anC) n x.cuts/\(bL Be) n x.d/\(bL Ph) n x.dual
theorem ahF:Rd e (BK H) Tryz.prog w 35 jF amB:=by
 intro Y cs y h;obtain⟨xs,n,rfl,rfl,X,E,U⟩:=DataW.trod_struct Tryz.underlying35 h;have E:xs.length=4:=E;have X:cs.length=9:=X.trans (by kernel_rfl);obtain⟨z0,J⟩:=bN E (show 0<4 by omega);obtain⟨x0,⟨r0,o0⟩,b0⟩:=(Oy:Rd e (BK H) Tryz.prog w 30 _ _) n ((cs.drop 0).take 6) z0 (fld (t:=30) (o:=0) (m:=6) (by kernel_rfl) ((U 0 _ rfl).trans J));obtain⟨z1,O⟩:=bN E (show 1<4 by omega);obtain⟨x1,⟨r1,o1⟩,b1⟩:=(akI:Rd e (BK H) Tryz.prog w 31 _ _) n ((cs.drop 6).take 1) z1 (fld (t:=31) (o:=6) (m:=1) (by kernel_rfl) ((U 1 _ rfl).trans O));obtain⟨Z,I⟩:=bN E (show 2<4 by omega);obtain⟨x2,⟨r2,o2⟩,b2⟩:=(Mk:Rd e (BK H) Tryz.prog w 32 _ _) n ((cs.drop 7).take 1) Z (fld (t:=32) (o:=7) (m:=1) (by kernel_rfl) ((U 2 _ rfl).trans I));obtain⟨z3,F⟩:=bN E (show 3<4 by omega);obtain⟨x3,⟨r3,o3⟩,b3⟩:=(akQ:Rd e (BK H) Tryz.prog w 33 _ _) n ((cs.drop 8).take 1) z3 (fld (t:=33) (o:=8) (m:=1) (by kernel_rfl) ((U 3 _ rfl).trans F));refine⟨⟨x0,x1,x2,x3⟩,⟨?_,?_⟩,fun m V=>⟨b0 m (aX J V),b1 m (aX O V),b2 m (aX I V),b3 m (aX F V)⟩⟩
 . have:=bB (o:=0) (m:=6) r0 (bB (o:=6) (m:=1) r1 (bB (o:=7) (m:=1) r2 (bB (o:=8) (m:=1) r3 (mH (by omega)))))
   rw[List.drop_zero]at this;exact this
 . have:=bM (o:=0) (m:=6) o0 (bM (o:=6) (m:=1) o1 (bM (o:=7) (m:=1) o2 (bM (o:=8) (m:=1) o3 (pH (by omega)))))
   rw[List.drop_zero]at this;exact this
end
end Go.Aw.D
end
section
namespace Go.Proofs.YtohmomanmikphaaGreatDoor
open Go.Aw Go.Aw.D Go.Proofs Go.RowKit Go.ChangeShapes Go.WideShapes Go.ChangeAt
section
variable{H:Type}{e:TypeId×Value->H}{P:Program}{W W':World}
theorem Pu{f:FuncId}{args:List AV}{vals:List Value}(h:PC P f args (.v (.bool true)))(V:LQ W)(J:bG (Sw W) W args vals):
   Calls P f vals.toArray W fun F W'=>F=.returned (.bool true)/\Below W.heap.size W W':=
 (h (Sw W) W vals (auN W V) (fun _ h=>h) J).mono fun F W' ⟨v,r,H',S',O,U,_,I,E,_⟩=>by
   subst U;simp only[rep]at I;subst I;exact⟨O,E.os,E.tape,E.output,E.size,E.same⟩
theorem Cs(U:laidOutB P=true)(O:Below W.heap.size W W'):∀{F:List TypeId} {vs:List Value} {ds:List (DataW H)} {ps:List MemPlace},(∀t∈F,P.readableRec t=true/\t<P.types.size) ->
   DataW.TrodAll e P W 0 (fun _=>true) true F vs ds ps->(∀x∈ps,x.block<W.heap.size)->∀I:Nat->Bool,(∀x∈ps,I x.block=true)->DataW.TrodAll e P W' 0 I true F vs ds ps
 | [],[],[],_,_,h,_,_,_=>h
 | t::F,v::vs,d::ds,ps,ht,⟨p,q,h1,h2,he⟩,hlt,I,hs=>by
   subst he;have h0:=ht t (by simp);exact⟨p,q,WideElems.Trod_stays U h0.1 h0.2 h1 (fun x E=>O.same (hlt x (by simp[E]))) (fun x E=>hs x (by simp[E])),
     Cs U O (fun t J=>ht t (by simp[J])) h2 (fun x E=>hlt x (by simp[E])) I (fun x E=>hs x (by simp[E])),rfl⟩
theorem Tx{t:TypeId}{fs:Array Field}{α:Type}{enc:α->List AV}{b:Nat->α->Prop}{r:Reach}{O:Nat}{v:Value}{d:DataW H}{J:List MemPlace}(V:P.underlying t=some (.struct fs))
   (U:Rd e (BK H) P W t enc b) (E:Value.okWide P W r O t v) (Y:DataW.Trod e P W 0 (fun _=>true) true t v d J):∃x:α,rep (Sw W) W (.agg (enc x)) v/\∀n,BK H d<=n->b n x:=by
 obtain⟨cs,rfl,_⟩:=okWide_struct V E;obtain⟨F,h⟩:=Y;obtain⟨x,⟨h1,I⟩,X⟩:=U F _ _ h;refine⟨x,?_,X⟩;simp only[rep];exact⟨cs.toList,by simp,h1,I⟩
theorem VN{fn:Func}{s:ChangeSpec}{args:Array Value}{ds gs:List (DataW H)}{before:List MemPlace}(hl:laidOutB P=true)(ae:∀t∈fn.params.toList,P.readableRec t=true/\t<P.types.size)
   (E:s.vars=[]) {tb:TypeId} (U:P.underlying tb=some .bool) (V:fn.resultTypes=#[tb]) (hW:DataW.Whole e P fn.params.toList s.vars false W args.toList ds gs before)
   (Z:(s.fn H (ds++gs)).results=[.lit (.bool true)]) (J:(s.fn H (ds++gs)).args=ds) (ad:(s.fn H (ds++gs)).vars=[]) (hb:Below W.heap.size W W'):
   s.post e P fn false true false false W args (.bool true) W':=by
 have O:=hW.lt;have ac:=hW;obtain⟨p,q,hA,hV,rfl,aa,af⟩:=hW;rw[E]at hV;obtain⟨rfl,rfl⟩:=trodVars_none hV;have hk:W.keptBut W' (·∈p++[]):=hb.frame _;have Y:∀x∈p++[],(fun b=>decide (b<W.heap.size)) x.block=true:=fun x I=>by simpa using O x I
 have r1:∀(b:Nat) (F:Nat->Bool) (hd:Bool),DataW.TrodAll e P W' b F hd fn.resultTypes.toList ((Value.bool true).resultList fn.resultTypes.size) (s.fn H (ds++[])).results []:=fun b F hd=>by
   rw[V,Z];exact trodAll_cons_mk (shut_bool U _) trodAll_mk0
 have r2:∀F:Nat->Bool,(∀x∈p++[],F x.block=true)->DataW.TrodAll e P W' 0 F true fn.params.toList args.toList (s.fn H (ds++[])).args p:=fun F ab=>by
   rw[J];exact Cs hl hb ae hA (fun x I=>O x (by simp[I])) F (fun x I=>ab x (by simp[I]))
 have r3:∀F:Nat->Bool,DataW.TrodVars e P W' F s.vars (s.fn H (ds++[])).vars []:=fun F=>by
   rw[E,ad];simp[DataW.TrodVars]
 refine⟨ds,[],p++[],[],p,[],ac,r1 _ _ _,r2 _ Y,r3 _,World.keptBut_mono (fun x I=>⟨I,.inr (by simpa using I)⟩) hk,fun _=>?_⟩;refine⟨?_,_,_,([]++p)++[],⟨[]++p,[],trodAll_append (r2 _ (fun _ _=>rfl)) (r1 _ _ _),r3 _,rfl,?_,?_⟩,?_⟩
 . exact ok_one V rfl (okWide_bool_mk U _)
 . intro b off hp
   have X:MemPlace.cell b off∈p++[]:=by simpa using hp
   rw[hb.frozen (O _ X)];exact aa b off X
 . intro ha;simp at ha
 . intro x I _
   simpa using I
end
end Go.Proofs.YtohmomanmikphaaGreatDoor
end
section
namespace Go.Proofs.YtohmomanmikphaaGreatDoor
def cC(n N:Int):Bool:=decide (n<0)||decide (n>=N)
end Go.Proofs.YtohmomanmikphaaGreatDoor
namespace Go.Proofs.YtohmomanmikphaaGreatDoor.Mv
open Go.Aw Go.Aw.D Go.Proofs Ty
theorem bJ{H:aK}{k:IntKind}{a b:Int}(h:a=b):Conv H (.v (.int k a)) (.v (.int k b)):=h▸.refl _
theorem bR{H:aK}{a b:Bool}(h:a=b):Conv H (.v (.bool a)) (.v (.bool b)):=h▸.refl _
abbrev Lx(l:List Int):Row:=⟨3,1,l.map bW⟩
theorem acR{n:Int}(h:0<=n/\n<18446744073709551616):IntKind.u64.wrap n=n:=by
 have e:IntKind.u64.wrap n=n%18446744073709551616:=rfl;rw[e];omega
theorem qT{α:Type}{p q:α->Bool}{l:List α}(h:∀x∈l,p x=q x):l.any p=l.any q:=by
 rw[Xas,Xan,Xan];exact⟨fun⟨x,E,F⟩=>⟨x,E,(h x E)▸F⟩,fun⟨x,E,F⟩=>⟨x,E,(h x E).symm▸F⟩⟩
theorem aM{α:Type}{p:α->Prop}{l:List α}{k:Nat}{x:α}(F:l[k]?=some x)(I:p x)(h:∀x∈l.take k,p x):∀x∈l.take (k+1),p x:=by
 rw[bQ F];intro y E;rcases Xau.1 E with E|E
 . exact h y E
 . simp at E;subst E;exact I
end Go.Proofs.YtohmomanmikphaaGreatDoor.Mv
end
