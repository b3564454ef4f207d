import Derived.Test.YtgncgpcpbadfnaaGreatDoorVc12
set_option linter.unusedSimpArgs false
set_option linter.unusedVariables false
set_option linter.defProp false
set_option maxRecDepth 100000
section
namespace Go.Proofs.YtgncgpcpbadfnaaGreatDoor.Sq
open Go.Proofs.Tryz
open Go.Aw Go.Aw.D Go.Proofs Ty
open Mv (bZ cK aS)
def nS(o:Order)(i:Int):List Visit:=(if decide (o.pick.place>=0)=true then[⟨i,false⟩]else[])++(if decide (o.drop.place>=0)=true then[⟨i,true⟩]else[])
def iW(os:List Order)(i:Int):List Visit:=if cD i os.length=true then[]else match os[i.toNat]? with|some o=>nS o i|none=>[]
def NE(o:Order)(i:Int):(nS o i).length<=2:=by unfold nS;split <;> split <;> simp
def rO(os:List Order)(i:Int):(iW os i).length<=2:=by
 unfold iW;split
 ·simp
 ·split
  ·exact NE _ _
  ·simp
def rC(os:List Order)(i:Int):PC prog 146 [.sl (os.map aW),int i] (.sl ((iW os i).map aL)):=by
 refine pcb (fun t=>t == 5) func146 rfl rfl ?_;simp only[go_sem];refine aJ fun j T=>?_
 simp only[go_sem];refine aP (Tx os i) ?_;simp only[go_sem];refine aA (fun h0=>?_) (fun h0=>?_)
 ·have I:cD i os.length=true:=by simpa using h0
  simp only[go_sem];rw[iW,if_pos I];exact .refl _
 have I:cD i os.length=false:=by simpa using h0
 have F:0<=i/\i<(os.length:Int):=by simp only[cD,Xah,decide_eq_false_iff_not]at I;omega
 obtain⟨o,A⟩:=aM (show i.toNat<os.length by omega);rw[iW,if_neg (by rw[I];simp),A];simp only[go_sem,aC A,F];refine aA (fun h1=>?_) (fun h1=>?_)
 ·simp only[go_sem,aC A,F];refine aX (aB _ _ _) ⟨rfl,rfl⟩ ⟨rfl,trivial⟩ (by simp) (fun j' O=>?_);simp only[go_sem,aC A,F];refine aA (fun E=>?_) (fun E=>?_)
  ·simp only[go_sem,aC A,F];refine aX (aB _ _ _) ⟨rfl,rfl⟩ ⟨rfl,trivial⟩ (by simp) (fun M J=>?_);simp only[go_sem];have e:nS o i=[⟨i,false⟩,⟨i,true⟩]:=by unfold nS;rw[if_pos h1,if_pos E];rfl
   rw[e];exact .row _ _ _ (aB _ _ _) (ConvE.refl _)
  ·simp only[go_sem];have e:nS o i=[⟨i,false⟩]:=by unfold nS;rw[if_pos h1,if_neg (by rw[E];simp)];rfl
   rw[e];exact .row _ _ _ (aB _ _ _) (ConvE.refl _)
 ·simp only[go_sem,aC A,F];refine aA (fun E=>?_) (fun E=>?_)
  ·simp only[go_sem,aC A,F];refine aX (aB _ _ _) ⟨rfl,rfl⟩ ⟨rfl,trivial⟩ (by simp) (fun M J=>?_);simp only[go_sem];have e:nS o i=[⟨i,true⟩]:=by unfold nS;rw[if_neg (by rw[h1];simp),if_pos E];rfl
   rw[e];exact .row _ _ _ (aB _ _ _) (ConvE.refl _)
  ·simp only[go_sem];have e:nS o i=[]:=by unfold nS;rw[if_neg (by rw[h1];simp),if_neg (by rw[E];simp)];rfl
   rw[e];exact .row _ _ _ (aB _ _ _) (ConvE.refl _)
def wE(l:List Visit)(i:Nat):Bool:=decide (fD (l.take i) (l.getD i ⟨0,false⟩)>=0)
def Fu:∀l:List Visit,cH 2 (l.map aL)
 | []=>trivial
 | _::r=>⟨rfl,Fu r⟩
def abK(l:List Visit)(hl:l.length<=1048576):PC prog 122 [.sl (l.map aL)] (boo ((List.range l.length).any (wE l))):=by
 refine pcd func122 rfl rfl ?_;simp only[go_sem];refine⟨fun ρ _=>∃k:Nat,k<=l.length/\ρ 0=.sl (l.map aL)/\ρ 5=.sl (l.map aL)/\ρ 6=int l.length/\ρ 7=int k/\∀c∈(List.range l.length).take k,wE l c=false,fun ρ _=>l.length-aT (ρ 7),⟨0,Xab _,rfl,rfl,rfl,rfl,by simp⟩,?_⟩;rintro ρ H ⟨k,hk,h0,E,J,I,Z⟩;simp only[go_sem,h0,E,J,I];refine aA (fun A=>?_) (fun M=>?_)
 ·have A:=bA A;obtain⟨v,Y⟩:=aM A;have b1:=inB A;simp only[go_sem,h0,E,J,I,aC Y,b1];refine aJ fun T F=>?_
  simp only[go_sem,h0,E,J,I];refine bP F (by simp[cX]) fun O (X:O T=some (⟨126,2,[aL v]⟩)) N=>?_
  clear N F;simp only[go_sem,h0,E,J,I,X];refine gW [T] [(0,true),(1,true),(2,true),(3,true),(4,true),(5,true)] (by simp[X]) (by kernel_rfl) fun Hp Hr hp hr _ aa=>?_
  have P4:=(hp T (by simp)).trans X;simp only[go_sem,h0,E,J,I,P4,<-List.map_take];refine⟨by omega,_,(CM (l.take k) v (by simp;omega)).q rfl,?_⟩;simp only[go_sem,h0,E,J,I,P4];refine dX fun _ Hm _ _=>?_
  simp only[go_sem,h0,E,J,I];have ed:wE l k=decide (fD (l.take k) v>=0):=by simp[wE,List.getD,Y]
  refine aA (fun U=>?_) (fun U=>?_)
  ·simp only[go_sem];exact cK (Xao.2 ⟨k,Xav.2 A,ed.trans U⟩).symm
  ·simp only[go_sem,h0,E,J,I,aV k];exact⟨⟨k+1,A,rfl,aS (p:=fun c=>wE l c=false) (oV A) (ed.trans U) Z⟩,by simp only[aF];omega⟩
 ·have M:=bB hk M;subst M;simp only[go_sem];refine cK ?_
  symm
  rw[Xax];intro c hc;rw[Z c (by rw[Xaq (by simp)];exact hc)];simp
def Bz(l:List Visit):List Visit->Int->Bool
 | [],_=>true
 | w::r,last=>decide (fD l w>last)&&Bz l r (fD l w)
def D1(os:List Order)(l:List Visit)(v:Visit):Bool:=inV (iW os v.order) v&&Bz l (iW os v.order) (-1)
def Cu{α:Type}{l:List α}{k:Nat}{x:α}(h:l[k]?=some x):l.drop k=x::l.drop (k+1):=by obtain⟨A,rfl⟩:=List.getElem?_eq_some_iff.1 h;exact List.drop_eq_getElem_cons A
def Y7(x:Instance)(l:List Visit)(hl:l.length<=1048576):PC prog 123 [.agg (aE x),.sl (l.map aL)] (boo (l.all (D1 x.orders l))):=by
 refine pcd func123 rfl rfl ?_;simp only[go_sem];refine⟨fun ρ _=>∃k:Nat,k<=l.length/\ρ 1=.sl (l.map aL)/\ρ 2=.rp (aE x) 0/\ρ 12=.sl (l.map aL)/\ρ 13=int l.length/\ρ 14=int k/\∀v∈l.take k,D1 x.orders l v=true,fun ρ _=>l.length-aT (ρ 14),⟨0,Xab _,rfl,rfl,rfl,rfl,rfl,by simp⟩,?_⟩;rintro ρ H ⟨k,hk,h1,J,F,E,A,hz⟩;simp only[go_sem,h1,J,F,E,A];refine aA (fun Y=>?_) (fun ac=>?_)
 ·have Y:=bA Y;obtain⟨v,hv⟩:=aM Y;have b1:=inB Y;simp only[go_sem,h1,J,F,E,A,aC hv,b1];refine aJ fun i6 aa=>?_
  simp only[go_sem,h1,J,F,E,A];refine bP aa (by simp[cX]) fun af (R6:af i6=some (⟨126,2,[aL v]⟩)) N=>?_
  clear N aa;simp only[go_sem,h1,J,F,E,A,R6];refine aP (rC x.orders v.order) ?_;have ai:=rO x.orders v.order;simp only[go_sem,h1,J,F,E,A,R6];refine aP (O9 (iW x.orders v.order) v (by omega)) ?_;simp only[go_sem,h1,J,F,E,A,R6];refine aA (fun Z=>?_) (fun Z=>?_)
  ·simp only[go_sem];refine cK ?_
   symm
   exact qO hv (by unfold D1;rw[show inV (iW x.orders v.order) v=false by simpa using Z];rfl)
  have ag:inV (iW x.orders v.order) v=true:=by simpa using Z
  simp only[go_sem,h1,J,F,E,A,R6];refine⟨fun ρ _=>∃(m:Nat) (last:Int),m<=(iW x.orders v.order).length/\ρ 1=.sl (l.map aL)/\ρ 2=.rp (aE x) 0/\ρ 12=.sl (l.map aL)/\ρ 13=int l.length/\ρ 14=int k/\ρ 27=.sl ((iW x.orders v.order).map aL)/\ρ 28=int (iW x.orders v.order).length/\ρ 29=int m/\ρ 8=int last/\Bz l (iW x.orders v.order) (-1)=Bz l ((iW x.orders v.order).drop m) last,fun ρ _=>(iW x.orders v.order).length-aT (ρ 29),
   ⟨0,-1,Xab _,by simp only[go_sem,h1],by simp only[go_sem,J],by simp only[go_sem,F],by simp only[go_sem,E],by simp only[go_sem,A],by simp only[go_sem],by simp only[go_sem,Xaa],by simp only[go_sem];rfl,by simp only[go_sem],rfl⟩,?_⟩
  clear h1 J F E A R6;rintro ρ H ⟨m,last,hm,h1,J,F,E,A,O,T,M,h8,he⟩;simp only[go_sem,h1,J,F,E,A,O,T,M,h8];refine aA (fun I=>?_) (fun X=>?_)
  ·have I:=bA I;obtain⟨w,hw⟩:=aM I;have b2:=inB I;simp only[go_sem,h1,J,F,E,A,O,T,M,h8,aC hw,b2];refine aJ fun ah U=>?_
   simp only[go_sem,h1,J,F,E,A,O,T,M,h8];refine bP U (by simp[cX]) fun ab (ae:ab ah=some (⟨126,2,[aL w]⟩)) N=>?_
   clear N U;simp only[go_sem,h1,J,F,E,A,O,T,M,h8,ae];refine aP (CM l w hl) ?_;simp only[go_sem,h1,J,F,E,A,O,T,M,h8,ae];rw[Cu hw]at he;refine aA (fun Z=>?_) (fun Z=>?_)
   ·simp only[go_sem];refine cK ?_
    symm
    refine qO hv ?_;unfold D1;rw[ag,he,Bz];have:decide (fD l w>last)=false:=by simp at Z |-;exact Z
    rw[this];rfl
   ·simp only[go_sem,h1,J,F,E,A,O,T,M,h8,aV m];refine⟨⟨m+1,_,I,rfl,rfl,?_⟩,by simp only[aF];omega⟩;rw[he,Bz];have:decide (fD l w>last)=true:=by simp at Z |-;exact Z
    rw[this];rfl
  ·have X:=bB hm X;subst X;rw[Xbp,Bz]at he;simp only[go_sem,h1,J,F,E,A,aV k];exact⟨⟨k+1,Y,rfl,aS (p:=fun v=>D1 x.orders l v=true) hv (by unfold D1;rw[ag,he];rfl) hz⟩,by simp only[aF];omega⟩
 ·have ac:=bB hk ac;subst ac;simp only[go_sem];exact cK (uM hz).symm
def Vv(l:List Visit)(a b:Int):Bool:=decide (qY (fun v:Visit=>v.order == b) l 0<0)||(FP l a&& !FP (l.drop (qY (fun v:Visit=>v.order == b) l 0).toNat) a)
def SL{α:Type}{p:α->Bool}:∀(l:List α) (n:Int),qY p l n<n+l.length\/qY p l n= -1
 | [],n=>.inr rfl
 | a::r,n=>by
  unfold qY;split
  ·left;simp;omega
  ·rcases SL (p:=p) r (n+1)with h|h
   ·left;simp;omega
   ·right;exact h
def Xu(l:List Visit)(a b:Int)(F:l.length<=1048576):PC prog 125 [.sl (l.map aL),int a,int b] (boo (Vv l a b)):=by
 refine pcd func125 rfl rfl ?_;simp only[go_sem];refine aP (Co (p:=fun v=>v.order == b) l F (by simp only[go_sem]) fun v _=>UN b v) ?_;simp only[go_sem];have J:=SL (p:=fun v:Visit=>v.order == b) l 0;generalize E:qY (fun v:Visit=>v.order == b) l 0=I at J;refine aA (fun h0=>?_) (fun h0=>?_)
 ·simp only[go_sem];refine cK ?_;unfold Vv;rw[E,h0];rfl
 ·have A:0<=I:=by simp at h0;exact h0
  simp only[go_sem];refine aP (sW l a F) ?_;simp only[go_sem,<-List.map_drop];refine⟨fun _=>⟨⟨A,by omega⟩,Fu l⟩,_,fun _=>(sW (l.drop I.toNat) a (by simp;omega)).q rfl,?_⟩;simp only[go_sem];refine cK ?_;unfold Vv;rw[E,h0];rfl
def aaC(x:Instance)(v:Visit):PC prog 120 [.agg (aL v),.rp (aE x) 0] (boo (cD v.order x.orders.length)):=by refine pcd func120 rfl rfl ?_;simp only[go_sem];exact .refl _
def Yz(x:Instance)(v:Visit)(h:cD v.order x.orders.length=false):PC prog 121 [.agg (aL v),.rp (aE x) 0] (boo (Ow x v.order)):=by
 have E:0<=v.order/\v.order<(x.orders.length:Int):=by simp only[cD,Xah,decide_eq_false_iff_not]at h;omega
 obtain⟨o,A⟩:=aM (show v.order.toNat<x.orders.length by omega);refine pcd func121 rfl rfl ?_;simp only[go_sem];simp only[go_sem,aC A,E];exact cK (by unfold Ow;rw[A])
def sL(x:Instance)(l:List Visit):Int:=
 if((l.length:Int) == 0||l.any fun v=>cD v.order x.orders.length)=true then 2
 else if(l.any fun v=>Ow x v.order)=true then 9
 else if((List.range l.length).any (wE l))=true then 6
 else if(!l.all (D1 x.orders l))=true then 19
 else if(x.apart.any fun q=>FP l q.a&&FP l q.b)=true then 20
 else if(x.before.any fun q=> !Vv l q.a q.b)=true then 21 else 0
def G8(x:Instance)(r:Route)(hl:r.visits.length<=1048576)(ha:x.apart.length<=1048576)(hb:x.before.length<=1048576):PC prog 83 [.agg (aE x),.agg (bI r)] (int (sL x r.visits)):=by
 refine pcd func83 rfl rfl ?_;simp only[go_sem];refine⟨_,fun _=>(pY (p:=fun v=>cD v.order x.orders.length) r.visits hl (by simp only[go_sem]) fun v _=>aaC x v).q rfl,?_⟩;simp only[go_sem];refine aA (fun Y=>?_) (fun Y=>?_)
 ·simp only[go_sem];exact bZ (by unfold sL;rw[if_pos Y])
 have af:∀v∈r.visits,cD v.order x.orders.length=false:=fun v hv=>by rw[Xah]at Y;have:=Xax.1 Y.2 v hv;simpa using this
 have Y:¬((r.visits.length:Int) == 0||r.visits.any fun v=>cD v.order x.orders.length)=true:=by rw[Y];simp
 simp only[go_sem];refine aP (pY (p:=fun v=>Ow x v.order) r.visits hl (by simp only[go_sem]) fun v hv=>Yz x v (af v hv)) ?_;simp only[go_sem];refine aA (fun c2=>?_) (fun c2=>?_)
 ·simp only[go_sem];exact bZ (by unfold sL;rw[if_neg Y,if_pos c2])
 have c2:¬(r.visits.any fun v=>Ow x v.order)=true:=by rw[c2];simp
 simp only[go_sem];refine aP (abK r.visits hl) ?_;simp only[go_sem];refine aA (fun c3=>?_) (fun c3=>?_)
 ·simp only[go_sem];exact bZ (by unfold sL;rw[if_neg Y,if_neg c2,if_pos c3])
 have c3:¬((List.range r.visits.length).any (wE r.visits))=true:=by rw[c3];simp
 simp only[go_sem];refine aP (Y7 x r.visits hl) ?_;simp only[go_sem];refine aA (fun c4=>?_) (fun c4=>?_)
 ·simp only[go_sem];exact bZ (by unfold sL;rw[if_neg Y,if_neg c2,if_neg c3,if_pos c4])
 have c4:¬(!r.visits.all (D1 x.orders r.visits))=true:=by rw[c4];simp
 simp only[go_sem];refine⟨fun ρ _=>∃k:Nat,k<=x.apart.length/\ρ 2=.rp (aE x) 0/\ρ 5=.sl (r.visits.map aL)/\ρ 33=.sl (x.apart.map cN)/\ρ 34=int x.apart.length/\ρ 35=int k/\∀q∈x.apart.take k,(FP r.visits q.a&&FP r.visits q.b)=false,fun ρ _=>x.apart.length-aT (ρ 35),⟨0,Xab _,by simp only[go_sem],by simp only[go_sem],by simp only[go_sem],by simp only[go_sem],by simp only[go_sem];rfl,by simp⟩,?_⟩;rintro ρ H ⟨k,hk,Z,J,I,F,E,hz⟩;simp only[go_sem,Z,J,I,F,E];refine aA (fun A=>?_) (fun M=>?_)
 ·have A:=bA A;obtain⟨q,hq⟩:=aM A;have b1:=inB A;simp only[go_sem,Z,J,I,F,E,aC hq,b1];refine aJ fun i7 ab=>?_
  simp only[go_sem,Z,J,I,F,E];refine bP ab (by simp[lI]) fun ac (R7:ac i7=some (⟨101,2,[cN q]⟩)) N=>?_
  clear N ab;simp only[go_sem,Z,J,I,F,E,R7];refine⟨by decide,PC.use (sW r.visits q.a hl) ?_⟩;simp only[go_sem,Z,J,I,F,E,R7];refine⟨fun _=>by decide,_,fun _=>(sW r.visits q.b hl).q rfl,?_⟩;simp only[go_sem,Z,J,I,F,E];refine aA (fun O=>?_) (fun O=>?_)
  ·simp only[go_sem];exact bZ (by unfold sL;rw[if_neg Y,if_neg c2,if_neg c3,if_neg c4,if_pos (Xao.2 ⟨q,Xac hq,O⟩)])
  ·simp only[go_sem,Z,J,I,F,E,aV k];exact⟨⟨k+1,A,rfl,aS (p:=fun q:Pair=>(FP r.visits q.a&&FP r.visits q.b)=false) hq O hz⟩,by simp only[aF];omega⟩
 have M:=bB hk M;subst M;rw[Xae]at hz;have c5:¬(x.apart.any fun q=>FP r.visits q.a&&FP r.visits q.b)=true:=by rw[Db hz];simp
 simp only[go_sem,Z,J];refine⟨fun ρ _=>∃k:Nat,k<=x.before.length/\ρ 5=.sl (r.visits.map aL)/\ρ 51=.sl (x.before.map cN)/\ρ 52=int x.before.length/\ρ 53=int k/\∀q∈x.before.take k,(!Vv r.visits q.a q.b)=false,fun ρ _=>x.before.length-aT (ρ 53),⟨0,Xab _,by simp only[go_sem,J],by simp only[go_sem],by simp only[go_sem],by simp only[go_sem];rfl,by simp⟩,?_⟩;clear Z J I F E hz hk;rintro ρ H ⟨k,hk,J,X,T,U,hz⟩;simp only[go_sem,J,X,T,U];refine aA (fun A=>?_) (fun M=>?_)
 ·have A:=bA A;obtain⟨q,hq⟩:=aM A;have b1:=inB A;simp only[go_sem,J,X,T,U,aC hq,b1];refine aJ fun i9 aa=>?_
  simp only[go_sem,J,X,T,U];refine bP aa (by simp[lI]) fun ae (R9:ae i9=some (⟨101,2,[cN q]⟩)) N=>?_
  clear N aa;simp only[go_sem,J,X,T,U,R9];refine⟨by decide,⟨by decide,PC.use (Xu r.visits q.a q.b hl) ?_⟩⟩;simp only[go_sem,J,X,T,U];refine aA (fun O=>?_) (fun O=>?_)
  ·simp only[go_sem];exact bZ (by unfold sL;rw[if_neg Y,if_neg c2,if_neg c3,if_neg c4,if_neg c5,if_pos (Xao.2 ⟨q,Xac hq,O⟩)])
  ·simp only[go_sem,J,X,T,U,aV k];exact⟨⟨k+1,A,rfl,aS (p:=fun q:Pair=>(!Vv r.visits q.a q.b)=false) hq O hz⟩,by simp only[aF];omega⟩
 have M:=bB hk M;subst M;rw[Xae]at hz;simp only[go_sem];exact bZ (by unfold sL;rw[if_neg Y,if_neg c2,if_neg c3,if_neg c4,if_neg c5,if_neg (by rw[Db hz];simp)])
def gH(x:Instance)(v:Visit):Stop×Int:=if(jL x v).2=true then((jL x v).1,0)else(kI,if cD v.order x.orders.length=true then 2 else 19)
def Tu(x:Instance)(v:Visit):PC prog 177 [.sl (x.orders.map aW),.agg (aL v)] (.tup [.agg (dQ (gH x v).1),int (gH x v).2]):=by
 refine pcd func177 rfl rfl ?_;simp only[go_sem];refine eQ fun Z Y U (A:Y Z=some (Ai kI)) N=>?_
 clear N U;simp only[go_sem,A];refine aP (Tx x.orders v.order) ?_;simp only[go_sem];refine aA (fun h1=>?_) (fun h1=>?_)
 ·have h1:cD v.order x.orders.length=true:=by simpa using h1
  have e:gH x v=(kI,2):=by unfold gH jL;rw[if_pos h1,if_pos h1];rfl
  rw[e];simp only[go_sem];refine aN A (by simp) ?_;simp only[go_sem];exact .refl _
 have h1:cD v.order x.orders.length=false:=by simpa using h1
 have M:0<=v.order/\v.order<(x.orders.length:Int):=by simp only[cD,Xah,decide_eq_false_iff_not]at h1;omega
 obtain⟨o,ho⟩:=aM (show v.order.toNat<x.orders.length by omega);have e0:jL x v=(xT o v,decide ((xT o v).place>=0)):=by unfold jL;rw[if_neg (by rw[h1];simp),ho]
 have e:gH x v=if(xT o v).place<0 then(kI,19)else(xT o v,0):=by
  unfold gH;rw[e0,if_neg (show ¬cD v.order x.orders.length=true by rw[h1];simp)];by_cases h:(xT o v).place<0
  ·rw[if_pos h,if_neg (by simp;omega)]
  ·rw[if_neg h,if_pos (by simp;omega)]
 rw[e];simp only[go_sem,aC ho,M];refine aJ fun i6 F=>?_
 simp only[go_sem,A];refine bP F (by simp[lM]) fun T (I:T i6=some (Ai o.pick)) N=>?_
 replace A:=N A;obtain⟨E,A⟩:=A;clear N F;simp only[go_sem,I,A];refine bN (fun X H'=>X 4=.op Z 0 0/\X 6=.op i6 0 0/\H' Z=some (Ai kI)/\H' i6=some (Ai (xT o v))) ?_ fun K hK=>aA (fun hb=>?_) (fun hb=>?_)
 ·clear A I;rintro ρ H ⟨O,h6,A,I⟩;simp only[go_sem,O,h6,I];refine aA (fun J=>?_) (fun J=>?_)
  ·have J:(xT o v).place<0:=by simpa using J
   rw[if_pos J];simp only[go_sem,O];refine aN A (by simp) ?_;simp only[go_sem,O];exact .refl _
  ·have J:¬(xT o v).place<0:=by simpa using J
   rw[if_neg J];simp only[go_sem,O,h6,I];refine aN A (by simp[lM]) ?_;simp only[go_sem,O];exact .refl _
 ·simp only[go_sem,aC ho,M];refine aN I (by simp[lM]) ?_;simp only[go_sem];refine hK _ _ ⟨by simp only[go_sem],by simp only[go_sem],by rw[aD _ _ _ _ E];exact A,?_⟩;rw[aB,xT,if_pos hb];rfl
 ·simp only[go_sem];refine hK _ _ ⟨by simp only[go_sem],by simp only[go_sem],A,?_⟩;rw[xT,if_neg (by rw[hb];simp)];exact I
def tS(set:Int)(k:Nat):List Int:=((List.range k).filter fun i:Nat=>dH set (i:Int)).map fun i:Nat=>(i:Int)
def fA(set:Int):List Int:=tS set 63
def rG(set:Int)(k:Nat):tS set (k+1)=tS set k++(if dH set (k:Int)=true then[(k:Int)]else[]):=by
 unfold tS;rw[Xbt,List.filter_append,Xan];by_cases h:dH set (k:Int)=true
 ·simp[h]
 ·simp[h]
def pH(set:Int)(k:Nat):(tS set k).length<=k:=by unfold tS;rw[Xaa];exact Xai (Xbu _ _) (by simp)
def jG(set:Int):PC prog 71 [int set] (.sl ((fA set).map aQ)):=by
 refine pcb (fun t=>t == 3) func71 rfl rfl ?_;simp only[go_sem];refine aJ fun j O=>?_
 simp only[go_sem];refine⟨fun ρ H=>∃k:Nat,k<=63/\ρ 0=int set/\ρ 5=int k/\∃j,ρ 3=.os j/\H j=some (vY (tS set k)),fun ρ _=>63-aT (ρ 5),⟨0,Xab _,rfl,rfl,j,rfl,aB _ _ _⟩,?_⟩;clear O;rintro ρ H ⟨k,T,h0,I,j,F,R⟩;simp only[go_sem,h0,I,F];refine aA (fun A=>?_) (fun E=>?_)
 ·have A:k<63:=by simp at A;omega
  simp only[go_sem,h0,I,F];refine aP (uC set k) ?_;simp only[go_sem,h0,I,F];refine aA (fun J=>?_) (fun J=>?_)
  ·simp only[go_sem,h0,I,F];refine aX R ⟨rfl,rfl⟩ ⟨rfl,trivial⟩ (by have:=pH set k;simp;omega) (fun j' M=>?_);simp only[go_sem,h0,I,F,aV k];refine⟨⟨k+1,A,rfl,j',rfl,?_⟩,by simp only[aF];omega⟩;rw[rG,if_pos J];exact fR (l':=[(k:Int)]) rfl
  ·simp only[go_sem,h0,I,F,aV k];refine⟨⟨k+1,A,rfl,j,rfl,?_⟩,by simp only[aF];omega⟩;rw[rG,if_neg (by rw[J];simp),Xak];exact R
 ·have E:k=63:=by simp at E;omega
  subst E;simp only[go_sem,F];exact .row _ _ _ R (ConvE.refl _)
def aeS(a b:Int):Int:=W (a+b)
def WK(a b:Int):Int:=W (a-b)
def agQ(a b:Int):PC prog 211 [int a,int b] (int (aeS a b)):=by refine pcd func211 rfl rfl ?_;simp only[go_sem];exact .refl _
def EW(a b:Int):PC prog 212 [int a,int b] (int (WK a b)):=by refine pcd func212 rfl rfl ?_;simp only[go_sem];exact .refl _
def Xn{α:Type}{l:List α}{k n:Nat}{x z:α}(E:l.length=n)(h:l[k]?=some x):(l.take k++List.replicate (n-k) z).set k x=l.take (k+1)++List.replicate (n-(k+1)) z:=by
 have A:=(List.getElem?_eq_some_iff.1 h).1;have e:n-k=(n-(k+1))+1:=by omega
 rw[bE h,e,List.replicate_succ,List.set_append_right _ _ (by simp;omega)];have:k-(l.take k).length=0:=by simp;omega
 rw[this,List.set_cons_zero];simp
def JL{g:Nat}{op:Int->Int->Int}(a b:List Int)(hl:a.length<=1048576)(U:a.length=b.length)(Z:aG prog g=true)(hg:∀p q,PC prog g [int p,int q] (int (op p q))):
  NC prog 210 [.sl (a.map aQ),.sl (b.map aQ),.v (.func (.func g) #[] #[])] (vY (List.zipWith op a b)) (fun j=>.tup [.os j,int 0]):=by
 have T:(List.zipWith op a b).length=a.length:=by rw[List.length_zipWith,<-U,Nat.min_self]
 refine ncb (fun _=>false) func210 rfl rfl ?_;simp only[go_sem];refine aA (fun hb=>by rw[U]at hb;simp at hb) (fun _=>?_);simp only[go_sem];refine⟨⟨by omega,by omega⟩,aJ fun j hj=>?_⟩;simp only[go_sem];refine⟨fun ρ H=>∃k:Nat,k<=a.length/\ρ 0=.sl (a.map aQ)/\ρ 1=.sl (b.map aQ)/\ρ 2=.v (.func (.func g) #[] #[])/\ρ 8=.os j/\ρ 19=int a.length/\ρ 20=int k/\H j=some (vY ((List.zipWith op a b).take k++List.replicate (a.length-k) 0)),fun ρ _=>a.length-aT (ρ 20),⟨0,Xab _,rfl,rfl,rfl,rfl,by simp only[go_sem,Xaa],rfl,?_⟩,?_⟩
 ·rw[aB];simp[vY,List.map_replicate,aQ]
 clear hj;rintro ρ H ⟨k,hk,h0,h1,O,M,F,E,R⟩;simp only[go_sem,h0,h1,O,M,F,E];refine aA (fun A=>?_) (fun J=>?_)
 ·have A:=bA A;obtain⟨p,hp⟩:=aM A;obtain⟨q,hq⟩:=aM (show k<b.length by omega);have Y:=inB A;have b2:=inB (show k<b.length by omega);simp only[go_sem,h0,h1,O,M,F,E];refine CN [(0,true),(1,true),(2,true),(3,true),(4,true),(5,true),(6,true),(7,true),(8,false),(9,false),(10,false),(11,false),(12,false),(13,false)] (by kernel_rfl) ?_;simp only[go_sem,h0,h1,O,M,F,E,aC hp,aC hq,Y,b2,Z];refine aP (hg p q) ?_;have I:((List.zipWith op a b).take k++List.replicate (a.length-k) 0:List Int).length=a.length:=by simp[T];omega
  simp only[go_sem,h0,h1,O,M,F,E,R];refine⟨⟨Y.1,by rw[I];exact Y.2⟩,bU so3 R (by rw[Xaa,I];exact⟨A,rfl,Xag 1⟩) ?_⟩;have hz:(List.zipWith op a b)[k]?=some (op p q):=by rw[List.getElem?_zipWith,hp,hq]
  have X:k<((List.zipWith op a b).take k++List.replicate (a.length-k) 0:List Int).length:=by omega
  obtain⟨y,hy⟩:=aM X;have hs:=Xn (n:=a.length) (z:=(0:Int)) T hz;simp only[go_sem,h0,h1,O,M,F,E,aC hy,aV k];refine⟨⟨k+1,A,rfl,?_⟩,by simp only[aF];omega⟩;rw[<-hs];show _=some (⟨3,1,_⟩:Row);rw[List.map_set];rfl
 ·have J:=bB hk J;subst J;simp only[go_sem,M];refine⟨j,rfl,?_⟩;rw[R,Xaq (by omega)];simp
def AB(a b:List Int):List Int:=List.zipWith aeS a b
def C6(a b:List Int):List Int:=List.zipWith WK a b
def afB(a b:List Int)(E:a.length<=1048576)(A:a.length=b.length):NC prog 174 [.sl (a.map aQ),.sl (b.map aQ)] (vY (AB a b)) (fun j=>.tup [.os j,int 0]):=by
 refine ncb (fun _=>false) func174 rfl rfl ?_;simp only[go_sem];refine NC.use (JL a b E A (by simp only[go_sem]) agQ) fun j F=>?_
 simp only[go_sem];exact⟨j,rfl,aB _ _ _⟩
def aiP(a b:List Int)(E:a.length<=1048576)(A:a.length=b.length):NC prog 175 [.sl (a.map aQ),.sl (b.map aQ)] (vY (C6 a b)) (fun j=>.tup [.os j,int 0]):=by
 refine ncb (fun _=>false) func175 rfl rfl ?_;simp only[go_sem];refine NC.use (JL a b E A (by simp only[go_sem]) EW) fun j F=>?_
 simp only[go_sem];exact⟨j,rfl,aB _ _ _⟩
def NC.pc2{f:FuncId}{args:List AV}{r:Row}{y:AV}(h:NC prog f args r (fun j=>.tup [.os j,y])):PC prog f args (.tup [.sl r.es,y]):=
 RC.conv (RC.mono h fun x H' ⟨k,A,E⟩=>by rw[A];exact .tup _ _ (.cons _ _ _ _ (.row _ _ _ E (ConvE.refl _)) (ConvL.refl _)))
def acN(a c:List Int)(hl:a.length<=1048576):PC prog 130 [.sl (a.map aQ),.sl (c.map aQ)] (boo (kV a c)):=by
 refine pcd func130 rfl rfl ?_;simp only[go_sem];refine aA (fun T=>?_) (fun T=>?_)
 ·simp only[go_sem];refine cK ?_;unfold kV;have:((a.length:Int) == (c.length:Int))=false:=by simpa[bne]using T
  rw[this];rfl
 have O:a.length=c.length:=by simp[bne]at T;omega
 simp only[go_sem];refine⟨fun ρ _=>∃k:Nat,k<=a.length/\ρ 1=.sl (c.map aQ)/\ρ 12=.sl (a.map aQ)/\ρ 13=int a.length/\ρ 14=int k/\∀i∈(List.range a.length).take k,decide (a.getD i 0>c.getD i 0)=false,fun ρ _=>a.length-aT (ρ 14),⟨0,Xab _,rfl,rfl,by simp only[go_sem,Xaa],rfl,by simp⟩,?_⟩;rintro ρ H ⟨k,hk,h1,I,E,M,X⟩;simp only[go_sem,h1,I,E,M];refine aA (fun A=>?_) (fun F=>?_)
 ·have A:=bA A;obtain⟨p,Z⟩:=aM A;obtain⟨q,hq⟩:=aM (show k<c.length by omega);have b1:=inB A;have b2:=inB (show k<c.length by omega);have U:a.getD k 0=p:=by simp[List.getD,Z]
  have Y:c.getD k 0=q:=by simp[List.getD,hq]
  simp only[go_sem,h1,I,E,M,aC Z,aC hq,b1,b2];refine aA (fun J=>?_) (fun J=>?_)
  ·simp only[go_sem];refine cK ?_;unfold kV
   symm
   rw[Bool.and_eq_false_iff];right;exact qO (oV A) (by rw[U,Y,J];rfl)
  ·simp only[go_sem,h1,I,E,M,aV k];exact⟨⟨k+1,A,rfl,aS (p:=fun i=>decide (a.getD i 0>c.getD i 0)=false) (oV A) (by rw[U,Y];exact J) X⟩,by simp only[aF];omega⟩
 ·have F:=bB hk F;subst F;simp only[go_sem];refine cK ?_;unfold kV
  symm
  rw[Xam];refine⟨by simp[O],Xaj.2 fun i hi=>?_⟩;rw[X i (by rw[Xaq (by simp)];exact hi)];rfl
def J2(x:Instance):PC prog 173 [.sl (x.types.map aZ)] (int (lO x)):=by
 refine pcd func173 rfl rfl ?_;simp only[go_sem];refine aA (fun A=>?_) (fun A=>?_)
 ·simp only[go_sem];have:x.types=[]:=List.eq_nil_of_length_eq_zero (by simp at A;simpa using A);exact bZ (by unfold lO;rw[this];rfl)
 ·have h0 : 0 < x.types.length := by
   rcases Xcc x.types.length with h|h
   ·rw[h]at A;simp at A
   ·exact h
  obtain⟨t,E⟩:=aM h0;have F:(0:Int)<=0/\(0:Int)<(x.types.length:Int):=⟨Xbw _,by omega⟩;simp only[go_sem,aC (k:=0) E,F];exact bZ (by unfold lO;rw[E])
def xM(c s:Int):Bool:=(decide (c>=0)&&decide (s>=0))&&(pP .andNot .i64 s c == 0)
def agV(t:VType)(s:Int):PC prog 126 [.agg (aZ t),int s] (boo (xM t.skills s)):=by refine pcd func126 rfl rfl ?_;simp only[go_sem];exact .refl _
def uA(x:Instance)(s:List Int)(i:Int):List Int:=match x.orders[i.toNat]? with
 | some o=>if decide (o.pick.place<0)=true then AB s o.load else s
 | none=>s
def KW(x:Instance)(set dims:Int):List Int:=(fA set).foldl (uA x) (List.replicate dims.toNat 0)
def iA{α A:Type}{f:A->α->A}{l:List α}{k:Nat}{x:α}{b:A}(h:l[k]?=some x):(l.take (k+1)).foldl f b=f ((l.take k).foldl f b) x:=by rw[bE h,List.foldl_append];rfl
def Hl{x:Instance}{d:Nat}(A:∀o∈x.orders,o.load.length=d)(l:List Int):(l.foldl (uA x) (List.replicate d 0)).length=d:=by
 suffices ∀(l:List Int) (s:List Int),s.length=d->(l.foldl (uA x) s).length=d from this l _ (by simp)
 intro l;induction l with
 | nil=>intro s h;exact h
 | cons i r ih=>
  intro s h;rw[List.foldl_cons];refine ih _ ?_;unfold uA;split
  ·rename_i o E;split
   ·unfold AB;rw[List.length_zipWith,h,A o (Xac E),Nat.min_self]
   ·exact h
  ·exact h
def acY(x:Instance)(set dims:Int)(h0:0<=dims)(h1:dims<=1048576)(hd:∀o∈x.orders,o.load.length=dims.toNat)(hm:∀i∈fA set,0<=i/\i<(x.orders.length:Int)):
  PC prog 172 [.agg (aE x),int set,int dims] (.sl ((KW x set dims).map aQ)):=by
 have ab:(fA set).length<=63:=pH set 63;refine pcb (fun t=>t == 28) func172 rfl rfl ?_;simp only[go_sem];refine⟨⟨⟨h0,Xbw _⟩,by omega⟩,aJ fun j hj=>?_⟩;simp only[go_sem];refine aP (jG set) ?_;simp only[go_sem];refine⟨fun ρ H=>∃k:Nat,k<=(fA set).length/\ρ 3=.rp (aE x) 0/\ρ 13=.sl ((fA set).map aQ)/\ρ 14=int (fA set).length/\ρ 15=int k/\∃j,ρ 7=.os j/\H j=some (vY (((fA set).take k).foldl (uA x) (List.replicate dims.toNat 0))),fun ρ _=>(fA set).length-aT (ρ 15),⟨0,Xab _,rfl,rfl,by simp only[go_sem,Xaa],rfl,j,rfl,?_⟩,?_⟩
 ·rw[aB];simp[vY,List.map_replicate,aQ]
 clear hj;rintro ρ H ⟨k,hk,O,F,E,A,j,J,R⟩;simp only[go_sem,O,F,E,A,J];refine aA (fun I=>?_) (fun M=>?_)
 ·have I:=bA I;obtain⟨i,Y⟩:=aM I;have b1:=inB I;have X:=hm i (Xac Y);obtain⟨o,T⟩:=aM (show i.toNat<x.orders.length by omega);have es:((fA set).take (k+1)).foldl (uA x) (List.replicate dims.toNat 0)=if decide (o.pick.place<0)=true then AB (((fA set).take k).foldl (uA x) (List.replicate dims.toNat 0)) o.load else((fA set).take k).foldl (uA x) (List.replicate dims.toNat 0):=by rw[iA Y,uA,T]
  have U:=Hl hd ((fA set).take k);generalize hS:((fA set).take k).foldl (uA x) (List.replicate dims.toNat 0)=s at *;simp only[go_sem,O,F,E,A,J,aC Y,b1,aC T,X];refine aA (fun Z=>?_) (fun Z=>?_)
  ·simp only[go_sem,O,F,E,A,J,aC T,X];refine IW (by simp only[go_sem,J]) R fun Hr aa hr=>?_
   simp only[go_sem,O,F,E,A,J,aC T,X];refine NC.use (afB s o.load (by omega) (by rw[U,hd o (Xac T)])) fun j2 ac=>?_
   simp only[go_sem,O,F,E,A,J,aV k];exact⟨⟨k+1,I,rfl,j2,rfl,by rw[es,if_pos Z];exact aB _ _ _⟩,by simp only[aF];omega⟩
  ·simp only[go_sem,O,F,E,A,J,aV k];exact⟨⟨k+1,I,rfl,j,rfl,by rw[es,if_neg (by rw[Z];simp)];exact R⟩,by simp only[aF];omega⟩
 ·have M:=bB hk M;subst M;rw[Xae]at R;simp only[go_sem,J];exact .row _ _ _ R (ConvE.refl _)
def U7(x:Instance)(s:List Int)(v:Visit):List Int:=match x.orders[v.order.toNat]? with
 | some o=>if v.drop=true then C6 s o.load else AB s o.load
 | none=>s
def LU(x:Instance)(l:List Visit)(k:Nat):List Int:=(l.take k).foldl (U7 x) (KW x (nQ l).1 (lO x))
def wP(x:Instance)(l:List Visit)(k:Nat):List (List Int):=(List.range k).map (LU x l)
def Wt{x:Instance}{l:List Visit}{k:Nat}{v:Visit}(h:l[k]?=some v):LU x l (k+1)=U7 x (LU x l k) v:=iA h
structure LoadB(x:Instance):Prop where
 dims:0<=lO x/\lO x<=1048576
 load:∀o∈x.orders,o.load.length=(lO x).toNat
 few:x.orders.length<=63
def Zm{x:Instance}(A:LoadB x){s:List Int}{v:Visit}(h:s.length=(lO x).toNat):(U7 x s v).length=(lO x).toNat:=by
 unfold U7;split
 ·rename_i o E;have:=A.load o (Xac E);split
  ·unfold C6;rw[List.length_zipWith,h,this,Nat.min_self]
  ·unfold AB;rw[List.length_zipWith,h,this,Nat.min_self]
 ·exact h
def Ny{x:Instance}(A:LoadB x)(l:List Visit)(k:Nat):(LU x l k).length=(lO x).toNat:=by
 suffices ∀(l:List Visit) (s:List Int),s.length=(lO x).toNat->(l.foldl (U7 x) s).length=(lO x).toNat from this _ _ (Hl A.load _)
 intro l;induction l with
 | nil=>intro s h;exact h
 | cons v r ih=>intro s h;rw[List.foldl_cons];exact ih _ (Zm A h)
def ZN{s:Nat}{i:Int}(h:i∈fA (s:Int)):0<=i/\i<=62/\s.testBit i.toNat=true:=by
 unfold fA tS at h;obtain⟨k,A,rfl⟩:=Xay.1 h;obtain⟨h1,F⟩:=List.mem_filter.1 A;have E:=Xav.1 h1;refine⟨by omega,by omega,?_⟩
 rwa [pR (by omega) (by omega)]at F
def Yc{x:Instance}{l:List Visit}(h:sL x l=0):∀v∈l,0<=v.order/\v.order<(x.orders.length:Int):=by
 intro v E;by_cases A:((l.length:Int) == 0||l.any fun v=>cD v.order x.orders.length)=true
 ·unfold sL at h;rw[if_pos A]at h;cases h
 ·have A : cD v.order x.orders.length = false := by rw[Bool.not_eq_true,Xah]at A;have:=Xax.1 A.2 v E;simpa using this
  simp only[cD,Xah,decide_eq_false_iff_not]at A;omega
def Vx{x:Instance}(J:LoadB x){l:List Visit}(h:∀v∈l,0<=v.order/\v.order<(x.orders.length:Int)):nQ l=(((nF l:Nat):Int),0)/\∀i∈fA (nQ l).1,0<=i/\i<(x.orders.length:Int):=by
 have A:∀v∈l,Ht v=false:=fun v E=>by have:=h v E;have:=J.few;simp only[Ht,Xah,decide_eq_false_iff_not];omega
 have e:nQ l=(((nF l:Nat):Int),0):=by unfold nQ;rw[if_neg (by rw[Db A];simp),Jz A]
 refine⟨e,fun i F=>?_⟩;rw[e]at F;obtain⟨h0,h1,I⟩:=ZN F;rw[GE]at I;obtain⟨v,E,M⟩:=Xao.1 I;have:=h v E;have:v.order.toNat=i.toNat:=by simpa using M
 omega
def nL(x:Instance)(l:List Visit):List (List Int)×Int:=if(sL x l != 0)=true then([],sL x l)else(wP x l (l.length+1),0)
def Zq(x:Instance)(r:Route)(Y:LoadB x)(hl:r.visits.length<=1048576)(ha:x.apart.length<=1048576)(hb:x.before.length<=1048576):
  PC prog 127 [.agg (aE x),.agg (bI r)] (.tup [.sl ((nL x r.visits).1.map sX),int (nL x r.visits).2]):=by
 refine pcb (fun t=>t == 35) func127 rfl rfl ?_;simp only[go_sem];refine aP (G8 x r hl ha hb) ?_;simp only[go_sem];refine aA (fun hc=>?_) (fun hc=>?_)
 ·simp only[go_sem];have:nL x r.visits=([],sL x r.visits):=by unfold nL;rw[if_pos hc]
  rw[this];exact .refl _
 have e0:nL x r.visits=(wP x r.visits (r.visits.length+1),0):=by unfold nL;rw[if_neg (by rw[hc];simp)]
 have aj:sL x r.visits=0:=by simpa[bne]using hc
 have af:=Yc aj;obtain⟨eo,hm⟩:=Vx Y af;simp only[go_sem];refine aP (Hj r hl) ?_;simp only[go_sem];refine aA (fun ae=>by rw[eo]at ae;simp at ae) (fun _=>?_);simp only[go_sem];refine CN [(0,true),(1,true),(2,false),(3,false),(4,false),(5,false),(6,false)] (by kernel_rfl) ?_;simp only[go_sem];refine aP (J2 x) ?_;simp only[go_sem];refine aP (acY x _ _ Y.dims.1 Y.dims.2 Y.load hm) ?_;simp only[go_sem];refine aJ fun j hj=>?_
 simp only[go_sem];refine⟨fun ρ H=>∃k:Nat,k<=r.visits.length/\ρ 2=.rp (aE x) 0/\ρ 37=.sl (r.visits.map aL)/\ρ 38=int r.visits.length/\ρ 39=int k/\ρ 9=.sl ((LU x r.visits k).map aQ)/\∃j,ρ 10=.os j/\H j=some (ajX (wP x r.visits (k+1))),fun ρ _=>r.visits.length-aT (ρ 39),⟨0,Xab _,rfl,rfl,by simp only[go_sem,Xaa],rfl,rfl,j,rfl,aB _ _ _⟩,?_⟩;clear hj;rintro ρ H ⟨k,hk,M,F,E,A,U,j,I,R⟩;simp only[go_sem,M,F,E,A,U,I];refine aA (fun J=>?_) (fun X=>?_)
 ·have J:=bA J;obtain⟨v,hv⟩:=aM J;have b1:=inB J;have ai:=af v (Xac hv);obtain⟨o,ho⟩:=aM (show v.order.toNat<x.orders.length by omega);have am:=Y.load o (Xac ho);have an:=Ny Y r.visits k;have hd:=Y.dims;have Z:=Wt (x:=x) hv;unfold U7 at Z;rw[ho]at Z;simp only at Z;simp only[go_sem,M,F,E,A,U,I,aC hv,b1];refine aJ fun ak T=>?_
  simp only[go_sem,M,F,E,A,U,I,R];refine bP T (by simp[cX]) fun aa (ab:aa ak=some (⟨126,2,[aL v]⟩)) N=>?_
  replace R:=N R;obtain⟨ac,R⟩:=R;clear N T;simp only[go_sem,M,F,E,A,U,I,ab,R];have ag:wP x r.visits (k+2)=wP x r.visits (k+1)++[LU x r.visits (k+1)]:=by unfold wP;rw[Xbt,Xan];rfl
  have ah:(wP x r.visits (k+1)).length=k+1:=by simp[wP]
  refine aA (fun O=>?_) (fun O=>?_)
  ·simp only[go_sem,M,F,E,A,U,I,ab,aC ho,ai];refine aP (NC.pc2 (aiP (LU x r.visits k) o.load (by omega) (by omega))) ?_;simp only[go_sem,M,F,E,A,U,I];refine aA (fun hb=>by simp at hb) (fun _=>?_);simp only[go_sem,M,F,E,A,U,I];refine aX R ⟨rfl,rfl⟩ ⟨rfl,trivial⟩ (by simp only[Xaa,ah,Xad,List.length_nil];omega) (fun j' al=>?_);simp only[go_sem,M,F,E,A,aV k];refine⟨⟨k+1,J,rfl,by rw[Z,if_pos O],j',rfl,?_⟩,by simp only[aF];omega⟩;rw[aB,ag,Z,if_pos O];show _=some (⟨32,1,_⟩:Row);rw[Xan];rfl
  ·simp only[go_sem,M,F,E,A,U,I,ab,aC ho,ai];refine aP (NC.pc2 (afB (LU x r.visits k) o.load (by omega) (by omega))) ?_;simp only[go_sem,M,F,E,A,U,I];refine aA (fun hb=>by simp at hb) (fun _=>?_);simp only[go_sem,M,F,E,A,U,I];refine aX R ⟨rfl,rfl⟩ ⟨rfl,trivial⟩ (by simp only[Xaa,ah,Xad,List.length_nil];omega) (fun j' al=>?_);simp only[go_sem,M,F,E,A,aV k];refine⟨⟨k+1,J,rfl,by rw[Z,if_neg (by rw[O];simp)],j',rfl,?_⟩,by simp only[aF];omega⟩;rw[aB,ag,Z,if_neg (by rw[O];simp)];show _=some (⟨32,1,_⟩:Row);rw[Xan];rfl
 ·have X:=bB hk X;subst X;simp only[go_sem,I];rw[e0];exact .tup _ _ (.cons _ _ _ _ (.row _ _ _ R (ConvE.refl _)) (ConvL.refl _))
def acJ(x:Instance)(r:Route)(a:List Int)(I:a.length<=1048576)(J:cD r.type x.types.length=false):
  PC prog 129 [.sl (a.map aQ),.rp (aE x) 0,.rp (bI r) 0] (boo (!kV a (LQ x r.type))):=by
 have A:0<=r.type/\r.type<(x.types.length:Int):=by simp only[cD,Xah,decide_eq_false_iff_not]at J;omega
 obtain⟨t,E⟩:=aM (show r.type.toNat<x.types.length by omega);have F:LQ x r.type=t.cap:=by unfold LQ;rw[E]
 refine pcd func129 rfl rfl ?_;simp only[go_sem];simp only[go_sem,aC E,A];refine aP (acN a t.cap I) ?_;simp only[go_sem];rw[F];exact .refl _
def Cm(x:Instance)(r:Route):Int:=
 if cD r.type x.types.length=true then 2 else if((nL x r.visits).2 != 0)=true then(nL x r.visits).2
 else if((nL x r.visits).1.any fun l=> !kV l (LQ x r.type))=true then 17 else 0
def Sv{x:Instance}(A:LoadB x){l:List Visit}:(nL x l).1.length<=l.length+1/\∀a∈(nL x l).1,a.length=(lO x).toNat:=by
 unfold nL;split
 ·simp
 ·refine⟨by simp[wP],fun a E=>?_⟩;obtain⟨k,_,rfl⟩:=Xay.1 E;exact Ny A l k
def abP(x:Instance)(r:Route)(A:LoadB x)(Y:r.visits.length<=1048575)(M:x.apart.length<=1048576)(T:x.before.length<=1048576):
  PC prog 85 [.agg (aE x),.agg (bI r)] (int (Cm x r)):=by
 refine pcd func85 rfl rfl ?_;simp only[go_sem];refine aA (fun h1=>?_) (fun h1=>?_)
 ·simp only[go_sem];exact bZ (by unfold Cm;rw[if_pos (show cD r.type x.types.length=true from h1)])
 have h1:cD r.type x.types.length=false:=h1;have E:¬cD r.type x.types.length=true:=by rw[h1];simp
 simp only[go_sem];refine aP (Zq x r A (by omega) M T) ?_;simp only[go_sem];refine aA (fun J=>?_) (fun J=>?_)
 ·simp only[go_sem];exact bZ (by unfold Cm;rw[if_neg E,if_pos J])
 have c2:¬((nL x r.visits).2 != 0)=true:=by rw[J];simp
 obtain⟨X,O⟩:=Sv A (l:=r.visits);have U:=A.dims;simp only[go_sem];refine aP (EJ (p:=fun a=> !kV a (LQ x r.type)) (nL x r.visits).1 (by omega) (by simp only[go_sem]) fun a I=>acJ x r a (by rw[O a I];omega) h1) ?_;simp only[go_sem];refine aA (fun F=>?_) (fun F=>?_)
 ·simp only[go_sem];exact bZ (by unfold Cm;rw[if_neg E,if_neg c2,if_pos F])
 ·simp only[go_sem];exact bZ (by unfold Cm;rw[if_neg E,if_neg c2,if_neg (by rw[F];simp)])
def afI{H:aH}{a b:ByteArray}(h:a=b):Conv H (.v (.string a)) (.v (.string b)):=h▸.refl _
def aaH(n:Nat)(J:n<20):PC prog 254 [int n] (str (iX n)):=by
 refine pcd func254 rfl rfl ?_;simp only[go_sem];refine aA (fun E=>?_) (fun E=>?_)
 ·simp only[go_sem,aV n];have A:n=0\/n=1\/n=2\/n=3\/n=4\/n=5\/n=6\/n=7\/n=8\/n=9:=by simp at E;omega
  rcases A with rfl|rfl|rfl|rfl|rfl|rfl|rfl|rfl|rfl|rfl <;> exact⟨by decide,afI (by rw[uN (by omega)];rfl)⟩
 ·have I:10<=n:=by simp at E;omega
  have w1:IntKind.i64.wrap ((n:Int)*2)=((n*2:Nat):Int):=by rw[bG (by omega)];omega
  have F:IntKind.i64.wrap (((n*2:Nat):Int)+2)=((n*2+2:Nat):Int):=by rw[bG (by omega)];omega
  simp only[go_sem,w1,F];have A:n=10\/n=11\/n=12\/n=13\/n=14\/n=15\/n=16\/n=17\/n=18\/n=19:=by omega
  rcases A with rfl|rfl|rfl|rfl|rfl|rfl|rfl|rfl|rfl|rfl <;> exact⟨by decide,afI (by rw[Am (by omega),uN (by omega)];rfl)⟩
def N9(n:Nat)(E:n<20):PC prog 235 [int n,int 10] (str (iX n)):=by refine pcd func235 rfl rfl ?_;simp only[go_sem];refine aA (fun _=>?_) (fun A=>by simp at A);simp only[go_sem];refine aA (fun A=>?_) (fun A=>by simp at A;omega);simp only[go_sem];refine aP (aaH n E) ?_;simp only[go_sem];exact .refl _
def adJ(n:Nat)(A:n<20):PC prog 208 [int n] (str (iX n)):=by refine pcd func208 rfl rfl ?_;simp only[go_sem];refine aP (N9 n A) ?_;simp only[go_sem];exact .refl _
def PV(n:Nat)(A:n<20):PC prog 166 [int n] (str (iX n)):=by refine pcd func166 rfl rfl ?_;simp only[go_sem];refine aP (adJ n A) ?_;simp only[go_sem];exact .refl _
def rY{n:Int}(h: -9223372036854775808<=n/\n<=9223372036854775807):W n=n:=bG h
def Mp(n a b:Int):PC prog 273 [int n,int a,int b] (boo (decide (n>=a)&&decide (n<=b))):=by refine pcd func273 rfl rfl ?_;simp only[go_sem];exact .refl _
structure TravB(l:List Point):Prop where
 len:1<=l.length/\l.length<=16
 pt:∀p∈l,0<=p.t/\p.t<=4096/\p.t<=p.a/\p.a<=p.t+4096
 mono:∀i,i+1<l.length->(dM l i).t<(dM l (i+1)).t/\(dM l i).a<=(dM l (i+1)).a
def fX{α:Type}{b:Bool}{f:α}(h:opt b f=[]):b=false:=by
 cases b with
 | false=>rfl
 | true=>simp[opt]at h
def adM{l:List Point}(h:jD l=[]):TravB l:=by
 unfold jD at h;rw[Xbj]at h;have h1:=fX h.1;unfold Fp at h1;simp only[Xah,decide_eq_false_iff_not]at h1;have F:∀i,i<l.length->gB l i=[]:=fun i E=>List.flatMap_eq_nil_iff.1 h.2 i (Xav.2 E)
 have I:∀p∈l,0<=p.t/\p.t<=4096/\p.t<=p.a/\p.a<=p.t+4096:=fun p J=>by obtain⟨i,E,rfl⟩:=List.getElem_of_mem J;have:=F i E;unfold gB at this;rw[Xbj]at this;have A:=fX this.1;rw[dO (List.getElem?_eq_getElem E)]at A;unfold pM at A;simp only[Xah,decide_eq_false_iff_not]at A;have w:=bG (n:=l[i].t+4096) (by omega);omega
 refine⟨by omega,I,fun i E=>?_⟩;have:=F (i+1) E;unfold gB at this;rw[Xbj]at this;have A:=fX this.2;unfold KY at A;have e:i+1-1=i:=rfl;rw[e]at A;simp at A;exact A
def Lk{l:List Point}(h:TravB l):∀(i j:Nat),i<j->j<l.length->(dM l i).t<(dM l j).t
 | i,0,hij,_=>by omega
 | i,j+1,hij,hj=>by
  have h1:=(h.mono j hj).1;by_cases e:i=j
  ·subst e;exact h1
  ·have:=Lk h i j (by omega) (by omega);omega
def Yy(l:List Point)(h:TravB l):PC prog 279 [.sl (l.map bV)] (.sl []):=by
 have hl:=h.len;refine pcd func279 rfl rfl ?_;simp only[go_sem];refine aA (fun T=>by exfalso;simp only[Xbm,Xba,decide_eq_true_eq]at T;omega) (fun _=>?_);simp only[go_sem];refine⟨fun ρ _=>∃k:Nat,k<=l.length/\ρ 0=.sl (l.map bV)/\ρ 19=.sl (l.map bV)/\ρ 20=int l.length/\ρ 21=int k/\ρ 3=.sl [],fun ρ _=>l.length-aT (ρ 21),⟨0,Xab _,rfl,rfl,rfl,rfl,rfl⟩,?_⟩;rintro ρ H ⟨k,hk,h0,E,A,F,I⟩;simp only[go_sem,h0,E,A,F,I];refine aA (fun J=>?_) (fun ab=>?_)
 ·have J:=bA J;obtain⟨p,hp⟩:=aM J;have b1:=inB J;have ae:=h.pt p (Xac hp);simp only[go_sem,h0,E,A,F,I,aC hp,b1];refine aJ fun Y X=>?_
  simp only[go_sem,h0,E,A,F,I];refine aN (aB _ _ _) (by simp[fZ]) ?_;generalize M:aI (aI _ Y _) Y _=HGi5;have O:HGi5 Y=some (⟨119,2,[bV p]⟩):=by rw[<-M,aB];rfl
  clear M X;simp only[go_sem,h0,E,A,F,I,O];refine aP (PV k (by omega)) ?_;simp only[go_sem,h0,E,A,F,I,O];refine aP (Mp _ _ _) ?_;simp only[go_sem,h0,E,A,F,I,O];have w:=bG (n:=p.t+4096) (by omega);refine aA (fun T=>by exfalso;rw[w]at T;simp at T;omega) (fun _=>?_);simp only[go_sem,h0,E,A,F,I,O];refine gW [Y] [(0,false),(1,false),(2,false),(3,true),(4,true),(5,true),(6,false),(7,false),(8,false),(9,false),(10,false),(11,false),(12,false),(13,true),(14,true),(15,true),(16,false),(17,false),(18,false),(19,false),(20,false),(21,false),(22,false),(23,false)] (by simp[O]) (by kernel_rfl) fun Hp Hr Z hr _ ac=>?_
  have P5:=(Z Y (by simp)).trans O;obtain⟨q,hq⟩:=aM (show k-1<l.length by omega);have U:decide ((k:Int)>0)=true->(0<=IntKind.i64.wrap ((k:Int)-1)/\IntKind.i64.wrap ((k:Int)-1)<(l.length:Int)):=fun hg=>by simp at hg;rw[nT (show k<=4611686018427387904 by omega)];omega
  simp only[go_sem,h0,E,A,F,I,P5,XC (show k<=4611686018427387904 by omega),aC hq];refine⟨U,fun hg=>U hg.1,dX fun _ Hm _ _=>?_⟩;simp only[go_sem,h0,E,A,F,I];have hm:0<k->q.t<p.t/\q.a<=p.a:=fun aa=>by have:=h.mono (k-1) (by omega);rw[show k-1+1=k by omega,dO hp,dO hq]at this;exact this
  refine aA (fun T=>?_) (fun _=>?_)
  ·exfalso;simp only[Xbm,Xam,decide_eq_true_eq]at T;have:=hm (by omega);omega
  simp only[go_sem,h0,E,A,F,I,aV k];exact⟨⟨k+1,J,rfl⟩,by simp only[aF];omega⟩
 ·simp only[go_sem,I];exact .refl _
def Cj(l:List Point)(h:TravB l):PC prog 274 [.sl (l.map bV)] (boo true):=by refine pcd func274 rfl rfl ?_;simp only[go_sem];refine aP (Yy l h) ?_;simp only[go_sem];exact .refl _
def JE(p:Point)(t:Int):PC prog 281 [.agg (bV p),int t] (int (W (p.t-t))):=by refine pcd func281 rfl rfl ?_;simp only[go_sem];exact .refl _
def bs(l:List Point)(t:Int):Nat:=(l.takeWhile fun p=>decide (p.t<t)).length
def xZ(l:List Point)(t:Int):Bool:=decide ((bs l t:Int)<(l.length:Int))&&((dM l (bs l t)).t-t == 0)
def WV{α:Type}{p:α->Bool}:∀(l:List α) (i:Nat),i<=l.length->(∀c x,c<i->l[c]?=some x->p x=true)->(∀x,l[i]?=some x->p x=false)->(l.takeWhile p).length=i
 | [],i,hi,_,_=>by simp at hi;simp[hi]
 | a::r,0,_,_,h2=>by have:=h2 a rfl;simp[List.takeWhile,this]
 | a::r,i+1,hi,h1,h2=>by have E:=h1 0 a (by omega) rfl;rw[List.takeWhile_cons,if_pos E,Xad,WV r i (by simpa using hi) (fun c x F A=>h1 (c+1) x (by omega) (by simpa using A)) (fun x A=>h2 x (by simpa using A))]
def ajW{l:List Point}{t:Int}{i:Nat}(E:i<=l.length)(h1:∀c,c<i->(dM l c).t<t)(I:i<l.length->t<=(dM l i).t):bs l t=i:=by
 refine WV l i E (fun c x F A=>?_) (fun x A=>?_)
 ·have:=h1 c F;rw[dO A]at this;simpa using this
 ·have:=I (List.getElem?_eq_some_iff.1 A).1;rw[dO A]at this;simp;omega
def Wb(l:List Point)(t:Int)(h:TravB l)(ht:0<=t/\t<=1073741824):PC prog 280 [.sl (l.map bV),int t,.v (.func (.func 281) #[] #[])] (.tup [int (bs l t),boo (xZ l t)]):=by
 have hl:=h.len;refine pcd func280 rfl rfl ?_;simp only[go_sem];have ac:aG prog 281=true:=by kernel_rfl
 refine⟨fun ρ _=>∃i j:Nat,i<=j/\j<=l.length/\ρ 0=.sl (l.map bV)/\ρ 1=int t/\ρ 2=.v (.func (.func 281) #[] #[])/\ρ 8=int l.length/\ρ 9=int i/\ρ 10=int j/\(∀c,c<i->(dM l c).t<t)/\(j<l.length->t<=(dM l j).t),fun ρ _=>aT (ρ 10)-aT (ρ 9),⟨0,l.length,Xab _,Xag _,rfl,rfl,rfl,rfl,rfl,rfl,fun c hc=>by omega,fun hc=>by omega⟩,?_⟩;rintro ρ H ⟨i,j,ah,hj,h0,h1,M,O,U,F,hz,hy⟩;simp only[go_sem,h0,h1,M,O,U,F];refine aA (fun E=>?_) (fun T=>?_)
 ·have E:i<j:=by simp at E;omega
  have w1:IntKind.i64.wrap ((i:Int)+(j:Int))=((i+j:Nat):Int):=by rw[bG (by omega)];omega
  have w2:IntKind.u64.wrap ((i+j:Nat):Int)=((i+j:Nat):Int):=DI (by omega);have w3:shV .shr .u64 ((i+j:Nat):Int) 1=(((i+j)/2:Nat):Int):=by show((i+j:Nat):Int).fdiv (2^min (1:Int).toNat 64)=_;rw[Int.fdiv_eq_ediv_of_nonneg _ (by decide)];rfl
  have w4:IntKind.i64.wrap (((i+j)/2:Nat):Int)=(((i+j)/2:Nat):Int):=bG (by omega);have hm:(i+j)/2<l.length:=by omega
  generalize af:(i+j)/2=m at w3 w4 hm;have ag:i<=m/\m<j:=by omega
  obtain⟨p,X⟩:=aM hm;have b1:=inB hm;have aa:=h.pt p (Xac X);have e:W (p.t-t)=p.t-t:=rY (by omega);simp only[go_sem,h0,h1,M,O,U,F,w1,w2,w3,w4,aC X,b1,ac];refine⟨by decide,PC.use (JE p t) ?_⟩;simp only[go_sem,h0,h1,M,O,U,F,e];refine lK (fun A _=>∃Y j':Nat,Y<=j'/\j'<=l.length/\j'-Y<j-i/\A 0=.sl (l.map bV)/\A 1=int t/\A 2=.v (.func (.func 281) #[] #[])/\A 8=int l.length/\A 9=int Y/\A 10=int j'/\(∀c,c<Y->(dM l c).t<t)/\(j'<l.length->t<=(dM l j').t)) ?_ fun K hK _ _=>aA (fun hb=>?_) (fun hb=>?_)
  ·rintro A H' ⟨Y,j',a1,a2,a3,c0,c1,c2,c8,c9,Z,cz,cy⟩;exact⟨⟨Y,j',a1,a2,c0,c1,c2,c8,c9,Z,cz,cy⟩,by rw[c9,Z];simp only[aF];omega⟩
  ·have hb:p.t-t<0:=by simpa using hb
   simp only[go_sem,h0,h1,M,O,U,F,aV m];refine hK _ _ ⟨m+1,j,by omega,hj,by omega,by simp only[go_sem,h0],by simp only[go_sem,h1],by simp only[go_sem,M],by simp only[go_sem,O],by simp only[go_sem],by simp only[go_sem,F],fun c hc=>?_,hy⟩;have e2:=dO X;by_cases e3:c=m
   ·subst e3;rw[e2];omega
   ·have:=Lk h c m (by omega) hm;rw[e2]at this;omega
  ·have hb:¬p.t-t<0:=by simpa using hb
   simp only[go_sem,h0,h1,M,O,U,F];refine hK _ _ ⟨i,m,by omega,by omega,by omega,by simp only[go_sem,h0],by simp only[go_sem,h1],by simp only[go_sem,M],by simp only[go_sem,O],by simp only[go_sem,U],by simp only[go_sem],hz,fun _=>?_⟩;rw[dO X];omega
 ·have T:i=j:=by simp at T;omega
  subst T;have ab:bs l t=i:=ajW hj hz hy;simp only[go_sem,h0,h1,M,O,U,F,ac];have I:decide ((i:Int)<(l.length:Int))=true->(l.map bV).getD i []=bV (dM l i):=fun J=>by
   have E:i<l.length:=by simp at J;omega
   obtain⟨p,X⟩:=aM E;rw[aC X,dO X]
  have ae:decide ((i:Int)<(l.length:Int))=true->0<=(i:Int)/\(i:Int)<(l.length:Int):=fun J=>by simp at J;omega
  refine⟨fun J=>⟨ae J,by rw[I J];rfl⟩,fun J=>by rw[I J];exact Xag _,int (W ((dM l i).t-t)),fun J=>by rw[I J,Ck];exact(JE _ t).q rfl,?_⟩;simp only[go_sem];have e:xZ l t=(decide ((i:Int)<(l.length:Int))&&(W ((dM l i).t-t) == 0)):=by
   unfold xZ;rw[ab];by_cases E:i<l.length
   ·have aa:=h.pt _ (Xac (aM E).choose_spec);rw[<-dO (aM E).choose_spec]at aa;rw[rY (by omega)]
   ·have:decide ((i:Int)<(l.length:Int))=false:=by simp;omega
    rw[this];rfl
  rw[ab,e];exact .refl _
def Yk(p q:Point)(t:Int):Int:=W (p.a+IntKind.i64.wrap (Int.tdiv (W (W (W (W (t-p.t)*W (q.a-p.a))+W (q.t-p.t))-1)) (W (q.t-p.t))))
def HC(l:List Point)(t:Int):Int:=
 if xZ l t=true then(dM l (bs l t)).a else if((bs l t:Int) == 0)=true then BV (dM l 0) t
 else if((bs l t:Int) == (l.length:Int))=true then BV (dM l (bs l t-1)) t else Yk (dM l (bs l t-1)) (dM l (bs l t)) t
def afH(l:List Point)(t:Int):bs l t<=l.length:=by have:=congrArg List.length (List.takeWhile_append_dropWhile (p:=fun p:Point=>decide (p.t<t)) (l:=l));rw[Xaf]at this;unfold bs;omega
def Vj(l:List Point)(t:Int)(h:TravB l)(ht:0<=t/\t<=1073741824):PC prog 275 [.sl (l.map bV),int t] (int (HC l t)):=by
 have hl:=h.len;have hb:=afH l t;refine pcd func275 rfl rfl ?_;simp only[go_sem];refine aP (Wb l t h ht) ?_;simp only[go_sem];obtain⟨i,hi⟩:∃i,bs l t=i:=⟨_,rfl⟩;have Y:HC l t=if xZ l t=true then(dM l i).a else if((i:Int) == 0)=true then BV (dM l 0) t else if((i:Int) == (l.length:Int))=true then BV (dM l (i-1)) t else Yk (dM l (i-1)) (dM l i) t:=by unfold HC;rw[hi]
 rw[hi]at hb |-;rw[Y];refine aA (fun h1=>?_) (fun h1=>?_)
 ·have aa:i<l.length:=by unfold xZ at h1;rw[hi]at h1;simp at h1;omega
  obtain⟨p,I⟩:=aM aa;have b1:=inB aa;simp only[go_sem,aC I,b1];rw[if_pos h1,dO I];exact .refl _
 simp only[go_sem];refine aA (fun U=>?_) (fun U=>?_)
 ·obtain⟨p,I⟩:=aM (show 0<l.length by omega);simp only[go_sem];refine dF (by rfl) (by kernel_rfl) ?_;simp only[go_sem,aC I];rw[if_neg (by rw[h1];simp),if_pos U,dO I];have b0:(0:Int)<=0/\(0:Int)<(l.length:Int):=by omega
  exact⟨b0,b0,.refl _⟩
 simp only[go_sem];refine aA (fun h3=>?_) (fun h3=>?_)
 ·have ab:i≠0:=by simpa using U
  obtain⟨p,I⟩:=aM (show i-1<l.length by omega);simp only[go_sem];refine dF (by rfl) (by kernel_rfl) ?_;have w:IntKind.i64.wrap ((i:Int)-1)=((i-1:Nat):Int):=by rw[bG (by omega)];omega
  have b1:=inB (show i-1<l.length by omega);simp only[go_sem,w,aC I,b1];rw[if_neg (by rw[h1];simp),if_neg (by rw[U];simp),if_pos h3,dO I];exact .refl _
 have ab:i≠0:=by simpa using U
 have ag:i≠l.length:=by simp at h3;omega
 obtain⟨p,I⟩:=aM (show i-1<l.length by omega);obtain⟨q,hq⟩:=aM (show i<l.length by omega);have w:IntKind.i64.wrap ((i:Int)-1)=((i-1:Nat):Int):=by rw[bG (by omega)];omega
 have b1:=inB (show i-1<l.length by omega);have b2:=inB (show i<l.length by omega);have J:=(h.mono (i-1) (by omega)).1;rw[show i-1+1=i by omega,dO I,dO hq]at J;have ah:=h.pt p (Xac I);have ai:=h.pt q (Xac hq);rw[if_neg (by rw[h1];simp),if_neg (by rw[U];simp),if_neg (by rw[h3];simp),dO I,dO hq];simp only[go_sem];refine Bb (fun M H'=>M 1=int t/\∃F A,M 7=.op F 0 0/\M 8=.op A 0 0/\H' F=some (⟨119,2,[bV p]⟩:Row)/\H' A=some (⟨119,2,[bV q]⟩:Row)/\F≠A) ?_ fun K hK=>?_
 ·rintro ρ H ⟨h1,F,A,T,X,R7,R8,E⟩;simp only[go_sem,h1,T,X,R7,R8];refine gW [F,A] [(0,true),(1,true),(2,true),(3,true),(4,true),(5,true),(6,true),(7,true),(8,true),(9,true),(10,true),(11,true),(12,true),(13,true),(14,true),(15,false),(16,false),(17,false),(18,false)] (by simp[R7,R8]) (by kernel_rfl) fun Hp O I hr _ af=>?_
  have P7:=(I F (by simp)).trans R7;have P8:=(I A (by simp)).trans R8;simp only[go_sem,h1,T,X,P7,P8];refine⟨acH (by omega),dX fun _ Hm _ _=>?_⟩;simp only[go_sem];exact .refl _
 ·refine Av [] (.q 0 (.q 1 (.q 2 (.q 3 (.q 4 (.q 5 (.q 6 (.q 7 (.q 8 (.a2 9 (.a1 10 (.a1 11 (.a1 12 .nil))) 10 (.a1 9 (.a1 11 (.a1 12 .nil))))))))))))) (by simp) (by kernel_rfl) fun Hp O _ ae _ _=>?_
  simp only[go_sem,w,aC I,aC hq,b1,b2];have rP:∀{a b:Nat} {G:aH} {z:List AV} {y:List AV},a≠b->G a=some (⟨119,2,[z]⟩:Row)->aI G b (some (⟨119,2,[y]⟩:Row)) a=some (⟨119,2,[z]⟩:Row):=fun ac hG=>by rw[aD _ _ _ _ ac];exact hG
  refine jN ?_ ?_
  ·simp only[go_sem];refine aJ fun F T=>?_
   simp only[go_sem];refine aJ fun A X=>?_
   have E:=aR (aB _ _ _) X;have Z:=hY (r':=(⟨119,2,[[int 0,int 0]]⟩:Row)) (aB O F (some (⟨119,2,[[int 0,int 0]]⟩:Row))) X;have S8:=aB (aI O F (some (⟨119,2,[[int 0,int 0]]⟩:Row))) A (some (⟨119,2,[[int 0,int 0]]⟩:Row));generalize aI (aI O F _) A _=G at Z S8 |-;simp only[go_sem];refine aN Z (by simp[fZ]) ?_;simp only[go_sem];refine aN (aeV S8 E.symm) (by simp[fZ]) ?_;simp only[go_sem];refine dX fun _ Hm _ J=>hK _ _ ⟨by simp only[go_sem],F,A,by simp only[go_sem],by simp only[go_sem],?_,?_,E⟩
   ·rw[J F (by simp),aD _ _ _ _ E,aB]
   ·rw[J A (by simp),aB]
  ·simp only[go_sem];refine aJ fun A X=>?_
   simp only[go_sem];refine aJ fun F T=>?_
   have E:=(aR (aB _ _ _) T).symm;have S8:=hY (r':=(⟨119,2,[[int 0,int 0]]⟩:Row)) (aB O A (some (⟨119,2,[[int 0,int 0]]⟩:Row))) T;have Z:=aB (aI O A (some (⟨119,2,[[int 0,int 0]]⟩:Row))) F (some (⟨119,2,[[int 0,int 0]]⟩:Row));generalize aI (aI O A _) F _=G at Z S8 |-;simp only[go_sem];refine aN Z (by simp[fZ]) ?_;simp only[go_sem];refine aN (aeV S8 E.symm) (by simp[fZ]) ?_;simp only[go_sem];refine dX fun _ Hm _ J=>hK _ _ ⟨by simp only[go_sem],F,A,by simp only[go_sem],by simp only[go_sem],?_,?_,E⟩
   ·rw[J F (by simp),aD _ _ _ _ E,aB]
   ·rw[J A (by simp),aB]
def TE{α:Type}{p:α->Bool}:∀l:List α,(∀c x,c<(l.takeWhile p).length->l[c]?=some x->p x=true)/\(∀x,l[(l.takeWhile p).length]?=some x->p x=false)
 | []=>⟨fun c x h _=>by simp at h,fun x h=>by simp at h⟩
 | a::r=>by
  obtain⟨h1,I⟩:=TE (p:=p) r;by_cases E:p a=true
  ·rw[List.takeWhile_cons,if_pos E];refine⟨fun c x F A=>?_,fun x A=>I x (by simpa using A)⟩;cases c with
   | zero=>simp at A;subst A;exact E
   | succ c=>exact h1 c x (by simpa using F) (by simpa using A)
  ·rw[List.takeWhile_cons,if_neg E];refine⟨fun c x F _=>by simp at F,fun x A=>?_⟩;simp at A;subst A;simpa using E
def Ug{p:Point}{t:Int}(A:0<=p.t/\p.t<=4096/\p.t<=p.a/\p.a<=p.t+4096)(e:p.t=t):BV p t=p.a:=by unfold BV;subst e;rw[rY (n:=p.t+p.a) (by omega),rY (by omega)];omega
def adH{p q:Point}{t:Int}(E:0<=p.t/\p.t<=4096/\p.t<=p.a/\p.a<=p.t+4096)(F:0<=q.t/\q.t<=4096/\q.t<=q.a/\q.a<=q.t+4096)(A:p.t<q.t)(e:p.t=t):Sk p q t=p.a:=by
 unfold Sk;subst e;rw[Int.sub_self,show W 0=0 from rfl,Int.zero_mul,show W 0=0 from rfl,Int.zero_add,rY (n:=q.t) (by omega),rY (n:=q.t-p.t) (by omega),rY (n:=q.t-p.t-1) (by omega),
  Xbz (by omega),Int.ediv_eq_zero_of_lt (by omega) (by omega)]
 rw[show IntKind.i64.wrap 0=0 from rfl,Int.add_zero,rY (by omega)]
def ahE{p q:Point}{t:Int}(J:0<=p.t/\p.t<=4096/\p.t<=p.a/\p.a<=p.t+4096)(T:0<=q.t/\q.t<=4096/\q.t<=q.a/\q.a<=q.t+4096)(O:p.a<=q.a)(h1:p.t<=t)(M:t<q.t):Sk p q t=Yk p q t:=by
 unfold Sk Yk;have I:0<=t-p.t/\t-p.t<=4096:=by omega
 have A:0<=q.a-p.a/\q.a-p.a<=8192:=by omega
 have E:0<=(t-p.t)*(q.a-p.a):=Int.mul_nonneg I.1 A.1;have F:(t-p.t)*(q.a-p.a)<=4096*8192:=Int.mul_le_mul I.2 A.2 A.1 (by omega);rw[rY (n:=t-p.t) (by omega),rY (n:=q.a-p.a) (by omega),rY (n:=(t-p.t)*(q.a-p.a)) (by omega),rY (n:=q.t-p.t) (by omega)];generalize (t-p.t)*(q.a-p.a)=m at E F;rw[rY (n:=m+q.t) (by omega),rY (n:=m+q.t-p.t) (by omega),rY (n:=m+(q.t-p.t)) (by omega),show m+q.t-p.t=m+(q.t-p.t)by omega]
def PB(l:List Point)(t:Int):Int:=match (List.range (l.length-1)).find? (qB l t)with
 | some k=>Sk (dM l k) (dM l (k+1)) t
 | none=>if decide (t>(dM l 0).t)=true then BV (dM l (l.length-1)) t else BV (dM l 0) t
def IR{l:List Point}{t:Int}{k:Nat}(h:(List.range (l.length-1)).find? (qB l t)=some k):PB l t=Sk (dM l k) (dM l (k+1)) t:=by unfold PB;rw[h]
def OD{l:List Point}{t:Int}(h:(List.range (l.length-1)).find? (qB l t)=none)(A:t>(dM l 0).t):PB l t=BV (dM l (l.length-1)) t:=by unfold PB;rw[h];exact if_pos (by simpa using A)
def NQ{l:List Point}{t:Int}(h:(List.range (l.length-1)).find? (qB l t)=none)(A:¬t>(dM l 0).t):PB l t=BV (dM l 0) t:=by unfold PB;rw[h];exact if_neg (by simpa using A)
def ahU{l:List Point}{t:Int}{i:Nat}(A:bs l t=i)(h:i<l.length/\(dM l i).t=t):HC l t=(dM l i).a:=by unfold HC xZ;rw[A];exact if_pos (by simp;omega)
def ahQ{l:List Point}{t:Int}{i:Nat}(A:bs l t=i)(h:¬(i<l.length/\(dM l i).t=t)):HC l t=if((i:Int) == 0)=true then BV (dM l 0) t
 else if((i:Int) == (l.length:Int))=true then BV (dM l (i-1)) t else Yk (dM l (i-1)) (dM l i) t:=by
 unfold HC xZ;rw[A];exact if_neg (by simp;intro E;omega)
def ZV{l:List Point}{t:Int}(h:TravB l)(hr:jD l=[])(ht:0<=t/\t<=1073741824):nU l t=HC l t:=by
 have hl:=h.len;have hb:=afH l t;obtain⟨ac,ag⟩:=TE (p:=fun p:Point=>decide (p.t<t)) l;have F:∀c,c<bs l t->(dM l c).t<t:=fun c M=>by obtain⟨x,Z⟩:=aM (show c<l.length by omega);have:=ac c x M Z;rw[dO Z];simpa using this
 have T:bs l t<l.length->t<=(dM l (bs l t)).t:=fun af=>by obtain⟨x,Z⟩:=aM af;have:=ag x Z;rw[dO Z];simpa using this
 have U:∀c,c<l.length->0<=(dM l c).t/\(dM l c).t<=4096/\(dM l c).t<=(dM l c).a/\(dM l c).a<=(dM l c).t+4096:=fun c M=>by obtain⟨x,Z⟩:=aM M;rw[dO Z];exact h.pt x (Xac Z)
 unfold nU;have aa:Dy l t=false:=by unfold Dy;rw[hr];simp;omega
 rw[if_neg (by rw[aa];simp)];show PB l t=HC l t;obtain⟨i,hi⟩:∃i,bs l t=i:=⟨_,rfl⟩;rw[hi]at hb F T;have A:(∀c,c+1<l.length->qB l t c=false)->(List.range (l.length-1)).find? (qB l t)=none:=fun hn=>Jy fun c M=>hn c (by have:=Xav.1 M;omega)
 have I:∀k,k+1<l.length->(∀c,c<k->qB l t c=false)->qB l t k=true->(List.range (l.length-1)).find? (qB l t)=some k:=fun k hk hn hy=>NK (k:=k) (fun y ab=>by rw[List.take_range]at ab;exact hn y (by have:=Xav.1 ab;omega)) (oV (by omega)) hy
 have E:∀c,c+1<l.length->(dM l (c+1)).t<=t->qB l t c=false:=fun c _ M=>by unfold qB;simp;omega
 by_cases X:i<l.length/\(dM l i).t=t
 ·rw[ahU hi X];obtain⟨J,he⟩:=X;have Y:∀c,c+1<l.length->c+1<=i->qB l t c=false:=fun c M aj=>E c M (by
   by_cases e:c+1=i
   ·rw[e];omega
   ·have:=F (c+1) (by omega);omega)
  by_cases O:i+1<l.length
  ·have hm:=h.mono i O;rw[IR (I i O (fun c M=>Y c (by omega) (by omega)) (by unfold qB;simp;omega))];exact adH (U i J) (U (i+1) O) hm.1 he
  ·have hn:=A fun c M=>Y c M (by omega)
   have ae:i=l.length-1:=by omega
   by_cases h0:i=0
   ·rw[h0]at he J |-;rw[NQ hn (by omega)];exact Ug (U 0 J) he
   ·have:=F 0 (by omega);rw[OD hn this,<-ae];exact Ug (U i J) he
 ·rw[ahQ hi X];by_cases h0:i=0
  ·subst h0;have hh:=T (by omega);have ah:(dM l 0).t≠t:=fun e=>X ⟨by omega,e⟩
   rw[NQ (A fun c M=>by
    have:(dM l 0).t<=(dM l c).t:=by
     by_cases e:c=0
     ·rw[e];omega
     ·have:=Lk h 0 c (by omega) (by omega);omega
    unfold qB;simp;omega) (by omega),if_pos (by simp)]
  ·rw[if_neg (by simp;omega)];by_cases hn:i=l.length
   ·have:=F 0 (by omega);rw[OD (A fun c M=>E c M (by have:=F (c+1) (by omega);omega)) this,if_pos (by simp;omega),hn]
   ·have J:i<l.length:=by omega
    have hh:=T J;have ah:(dM l i).t≠t:=fun e=>X ⟨J,e⟩
    have ai:=F (i-1) (by omega);have e1:i-1+1=i:=by omega
    rw[IR (I (i-1) (by omega) (fun c M=>E c (by omega) (by have:=F (c+1) (by omega);omega)) (by unfold qB;rw[e1];simp;omega)),if_neg (by simp;omega)];rw[e1];have hm:=h.mono (i-1) (by omega);rw[e1]at hm;exact ahE (U (i-1) (by omega)) (U i J) hm.2 (by omega) (by omega)
def Wf(l:List Point)(t:Int)(F:jD l=[]):PC prog 259 [.sl (l.map bV),int t] (int (nU l t)):=by
 have h:=adM F;refine pcd func259 rfl rfl ?_;simp only[go_sem];refine aP (Mp _ _ _) ?_;simp only[go_sem];refine⟨_,fun _=>(Cj l h).q rfl,?_⟩;simp only[go_sem];have A:Dy l t=(!(decide (t>=0)&&decide (t<=1073741824))|| !true):=by unfold Dy;rw[F,Xap];simp
 rw[<-A];refine aA (fun E=>?_) (fun E=>?_)
 ·simp only[go_sem];exact bZ (by unfold nU;rw[if_pos E])
 have I:0<=t/\t<=1073741824:=by unfold Dy at E;simp at E;omega
 simp only[go_sem];refine aP (Vj l t h I) ?_;simp only[go_sem];exact bZ (ZV h F I).symm
def NM(n:Network)(i:Int):PC prog 236 [.agg (aY n),int i] (boo (Lb n i)):=by refine pcd func236 rfl rfl ?_;simp only[go_sem];exact .refl _
def NT(a:Arc):List AV:=[int a.src,int a.dst,int a.profile]
def aaL(a:Arc):PC prog 258 [.agg (eA a)] (.agg (NT a)):=by
 refine pcb (fun t=>t == 2) func258 rfl rfl ?_;simp only[go_sem];refine aJ fun j A=>?_
 simp only[go_sem];refine aN (aB _ _ _) (by simp) ?_;simp only[go_sem];exact .refl _
structure NetOk(n:Network):Prop where
 arcs:n.arcs.length<=1048576
 travel:∀a∈n.arcs,jD a.travel=[]
 slow:∀a∈n.arcs,a.slow.length<=1048576
def O3(a:Arc)(t:Int)(ha:jD a.travel=[])(aa:a.slow.length<=1048576):PC prog 238 [.agg (eA a),int t] (int (Gg a t)):=by
 refine pcd func238 rfl rfl ?_;simp only[go_sem];refine aP (Wf a.travel t ha) ?_;simp only[go_sem];refine⟨fun ρ _=>∃k:Nat,k<=a.slow.length/\ρ 1=int t/\ρ 13=.sl (a.slow.map bV)/\ρ 14=int a.slow.length/\ρ 5=int ((a.slow.take k).foldl (DO t) (nU a.travel t))/\ρ 15=int k,fun ρ _=>a.slow.length-aT (ρ 15),⟨0,Xab _,rfl,rfl,rfl,rfl,rfl⟩,?_⟩;rintro ρ H ⟨k,hk,h1,A,F,M,E⟩;simp only[go_sem,h1,A,F,M,E];refine aA (fun I=>?_) (fun T=>?_)
 ·have I:=bA I;obtain⟨p,hp⟩:=aM I;have b1:=inB I;have hs:(a.slow.take (k+1)).foldl (DO t) (nU a.travel t)=DO t ((a.slow.take k).foldl (DO t) (nU a.travel t)) p:=by rw[bE hp,List.foldl_append];rfl
  simp only[go_sem,h1,A,F,M,E,aC hp,b1];refine aJ fun X U=>?_
  simp only[go_sem,h1,A,F,M,E];refine aN (aB _ _ _) (by simp[fZ]) ?_;generalize O:aI (aI _ X _) X _=HGi7;have Z:HGi7 X=some (⟨119,2,[bV p]⟩):=by rw[<-O,aB];rfl
  clear O U;simp only[go_sem,h1,A,F,M,E,Z];refine lK (fun J _=>J 1=int t/\J 13=.sl (a.slow.map bV)/\J 14=int a.slow.length/\J 5=int ((a.slow.take (k+1)).foldl (DO t) (nU a.travel t))/\J 15=int k) ?_ fun K hK _ _=>aA (fun Y=>?_) (fun Y=>?_)
  ·clear h1 A F M E;rintro ρ H ⟨h1,A,F,M,E⟩;simp only[go_sem,h1,A,F,M,E,aV k];exact⟨⟨k+1,I,rfl,rfl⟩,by simp only[aF];omega⟩
  ·simp only[go_sem,h1,A,F,M,E,Z];refine hK _ _ ⟨by simp only[go_sem,h1],by simp only[go_sem,A],by simp only[go_sem,F],?_,by simp only[go_sem,E]⟩;simp only[go_sem];rw[hs,DO,if_pos Y];rfl
  ·simp only[go_sem];refine hK _ _ ⟨by simp only[go_sem,h1],by simp only[go_sem,A],by simp only[go_sem,F],?_,by simp only[go_sem,E]⟩;simp only[go_sem,M];rw[hs,DO,if_neg (by rw[Y];simp)]
 ·have T:=bB hk T;subst T;simp only[go_sem,M];rw[Xae];exact .refl _
def abA(n:Network)(p f t:Int)(hl:n.arcs.length<=1048576):PC prog 237 [.agg (aY n),int p,int f,int t] (.tup [.agg (eA ((zT n p f t).getD Cq)),boo (zT n p f t).isSome]):=by
 refine pcd func237 rfl rfl ?_;simp only[go_sem];refine aJ fun j8 an=>?_
 generalize ag:aI _ j8 _=HGj8;have Z:HGj8 j8=some (⟨122,6,[eA Cq]⟩):=by rw[<-ag,aB];rfl
 clear ag an;simp only[go_sem,Z];refine aJ fun J ac=>?_
 have F:j8≠J:=aR Z ac;simp only[go_sem,Z];refine aN (aB _ _ _) (by simp[fZ]) ?_;generalize ab:aI (aI _ J _) J _=HGj10;replace Z:=kpR ab F F Z;have I:HGj10 J=some (⟨346,3,[[int f,int t,int p]]⟩):=by rw[<-ab,aB];rfl
 clear ab ac;simp only[go_sem,I,Z];refine⟨fun ρ H=>∃k:Nat,k<=n.arcs.length/\ρ 8=.op j8 0 0/\ρ 10=.op J 0 0/\ρ 18=.sl (n.arcs.map eA)/\ρ 19=int n.arcs.length/\ρ 20=int k/\H j8=some (⟨122,6,[eA Cq]⟩:Row)/\H J=some (⟨346,3,[[int f,int t,int p]]⟩:Row)/\∀a∈n.arcs.take k,Ma p f t a=false,fun ρ _=>n.arcs.length-aT (ρ 20),⟨0,Xab _,rfl,rfl,rfl,rfl,rfl,Z,I,by simp⟩,?_⟩;clear Z I;rintro ρ H ⟨k,hk,h8,Y,T,X,U,Z,I,hz⟩;simp only[go_sem,h8,Y,T,X,U];refine aA (fun ae=>?_) (fun ai=>?_)
 ·have ae:=bA ae;obtain⟨a,ah⟩:=aM ae;have b1:=inB ae;simp only[go_sem,h8,Y,T,X,U,aC ah,b1];refine aJ fun M aa=>?_
  have E:j8≠M:=aR Z aa;have A:J≠M:=aR I aa;simp only[go_sem,h8,Y,T,X,U,Z,I];refine aN (aB _ _ _) (by simp[iY]) ?_;generalize O:aI (aI _ M _) M _=HGi12;replace Z:=kpR O E E Z;replace I:=kpR O A A I;have af:HGi12 M=some (⟨122,6,[eA a]⟩):=by rw[<-O,aB];rfl
  clear O aa;simp only[go_sem,h8,Y,T,X,U,af,Z,I];refine gW [M] [(0,true),(1,true),(2,false),(3,false)] (by simp[af]) (by kernel_rfl) fun Hp Hr hp hr _ aq=>?_
  have ao:=(hp M (by simp)).trans af;have aj:=(hr J (by simp[A])).trans I;simp only[go_sem,h8,Y,T,X,U,ao,aj];refine⟨_,(aaL a).q rfl,?_⟩;simp only[go_sem,h8,Y,T,X,U,ao,aj,NT];refine dX fun _ Hm ap ak=>?_
  have M8:Hm j8=some (⟨122,6,[eA Cq]⟩:Row):=by
   have n1:j8∉[M]:=by simp[E]
   rw[ak j8 n1];exact(hr j8 n1).trans Z
  have am:=(ap M (by simp)).trans af;have al:Hm J=_:=(ak J (by simp[A])).trans aj;simp only[go_sem,h8,Y,T,X,U,M8,al,am];have ea:(a.src == f&&(a.dst == t&&(a.profile == p&&true)))=Ma p f t a:=by unfold Ma;rw[Bool.and_true,Bool.and_assoc]
  rw[ea];refine aA (fun hb=>?_) (fun hb=>?_)
  ·simp only[go_sem,h8,am];refine aN M8 (by simp[iY]) ?_;simp only[go_sem,h8,iY];have:zT n p f t=some a:=NK hz ah hb;rw[this];exact .refl _
  ·simp only[go_sem,h8,Y,T,X,U,aV k];exact⟨⟨k+1,ae,rfl,M8,al,aS (p:=fun a=>Ma p f t a=false) ah hb hz⟩,by simp only[aF];omega⟩
 ·have ai:=bB hk ai;subst ai;rw[Xae]at hz;simp only[go_sem,h8];refine aN Z (by simp) ?_;simp only[go_sem,h8];have:zT n p f t=none:=Jy hz;rw[this];exact .refl _
def YB(n:Network)(p f t time:Int)(O:NetOk n):PC prog 214 [.agg (aY n),int p,int f,int t,int time] (.tup [int (jO n p f t time).1,int (jO n p f t time).2.1,int (jO n p f t time).2.2]):=by
 refine pcd func214 rfl rfl ?_;simp only[go_sem];refine aP (NM n f) ?_;simp only[go_sem];refine⟨_,fun _=>(NM n t).q rfl,?_⟩;simp only[go_sem];refine aA (fun h1=>?_) (fun h1=>?_)
 ·simp only[go_sem];have:jO n p f t time=(0,0,11):=by unfold jO;rw[if_pos h1]
  rw[this];exact .refl _
 simp only[go_sem];refine aA (fun T=>?_) (fun T=>?_)
 ·simp only[go_sem];have:jO n p f t time=(time,0,0):=by unfold jO;rw[if_neg (by rw[h1];simp),if_pos T]
  rw[this];exact .refl _
 have X:jO n p f t time=match zT n p f t with|some a=>(Gg a time,a.miles,0)|none=>(0,0,12):=by unfold jO;rw[if_neg (by rw[h1];simp),if_neg (by rw[T];simp)];rfl
 rw[X];simp only[go_sem];refine aP (abA n p f t O.arcs) ?_;simp only[go_sem];refine aJ fun F I=>?_
 simp only[go_sem];refine aN (aB _ _ _) (by simp[iY]) ?_;generalize A:aI (aI _ F _) F _=HGj13;have E:HGj13 F=some (⟨122,6,[eA ((zT n p f t).getD Cq)]⟩):=by rw[<-A,aB];rfl
 clear A I;simp only[go_sem,E];cases U:zT n p f t with
 | none=>refine aA (fun _=>?_) (fun M=>by simp at M);simp only[go_sem];exact .refl _
 | some a=>have J:=List.mem_of_find?_eq_some U;refine aA (fun M=>by simp at M) (fun _=>?_);rw[U]at E;simp only[go_sem,Xbh,iY];refine dF (by rfl) (by kernel_rfl) ?_;simp only[go_sem,Xbh,E,iY];refine⟨_,(O3 a time (O.travel a J) (O.slow a J)).q rfl,?_⟩;simp only[go_sem,Xbh,E,iY];exact .refl _
def TM(s:Stop)(a:Int):PC prog 216 [.agg (dQ s),int a] (.tup [int (if lC a s.start>s.close then 0 else lC a s.start),int (if lC a s.start>s.close then 14 else 0)]):=by
 refine pcd func216 rfl rfl ?_;simp only[go_sem];refine aA (fun A=>?_) (fun A=>?_)
 ·have A:lC a s.start>s.close:=by simpa using A
  simp only[go_sem];rw[if_pos A,if_pos A];exact .refl _
 ·have A:¬lC a s.start>s.close:=by simpa using A
  simp only[go_sem];rw[if_neg A,if_neg A];exact .refl _
end Go.Proofs.YtgncgpcpbadfnaaGreatDoor.Sq
end
