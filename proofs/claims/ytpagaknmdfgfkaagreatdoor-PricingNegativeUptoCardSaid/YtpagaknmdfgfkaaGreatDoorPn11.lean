import Derived.Test.YtpagaknmdfgfkaaGreatDoorPn10
set_option linter.unusedSimpArgs false
set_option linter.unusedVariables false
set_option linter.defProp false
set_option maxRecDepth 100000
section
namespace Go.Proofs.YtpagaknmdfgfkaaGreatDoor.Sq
open Go.Proofs.Tryz
open Go.Aw Go.Aw.D Go.Proofs Ty
open Mv (bP bS aO)
def gW(o:Order)(i:Int):List Visit:=(if decide (o.pick.place>=0)=true then[⟨i,false⟩]else[])++(if decide (o.drop.place>=0)=true then[⟨i,true⟩]else[])
def fX(os:List Order)(i:Int):List Visit:=if cF i os.length=true then[]else match os[i.toNat]? with|some o=>gW o i|none=>[]
theorem TT(o:Order)(i:Int):(gW o i).length<=2:=by grind[gW]
def vW(os:List Order)(i:Int):(fX os i).length<=2:=by grind[fX,TT]
def vH(os:List Order)(i:Int):PC prog 115 [.sl (os.map bJ),int i] (.sl ((fX os i).map aF)):=by
 refine pcb (fun t=>t == 5) func115 rfl rfl ?_;simp only[go_sem];refine aN fun j Y=>?_
 simp only[go_sem];refine aH (XO os i) ?_;simp only[go_sem];apply aA <;> intro h0
 ·have J:cF i os.length=true:=by grind
  simp only[go_sem];rw[fX,if_pos J];exact .refl _
 have J:cF i os.length=false:=by grind
 have F:0<=i/\i<(os.length:Int):=by grind[cF]
 obtain⟨o,E⟩:=aK (show i.toNat<os.length by omega);rw[fX,if_neg (by grind),E];simp only[go_sem,aC E,F];apply aA <;> intro h1
 ·simp only[go_sem];refine aY (aB _ _ _) ⟨rfl,rfl⟩ ⟨rfl,trivial⟩ (by simp) (fun Z T=>?_);simp only[go_sem,aC E,F];apply aA <;> intro O
  ·simp only[go_sem];refine aY (aB _ _ _) ⟨rfl,rfl⟩ ⟨rfl,trivial⟩ (by simp) (fun X I=>?_);simp only[go_sem];have e:gW o i=[⟨i,false⟩,⟨i,true⟩]:=by simp_all[gW]
   rw[e];exact .row _ _ _ (aB _ _ _) (ConvE.refl _)
  ·simp only[go_sem];have e:gW o i=[⟨i,false⟩]:=by simp_all[gW]
   rw[e];exact .row _ _ _ (aB _ _ _) (ConvE.refl _)
 ·simp only[go_sem,aC E,F];apply aA <;> intro O
  ·simp only[go_sem];refine aY (aB _ _ _) ⟨rfl,rfl⟩ ⟨rfl,trivial⟩ (by simp) (fun X I=>?_);simp only[go_sem];have e:gW o i=[⟨i,true⟩]:=by simp_all[gW]
   rw[e];exact .row _ _ _ (aB _ _ _) (ConvE.refl _)
  ·simp only[go_sem];have e:gW o i=[]:=by simp_all[gW]
   rw[e];exact .row _ _ _ (aB _ _ _) (ConvE.refl _)
def qU(l:List Visit)(i:Nat):Bool:=decide (bM (l.take i) (l.getD i ⟨0,false⟩)>=0)
def JE:∀l:List Visit,dM 2 (l.map aF)
 | []=>trivial
 | _::r=>⟨rfl,JE r⟩
def aqW(l:List Visit)(hl:l.length<=1048576):PC prog 297 [.sl (l.map aF)] (boo ((List.range l.length).any (qU l))):=by
 refine pcd func297 rfl rfl ?_;simp only[go_sem];refine⟨fun ρ _=>∃k:Nat,k<=l.length/\ρ 0=.sl (l.map aF)/\ρ 5=.sl (l.map aF)/\ρ 6=int l.length/\ρ 7=int k/\∀c∈(List.range l.length).take k,qU l c=false,fun ρ _=>l.length-aR (ρ 7),⟨0,Xaa _,rfl,rfl,rfl,rfl,by simp⟩,?_⟩;rintro ρ H ⟨k,hk,h0,X,Y,T,Z⟩;simp only[go_sem,Y,T];refine aA (fun E=>?_) (fun F=>?_)
 ·have E:=aV E;obtain⟨v,hv⟩:=aK E;have b1:=inB E;simp only[go_sem,X,T,aC hv,b1];refine aN fun O J=>?_
  simp only[go_sem];refine cJ J (by simp[dG]) fun I (R4:I O=some (⟨112,2,[aF v]⟩)) N=>?_
  simp only[go_sem];refine fV [O] [(0,true),(1,true),(2,true),(3,true),(4,true),(5,true)] (by grind) (by kernel_rfl) fun Hp Hr hp hr _ aa=>?_
  have P4:=(hp O (by simp)).trans R4;simp only[go_sem,h0,P4,<-List.map_take];refine⟨by omega,_,(Es (l.take k) v (by grind)).q rfl,?_⟩;simp only[go_sem];refine gJ fun _ Hm _ _=>?_
  simp only[go_sem];have ed:qU l k=decide (bM (l.take k) v>=0):=by grind[qU]
  apply aA <;> intro hb
  ·simp only[go_sem]
   grind[bS]
  ·simp only[go_sem,h0,X,Y,T,aQ k];exact⟨⟨k+1,E,rfl,aO (p:=fun c=>qU l c=false) (iN E) (ed.trans hb) Z⟩,msr E⟩
 ·have F:=aW hk F;subst F;simp only[go_sem]
  grind[bS]
def qM(l:List Visit):List Visit->Int->Bool
 | [],_=>true
 | w::r,last=>decide (bM l w>last)&&qM l r (bM l w)
def xG(os:List Order)(l:List Visit)(v:Visit):Bool:=inV (fX os v.order) v&&qM l (fX os v.order) (-1)
def Qt{α:Type}{l:List α}{k:Nat}{x:α}(h:l[k]?=some x):l.drop k=x::l.drop (k+1):=by grind[Xck]
def afT(x:Instance)(l:List Visit)(hl:l.length<=1048576):PC prog 298 [.agg (aD x),.sl (l.map aF)] (boo (l.all (xG x.orders l))):=by
 refine pcd func298 rfl rfl ?_;simp only[go_sem];refine⟨fun ρ _=>∃k:Nat,k<=l.length/\ρ 1=.sl (l.map aF)/\ρ 2=.rp (aD x) 0/\ρ 12=.sl (l.map aF)/\ρ 13=int l.length/\ρ 14=int k/\∀v∈l.take k,xG x.orders l v=true,fun ρ _=>l.length-aR (ρ 14),⟨0,Xaa _,rfl,rfl,rfl,rfl,rfl,by simp⟩,?_⟩;rintro ρ H ⟨k,hk,h1,h2,J,T,I,hz⟩;simp only[go_sem,T,I];refine aA (fun F=>?_) (fun Y=>?_)
 ·have F:=aV F;obtain⟨v,hv⟩:=aK F;have b1:=inB F;simp only[go_sem,J,I,aC hv,b1];refine aN fun i6 ab=>?_
  simp only[go_sem];refine cJ ab (by simp[dG]) fun ad (R6:ad i6=some (⟨112,2,[aF v]⟩)) N=>?_
  simp only[go_sem,h2,R6];refine aH (vH x.orders v.order) ?_;have ai:=vW x.orders v.order;simp only[go_sem,R6];refine aH (VS (fX x.orders v.order) v (by omega)) ?_;simp only[go_sem];apply aA <;> intro hb
  ·simp only[go_sem]
   grind[bS,AN,xG]
  have ag:inV (fX x.orders v.order) v=true:=by grind
  simp only[go_sem];refine⟨fun ρ _=>∃(m:Nat) (last:Int),m<=(fX x.orders v.order).length/\ρ 1=.sl (l.map aF)/\ρ 2=.rp (aD x) 0/\ρ 12=.sl (l.map aF)/\ρ 13=int l.length/\ρ 14=int k/\ρ 27=.sl ((fX x.orders v.order).map aF)/\ρ 28=int (fX x.orders v.order).length/\ρ 29=int m/\ρ 8=int last/\qM l (fX x.orders v.order) (-1)=qM l ((fX x.orders v.order).drop m) last,fun ρ _=>(fX x.orders v.order).length-aR (ρ 29),
   ⟨0,-1,Xaa _,h1,h2,J,T,I,rfl,rfl,by simp only[go_sem];rfl,rfl,rfl⟩,?_⟩
  rintro ρ H ⟨m,last,hm,h1,h2,J,T,I,ae,ac,Z,h8,he⟩;simp only[go_sem,ac,Z];refine aA (fun E=>?_) (fun O=>?_)
  ·have E:=aV E;obtain⟨w,hw⟩:=aK E;have b2:=inB E;simp only[go_sem,ae,Z,aC hw,b2];refine aN fun af aa=>?_
   simp only[go_sem];refine cJ aa (by simp[dG]) fun X (ah:X af=some (⟨112,2,[aF w]⟩)) N=>?_
   simp only[go_sem,h1,ah];refine aH (Es l w hl) ?_;simp only[go_sem,h8];rw[Qt hw]at he;apply aA <;> intro hb
   ·simp only[go_sem]
    grind[bS,AN,xG,qM]
   ·simp only[go_sem,h1,h2,J,T,I,ae,ac,Z,aQ m];refine⟨⟨m+1,_,E,rfl,rfl,?_⟩,by grind[aL]⟩
    grind[qM]
  ·have O:=aW hm O;subst O;rw[Xcj,qM]at he;simp only[go_sem,h1,h2,J,T,I,aQ k];exact⟨⟨k+1,F,rfl,aO (p:=fun v=>xG x.orders l v=true) hv (by unfold xG;rw[ag,he];rfl) hz⟩,msr F⟩
 ·have Y:=aW hk Y;subst Y;simp only[go_sem]
  grind[bS]
def HE(l:List Visit)(a b:Int):Bool:=decide (pC (fun v:Visit=>v.order == b) l 0<0)||(iU l a&& !iU (l.drop (pC (fun v:Visit=>v.order == b) l 0).toNat) a)
def Yh{α:Type}{p:α->Bool}:∀(l:List α) (n:Int),pC p l n<n+l.length\/pC p l n= -1
 | [],n=>.inr rfl
 | a::r,n=>by
  unfold pC;split
  ·grind
  ·rcases Yh (p:=p) r (n+1)with h|h
   all_goals grind
def afU(l:List Visit)(a b:Int)(F:l.length<=1048576):PC prog 300 [.sl (l.map aF),int a,int b] (boo (HE l a b)):=by
 refine pcd func300 rfl rfl ?_;simp only[go_sem];refine aH (Eh (p:=fun v=>v.order == b) l F rfl fun v _=>aaY b v) ?_;simp only[go_sem];have J:=Yh (p:=fun v:Visit=>v.order == b) l 0;generalize O:pC (fun v:Visit=>v.order == b) l 0=I at J;apply aA <;> intro h0
 ·simp only[go_sem]
  grind[bS,HE]
 ·have E:0<=I:=by grind
  simp only[go_sem];refine aH (Hj l a F) ?_;simp only[go_sem,<-List.map_drop];refine⟨fun _=>⟨⟨E,by omega⟩,JE l⟩,_,fun _=>(Hj (l.drop I.toNat) a (by grind)).q rfl,?_⟩;simp only[go_sem]
  grind[bS,HE]
def ajU(x:Instance)(v:Visit):PC prog 295 [.agg (aF v),.rp (aD x) 0] (boo (cF v.order x.orders.length)):=by refine pcd func295 rfl rfl ?_;simp only[go_sem];exact .refl _
def adX(x:Instance)(v:Visit)(h:cF v.order x.orders.length=false):PC prog 296 [.agg (aF v),.rp (aD x) 0] (boo (vP x v.order)):=by
 have E:0<=v.order/\v.order<(x.orders.length:Int):=by grind[cF]
 obtain⟨o,F⟩:=aK (show v.order.toNat<x.orders.length by omega);refine pcd func296 rfl rfl ?_;simp only[go_sem];simp only[go_sem,aC F,E]
 grind[bS,vP]
def sV(x:Instance)(l:List Visit):Int:=
 if((l.length:Int) == 0||l.any fun v=>cF v.order x.orders.length)=true then 2
 else if(l.any fun v=>vP x v.order)=true then 9
 else if((List.range l.length).any (qU l))=true then 6
 else if(!l.all (xG x.orders l))=true then 19
 else if(x.apart.any fun q=>iU l q.a&&iU l q.b)=true then 20
 else if(x.before.any fun q=> !HE l q.a q.b)=true then 21 else 0
def JR(x:Instance)(r:Route)(T:r.visits.length<=1048576)(ha:x.apart.length<=1048576)(hb:x.before.length<=1048576):PC prog 258 [.agg (aD x),.agg (bT r)] (int (sV x r.visits)):=by
 refine pcd func258 rfl rfl ?_;simp only[go_sem];refine⟨_,fun _=>(uF (p:=fun v=>cF v.order x.orders.length) r.visits T rfl fun v _=>ajU x v).q rfl,?_⟩;simp only[go_sem];apply aA <;> intro c1
 ·simp only[go_sem];simp_all[bP,sV]
 have ai:∀v∈r.visits,cF v.order x.orders.length=false:=fun v hv=>by grind
 have c1:¬((r.visits.length:Int) == 0||r.visits.any fun v=>cF v.order x.orders.length)=true:=by grind
 simp only[go_sem];refine aH (uF (p:=fun v=>vP x v.order) r.visits T rfl fun v hv=>adX x v (ai v hv)) ?_;simp only[go_sem];apply aA <;> intro c2
 ·simp only[go_sem];simp_all[bP,sV]
 have c2:¬(r.visits.any fun v=>vP x v.order)=true:=by grind
 simp only[go_sem];refine aH (aqW r.visits T) ?_;simp only[go_sem];apply aA <;> intro c3
 ·simp only[go_sem];simp_all[bP,sV,if_neg]
 have c3:¬((List.range r.visits.length).any (qU r.visits))=true:=by grind
 simp only[go_sem];refine aH (afT x r.visits T) ?_;simp only[go_sem];apply aA <;> intro c4
 ·simp only[go_sem];simp_all[bP,sV,if_neg]
 have c4:¬(!r.visits.all (xG x.orders r.visits))=true:=by grind
 simp only[go_sem];refine⟨fun ρ _=>∃k:Nat,k<=x.apart.length/\ρ 2=.rp (aD x) 0/\ρ 5=.sl (r.visits.map aF)/\ρ 33=.sl (x.apart.map dH)/\ρ 34=int x.apart.length/\ρ 35=int k/\∀q∈x.apart.take k,(iU r.visits q.a&&iU r.visits q.b)=false,fun ρ _=>x.apart.length-aR (ρ 35),⟨0,Xaa _,rfl,rfl,rfl,rfl,by simp only[go_sem];rfl,by simp⟩,?_⟩;rintro ρ H ⟨k,hk,h2,J,ah,af,Y,Z⟩;simp only[go_sem,af,Y];refine aA (fun E=>?_) (fun F=>?_)
 ·have E:=aV E;obtain⟨q,O⟩:=aK E;have b1:=inB E;simp only[go_sem,ah,Y,aC O,b1];refine aN fun i7 ae=>?_
  simp only[go_sem];refine cJ ae (by simp[nP]) fun ab (R7:ab i7=some (⟨169,2,[dH q]⟩)) N=>?_
  simp only[go_sem,J,R7];refine⟨by decide,PC.use (Hj r.visits q.a T) ?_⟩;simp only[go_sem,J,R7];refine⟨fun _=>by decide,_,fun _=>(Hj r.visits q.b T).q rfl,?_⟩;simp only[go_sem];refine aA (fun I=>?_) (fun I=>?_)
  ·simp only[go_sem];exact bP (by unfold sV;rw[if_neg c1,if_neg c2,if_neg c3,if_neg c4,if_pos (Xas.2 ⟨q,Xac O,I⟩)])
  ·simp only[go_sem,h2,J,ah,af,Y,aQ k];exact⟨⟨k+1,E,rfl,aO (p:=fun q:Pair=>(iU r.visits q.a&&iU r.visits q.b)=false) O I Z⟩,msr E⟩
 have F:=aW hk F;subst F;rw[Xad]at Z;have c5:¬(x.apart.any fun q=>iU r.visits q.a&&iU r.visits q.b)=true:=by simp_all
 simp only[go_sem,h2];refine⟨fun ρ _=>∃k:Nat,k<=x.before.length/\ρ 5=.sl (r.visits.map aF)/\ρ 51=.sl (x.before.map dH)/\ρ 52=int x.before.length/\ρ 53=int k/\∀q∈x.before.take k,(!HE r.visits q.a q.b)=false,fun ρ _=>x.before.length-aR (ρ 53),⟨0,Xaa _,J,rfl,rfl,by simp only[go_sem];rfl,by simp⟩,?_⟩;rintro ρ H ⟨k,hk,J,ac,ag,X,Z⟩;simp only[go_sem,ag,X];refine aA (fun E=>?_) (fun F=>?_)
 ·have E:=aV E;obtain⟨q,O⟩:=aK E;have b1:=inB E;simp only[go_sem,ac,X,aC O,b1];refine aN fun i9 aa=>?_
  simp only[go_sem];refine cJ aa (by simp[nP]) fun ad (R9:ad i9=some (⟨169,2,[dH q]⟩)) N=>?_
  simp only[go_sem,J,R9];refine⟨by decide,⟨by decide,PC.use (afU r.visits q.a q.b T) ?_⟩⟩;simp only[go_sem];refine aA (fun I=>?_) (fun I=>?_)
  ·simp only[go_sem];exact bP (by unfold sV;rw[if_neg c1,if_neg c2,if_neg c3,if_neg c4,if_neg c5,if_pos (Xas.2 ⟨q,Xac O,I⟩)])
  ·simp only[go_sem,J,ac,ag,X,aQ k];exact⟨⟨k+1,E,rfl,aO (p:=fun q:Pair=>(!HE r.visits q.a q.b)=false) O I Z⟩,msr E⟩
 have F:=aW hk F;subst F;rw[Xad]at Z;simp only[go_sem];simp_all[bP,sV,rZ]
def eQ(x:Instance)(v:Visit):Stop×Int:=if(bI x v).2=true then((bI x v).1,0)else(kW,if cF v.order x.orders.length=true then 2 else 19)
def XT(x:Instance)(v:Visit):PC prog 177 [.sl (x.orders.map bJ),.agg (aF v)] (.tup [.agg (eJ (eQ x v).1),int (eQ x v).2]):=by
 refine pcd func177 rfl rfl ?_;simp only[go_sem];refine fI fun i4 O aa (F:O i4=some (As kW)) N=>?_
 simp only[go_sem];refine aH (XO x.orders v.order) ?_;simp only[go_sem];apply aA <;> intro h1
 ·have h1:cF v.order x.orders.length=true:=by grind
  have e:eQ x v=(kW,2):=by simp_all[eQ,bI]
  rw[e];simp only[go_sem];refine aI F (by simp) ?_;simp only[go_sem];exact .refl _
 have h1:cF v.order x.orders.length=false:=by grind
 have T:0<=v.order/\v.order<(x.orders.length:Int):=by grind[cF]
 obtain⟨o,ho⟩:=aK (show v.order.toNat<x.orders.length by omega);have e0:bI x v=(pF o v,decide ((pF o v).place>=0)):=by simp_all[bI]
 have e:eQ x v=if(pF o v).place<0 then(kW,19)else(pF o v,0):=by
  unfold eQ
  grind
 rw[e];simp only[go_sem,aC ho,T];refine aN fun i6 I=>?_
 simp only[go_sem];refine cJ I (by simp[iC]) fun X (Y:X i6=some (As o.pick)) N=>?_
 replace F:=N F;obtain⟨E,F⟩:=F;simp only[go_sem];refine bN (fun J H'=>J 4=.op i4 0 0/\J 6=.op i6 0 0/\H' i4=some (As kW)/\H' i6=some (As (pF o v))) ?_ fun K hK=>aA (fun hb=>?_) (fun hb=>?_)
 ·clear F Y;rintro ρ H ⟨Z,h6,F,Y⟩;simp only[go_sem,h6,Y];apply aA <;> intro hp
  ·have hp:(pF o v).place<0:=by grind
   rw[if_pos hp];simp only[go_sem,Z];refine aI F (by simp) ?_;simp only[go_sem,Z];exact .refl _
  ·have hp:¬(pF o v).place<0:=by grind
   rw[if_neg hp];simp only[go_sem,Z,h6,Y];refine aI F (by simp[iC]) ?_;simp only[go_sem,Z];exact .refl _
 ·simp only[go_sem,aC ho,T];refine aI Y (by simp[iC]) ?_;simp only[go_sem];refine hK _ _ ⟨rfl,rfl,by rw[aJ _ _ _ _ E];exact F,?_⟩;rw[aB,pF,if_pos hb];rfl
 ·simp only[go_sem];refine hK _ _ ⟨rfl,rfl,F,?_⟩;simp_all[pF]
def rN(set:Int)(k:Nat):List Int:=((List.range k).filter fun i:Nat=>dO set (i:Int)).map fun i:Nat=>(i:Int)
def dD(set:Int):List Int:=rN set 63
def oB(set:Int)(k:Nat):rN set (k+1)=rN set k++(if dO set (k:Int)=true then[(k:Int)]else[]):=by grind[rN,Xbi]
theorem nU(set:Int)(k:Nat):(rN set k).length<=k:=by grind[rN]
def oH(set:Int):PC prog 114 [int set] (.sl ((dD set).map bC)):=by
 refine pcb (fun t=>t == 3) func114 rfl rfl ?_;simp only[go_sem];refine aN fun j Z=>?_
 simp only[go_sem];refine⟨fun ρ H=>∃k:Nat,k<=63/\ρ 0=int set/\ρ 5=int k/\∃j,ρ 3=.os j/\H j=some (rE (rN set k)),fun ρ _=>63-aR (ρ 5),⟨0,Xaa _,rfl,rfl,j,rfl,aB _ _ _⟩,?_⟩;rintro ρ H ⟨k,Y,h0,I,j,J,R⟩;simp only[go_sem,I];refine aA (fun E=>?_) (fun F=>?_)
 ·have E:k<63:=by grind
  simp only[go_sem,h0,I];refine aH (yE set k) ?_;simp only[go_sem];apply aA <;> intro T
  ·simp only[go_sem,J];refine aY R ⟨rfl,rfl⟩ ⟨rfl,trivial⟩ (by grind[nU]) (fun O X=>?_);simp only[go_sem,h0,I,aQ k];refine⟨⟨k+1,E,rfl,O,rfl,?_⟩,msr E⟩;rw[oB,if_pos T];exact iJ (l':=[(k:Int)]) rfl
  ·simp only[go_sem,h0,I,J,aQ k];refine⟨⟨k+1,E,rfl,j,rfl,?_⟩,msr E⟩;simp_all[oB]
 ·have F:k=63:=by grind
  subst F;simp only[go_sem,J];exact .row _ _ _ R (ConvE.refl _)
def YS(a b:Int):Int:=W (a+b)
def Vc(a b:Int):Int:=W (a-b)
def avY(a b:Int):PC prog 366 [int a,int b] (int (YS a b)):=by refine pcd func366 rfl rfl ?_;simp only[go_sem];exact .refl _
def Ic(a b:Int):PC prog 367 [int a,int b] (int (Vc a b)):=by refine pcd func367 rfl rfl ?_;simp only[go_sem];exact .refl _
def aeB{α:Type}{l:List α}{k n:Nat}{x z:α}(F:l.length=n)(h:l[k]?=some x):(l.take k++List.replicate (n-k) z).set k x=l.take (k+1)++List.replicate (n-(k+1)) z:=by
 have E:=(List.getElem?_eq_some_iff.1 h).1;have e:n-k=(n-(k+1))+1:=by omega
 rw[bA h,e,List.replicate_succ,List.set_append_right _ _ (by grind)];have:k-(l.take k).length=0:=by grind
 grind
def MN{g:Nat}{op:Int->Int->Int}(a b:List Int)(hl:a.length<=1048576)(X:a.length=b.length)(T:aE prog g=true)(hg:∀p q,PC prog g [int p,int q] (int (op p q))):
  NC prog 365 [.sl (a.map bC),.sl (b.map bC),.v (.func (.func g) #[] #[])] (rE (List.zipWith op a b)) (fun j=>.tup [.os j,int 0]):=by
 have Z:(List.zipWith op a b).length=a.length:=by grind
 refine ncb (fun _=>false) func365 rfl rfl ?_;simp only[go_sem];refine aA (fun hb=>by rw[X]at hb;simp at hb) (fun _=>?_);simp only[go_sem];refine⟨⟨by omega,by omega⟩,aN fun j hj=>?_⟩;simp only[go_sem];refine⟨fun ρ H=>∃k:Nat,k<=a.length/\ρ 0=.sl (a.map bC)/\ρ 1=.sl (b.map bC)/\ρ 2=.v (.func (.func g) #[] #[])/\ρ 8=.os j/\ρ 19=int a.length/\ρ 20=int k/\H j=some (rE ((List.zipWith op a b).take k++List.replicate (a.length-k) 0)),fun ρ _=>a.length-aR (ρ 20),⟨0,Xaa _,rfl,rfl,rfl,rfl,rfl,rfl,?_⟩,?_⟩
 ·simp[aB,bC]
 rintro ρ H ⟨k,hk,h0,h1,h2,O,J,I,R⟩;simp only[go_sem,J,I];refine aA (fun E=>?_) (fun F=>?_)
 ·have E:=aV E;obtain⟨p,hp⟩:=aK E;obtain⟨q,hq⟩:=aK (show k<b.length by omega);have b1:=inB E;have b2:=inB (show k<b.length by omega);simp only[go_sem,I];refine mX [(0,true),(1,true),(2,true),(3,true),(4,true),(5,true),(6,true),(7,true),(8,false),(9,false),(10,false),(11,false),(12,false),(13,false)] (by kernel_rfl) ?_;simp only[go_sem,h0,h1,h2,O,aC hp,aC hq,b1,b2,T];refine aH (hg p q) ?_;have aa:((List.zipWith op a b).take k++List.replicate (a.length-k) 0:List Int).length=a.length:=by grind
  simp only[go_sem,R];refine⟨⟨b1.1,by omega⟩,dP so3 R (by grind) ?_⟩;have hz:(List.zipWith op a b)[k]?=some (op p q):=by grind
  have Y:k<((List.zipWith op a b).take k++List.replicate (a.length-k) 0:List Int).length:=by omega
  obtain⟨y,hy⟩:=aK Y;have hs:=aeB (n:=a.length) (z:=(0:Int)) Z hz;simp only[go_sem,h0,h1,h2,O,J,I,aC hy,aQ k];refine⟨⟨k+1,E,rfl,?_⟩,msr E⟩;rw[<-hs];show _=some (⟨3,1,_⟩:Row);rw[List.map_set];rfl
 ·have F:=aW hk F;subst F;simp only[go_sem,O]
  grind
def yZ(a b:List Int):List Int:=List.zipWith YS a b
def DB(a b:List Int):List Int:=List.zipWith Vc a b
def arL(a b:List Int)(F:a.length<=1048576)(E:a.length=b.length):NC prog 340 [.sl (a.map bC),.sl (b.map bC)] (rE (yZ a b)) (fun j=>.tup [.os j,int 0]):=by
 refine ncb (fun _=>false) func340 rfl rfl ?_;simp only[go_sem];refine NC.use (MN a b F E rfl avY) fun j I=>?_
 simp only[go_sem];exact⟨j,rfl,aB _ _ _⟩
def axG(a b:List Int)(F:a.length<=1048576)(E:a.length=b.length):NC prog 341 [.sl (a.map bC),.sl (b.map bC)] (rE (DB a b)) (fun j=>.tup [.os j,int 0]):=by
 refine ncb (fun _=>false) func341 rfl rfl ?_;simp only[go_sem];refine NC.use (MN a b F E rfl Ic) fun j I=>?_
 simp only[go_sem];exact⟨j,rfl,aB _ _ _⟩
def NC.pc2{f:FuncId}{args:List AV}{r:Row}{y:AV}(h:NC prog f args r (fun j=>.tup [.os j,y])):PC prog f args (.tup [.sl r.es,y]):=
 RC.conv (RC.mono h fun x H' ⟨k,E,F⟩=>by rw[E];exact .tup _ _ (.cons _ _ _ _ (.row _ _ _ F (ConvE.refl _)) (ConvL.refl _)))
def amA(a c:List Int)(hl:a.length<=1048576):PC prog 305 [.sl (a.map bC),.sl (c.map bC)] (boo (iS a c)):=by
 refine pcd func305 rfl rfl ?_;simp only[go_sem];apply aA <;> intro hb
 ·simp only[go_sem]
  grind[bS,iS]
 have aa:a.length=c.length:=by grind
 simp only[go_sem];refine⟨fun ρ _=>∃k:Nat,k<=a.length/\ρ 1=.sl (c.map bC)/\ρ 12=.sl (a.map bC)/\ρ 13=int a.length/\ρ 14=int k/\∀i∈(List.range a.length).take k,decide (a.getD i 0>c.getD i 0)=false,fun ρ _=>a.length-aR (ρ 14),⟨0,Xaa _,rfl,rfl,rfl,rfl,by simp⟩,?_⟩;rintro ρ H ⟨k,Z,h1,O,T,I,X⟩;simp only[go_sem,T,I];refine aA (fun E=>?_) (fun F=>?_)
 ·have E:=aV E;obtain⟨p,hp⟩:=aK E;obtain⟨q,hq⟩:=aK (show k<c.length by omega);have b1:=inB E;have b2:=inB (show k<c.length by omega);have Y:a.getD k 0=p:=by grind
  have e2:c.getD k 0=q:=by grind
  simp only[go_sem,h1,O,I,aC hp,aC hq,b1,b2];refine aA (fun J=>?_) (fun J=>?_)
  ·simp only[go_sem]
   grind[bS,iS]
  ·simp only[go_sem,h1,O,T,I,aQ k];exact⟨⟨k+1,E,rfl,aO (p:=fun i=>decide (a.getD i 0>c.getD i 0)=false) (iN E) (by rw[Y,e2];exact J) X⟩,msr E⟩
 ·have F:=aW Z F;subst F;simp only[go_sem];simp_all[bS,iS]
def ON(x:Instance):PC prog 339 [.sl (x.types.map bF)] (int (fR x)):=by
 refine pcd func339 rfl rfl ?_;simp only[go_sem];apply aA <;> intro I
 ·simp only[go_sem]
  grind[bP,fR]
 ·have h0:0<x.types.length:=by grind
  obtain⟨t,F⟩:=aK h0;have E:(0:Int)<=0/\(0:Int)<(x.types.length:Int):=⟨Xbq _,by omega⟩;simp only[go_sem,aC (k:=0) F,E]
  grind[bP,fR]
def xM(c s:Int):Bool:=(decide (c>=0)&&decide (s>=0))&&(xR .andNot .i64 s c == 0)
def auT(t:VType)(s:Int):PC prog 301 [.agg (bF t),int s] (boo (xM t.skills s)):=by refine pcd func301 rfl rfl ?_;simp only[go_sem];exact .refl _
def qQ(x:Instance)(s:List Int)(i:Int):List Int:=match x.orders[i.toNat]? with
 | some o=>if decide (o.pick.place<0)=true then yZ s o.load else s
 | none=>s
def OD(x:Instance)(set dims:Int):List Int:=(dD set).foldl (qQ x) (List.replicate dims.toNat 0)
theorem jX{α E:Type}{f:E->α->E}{l:List α}{k:Nat}{x:α}{b:E}(h:l[k]?=some x):(l.take (k+1)).foldl f b=f ((l.take k).foldl f b) x:=by rw[bA h,Xbm];rfl
def DI{x:Instance}{d:Nat}(E:∀o∈x.orders,o.load.length=d)(l:List Int):(l.foldl (qQ x) (List.replicate d 0)).length=d:=by
 suffices ∀(l:List Int) (s:List Int),s.length=d->(l.foldl (qQ x) s).length=d from this l _ (by simp)
 intro l;induction l<;>grind[qQ,yZ]
def aqU(x:Instance)(set dims:Int)(h0:0<=dims)(h1:dims<=1048576)(hd:∀o∈x.orders,o.load.length=dims.toNat)(hm:∀i∈dD set,0<=i/\i<(x.orders.length:Int)):
  PC prog 338 [.agg (aD x),int set,int dims] (.sl ((OD x set dims).map bC)):=by
 have ad:(dD set).length<=63:=nU set 63;refine pcb (fun t=>t == 28) func338 rfl rfl ?_;simp only[go_sem];refine⟨⟨⟨h0,Xbq _⟩,by omega⟩,aN fun j hj=>?_⟩;simp only[go_sem];refine aH (oH set) ?_;simp only[go_sem];refine⟨fun ρ H=>∃k:Nat,k<=(dD set).length/\ρ 3=.rp (aD x) 0/\ρ 13=.sl ((dD set).map bC)/\ρ 14=int (dD set).length/\ρ 15=int k/\∃j,ρ 7=.os j/\H j=some (rE (((dD set).take k).foldl (qQ x) (List.replicate dims.toNat 0))),fun ρ _=>(dD set).length-aR (ρ 15),⟨0,Xaa _,rfl,rfl,rfl,rfl,j,rfl,?_⟩,?_⟩
 ·simp[aB,bC]
 rintro ρ H ⟨k,hk,T,O,J,F,j,X,R⟩;simp only[go_sem,J,F];refine aA (fun E=>?_) (fun I=>?_)
 ·have E:=aV E;obtain⟨i,hi⟩:=aK E;have b1:=inB E;have Y:=hm i (Xac hi);obtain⟨o,Z⟩:=aK (show i.toNat<x.orders.length by omega);have es:((dD set).take (k+1)).foldl (qQ x) (List.replicate dims.toNat 0)=if decide (o.pick.place<0)=true then yZ (((dD set).take k).foldl (qQ x) (List.replicate dims.toNat 0)) o.load else((dD set).take k).foldl (qQ x) (List.replicate dims.toNat 0):=by grind[jX,qQ]
  have ab:=DI hd ((dD set).take k);generalize hS:((dD set).take k).foldl (qQ x) (List.replicate dims.toNat 0)=s at *;simp only[go_sem,T,O,F,aC hi,b1,aC Z,Y];apply aA <;> intro hb
  ·simp only[go_sem];refine Cg X R fun Hr aa hr=>?_
   simp only[go_sem,T,aC Z,Y];refine NC.use (arL s o.load (by omega) (by grind)) fun j2 ac=>?_
   simp only[go_sem,T,O,J,F,aQ k];exact⟨⟨k+1,E,rfl,j2,rfl,by rw[es,if_pos hb];exact aB _ _ _⟩,msr E⟩
  ·simp only[go_sem,T,O,J,F,X,aQ k];exact⟨⟨k+1,E,rfl,j,rfl,by rw[es,if_neg (by rw[hb];simp)];exact R⟩,msr E⟩
 ·have I:=aW hk I;subst I;rw[Xad]at R;simp only[go_sem,X];exact .row _ _ _ R (ConvE.refl _)
def Us(x:Instance)(s:List Int)(v:Visit):List Int:=match x.orders[v.order.toNat]? with
 | some o=>if v.drop=true then DB s o.load else yZ s o.load
 | none=>s
def FL(x:Instance)(l:List Visit)(k:Nat):List Int:=(l.take k).foldl (Us x) (OD x (cU l).1 (fR x))
def yC(x:Instance)(l:List Visit)(k:Nat):List (List Int):=(List.range k).map (FL x l)
def Mt{x:Instance}{l:List Visit}{k:Nat}{v:Visit}(h:l[k]?=some v):FL x l (k+1)=Us x (FL x l k) v:=jX h
structure LoadB(x:Instance):Prop where
 dims:0<=fR x/\fR x<=1048576
 load:∀o∈x.orders,o.load.length=(fR x).toNat
 few:x.orders.length<=63
theorem aeG{x:Instance}(E:LoadB x){s:List Int}{v:Visit}(h:s.length=(fR x).toNat):(Us x s v).length=(fR x).toNat:=by
 unfold Us;split
 ·rename_i o F;have:=E.load o (Xac F)
  grind[DB,yZ]
 omega
theorem Ee{x:Instance}(E:LoadB x)(l:List Visit)(k:Nat):(FL x l k).length=(fR x).toNat:=by
 suffices ∀(l:List Visit) (s:List Int),s.length=(fR x).toNat->(l.foldl (Us x) s).length=(fR x).toNat from this _ _ (DI E.load _)
 intro l;induction l<;>grind[aeG]
def ahY{s:Nat}{i:Int}(h:i∈dD (s:Int)):0<=i/\i<=62/\s.testBit i.toNat=true:=by grind[dD,rN,jF]
def akN{x:Instance}{l:List Visit}(h:sV x l=0):∀v∈l,0<=v.order/\v.order<(x.orders.length:Int):=by
 intro v F;by_cases E:((l.length:Int) == 0||l.any fun v=>cF v.order x.orders.length)=true
 ·simp_all[sV]
 simp_all[cF]
def CF{x:Instance}(J:LoadB x){l:List Visit}(h:∀v∈l,0<=v.order/\v.order<(x.orders.length:Int)):cU l=(((wP l:Nat):Int),0)/\∀i∈dD (cU l).1,0<=i/\i<(x.orders.length:Int):=by
 have E:∀v∈l,AQ v=false:=fun v I=>by
  have:=h v I;have:=J.few
  grind[AQ]
 have e:cU l=(((wP l:Nat):Int),0):=by simp_all[cU,CA]
 refine⟨e,fun i F=>?_⟩;rw[e]at F;obtain⟨h0,h1,O⟩:=ahY F
 grind[Je]
def oV(x:Instance)(l:List Visit):List (List Int)×Int:=if(sV x l != 0)=true then([],sV x l)else(yC x l (l.length+1),0)
def aeJ(x:Instance)(r:Route)(J:LoadB x)(hl:r.visits.length<=1048576)(ha:x.apart.length<=1048576)(hb:x.before.length<=1048576):
  PC prog 302 [.agg (aD x),.agg (bT r)] (.tup [.sl ((oV x r.visits).1.map fD),int (oV x r.visits).2]):=by
 refine pcb (fun t=>t == 35) func302 rfl rfl ?_;simp only[go_sem];refine aH (JR x r hl ha hb) ?_;simp only[go_sem];apply aA <;> intro hc
 ·simp only[go_sem];have:oV x r.visits=([],sV x r.visits):=by simp_all[oV]
  rw[this];exact .refl _
 have e0:oV x r.visits=(yC x r.visits (r.visits.length+1),0):=by simp_all[oV]
 have aj:sV x r.visits=0:=by grind
 have ae:=akN aj;obtain⟨eo,hm⟩:=CF J ae;simp only[go_sem];refine aH (IE r hl) ?_;simp only[go_sem];refine aA (fun ag=>by rw[eo]at ag;simp at ag) (fun _=>?_);simp only[go_sem];refine mX [(0,true),(1,true),(2,false),(3,false),(4,false),(5,false),(6,false)] (by kernel_rfl) ?_;simp only[go_sem];refine aH (ON x) ?_;simp only[go_sem];refine aH (aqU x _ _ J.dims.1 J.dims.2 J.load hm) ?_;simp only[go_sem];refine aN fun j hj=>?_
 simp only[go_sem];refine⟨fun ρ H=>∃k:Nat,k<=r.visits.length/\ρ 2=.rp (aD x) 0/\ρ 37=.sl (r.visits.map aF)/\ρ 38=int r.visits.length/\ρ 39=int k/\ρ 9=.sl ((FL x r.visits k).map bC)/\∃j,ρ 10=.os j/\H j=some (Lw (yC x r.visits (k+1))),fun ρ _=>r.visits.length-aR (ρ 39),⟨0,Xaa _,rfl,rfl,rfl,rfl,rfl,j,rfl,aB _ _ _⟩,?_⟩;rintro ρ H ⟨k,hk,h2,aa,T,I,h9,j,ab,R⟩;simp only[go_sem,T,I,];refine aA (fun E=>?_) (fun O=>?_)
 ·have E:=aV E;obtain⟨v,hv⟩:=aK E;have b1:=inB E;have af:=ae v (Xac hv);obtain⟨o,ho⟩:=aK (show v.order.toNat<x.orders.length by omega);have al:=J.load o (Xac ho);have ak:=Ee J r.visits k;have hd:=J.dims;have X:=Mt (x:=x) hv;unfold Us at X;rw[ho]at X;simp only at X;simp only[go_sem,aa,I,aC hv,b1];refine aN fun ah Z=>?_
  simp only[go_sem];refine cJ Z (by simp[dG]) fun ac (Y:ac ah=some (⟨112,2,[aF v]⟩)) N=>?_
  replace R:=(N R).2;simp only[go_sem,Y];have ad:yC x r.visits (k+2)=yC x r.visits (k+1)++[FL x r.visits (k+1)]:=by grind[yC,Xbi]
  have am:(yC x r.visits (k+1)).length=k+1:=by simp[yC]
  refine aA (fun F=>?_) (fun F=>?_)
  ·simp only[go_sem,h2,h9,Y,aC ho,af];refine aH (NC.pc2 (axG (FL x r.visits k) o.load (by omega) (by omega))) ?_;simp only[go_sem];refine aA (fun hb=>by simp at hb) (fun _=>?_);simp only[go_sem,ab];refine aY R ⟨rfl,rfl⟩ ⟨rfl,trivial⟩ (by grind) (fun j' ai=>?_);simp only[go_sem,h2,aa,T,I,aQ k];refine⟨⟨k+1,E,rfl,by rw[X,if_pos F],j',rfl,?_⟩,msr E⟩;rw[aB,ad,X,if_pos F];show _=some (⟨89,1,_⟩:Row);rw[Xam];rfl
  ·simp only[go_sem,h2,h9,Y,aC ho,af];refine aH (NC.pc2 (arL (FL x r.visits k) o.load (by omega) (by omega))) ?_;simp only[go_sem];refine aA (fun hb=>by simp at hb) (fun _=>?_);simp only[go_sem,ab];refine aY R ⟨rfl,rfl⟩ ⟨rfl,trivial⟩ (by grind) (fun j' ai=>?_);simp only[go_sem,h2,aa,T,I,aQ k];refine⟨⟨k+1,E,rfl,by rw[X,if_neg (by rw[F];simp)],j',rfl,?_⟩,msr E⟩;rw[aB,ad,X,if_neg (by grind)];show _=some (⟨89,1,_⟩:Row);rw[Xam];rfl
 ·have O:=aW hk O;subst O;simp only[go_sem,ab];rw[e0];exact .tup _ _ (.cons _ _ _ _ (.row _ _ _ R (ConvE.refl _)) (ConvL.refl _))
def apG(x:Instance)(r:Route)(a:List Int)(J:a.length<=1048576)(O:cF r.type x.types.length=false):
  PC prog 304 [.sl (a.map bC),.rp (aD x) 0,.rp (bT r) 0] (boo (!iS a (G3 x r.type))):=by
 have E:0<=r.type/\r.type<(x.types.length:Int):=by grind[cF]
 obtain⟨t,F⟩:=aK (show r.type.toNat<x.types.length by omega);have I:G3 x r.type=t.cap:=by grind[G3]
 refine pcd func304 rfl rfl ?_;simp only[go_sem];simp only[go_sem,aC F,E];refine aH (amA a t.cap J) ?_;simp only[go_sem];rw[I];exact .refl _
def A5(x:Instance)(r:Route):Int:=
 if cF r.type x.types.length=true then 2 else if((oV x r.visits).2 != 0)=true then(oV x r.visits).2
 else if((oV x r.visits).1.any fun l=> !iS l (G3 x r.type))=true then 17 else 0
def Ux{x:Instance}(E:LoadB x){l:List Visit}:(oV x l).1.length<=l.length+1/\∀a∈(oV x l).1,a.length=(fR x).toNat:=by grind[oV,yC,Ee]
def amP(x:Instance)(r:Route)(E:LoadB x)(hl:r.visits.length<=1048575)(O:x.apart.length<=1048576)(I:x.before.length<=1048576):
  PC prog 260 [.agg (aD x),.agg (bT r)] (int (A5 x r)):=by
 refine pcd func260 rfl rfl ?_;simp only[go_sem];apply aA <;> intro h1
 ·simp only[go_sem];simp_all[bP,A5,cF]
 have h1:cF r.type x.types.length=false:=h1;have T:¬cF r.type x.types.length=true:=by grind
 simp only[go_sem];refine aH (aeJ x r E (by omega) O I) ?_;simp only[go_sem];apply aA <;> intro Z
 ·simp only[go_sem];simp_all[bP,A5]
 have c2:¬((oV x r.visits).2 != 0)=true:=by grind
 obtain⟨Y,J⟩:=Ux E (l:=r.visits);have hd:=E.dims;simp only[go_sem];refine aH (HF (p:=fun a=> !iS a (G3 x r.type)) (oV x r.visits).1 (by omega) rfl fun a F=>apG x r a (by rw[J a F];omega) h1) ?_;simp only[go_sem];apply aA <;> intro X
 ·simp only[go_sem];simp_all[bP,A5]
 ·simp only[go_sem];simp_all[bP,A5]
def arC{H:aG}{a b:ByteArray}(h:a=b):Conv H (.v (.string a)) (.v (.string b)):=h▸.refl _
def arA(n:Nat)(O:n<20):PC prog 316 [int n] (str (lH n)):=by
 refine pcd func316 rfl rfl ?_;simp only[go_sem];apply aA <;> intro J
 ·simp only[go_sem,aQ n];have E:n=0\/n=1\/n=2\/n=3\/n=4\/n=5\/n=6\/n=7\/n=8\/n=9:=by grind
  rcases E with rfl|rfl|rfl|rfl|rfl|rfl|rfl|rfl|rfl|rfl <;> exact⟨by decide,arC (by rw[yP (by omega)];rfl)⟩
 ·have I:10<=n:=by grind
  have w1:IntKind.i64.wrap ((n:Int)*2)=((n*2:Nat):Int):=by grind[aU]
  have F:IntKind.i64.wrap (((n*2:Nat):Int)+2)=((n*2+2:Nat):Int):=by grind[aU]
  simp only[go_sem,w1,F];have E:n=10\/n=11\/n=12\/n=13\/n=14\/n=15\/n=16\/n=17\/n=18\/n=19:=by omega
  rcases E with rfl|rfl|rfl|rfl|rfl|rfl|rfl|rfl|rfl|rfl <;> exact⟨by decide,arC (by rw[CS (by omega),yP (by omega)];rfl)⟩
def SO(n:Nat)(F:n<20):PC prog 273 [int n,int 10] (str (lH n)):=by refine pcd func273 rfl rfl ?_;simp only[go_sem];refine aA (fun _=>?_) (fun E=>by simp at E);simp only[go_sem];refine aA (fun E=>?_) (fun E=>by simp at E;omega);simp only[go_sem];refine aH (arA n F) ?_;simp only[go_sem];exact .refl _
def apX(n:Nat)(E:n<20):PC prog 234 [int n] (str (lH n)):=by refine pcd func234 rfl rfl ?_;simp only[go_sem];refine aH (SO n E) ?_;simp only[go_sem];exact .refl _
def UF(n:Nat)(E:n<20):PC prog 194 [int n] (str (lH n)):=by refine pcd func194 rfl rfl ?_;simp only[go_sem];refine aH (apX n E) ?_;simp only[go_sem];exact .refl _
theorem mB{n:Int}(h: -9223372036854775808<=n/\n<=9223372036854775807):W n=n:=aU h
def Ql(n a b:Int):PC prog 347 [int n,int a,int b] (boo (decide (n>=a)&&decide (n<=b))):=by refine pcd func347 rfl rfl ?_;simp only[go_sem];exact .refl _
structure TravB(l:List Point):Prop where
 len:1<=l.length/\l.length<=16
 pt:∀p∈l,0<=p.t/\p.t<=4096/\p.t<=p.a/\p.a<=p.t+4096
 mono:∀i,i+1<l.length->(eM l i).t<(eM l (i+1)).t/\(eM l i).a<=(eM l (i+1)).a
theorem hU{α:Type}{b:Bool}{f:α}(h:opt b f=[]):b=false:=by grind[opt]
def OU{l:List Point}(h:jJ l=[]):TravB l:=by
 unfold jJ at h;rw[Xbs]at h;have h1:=hU h.1;unfold DK at h1;simp only[Xag,decide_eq_false_iff_not]at h1;have J:∀i,i<l.length->iR l i=[]:=fun i E=>List.flatMap_eq_nil_iff.1 h.2 i (Xat.2 E)
 have I:∀p∈l,0<=p.t/\p.t<=4096/\p.t<=p.a/\p.a<=p.t+4096:=fun p O=>by
  obtain⟨i,E,rfl⟩:=List.getElem_of_mem O;have:=J i E;unfold iR at this;rw[Xbs]at this;have F:=hU this.1;rw[dZ (List.getElem?_eq_getElem E)]at F
  grind[tZ,aU]
 refine⟨by omega,I,fun i E=>?_⟩
 grind[iR,Xbs,hU,Ok]
def NP{l:List Point}(h:TravB l):∀(i j:Nat),i<j->j<l.length->(eM l i).t<(eM l j).t
 | i,0,hij,_=>by omega
 | i,j+1,hij,hj=>by
  have h1:=(h.mono j hj).1;by_cases e:i=j
  ·subst e;exact h1
  ·have:=NP h i j (by omega) (by omega);omega
def akA(l:List Point)(h:TravB l):PC prog 371 [.sl (l.map bZ)] (.sl []):=by
 have hl:=h.len;refine pcd func371 rfl rfl ?_;simp only[go_sem];refine aA (fun hb=>by exfalso;grind) (fun _=>?_);simp only[go_sem];refine⟨fun ρ _=>∃k:Nat,k<=l.length/\ρ 0=.sl (l.map bZ)/\ρ 19=.sl (l.map bZ)/\ρ 20=int l.length/\ρ 21=int k/\ρ 3=.sl [],fun ρ _=>l.length-aR (ρ 21),⟨0,Xaa _,rfl,rfl,rfl,rfl,rfl⟩,?_⟩;rintro ρ H ⟨k,hk,h0,I,J,F,h3⟩;simp only[go_sem,J,F];refine aA (fun E=>?_) (fun ac=>?_)
 ·have E:=aV E;obtain⟨p,hp⟩:=aK E;have b1:=inB E;have ab:=h.pt p (Xac hp);simp only[go_sem,I,F,aC hp,b1];refine aN fun X aa=>?_
  simp only[go_sem];refine aI (aB _ _ _) (by simp[fU]) ?_;generalize T:aM (aM _ X _) X _=HGi5;have Y:HGi5 X=some (⟨85,2,[bZ p]⟩):=by rw[<-T,aB];rfl
  simp only[go_sem];refine aH (UF k (by omega)) ?_;simp only[go_sem,Y];refine aH (Ql _ _ _) ?_;simp only[go_sem,Y];have w:=aU (n:=p.t+4096) (by omega);refine aA (fun hb=>by exfalso;grind) (fun _=>?_);simp only[go_sem];refine fV [X] [(0,false),(1,false),(2,false),(3,true),(4,true),(5,true),(6,false),(7,false),(8,false),(9,false),(10,false),(11,false),(12,false),(13,true),(14,true),(15,true),(16,false),(17,false),(18,false),(19,false),(20,false),(21,false),(22,false),(23,false)] (by grind) (by kernel_rfl) fun Hp Hr Z hr _ ad=>?_
  have P5:=(Z X (by simp)).trans Y;obtain⟨q,hq⟩:=aK (show k-1<l.length by omega);have O:decide ((k:Int)>0)=true->(0<=IntKind.i64.wrap ((k:Int)-1)/\IntKind.i64.wrap ((k:Int)-1)<(l.length:Int)):=fun hg=>by grind[xK]
  simp only[go_sem,h0,P5,alE (show k<=4611686018427387904 by omega),aC hq];refine⟨O,fun hg=>O hg.1,gJ fun _ Hm _ _=>?_⟩;simp only[go_sem];have hm:0<k->q.t<p.t/\q.a<=p.a:=fun ae=>by
   have:=h.mono (k-1) (by omega)
   grind[dZ]
  apply aA <;> intro hb
  ·exfalso
   grind
  simp only[go_sem,h0,I,J,F,h3,aQ k];exact⟨⟨k+1,E,rfl⟩,msr E⟩
 ·simp only[go_sem,h3];exact .refl _
def NW(l:List Point)(h:TravB l):PC prog 348 [.sl (l.map bZ)] (boo true):=by refine pcd func348 rfl rfl ?_;simp only[go_sem];refine aH (akA l h) ?_;simp only[go_sem];exact .refl _
def Md(p:Point)(t:Int):PC prog 373 [.agg (bZ p),int t] (int (W (p.t-t))):=by refine pcd func373 rfl rfl ?_;simp only[go_sem];exact .refl _
def bs(l:List Point)(t:Int):Nat:=(l.takeWhile fun p=>decide (p.t<t)).length
def Ca(l:List Point)(t:Int):Bool:=decide ((bs l t:Int)<(l.length:Int))&&((eM l (bs l t)).t-t == 0)
def akK{α:Type}{p:α->Bool}:∀(l:List α) (i:Nat),i<=l.length->(∀c x,c<i->l[c]?=some x->p x=true)->(∀x,l[i]?=some x->p x=false)->(l.takeWhile p).length=i
 | [],i,hi,_,_=>by simp_all
 | a::r,0,_,_,h2=>by simp_all
 | a::r,i+1,hi,h1,h2=>by have F:=h1 0 a (by omega) rfl;rw[List.takeWhile_cons,if_pos F,Xai,akK r i (by grind) (fun c x I E=>h1 (c+1) x (by omega) (by grind)) (fun x E=>h2 x (by grind))]
def awD{l:List Point}{t:Int}{i:Nat}(F:i<=l.length)(h1:∀c,c<i->(eM l c).t<t)(I:i<l.length->t<=(eM l i).t):bs l t=i:=by
 refine akK l i F (fun c x J E=>?_) (fun x E=>?_)
 all_goals grind[dZ]
def acH(l:List Point)(t:Int)(h:TravB l)(ht:0<=t/\t<=1073741824):PC prog 372 [.sl (l.map bZ),int t,.v (.func (.func 373) #[] #[])] (.tup [int (bs l t),boo (Ca l t)]):=by
 have hl:=h.len;refine pcd func372 rfl rfl ?_;simp only[go_sem];have Z:aE prog 373=true:=by kernel_rfl
 refine⟨fun ρ _=>∃i j:Nat,i<=j/\j<=l.length/\ρ 0=.sl (l.map bZ)/\ρ 1=int t/\ρ 2=.v (.func (.func 373) #[] #[])/\ρ 8=int l.length/\ρ 9=int i/\ρ 10=int j/\(∀c,c<i->(eM l c).t<t)/\(j<l.length->t<=(eM l j).t),fun ρ _=>aR (ρ 10)-aR (ρ 9),⟨0,l.length,Xaa _,Xaf _,rfl,rfl,rfl,rfl,rfl,rfl,fun c hc=>by omega,fun hc=>by omega⟩,?_⟩;rintro ρ H ⟨i,j,ag,hj,h0,h1,h2,h8,h9,T,hz,hy⟩;simp only[go_sem,h9,T];refine aA (fun O=>?_) (fun Y=>?_)
 ·have O:i<j:=by grind
  have w1:IntKind.i64.wrap ((i:Int)+(j:Int))=((i+j:Nat):Int):=by grind[aU]
  have w2:IntKind.u64.wrap ((i+j:Nat):Int)=((i+j:Nat):Int):=Fg (by omega);have w3:shV .shr .u64 ((i+j:Nat):Int) 1=(((i+j)/2:Nat):Int):=by
   show((i+j:Nat):Int).fdiv (2^min (1:Int).toNat 64)=_
   grind
  have w4:IntKind.i64.wrap (((i+j)/2:Nat):Int)=(((i+j)/2:Nat):Int):=aU (by omega);have hm:(i+j)/2<l.length:=by omega
  generalize af:(i+j)/2=m at w3 w4 hm;have ae:i<=m/\m<j:=by omega
  obtain⟨p,hp⟩:=aK hm;have b1:=inB hm;have ab:=h.pt p (Xac hp);have e:W (p.t-t)=p.t-t:=mB (by omega);simp only[go_sem,h0,h1,h2,h9,T,w1,w2,w3,w4,aC hp,b1,Z];refine⟨by decide,PC.use (Md p t) ?_⟩;simp only[go_sem,e];refine gU (fun E _=>∃X I:Nat,X<=I/\I<=l.length/\I-X<j-i/\E 0=.sl (l.map bZ)/\E 1=int t/\E 2=.v (.func (.func 373) #[] #[])/\E 8=int l.length/\E 9=int X/\E 10=int I/\(∀c,c<X->(eM l c).t<t)/\(I<l.length->t<=(eM l I).t)) ?_ fun K hK _ _=>aA (fun hb=>?_) (fun hb=>?_)
  ·rintro E H' ⟨X,I,a1,a2,a3,c0,c1,c2,c8,c9,ad,cz,cy⟩;exact⟨⟨X,I,a1,a2,c0,c1,c2,c8,c9,ad,cz,cy⟩,by grind[aL]⟩
  ·have hb:p.t-t<0:=by grind
   simp only[go_sem,aQ m];refine hK _ _ ⟨m+1,j,by omega,hj,by omega,h0,h1,h2,h8,rfl,T,fun c hc=>?_,hy⟩;have e2:=dZ hp;by_cases e3:c=m
   ·grind
   ·have:=NP h c m (by omega) hm
    grind
  ·have hb:¬p.t-t<0:=by grind
   simp only[go_sem];refine hK _ _ ⟨i,m,by omega,by omega,by omega,h0,h1,h2,h8,h9,rfl,hz,fun _=>?_⟩
   grind[dZ]
 ·have Y:i=j:=by grind
  subst Y;have aa:bs l t=i:=awD hj hz hy;simp only[go_sem,h0,h1,h2,h8,h9,Z];have F:decide ((i:Int)<(l.length:Int))=true->(l.map bZ).getD i []=bZ (eM l i):=fun J=>by grind[dZ]
  have ac:decide ((i:Int)<(l.length:Int))=true->0<=(i:Int)/\(i:Int)<(l.length:Int):=fun J=>by grind
  refine⟨fun J=>⟨ac J,by rw[F J];rfl⟩,fun J=>by rw[F J];exact Xaf _,int (W ((eM l i).t-t)),fun J=>by rw[F J,Ey];exact(Md _ t).q rfl,?_⟩;simp only[go_sem];have e:Ca l t=(decide ((i:Int)<(l.length:Int))&&(W ((eM l i).t-t) == 0)):=by
   unfold Ca;rw[aa];by_cases O:i<l.length
   ·have ab:=h.pt _ (Xac (aK O).choose_spec)
    grind[dZ,mB]
   grind
  rw[aa,e];exact .refl _
def ahK(p q:Point)(t:Int):Int:=W (p.a+IntKind.i64.wrap (Int.tdiv (W (W (W (W (t-p.t)*W (q.a-p.a))+W (q.t-p.t))-1)) (W (q.t-p.t))))
def KB(l:List Point)(t:Int):Int:=
 if Ca l t=true then(eM l (bs l t)).a else if((bs l t:Int) == 0)=true then AD (eM l 0) t
 else if((bs l t:Int) == (l.length:Int))=true then AD (eM l (bs l t-1)) t else ahK (eM l (bs l t-1)) (eM l (bs l t)) t
def arS(l:List Point)(t:Int):bs l t<=l.length:=by
 have:=congrArg List.length (List.takeWhile_append_dropWhile (p:=fun p:Point=>decide (p.t<t)) (l:=l))
 grind[bs]
def Y5(l:List Point)(t:Int)(h:TravB l)(ht:0<=t/\t<=1073741824):PC prog 349 [.sl (l.map bZ),int t] (int (KB l t)):=by
 have hl:=h.len;have hb:=arS l t;refine pcd func349 rfl rfl ?_;simp only[go_sem];refine aH (acH l t h ht) ?_;simp only[go_sem];obtain⟨i,hi⟩:∃i,bs l t=i:=⟨_,rfl⟩;have Z:KB l t=if Ca l t=true then(eM l i).a else if((i:Int) == 0)=true then AD (eM l 0) t else if((i:Int) == (l.length:Int))=true then AD (eM l (i-1)) t else ahK (eM l (i-1)) (eM l i) t:=by grind[KB]
 rw[hi]at hb |-;rw[Z];apply aA <;> intro h1
 ·have aa:i<l.length:=by grind[Ca]
  obtain⟨p,E⟩:=aK aa;have b1:=inB aa;simp only[go_sem,aC E,b1];rw[if_pos h1,dZ E];exact .refl _
 simp only[go_sem];apply aA <;> intro h2
 ·obtain⟨p,E⟩:=aK (show 0<l.length by omega);simp only[go_sem];refine dK ?_;simp only[go_sem,aC E];rw[if_neg (by grind),if_pos h2,dZ E];have b0:(0:Int)<=0/\(0:Int)<(l.length:Int):=by omega
  exact⟨b0,b0,.refl _⟩
 simp only[go_sem];apply aA <;> intro h3
 ·have ac:i≠0:=by grind
  obtain⟨p,E⟩:=aK (show i-1<l.length by omega);simp only[go_sem];refine dK ?_;have w:IntKind.i64.wrap ((i:Int)-1)=((i-1:Nat):Int):=by grind[aU]
  have b1:=inB (show i-1<l.length by omega);simp only[go_sem,w,aC E,b1];rw[if_neg (by grind),if_neg (by grind),if_pos h3,dZ E];exact .refl _
 have ac:i≠0:=by grind
 have ae:i≠l.length:=by grind
 obtain⟨p,E⟩:=aK (show i-1<l.length by omega);obtain⟨q,hq⟩:=aK (show i<l.length by omega);have w:IntKind.i64.wrap ((i:Int)-1)=((i-1:Nat):Int):=by grind[aU]
 have b1:=inB (show i-1<l.length by omega);have b2:=inB (show i<l.length by omega);have hm:=(h.mono (i-1) (by omega)).1;rw[show i-1+1=i by omega,dZ E,dZ hq]at hm;have ag:=h.pt p (Xac E);have ad:=h.pt q (Xac hq);rw[if_neg (by grind),if_neg (by grind),if_neg (by grind),dZ E,dZ hq];simp only[go_sem];refine DC (fun O H'=>O 1=int t/\∃I F,O 7=.op I 0 0/\O 8=.op F 0 0/\H' I=some (⟨85,2,[bZ p]⟩:Row)/\H' F=some (⟨85,2,[bZ q]⟩:Row)/\I≠F) ?_ fun K hK=>?_
 ·rintro ρ H ⟨h1,I,F,X,Y,R7,R8,J⟩;simp only[go_sem,X,Y,R7,R8];refine fV [I,F] [(0,true),(1,true),(2,true),(3,true),(4,true),(5,true),(6,true),(7,true),(8,true),(9,true),(10,true),(11,true),(12,true),(13,true),(14,true),(15,false),(16,false),(17,false),(18,false)] (by grind) (by kernel_rfl) fun Hp T E hr _ af=>?_
  have P7:=(E I (by simp)).trans R7;have P8:=(E F (by simp)).trans R8;simp only[go_sem,h1,X,Y,P7,P8];refine⟨Xc (by omega),gJ fun _ Hm _ _=>?_⟩;simp only[go_sem];exact .refl _
 ·refine Co [] (.q 0 (.q 1 (.q 2 (.q 3 (.q 4 (.q 5 (.q 6 (.q 7 (.q 8 (.a2 9 (.a1 10 (.a1 11 (.a1 12 .nil))) 10 (.a1 9 (.a1 11 (.a1 12 .nil))))))))))))) (by simp) (by kernel_rfl) fun Hp T _ ah _ _=>?_
  simp only[go_sem,w,aC E,aC hq,b1,b2];have rP:∀{a b:Nat} {G:aG} {z:List AV} {y:List AV},a≠b->G a=some (⟨85,2,[z]⟩:Row)->aM G b (some (⟨85,2,[y]⟩:Row)) a=some (⟨85,2,[z]⟩:Row):=fun ab hG=>by rw[aJ _ _ _ _ ab];exact hG
  refine tL ?_ ?_
  ·simp only[go_sem];refine aN fun I X=>?_
   simp only[go_sem];refine aN fun F Y=>?_
   have J:=bE (aB _ _ _) Y;have S7:=eT (r':=(⟨85,2,[[int 0,int 0]]⟩:Row)) (aB T I (some (⟨85,2,[[int 0,int 0]]⟩:Row))) Y;have S8:=aB (aM T I (some (⟨85,2,[[int 0,int 0]]⟩:Row))) F (some (⟨85,2,[[int 0,int 0]]⟩:Row));generalize aM (aM T I _) F _=G at S7 S8 |-;simp only[go_sem];refine aI S7 (by simp[fU]) ?_;simp only[go_sem];refine aI (oZ S8 J.symm) (by simp[fU]) ?_;simp only[go_sem];refine gJ fun _ Hm _ hm=>hK _ _ ⟨rfl,I,F,rfl,rfl,?_,?_,J⟩
   all_goals grind[aB]
  ·simp only[go_sem];refine aN fun F Y=>?_
   simp only[go_sem];refine aN fun I X=>?_
   have J:=(bE (aB _ _ _) X).symm;have S8:=eT (r':=(⟨85,2,[[int 0,int 0]]⟩:Row)) (aB T F (some (⟨85,2,[[int 0,int 0]]⟩:Row))) X;have S7:=aB (aM T F (some (⟨85,2,[[int 0,int 0]]⟩:Row))) I (some (⟨85,2,[[int 0,int 0]]⟩:Row));generalize aM (aM T F _) I _=G at S7 S8 |-;simp only[go_sem];refine aI S7 (by simp[fU]) ?_;simp only[go_sem];refine aI (oZ S8 J.symm) (by simp[fU]) ?_;simp only[go_sem];refine gJ fun _ Hm _ hm=>hK _ _ ⟨rfl,I,F,rfl,rfl,?_,?_,J⟩
   all_goals grind[aB]
def XI{α:Type}{p:α->Bool}:∀l:List α,(∀c x,c<(l.takeWhile p).length->l[c]?=some x->p x=true)/\(∀x,l[(l.takeWhile p).length]?=some x->p x=false)
 | []=>⟨fun c x h _=>by grind,fun x h=>by grind⟩
 | a::r=>by
  obtain⟨h1,E⟩:=XI (p:=p) r;by_cases F:p a=true
  ·simp_all;grind
  simp_all
def Yd{p:Point}{t:Int}(E:0<=p.t/\p.t<=4096/\p.t<=p.a/\p.a<=p.t+4096)(e:p.t=t):AD p t=p.a:=by grind[AD,mB]
def aoZ{p q:Point}{t:Int}(F:0<=p.t/\p.t<=4096/\p.t<=p.a/\p.a<=p.t+4096)(I:0<=q.t/\q.t<=4096/\q.t<=q.a/\q.a<=q.t+4096)(E:p.t<q.t)(e:p.t=t):I1 p q t=p.a:=by
 unfold I1;subst e;rw[Int.sub_self,show W 0=0 from rfl,Int.zero_mul,show W 0=0 from rfl,Int.zero_add,mB (n:=q.t) (by omega),mB (n:=q.t-p.t) (by omega),mB (n:=q.t-p.t-1) (by omega),
  Xce (by omega),Int.ediv_eq_zero_of_lt (by omega) (by omega)]
 rw[show IntKind.i64.wrap 0=0 from rfl,Int.add_zero,mB (by omega)]
def atB{p q:Point}{t:Int}(T:0<=p.t/\p.t<=4096/\p.t<=p.a/\p.a<=p.t+4096)(Y:0<=q.t/\q.t<=4096/\q.t<=q.a/\q.a<=q.t+4096)(X:p.a<=q.a)(h1:p.t<=t)(O:t<q.t):I1 p q t=ahK p q t:=by
 unfold I1 ahK;have J:0<=t-p.t/\t-p.t<=4096:=by omega
 have I:0<=q.a-p.a/\q.a-p.a<=8192:=by omega
 have F:0<=(t-p.t)*(q.a-p.a):=Int.mul_nonneg J.1 I.1;have E:(t-p.t)*(q.a-p.a)<=4096*8192:=Int.mul_le_mul J.2 I.2 I.1 (by omega);rw[mB (n:=t-p.t) (by omega),mB (n:=q.a-p.a) (by omega),mB (n:=(t-p.t)*(q.a-p.a)) (by omega),mB (n:=q.t-p.t) (by omega)];generalize (t-p.t)*(q.a-p.a)=m at F E;rw[mB (n:=m+q.t) (by omega),mB (n:=m+q.t-p.t) (by omega),mB (n:=m+(q.t-p.t)) (by omega),show m+q.t-p.t=m+(q.t-p.t)by omega]
def T2(l:List Point)(t:Int):Int:=match (List.range (l.length-1)).find? (mY l t)with
 | some k=>I1 (eM l k) (eM l (k+1)) t
 | none=>if decide (t>(eM l 0).t)=true then AD (eM l (l.length-1)) t else AD (eM l 0) t
def Ln{l:List Point}{t:Int}{k:Nat}(h:(List.range (l.length-1)).find? (mY l t)=some k):T2 l t=I1 (eM l k) (eM l (k+1)) t:=by unfold T2;rw[h]
def SA{l:List Point}{t:Int}(h:(List.range (l.length-1)).find? (mY l t)=none)(E:t>(eM l 0).t):T2 l t=AD (eM l (l.length-1)) t:=by unfold T2;rw[h];exact if_pos (by simpa using E)
def PV{l:List Point}{t:Int}(h:(List.range (l.length-1)).find? (mY l t)=none)(E:¬t>(eM l 0).t):T2 l t=AD (eM l 0) t:=by unfold T2;rw[h];exact if_neg (by simpa using E)
def avE{l:List Point}{t:Int}{i:Nat}(E:bs l t=i)(h:i<l.length/\(eM l i).t=t):KB l t=(eM l i).a:=by unfold KB Ca;rw[E];exact if_pos (by simp;omega)
def asE{l:List Point}{t:Int}{i:Nat}(E:bs l t=i)(h:¬(i<l.length/\(eM l i).t=t)):KB l t=if((i:Int) == 0)=true then AD (eM l 0) t
 else if((i:Int) == (l.length:Int))=true then AD (eM l (i-1)) t else ahK (eM l (i-1)) (eM l i) t:=by
 unfold KB Ca;rw[E];exact if_neg (by simp;intro F;omega)
def aiS{l:List Point}{t:Int}(h:TravB l)(hr:jJ l=[])(ht:0<=t/\t<=1073741824):gP l t=KB l t:=by
 have hl:=h.len;have hb:=arS l t;obtain⟨ae,ai⟩:=XI (p:=fun p:Point=>decide (p.t<t)) l;have F:∀c,c<bs l t->(eM l c).t<t:=fun c T=>by obtain⟨x,hx⟩:=aK (show c<l.length by omega);have:=ae c x T hx;rw[dZ hx];simpa using this
 have X:bs l t<l.length->t<=(eM l (bs l t)).t:=fun af=>by obtain⟨x,hx⟩:=aK af;have:=ai x hx;rw[dZ hx];simpa using this
 have Z:∀c,c<l.length->0<=(eM l c).t/\(eM l c).t<=4096/\(eM l c).t<=(eM l c).a/\(eM l c).a<=(eM l c).t+4096:=fun c T=>by obtain⟨x,hx⟩:=aK T;rw[dZ hx];exact h.pt x (Xac hx)
 unfold gP;have ac:uE l t=false:=by unfold uE;rw[hr];simp;omega
 rw[if_neg (by rw[ac];simp)];show T2 l t=KB l t;obtain⟨i,hi⟩:∃i,bs l t=i:=⟨_,rfl⟩;rw[hi]at hb F X;have E:(∀c,c+1<l.length->mY l t c=false)->(List.range (l.length-1)).find? (mY l t)=none:=fun hn=>Cq fun c T=>hn c (by have:=Xat.1 T;omega)
 have J:∀k,k+1<l.length->(∀c,c<k->mY l t c=false)->mY l t k=true->(List.range (l.length-1)).find? (mY l t)=some k:=fun k hk hn hy=>Em (k:=k) (fun y ad=>by rw[List.take_range]at ad;exact hn y (by have:=Xat.1 ad;omega)) (iN (by omega)) hy
 have I:∀c,c+1<l.length->(eM l (c+1)).t<=t->mY l t c=false:=fun c _ T=>by unfold mY;simp;omega
 by_cases aa:i<l.length/\(eM l i).t=t
 ·rw[avE hi aa];obtain⟨O,he⟩:=aa;have ab:∀c,c+1<l.length->c+1<=i->mY l t c=false:=fun c T ak=>I c T (by
   by_cases e:c+1=i
   ·rw[e];omega
   ·have:=F (c+1) (by omega);omega)
  by_cases Y:i+1<l.length
  ·have hm:=h.mono i Y;rw[Ln (J i Y (fun c T=>ab c (by omega) (by omega)) (by unfold mY;simp;omega))];exact aoZ (Z i O) (Z (i+1) Y) hm.1 he
  ·have hn:=E fun c T=>ab c T (by omega)
   have ah:i=l.length-1:=by omega
   by_cases h0:i=0
   ·rw[h0]at he O |-;rw[PV hn (by omega)];exact Yd (Z 0 O) he
   ·have:=F 0 (by omega);rw[SA hn this,<-ah];exact Yd (Z i O) he
 ·rw[asE hi aa];by_cases h0:i=0
  ·subst h0;have hh:=X (by omega);have ag:(eM l 0).t≠t:=fun e=>aa ⟨by omega,e⟩
   rw[PV (E fun c T=>by
    have:(eM l 0).t<=(eM l c).t:=by
     by_cases e:c=0
     ·rw[e];omega
     ·have:=NP h 0 c (by omega) (by omega);omega
    unfold mY;simp;omega) (by omega),if_pos (by simp)]
  ·rw[if_neg (by simp;omega)];by_cases hn:i=l.length
   ·have:=F 0 (by omega);rw[SA (E fun c T=>I c T (by have:=F (c+1) (by omega);omega)) this,if_pos (by simp;omega),hn]
   ·have O:i<l.length:=by omega
    have hh:=X O;have ag:(eM l i).t≠t:=fun e=>aa ⟨O,e⟩
    have aj:=F (i-1) (by omega);have e1:i-1+1=i:=by omega
    rw[Ln (J (i-1) (by omega) (fun c T=>I c (by omega) (by have:=F (c+1) (by omega);omega)) (by unfold mY;rw[e1];simp;omega)),if_neg (by simp;omega)];rw[e1];have hm:=h.mono (i-1) (by omega);rw[e1]at hm;exact atB (Z (i-1) (by omega)) (Z i O) hm.2 (by omega) (by omega)
def abO(l:List Point)(t:Int)(I:jJ l=[]):PC prog 315 [.sl (l.map bZ),int t] (int (gP l t)):=by
 have h:=OU I;refine pcd func315 rfl rfl ?_;simp only[go_sem];refine aH (Ql _ _ _) ?_;simp only[go_sem];refine⟨_,fun _=>(NW l h).q rfl,?_⟩;simp only[go_sem];have E:uE l t=(!(decide (t>=0)&&decide (t<=1073741824))|| !true):=by unfold uE;rw[I,Xar];simp
 rw[<-E];apply aA <;> intro F
 ·simp only[go_sem];exact bP (by unfold gP;rw[if_pos F])
 have J:0<=t/\t<=1073741824:=by unfold uE at F;simp at F;omega
 simp only[go_sem];refine aH (Y5 l t h J) ?_;simp only[go_sem];exact bP (aiS h I J).symm
def Rf(n:Network)(i:Int):PC prog 267 [.agg (bD n),int i] (boo (HJ n i)):=by refine pcd func267 rfl rfl ?_;simp only[go_sem];exact .refl _
def PH(a:Arc):List AV:=[int a.src,int a.dst,int a.profile]
def aoR(a:Arc):PC prog 314 [.agg (gH a)] (.agg (PH a)):=by
 refine pcb (fun t=>t == 2) func314 rfl rfl ?_;simp only[go_sem];refine aN fun j E=>?_
 simp only[go_sem];refine aI (aB _ _ _) (by simp) ?_;simp only[go_sem];exact .refl _
structure NetOk(n:Network):Prop where
 arcs:n.arcs.length<=1048576
 travel:∀a∈n.arcs,jJ a.travel=[]
 slow:∀a∈n.arcs,a.slow.length<=1048576
def Vt(a:Arc)(t:Int)(ha:jJ a.travel=[])(ab:a.slow.length<=1048576):PC prog 269 [.agg (gH a),int t] (int (tU a t)):=by
 refine pcd func269 rfl rfl ?_;simp only[go_sem];refine aH (abO a.travel t ha) ?_;simp only[go_sem];refine⟨fun ρ _=>∃k:Nat,k<=a.slow.length/\ρ 1=int t/\ρ 13=.sl (a.slow.map bZ)/\ρ 14=int a.slow.length/\ρ 5=int ((a.slow.take k).foldl (pL t) (gP a.travel t))/\ρ 15=int k,fun ρ _=>a.slow.length-aR (ρ 15),⟨0,Xaa _,rfl,rfl,rfl,rfl,rfl⟩,?_⟩;rintro ρ H ⟨k,hk,h1,I,J,X,E⟩;simp only[go_sem,J,E];refine aA (fun F=>?_) (fun T=>?_)
 ·have F:=aV F;obtain⟨p,hp⟩:=aK F;have b1:=inB F;have hs:(a.slow.take (k+1)).foldl (pL t) (gP a.travel t)=pL t ((a.slow.take k).foldl (pL t) (gP a.travel t)) p:=by rw[bA hp,Xbm];rfl
  simp only[go_sem,I,E,aC hp,b1];refine aN fun Z aa=>?_
  simp only[go_sem];refine aI (aB _ _ _) (by simp[fU]) ?_;generalize Y:aM (aM _ Z _) Z _=HGi7;have R7:HGi7 Z=some (⟨85,2,[bZ p]⟩):=by rw[<-Y,aB];rfl
  simp only[go_sem,h1,R7];refine gU (fun O _=>O 1=int t/\O 13=.sl (a.slow.map bZ)/\O 14=int a.slow.length/\O 5=int ((a.slow.take (k+1)).foldl (pL t) (gP a.travel t))/\O 15=int k) ?_ fun K hK _ _=>aA (fun hb=>?_) (fun hb=>?_)
  ·clear h1 I J X E;rintro ρ H ⟨h1,I,J,X,E⟩;simp only[go_sem,h1,I,J,X,E,aQ k];exact⟨⟨k+1,F,rfl,rfl⟩,msr F⟩
  ·simp only[go_sem,X,R7];refine hK _ _ ⟨h1,I,J,?_,E⟩;simp only[go_sem];rw[hs,pL,if_pos hb];rfl
  ·simp only[go_sem];refine hK _ _ ⟨h1,I,J,?_,E⟩;simp only[go_sem,X];rw[hs,pL,if_neg (by rw[hb];simp)]
 ·have T:=aW hk T;subst T;simp only[go_sem,X];rw[Xad];exact .refl _
def anH(n:Network)(p f t:Int)(hl:n.arcs.length<=1048576):PC prog 268 [.agg (bD n),int p,int f,int t] (.tup [.agg (gH ((pY n p f t).getD CP)),boo (pY n p f t).isSome]):=by
 refine pcd func268 rfl rfl ?_;simp only[go_sem];refine aN fun j8 aq=>?_
 generalize al:aM _ j8 _=HGj8;have R8:HGj8 j8=some (⟨88,6,[gH CP]⟩):=by rw[<-al,aB];rfl
 simp only[go_sem];refine aN fun J af=>?_
 have I:j8≠J:=bE R8 af;simp only[go_sem];refine aI (aB _ _ _) (by simp[]) ?_;generalize aa:aM (aM _ J _) J _=HGj10;replace R8:=kpR aa I I R8;have Y:HGj10 J=some (⟨337,3,[[int f,int t,int p]]⟩):=by rw[<-aa,aB];rfl
 simp only[go_sem];refine⟨fun ρ H=>∃k:Nat,k<=n.arcs.length/\ρ 8=.op j8 0 0/\ρ 10=.op J 0 0/\ρ 18=.sl (n.arcs.map gH)/\ρ 19=int n.arcs.length/\ρ 20=int k/\H j8=some (⟨88,6,[gH CP]⟩:Row)/\H J=some (⟨337,3,[[int f,int t,int p]]⟩:Row)/\∀a∈n.arcs.take k,IM p f t a=false,fun ρ _=>n.arcs.length-aR (ρ 20),⟨0,Xaa _,rfl,rfl,rfl,rfl,rfl,R8,Y,by simp⟩,?_⟩;rintro ρ H ⟨k,hk,h8,aj,ak,ai,ad,R8,Y,hz⟩;simp only[go_sem,ai,ad];refine aA (fun X=>?_) (fun ab=>?_)
 ·have X:=aV X;obtain⟨a,ac⟩:=aK X;have b1:=inB X;simp only[go_sem,ak,ad,aC ac,b1];refine aN fun O Z=>?_
  have F:j8≠O:=bE R8 Z;have E:J≠O:=bE Y Z;simp only[go_sem];refine aI (aB _ _ _) (by simp[iZ]) ?_;generalize T:aM (aM _ O _) O _=HGi12;replace R8:=kpR T F F R8;replace Y:=kpR T E E Y;have ae:HGi12 O=some (⟨88,6,[gH a]⟩):=by rw[<-T,aB];rfl
  simp only[go_sem];refine fV [O] [(0,true),(1,true),(2,false),(3,false)] (by simp[ae]) (by kernel_rfl) fun Hp Hr hp hr _ ar=>?_
  have am:=(hp O (by simp)).trans ae;have ah:=(hr J (by simp[E])).trans Y;simp only[go_sem,am];refine⟨_,(aoR a).q rfl,?_⟩;simp only[go_sem,aj,ah,PH];refine gJ fun _ Hm an ag=>?_
  have M8:Hm j8=some (⟨88,6,[gH CP]⟩:Row):=by
   have n1:j8∉[O]:=by simp[F]
   rw[ag j8 n1];exact(hr j8 n1).trans R8
  have ao:=(an O (by simp)).trans ae;have ap:Hm J=_:=(ag J (by simp[E])).trans ah;simp only[go_sem];have ea:(a.src == f&&(a.dst == t&&(a.profile == p&&true)))=IM p f t a:=by unfold IM;rw[Xbh,Bool.and_assoc]
  rw[ea];apply aA <;> intro hb
  ·simp only[go_sem,h8,ao];refine aI M8 (by simp[iZ]) ?_;simp only[go_sem,h8,iZ];have:pY n p f t=some a:=Em hz ac hb;rw[this];exact .refl _
  ·simp only[go_sem,h8,aj,ak,ai,ad,aQ k];exact⟨⟨k+1,X,rfl,M8,ap,aO (p:=fun a=>IM p f t a=false) ac hb hz⟩,msr X⟩
 ·have ab:=aW hk ab;subst ab;rw[Xad]at hz;simp only[go_sem,h8];refine aI R8 (by simp) ?_;simp only[go_sem,h8];have:pY n p f t=none:=Cq hz;rw[this];exact .refl _
def alF(n:Network)(p f t time:Int)(T:NetOk n):PC prog 228 [.agg (bD n),int p,int f,int t,int time] (.tup [int (fO n p f t time).1,int (fO n p f t time).2.1,int (fO n p f t time).2.2]):=by
 refine pcd func228 rfl rfl ?_;simp only[go_sem];refine aH (Rf n f) ?_;simp only[go_sem];refine⟨_,fun _=>(Rf n t).q rfl,?_⟩;simp only[go_sem];apply aA <;> intro h1
 ·simp only[go_sem];have:fO n p f t time=(0,0,11):=by unfold fO;rw[if_pos h1]
  rw[this];exact .refl _
 simp only[go_sem];apply aA <;> intro Z
 ·simp only[go_sem];have:fO n p f t time=(time,0,0):=by unfold fO;rw[if_neg (by rw[h1];simp),if_pos Z]
  rw[this];exact .refl _
 have hg:fO n p f t time=match pY n p f t with|some a=>(tU a time,a.miles,0)|none=>(0,0,12):=by unfold fO;rw[if_neg (by rw[h1];simp),if_neg (by rw[Z];simp)];rfl
 rw[hg];simp only[go_sem];refine aH (anH n p f t T.arcs) ?_;simp only[go_sem];refine aN fun E X=>?_
 simp only[go_sem];refine aI (aB _ _ _) (by simp[iZ]) ?_;generalize F:aM (aM _ E _) E _=HGj13;have I:HGj13 E=some (⟨88,6,[gH ((pY n p f t).getD CP)]⟩):=by rw[<-F,aB];rfl
 simp only[go_sem];cases Y:pY n p f t with
 | none=>refine aA (fun _=>?_) (fun O=>by simp at O);simp only[go_sem];exact .refl _
 | some a=>have J:=List.mem_of_find?_eq_some Y;refine aA (fun O=>by simp at O) (fun _=>?_);rw[Y]at I;simp only[go_sem,Xbl];refine dK ?_;simp only[go_sem,Xbl,I];refine⟨_,(Vt a time (T.travel a J) (T.slow a J)).q rfl,?_⟩;simp only[go_sem,Xbl,I];exact .refl _
def Xg(s:Stop)(a:Int):PC prog 270 [.agg (eJ s),int a] (.tup [int (if eN a s.start>s.close then 0 else eN a s.start),int (if eN a s.start>s.close then 14 else 0)]):=by
 refine pcd func270 rfl rfl ?_;simp only[go_sem];apply aA <;> intro E
 ·have E:eN a s.start>s.close:=by simpa using E
  simp only[go_sem];rw[if_pos E,if_pos E];exact .refl _
 ·have E:¬eN a s.start>s.close:=by simpa using E
  simp only[go_sem];rw[if_neg E,if_neg E];exact .refl _
end Go.Proofs.YtpagaknmdfgfkaaGreatDoor.Sq
end
