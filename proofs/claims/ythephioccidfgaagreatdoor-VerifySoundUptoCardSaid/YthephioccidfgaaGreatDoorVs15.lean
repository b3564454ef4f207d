import Derived.Test.YthephioccidfgaaGreatDoorVs11
import Derived.Test.YthephioccidfgaaGreatDoorVs13
import Derived.Test.YthephioccidfgaaGreatDoorVs14
set_option linter.unusedSimpArgs false
set_option linter.unusedVariables false
set_option linter.defProp false
set_option maxRecDepth 100000
namespace Go.Proofs.YthephioccidfgaaGreatDoor
open Go.Aw Go.Aw.D Go.Proofs Ty
namespace Nu
open Go.Nu Go.So Go.Sb
abbrev hlf:ByteArray:=⟨#[49,47,50]⟩
end Nu
namespace Nu
open Go.Proofs.Tryz
open Go.Nu Go.So Go.Sb
def aaD{l:List Int}{d:Int}(h:Dj l d=true):1<=(l.length:Int)/\(l.length:Int)<=3/\(l.length:Int)=d/\∀n∈l,0<=n/\n<=1000:=by
 unfold Dj at h;split at h
 ·cases h
 ·next h1=>
  simp only[Xax,not_or,Xbu,Xbj,bne_eq_false_iff_eq]at h1;have e:=iM.1 h1.1;exact⟨e.1,e.2,h1.2,fun n A=>iM.1 (Xaj.1 h n A)⟩
def adU{l:List Int}{d:Int}(h:gV l d=true):(l.length:Int)=d/\∀n∈l,0<=n/\n<=1000:=by
 unfold gV at h;split at h
 ·next h1=>
  refine⟨h1,fun n A=>?_⟩;have:=Xaj.1 h n A;simp at this;omega
 ·cases h
def Kg{x:Instance}(h:Acc x):LoadsOk x (gX x.types).toNat/\x.types≠[]:=by
 have A:x.types≠[]:=by intro h0;have:=h.types;rw[h0]at this;simp at this
 obtain⟨t,r,E⟩:=List.exists_cons_of_ne_nil A;have O:gX x.types=t.cap.length:=by rw[E];rfl
 have F:=aaD (h.type t (by rw[E];exact List.mem_cons_self)).cap;have e:((gX x.types).toNat:Int)=gX x.types:=by omega
 refine⟨⟨by omega,by have:=h.orders;omega,by have:=h.types;omega,fun o J=>?_,fun t E=>?_⟩,A⟩
 ·have:=adU (h.order o J).load;exact⟨by omega,this.2⟩
 ·have:=aaD (h.type t E).cap;exact⟨by omega,this.2.2.2⟩
def avV(c:Cut)(E:Nat)(h:0<=c.set)(A:c.set<9223372036854775808)(F:E<2^63):PC prog 101 [.agg (fZ c),int E] (int (lS c.kind (c.set.toNat &&& E))):=by obtain⟨k,s,n⟩:=c;obtain⟨m,rfl⟩:=Int.eq_ofNat_of_zero_le h;have A:(m:Int)<9223372036854775808:=A;exact azI k n m E (by omega) F
end Nu
namespace Nu
open Go.Nu
open Dec (iS dR cN mG)
def atS(x:Instance):List Nat:=(List.range x.orders.length).filter (wG (fun _=>true) x.orders)
def dI(x:Instance):List Int:=(atS x).map fun i:Nat=>(i:Int)
def axD(x:Instance)(k:Nat):List Int:=((List.range k).filter (wG (fun _=>true) x.orders)).map fun i:Nat=>(i:Int)
def acF(x:Instance)(k:Nat):(axD x k).length<=k:=by
 unfold axD
 grind
def Kc(x:Instance):(dI x).length<=x.orders.length:=acF x _
def YS{x:Instance}{i:Int}(h:i∈dI x):∃n o,i=(n:Nat)/\n<x.orders.length/\x.orders[n]?=some o/\o.off=false:=by
 obtain⟨n,E,rfl⟩:=Xan.1 h;obtain⟨h1,F⟩:=Xbg.1 E;have A:=Xai.1 h1;obtain⟨o,J⟩:=aI A
 grind[Cp]
def Ec{p q:Nat->Bool}{n:Nat}(h1:∀i,i<n->p i=q i)(A:∀i,n<=i->p i=false):∀m,(List.range (n+m)).filter p=(List.range n).filter q
 | 0=>List.filter_congr fun i E=>h1 i (Xai.1 E)
 | m+1=>by rw[<-Nat.add_assoc,Xbv,List.filter_append,Ec h1 A m];simp[A (n+m) (by omega)]
def Pf(x:Instance)(h:x.orders.length<=62):eY (Ld x:Nat)=dI x:=by
 unfold eY qP dI atS
 congr 1
 obtain⟨m,hm⟩:∃m,63=x.orders.length+m:=⟨63-x.orders.length,by omega⟩;have E:∀i,(Ld x).testBit i=(decide (i<x.orders.length)&&wG (fun _=>true) x.orders i):=fun i=>wP _ _ _
 have A:∀i:Nat,cR ((Ld x:Nat):Int) (i:Int)=(decide (i<x.orders.length)&&wG (fun _=>true) x.orders i):=by grind[cR]
 simp_all[Ec,decide_eq_false]
def uF(b:Bool):Int:=if b=true then 1 else 0
def Ay(d:Decision):Bool:=d.kind == 3||d.kind == 4
def aoW(l:List Decision)(k:Nat):((l.take k).filter Ay).length<=k:=Xal (List.length_filter_le _ _) (by grind)
def Ci{α:Type}{p:α->Bool}{l:List α}{k:Nat}{a:α}(h:l[k]?=some a):(l.take (k+1)).filter p=(l.take k).filter p++(if p a=true then[a]else[]):=by
 rw[aZ h,List.filter_append]
 grind
abbrev iG(l:List Int):Row:=⟨3,1,l.map aQ⟩
def eH(x:Instance)(cuts:List Cut)(ds:List Decision):Nat:=(dI x).length+x.types.length+cuts.length+(ds.filter Ay).length
structure MIn(x:Instance)(cuts:List Cut)(ds:List Decision):Prop where
 orders:x.orders.length<=62
 types:x.types.length<=1048576
 cl:cuts.length<=1048576
 dl:ds.length<=1048576
def CV(ds:List Decision)(i:Int):Bool:=ds.any fun d=>d.kind == 5&&d.a == i
def HT(x:Instance)(i:Int):Int:=(uR x.orders i).penalty
def uP(x:Instance)(ds:List Decision)(i:Int):Bool:=decide (HT x i>=0)&& !CV ds i
def gI(x:Instance)(ds:List Decision):List Int:=(dI x).filter (uP x ds)
def Nh{α:Type}(p:α->Bool)(l:List α)(k:Nat):((l.take k).filter p).length<=k:=Xal (List.length_filter_le _ _) (by rw[Xav];omega)
def pC(x:Instance)(c:Column):List Int:=(dI x).map fun i=>uF (cR c.set i)
def oK(x:Instance)(c:Column)(k:Nat):List Int:=(List.range k).map fun t:Nat=>uF (c.type == (t:Int))
def rK(c:Column)(cuts:List Cut):List Int:=cuts.map fun q=>lS q.kind (q.set.toNat &&& c.set.toNat)
def Ai(c:Column)(ds:List Decision):List Int:=(ds.filter Ay).map fun d=>uF (c.type == d.a)
def gG(x:Instance)(c:Column)(cuts:List Cut)(ds:List Decision):List Int:=pC x c++oK x c x.types.length++rK c cuts++Ai c ds
structure ColB(c:Column):Prop where
 set:0<=c.set/\c.set<=9223372036854775807
structure CutsB(cuts:List Cut):Prop where
 set:∀q∈cuts,0<=q.set/\q.set<=9223372036854775807
def pM(x:Instance)(c:Column)(cuts:List Cut)(ds:List Decision):(gG x c cuts ds).length=eH x cuts ds:=by unfold gG pC oK rK Ai eH;simp only[Xaf,Xaa,Xck]
end Nu
namespace Nu
open Go.Proofs.Tryz
open Go.Nu
open Dec (iS dR cN mG)
def El(m:List (Int×Int))(o v q:Int):sH (Dk m o v) q=if q=o then v else sH m q:=by unfold sH Dk At;induction m<;>grind
def aAP(d:Decision):PC prog 102 [.agg (aP d)] (boo (Ay d)):=by refine pcd func102 rfl rfl ?_;simp only[go_sem];exact .refl _
def Zg(b:Bool):PC prog 68 [boo b] (int (uF b)):=by
 refine pcd func68 rfl rfl ?_;simp only[go_sem];apply aA <;> intro A
 ·simp only[go_sem];subst A;exact .refl _
 ·simp only[go_sem];subst A;exact .refl _
def auI(x:Instance)(c:Column)(cuts:List Cut)(ds:List Decision)(h:MIn x cuts ds)(hc:ColB c)(hq:CutsB cuts):
  PC prog 65 [.agg (aE x),.agg (bO c),.sl (cuts.map fZ),.sl (ds.map aP)] (.sl ((gG x c cuts ds).map aQ)):=by
 have h1:=h.orders;have h2:=h.types;have h3:=h.cl;have h4:=h.dl;have az:=Kc x;obtain⟨sn,ax⟩:=Int.eq_ofNat_of_zero_le hc.set.1;have aj:sn<2^63:=by have:=hc.set.2;omega
 refine pcb (fun t=>t == 9) func65 rfl rfl ?_;simp only[go_sem];refine fR fun j av aq (R:av j=some (iG [])) N=>?_
 clear N aq;simp only[go_sem];refine aO (S4 x h1) ?_;simp only[go_sem];refine aO (lL _) ?_;rw[Pf x h1];simp only[go_sem];refine⟨fun ρ H=>∃(k:Nat) (j:Nat),k<=(dI x).length/\ρ 2=.sl (cuts.map fZ)/\ρ 3=.sl (ds.map aP)/\ρ 4=.rp (aE x) 0/\ρ 5=.rp (bO c) 0/\ρ 19=.sl ((dI x).map aQ)/\ρ 20=int ((dI x).length:Nat)/\ρ 21=int k/\ρ 9=.os j/\H j=some (iG (((dI x).take k).map fun i=>uF (cR c.set i))),fun ρ _=>(dI x).length-aU (ρ 21),⟨0,j,Xab _,rfl,rfl,rfl,rfl,rfl,rfl,(by rfl),rfl,R⟩,?_⟩;rintro ρ H ⟨k,j,hk,e2,X,e4,F,al,an,ae,J,R⟩;simp only[go_sem,an,ae];refine aA (fun A=>?_) (fun E=>?_)
 ·have A:=ltB (by omega);obtain⟨i,hi⟩:=aI A;have b1:=inB A;simp only[go_sem,F,al,ae,J,aC hi,b1];refine aO (yH _ i) ?_;simp only[go_sem];refine aO (Zg _) ?_;simp only[go_sem];refine bC R ⟨rfl,rfl⟩ ⟨rfl,trivial⟩ (by grind) (fun j' ah=>?_);simp only[go_sem,e2,X,e4,F,al,an,ae,aW k];refine⟨⟨k+1,j',A,rfl,rfl,?_⟩,msr A⟩;rw[aZ hi,Xaw];exact pB rfl
 have E:=geB hk (by omega);subst E;rw[Xad]at R
 change H j=some (iG (pC x c))at R
 simp only[go_sem,e4,Xaa];refine⟨fun ρ H=>∃(k:Nat) (j:Nat),k<=x.types.length/\ρ 2=.sl (cuts.map fZ)/\ρ 3=.sl (ds.map aP)/\ρ 5=.rp (bO c) 0/\ρ 36=int (x.types.length:Nat)/\ρ 37=int k/\ρ 9=.os j/\H j=some (iG (pC x c++oK x c k)),fun ρ _=>x.types.length-aU (ρ 37),⟨0,j,Xab _,by simp only[go_sem,e2,],X,F,by rfl,(by rfl),J,by grind[oK]⟩,?_⟩;rintro ρ H ⟨k,j,hk,e2,X,F,ap,ac,J,R⟩;simp only[go_sem,ap,ac];refine aA (fun A=>?_) (fun E=>?_)
 ·have A:=ltB (by omega);have ab:(pC x c++oK x c k).length<=62+k:=by grind[pC,oK]
  simp only[go_sem,F,ac,J];refine aO (Zg _) ?_;simp only[go_sem];refine bC R ⟨rfl,rfl⟩ ⟨rfl,trivial⟩ (by grind) (fun j' ah=>?_);simp only[go_sem,e2,X,F,ap,ac,aW k];refine⟨⟨k+1,j',A,rfl,rfl,?_⟩,msr A⟩;have:oK x c (k+1)=oK x c k++[uF (c.type == (k:Int))]:=by grind[oK,Xbv]
  rw[this,<-Xbk];exact pB rfl
 have E:=geB hk (by omega);subst E;simp only[go_sem,e2,Xaa];refine⟨fun ρ H=>∃(k:Nat) (j:Nat),k<=cuts.length/\ρ 3=.sl (ds.map aP)/\ρ 5=.rp (bO c) 0/\ρ 49=.sl (cuts.map fZ)/\ρ 50=int (cuts.length:Nat)/\ρ 51=int k/\ρ 9=.os j/\H j=some (iG (pC x c++oK x c x.types.length++rK c (cuts.take k))),fun ρ _=>cuts.length-aU (ρ 51),⟨0,j,Xab _,X,F,by rfl,by rfl,(by rfl),J,by grind[rK]⟩,?_⟩;rintro ρ H ⟨k,j,hk,X,F,af,ai,aa,J,R⟩;simp only[go_sem,ai,aa];refine aA (fun A=>?_) (fun E=>?_)
 ·have A:=ltB (by omega);obtain⟨q,ao⟩:=aI A;have b1:=inB A;have au:=hq.set q (Xac ao);have ab:(pC x c++oK x c x.types.length++rK c (cuts.take k)).length<=62+1048576+1048576:=by grind[pC,oK,rK]
  simp only[go_sem,af,aa,aC ao,b1];refine aJ fun ay O=>?_
  simp only[go_sem,X,F,af,ai,aa,J,R];refine bP O (by simp[wR]) fun ak (ar:ak ay=some (⟨102,3,[fZ q]⟩)) N=>?_
  replace R:=(N R).2;clear N O;simp only[go_sem,F,J,ar];rw[ax];refine aO (avV q sn au.1 (by omega) aj) ?_;simp only[go_sem];refine bC R ⟨rfl,rfl⟩ ⟨rfl,trivial⟩ (by grind) (fun j' ah=>?_);simp only[go_sem,X,F,af,ai,aa,aW k];refine⟨⟨k+1,j',A,rfl,rfl,?_⟩,msr A⟩;have:rK c (cuts.take (k+1))=rK c (cuts.take k)++[lS q.kind (q.set.toNat &&& sn)]:=by simp_all[rK,aZ]
  rw[this,<-Xbk];exact pB rfl
 have E:=geB hk (by omega);subst E;rw[Xad]at R;simp only[go_sem,X,Xaa];refine⟨fun ρ H=>∃(k:Nat) (j:Nat),k<=ds.length/\ρ 5=.rp (bO c) 0/\ρ 63=.sl (ds.map aP)/\ρ 64=int (ds.length:Nat)/\ρ 65=int k/\ρ 9=.os j/\H j=some (iG (pC x c++oK x c x.types.length++rK c cuts++Ai c (ds.take k))),fun ρ _=>ds.length-aU (ρ 65),⟨0,j,Xab _,F,rfl,by rfl,(by rfl),J,by grind[Ai]⟩,?_⟩;rintro ρ H ⟨k,j,hk,F,Y,Z,T,J,R⟩;simp only[go_sem,Z,T];refine aA (fun A=>?_) (fun E=>?_)
 ·have A:=ltB (by omega);obtain⟨d,hd⟩:=aI A;have b1:=inB A;have hs:=Ci (p:=Ay) hd;have ab:(pC x c++oK x c x.types.length++rK c cuts++Ai c (ds.take k)).length<=62+1048576+1048576+1048576:=by grind[pC,oK,rK,Ai]
  simp only[go_sem,Y,T,aC hd,b1];refine aJ fun aw U=>?_
  simp only[go_sem,F,Y,Z,T,J,R];refine bP U (by simp[kJ]) fun ag (am:ag aw=some (⟨52,4,[aP d]⟩)) N=>?_
  replace R:=(N R).2;clear N U;simp only[go_sem,am];refine aO (aAP d) ?_;simp only[go_sem];apply aA <;> intro hb
  ·rw[if_pos hb]at hs;have:Ai c (ds.take (k+1))=Ai c (ds.take k)++[uF (c.type == d.a)]:=by grind[Ai]
   simp only[go_sem,F,J,am];refine aO (Zg _) ?_;simp only[go_sem];refine bC R ⟨rfl,rfl⟩ ⟨rfl,trivial⟩ (by grind) (fun j' ah=>?_);simp only[go_sem,F,Y,Z,T,aW k];refine⟨⟨k+1,j',A,rfl,rfl,?_⟩,msr A⟩;rw[this,<-Xbk];exact pB rfl
  ·rw[if_neg (by grind),Xbl]at hs;simp only[go_sem,F,Y,Z,T,J,aW k];refine⟨⟨k+1,j,A,rfl,rfl,?_⟩,msr A⟩
   grind[Ai]
 have E:=geB hk (by omega);subst E;rw[Xad]at R;simp only[go_sem,J];exact .row _ _ _ R (ConvE.refl _)
def inM(cols:List Column)(ds:List Decision):List Column:=cols.filter fun c=>ds.all fun d=>cN d c.set
abbrev Zb(l:List Column):Row:=⟨156,7,l.map bO⟩
def F0(cols:List Column)(ds:List Decision)(hl:cols.length<=1048576)(hd:ds.length<=1048576):PC prog 62 [.sl (cols.map bO),.sl (ds.map aP)] (.sl ((inM cols ds).map bO)):=by
 refine pcb (fun t=>t == 5) func62 rfl rfl ?_;simp only[go_sem];refine fR fun j ab aa (R:ab j=some (Zb [])) N=>?_
 clear N aa;simp only[go_sem,R];refine⟨fun ρ H=>∃(k:Nat) (j:Nat),k<=cols.length/\ρ 1=.sl (ds.map aP)/\ρ 8=.sl (cols.map bO)/\ρ 9=int (cols.length:Nat)/\ρ 10=int k/\ρ 5=.os j/\H j=some (Zb (inM (cols.take k) ds)),fun ρ _=>cols.length-aU (ρ 10),⟨0,j,Xab _,by rfl,by rfl,by rfl,(by rfl),by rfl,R⟩,?_⟩;rintro ρ H ⟨k,j,hk,J,F,E,A,O,R⟩;simp only[go_sem,J,F,E,A,O];refine aA (fun U=>?_) (fun Y=>?_)
 ·have U:=ltB (by omega);obtain⟨c,hc⟩:=aI U;have b1:=inB U;have hs:inM (cols.take (k+1)) ds=inM (cols.take k) ds++(if(ds.all fun d=>cN d c.set)=true then[c]else[]):=Ci (p:=fun c:Column=>ds.all fun d=>cN d c.set) hc;have ac:(inM (cols.take k) ds).length<=k:=Nh _ _ _;simp only[go_sem,J,F,E,A,O,aC hc,b1];refine aJ fun i7 T=>?_
  simp only[go_sem,J,F,E,A,O,R];refine bP T (by simp[gF]) fun Z (R7:Z i7=some (⟨156,7,[bO c]⟩)) N=>?_
  replace R:=N R;obtain⟨X,R⟩:=R;clear N T;simp only[go_sem,J,F,E,A,O,R7,R];refine aO (Dec.aoS ds c hd) ?_;simp only[go_sem,J,F,E,A,O];refine aA (fun hb=>?_) (fun hb=>?_)
  ·rw[if_pos hb]at hs;simp only[go_sem,J,F,E,A,O,R7];refine bC R ⟨rfl,rfl⟩ ⟨rfl,trivial⟩ (by grind) (fun j' ae=>?_);simp only[go_sem,J,F,E,A,O,aW k]
   grind[aN,pB]
  ·rw[if_neg (by grind),Xbl]at hs;simp only[go_sem,J,F,E,A,O,aW k]
   grind[aN]
 have Y:=geB hk (by omega);subst Y;rw[Xad]at R;simp only[go_sem,J,F,E,A,O];exact .row _ _ _ R (ConvE.refl _)
def Vp{a b:Nat}(O:a<2^63)(T:b<2^63):∃s:Nat,sI .andNot .i64 (a:Int) (b:Int)=(s:Int)/\s<=a/\∀i,s.testBit i=(a.testBit i&& !b.testBit i):=by
 have h1:((a:Int)%((2^64:Nat):Int)).toNat=a:=by omega
 have E:((b:Int)%((2^64:Nat):Int)).toNat=b:=by omega
 have h3:BitVec.ofInt 64 (a:Int)=BitVec.ofNat 64 a:=by apply BitVec.eq_of_toNat_eq;rw[BitVec.toNat_ofInt,BitVec.toNat_ofNat,h1,Xbf (by omega)]
 have J:BitVec.ofInt 64 (b:Int)=BitVec.ofNat 64 b:=by apply BitVec.eq_of_toNat_eq;rw[BitVec.toNat_ofInt,BitVec.toNat_ofNat,E,Xbf (by omega)]
 have A:(BitVec.ofNat 64 a &&& ~~~BitVec.ofNat 64 b).toNat<=a:=by rw[BitVec.toNat_and,BitVec.toNat_ofNat,Xbf (by omega:a<2^64)];exact Nat.and_le_left
 refine⟨(BitVec.ofNat 64 a &&& ~~~BitVec.ofNat 64 b).toNat,?_,A,fun i=>?_⟩
 ·have h:((BitVec.ofInt 64 (a:Int) &&& ~~~(BitVec.ofInt 64 (b:Int))).toNat:Int)=(((BitVec.ofNat 64 a &&& ~~~BitVec.ofNat 64 b).toNat:Nat):Int):=by rw[h3,J]
  refine Eq.trans (congrArg IntKind.i64.wrap h) ?_;exact bD (by omega)
 ·rw[BitVec.testBit_toNat];by_cases F:i<64
  ·simp only[BitVec.getLsbD_and,BitVec.getLsbD_not,BitVec.getLsbD_ofNat,F,decide_true,Xbc]
  ·rw[BitVec.getLsbD_of_ge _ _ (by omega),Xce (Xbh O (Xas (by decide) (by omega)))];rfl
def ajX(x:Instance)(h:x.orders.length<=62)(ds:List Decision){s:Nat}(Y:∀i,s.testBit i=((Ld x).testBit i&& !(Bq x).testBit i)):
  (eY (s:Int)).filter (uP x ds)=gI x ds/\(eY (s:Int)).length<=63/\∀i∈eY (s:Int),∃n o,i=((n:Nat):Int)/\n<x.orders.length/\x.orders[n]?=some o:=by
 have U:∀i,(Ld x).testBit i=(decide (i<x.orders.length)&&wG (fun _=>true) x.orders i):=fun i=>wP _ _ _
 have hm:∀i,(Bq x).testBit i=(decide (i<x.orders.length)&&wG (fun o=>o.penalty == -1) x.orders i):=fun i=>wP _ _ _
 have J:∀i:Nat,cR ((s:Nat):Int) (i:Int)=(decide (i<x.orders.length)&&(wG (fun _=>true) x.orders i&& !wG (fun o=>o.penalty == -1) x.orders i)):=by
  intro i;by_cases A:i<x.orders.length
  ·rw[jD (by omega),Y,U,hm,decide_eq_true A];simp
  ·rw[decide_eq_false A,Bool.false_and];by_cases T:i<=62
   ·rw[jD T,Y,U,decide_eq_false A];simp
   ·unfold cR;rw[decide_eq_false (show ¬((i:Int)<=62)by omega)];simp
 have F:eY (s:Int)=((List.range x.orders.length).filter fun i=>wG (fun _=>true) x.orders i&& !wG (fun o=>o.penalty == -1) x.orders i).map fun i:Nat=>(i:Int):=by
  unfold eY qP
  congr 1
  obtain⟨m,hmm⟩:∃m,63=x.orders.length+m:=⟨63-x.orders.length,by omega⟩;rw[hmm];refine Ec (fun i A=>?_) (fun i A=>?_) m
  ·rw[J,decide_eq_true A,Xbc]
  ·rw[J,decide_eq_false (by omega),Bool.false_and]
 refine⟨?_,?_,?_⟩
 ·rw[F];unfold gI dI atS;rw[List.filter_map,List.filter_map,List.filter_filter,List.filter_filter]
  congr 1
  refine List.filter_congr fun i A=>?_
  have E:=Xai.1 A;obtain⟨o,O⟩:=aI E;rw[Cp O,Cp O];have Z:HT x (i:Int)=o.penalty:=by unfold HT;rw[gS O]
  show(uP x ds (i:Int)&&_)=(uP x ds (i:Int)&&_);by_cases X:o.penalty= -1
  ·have:uP x ds (i:Int)=false:=by unfold uP;rw[Z,X];rfl
   rw[this];rfl
  ·have:(o.penalty == -1)=false:=by simpa using X
   rw[this];simp
 ·exact qY _ 63
 ·intro i A;rw[F]at A;obtain⟨n,hn,rfl⟩:=Xan.1 A;have E:=Xai.1 (Xbg.1 hn).1;obtain⟨o,O⟩:=aI E;exact⟨n,o,rfl,E,O⟩
def OR(ds:List Decision)(i:Int):Nat:=ds.countP fun d=>d.kind == 5&&d.a == i
def M3{ds:List Decision}{k:Nat}{d:Decision}{i:Int}(h:ds[k]?=some d):OR (ds.take (k+1)) i=OR (ds.take k) i+(if(d.kind == 5&&d.a == i)=true then 1 else 0):=by unfold OR;rw[aZ h,List.countP_append,List.countP_cons,List.countP_nil,Xcj]
def arR(ds:List Decision)(k:Nat)(i:Int):OR (ds.take k) i<=k:=Xal List.countP_le_length (by rw[Xav];omega)
def adL(ds:List Decision)(i:Int):((OR ds i:Int) == 0)= !CV ds i:=by
 unfold OR CV;rw[Xar];simp only[Xay,Xau,Xap];constructor
 ·intro h d E A;have:0<ds.countP fun d=>d.kind == 5&&d.a == i:=List.countP_pos_iff.2 ⟨d,E,A⟩
  omega
 ·intro h;have:(ds.countP fun d=>d.kind == 5&&d.a == i)=0:=List.countP_eq_zero.2 h;omega
def auP(x:Instance)(ds:List Decision)(hx:x.orders.length<=62)(hd:ds.length<=1048576):PC prog 63 [.agg (aE x),.sl (ds.map aP)] (.sl ((gI x ds).map aQ)):=by
 refine pcb (fun t=>t == 8) func63 rfl rfl ?_;simp only[go_sem];refine fR fun jm al an (O:al jm=some (uB [])) N=>?_
 clear N an;simp only[go_sem,Xaa,O];refine⟨fun ρ H=>∃(k:Nat) (m:List (Int×Int)),k<=ds.length/\ρ 2=.rp (aE x) 0/\ρ 5=.om jm/\ρ 12=.sl (ds.map aP)/\ρ 13=int (ds.length:Nat)/\ρ 14=int k/\H jm=some (uB m)/\(∀i,sH m i=(OR (ds.take k) i:Nat)),fun ρ _=>ds.length-aU (ρ 14),⟨0,[],Xab _,by simp only[go_sem],by simp only[go_sem],by simp only[go_sem],by simp only[go_sem,Xaa],(by simp only[go_sem];rfl),O,fun _=>rfl⟩,?_⟩;rintro ρ H ⟨k,m,hk,A,U,J,E,F,O,hm⟩;simp only[go_sem,A,U,J,E,F];refine aA (fun T=>?_) (fun Y=>?_)
 ·have T:=ltB (by simpa using T);obtain⟨d,aj⟩:=aI T;have b1:=inB T;simp only[go_sem,A,U,J,E,F,aC aj,b1];refine aJ fun i7 ag=>?_
  simp only[go_sem,A,U,J,E,F,O];refine bP ag (by simp[kJ]) fun aq (R7:aq i7=some (⟨52,4,[aP d]⟩)) N=>?_
  replace O:=N O;obtain⟨ak,O⟩:=O;clear N ag;simp only[go_sem,A,U,J,E,F,R7,O];refine aA (fun hb=>?_) (fun hb=>?_)
  ·have ai:d.kind=5:=by simpa using hb
   have ax:=arR ds k d.a;have az:=hm d.a;have wm:IntKind.i64.wrap (sH m d.a+1)=sH m d.a+1:=bD (by omega);simp only[go_sem,A,U,J,E,F,R7];refine Aj O DF (mO _) (kY _ _) zv3 ?_;rw[Ab];simp only[go_sem,A,U,J,E,F,wm];refine I4 O DF (mO _) (kY _ _) ?_;rw[BG];generalize hP:aH _ jm _=HP;replace O:HP jm=some (uB (Dk m d.a (sH m d.a+1))):=by rw[<-hP,aB];skip
   clear hP;simp only[go_sem,A,U,J,E,F,O];simp only[aW k];refine⟨⟨k+1,Dk m d.a (sH m d.a+1),T,rfl,rfl,fun o=>?_⟩,by simp only[aN];omega⟩;rw[El,M3 aj,hm o,hm d.a];by_cases e:o=d.a
   ·subst e;rw[ai];simp
   ·have A:(d.kind == 5&&d.a == o)=false:=by simp;exact fun _ h=>e h.symm
    rw[if_neg e,A];simp
  ·have ai:d.kind≠5:=by simpa using hb
   simp only[go_sem,A,U,J,E,F,aW k];refine⟨⟨k+1,m,T,rfl,O,fun o=>?_⟩,by simp only[aN];omega⟩;have A:(d.kind == 5&&d.a == o)=false:=by simp;exact fun h=>absurd h ai
   rw[M3 aj,hm o,A];simp
 have Y:=geB hk (by simpa using Y);subst Y;rw[Xad]at hm;simp only[go_sem,A,U,J,E,F];refine fR fun j au ar (R:au j=some (iG [])) N=>?_
 replace O:=N O;obtain⟨X,O⟩:=O;clear N ar;simp only[go_sem,A,U,J,E,F,R,O];refine EG [(0,true),(1,true),(2,true),(3,true),(4,true),(7,true),(5,false),(6,false)] (by kernel_rfl) ?_;have am:Ld x<2^63:=Xbh (EO _ _) (Xas (by decide) (by omega));have ap:Bq x<2^63:=Xbh (EO _ _) (Xas (by decide) (by omega));obtain⟨s,av,ay,aw⟩:=Vp am ap;obtain⟨q1,q2,q3⟩:=ajX x hx ds aw;rw[<-q1];clear q1;simp only[go_sem,A,U,J,E,F];refine⟨_,(S4 x hx).q rfl,?_⟩;simp only[go_sem,A,U,J,E,F];refine⟨_,(ahV x hx).q rfl,?_⟩;simp only[go_sem,A,U,J,E,F,av];refine aO (lL _) ?_;generalize eY (s:Int)=M at *;simp only[go_sem,A,U,J,E,F,Xaa];refine⟨fun ρ H=>∃(k:Nat) (j:Nat),k<=M.length/\ρ 2=.rp (aE x) 0/\ρ 5=.om jm/\ρ 32=.sl (M.map aQ)/\ρ 33=int (M.length:Nat)/\ρ 34=int k/\ρ 8=.os j/\H j=some (iG ((M.take k).filter (uP x ds)))/\H jm=some (uB m),fun ρ _=>M.length-aU (ρ 34),⟨0,j,Xab _,by simp only[go_sem,A,U],by simp only[go_sem,A,U],by simp only[go_sem,A,U],by simp only[go_sem,Xaa,A,U],(by simp only[go_sem,A,U];rfl),by simp only[go_sem],R,O⟩,?_⟩;rintro ρ H ⟨k,j,hk,A,U,ab,Z,aa,e8,R,O⟩;simp only[go_sem,A,U,ab,Z,aa,e8];refine aA (fun T=>?_) (fun Y=>?_)
 ·have T:=ltB (by simpa using T);obtain⟨i,hi⟩:=aI T;have b1:=inB T;obtain⟨n,o,rfl,hn,ho⟩:=q3 i (Xac hi);have b2:=inB hn;have af:=Ci (p:=uP x ds) hi;have a0:=Nh (uP x ds) M k;have ao:HT x (n:Int)=o.penalty:=by unfold HT;rw[gS ho]
  simp only[go_sem,A,U,ab,Z,aa,e8,aC hi,b1,aC ho,b2];refine Aj O DF (mO _) (kY _ _) zv3 ?_;rw[Ab,hm];simp only[go_sem,A,U,ab,Z,aa,e8];have ae:(decide (o.penalty>=0)&&((OR ds (n:Int):Nat):Int) == 0)=uP x ds (n:Int):=by unfold uP;rw[ao,adL]
  refine aA (fun hb=>?_) (fun hb=>?_)
  ·rw[if_pos (by rw[<-ae];exact hb)]at af;have X:jm≠j:=fun e=>by subst e;rw[O]at R;cases R
   simp only[go_sem,A,U,ab,Z,aa,e8];refine bC R ⟨rfl,rfl⟩ ⟨rfl,trivial⟩ (by simp only[Xaa,Xag,List.length_nil];omega) (fun j' ah=>?_);have ac:jm≠j':=aV O ah;generalize hP:aH (aH _ j none) j' _=HP;replace O:=kpB hP ac (by first|exact X|exact ne_j_jm.symm) O;have Rn:HP j'=some (iG ((M.take (k+1)).filter (uP x ds))):=by rw[<-hP,aB];rw[af];exact congrArg (fun l=>some (⟨3,1,l⟩:Row)) (Xaw (f:=aQ) (l₁:=(M.take k).filter (uP x ds)) (l₂:=[(n:Int)])).symm
   clear hP ah;simp only[go_sem,A,U,ab,Z,aa,e8,Rn,O];simp only[aW k];exact⟨⟨k+1,j',T,rfl,rfl,Rn⟩,by simp only[aN];omega⟩
  ·rw[if_neg (by rw[<-ae,show(decide (o.penalty>=0)&&((OR ds (n:Int):Nat):Int) == 0)=false from hb];simp),Xbl]at af;simp only[go_sem,A,U,ab,Z,aa,e8,aW k];exact⟨⟨k+1,j,T,rfl,rfl,by rw[af];exact R,O⟩,by simp only[aN];omega⟩
 have Y:=geB hk (by simpa using Y);subst Y;rw[Xad]at R;simp only[go_sem,A,U,ab,Z,aa,e8];exact .row _ _ _ R (ConvE.refl _)
def KO{n:Int}(h0: -9223372036854775808<=n)(h1:n<=9223372036854775807):(zed n).size<=8194:=by have:=Go.Nu.jC (m:=n) (Gh (k:=20) (by omega) (by omega));omega
def E9(b:Bool):uF b=0\/uF b=1:=by cases b <;> simp[uF]
def ajD(k:Int)(n:Nat):lS k n=0\/lS k n=1:=by unfold lS;split <;> simp
def afB{x:Instance}{c:Column}{cuts:List Cut}{ds:List Decision}{n:Int}(h:n∈gG x c cuts ds):n=0\/n=1:=by
 unfold gG pC oK rK Ai at h;simp only[Xat,Xan]at h;rcases h with((⟨i,_,rfl⟩|⟨i,_,rfl⟩)|⟨i,_,rfl⟩)|⟨i,_,rfl⟩
 ·exact E9 _
 ·exact E9 _
 ·exact ajD _ _
 ·exact E9 _
def Kh(x:Instance)(c:Column):Bool:=decide (c.type<0)||decide (c.type>=(x.types.length:Int))||decide (c.set<=0)|| !decide (c.set.toNat &&& Ld x=c.set.toNat)
def Cq(x:Instance)(d:Nat)(cols:List Column)(cuts:List Cut)(ds:List Decision):Int:=
 if iS x ds≠0 then iS x ds else if Dec.kV (cuts.map (lG x d))≠0 then Dec.kV (cuts.map (lG x d))else if cols.any (Kh x)=true then 2 else 0
def auD(x:Instance)(d:Nat)(cols:List Column)(cuts:List Cut)(ds:List Decision)(ao:LoadsOk x d)(al:x.types≠[])(h:MIn x cuts ds)(hl:cols.length<=1048576)(hs:∀c∈cols,c.set<=9223372036854775807):
  PC prog 60 [.agg (aE x),.sl (cols.map bO),.sl (cuts.map fZ),.sl (ds.map aP)] (int (Cq x d cols cuts ds)):=by
 have h1:=h.orders;have h2:=h.types;have h3:=h.cl;have h4:=h.dl;unfold Cq;refine pcd func60 rfl rfl ?_;simp only[go_sem];refine aO (Dec.arL x ds h4) ?_;simp only[go_sem];refine aA (fun T=>?_) (fun T=>?_)
 ·rw[if_pos (by simpa using T)];simp only[go_sem];exact .refl _
 rw[if_neg (by simpa using T)];simp only[go_sem,Xaa];refine⟨fun ρ H=>∃(k:Nat),k<=cuts.length/\ρ 1=.sl (cols.map bO)/\ρ 4=.rp (aE x) 0/\ρ 22=.sl (cuts.map fZ)/\ρ 23=int (cuts.length:Nat)/\ρ 24=int k/\(∀e∈(cuts.map (lG x d)).take k,e=0),fun ρ _=>cuts.length-aU (ρ 24),⟨0,Xab _,by simp only[go_sem],by simp only[go_sem],by simp only[go_sem],by simp only[go_sem,Xaa],(by simp only[go_sem];rfl),by simp⟩,?_⟩;rintro ρ H ⟨k,hk,e1,E,F,O,J,hz⟩;simp only[go_sem,e1,E,F,O,J];refine aA (fun A=>?_) (fun U=>?_)
 ·have A:=ltB (by simpa using A);obtain⟨q,hq⟩:=aI A;have b1:=inB A;have hm:(cuts.map (lG x d))[k]?=some (lG x d q):=by rw[List.getElem?_map,hq];rfl
  simp only[go_sem,e1,E,F,O,J,aC hq,b1];refine aJ fun i11 ab=>?_
  simp only[go_sem,e1,E,F,O,J];refine bP ab (by simp[wR]) fun ag (an:ag i11=some (⟨102,3,[fZ q]⟩)) N=>?_
  clear N ab;simp only[go_sem,e1,E,F,O,J,an];refine aO (RQ x d q ao al) ?_;simp only[go_sem,e1,E,F,O,J];refine aA (fun T=>?_) (fun T=>?_)
  ·have he:=Dec.FJ hz hm T;rw[if_pos (by rw[he];simpa using T),he];simp only[go_sem];exact .refl _
  ·simp only[go_sem,e1,E,F,O,J,aW k];exact⟨⟨k+1,A,rfl,gP (p:=fun e:Int=>e=0) hm (by simpa using T) hz⟩,by simp only[aN];omega⟩
 have U:=geB hk (by simpa using U);subst U;rw[Xbb (by rw[Xaa];exact Xae _)]at hz;rw[if_neg (by rw[Dec.Dw hz];simp)];simp only[go_sem,e1,E,F,O,J];refine aO (S4 x h1) ?_;simp only[go_sem,e1,E,F,O,J,Xaa];refine⟨fun ρ H=>∃(k:Nat),k<=cols.length/\ρ 4=.rp (aE x) 0/\ρ 13=int (Ld x:Nat)/\ρ 37=.sl (cols.map bO)/\ρ 38=int (cols.length:Nat)/\ρ 39=int k/\(∀c∈cols.take k,Kh x c=false),fun ρ _=>cols.length-aU (ρ 39),⟨0,Xab _,by simp only[go_sem,E],by simp only[go_sem,E],by simp only[go_sem,E],by simp only[go_sem,Xaa,E],(by simp only[go_sem,E];rfl),by simp⟩,?_⟩;rintro ρ H ⟨k,hk,E,aa,Y,Z,X,hz⟩;simp only[go_sem,E,aa,Y,Z,X];refine aA (fun A=>?_) (fun U=>?_)
 ·have A:=ltB (by simpa using A);obtain⟨c,hc⟩:=aI A;have b1:=inB A;have ar:=hs c (Xac hc);simp only[go_sem,E,aa,Y,Z,X,aC hc,b1];refine aJ fun aq ac=>?_
  simp only[go_sem,E,aa,Y,Z,X];refine bP ac (by simp[gF]) fun af (ap:af aq=some (⟨156,7,[bO c]⟩)) N=>?_
  clear N ac;simp only[go_sem,E,aa,Y,Z,X,ap];have ae:(decide (c.type<0)||decide (c.type>=(x.types.length:Int))||decide (c.set<=0)||(sI .andNot .i64 c.set ((Ld x:Nat):Int) != 0))=Kh x c:=by
   unfold Kh;by_cases h0:c.set<=0
   ·rw[decide_eq_true h0];simp
   ·obtain⟨s,am⟩:=Int.eq_ofNat_of_zero_le (show 0<=c.set by omega);have ah:Ld x<2^63:=Xbh (EO _ _) (Xas (by decide) (by omega));rw[am,bne,J1 (by omega) ah,Xao]
  refine aA (fun T=>?_) (fun T=>?_)
  ·have T:Kh x c=true:=by rw[<-ae];exact T
   rw[if_pos (Xak.2 ⟨c,Xac hc,T⟩)];simp only[go_sem];exact .refl _
  ·have T:Kh x c=false:=by rw[<-ae];exact T
   simp only[go_sem,E,aa,Y,Z,X,aW k];exact⟨⟨k+1,A,rfl,gP (p:=fun c=>Kh x c=false) hc T hz⟩,by simp only[aN];omega⟩
 have U:=geB hk (by simpa using U);subst U;rw[Xad]at hz;have aj:¬cols.any (Kh x)=true:=by intro hc;obtain⟨c,ak,ai⟩:=Xak.1 hc;rw[hz c ak]at ai;cases ai
 rw[if_neg aj];simp only[go_sem,E,aa,Y,Z,X];exact .refl _
end Nu
namespace Nu
open Go.Proofs.Tryz
open Go.Nu
def aAu(s:ByteArray)(n:Int)(h:s.size<=1048576)(h0: -9223372036854775808<=n)(h1:n<=9223372036854775807)(A:(Af s).1.size<=1048576):PC prog 42 [str s,int n] (boo ((Af s).2 == 0&&decide (DW (Af s).1 (zed n)>=0))):=by refine pcd func42 rfl rfl ?_;simp only[go_sem];refine aO (aAF s h) ?_;simp only[go_sem];refine⟨_,fun _=>(Dq n h0 h1).q rfl,?_⟩;simp only[go_sem];refine⟨_,fun _=>(xD _ _ A (Xal (KO h0 h1) (by decide))).q rfl,?_⟩;simp only[go_sem];exact .refl _
end Nu
namespace Nu
open Go.Nu
def nG(n:Int):Prop:= -9223372036854775808<=n/\n<=9223372036854775807
structure LinB(p:PLin):Prop where
 rows:p.rows.length<=1048576
 cost:p.cost.length<=1048576
 coef:∀r∈p.rows,∀n∈r.coef,nG n
 right:∀r∈p.rows,nG r.right
structure VarB(v:List ByteArray):Prop where
 len:v.length<=1048576
 size:∀s∈v,s.size<=1048576
def Xi{ns:List Int}{xs:List ByteArray}:(gW ns xs).1.size<=8194:=by
 by_cases h:(gW ns xs).2=0
 ·exact BR (Um h)
 ·have : (gW ns xs).1 = emp := by
   unfold gW at h |-;split
   ·rfl
   ·split
    ·rfl
    ·next h1 h2=>
     rw[if_neg h1,if_neg h2]at h;have:∀(l:List (Int×ByteArray)) (t:ByteArray),(mV l t).2≠0->(mV l t).1=emp:=by
      intro l;induction l with
      | nil=>intro t h;exact absurd rfl h
      | cons p l ih=>
       intro t h;unfold mV at h |-;split
       ·rfl
       ·next h3=>
        rw[if_neg h3]at h;split
        ·rfl
        ·next A=>rw[if_neg A]at h;exact ih _ h
     exact this _ _ h
  rw[this];decide
end Nu
namespace Nu
open Go.Proofs.Tryz
open Go.Nu
def Ga(k:Int)(s:ByteArray):Bool:= !cO s||k == 1&&decide (DD s>0)||k == 3&&decide (DD s<0)
def Ba(p:PLin)(v:List ByteArray):Bool:=if v.length≠p.rows.length then false else !((p.rows.zip v).any fun q=>Ga q.1.kind q.2)
def YH(p:PLin)(v:List ByteArray)(hp:LinB p)(hv:VarB v):PC prog 69 [.agg (kA p),.sl (v.map Go.Aw.D.dZ)] (boo (Ba p v)):=by
 have ae:=hv.len;have af:=hp.rows;unfold Ba;refine pcd func69 rfl rfl ?_;simp only[go_sem];refine aA (fun h1=>?_) (fun h1=>?_)
 ·rw[if_pos (by simp at h1;omega)];simp only[go_sem];exact .refl _
 have hl:v.length=p.rows.length:=by simp at h1;omega
 rw[if_neg (by simpa using hl)];simp only[go_sem];refine⟨fun ρ H=>∃(k:Nat),k<=p.rows.length/\ρ 1=.sl (v.map Go.Aw.D.dZ)/\ρ 15=.sl (p.rows.map mE)/\ρ 16=int (p.rows.length:Nat)/\ρ 17=int k/\(∀q∈(p.rows.zip v).take k,Ga q.1.kind q.2=false),fun ρ _=>p.rows.length-aU (ρ 17),⟨0,Xab _,by simp only[go_sem],by simp only[go_sem],by simp only[go_sem,Xaa],(by simp only[go_sem];rfl),by simp⟩,?_⟩;rintro ρ H ⟨k,hk,O,E,A,F,hz⟩;simp only[go_sem,O,E,A,F];refine aA (fun J=>?_) (fun U=>?_)
 ·have J:=ltB (by simpa using J);obtain⟨r,hr⟩:=aI J;obtain⟨s,X⟩:=aI (show k<v.length by omega);have b1:=inB J;have Z:=inB (show k<v.length by omega);have aa:=hv.size s (Xac X);have Y:(p.rows.zip v)[k]?=some (r,s):=by rw[List.getElem?_zip_eq_some];exact⟨hr,X⟩
  simp only[go_sem,O,E,A,F,aC X,b1,aC hr,Z];refine aJ fun i6 T=>?_
  simp only[go_sem,O,E,A,F,aC X,Z];refine bP T (by simp[xW]) fun ac (R6:ac i6=some (⟨153,3,[mE r]⟩)) N=>?_
  clear N T;simp only[go_sem,O,E,A,F,aC X,Z,R6];refine aO (aaL s aa) ?_;simp only[go_sem,O,E,A,F,aC X,Z,R6];refine aO (wQ s aa) ?_;simp only[go_sem,O,E,A,F,aC X,Z,R6];have ab:Ga r.kind s=(!cO s||r.kind == 1&&decide (DD s>0)||r.kind == 3&&decide (DD s<0)):=rfl;refine aA (fun hb=>?_) (fun hb=>?_)
  ·rw[show((p.rows.zip v).any fun q=>Ga q.1.kind q.2)=true from Xak.2 ⟨(r,s),Xac Y,ab.trans hb⟩];simp only[go_sem];exact .refl _
  ·simp only[go_sem,O,E,A,F,aW k];exact⟨⟨k+1,J,rfl,gP (p:=fun q:PRow×ByteArray=>Ga q.1.kind q.2=false) Y (ab.trans hb) hz⟩,msr J⟩
 have U:=geB hk (by simpa using U);subst U;rw[Xbb (by rw[List.length_zip];omega)]at hz;rw[show((p.rows.zip v).any fun q=>Ga q.1.kind q.2)=false from Xap.2 fun q hq=>by rw[hz q hq];simp];simp only[go_sem,O,E,A,F];exact .refl _
def Bw(p:PLin)(i:Nat):List Int:=p.rows.map fun r=>r.coef.getD i 0
def FB(p:PLin)(v:List ByteArray)(lim:Nat->Int)(i:Nat):Bool:=(gW (Bw p i) v).2 != 0||decide (DW (gW (Bw p i) v).1 (zed (lim i))>0)
def D1(p:PLin)(v:List ByteArray)(lim:Nat->Int):Bool:= !((List.range p.cost.length).any (FB p v lim))
def Cu{ns:List Int}{xs:List ByteArray}:(gW ns xs).1.size<=8194:=Xi
def Zx(p:PLin)(v:List ByteArray)(lim:Nat->Int)(fn:AV)(g:Nat)(cap:List AV)(hp:LinB p)(ai:∀r∈p.rows,r.coef.length=p.cost.length)(hc:∀i,i<p.cost.length->nG (lim i))(hv:VarB v)
  (ao:LR fn=some (g,[],cap)) (hw:∀(G:Option Bool) (k:AV->Prop),bU G fn k=k fn) (an:aF prog g=true) (hg:∀i,i<p.cost.length->PC prog g (int (i:Nat)::cap) (int (lim i))):
  PC prog 70 [.agg (kA p),.sl (v.map Go.Aw.D.dZ),fn] (boo (D1 p v lim)):=by
 have az:=hp.cost;have aw:=hp.rows;unfold D1;refine pcd func70 rfl rfl ?_;simp only[go_sem];refine⟨fun ρ H=>∃(k:Nat),k<=p.cost.length/\ρ 1=.sl (v.map Go.Aw.D.dZ)/\ρ 2=fn/\ρ 3=.rp (kA p) 0/\ρ 15=int (p.cost.length:Nat)/\ρ 16=int k/\(∀q∈(List.range p.cost.length).take k,FB p v lim q=false),fun ρ _=>p.cost.length-aU (ρ 16),⟨0,Xab _,by simp only[go_sem],by simp only[go_sem],by simp only[go_sem],by simp only[go_sem,Xaa],(by simp only[go_sem];rfl),by simp⟩,?_⟩;rintro ρ H ⟨k,hk,O,F,J,E,A,hz⟩;simp only[go_sem,O,F,J,E,A];refine aA (fun U=>?_) (fun ag=>?_)
 ·have U:=ltB (by simpa using U);have al:(List.range p.cost.length)[k]?=some k:=List.getElem?_range U;have ap:=Cu (ns:=Bw p k) (xs:=v);have ab:=hc k U;have ax:=KO ab.1 ab.2;have ae:FB p v lim k=((gW (Bw p k) v).2 != 0||decide (DW (gW (Bw p k) v).1 (zed (lim k))>0)):=rfl;have am:=Ua (Bw p k) v (fun m hm=>by
   unfold Bw at hm;obtain⟨r,hr,rfl⟩:=Xan.1 hm;have aq:k<r.coef.length:=by rw[ai r hr];exact U
   have:=hp.coef r hr (r.coef.getD k 0) (by rw[List.getD,List.getElem?_eq_getElem aq];exact List.getElem_mem _);exact this) hv.len hv.size
  simp only[go_sem,O,F,J,E,A];refine⟨by omega,aJ fun j8 av=>?_⟩;simp only[go_sem,O,F,J,E,A];have R8:=aB H j8 (some (⟨3,1,List.replicate 0 [int 0]⟩:Row));generalize aH H j8 _=H8 at R8 |-;clear av;refine⟨fun ρ H=>∃m j:Nat,m<=p.rows.length/\ρ 1=.sl (v.map Go.Aw.D.dZ)/\ρ 2=fn/\ρ 3=.rp (kA p) 0/\ρ 7=int (k:Nat)/\ρ 15=int p.cost.length/\ρ 16=int (k:Nat)/\ρ 24=.sl (p.rows.map mE)/\ρ 25=int p.rows.length/\ρ 26=int (m:Nat)/\ρ 8=.os j/\H j=some (iG ((p.rows.take m).map fun r=>r.coef.getD k 0)),fun ρ _=>p.rows.length-aU (ρ 26),⟨0,j8,Xab _,by simp only[go_sem,O,F,J,E,A],by simp only[go_sem,O,F,J,E,A],by simp only[go_sem,O,F,J,E,A],by simp only[go_sem,O,F,J,E,A],by simp only[go_sem,O,F,J,E,A],by simp only[go_sem,O,F,J,E,A],by simp only[go_sem,O,F,J,E,A],by simp only[go_sem,O,F,J,E,A,Xaa],(by simp only[go_sem,O,F,J,E,A];rfl),by simp only[go_sem,O,F,J,E,A],R8⟩,?_⟩;clear O F J E A R8;rintro ρ H ⟨m,j,hm,O,F,J,e7,E,A,Y,Z,X,e8,R⟩;simp only[go_sem,O,F,J,e7,E,A,Y,Z,X,e8];refine tP hm (fun ac=>?_) (fun ar=>?_)
  ·obtain⟨r,hr⟩:=aI ac;have b1:=inB ac;have a0:=ai r (Xac hr);obtain⟨c,aj⟩:=aI (show k<r.coef.length by omega);have b2:=inB (show k<r.coef.length by omega);have hs:=aZ hr;simp only[go_sem,O,F,J,e7,E,A,Y,Z,X,e8,aC hr,b1];refine aJ fun au aa=>?_
   simp only[go_sem,O,F,J,e7,E,A,Y,Z,X,e8,R];refine bP aa (by simp[xW]) fun af (ak:af au=some (⟨153,3,[mE r]⟩)) N=>?_
   replace R:=N R;obtain⟨ah,R⟩:=R;clear N aa;simp only[go_sem,O,F,J,e7,E,A,Y,Z,X,e8,ak,R];refine aA (fun hb=>by simp at hb;omega) (fun _=>?_);simp only[go_sem,O,F,J,e7,E,A,Y,Z,X,e8,ak,aC aj,b2];refine bC R ⟨rfl,rfl⟩ ⟨rfl,trivial⟩ (by simp only[Xaa,Xav,Xag,List.length_nil];omega) (fun j' ay=>?_);simp only[go_sem,O,F,J,e7,E,A,Y,Z,X,e8,aW m];refine⟨⟨m+1,j',ac,rfl,rfl,?_⟩,msr ac⟩;rw[hs,aB,Xaw];simp[iG,List.getD,aj,aQ]
  ·subst ar;rw[Xad]at R;have Rc:H j=some (iG (Bw p k)):=R;generalize Bw p k=C at *;simp only[go_sem,O,F,J,e7,E,A,e8];refine dS.use ⟨[.sl (C.map aQ),.sl (v.map Go.Aw.D.dZ)],.cons _ _ _ _ (.row _ _ _ Rc (ConvE.refl _)) (ConvL.refl _),am,rfl⟩ ?_;generalize gW C v=T at *;obtain⟨s,e⟩:=T;simp only at ae ap;simp only[go_sem,O,F,J,e7,E,A,e8,hw,ao];refine⟨an,_,fun _=>(hg k U).q rfl,?_⟩;simp only[go_sem,O,F,J,e7,E,A,e8];refine⟨_,fun _=>(Dq (lim k) ab.1 ab.2).q rfl,?_⟩;simp only[go_sem,O,F,J,e7,E,A,e8];refine⟨_,fun _=>(xD s (zed (lim k)) (by omega) (by omega)).q rfl,?_⟩;simp only[go_sem,O,F,J,e7,E,A,e8];refine aA (fun hb=>?_) (fun hb=>?_)
   ·rw[show(List.range p.cost.length).any (FB p v lim)=true from Xak.2 ⟨k,Xac al,by rw[ae];exact hb⟩];simp only[go_sem];exact .refl _
   ·simp only[go_sem,O,F,J,E,A,aW k];exact⟨⟨k+1,U,rfl,gP (p:=fun q=>FB p v lim q=false) al (by rw[ae];exact hb) hz⟩,msr U⟩
 have ag:=geB hk (by simpa using ag);subst ag;rw[Xbb (by rw[Xck];exact Xae _)]at hz;rw[show(List.range p.cost.length).any (FB p v lim)=false from Xap.2 fun q hq=>by rw[hz q hq];simp];simp only[go_sem,O,F,J,E,A];exact .refl _
def mH(p:PLin):List Int:=p.rows.map (·.right)
def aaN(p:PLin)(v:List ByteArray)(hp:LinB p)(hv:VarB v):PC prog 72 [.agg (kA p),.sl (v.map Go.Aw.D.dZ)] (.tup [str (gW (mH p) v).1,boo ((gW (mH p) v).2 == 0)]):=by
 have af:=hp.rows;refine pcb (fun t=>t == 6) func72 rfl rfl ?_;simp only[go_sem];refine fR fun j ac ab (R:ac j=some (iG [])) N=>?_
 clear N ab;simp only[go_sem,R];refine⟨fun ρ H=>∃(k:Nat) (j:Nat),k<=p.rows.length/\ρ 1=.sl (v.map Go.Aw.D.dZ)/\ρ 12=.sl (p.rows.map mE)/\ρ 13=int (p.rows.length:Nat)/\ρ 14=int k/\ρ 6=.os j/\H j=some (iG ((p.rows.take k).map (·.right))),fun ρ _=>p.rows.length-aU (ρ 14),⟨0,j,Xab _,by simp only[go_sem],by simp only[go_sem],by simp only[go_sem,Xaa],(by simp only[go_sem];rfl),by simp only[go_sem],R⟩,?_⟩;rintro ρ H ⟨k,j,hk,X,J,E,F,Y,R⟩;simp only[go_sem,X,J,E,F,Y];refine aA (fun A=>?_) (fun T=>?_)
 ·have A:=ltB (by simpa using A);obtain⟨r,U⟩:=aI A;have b1:=inB A;have hs:(p.rows.take (k+1)).map (·.right)=(p.rows.take k).map (·.right)++[r.right]:=by rw[aZ U,Xaw];rfl
  have ag:((p.rows.take k).map (·.right)).length<=k:=by rw[Xaa,Xav];omega
  generalize hP:(p.rows.take k).map (·.right)=P at *;simp only[go_sem,X,J,E,F,Y,aC U,b1];refine aJ fun i8 O=>?_
  simp only[go_sem,X,J,E,F,Y,aC U,b1,R];refine bP O (by simp[xW]) fun Z (R8:Z i8=some (⟨153,3,[mE r]⟩)) N=>?_
  replace R:=N R;obtain⟨aa,R⟩:=R;clear N O;simp only[go_sem,X,J,E,F,Y,aC U,b1,R8,R];refine bC R ⟨rfl,rfl⟩ ⟨rfl,trivial⟩ (by simp only[Xaa,Xag,List.length_nil];omega) (fun j' ae=>?_);simp only[go_sem,X,J,E,F,Y,aW k];refine⟨⟨k+1,j',A,rfl,rfl,?_⟩,msr A⟩;rw[hs];exact pB rfl
 have T:=geB hk (by simpa using T);subst T;rw[Xad]at R;simp only[go_sem,X,J,E,F,Y];refine dS.use ⟨[.sl ((mH p).map aQ),.sl (v.map Go.Aw.D.dZ)],.cons _ _ _ _ (.row _ _ _ R (ConvE.refl _)) (ConvL.refl _),Ua (mH p) v (fun n hn=>by obtain⟨r,U,rfl⟩:=Xan.1 hn;exact hp.right r U) hv.len hv.size,rfl⟩ ?_;simp only[go_sem];exact .refl _
def kK(p:PLin)(v:List ByteArray):ByteArray×Bool:=
 if(!Ba p v|| !D1 p v fun i=>p.cost.getD i 0)=true then(emp,false)else if(gW (mH p) v).2=0 then((gW (mH p) v).1,true)else(emp,false)
def tQ(p:PLin)(v:List ByteArray):Bool:=
 if(!Ba p v|| !D1 p v fun _=>0)=true then false else((gW (mH p) v).2 == 0&&decide (DD (gW (mH p) v).1>0))
def aAe(p:PLin)(i:Nat)(A:i<p.cost.length):PC prog 74 [int (i:Nat),.rp (kA p) 0] (int (p.cost.getD i 0)):=by obtain⟨n,E⟩:=aI A;have b:=inB A;refine pcd func74 rfl rfl ?_;simp only[go_sem];simp only[aC E,go_sem,b,Xaa];rw[show p.cost.getD i 0=n by rw[List.getD,E];rfl];exact .refl _
def azR(i:Nat):PC prog 71 [int (i:Nat)] (int 0):=by refine pcd func71 rfl rfl ?_;simp only[go_sem];exact .refl _
structure LinW(p:PLin):Prop where
 b:LinB p
 full:∀r∈p.rows,r.coef.length=p.cost.length
 cost:∀i,i<p.cost.length->nG (p.cost.getD i 0)
def apU(p:PLin)(v:List ByteArray)(E:LinW p)(F:VarB v):PC prog 41 [.agg (kA p),.sl (v.map Go.Aw.D.dZ)] (.tup [str (kK p v).1,boo (kK p v).2]):=by
 have J:=Zx p v (fun i=>p.cost.getD i 0) (.fn 74 [.rp (kA p) 0]) 74 [.rp (kA p) 0] E.b E.full E.cost F rfl (fun _ _=>rfl) (by kernel_rfl) (fun i O=>aAe p i O);unfold kK;refine pcd func41 rfl rfl ?_;simp only[go_sem];refine aO (YH p v E.b F) ?_;simp only[go_sem];refine⟨_,fun _=>J.q rfl,?_⟩;simp only[go_sem];refine aA (fun A=>?_) (fun A=>?_)
 ·rw[if_pos A];simp only[go_sem];exact .refl _
 rw[if_neg (by rw[A];simp)];simp only[go_sem];refine aO (aaN p v E.b F) ?_;simp only[go_sem];refine aA (fun A=>?_) (fun A=>?_)
 ·rw[if_neg (by simpa using A)];simp only[go_sem];exact .refl _
 ·rw[if_pos (by simpa using A)];simp only[go_sem];exact .refl _
def agV(p:PLin)(v:List ByteArray)(A:LinW p)(F:VarB v):PC prog 40 [.agg (kA p),.sl (v.map Go.Aw.D.dZ)] (boo (tQ p v)):=by
 have J:=Zx p v (fun _=>0) (.v (.func (.func 71) #[] #[])) 71 [] A.b A.full (fun _ _=>⟨by decide,by decide⟩) F rfl (fun _ _=>rfl) (by kernel_rfl) (fun i T=>azR i);have O:=Cu (ns:=mH p) (xs:=v);unfold tQ;refine pcd func40 rfl rfl ?_;simp only[go_sem];refine aO (YH p v A.b F) ?_;simp only[go_sem];refine⟨_,fun _=>J.q rfl,?_⟩;simp only[go_sem];refine aA (fun E=>?_) (fun E=>?_)
 ·rw[if_pos E];simp only[go_sem];exact .refl _
 rw[if_neg (by rw[E];simp)];simp only[go_sem];refine aO (aaN p v A.b F) ?_;simp only[go_sem];refine⟨_,fun _=>(aaL _ (by omega)).q rfl,?_⟩;simp only[go_sem];exact .refl _
end Nu
namespace Sq
open Go.Proofs.Tryz
open Go.Proofs.YthephioccidfgaaGreatDoor.Nu (ltB geB)
open Mv (bZ cL aR)
def agO(s:Score):Int:=IntKind.i64.wrap (IntKind.i64.wrap (IntKind.i64.wrap (IntKind.i64.wrap (IntKind.i64.wrap (IntKind.i64.wrap (s.cost*16)+s.moved)*16)+s.other)*65536)+s.work)
def fV(s:Score):Int×Int:=if(decide (s.cost<0)||decide (s.moved<0)||decide (s.other<0)||decide (s.work<0))=true then(0,2)
 else if(decide (s.cost>1073741824)||decide (s.moved>=16)||decide (s.other>=16)||decide (s.work>=65536))=true then(0,4)else(agO s,0)
def BN(s:Score):PC prog 46 [.agg (bE s)] (.agg (bE s)):=by
 refine pcd func46 rfl rfl ?_;simp only[go_sem];refine aJ fun j A=>?_
 simp only[go_sem];refine aM (aB _ _ _) (by simp) ?_;simp only[go_sem];exact .refl _
def CQ(s:Score):PC prog 21 [.agg (bE s)] (.tup [int (fV s).1,int (fV s).2]):=by
 refine pcd func21 rfl rfl ?_;simp only[go_sem];refine aO (BN s) ?_;simp only[go_sem];refine aJ fun j F=>?_
 simp only[go_sem];refine bP F (by simp[cE]) fun T (R:T j=some (⟨131,4,[bE s]⟩)) N=>?_
 clear N F;simp only[go_sem,R];refine⟨fun ρ H=>∃(k:Nat),k<=4/\ρ 1=.rp (bE s) 0/\ρ 9=.agg (bE s)/\ρ 10=int k/\(∀e∈[s.cost,s.moved,s.other,s.work].take k,¬e<0),fun ρ _=>4-aU (ρ 10),⟨0,Xab _,rfl,rfl,(by rfl),by simp⟩,?_⟩;rintro ρ H ⟨k,hk,O,X,E,hz⟩;simp only[go_sem,E];refine aA (fun A=>?_) (fun J=>?_)
 ·have A:k<4:=by grind
  obtain⟨e,Y⟩:=aI (l:=[s.cost,s.moved,s.other,s.work]) (show k<[s.cost,s.moved,s.other,s.work].length from A);have Z:(bE s).getD k .any=int e:=by
   have:bE s=[s.cost,s.moved,s.other,s.work].map fun n=>int n:=rfl
   grind
  simp only[go_sem,X,E];refine⟨by omega,by omega,?_⟩;rw[Nat.mul_one,Z];simp only[go_sem];apply aA <;> intro U
  ·simp only[go_sem];have hm:=Xac Y;simp only[Xba,List.not_mem_nil,or_false]at hm;have e:fV s=(0,2):=if_pos (by grind);rw[e];exact .refl _
  ·simp only[go_sem,O,X,E,aW k];refine⟨⟨k+1,A,rfl,aR (p:=fun e:Int=>¬e<0) Y (by grind) hz⟩,msr A⟩
 have J:k=4:=by grind
 subst J;have U:¬(decide (s.cost<0)||decide (s.moved<0)||decide (s.other<0)||decide (s.work<0))=true:=by simp_all
 unfold fV;rw[if_neg U];simp only[go_sem,O,];apply aA <;> intro hc
 ·rw[if_pos hc];simp only[go_sem];exact .refl _
 rw[if_neg (by grind)];simp only[go_sem,O,];exact .refl _
def cY(x:Instance)(r:Route):Int×Int:=if((cG x r).2.2 != 0)=true then(0,(cG x r).2.2)else fV (cG x r).2.1
def alO(x:Instance)(r:Route)(hx:EvalB x)(hr:r.visits.length<=1048575):PC prog 182 [.agg (aE x),.agg (bM r)] (.tup [int (cY x r).1,int (cY x r).2]):=by
 have hw:=CQ (cG x r).2.1;refine pcd func182 rfl rfl ?_;simp only[go_sem];refine aO (DV x r hx hr) ?_;simp only[go_sem];refine fR fun X O Z (A:O X=some (hY (cH aS))) N=>?_
 simp only[go_sem];refine fR fun U F Y (T:F U=some (pW aX)) N=>?_
 replace A:=N A;obtain⟨E,A⟩:=A;simp only[go_sem];refine aM A (by simp[fW]) ?_;generalize J:aH _ X _=HP;replace T:=kpA J (by omega) T;replace A:HP X=some (hY (cH (cG x r).1)):=upS J;simp only[go_sem];refine aM T (by simp[cE]) ?_;generalize J:aH _ U _=HP;replace A:=kpA J (by omega) A;replace T:HP U=some (pW (cG x r).2.1):=upS J;simp only[go_sem];unfold cY;apply aA <;> intro hb
 ·rw[if_pos hb];simp only[go_sem];exact .refl _
 ·rw[if_neg (by grind)];simp only[go_sem,T];refine aO hw ?_;simp only[go_sem];exact .refl _
structure Sta where
 ready:Int
 driven:Int
def iD(s:Sta):List AV:=[int s.ready,int s.driven]
def KA(c:Sta):(iD c).length=2:=(rfl)
def aoV(c:Sta):(iD c).getD 0 .any=int c.ready:=(rfl)
def alC(c:Sta):(iD c).getD 1 .any=int c.driven:=(rfl)
def VM(c:Sta):(iD c).take 2=iD c:=(rfl)
attribute [go_sem] KA aoV alC VM
abbrev pS(l:List Sta):Row:=⟨280,2,l.map iD⟩
def Fw(s u:Sta):Bool:=s.ready == u.ready&&(s.driven == u.driven&&true)
def anA(l:List Sta)(v:Sta)(Z:l.length<=1048576):PC prog 238 [.sl (l.map iD),.agg (iD v)] (int (uX (Fw v) l 0)):=by
 refine pcd func238 rfl rfl ?_;simp only[go_sem];refine⟨fun ρ _=>∃k:Nat,k<=l.length/\ρ 0=.sl (l.map iD)/\ρ 3=.rp (iD v) 0/\ρ 7=int l.length/\ρ 8=int k/\∀u∈l.take k,Fw v u=false,fun ρ _=>l.length-aU (ρ 8),⟨0,Xab _,rfl,rfl,rfl,rfl,by simp⟩,?_⟩;rintro ρ H ⟨k,X,h0,h3,T,J,O⟩;simp only[go_sem,T,J];refine aA (fun A=>?_) (fun E=>?_)
 ·have A:=bF A;obtain⟨u,U⟩:=aI A;have Y:=inB A;simp only[go_sem,J];refine kB ?_;simp only[go_sem,h0,h3,aC U,Y];apply aA <;> intro F
  ·have F:Fw v u=true:=F;simp only[go_sem]
   grind[bZ,nQ]
  ·have F:Fw v u=false:=F;simp only[go_sem,h0,h3,T,J,aW k];exact⟨⟨k+1,A,rfl,aR (p:=fun u=>Fw v u=false) U F O⟩,msr A⟩
 ·have E:=bG X E;subst E;rw[Xad]at O;simp only[go_sem]
  grind[bZ,lO]
def HZ(l:List Sta)(v:Sta)(A:l.length<=1048576):PC prog 218 [.sl (l.map iD),.agg (iD v)] (boo (l.any (Fw v))):=by refine pcd func218 rfl rfl ?_;simp only[go_sem];refine aO (anA l v A) ?_;simp only[go_sem];simp[cL,qS]
def xL(l:List Sta)(s:Sta):List Sta:=if l.any (Fw s)=true then l else l++[s]
def adR(l:List Sta)(s:Sta):(xL l s).length<=l.length+1:=by grind[xL]
def aiL(l:List Visit)(A:l.length<=1048576):PC prog 187 [.sl (l.map aL)] (.cl (l.map aL)):=by refine pcd func187 rfl rfl ?_;simp only[go_sem];exact .refl _
def aAv(s:Sta):NC prog 188 [.v (.slice none 0 0),.agg (iD s)] (pS [s]) .os:=by
 refine ncb (fun _=>false) func188 rfl rfl ?_;simp only[go_sem];refine bK.nil0 (PC.use (HZ [] s (by decide)) ?_);simp only[go_sem];refine aA (fun A=>(by cases A)) (fun _=>?_);simp only[go_sem];refine aiS axT (.inl rfl) (by simp) (by simp only[go_sem]) (by simp) fun j E=>?_
 simp only[go_sem]
 grind[aB]
abbrev axB(j:Nat)(H:aG)(j':Nat)(H':aG):Prop:=∀k row,k≠j->H k=some row->k≠j'/\H' k=some row
def WM(l:List Sta)(s:Sta){H:aG}{j:Nat}(R:H j=some (pS l))(T:l.length<=1000000){K:AV->aG->Prop}(E:∀j' H',H' j'=some (pS (xL l s))->axB j H j' H'->K (.os j') H'):
  bK prog 188 [.os j,.agg (iD s)] H K:=by
 refine bK.body (c:=f188.body.getD .skip) (fun _=>false) mixed func188 rfl (by kernel_rfl) ?_;unfold f188;simp only[Xbr];simp only[go_sem];refine dS.use ⟨[.sl (l.map iD),.agg (iD s)],.cons _ _ _ _ (.row _ _ _ R (ConvE.refl _)) (ConvL.refl _),HZ l s (by omega),rfl⟩ ?_;simp only[go_sem];refine aA (fun A=>?_) (fun A=>?_)
 ·simp only[go_sem];refine E j H (by simp_all[xL]) fun k row F h=>⟨F,h⟩
 ·simp only[go_sem];refine bC R ⟨rfl,rfl⟩ (by simp only[go_sem]) (by grind) (fun J O=>?_);simp only[go_sem];refine E J _ ?_ fun k row F h=>?_
  ·rw[aB];unfold xL;rw[if_neg (by rw[A];simp)];refine congrArg (fun l=>some (⟨280,2,l⟩:Row)) ?_;rw[Xaw];rfl
  grind[aD]
structure Sr where
 x:Instance
 kind:Nat
 set:Int
 total:Nat
 best:Column
 found:Bool
def yB(s:Sr):List AV:=aE s.x++([int (s.kind:Nat),int s.set,int (s.total:Nat)]++(bO s.best++[boo s.found]))
section
variable(s:Sr)
theorem L4:(yB s).length=17:=(rfl)
def auF:(yB s).getD 2 .any=.sl (s.x.types.map bB):=(rfl)
def atG:(yB s).getD 3 .any=.sl (s.x.orders.map aY):=(rfl)
def avG:(yB s).getD 6 .any=int (s.kind:Nat):=(rfl)
def atX:(yB s).getD 7 .any=int s.set:=(rfl)
def arV:(yB s).getD 8 .any=int (s.total:Nat):=(rfl)
def aqG:(yB s).getD 16 .any=boo s.found:=(rfl)
def awM:(yB s).take 6=aE s.x:=(rfl)
def agU:(yB s).take 2=bA s.x.net:=(rfl)
def Vf:((yB s).drop 9).take 7=bO s.best:=(rfl)
def agR:(yB s).take 17=yB s:=(rfl)
end
attribute [go_sem] L4 auF atG avG atX arV aqG awM agU Vf agR
abbrev lR(s:Sr):Row:=⟨236,17,[yB s]⟩
def mW(t:VType)(l:List Sta)(d dr:Int):List Sta:=xL (xL l ⟨d,dr⟩) ⟨W (d+t.rest),0⟩
theorem KZ(t:VType)(l:List Sta)(d dr:Int):(mW t l d dr).length<=l.length+2:=by grind[mW,xL]
def arE(s:Sr)(t:VType)(l:List Sta)(d dr:Int){H:aG}{E j:Nat}(ht:s.x.types[s.kind]?=some t)(RS:H E=some (lR s))(R:H j=some (pS l))(hl:l.length<=900000){K:AV->aG->Prop}
  (hK:∀j' H',H' j'=some (pS (mW t l d dr))->axB j H j' H'->K (.os j') H'):bK prog 144 [.op E 0 0,.os j,int d,int dr] H K:=by
 have J:E≠j:=fun e=>by grind
 have hk:=(List.getElem?_eq_some_iff.1 ht).1;have b1:=inB hk;have g1:=aC (f:=bB) ht;have h1:=adR l ⟨d,dr⟩;refine bK.body (c:=f144.body.getD .skip) (fun _=>false) mixed func144 rfl (by kernel_rfl) ?_;unfold f144;simp only[Xbr];simp only[go_sem];refine WM l ⟨d,dr⟩ R (by omega) fun Y H1 R1 U=>?_
 obtain⟨n1,O⟩:=U E _ J RS;simp only[go_sem];refine jI [E] [(0,true),(1,true),(2,true),(3,true),(4,true),(5,true),(6,true),(7,true),(8,true),(9,true),(10,true),(11,true),(12,true),(13,true),(14,true),(15,true),(16,false),(17,true)] (by grind) (by kernel_rfl) fun Hp Hr hp hr _ aa=>?_
 have A:=(hp E (by simp)).trans O;simp only[go_sem,g1,b1,A];have F:Hr Y=some (pS (xL l ⟨d,dr⟩)):=(hr Y (by grind)).trans R1;refine WM (xL l ⟨d,dr⟩) ⟨W (d+t.rest),0⟩ F (by omega) fun X H2 R2 ae=>?_
 simp only[go_sem];refine fun h0 Hm ac T=>?_
 have af:X≠E:=fun e=>by grind
 simp only[go_sem];refine hK X Hm ((T X (by grind)).trans R2) fun k row ab Z=>?_
 grind
def aiF(s:Sr)(t:VType)(d dr:Int){H:aG}{F:Nat}(Y:s.x.types[s.kind]?=some t)(RS:H F=some (lR s)){K:AV->aG->Prop}
  (hK:∀j' H',H' j'=some (pS (mW t [] d dr))->(∀k row,H k=some row->k≠j'/\H' k=some row)->K (.os j') H'):bK prog 144 [.op F 0 0,.v (.slice none 0 0),int d,int dr] H K:=by
 have hk:=(List.getElem?_eq_some_iff.1 Y).1;have b1:=inB hk;have Z:=aC (f:=bB) Y;refine bK.body (c:=f144.body.getD .skip) (fun _=>false) mixed func144 rfl (by kernel_rfl) ?_;unfold f144;simp only[Xbr];simp only[go_sem];refine NC.use (aAv ⟨d,dr⟩) fun A af=>?_
 have n1:F≠A:=fun e=>by grind
 have O:aH H A (some (pS [⟨d,dr⟩])) F=some (lR s):=(aD _ _ _ _ n1).trans RS;have R1:aH H A (some (pS [⟨d,dr⟩])) A=some (pS [⟨d,dr⟩]):=aB _ _ _;have ag:∀k row,H k=some row->k≠A/\aH H A (some (pS [⟨d,dr⟩])) k=some row:=fun k row h=>by grind[aD]
 generalize aH H A (some (pS [⟨d,dr⟩]))=H1 at *;simp only[go_sem];refine jI [F] [(0,true),(1,true),(2,true),(3,true),(4,true),(5,true),(6,true),(7,true),(8,true),(9,true),(10,true),(11,true),(12,true),(13,true),(14,true),(15,true),(16,false),(17,true)] (by grind) (by kernel_rfl) fun Hp Hr hp hr _ aa=>?_
 have E:=(hp F (by simp)).trans O;simp only[go_sem,Z,b1,E];have J:Hr A=some (pS [⟨d,dr⟩]):=(hr A (by grind)).trans R1;refine WM [⟨d,dr⟩] ⟨W (d+t.rest),0⟩ J (by simp) fun U H2 R2 ac=>?_
 simp only[go_sem];refine fun h0 Hm ab T=>?_
 have ae:U≠F:=fun e=>by grind
 simp only[go_sem];refine hK U Hm ((T U (by grind)).trans R2) fun k row X=>?_
 grind
def Fg(n:Network)(t:VType)(src:Int)(st:Stop)(out:List Sta)(a:Sta):List Sta:=
 let g:=fB n t.profile src st.place a.ready
 if(g.2.2 != 0||decide (W (W (a.driven+g.1)-a.ready)>t.drive))=true then out
 else if((Rx.nB st g.1).2 != 0)=true then out
 else mW t out (Rx.nB st g.1).1 (W (W (a.driven+g.1)-a.ready))
def yI(n:Network)(t:VType)(src:Int)(st:Stop)(l:List Sta):List Sta:=l.foldl (Fg n t src st) []
def ahP(n:Network)(t:VType)(src:Int)(st:Stop)(out:List Sta)(a:Sta):(Fg n t src st out a).length<=out.length+2:=by grind[Fg,KZ]
def DZ(n:Network)(t:VType)(src:Int)(st:Stop)(l:List Sta):∀k,((l.take k).foldl (Fg n t src st) []).length<=2*k
 | 0=>by simp
 | k+1=>by
  have h:=DZ n t src st l k;by_cases E:k<l.length
  ·obtain⟨c,A⟩:=aI E;rw[nL A];exact Xal (ahP n t src st _ c) (by omega)
  ·rw[Xbb (by omega)];rw[Xbb (by omega)]at h;omega
def aoG(H0:aG)(js:Nat)(s:Sr)(t:VType)(hj:H0 js=some (lR s))(ht:s.x.types[s.kind]?=some t)(src:Int)(l:List Sta)(st:Stop)(hn:NetOk s.x.net)(hl:l.length<=400000):
  LC prog 186 [.op js 0 0,int src,.sl (l.map iD),.agg (eQ st)] H0 (.sl ((yI s.x.net t src st l).map iD)):=by
 have hk:=(List.getElem?_eq_some_iff.1 ht).1;have b1:=inB hk;have g1:=aC (f:=bB) ht;refine LC.body (c:=f186.body.getD .skip) (fun t=>t == 10) mixed func186 rfl (by kernel_rfl) ?_;unfold f186;simp only[Xbr];simp only[go_sem];have U:=Sup.refl H0;have af:=U.at hj;refine jI [js] [(0,true),(1,true),(2,true),(3,true),(4,true),(5,true),(6,true),(7,true),(8,true),(9,true),(10,true),(11,false),(12,false)] (by grind) (by kernel_rfl) fun Hp Hr hp hr _ aw=>?_
 have X:=(hp js (by simp)).trans af;simp only[go_sem,g1,b1,X];refine aJ fun i9 ax=>?_
 simp only[go_sem];refine aM (aB _ _ _) (by simp[lY]) ?_;refine sU hr ax fun ar=>?_
 have aj:=U.none ar;generalize ai:aH (aH _ i9 _) i9 _=HGi9;replace U:=Sup.eq ((U.upd aj _).upd aj _) ai;have Z:HGi9 i9=some ((⟨121,14,[bB t]⟩:Row)):=by rw[<-ai,aB];try rfl
 simp only[go_sem];refine aJ fun j ak=>?_
 have aa:i9≠j:=aV Z ak;have au:=U.none ak;generalize ah:aH _ j _=HGj;replace U:=Sup.eq (U.upd au _) ah;replace Z:=(congrFun ah.symm i9).trans ((aD _ _ _ _ aa).trans Z);have R:HGj j=some (pS []):=by rw[<-ah,aB];try rfl
 clear ah ak;simp only[go_sem,R,Z];refine⟨fun ρ H=>∃(k:Nat) (j:Nat),k<=l.length/\ρ 0=.op js 0 0/\ρ 1=int src/\ρ 7=.rp (eQ st) 0/\ρ 9=.op i9 0 0/\ρ 28=.sl (l.map iD)/\ρ 29=int (l.length:Nat)/\ρ 30=int k/\ρ 10=.os j/\Sup H0 H/\H0 j=none/\H i9=some (⟨121,14,[bB t]⟩:Row)/\H j=some (pS ((l.take k).foldl (Fg s.x.net t src st) [])),fun ρ _=>l.length-aU (ρ 30),⟨0,j,Xab _,by simp only[go_sem],by simp only[go_sem],by simp only[go_sem],by simp only[go_sem],by simp only[go_sem],by simp only[go_sem,Xaa],(by simp only[go_sem];rfl),by simp only[go_sem],U,au,Z,R⟩,?_⟩;rintro ρ H ⟨k,j,hk,e0,e1,e7,e9,ae,ag,ab,ac,U,nj,Z,R⟩;simp only[go_sem,ag,ab];refine aA (fun J=>?_) (fun aq=>?_)
 ·have J:=ltB (by omega);obtain⟨a,ha⟩:=aI J;have d1:=inB J;have hs:=nL (f:=Fg s.x.net t src st) (b:=([]:List Sta)) ha;have ay:=DZ s.x.net t src st l k;generalize (l.take k).foldl (Fg s.x.net t src st) []=out at *;have av:i9≠j:=fun e=>by grind
  simp only[go_sem,ae,ab,aC ha,d1];refine aJ fun T O=>?_
  have F:j≠T:=aV R O;have E:i9≠T:=aV Z O;simp only[go_sem];refine aM (aB _ _ _) (by simp[KA]) ?_;have Y:=U.none O;generalize A:aH (aH _ T _) T _=HGi12;replace U:=Sup.eq ((U.upd Y _).upd Y _) A;replace R:=kpR A F F R;replace Z:=kpR A E E Z;have ao:HGi12 T=some ((⟨280,2,[iD a]⟩:Row)):=by rw[<-A,aB];try rfl
  clear A O;simp only[go_sem];have af:=U.at hj;have ne:js≠T:=Sup.ne (Sup.refl H0) hj Y;refine jI [js,i9,T] [(0,true),(1,true),(2,true),(3,true),(4,true),(5,true),(6,true),(7,true),(8,true),(9,true),(10,true),(11,true),(12,false),(13,true),(14,true),(15,true),(16,true),(17,true),(18,true),(19,true)] (by grind) (by kernel_rfl) fun Hp Hr hp hr _ aw=>?_
  have X:=(hp js (by simp)).trans af;have ap:=(hp i9 (by simp)).trans Z;have am:=(hp T (by simp)).trans ao;simp only[go_sem,e0,e1,e7,e9,X,ap,am];refine aO (apH s.x.net t.profile src st.place a.ready hn) ?_;simp only[go_sem];refine qF hr ?_;have ha:Fg s.x.net t src st out a=(if((fB s.x.net t.profile src st.place a.ready).2.2 != 0||decide (W (W (a.driven+(fB s.x.net t.profile src st.place a.ready).1)-a.ready)>t.drive))=true then out
   else if((Rx.nB st (fB s.x.net t.profile src st.place a.ready).1).2 != 0)=true then out
   else mW t out (Rx.nB st (fB s.x.net t.profile src st.place a.ready).1).1 (W (W (a.driven+(fB s.x.net t.profile src st.place a.ready).1)-a.ready))):=rfl
  rw[ha]at hs;generalize fB s.x.net t.profile src st.place a.ready=g at *;simp only[go_sem,e9,Z,ao];apply aA <;> intro c1
  ·have c1:(g.2.2 != 0||decide (W (W (a.driven+g.1)-a.ready)>t.drive))=true:=c1;rw[if_pos c1]at hs;simp only[go_sem,e0,e1,e7,e9,ae,ag,ab,ac,aW k];refine⟨⟨k+1,j,J,rfl,rfl,U,nj,Z,?_⟩,msr J⟩
   grind
  have c1:(g.2.2 != 0||decide (W (W (a.driven+g.1)-a.ready)>t.drive))=false:=c1;rw[if_neg (fun h=>Bool.noConfusion (c1.symm.trans h))]at hs;simp only[go_sem,e7,];refine aO (Rx.amX st g.1) ?_;simp only[go_sem];generalize Rx.nB st g.1=dp at *;apply aA <;> intro c2
  ·rw[if_pos c2]at hs;simp only[go_sem,e0,e1,e7,e9,ae,ag,ab,ac,aW k];refine⟨⟨k+1,j,J,rfl,rfl,U,nj,Z,?_⟩,msr J⟩
   grind
  rw[if_neg (fun h=>Bool.noConfusion (c2.symm.trans h))]at hs;simp only[go_sem,e0,ac,ao];refine arE s t out dp.1 (W (W (a.driven+g.1)-a.ready)) ht af R (by omega) fun j2 H2 R2 an=>?_
  simp only[go_sem,e0,e1,e7,e9,ae,ag,ab,aW k];refine⟨⟨k+1,j2,J,rfl,rfl,fun q row hq=>?_,?_,(an i9 _ av Z).2,?_⟩,msr J⟩
  ·have al:q≠j:=fun e=>by grind
   exact(an q row al (U q row hq)).2
  ·cases e:H0 j2 with
   | none=>rfl
   | some row=>
    have al:j2≠j:=fun e2=>by grind
    exact absurd rfl (an j2 row al (U j2 row e)).1
  grind
 have aq:=geB hk (by omega);subst aq;rw[Xad]at R;simp only[go_sem,ac];exact⟨U,[j],by grind,.row _ _ _ (by simp;exact R) (ConvE.refl _)⟩
def amY(H0:aG)(E:Nat)(s:Sr)(t:VType)(d dr:Int)(F:s.x.types[s.kind]?=some t)(O:H0 E=some (lR s)):
  LC prog 144 [.op E 0 0,.v (.slice none 0 0),int d,int dr] H0 (.sl ((mW t [] d dr).map iD)):=fun K J=>
 bK.data (aiF s t d dr F O fun j' H' R A=>⟨fun k row h=>(A k row h).2,[j'],fun k T=>by
  have e:k=j':=by grind
  subst e;cases U:H0 k<;>grind,.row _ _ _ (by simp;exact R) (ConvE.refl _)⟩) J
end Sq
namespace Sq
open Go.Proofs.Tryz
open Go.Proofs.YthephioccidfgaaGreatDoor.Nu (ltB geB)
open Mv (bZ cL aR)
def tA(a b:Column):Bool:=if(a.price != b.price)=true then decide (a.price<b.price)else decide (aeN a.route.visits b.route.visits<0)
def aiG(a b:Column)(E:a.route.visits.length<=1048576):PC prog 184 [.agg (bO a),.agg (bO b)] (boo (tA a b)):=by
 refine pcd func184 rfl rfl ?_;simp only[go_sem];unfold tA;apply aA <;> intro A
 ·rw[if_pos A];simp only[go_sem];exact .refl _
 ·rw[if_neg (by grind)];simp only[go_sem];refine aO (awP a.route.visits b.route.visits E) ?_;simp only[go_sem];exact .refl _
def yK(best:Column)(fd:Bool)(next:Column):Column:=if(!fd||tA next best)=true then next else best
abbrev nV(c:Column):Row:=⟨156,7,[bO c]⟩
def eD:Column:=⟨0,0,0,⟨0,0,[],[]⟩⟩
def awT(best:Column)(T:Bool)(next:Column)(X:next.route.visits.length<=1048576):PC prog 183 [.agg (bO best),boo T,.agg (bO next),.v (.func (.func 184) #[] #[])] (.agg (bO (yK best T next))):=by
 have J:aF prog 184=true:=by kernel_rfl
 have F:=aiG next best X
 refine pcd func183 rfl rfl ?_;simp only[go_sem];refine fR fun i8 E U (A:E i8=some (nV eD)) N=>?_
 simp only[go_sem,J];refine⟨_,fun _=>F.q rfl,?_⟩;simp only[go_sem];unfold yK;apply aA <;> intro F
 ·rw[if_pos F];simp only[go_sem];refine aM A (by simp[gF]) ?_;generalize O:aH _ i8 _=HP;replace A:HP i8=some (nV next):=upS O;simp only[go_sem,A];exact .refl _
 ·rw[if_neg (fun h=>Bool.noConfusion (F.symm.trans h))];simp only[go_sem];refine aM A (by simp[gF]) ?_;generalize O:aH _ i8 _=HP;replace A:HP i8=some (nV best):=upS O;simp only[go_sem,A];exact .refl _
def mB(s:Sr)(l:List Visit):Route:=⟨(s.kind:Nat),0,[],l⟩
def KT(s:Sr)(l:List Visit)(p:Int):Column:=⟨(s.kind:Nat),s.set,p,mB s l⟩
def Lq(s:Sr)(l:List Visit):Sr:=if((cY s.x (mB s l)).2 == 0)=true then { s with best:=yK s.best s.found (KT s l (cY s.x (mB s l)).1),found:=true }else s
def wS(t:VType)(rec:Sr->List Visit->Int->List Sta->Sr)(l:List Visit)(src:Int)(st:List Sta)(s:Sr)(v:Visit):Sr:=
 if((dX s.x v).2 != 0)=true then s
 else if(yI s.x.net t src (dX s.x v).1 st).length=0 then s
 else rec s (l++[v]) (dX s.x v).1.place (yI s.x.net t src (dX s.x v).1 st)
def nN(t:VType):Nat->Sr->List Visit->Int->List Sta->Sr
 | 0,s,_,_,_=>s
 | f+1,s,l,src,st=>if((l.length:Int) == (s.total:Int))=true then Lq s l else(oM s.x s.set l).foldl (wS t (nN t f) l src st) s
structure SameB(s s':Sr):Prop where
 x:s'.x=s.x
 kind:s'.kind=s.kind
 set:s'.set=s.set
 total:s'.total=s.total
structure SrB(t:VType)(s:Sr):Prop where
 ty:s.x.types[s.kind]?=some t
 ev:EvalB s.x
 before:s.x.before.length<=1048576
 orders:s.x.orders.length<=60
 total:s.total<=16
theorem SameB.refl(s:Sr):SameB s s:=⟨rfl,rfl,rfl,rfl⟩
def SameB.trans{a b c:Sr}(h:SameB a b)(g:SameB b c):SameB a c:=⟨g.x.trans h.x,g.kind.trans h.kind,g.set.trans h.set,g.total.trans h.total⟩
def SameB.b{t:VType}{a b:Sr}(h:SameB a b)(g:SrB t a):SrB t b:=⟨by rw[h.x,h.kind];exact g.ty,by rw[h.x];exact g.ev,by rw[h.x];exact g.before,by rw[h.x];exact g.orders,by rw[h.total];exact g.total⟩
def aaW(s:Sr)(l:List Visit):SameB s (Lq s l):=by unfold Lq;split <;> exact⟨rfl,rfl,rfl,rfl⟩
def JH{α:Type}{g:Sr->α->Sr}(A:∀a v,SameB a (g a v)):∀(l:List α) (a:Sr),SameB a (l.foldl g a)
 | [],a=>.refl a
 | v::l,a=>(A a v).trans (JH A l (g a v))
theorem sX(t:VType):∀(f:Nat) (s:Sr) (l:List Visit) (src:Int) (st:List Sta),SameB s (nN t f s l src st)
 | 0,s,_,_,_=>.refl s
 | f+1,s,l,src,st=>by
  unfold nN;split
  ·exact aaW s l
  ·refine JH (fun a v=>?_) _ _;unfold wS;split
   ·exact .refl a
   ·split
    ·exact .refl a
    ·exact sX t f _ _ _ _
def aA4{H:aG}{j:Nat}:(fun q=>if q∈[j]then none else H q)=aH H j none:=funext fun q=>by grind[aH]
def HS{l:List Nat}{H0 H F:aG}{K:Env->aG->Prop}{ρ:Env}{J A:Nat}{a b:Row}{X:Option Row}(Z:∀k,k∉l->F k=H k)(Y:A∉l)(h5:F J=none)(U:Sup (aH H0 A (some a)) H)
  (h:∀E:aG,E A=some b->Sup (aH H0 A (some b)) E->K ρ E):sN l H K ρ (aH (aH (aH F J X) J none) A (some b)):=fun h0 E h1 O=>by
 refine h E ((O A Y).trans (aB _ _ _)) fun k row T=>?_
 by_cases e:k=A
 ·grind[aB]
 ·rw[aD _ _ _ _ e]at T;have hH:=U k row (by grind[aD])
  grind[aD]
abbrev amH(t:VType)(js f:Nat):Prop:=∀(s:Sr) (_:SrB t s) (H0:aG) (_:H0 js=some (lR s)) (l:List Visit) (src:Int) (st:List Sta) (_:l.length<=s.total) (_:s.total-l.length<f) (_:st.length<=2^(l.length+1)),
 MC prog 143 [.op js 0 0,.sl (l.map aL),int src,.sl (st.map iD)] H0 (aH H0 js (some (lR (nN t f s l src st)))) (.tup [])
def On(t:VType)(E f:Nat)(aw:∀f',f=f'+1->amH t E f'):amH t E f:=by
 intro s av H0 a6 l src st bv hf bm;obtain⟨f,rfl⟩:∃f',f=f'+1:=⟨f-1,by omega⟩;have aw:=aw f rfl;have bq:=av.total;have hj:=a6;have eW:nN t (f+1) s l src st=if((l.length:Int) == (s.total:Int))=true then Lq s l else(oM s.x s.set l).foldl (wS t (nN t f) l src st) s:=rfl
 generalize nN t (f+1) s l src st=RW at *;refine MC.body (c:=f143.body.getD .skip) (fun _=>false) (Ye a6) mixed func143 rfl (by kernel_rfl) ?_;unfold f143;simp only[Xbr];simp only[go_sem,hj,Xaa];have U:=Sup.refl H0;refine aA (fun hb=>?_) (fun hb=>?_)
 ·rw[if_pos hb]at eW;subst eW;have eE:Lq s l=if((cY s.x (mB s l)).2 == 0)=true then { s with best:=yK s.best s.found (KT s l (cY s.x (mB s l)).1),found:=true }else s:=rfl
  have hP:=alO s.x (mB s l) av.ev (by show l.length<=1048575;omega);simp only[go_sem,hj];refine aJ fun j8 an=>?_
  have aa:E≠j8:=aV hj an;simp only[go_sem];refine aM (aB _ _ _) (by simp[]) ?_;have a0:=U.none an;generalize aj:aH (aH _ j8 _) j8 _=HGj8;replace U:=Sup.eq ((U.upd a0 _).upd a0 _) aj;replace hj:=kpR aj aa aa hj;have R8:HGj8 j8=some ((⟨59,4,[bM (mB s l)]⟩:Row)):=by rw[<-aj,aB];try rfl
  clear aj an;simp only[go_sem,];refine jI [E,j8] [(0,true),(1,true),(2,true),(3,true),(4,true),(5,false),(6,true),(7,true),(8,true),(9,true),(10,true)] (by grind) (by kernel_rfl) fun Hp Hr hp hr _ ap=>?_
  have ae:=(hp E (by simp)).trans hj;have au:=(hp j8 (by simp)).trans R8;simp only[go_sem,ae,au];refine aO hP ?_;generalize cY s.x (mB s l)=pr at *;simp only[go_sem];refine qF hr ?_;simp only[go_sem];refine aA (fun hc=>?_) (fun hc=>?_)
  case refine_2=>
   rw[if_neg (fun h=>Bool.noConfusion (hc.symm.trans h))]at eE;rw[eE];simp only[go_sem]
   grind[Qg.flat,UI]
  rw[if_pos hc]at eE;simp only[go_sem];refine jI [E,j8] [(0,true),(1,true),(2,true),(3,true),(4,true),(5,true),(6,true),(7,true),(8,true),(9,true),(10,true),(11,false),(12,false)] (by grind) (by kernel_rfl) fun Hp Hr hp hr _ ap=>?_
  have ae:=(hp E (by simp)).trans hj;have au:=(hp j8 (by simp)).trans R8;simp only[go_sem,ae,au];refine aJ fun ai bh=>?_
  simp only[go_sem];refine aM (aB _ _ _) (by simp[kS]) ?_;refine sU hr bh fun ax=>?_
  have Y:E≠ai:=aV hj ax;have aq:=U.none ax;generalize ah:aH (aH _ ai _) ai _=HGj11;replace U:=Sup.eq ((U.upd aq _).upd aq _) ah;replace hj:=kpR ah Y Y hj;have bn:HGj11 ai=some (nV (KT s l pr.1)):=by rw[<-ah,aB];try rfl
  simp only[go_sem,];have hF:=awT s.best s.found (KT s l pr.1) (by show l.length<=1048576;omega);generalize b2:yK s.best s.found (KT s l pr.1)=fb at *;have b0:E≠ai:=fun e=>by omega
  refine nK [ai] (.q 0 (.q 1 (.q 2 (.q 3 (.q 5 (.q 6 (.q 7 (.q 9 (.a2 4 (.a1 8 (.a1 10 (.q 11 (.q 12 (.a1 13 .nil))))) 8 (.a1 4 (.a1 10 (.q 11 (.q 12 (.a1 13 .nil)))))))))))))) (fun A H'=>A 0=.op E 0 0/\H' E=some (lR { s with best:=fb })/\Sup (aH H0 E (some (lR { s with best:=fb }))) H') (by grind) (by kernel_rfl) (fun K' ac Hp Hr hp hr _ ap=>?_) ?_
  ·have a5:=(hp ai (by simp)).trans bn;have ak:=(hr E (by grind)).trans hj;simp only[go_sem,a5];refine lF ?_ ?_
   ·simp only[go_sem,ak];refine aO hF ?_;simp only[go_sem];refine aM ak (by simp[gF]) ?_;simp only[go_sem];refine vP hr (by grind) (ac _ _ ⟨rfl,(aB _ _ _).trans rfl,?_⟩);exact U.set E (some (lR { s with best:=fb }))
   ·simp only[go_sem,ak];refine aO hF ?_;simp only[go_sem];refine aM ak (by simp[gF]) ?_;simp only[go_sem];refine vP hr (by grind) (ac _ _ ⟨rfl,(aB _ _ _).trans rfl,?_⟩);exact U.set E (some (lR { s with best:=fb }))
  rintro ρ H ⟨e0,R,U⟩;simp only[go_sem,e0];refine cC so4 R (by simp[]) ?_;simp only[go_sem];rw[eE];refine Qg.flat ?_ _;exact Sup.set2 U (some (lR { s with best:=fb,found:=true }))
 rw[if_neg (fun h=>Bool.noConfusion (hb.symm.trans h))]at eW;subst eW;have br:l.length<s.total:=by grind
 have bu:=av.orders;have bi:=Ek s.x s.set l s.x.orders.length;simp only[go_sem];refine jI [E] [(0,true),(1,true),(2,true),(3,true),(4,true),(5,true),(6,true),(7,true),(8,true),(11,true),(9,false),(10,true)] (by grind) (by kernel_rfl) fun Hp Hr hp hr _ ap=>?_
 have ae:=(hp E (by simp)).trans hj;simp only[go_sem,ae];refine aO (arO s.x s.set l (by omega) av.before (by omega)) ?_;have bi:(oM s.x s.set l).length<=120:=Xal bi (by omega);generalize oM s.x s.set l=vs at *;simp only[go_sem,Xaa];refine qF hr ?_;have bt:st.length<=131072:=Xal bm (Xal (Xas (by decide) (show l.length+1<=17 by omega)) (by decide));refine⟨fun ρ H=>∃(k:Nat) (a:Sr),k<=vs.length/\ρ 0=.op E 0 0/\ρ 1=.sl (l.map aL)/\ρ 2=int src/\ρ 3=.sl (st.map iD)/\ρ 77=.sl (vs.map aL)/\ρ 78=int (vs.length:Nat)/\ρ 79=int k/\a=(vs.take k).foldl (wS t (nN t f) l src st) s/\SameB s a/\H E=some (lR a)/\Sup (aH H0 E (some (lR a))) H,fun ρ _=>vs.length-aU (ρ 79),⟨0,s,Xab _,rfl,rfl,rfl,rfl,rfl,rfl,(by rfl),rfl,SameB.refl s,a6,by grind[UI]⟩,?_⟩;rintro ρ H ⟨k,a,hk,e0,e1,e2,e3,J,O,F,ha,hS,R,U⟩;simp only[go_sem,O,F];refine aA (fun al=>?_) (fun bg=>?_)
 ·have al:=ltB (by omega);obtain⟨v,hv⟩:=aI al;have b1:=inB al;have hs:=nL (f:=wS t (nN t f) l src st) (b:=s) hv;rw[<-ha]at hs;have a7:=hS.b av;have eX:wS t (nN t f) l src st a v=if((dX a.x v).2 != 0)=true then a
   else if(yI a.x.net t src (dX a.x v).1 st).length=0 then a
   else nN t f a (l++[v]) (dX a.x v).1.place (yI a.x.net t src (dX a.x v).1 st):=rfl
  have bk:SameB a (wS t (nN t f) l src st a v):=by
   unfold wS;split
   ·exact .refl a
   ·split
    ·exact .refl a
    grind[sX]
  generalize wS t (nN t f) l src st a v=EV at *;have bf:=Yr a.x v;generalize bw:dX a.x v=sv at *;simp only[go_sem,J,F,aC hv,b1];refine aJ fun Z ag=>?_
  have X:E≠Z:=aV R ag;simp only[go_sem,];refine aM (aB _ _ _) (by simp[dJ]) ?_;have ao:=U.none ag;generalize ab:aH (aH _ Z _) Z _=HGi13;replace U:=Sup.eq ((U.upd ao _).upd ao _) ab;replace R:=kpR ab X X R;have T:HGi13 Z=some ((⟨123,2,[aL v]⟩:Row)):=by rw[<-ab,aB];try rfl
  clear ab ag;simp only[go_sem,e0,e1,e2,e3,J,O,F,T,R];refine nK [E,Z] (.q 0 (.q 1 (.q 2 (.q 3 (.q 4 (.q 5 (.a2 6 (.q 7 (.q 8 (.q 9 (.a1 10 (.a1 11 (.q 12 .nil)))))) 10 (.a1 6 (.q 7 (.q 8 (.q 9 (.a1 11 (.q 12 .nil))))))))))))) (fun A H'=>A 0=.op E 0 0/\A 1=.sl (l.map aL)/\A 2=int src/\A 3=.sl (st.map iD)/\A 77=.sl (vs.map aL)/\A 78=int vs.length/\A 79=int (k:Nat)/\A 13=.op Z 0 0/\A 15=int sv.2/\∃am,A 14=.op am 0 0/\H' am=some (⟨76,4,[eQ sv.1]⟩:Row)/\H' Z=some (⟨123,2,[aL v]⟩:Row)/\H' E=some (lR a)/\Sup (aH H0 E (some (lR a))) H') (by simp[R,T]) (by kernel_rfl) (fun K' ac Hp Hr hp hr _ ap=>?_) ?_
  ·have bp:=(hp E (by simp)).trans R;have af:=(hp Z (by simp)).trans T;simp only[go_sem,e0,bp,af];refine lF ?_ ?_
   ·simp only[go_sem,];refine aO bf ?_;simp only[go_sem,];refine aJ fun j8 a4=>?_
    simp only[go_sem,];refine aM (aB _ _ _) (by simp[nP]) ?_;simp only[go_sem];refine sU hr a4 fun h8=>ac _ _ ⟨by simp only[go_sem,e0,],by simp only[go_sem,e1,],by simp only[go_sem,e2,],by simp only[go_sem,e3,],by simp only[go_sem,J,],O,F,by rfl,rfl,j8,rfl,aB _ _ _,(aD _ _ _ _ (aV T h8)).trans ((aD _ _ _ _ (aV T h8)).trans T),(aD _ _ _ _ (aV R h8)).trans ((aD _ _ _ _ (aV R h8)).trans R),(U.upd (U.none h8) _).upd (U.none h8) _⟩
   ·simp only[go_sem,];refine aJ fun j8 a4=>?_
    simp only[go_sem,];refine aO bf ?_;simp only[go_sem,];refine aM (aB _ _ _) (by simp[nP]) ?_;simp only[go_sem];refine sU hr a4 fun h8=>ac _ _ ⟨by simp only[go_sem,e0,],by simp only[go_sem,e1,],by simp only[go_sem,e2,],by simp only[go_sem,e3,],by simp only[go_sem,J,],O,F,by rfl,rfl,j8,rfl,aB _ _ _,(aD _ _ _ _ (aV T h8)).trans ((aD _ _ _ _ (aV T h8)).trans T),(aD _ _ _ _ (aV R h8)).trans ((aD _ _ _ _ (aV R h8)).trans R),(U.upd (U.none h8) _).upd (U.none h8) _⟩
  rintro ρ H ⟨e0,e1,e2,e3,J,O,F,bd,bc,am,ay,be,T,R,U⟩;simp only[go_sem,bc];refine aA (fun c1=>?_) (fun c1=>?_)
  ·rw[if_pos c1]at eX;simp only[go_sem,e0,e1,e2,e3,J,O,F,aW k];exact⟨⟨k+1,a,al,rfl,by grind,hS,R,U⟩,by simp only[aN];omega⟩
  rw[if_neg (fun h=>Bool.noConfusion (c1.symm.trans h))]at eX;have bo:=aoG H E a t R a7.ty src st sv.1 a7.ev.net (by omega);have ar:=DZ a.x.net t src sv.1 st st.length;rw[Xad]at ar;replace ar:(yI a.x.net t src sv.1 st).length<=2*st.length:=ar;generalize yI a.x.net t src sv.1 st=nx at *;simp only[go_sem,e0,e2,e3,ay,be];refine LC.use bo ?_;simp only[go_sem,Xaa];refine aA (fun c2=>?_) (fun c2=>?_)
  case refine_2=>
   have hz:nx.length=0:=by grind
   rw[if_pos hz]at eX;simp only[go_sem,e0,e1,e2,e3,J,O,F,aW k];exact⟨⟨k+1,a,al,rfl,by grind,hS,R,U⟩,by simp only[aN];omega⟩
  have hz:¬nx.length=0:=by grind
  rw[if_neg hz]at eX;have bx:E≠Z:=fun e=>by omega
  have bz:E≠am:=fun e=>by grind
  simp only[go_sem,];have bj:(l++[v]).length=l.length+1:=by simp
  have a9:=fun(Hx:aG) (hx:Hx E=some (lR a))=>aw a a7 Hx hx (l++[v]) sv.1.place nx (by rw[bj,hS.total];omega) (by rw[bj,hS.total];omega) (by grind)
  rw[<-eX]at a9;refine nK [Z,am] (.q 0 (.q 1 (.q 3 (.q 6 (.q 7 (.q 8 (.a2 2 (.a1 4 (.a1 5 (.a1 9 .nil))) 4 (.a1 2 (.a1 5 (.a1 9 .nil)))))))))) (fun A H'=>A 0=.op E 0 0/\A 1=.sl (l.map aL)/\A 2=int src/\A 3=.sl (st.map iD)/\A 77=.sl (vs.map aL)/\A 78=int vs.length/\A 79=int (k:Nat)/\H' E=some (lR EV)/\Sup (aH H0 E (some (lR EV))) H') (by grind) (by kernel_rfl) (fun K' ac Hp Hr hp hr _ ap=>?_) ?_
  ·have af:=(hp Z (by simp)).trans T;have a8:=(hp am (by simp)).trans be;have az:=(hr E (by grind)).trans R;simp only[go_sem,e0,e1,bd,ay,af,a8];refine lF ?_ ?_
   ·simp only[go_sem,];refine aO (aiL l (by omega)) ?_;simp only[go_sem,e0,e1,e2,e3,J,O,F,bd,bc,ay];refine Yl ayR (.inl rfl) (by simp) (DL dJ l) (by simp only[go_sem]) (by simp;omega) fun j5 h5=>?_
    have n5:E≠j5:=aV az h5;simp only[go_sem,];refine bK.frz [j5] (args':=[.op E 0 0,.sl (l.map aL++[aL v]),int sv.1.place,.sl (nx.map iD)]) (.cons _ _ _ _ (.refl _) (.cons _ _ _ _ (.row _ _ _ (by simp;exact aB _ _ _) (ConvE.refl _)) (.cons _ _ _ _ (.refl _) (.cons _ _ _ _ (.refl _) .nil)))) ?_;rw[aA4,show l.map aL++[aL v]=(l++[v]).map aL by simp];refine MC.use (a9 _ ((aD _ _ _ _ n5).trans ((aD _ _ _ _ n5).trans az))) ?_;simp only[go_sem,];refine HS hr (by grind) h5 U fun Hm ba bb=>ac _ _ ⟨by simp only[go_sem,e0,],by simp only[go_sem,e1,],by simp only[go_sem,e2,],by simp only[go_sem,e3,],by simp only[go_sem,J,],by simp only[go_sem,O,],by simp only[go_sem,F,],ba,bb⟩
   ·simp only[go_sem,];refine aO (aiL l (by omega)) ?_;simp only[go_sem,e0,e1,e2,e3,J,O,F,bd,bc,ay];refine Yl ayR (.inl rfl) (by simp) (DL dJ l) (by simp only[go_sem]) (by simp;omega) fun j5 h5=>?_
    have n5:E≠j5:=aV az h5;simp only[go_sem,];refine bK.frz [j5] (args':=[.op E 0 0,.sl (l.map aL++[aL v]),int sv.1.place,.sl (nx.map iD)]) (.cons _ _ _ _ (.refl _) (.cons _ _ _ _ (.row _ _ _ (by simp;exact aB _ _ _) (ConvE.refl _)) (.cons _ _ _ _ (.refl _) (.cons _ _ _ _ (.refl _) .nil)))) ?_;rw[aA4,show l.map aL++[aL v]=(l++[v]).map aL by simp];refine MC.use (a9 _ ((aD _ _ _ _ n5).trans ((aD _ _ _ _ n5).trans az))) ?_;simp only[go_sem,];refine HS hr (by grind) h5 U fun Hm ba bb=>ac _ _ ⟨by simp only[go_sem,e0,],by simp only[go_sem,e1,],by simp only[go_sem,e2,],by simp only[go_sem,e3,],by simp only[go_sem,J,],by simp only[go_sem,O,],by simp only[go_sem,F,],ba,bb⟩
  rintro ρ H ⟨e0,e1,e2,e3,J,O,F,R,U⟩;simp only[go_sem,e0,e1,e2,e3,J,O,F,aW k];exact⟨⟨k+1,EV,al,rfl,hs.symm,hS.trans bk,R,U⟩,by grind[aN]⟩
 have bg:=geB hk (by omega);subst bg;rw[Xad]at ha;rw[<-ha];simp only[go_sem];exact Qg.flat U _
end Sq
namespace Sq
open Go.Proofs.YthephioccidfgaaGreatDoor.Nu (ltB geB)
open Mv (bZ cL aR)
def Y7(t:VType)(A:Nat):∀f,amH t A f
 | 0=>On t A 0 (fun f' e=>by omega)
 | f + 1 => On t A (f + 1) (fun f' e => by
     obtain rfl:f'=f:=by omega
     exact Y7 t A f')
def jT(x:Instance)(set:Int)(l:List Visit):Prop:=∀p v q,l=p++v::q->v∈oM x set p
def jT.nil{x:Instance}{set:Int}:jT x set []:=fun p v q h=>by simp at h
def jT.snoc{x:Instance}{set:Int}{l:List Visit}(h:jT x set l){v:Visit}(A:v∈oM x set l):jT x set (l++[v]):=fun p w q e=>by
 rcases List.eq_nil_or_concat q with rfl|⟨q',u,rfl⟩
 ·simp_all
 ·rw[List.concat_eq_append,show p++w::(q'++[u])=(p++w::q')++[u]by simp]at e;obtain⟨rfl,E⟩:=List.append_inj' e rfl;exact h p w q' rfl
def Cd(s:Sr):Prop:=s.found=true->∃l,s.best=KT s l (cY s.x (mB s l)).1/\(cY s.x (mB s l)).2=0/\jT s.x s.set l/\l.length=s.total
theorem Wt{s:Sr}(h:Cd s){l:List Visit}(O:jT s.x s.set l)(J:l.length=s.total):Cd (Lq s l):=by
 unfold Lq;split
 next A=>
  have A:(cY s.x (mB s l)).2=0:=by grind
  intro _;show ∃l',yK s.best s.found (KT s l (cY s.x (mB s l)).1)=KT s l' (cY s.x (mB s l')).1/\(cY s.x (mB s l')).2=0/\jT s.x s.set l'/\l'.length=s.total;unfold yK;split
  ·grind
  next F=>
   have E:s.found=true:=by grind
   exact h E
 omega
def Jk{l:List Visit}{g:Sr->Visit->Sr}{s0:Sr}(A:∀a v,SameB s0 a->Cd a->v∈oM s0.x s0.set l->SameB s0 (g a v)/\Cd (g a v)):∀(vs:List Visit) (a:Sr),(∀v∈vs,v∈oM s0.x s0.set l)->SameB s0 a->Cd a->Cd (vs.foldl g a)
 | [],a,_,_,h=>h
 | v::vs,a,hv,hs,h=>by obtain⟨h1,E⟩:=A a v hs h (hv v (by simp));exact Jk A vs (g a v) (fun u F=>hv u (by grind)) h1 E
def G8(t:VType):∀(f:Nat) (s:Sr) (l:List Visit) (src:Int) (st:List Sta),Cd s->jT s.x s.set l->Cd (nN t f s l src st)
 | 0,s,_,_,_,h,_=>h
 | f+1,s,l,src,st,h,hl=>by
  unfold nN;split
  next J=>grind[Wt]
  ·refine Jk (l:=l) (fun a v A F E=>?_) _ s (fun v E=>E) (SameB.refl s) h;unfold wS;split
   ·grind
   ·split
    ·grind
    ·refine⟨A.trans (sX t f _ _ _ _),G8 t f _ _ _ _ F ?_⟩;rw[A.x,A.set];exact hl.snoc E
def wA(x:Instance)(l:List Int):Nat:=(l.map fun i=>(eN x.orders i).length).sum
def jK(x:Instance)(set:Int):Nat:=wA x (eY set)
def WP(x:Instance){l:List Int}{k:Nat}{i:Int}(h:l[k]?=some i):wA x (l.take (k+1))=wA x (l.take k)+(eN x.orders i).length:=by simp_all[wA,aZ]
theorem KW(x:Instance):∀l:List Int,wA x l<=2*l.length
 | []=>Xae _
 | i::l=>by have h1:=KW x l;have A:=vZ x.orders i;unfold wA at h1 |-;simp only[Xaq,List.sum_cons,Xag];omega
def XL(x:Instance)(l:List Int)(k:Nat):wA x (l.take k)<=2*k:=by grind[KW]
def Mr{set:Int}{n:Nat}(h:∀i:Nat,n<=i->cR set (i:Int)=false):∀d,qP set (n+d)=qP set n
 | 0=>rfl
 | d+1=>by rw[<-Nat.add_assoc,qD,h (n+d) (by omega),Mr h d];simp
def alQ{set:Int}{n:Nat}(h0:0<=set)(h1:set<2^n)(i:Nat)(E:n<=i):cR set (i:Int)=false:=by
 obtain⟨m,rfl⟩:=Int.eq_ofNat_of_zero_le h0;by_cases A:i<=62
 ·rw[jD (by omega) (by omega),Xao];refine Xce (Xbh (m:=2^n) ?_ (Xas (by decide) E))
  exact_mod_cast h1
 grind[cR]
def ZC{set:Int}{n:Nat}(h0:0<=set)(h1:set<2^n)(A:n<=63):(eY set).length<=n:=by
 have h:=Mr (alQ h0 h1) (63-n)
 grind[eY,qY]
def Gg{x:Instance}{set:Int}{n:Nat}(h0:0<=set)(h1:set<2^n)(A:n<=63):jK x set<=2*n:=by
 have E:=ZC h0 h1 A
 grind[KW,jK]
def anR{α:Type}{o:Option α}{f:α->Prop}{a:α}(h:o=some a)(A:f a):bV o f:=by subst h;exact A
abbrev mZ(t:VType):Row:=⟨121,14,[bB t]⟩
end Sq
namespace Sq
open Go.Proofs.Tryz
open Go.Proofs.YthephioccidfgaaGreatDoor.Nu (ltB geB)
open Mv (bZ cL aR)
def Lt(x:Instance)(kind set:Int):Bool:=((decide (kind<0)||decide (kind>=(x.types.length:Int)))||decide (set<=0))||(shV .shr .i64 set (x.orders.length:Nat) != 0)
def EP(x:Instance)(kind:Nat)(set:Int)(t:VType):Sr:=nN t 17 ⟨x,kind,set,jK x set,eD,false⟩ [] t.src (mW t [] t.start 0)
def qV(x:Instance)(kind set:Int):Column×Int:=
 if Lt x kind set=true then(eD,2)
 else if(yU x set != 0)=true then(eD,24)
 else match x.types[kind.toNat]? with
 | none=>(eD,24)
 | some t=>if(EP x kind.toNat set t).found=true then((EP x kind.toNat set t).best,0)else(eD,24)
def awY(x:Instance)(kind set:Int)(hE:EvalB x)(hn:x.orders.length<=8):PC prog 97 [.agg (aE x),int kind,int set] (.tup [.agg (bO (qV x kind set).1),int (qV x kind set).2]):=by
 refine pcb (fun t=>t == 43||t == 75) func97 rfl rfl ?_;simp only[go_sem];have A:qV x kind set=((if Lt x kind set=true then(eD,2)
  else if(yU x set != 0)=true then(eD,24)
  else match x.types[kind.toNat]? with
  | none=>(eD,24)
  | some t=>if(EP x kind.toNat set t).found=true then((EP x kind.toNat set t).best,0)else(eD,24)):Column×Int):=rfl
 generalize qV x kind set=RP at *;refine aJ fun F aq=>?_
 generalize an:aH _ F _=HG6;have E:HG6 F=some (nV eD):=by rw[<-an,aB];try rfl
 clear an aq;simp only[go_sem,Xaa];refine⟨fun _=>by omega,aA (fun hb=>?_) (fun hb=>?_)⟩
 ·simp only[go_sem];refine aM E (by simp) ?_;generalize A:aH _ F _=HP;replace E:HP F=some (nV eD):=by rw[<-A,aB];rfl
  clear A;simp only[go_sem,E];have hb:Lt x kind set=true:=hb;rw[if_pos hb]at A;rw[A];exact .refl _
 have ax:Lt x kind set=false:=hb;rw[if_neg (by grind)]at A;obtain⟨⟨⟨hk0,hk1⟩,hs0⟩,hs1⟩:((0<=kind/\kind<x.types.length)/\0<set)/\shV .shr .i64 set (x.orders.length:Nat)=0:=by grind
 rw[vV (by omega)]at hs1;obtain⟨k0,rfl⟩:=Int.eq_ofNat_of_zero_le hk0;have hk:k0<x.types.length:=by omega
 obtain⟨t,ht⟩:=aI hk;have bk:=inB hk;have ag:set<2^x.orders.length:=by
  have hp:(0:Int)<2^x.orders.length:=Int.pow_pos (by decide);rcases Int.lt_or_le set (2^x.orders.length)with h|h
  ·exact h
  ·have:=Int.le_ediv_of_mul_le hp (show 1*2^x.orders.length<=set by omega);omega
 have hM:=Gg (x:=x) (by omega) ag (by omega);have av:=ZC (by omega) ag (by omega);rw[show jK x set=wA x (eY set)from rfl]at *;simp only[go_sem];refine aO (F0 x set (by omega) hE.apart hE.before) ?_;rw[Xao,ht]at A;unfold EP at A;simp only at A;rw[show jK x set=wA x (eY set)from rfl]at A;simp only[go_sem];apply aA <;> intro ao
 ·simp only[go_sem];refine aM E (by simp) ?_;generalize A:aH _ F _=HP;replace E:HP F=some (nV eD):=by rw[<-A,aB];rfl
  clear A;simp only[go_sem,E];rw[if_pos ao]at A;rw[A];exact .refl _
 rw[if_neg (by grind)]at A;clear hb ao ax;simp only[go_sem];refine anR (a:=yB ⟨x,k0,set,0,eD,false⟩) rfl ⟨by grind[L4],?_⟩;refine aJ fun J ah=>?_
 have ar:F≠J:=aV E ah;simp only[go_sem];generalize ak:aH _ J _=HGs;replace E:=(congrFun ak.symm F).trans ((aD _ _ _ _ ar).trans E);have R:HGs J=some (lR ⟨x,k0,set,0,eD,false⟩):=by rw[<-ak,aB]
 clear ak ah;refine aO (lL set) ?_;simp only[go_sem,Xaa];have ae:=qY set 63
 change (eY set).length<=63 at ae
 generalize eY set=M at *;clear av;have az:M.length<=63:=ae;refine⟨fun ρ H=>∃(k:Nat),k<=M.length/\ρ 1=int (k0:Nat)/\ρ 3=.rp (aE x) 0/\ρ 6=.op F 0 0/\ρ 8=.op J 0 0/\ρ 45=.sl (M.map aQ)/\ρ 46=int (M.length:Nat)/\ρ 47=int k/\H F=some (nV eD)/\H J=some (lR ⟨x,k0,set,wA x (M.take k),eD,false⟩),fun ρ _=>M.length-aU (ρ 47),⟨0,Xab _,rfl,rfl,rfl,rfl,rfl,rfl,(by rfl),E,R⟩,?_⟩;clear E R;rintro ρ H ⟨k,ay,e1,e3,e6,e8,Z,aa,X,E,R⟩;simp only[go_sem,aa,X];refine aA (fun ac=>?_) (fun am=>?_)
 ·have ac:=ltB (by omega);obtain⟨i,hi⟩:=aI ac;have b1:=inB ac;have hs:=WP x hi;have hb:=XL x M k;have hV:=vZ x.orders i;generalize wA x (M.take k)=T at *;simp only[go_sem,Z,X,aC hi,b1];refine nK [] (.q 0 (.q 1 (.q 2 (.q 4 (.q 5 (.q 6 (.a2 3 (.a1 7 (.q 8 (.q 9 (.q 10 (.q 11 (.a1 12 .nil)))))) 7 (.q 8 (.a1 3 (.q 9 (.q 10 (.q 11 (.a1 12 .nil)))))))))))))
   (fun Y H'=>Y 1=int (k0:Nat)/\Y 3=.rp (aE x) 0/\Y 6=.op F 0 0/\Y 8=.op J 0 0/\Y 45=.sl (M.map aQ)/\Y 46=int (M.length:Nat)/\Y 47=int (k:Nat)/\H' F=some (nV eD)/\H' J=some (lR ⟨x,k0,set,wA x (M.take (k+1)),eD,false⟩)) (by simp) (by kernel_rfl) (fun K' al Hp Hr hp hr _ au=>?_) ?_
  ·have U:=(hr J (by simp)).trans R;simp only[go_sem,e3,e8,];refine lF ?_ ?_
   ·simp only[go_sem,U];refine aO (vL x.orders i) ?_;simp only[go_sem,Xaa];refine cC so3 U (by simp[]) ?_;simp only[go_sem];refine vP hr (by simp) (al _ _ ⟨by simp only[go_sem,e1,],by simp only[go_sem,e3,],by simp only[go_sem,e6,],by simp only[go_sem,e8,],by simp only[go_sem,Z,],aa,X,?_,?_⟩)
    ·grind[aD]
    rw[hs,aB];refine congrArg (fun l=>some (⟨236,17,[l]⟩:Row)) ?_;rw[bD (by omega)];rfl
   ·simp only[go_sem];refine aO (vL x.orders i) ?_;simp only[go_sem,U,Xaa];refine cC so3 U (by simp[]) ?_;simp only[go_sem];refine vP hr (by simp) (al _ _ ⟨by simp only[go_sem,e1,],by simp only[go_sem,e3,],by simp only[go_sem,e6,],by simp only[go_sem,e8,],by simp only[go_sem,Z,],aa,X,?_,?_⟩)
    ·grind[aD]
    rw[hs,aB];refine congrArg (fun l=>some (⟨236,17,[l]⟩:Row)) ?_;rw[bD (by omega)];rfl
  clear E R e1 e3 e6 e8 Z aa X;rintro ρ H ⟨e1,e3,e6,e8,Z,aa,X,E,R⟩;simp only[go_sem,e1,e3,e6,e8,Z,aa,X,aW k];exact⟨⟨k+1,ac,rfl,E,R⟩,msr ac⟩
 have am:=geB ay (by omega);subst am;rw[Xad]at R;simp only[go_sem,e1,e3,aC ht,bk];refine aJ fun i11 O=>?_
 have ai:J≠i11:=aV R O;have aj:F≠i11:=aV E O;simp only[go_sem];refine aM (aB _ _ _) (by simp[lY]) ?_;generalize af:aH (aH _ i11 _) i11 _=HGi;replace E:=kpR af aj aj E;replace R:=kpR af ai ai R;have ap:HGi i11=some (mZ t):=by rw[<-af,aB];try rfl
 clear af O;simp only[go_sem];refine jI [i11] [(0,true),(1,true),(2,true),(3,true),(4,true),(5,true),(6,false),(7,false)] (by grind) (by kernel_rfl) fun Hp Hr hp hr _ au=>?_
 have aw:=(hp i11 (by simp)).trans ap;have U:=(hr J (by grind)).trans R;simp only[go_sem,e8,aw];refine LC.use (amY Hr J _ t t.start 0 ht U) ?_;simp only[go_sem];refine MC.use (Y7 t J 17 ⟨x,k0,set,wA x M,eD,false⟩ ⟨ht,hE,hE.before,by grind,by grind⟩ Hr U [] t.src (mW t [] t.start 0) (Xab _) (by grind) (KZ t [] t.start 0)) ?_;have hB:=sX t 17 ⟨x,k0,set,wA x M,eD,false⟩ [] t.src (mW t [] t.start 0);generalize nN t 17 ⟨x,k0,set,wA x M,eD,false⟩ [] t.src (mW t [] t.start 0)=s' at *;simp only[go_sem];refine vP hr (by grind) ?_;have R2:aH HGi J (some (lR s')) J=some (lR s'):=aB _ _ _;have ab:aH HGi J (some (lR s')) F=some (nV eD):=(aD _ _ _ _ ar).trans E;generalize aH HGi J (some (lR s'))=HX at *;clear E R ap;simp only[go_sem,e8,R2];apply aA <;> intro hb
 ·simp only[go_sem,e6,];refine aM ab (by simp) ?_;generalize A:aH _ F _=HP;replace ab:HP F=some (nV eD):=by rw[<-A,aB];rfl
  clear A;simp only[go_sem,e6,ab];rw[if_neg (by grind)]at A;rw[A];exact .refl _
 simp only[go_sem,e6,e8,R2];refine aM ab (by simp[gF]) ?_;generalize A:aH _ F _=HP;replace ab:HP F=some (nV s'.best):=by rw[<-A,aB];rfl
 clear A;simp only[go_sem,e6,ab];rw[if_pos (by grind)]at A;rw[A];exact .refl _
structure BestQ(x:Instance)(k:Nat)(set:Int)(c:Column):Prop where
 lt:k<x.types.length
 pos:0<set
 top:set<2^x.orders.length
 is:∃l,c=⟨(k:Nat),set,(cY x ⟨(k:Nat),0,[],l⟩).1,⟨(k:Nat),0,[],l⟩⟩/\(cY x ⟨(k:Nat),0,[],l⟩).2=0/\jT x set l/\l.length=jK x set
theorem Rv{x:Instance}{k:Nat}{set:Int}(hn:x.orders.length<=8)(h:(qV x (k:Nat) set).2=0):BestQ x k set (qV x (k:Nat) set).1:=by
 unfold qV at h |-;split at h
 ·omega
 split at h
 ·omega
 next hb _=>
 rw[Xao]at *;split at h
 ·omega
 next t ht=>
 split at h
 case isFalse=>omega
 next X=>
 have J:Lt x (k:Nat) set=false:=by grind
 unfold Lt at J;obtain⟨⟨⟨hk0,hk1⟩,hs0⟩,hs1⟩:((0<=(k:Int)/\(k:Int)<x.types.length)/\0<set)/\shV .shr .i64 set (x.orders.length:Nat)=0:=by grind
 rw[vV (by omega)]at hs1;have E:set<2^x.orders.length:=by
  have Y:(0:Int)<2^x.orders.length:=Int.pow_pos (by decide);rcases Int.lt_or_le set (2^x.orders.length)with h|h
  ·exact h
  ·have:=Int.le_ediv_of_mul_le Y (show 1*2^x.orders.length<=set by omega);omega
 rw[if_neg hb,if_neg (by omega)];simp only[X,if_true];have A:=sX t 17 ⟨x,k,set,jK x set,eD,false⟩ [] t.src (mW t [] t.start 0);obtain⟨l,Z,T,O,U⟩:=G8 t 17 ⟨x,k,set,jK x set,eD,false⟩ [] t.src (mW t [] t.start 0) (fun h=>Bool.noConfusion h) jT.nil X;unfold EP;generalize nN t 17 ⟨x,k,set,jK x set,eD,false⟩ [] t.src (mW t [] t.start 0)=s' at *;have F:mB s' l=⟨(k:Nat),0,[],l⟩:=by unfold mB;rw[A.kind]
 rw[F,A.x]at T;rw[A.x,A.set]at O;rw[A.total]at U;refine⟨by omega,hs0,E,l,?_,T,O,U⟩;rw[Z];unfold KT;rw[F,A.x,A.set,A.kind]
abbrev pH(l:List Column):Row:=⟨156,7,l.map bO⟩
def HI(x:Instance)(kind set:Nat):List Column:=if((qV x (kind:Nat) (set:Nat)).2 == 0)=true then[(qV x (kind:Nat) (set:Nat)).1]else[]
def xB(x:Instance)(kind m:Nat):List Column:=(List.range m).flatMap fun s=>HI x kind (s+1)
def FO(x:Instance)(k:Nat):List Column:=(List.range k).flatMap fun kind=>xB x kind (2^x.orders.length-1)
def kC(x:Instance):List Column:=FO x x.types.length
def HB(x:Instance)(kind m:Nat):xB x kind (m+1)=xB x kind m++HI x kind (m+1):=by grind[xB,Xbv]
def Kd(x:Instance)(k:Nat):FO x (k+1)=FO x k++xB x k (2^x.orders.length-1):=by grind[FO,Xbv]
def abV(x:Instance)(kind set:Nat):(HI x kind set).length<=1:=by grind[HI]
def DM(x:Instance)(kind:Nat):∀m,(xB x kind m).length<=m
 | 0=>Xae _
 | m+1=>by rw[HB,Xaf];have:=DM x kind m;have:=abV x kind (m+1);omega
def G2(x:Instance):∀k,(FO x k).length<=k*2^x.orders.length
 | 0=>Xab _
 | k+1=>by rw[Kd,Xaf,Nat.succ_mul];have:=G2 x k;have:=DM x k (2^x.orders.length-1);have A:0<2^x.orders.length:=Nat.two_pow_pos _;omega
def afD{x:Instance}{kind set:Nat}{c:Column}(A:x.orders.length<=8)(h:c∈HI x kind set):BestQ x kind set c:=by grind[HI,Rv]
def tU{x:Instance}{c:Column}(A:x.orders.length<=8)(h:c∈kC x):∃kind set:Nat,BestQ x kind set c:=by unfold kC FO xB at h;obtain⟨kind,_,h⟩:=Xbp.1 h;obtain⟨s,_,h⟩:=Xbp.1 h;exact⟨kind,s+1,afD A h⟩
def QG{s n:Nat}(A:n<=8):shV .shr .i64 ((s:Nat):Int) ((n:Nat):Int)=((s/2^n:Nat):Int):=by grind[vV]
def awZ(x:Instance)(hE:EvalB x)(hn:x.orders.length<=8)(ht:x.types.length<=1000):NC prog 59 [.agg (aE x)] (pH (kC x)) (fun j=>.tup [.os j,int 0]):=by
 refine ncb (fun t=>t == 4) func59 rfl rfl ?_;simp only[go_sem];refine fR fun j af aj (R:af j=some (pH [])) N=>?_
 simp only[go_sem];refine⟨fun ρ H=>∃(k:Nat) (j:Nat),k<=x.types.length/\ρ 1=.rp (aE x) 0/\ρ 11=int (x.types.length:Nat)/\ρ 12=int k/\ρ 4=.os j/\H j=some (pH (FO x k)),fun ρ _=>x.types.length-aU (ρ 12),⟨0,j,Xab _,rfl,rfl,(by rfl),rfl,R⟩,?_⟩;rintro ρ H ⟨k,j,hk,T,F,E,X,R⟩;simp only[go_sem,F,E];refine aA (fun O=>?_) (fun Y=>?_)
 ·have O:=ltB (by omega);have hs:=Kd x k;have an:=G2 x k;have h8:2^x.orders.length<=256:=Xal (Xas (by decide) hn) (by decide);have hp:0<2^x.orders.length:=Nat.two_pow_pos _;have am:k*2^x.orders.length<=256000:=Xal (Nat.mul_le_mul (show k<=1000 by omega) h8) (by decide);generalize al:FO x k=A at *;simp only[go_sem,E];refine⟨fun ρ H=>∃m j:Nat,m<=2^x.orders.length-1/\ρ 1=.rp (aE x) 0/\ρ 5=int (k:Nat)/\ρ 6=int (m+1:Nat)/\ρ 11=int x.types.length/\ρ 12=int (k:Nat)/\ρ 4=.os j/\H j=some (pH (A++xB x k m)),fun ρ _=>2^x.orders.length-aU (ρ 6),⟨0,j,Xab _,by simp only[go_sem,T,],by rfl,(by rfl),by simp only[go_sem,F,],E,X,by grind[xB]⟩,?_⟩;rintro ρ H ⟨m,j,hm,T,e5,e6,F,E,X,R⟩;simp only[go_sem,T,e6,Xaa];refine⟨by omega,aA (fun ag=>?_) (fun ae=>?_)⟩
  ·rw[QG hn]at ag;have U:(m+1)/2^x.orders.length=0:=by grind
   have ai:m+1<2^x.orders.length:=(Nat.div_eq_zero_iff.1 U).resolve_left (by omega);have J:=HB x k m;have ak:=DM x k m;simp only[go_sem,T,e5,e6,];refine aO (awY x (k:Nat) ((m+1:Nat):Int) hE hn) ?_;have ac:HI x k (m+1)=if((qV x (k:Nat) ((m+1:Nat):Int)).2 == 0)=true then[(qV x (k:Nat) ((m+1:Nat):Int)).1]else[]:=rfl
   rw[ac]at J;generalize qV x (k:Nat) ((m+1:Nat):Int)=B at *;generalize xB x k m=KM at *;simp only[go_sem];refine aJ fun i7 Z=>?_
   simp only[go_sem];refine bP Z (by simp[gF]) fun aa (R7:aa i7=some (pH [B.1])) N=>?_
   replace R:=(N R).2;simp only[go_sem];apply aA <;> intro hc
   ·rw[if_pos hc]at J;simp only[go_sem,X,R7];refine bC R ⟨rfl,rfl⟩ (by simp only[go_sem]) (by grind) (fun j2 ao=>?_);simp only[go_sem,T,e5,e6,F,E,qK (show m+1<=4611686018427387904 by omega)];refine⟨⟨m+1,j2,by omega,rfl,rfl,?_⟩,by grind[aN]⟩;rw[J,<-Xbk,aB];simp
   ·rw[if_neg (by grind),Xbl]at J;simp only[go_sem,T,X,e5,e6,F,E,qK (show m+1<=4611686018427387904 by omega)]
    grind[aN]
  ·rw[QG hn]at ae;have U:¬(m+1)/2^x.orders.length=0:=by grind
   have ah:¬m+1<2^x.orders.length:=fun h=>U (Nat.div_eq_of_lt h)
   have ab:m=2^x.orders.length-1:=by omega
   subst ab;simp only[go_sem,T,X,F,E,aW k];refine⟨⟨k+1,j,O,rfl,rfl,?_⟩,msr O⟩
   grind
 have Y:=geB hk (by omega);subst Y;simp only[go_sem,X];exact⟨j,rfl,R⟩
end Sq
namespace Sq
open Mv (bZ cL aR)
end Sq
namespace Nu
open Go.Proofs.Tryz
open Go.Nu
abbrev pF(f:Nat->Nat)(i:Nat)(r:PRow):List AV:=[.os (f i),int r.kind,int r.right]
abbrev Bb(f:Nat->Nat)(rows:List PRow):Row:=⟨153,3,rows.mapIdx (pF f)⟩
def AN(f:Nat->Nat)(k c:Nat):Nat->Nat:=fun i=>if i=k then c else f i
structure LinH(H:aG)(jr:Nat)(f:Nat->Nat)(rows:List PRow):Prop where
 row:H jr=some (Bb f rows)
 coef:∀(i:Nat) (r:PRow),rows[i]?=some r->H (f i)=some (iG r.coef)
 inj:∀i k,i<rows.length->k<rows.length->f i=f k->i=k
def afT(f:Nat->Nat)(rows:List PRow)(c:Nat)(E A:Int):rows.mapIdx (pF f)++[[.os c,int E,int A]]=(rows++[(⟨[],E,A⟩:PRow)]).mapIdx (pF (AN f rows.length c)):=by
 rw[List.mapIdx_append]
 congr 1
 ·refine List.ext_getElem? fun i=>?_
  rw[List.getElem?_mapIdx,List.getElem?_mapIdx];cases h:rows[i]? with
  | none=>rfl
  | some r=>have F:=(List.getElem?_eq_some_iff.1 h).1;show some (pF f i r)=some (pF (AN f rows.length c) i r);unfold pF AN;rw[if_neg (by omega)]
 ·simp[pF,AN]
def acQ(f:Nat->Nat)(rows:List PRow)(k c:Nat)(r:PRow)(l:List Int)(h:rows[k]?=some r):(rows.mapIdx (pF f)).set k [.os c,int r.kind,int r.right]=(rows.set k (⟨l,r.kind,r.right⟩:PRow)).mapIdx (pF (AN f k c)):=by
 have A:=(List.getElem?_eq_some_iff.1 h).1;refine List.ext_getElem? fun i=>?_
 rw[List.getElem?_set,List.getElem?_mapIdx,List.getElem?_mapIdx,List.getElem?_set];by_cases E:k=i
 ·subst E;rw[if_pos rfl,if_pos rfl,List.length_mapIdx,if_pos A,if_pos A];show some _=some (pF (AN f k c) k _);unfold pF AN;rw[if_pos rfl]
 ·rw[if_neg E,if_neg E];cases F:rows[i]? with
  | none=>rfl
  | some r2=>show some (pF f i r2)=some (pF (AN f k c) i r2);unfold pF AN;rw[if_neg (fun e=>E e.symm)]
structure RowsS(H0 H:aG)(j:Nat)(f:Nat->Nat)(rows:List PRow):Prop where
 lin:LinH H j f rows
 keep:∀k row,H0 k=some row->H k=some row
 nj:H0 j=none
 nf:∀i,i<rows.length->H0 (f i)=none
def MO{H0 H:aG}(h:∀k row,H0 k=some row->H k=some row){c:Nat}(A:H c=none):H0 c=none:=by
 cases e:H0 c with
 | none=>rfl
 | some row=>rw[h c row e]at A;cases A
def LinH.ne{H:aG}{j:Nat}{f:Nat->Nat}{rows:List PRow}(h:LinH H j f rows){i:Nat}(E:i<rows.length):f i≠j:=fun e=>by obtain⟨r,F⟩:=aI E;have h1:=h.coef i r F;rw[e,h.row]at h1;have A:(Bb f rows).e=(iG r.coef).e:=congrArg Row.e (Option.some.inj h1);exact absurd (show(153:Nat)=3 from A) (by decide)
def LinH.new{H:aG}{j:Nat}{f:Nat->Nat}{rows:List PRow}(h:LinH H j f rows){i:Nat}(A:H i=none)(a:Option Row):LinH (aH H i a) j f rows:=by
 refine⟨?_,fun k r E=>?_,h.inj⟩
 ·rw[aD _ _ _ _ (fun e=>by subst e;rw[h.row]at A;cases A)];exact h.row
 ·have:=h.coef k r E;rw[aD _ _ _ _ (fun e=>by rw[e,A]at this;cases this)];exact this
def RowsS.new{H0 H:aG}{j:Nat}{f:Nat->Nat}{rows:List PRow}(h:RowsS H0 H j f rows){i:Nat}(A:H i=none)(a b:Option Row):RowsS H0 (aH (aH H i a) i b) j f rows:=by
 have e:aH (aH H i a) i b=aH H i b:=by
  funext k;by_cases e:k=i
  ·subst e;rw[aB,aB]
  ·rw[aD _ _ _ _ e,aD _ _ _ _ e,aD _ _ _ _ e]
 rw[e];refine⟨h.lin.new A b,fun k row E=>?_,h.nj,h.nf⟩;have:=h.keep k row E;rw[aD _ _ _ _ (fun e=>by subst e;rw[A]at this;cases this)];exact this
def RowsS.app{H0 H:aG}{j:Nat}{f:Nat->Nat}{rows:List PRow}(h:RowsS H0 H j f rows){c j':Nat}(Y:H c=none)(O:aH H c (some (iG [])) j'=none)(kd rt:Int):
  RowsS H0 (aH (aH (aH H c (some (iG []))) j none) j' (some ⟨153,3,rows.mapIdx (pF f)++[[.os c,int kd,int rt]]⟩)) j' (AN f rows.length c) (rows++[⟨[],kd,rt⟩]):=by
 have Z:c≠j':=fun e=>by subst e;rw[aB]at O;cases O
 have J:H j'=none:=by rwa [aD _ _ _ _ Z.symm]at O
 have ab:c≠j:=fun e=>by subst e;rw[h.lin.row]at Y;cases Y
 refine⟨⟨?_,fun i r U=>?_,fun i k T X A=>?_⟩,fun k row X=>?_,MO h.keep J,fun i T=>?_⟩
 ·rw[aB,afT]
 ·unfold AN;by_cases e:i=rows.length
  ·subst e;rw[if_pos rfl,aD _ _ _ _ Z,aD _ _ _ _ ab,aB];have:r=⟨[],kd,rt⟩:=by simpa using U.symm
   rw[this]
  ·have aa:i<rows.length:=by have:=(List.getElem?_eq_some_iff.1 U).1;rw[Xaf]at this;simp at this;omega
   rw[if_neg e];rw[List.getElem?_append_left aa]at U;have F:=h.lin.coef i r U;rw[aD _ _ _ _ (fun e=>by rw[e,J]at F;cases F),aD _ _ _ _ (h.lin.ne aa),aD _ _ _ _ (fun e=>by rw[e,Y]at F;cases F)];exact F
 ·have E : ∀ i, i < rows.length -> f i ≠ c := fun i T e => by obtain⟨r,U⟩:=aI T;have:=h.lin.coef i r U;rw[e,Y]at this;cases this
  rw[Xaf]at T X;simp at T X;unfold AN at A;by_cases e1:i=rows.length
  ·by_cases e2:k=rows.length
   ·omega
   ·rw[if_pos e1,if_neg e2]at A;exact absurd A.symm (E k (by omega))
  ·by_cases e2:k=rows.length
   ·rw[if_neg e1,if_pos e2]at A;exact absurd A (E i (by omega))
   ·rw[if_neg e1,if_neg e2]at A;exact h.lin.inj i k (by omega) (by omega) A
 ·have F:=h.keep k row X;rw[aD _ _ _ _ (fun e=>by rw[e,J]at F;cases F),aD _ _ _ _ (fun e=>by rw[e,h.nj]at X;cases X),aD _ _ _ _ (fun e=>by rw[e,Y]at F;cases F)];exact F
 ·unfold AN;by_cases e:i=rows.length
  ·rw[if_pos e];exact MO h.keep Y
  ·rw[if_neg e];rw[Xaf]at T;simp at T;exact h.nf i (by omega)
def Iv(d:Decision):Option PRow:=if d.kind=3 then some ⟨[],1,d.n⟩else if d.kind=4 then some ⟨[],3,d.n⟩else none
def sA(k:Nat):List PRow:=List.replicate k ⟨[],2,1⟩
def qL(l:List VType):List PRow:=l.map fun t=>⟨[],1,t.count⟩
def sB(l:List Cut):List PRow:=l.map fun q=>⟨[],(Bv q).1,(Bv q).2⟩
def qT(l:List Decision):List PRow:=l.filterMap Iv
def jO(x:Instance)(cuts:List Cut)(ds:List Decision):List PRow:=sA (dI x).length++qL x.types++sB cuts++qT ds
def MK(ds:List Decision):(qT ds).length=(ds.filter Ay).length:=by
 unfold qT;induction ds with
 | nil=>rfl
 | cons d l ih=>
  rw[List.filterMap_cons,List.filter_cons];by_cases h3:d.kind=3
  ·rw[show Iv d=some ⟨[],1,d.n⟩from if_pos h3,if_pos (show Ay d=true by simp[Ay,h3])]
   try simp only[Xag,ih]
  ·by_cases A:d.kind=4
   ·rw[show Iv d=some ⟨[],3,d.n⟩from(if_neg h3).trans (if_pos A),if_pos (show Ay d=true by simp[Ay,A])]
    try simp only[Xag,ih]
   ·rw[show Iv d=none from(if_neg h3).trans (if_neg A),if_neg (show ¬Ay d=true by simp[Ay,h3,A])]
    try exact ih
def qC(x:Instance)(cuts:List Cut)(ds:List Decision):(jO x cuts ds).length=eH x cuts ds:=by unfold jO sA qL sB eH;simp only[Xaf,Xaa,Xbw,MK]
def KU{ds:List Decision}{k:Nat}{d:Decision}(h:ds[k]?=some d):qT (ds.take (k+1))=qT (ds.take k)++(Iv d).toList:=by
 unfold qT;rw[aZ h,List.filterMap_append]
 congr 1
def auC(x:Instance)(cuts:List Cut)(ds:List Decision)(h:MIn x cuts ds)(H0:aG)(K:AV->aG->Prop)(hK:∀j f Hn,RowsS H0 Hn j f (jO x cuts ds)->K (.os j) Hn):
  bK prog 61 [.agg (aE x),.sl (cuts.map fZ),.sl (ds.map aP)] H0 K:=by
 have h1:=h.orders;have h2:=h.types;have h3:=h.cl;have h4:=h.dl;have ar:=Kc x;refine bK.body (c:=f61.body.getD .skip) (fun t=>t == 7||t == 23||t == 37||t == 55||t == 72||t == 80) mixed func61 rfl (by kernel_rfl) ?_;unfold f61;simp only[Xbr];simp only[go_sem];refine aJ fun j hj=>?_
 have S:RowsS H0 (aH H0 j (some ⟨153,3,[]⟩)) j id []:=by refine⟨⟨aB _ _ _,fun i r hr=>(by simp at hr),fun i k hi=>absurd hi (by simp)⟩,fun k row Z=>?_,hj,fun i hi=>absurd hi (by simp)⟩;rw[aD _ _ _ _ (fun e=>by subst e;rw[hj]at Z;cases Z)];exact Z
 generalize aH H0 j _=H1 at S |-;simp only[go_sem];refine aO (S4 x h1) ?_;simp only[go_sem];refine aO (lL _) ?_;rw[Pf x h1];simp only[go_sem,Xaa];refine⟨fun ρ H=>∃(k:Nat) (j:Nat) (f:Nat->Nat),k<=(dI x).length/\ρ 1=.sl (cuts.map fZ)/\ρ 2=.sl (ds.map aP)/\ρ 3=.rp (aE x) 0/\ρ 19=int ((dI x).length:Nat)/\ρ 20=int k/\ρ 7=.os j/\RowsS H0 H j f (sA k),fun ρ _=>(dI x).length-aU (ρ 20),⟨0,j,id,Xab _,rfl,rfl,rfl,rfl,(by simp only[go_sem];rfl),rfl,S⟩,?_⟩;rintro ρ H ⟨k,j,f,Z,e1,e2,e3,ah,ak,U,S⟩;simp only[go_sem,ah,ak];refine aA (fun A=>?_) (fun E=>?_)
 ·have A:=ltB (by simpa using A);simp only[go_sem,U];refine aJ fun c O=>?_
  have R:=(S.lin.new O (some (iG []))).row;refine bC R ⟨rfl,rfl⟩ ⟨rfl,trivial⟩ (by simp only[List.length_mapIdx,sA,Xbw,Xag,List.length_nil];omega) (fun j' F=>?_);have T:=S.app O F 2 1;have e:sA (k+1)=sA k++[⟨[],2,1⟩]:=List.replicate_succ';rw[<-e]at T;simp only[go_sem,e1,e2,e3,ah,ak,aW k];exact⟨⟨k+1,j',_,A,rfl,rfl,T⟩,msr A⟩
 have E:=geB Z (by simpa using E);subst E;simp only[go_sem,e3,Xaa];generalize hB:sA (dI x).length=B at S;have au:B.length<=62:=by rw[<-hB];unfold sA;rw[Xbw];omega
 refine⟨fun ρ H=>∃(k:Nat) (j:Nat) (f:Nat->Nat),k<=x.types.length/\ρ 1=.sl (cuts.map fZ)/\ρ 2=.sl (ds.map aP)/\ρ 28=.sl (x.types.map bB)/\ρ 29=int (x.types.length:Nat)/\ρ 30=int k/\ρ 7=.os j/\RowsS H0 H j f (B++qL (x.types.take k)),fun ρ _=>x.types.length-aU (ρ 30),⟨0,j,f,Xab _,e1,e2,by simp only[go_sem],by simp only[go_sem],(by simp only[go_sem];rfl),U,by simpa[qL]using S⟩,?_⟩;rintro ρ H ⟨k,j,f,Z,e1,e2,ai,an,ag,U,S⟩;simp only[go_sem,an,ag];refine aA (fun A=>?_) (fun E=>?_)
 ·have A:=ltB (by simpa using A);obtain⟨t,ht⟩:=aI A;have b1:=inB A;have ae:(B++qL (x.types.take k)).length<=62+k:=by unfold qL;simp only[Xaf,Xaa,Xav];omega
  simp only[go_sem,ai,ag,aC ht,b1];refine aJ fun X h9=>?_
  simp only[go_sem];refine aM (aB _ _ _) (by simp[lY]) ?_;have J:=S.new h9;generalize Y:aH (aH H X _) X _=HG;replace J:RowsS H0 HG j f (B++qL (x.types.take k)):=by rw[<-Y];exact J _ _
  have R9:HG X=some (⟨121,14,[bB t]⟩:Row):=by rw[<-Y,aB];rfl
  clear Y h9;simp only[go_sem,U,R9];refine aJ fun c O=>?_
  have R:=(J.lin.new O (some (iG []))).row;refine bC R ⟨rfl,rfl⟩ ⟨rfl,trivial⟩ (by simp only[List.length_mapIdx,Xag,List.length_nil];omega) (fun j' F=>?_);have T:=J.app O F 1 t.count;have e:B++qL (x.types.take (k+1))=B++qL (x.types.take k)++[⟨[],1,t.count⟩]:=by unfold qL;rw[aZ ht,Xaw,Xbk];rfl
  rw[<-e]at T;simp only[go_sem,e1,e2,ai,an,ag,aW k];exact⟨⟨k+1,j',_,A,rfl,rfl,T⟩,msr A⟩
 have E:=geB Z (by simpa using E);subst E;rw[Xad]at S;simp only[go_sem,e1,Xaa];generalize al:B++qL x.types=B2 at S;have ap:B2.length<=62+1048576:=by rw[<-al];unfold qL;rw[Xaf,Xaa];omega
 refine⟨fun ρ H=>∃(k:Nat) (j:Nat) (f:Nat->Nat),k<=cuts.length/\ρ 2=.sl (ds.map aP)/\ρ 41=.sl (cuts.map fZ)/\ρ 42=int (cuts.length:Nat)/\ρ 43=int k/\ρ 7=.os j/\RowsS H0 H j f (B2++sB (cuts.take k)),fun ρ _=>cuts.length-aU (ρ 43),⟨0,j,f,Xab _,e2,rfl,by simp only[go_sem],(by simp only[go_sem];rfl),U,by simpa[sB]using S⟩,?_⟩;rintro ρ H ⟨k,j,f,Z,e2,aj,am,af,U,S⟩;simp only[go_sem,am,af];refine aA (fun A=>?_) (fun E=>?_)
 ·have A:=ltB (by simpa using A);obtain⟨q,hq⟩:=aI A;have b1:=inB A;have ae:(B2++sB (cuts.take k)).length<=62+1048576+k:=by unfold sB;simp only[Xaf,Xaa,Xav];omega
  simp only[go_sem,aj,af,aC hq,b1];refine aJ fun X h9=>?_
  simp only[go_sem];refine aM (aB _ _ _) (by simp[wR]) ?_;have J:=S.new h9;generalize Y:aH (aH H X _) X _=HG;replace J:RowsS H0 HG j f (B2++sB (cuts.take k)):=by rw[<-Y];exact J _ _
  have R9:HG X=some (⟨102,3,[fZ q]⟩:Row):=by rw[<-Y,aB];rfl
  clear Y h9;simp only[go_sem,R9];refine aO (aA0 q) ?_;simp only[go_sem,U];refine aJ fun c O=>?_
  have R:=(J.lin.new O (some (iG []))).row;refine bC R ⟨rfl,rfl⟩ ⟨rfl,trivial⟩ (by simp only[List.length_mapIdx,Xag,List.length_nil];omega) (fun j' F=>?_);have T:=J.app O F (Bv q).1 (Bv q).2;have e:B2++sB (cuts.take (k+1))=B2++sB (cuts.take k)++[⟨[],(Bv q).1,(Bv q).2⟩]:=by unfold sB;rw[aZ hq,Xaw,Xbk];rfl
  rw[<-e]at T;simp only[go_sem,e2,aj,am,af,aW k];exact⟨⟨k+1,j',_,A,rfl,rfl,T⟩,msr A⟩
 have E:=geB Z (by simpa using E);subst E;rw[Xad]at S;simp only[go_sem,e2,Xaa];generalize ao:B2++sB cuts=B3 at S;have aq:B3.length<=62+1048576+1048576:=by rw[<-ao];unfold sB;rw[Xaf,Xaa];omega
 refine⟨fun ρ H=>∃(k:Nat) (j:Nat) (f:Nat->Nat),k<=ds.length/\ρ 59=.sl (ds.map aP)/\ρ 60=int (ds.length:Nat)/\ρ 61=int k/\ρ 7=.os j/\RowsS H0 H j f (B3++qT (ds.take k)),fun ρ _=>ds.length-aU (ρ 61),⟨0,j,f,Xab _,rfl,rfl,(by simp only[go_sem];rfl),U,by simpa[qT]using S⟩,?_⟩;rintro ρ H ⟨k,j,f,Z,ac,ab,aa,U,S⟩;simp only[go_sem,ab,aa];refine aA (fun A=>?_) (fun E=>?_)
 ·have A:=ltB (by simpa using A);obtain⟨d,hd⟩:=aI A;have b1:=inB A;have hs:=KU hd;have ae:(B3++qT (ds.take k)).length<=62+1048576+1048576+k:=by have:=aoW ds k;rw[Xaf,MK];omega
  simp only[go_sem,ac,aa,aC hd,b1];refine aJ fun X h9=>?_
  simp only[go_sem];refine aM (aB _ _ _) (by simp[kJ]) ?_;have J:=S.new h9;generalize Y:aH (aH H X _) X _=HG;replace J:RowsS H0 HG j f (B3++qT (ds.take k)):=by rw[<-Y];exact J _ _
  have R9:HG X=some (⟨52,4,[aP d]⟩:Row):=by rw[<-Y,aB];rfl
  clear Y h9;simp only[go_sem,R9];apply aA <;> intro hb
  ·have h3:d.kind=3:=by simpa using hb
   rw[show Iv d=some ⟨[],1,d.n⟩from if_pos h3]at hs;simp only[go_sem,U,R9];refine aJ fun c O=>?_
   have R:=(J.lin.new O (some (iG []))).row;refine bC R ⟨rfl,rfl⟩ ⟨rfl,trivial⟩ (by simp only[List.length_mapIdx,Xag,List.length_nil];omega) (fun j' F=>?_);have T:=J.app O F 1 d.n;have e:B3++qT (ds.take (k+1))=B3++qT (ds.take k)++[⟨[],1,d.n⟩]:=by rw[hs,Xbk];rfl
   rw[<-e]at T;simp only[go_sem,ac,ab,aa,aW k];exact⟨⟨k+1,j',_,A,rfl,rfl,T⟩,msr A⟩
  have h3:d.kind≠3:=by simpa using hb
  simp only[go_sem];apply aA <;> intro hb
  ·have h4:d.kind=4:=by simpa using hb
   rw[show Iv d=some ⟨[],3,d.n⟩from(if_neg h3).trans (if_pos h4)]at hs;simp only[go_sem,U,R9];refine aJ fun c O=>?_
   have R:=(J.lin.new O (some (iG []))).row;refine bC R ⟨rfl,rfl⟩ ⟨rfl,trivial⟩ (by simp only[List.length_mapIdx,Xag,List.length_nil];omega) (fun j' F=>?_);have T:=J.app O F 3 d.n;have e:B3++qT (ds.take (k+1))=B3++qT (ds.take k)++[⟨[],3,d.n⟩]:=by rw[hs,Xbk];rfl
   rw[<-e]at T;simp only[go_sem,ac,ab,aa,aW k];exact⟨⟨k+1,j',_,A,rfl,rfl,T⟩,msr A⟩
  have h4:d.kind≠4:=by simpa using hb
  rw[show Iv d=none from(if_neg h3).trans (if_neg h4)]at hs;simp only[go_sem,ac,ab,aa,U,aW k];refine⟨⟨k+1,j,f,A,rfl,rfl,?_⟩,msr A⟩;rw[hs];simpa using J
 have E:=geB Z (by simpa using E);subst E;rw[Xad]at S;simp only[go_sem,U];refine hK j f _ ?_;unfold jO;rw[hB,al,ao];exact S
abbrev Ir(jc jr:Nat):Row:=⟨108,2,[[.os jc,.os jr]]⟩
def BP(r:PRow)(n:Int):PRow:=⟨r.coef++[n],r.kind,r.right⟩
def rU(rows:List PRow)(col:List Int):Nat->List PRow
 | 0=>rows
 | k+1=>(rU rows col k).set k (BP (rows.getD k ⟨[],0,0⟩) (col.getD k 0))
def mQ(rows:List PRow)(A:List Int):∀k,(rU rows A k).length=rows.length
 | 0=>rfl
 | k+1=>by rw[rU,Xbm,mQ rows A k]
def Ah(rows:List PRow)(A:List Int):∀k i,(rU rows A k)[i]?=if i<k then(rows[i]?).map (fun r=>BP r (A.getD i 0))else rows[i]?
 | 0,i=>by rw[if_neg (by omega)];rfl
 | k+1,i=>by
  rw[rU,List.getElem?_set,mQ];by_cases e:k=i
  ·subst e;rw[if_pos rfl,if_pos (show k<k+1 by omega)];by_cases E:k<rows.length
   ·rw[if_pos E,List.getD,List.getElem?_eq_getElem E];rfl
   ·rw[if_neg E,List.getElem?_eq_none (show rows.length<=k by omega)];rfl
  ·rw[if_neg e,Ah rows A k i];by_cases F:i<k
   ·rw[if_pos F,if_pos (by omega)]
   ·rw[if_neg F,if_neg (by omega)]
structure AddS(H0 H:aG)(jp jc jr:Nat)(f:Nat->Nat)(n:Nat)(jc':Nat)(f':Nat->Nat)(cost:List Int)(rows:List PRow)(k:Nat):Prop where
 p:H jp=some (Ir jc' jr)
 c:H jc'=some (iG cost)
 lin:LinH H jr f' rows
 fc:∀i,i<rows.length->f' i≠jc'
 rest:∀i,k<=i->f' i=f i
 keep:∀q row,q≠jp->q≠jc->q≠jr->(∀i,i<n->q≠f i)->H0 q=some row->H q=some row
def AddS.step{H0 H:aG}{jp jc jr:Nat}{f:Nat->Nat}{n jc':Nat}{f':Nat->Nat}{cost:List Int}{rows:List PRow}{k:Nat}(S:AddS H0 H jp jc jr f n jc' f' cost rows k)(hn:n=rows.length){r:PRow}(hr:rows[k]?=some r){j':Nat}
  (A:H j'=none) (m:Int):AddS H0 (aH (aH (aH H (f' k) none) j' (some (iG (r.coef++[m])))) jr (some ⟨153,3,(rows.mapIdx (pF f')).set k [.os j',int r.kind,int r.right]⟩)) jp jc jr f n jc' (AN f' k j') cost (rows.set k (BP r m)) (k+1):=by
 have X:=(List.getElem?_eq_some_iff.1 hr).1;have ag:=S.lin.coef k r hr;have ae:jp≠jr:=fun e=>by have h1:=S.p;rw[e,S.lin.row]at h1;have Z:(Bb f' rows).e=(Ir jc' jr).e:=congrArg Row.e (Option.some.inj h1);exact absurd (show(153:Nat)=108 from Z) (by decide)
 have ab:jp≠f' k:=fun e=>by have h1:=S.p;rw[e,ag]at h1;have Z:(iG r.coef).e=(Ir jc' jr).e:=congrArg Row.e (Option.some.inj h1);exact absurd (show(3:Nat)=108 from Z) (by decide)
 have ac:jc'≠jr:=fun e=>by have h1:=S.c;rw[e,S.lin.row]at h1;have Z:(Bb f' rows).e=(iG cost).e:=congrArg Row.e (Option.some.inj h1);exact absurd (show(153:Nat)=3 from Z) (by decide)
 have af:jp≠j':=fun e=>by rw[<-e,S.p]at A;cases A
 have U:jc'≠j':=fun e=>by rw[<-e,S.c]at A;cases A
 have aa:jr≠j':=fun e=>by rw[<-e,S.lin.row]at A;cases A
 refine⟨?_,?_,⟨?_,fun i r2 F=>?_,fun i l O hl E=>?_⟩,fun i O=>?_,fun i O=>?_,fun q row q1 q2 q3 q4 hq=>?_⟩
 ·rw[aD _ _ _ _ ae,aD _ _ _ _ af,aD _ _ _ _ ab];exact S.p
 ·rw[aD _ _ _ _ ac,aD _ _ _ _ U,aD _ _ _ _ (S.fc k X).symm];exact S.c
 ·rw[aB];exact congrArg (fun l=>some (⟨153,3,l⟩:Row)) (acQ f' rows k j' r (r.coef++[m]) hr)
 ·rw[List.getElem?_set]at F;unfold AN;by_cases e:k=i
  ·subst e;rw[if_pos rfl,if_pos X]at F;rw[if_pos rfl,aD _ _ _ _ aa.symm,aB];have:r2=BP r m:=(Option.some.inj F).symm;rw[this];rfl
  ·rw[if_neg e]at F;have Y:=S.lin.coef i r2 F;have T:=(List.getElem?_eq_some_iff.1 F).1;rw[if_neg (fun h=>e h.symm),aD _ _ _ _ (S.lin.ne T),aD _ _ _ _ (fun h=>by rw[h,A]at Y;cases Y),aD _ _ _ _ (fun h=>e (S.lin.inj k i X T h.symm))];exact Y
 ·rw[Xbm]at O hl;have J:∀i,i<rows.length->f' i≠j':=fun i O e=>by obtain⟨r,hr⟩:=aI O;have:=S.lin.coef i r hr;rw[e,A]at this;cases this
  unfold AN at E;by_cases e1:i=k
  ·by_cases e2:l=k
   ·omega
   ·rw[if_pos e1,if_neg e2]at E;exact absurd E.symm (J l hl)
  ·by_cases e2:l=k
   ·rw[if_neg e1,if_pos e2]at E;exact absurd E (J i O)
   ·rw[if_neg e1,if_neg e2]at E;exact S.lin.inj i l O hl E
 ·rw[Xbm]at O;unfold AN;by_cases e:i=k
  ·rw[if_pos e];exact U.symm
  ·rw[if_neg e];exact S.fc i O
 ·unfold AN;rw[if_neg (by omega)];exact S.rest i (by omega)
 ·have Y:=S.keep q row q1 q2 q3 q4 hq;rw[aD _ _ _ _ q3,aD _ _ _ _ (fun h=>by rw[h,A]at Y;cases Y),aD _ _ _ _ (fun h=>q4 k (by omega) (h.trans (S.rest k (Xae _))))];exact Y
def aqU(f:Nat->Nat)(rows:List PRow){k:Nat}{r:PRow}(h:rows[k]?=some r):(rows.mapIdx (pF f)).getD k []=pF f k r:=by rw[List.getD,List.getElem?_mapIdx,h];rfl
def axI(n:Int)(A:List Int)(jp jc jr:Nat)(f:Nat->Nat)(cost:List Int)(rows:List PRow)(H0:aG)(K:AV->aG->Prop)(Hp:H0 jp=some (Ir jc jr))(Hc:H0 jc=some (iG cost))(L:LinH H0 jr f rows)(aq:∀i,i<rows.length->f i≠jc)
  (a5:A.length=rows.length) (hl:A.length<=1048576) (a7:cost.length<=1048576) (a0:∀r∈rows,r.coef.length<=1048576)
  (hK:∀a jc' f' Hn,AddS H0 Hn jp jc jr f rows.length jc' f' (cost++[n]) (rU rows A A.length) A.length->K a Hn):
  bK prog 64 [int n,.sl (A.map aQ),.op jp 0 0] H0 K:=by
 refine bK.body (c:=f64.body.getD .skip) (fun _=>false) mixed func64 rfl (by kernel_rfl) ?_;unfold f64;simp only[Xbr];simp only[go_sem];simp only[Hp,go_sem];refine bC Hc ⟨rfl,rfl⟩ ⟨rfl,trivial⟩ (by simp only[Xaa,Xag,List.length_nil];omega) (fun j' U=>?_);have au:jp≠jc:=fun e=>by have h1:=Hp;rw[e,Hc]at h1;have Z:(iG cost).e=(Ir jc jr).e:=congrArg Row.e (Option.some.inj h1);exact absurd (show(3:Nat)=108 from Z) (by decide)
 have av:jr≠jc:=fun e=>by have h1:=L.row;rw[e,Hc]at h1;have Z:(iG cost).e=(Bb f rows).e:=congrArg Row.e (Option.some.inj h1);exact absurd (show(3:Nat)=153 from Z) (by decide)
 have Y:jr≠jp:=fun e=>by have h1:=L.row;rw[e,Hp]at h1;have Z:(Ir jc jr).e=(Bb f rows).e:=congrArg Row.e (Option.some.inj h1);exact absurd (show(108:Nat)=153 from Z) (by decide)
 have al:=dF (r':=(⟨3,1,(iG cost).es++[[int n]]⟩:Row)) Hp au.symm U;simp only[go_sem];refine cC ayQ al ⟨by simp,rfl,by simp⟩ ?_;have S:AddS H0 (aH (aH (aH H0 jc none) j' (some (⟨3,1,(iG cost).es++[[int n]]⟩:Row))) jp (some (Ir j' jr))) jp jc jr f rows.length j' f (cost++[n]) rows 0:=by
  have aa:jp≠j':=aV Hp U;have ax:jr≠j':=aV L.row U;have ai:∀i,i<rows.length->f i≠j':=fun i hi e=>by obtain⟨r,T⟩:=aI hi;have:=L.coef i r T;rw[e,U]at this;cases this
  have ay:∀i,i<rows.length->f i≠jp:=fun i hi e=>by obtain⟨r,T⟩:=aI hi;have h1:=L.coef i r T;rw[e,Hp]at h1;have Z:(Ir jc jr).e=(iG r.coef).e:=congrArg Row.e (Option.some.inj h1);exact absurd (show(108:Nat)=3 from Z) (by decide)
  refine⟨aB _ _ _,?_,⟨?_,fun i r T=>?_,L.inj⟩,ai,fun _ _=>rfl,fun q row q1 q2 q3 q4 hq=>?_⟩
  ·rw[aD _ _ _ _ aa.symm,aB];exact congrArg (fun l=>some (⟨3,1,l⟩:Row)) (Xaw (f:=aQ) (l₁:=cost) (l₂:=[n])).symm
  ·rw[aD _ _ _ _ Y,aD _ _ _ _ ax,aD _ _ _ _ av];exact L.row
  ·have hi:=(List.getElem?_eq_some_iff.1 T).1;rw[aD _ _ _ _ (ay i hi),aD _ _ _ _ (ai i hi),aD _ _ _ _ (aq i hi)];exact L.coef i r T
  ·rw[aD _ _ _ _ q1,aD _ _ _ _ (aV hq U),aD _ _ _ _ q2];exact hq
 generalize hG:aH (aH (aH H0 jc none) j' _) jp _=HG;replace S:AddS H0 HG jp jc jr f rows.length j' f (cost++[n]) rows 0:=by rw[<-hG];exact S
 clear hG al U;simp only[go_sem,Xaa];refine⟨fun ρ H=>∃(k:Nat) (jc':Nat) (f':Nat->Nat),k<=A.length/\ρ 2=.op jp 0 0/\ρ 13=.sl (A.map aQ)/\ρ 14=int (A.length:Nat)/\ρ 15=int k/\AddS H0 H jp jc jr f rows.length jc' f' (cost++[n]) (rU rows A k) k,fun ρ _=>A.length-aU (ρ 15),⟨0,j',f,Xab _,by simp only[go_sem],by simp only[go_sem],by simp only[go_sem,Xaa],(by simp only[go_sem];rfl),S⟩,?_⟩;rintro ρ H ⟨k,jc',f',hk,e2,O,F,J,S⟩;simp only[go_sem,e2,O,F,J];refine aA (fun X=>?_) (fun ae=>?_)
 ·have X:=ltB (by simpa using X);obtain⟨m,hm⟩:=aI X;have b1:=inB X;obtain⟨r,T⟩:=aI (l:=rU rows A k) (k:=k) (by rw[mQ];omega);have b2:(0:Int)<=(k:Int)/\(k:Int)<((rU rows A k).length:Int):=by rw[mQ];omega
  have aj:rows[k]?=some r:=by rw[Ah,if_neg (by omega)]at T;exact T
  have a6:=a0 r (Xac aj);have ac:rU rows A (k+1)=(rU rows A k).set k (BP r m):=by rw[rU,List.getD,aj,List.getD,hm];rfl
  have ar:=mQ rows A k;generalize rU rows A k=rowsK at *;have an:=aqU f' rowsK T;simp only[go_sem,e2,O,F,J,aC hm,b1];refine C3 [jp] (.q 0 (.q 1 (.q 2 (.q 3 (.q 4 (.q 5 (.q 9 (.a2 6 (.q 7 (.a2 8 (.a1 10 (.a1 11 (.a1 12 (.a1 13 (.a1 14 .nil))))) 10 (.a1 8 (.a1 11 (.a1 12 (.a1 13 (.a1 14 .nil))))))) 10 (.a1 6 (.q 7 (.a1 8 (.a1 11 (.a1 12 (.a1 13 (.a1 14 .nil))))))))))))))) (by simp[S.p]) (by kernel_rfl) fun Hp Hr hp hq a9 a8=>?_
  have Pp:=(hp jp (by simp)).trans S.p;simp only[go_sem,e2,O,F,J,Pp];have am:f' k≠jp:=fun e=>by have h1:=S.lin.coef k r T;rw[e,S.p]at h1;have Z:(Ir jc' jr).e=(iG r.coef).e:=congrArg Row.e (Option.some.inj h1);exact absurd (show(108:Nat)=3 from Z) (by decide)
  have Rr:Hr jr=some (Bb f' rowsK):=(hq jr (by simpa using Y)).trans S.lin.row;have Rk:Hr (f' k)=some (iG r.coef):=(hq (f' k) (by simpa using am)).trans (S.lin.coef k r T);have a4:f' k≠jr:=S.lin.ne (by omega);have ap:∀(E:Nat) (G:aG),Hr E=none->G=aH (aH (aH Hr (f' k) none) E (some (iG (r.coef++[m])))) jr (some ⟨153,3,(rowsK.mapIdx (pF f')).set k [.os E,int r.kind,int r.right]⟩)->(∀q,q∈[jp]->G q=none)->∀Hm:aG,(∀q,q∈[jp]->Hm q=H q)->(∀q,¬q∈[jp]->Hm q=G q)->AddS H0 Hm jp jc jr f rows.length jc' (AN f' k E) (cost++[n]) (rU rows A (k+1)) (k+1):=by
   intro E G aw hG hd Hm af ag;have aa:jp≠E:=fun e=>by have:=hd jp (by simp);rw[hG,aD _ _ _ _ Y.symm,e,aB]at this;cases this
   have az:H E=none:=by rw[<-hq E (by simpa using aa.symm)];exact aw
   have S2:=S.step ar.symm T az m;rw[ac];have eM:Hm=aH (aH (aH H (f' k) none) E (some (iG (r.coef++[m])))) jr (some ⟨153,3,(rowsK.mapIdx (pF f')).set k [.os E,int r.kind,int r.right]⟩):=by
    funext q;by_cases ah:q=jp
    ·subst ah;rw[af q (by simp),aD _ _ _ _ Y.symm,aD _ _ _ _ aa,aD _ _ _ _ am.symm]
    ·rw[ag q (by simpa using ah),hG];simp only[aH];rw[hq q (by simpa using ah)]
   rw[eM];exact S2
  repeat' (first|(refine lF ?_ ?_)|(simp only[go_sem,e2,O,F,J,Rr,List.length_mapIdx,b2,an]))
  all_goals
   refine⟨by omega,bC Rk ⟨rfl,rfl⟩ ⟨rfl,trivial⟩ (by simp only[Xaa,Xag,List.length_nil];omega) (fun E ab=>?_)⟩;have ao:Hr E=none:=ab;have ak:=dF (r':=(⟨3,1,(iG r.coef).es++[[int m]]⟩:Row)) Rr a4 ab;simp only[go_sem,e2,O,F,J,ak,List.length_mapIdx,b2];refine cC ayQ ak ⟨by rw[List.length_mapIdx];omega,rfl,by simp⟩ ?_;rw[an];simp only[go_sem];refine fF fun hd Hm af ag=>?_
   have S3:=ap E _ ao (by rw[show(iG (r.coef++[m]))=(⟨3,1,(iG r.coef).es++[[int m]]⟩:Row)from congrArg (fun l=>(⟨3,1,l⟩:Row)) (Xaw (f:=aQ) (l₁:=r.coef) (l₂:=[m]))]) hd Hm af ag;simp only[go_sem,e2,O,F,J,aW k];exact⟨⟨k+1,jc',_,X,rfl,S3⟩,by simp only[aN];omega⟩
 have ae:=geB hk (by simpa using ae);subst ae;simp only[go_sem,e2,O,F,J];exact hK _ jc' f' _ S
def bS(n N:Int):Bool:=decide (n<0)||decide (n>=N)
def cE(s:Score):(bE s).length=4:=(rfl)
def A1(s:Score):(bE s).getD 0 .any=int s.cost:=(rfl)
def AJ(s:Score):(bE s).getD 1 .any=int s.moved:=(rfl)
def AO(s:Score):(bE s).getD 2 .any=int s.other:=(rfl)
def AI(s:Score):(bE s).getD 3 .any=int s.work:=(rfl)
def vA(s:Score):(bE s).take 4=bE s:=(rfl)
def aX:Score:=⟨0,0,0,0⟩
def cX(o:Order):Score×Int:=if o.off=true then(aX,9)else if(o.penalty == -1)=true then(aX,23)else(⟨o.penalty,if(o.now != -1)=true then 1 else 0,0,0⟩,0)
def bH(x:Instance)(k:Int):Score×Int:=if bS k x.orders.length=true then(aX,2)else match x.orders[k.toNat]? with|some o=>cX o|none=>(aX,2)
def HL(x:Instance)(k:Int):PC prog 45 [.agg (aE x),int k] (.tup [.agg (bE (bH x k).1),int (bH x k).2]):=by
 refine pcd func45 rfl rfl ?_;simp only[go_sem];refine aJ fun j hj=>?_
 have R:=aB bY j (some (⟨82,4,[[int 0,int 0,int 0,int 0]]⟩:Row));generalize aH bY j _=H0 at R |-;clear hj;simp only[go_sem];refine aA (fun h1=>?_) (fun h1=>?_)
 ·have e:bH x k=(aX,2):=if_pos h1;rw[e];simp only[go_sem];refine aM R (by simp) ?_;simp only[go_sem];exact .refl _
 have U:0<=k/\k<(x.orders.length:Int):=by simp only[Xam,decide_eq_false_iff_not]at h1;omega
 obtain⟨o,ho⟩:=aI (show k.toNat<x.orders.length by omega);have e:bH x k=cX o:=by unfold bH;rw[if_neg (by rw[show bS k x.orders.length=false from h1];simp),ho]
 rw[e];simp only[go_sem,aC ho,U];refine aJ fun i hi=>?_
 have J:j≠i:=aV R hi;simp only[go_sem];refine aM (aB _ _ _) (by simp[lX]) ?_;generalize A:aH (aH H0 i _) i _=H1;have E:H1 i=some ⟨78,16,[aY o]⟩:=by rw[<-A,aB];rfl
 have R:H1 j=some ⟨82,4,[[int 0,int 0,int 0,int 0]]⟩:=by rw[<-A,aD _ _ _ _ J,aD _ _ _ _ J];exact R
 clear A hi;simp only[go_sem,E];refine aA (fun T=>?_) (fun T=>?_)
 ·have e:cX o=(aX,9):=if_pos T;rw[e];simp only[go_sem];refine aM R (by simp) ?_;simp only[go_sem];exact .refl _
 simp only[go_sem,E];refine aA (fun h3=>?_) (fun h3=>?_)
 ·have e:cX o=(aX,23):=by unfold cX;rw[if_neg (by rw[T];simp),if_pos h3]
  rw[e];simp only[go_sem];refine aM R (by simp) ?_;simp only[go_sem];exact .refl _
 have e:cX o=(⟨o.penalty,if(o.now != -1)=true then 1 else 0,0,0⟩,0):=by unfold cX;rw[if_neg (by rw[T];simp),if_neg (by rw[h3];simp)]
 rw[e];simp only[go_sem,E];refine aJ fun q Z=>?_
 have F:j≠q:=aV R Z;have O:i≠q:=aV E Z;simp only[go_sem];refine aM (aB _ _ _) (by simp) ?_;generalize A:aH (aH H1 q _) q _=H2;have Y:H2 q=some ⟨82,4,[[int o.penalty,int 0,int 0,int 0]]⟩:=by rw[<-A,aB];rfl
 have E:H2 i=some ⟨78,16,[aY o]⟩:=by rw[<-A,aD _ _ _ _ O,aD _ _ _ _ O];exact E
 have R:H2 j=some ⟨82,4,[[int 0,int 0,int 0,int 0]]⟩:=by rw[<-A,aD _ _ _ _ F,aD _ _ _ _ F];exact R
 clear A Z;simp only[go_sem,E,Y];refine aA (fun X=>?_) (fun X=>?_)
 ·simp only[go_sem];refine cC so3 Y ⟨by simp,rfl,by simp⟩ ?_;simp only[go_sem];refine aM (by rw[aD _ _ _ _ F];exact R) (by simp) ?_;simp only[go_sem];rw[if_pos X];exact .refl _
 ·simp only[go_sem,Y];refine aM R (by simp) ?_;simp only[go_sem];rw[if_neg (by rw[X];simp)];exact .refl _
def agO(s:Score):Int:=IntKind.i64.wrap (IntKind.i64.wrap (IntKind.i64.wrap (IntKind.i64.wrap (IntKind.i64.wrap (IntKind.i64.wrap (s.cost*16)+s.moved)*16)+s.other)*65536)+s.work)
def fV(s:Score):Int×Int:=if(decide (s.cost<0)||decide (s.moved<0)||decide (s.other<0)||decide (s.work<0))=true then(0,2)
 else if(decide (s.cost>1073741824)||decide (s.moved>=16)||decide (s.other>=16)||decide (s.work>=65536))=true then(0,4)else(agO s,0)
def BN(s:Score):PC prog 46 [.agg (bE s)] (.agg (bE s)):=by
 refine pcd func46 rfl rfl ?_;simp only[go_sem];refine aJ fun j A=>?_
 simp only[go_sem];refine aM (aB _ _ _) (by simp) ?_;simp only[go_sem];exact .refl _
def CQ(s:Score):PC prog 21 [.agg (bE s)] (.tup [int (fV s).1,int (fV s).2]):=by
 refine pcd func21 rfl rfl ?_;simp only[go_sem];refine aO (BN s) ?_;simp only[go_sem];refine aJ fun j O=>?_
 simp only[go_sem];refine bP O (by simp[cE]) fun Z (R:Z j=some (⟨131,4,[bE s]⟩)) N=>?_
 clear N O;simp only[go_sem,R];refine⟨fun ρ H=>∃(k:Nat),k<=4/\ρ 1=.rp (bE s) 0/\ρ 9=.agg (bE s)/\ρ 10=int k/\(∀e∈[s.cost,s.moved,s.other,s.work].take k,¬e<0),fun ρ _=>4-aU (ρ 10),⟨0,Xab _,rfl,rfl,(by simp only[go_sem];rfl),by simp⟩,?_⟩;rintro ρ H ⟨k,hk,X,e9,E,T⟩;simp only[go_sem,E];refine aA (fun A=>?_) (fun F=>?_)
 ·have A:k<4:=by simp at A;omega
  obtain⟨e,Y⟩:=aI (l:=[s.cost,s.moved,s.other,s.work]) (show k<[s.cost,s.moved,s.other,s.work].length from A);have hg:(bE s).getD k .any=int e:=by
   have:bE s=[s.cost,s.moved,s.other,s.work].map fun n=>int n:=rfl
   rw[this,List.getD,List.getElem?_map,Y];rfl
  simp only[go_sem,e9,E];refine⟨by omega,by omega,?_⟩;rw[Nat.mul_one,hg];simp only[go_sem,];refine aA (fun J=>?_) (fun J=>?_)
  ·simp only[go_sem];have hm:=Xac Y;simp only[Xba,List.not_mem_nil,or_false]at hm;have e:fV s=(0,2):=if_pos (by simp at J |-;rcases hm with h|h|h|h <;> omega);rw[e];exact .refl _
  ·simp only[go_sem,X,e9,E,aW k];refine⟨⟨k+1,A,rfl,gP (p:=fun e:Int=>¬e<0) Y (by simpa using J) T⟩,by simp only[aN];omega⟩
 have F:k=4:=by simp at F;omega
 subst F;have J:¬(decide (s.cost<0)||decide (s.moved<0)||decide (s.other<0)||decide (s.work<0))=true:=by have h0:=T s.cost (by simp);have h1:=T s.moved (by simp);have h2:=T s.other (by simp);have h3:=T s.work (by simp);simp;omega
 unfold fV;rw[if_neg J];simp only[go_sem,X,];refine aA (fun U=>?_) (fun U=>?_)
 ·rw[if_pos U];simp only[go_sem];exact .refl _
 rw[if_neg (by rw[U];simp)];simp only[go_sem,X,];exact .refl _
end Nu
end Go.Proofs.YthephioccidfgaaGreatDoor
