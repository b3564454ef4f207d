import Derived.Test.YtgncgpcpbadfnaaGreatDoorVc18
import Derived.Test.YtgncgpcpbadfnaaGreatDoorVc19
set_option linter.unusedSimpArgs false
set_option linter.unusedVariables false
set_option linter.defProp false
set_option maxRecDepth 100000
namespace Go.Proofs.YtgncgpcpbadfnaaGreatDoor
open Go.Aw Go.Aw.D Go.Proofs Ty
namespace Nu
open Go.Nu Go.So Go.Sb
abbrev hlf:ByteArray:=⟨#[49,47,50]⟩
end Nu
namespace Nu
open Go.Proofs.Tryz
open Go.Nu Go.So Go.Sb
def Ue{l:List Int}{d:Int}(h:yZ l d=true):1<=(l.length:Int)/\(l.length:Int)<=3/\(l.length:Int)=d/\∀n∈l,0<=n/\n<=1000:=by
 unfold yZ at h;split at h
 ·cases h
 ·next h1=>
  simp only[Xbm,not_or,Bool.not_eq_true,Xbn,bne_eq_false_iff_eq]at h1;have e:=lB.1 h1.1;exact⟨e.1,e.2,h1.2,fun n A=>lB.1 (Xaj.1 h n A)⟩
def Vi{l:List Int}{d:Int}(h:fE l d=true):(l.length:Int)=d/\∀n∈l,0<=n/\n<=1000:=by
 unfold fE at h;split at h
 ·next h1=>
  refine⟨h1,fun n A=>?_⟩;have:=Xaj.1 h n A;simp at this;omega
 ·cases h
def RN{x:Instance}(h:Acc x):LoadsOk x (jP x.types).toNat/\x.types≠[]:=by
 have A:x.types≠[]:=by intro h0;have:=h.types;rw[h0]at this;simp at this
 obtain⟨t,r,E⟩:=List.exists_cons_of_ne_nil A;have J:jP x.types=t.cap.length:=by rw[E];rfl
 have F:=Ue (h.type t (by rw[E];exact List.mem_cons_self)).cap;have e:((jP x.types).toNat:Int)=jP x.types:=by omega
 refine⟨⟨by omega,by have:=h.orders;omega,by have:=h.types;omega,fun o I=>?_,fun t E=>?_⟩,A⟩
 ·have:=Vi (h.order o I).load;exact⟨by omega,this.2⟩
 ·have:=Ue (h.type t E).cap;exact⟨by omega,this.2.2.2⟩
def acF(c:Cut)(E:Nat)(h:0<=c.set)(A:c.set<9223372036854775808)(F:E<2^63):PC prog 105 [.agg (eP c),int E] (int (Ed c.kind (c.set.toNat &&& E))):=by obtain⟨k,s,n⟩:=c;obtain⟨m,rfl⟩:=Int.eq_ofNat_of_zero_le h;have A:(m:Int)<9223372036854775808:=A;exact ahG k n m E (by omega) F
end Nu
namespace Nu
open Go.Nu
open Dec (jH dC cL kS)
def agX(x:Instance):List Nat:=(List.range x.orders.length).filter (tG (fun _=>true) x.orders)
def jT(x:Instance):List Int:=(agX x).map fun i:Nat=>(i:Int)
def aeX(x:Instance)(k:Nat):List Int:=((List.range k).filter (tG (fun _=>true) x.orders)).map fun i:Nat=>(i:Int)
def Wy(x:Instance)(k:Nat):(aeX x k).length<=k:=by unfold aeX;rw[Xaa];exact Xai (Xbu _ _) (by rw[Xas];exact Xag _)
def FI(x:Instance):(jT x).length<=x.orders.length:=Wy x _
def BH{p q:Nat->Bool}{n:Nat}(h1:∀i,i<n->p i=q i)(A:∀i,n<=i->p i=false):∀m,(List.range (n+m)).filter p=(List.range n).filter q
 | 0=>List.filter_congr fun i E=>h1 i (Xav.1 E)
 | m+1=>by rw[<-Nat.add_assoc,Xbt,List.filter_append,BH h1 A m];simp[A (n+m) (by omega)]
def La(x:Instance)(h:x.orders.length<=62):fA (GC x:Nat)=jT x:=by
 unfold fA tS jT agX
 congr 1
 obtain⟨m,hm⟩:∃m,63=x.orders.length+m:=⟨63-x.orders.length,by omega⟩;have F:∀i,(GC x).testBit i=(decide (i<x.orders.length)&&tG (fun _=>true) x.orders i):=fun i=>wT _ _ _
 have A:∀i:Nat,dH ((GC x:Nat):Int) (i:Int)=(decide (i<x.orders.length)&&tG (fun _=>true) x.orders i):=by
  intro i;by_cases E:i<=62
  ·rw[pR E,F]
  ·unfold dH;rw[decide_eq_false (show ¬((i:Int)<=62)by omega),decide_eq_false (show ¬i<x.orders.length by omega)];simp
 rw[hm];refine BH (fun i E=>?_) (fun i E=>?_) m
 ·rw[A,decide_eq_true E,Xbf]
 ·rw[A,decide_eq_false (by omega),Bool.false_and]
def xX(b:Bool):Int:=if b=true then 1 else 0
def ET(d:Decision):Bool:=d.kind == 3||d.kind == 4
def M6(l:List Decision)(k:Nat):((l.take k).filter ET).length<=k:=Xai (Xbu _ _) (by rw[Xal];omega)
def zU{α:Type}{p:α->Bool}{l:List α}{k:Nat}{a:α}(h:l[k]?=some a):(l.take (k+1)).filter p=(l.take k).filter p++(if p a=true then[a]else[]):=by
 rw[bE h,List.filter_append];by_cases A:p a=true
 ·simp[A]
 ·simp[A]
abbrev eL(l:List Int):Row:=⟨3,1,l.map aQ⟩
def gQ(x:Instance)(cuts:List Cut)(ds:List Decision):Nat:=(jT x).length+x.types.length+cuts.length+(ds.filter ET).length
structure MIn(x:Instance)(cuts:List Cut)(ds:List Decision):Prop where
 orders:x.orders.length<=62
 types:x.types.length<=1048576
 cl:cuts.length<=1048576
 dl:ds.length<=1048576
def Lg(ds:List Decision)(i:Int):Bool:=ds.any fun d=>d.kind == 5&&d.a == i
def LW(x:Instance)(i:Int):Int:=(qQ x.orders i).penalty
def uT(x:Instance)(ds:List Decision)(i:Int):Bool:=decide (LW x i>=0)&& !Lg ds i
def iZ(x:Instance)(ds:List Decision):List Int:=(jT x).filter (uT x ds)
def JM{α:Type}(p:α->Bool)(l:List α)(k:Nat):((l.take k).filter p).length<=k:=Xai (Xbu _ _) (by rw[Xal];omega)
def uQ(x:Instance)(c:Column):List Int:=(jT x).map fun i=>xX (dH c.set i)
def qJ(x:Instance)(c:Column)(k:Nat):List Int:=(List.range k).map fun t:Nat=>xX (c.type == (t:Int))
def uP(c:Column)(cuts:List Cut):List Int:=cuts.map fun q=>Ed q.kind (q.set.toNat &&& c.set.toNat)
def uL(c:Column)(ds:List Decision):List Int:=(ds.filter ET).map fun d=>xX (c.type == d.a)
def rR(x:Instance)(c:Column)(cuts:List Cut)(ds:List Decision):List Int:=uQ x c++qJ x c x.types.length++uP c cuts++uL c ds
structure ColB(c:Column):Prop where
 set:0<=c.set/\c.set<=9223372036854775807
structure CutsB(cuts:List Cut):Prop where
 set:∀q∈cuts,0<=q.set/\q.set<=9223372036854775807
def Bq(x:Instance)(c:Column)(cuts:List Cut)(ds:List Decision):(rR x c cuts ds).length=gQ x cuts ds:=by unfold rR uQ qJ uP uL gQ;simp only[Xaf,Xaa,Xas]
end Nu
namespace Nu
open Go.Proofs.Tryz
open Go.Nu
open Dec (jH dC cL kS)
def Cp(m:List (Int×Int))(o v q:Int):oK (AE m o v) q=if q=o then v else oK m q:=by
 unfold oK AE uB;induction m with
 | nil=>
  by_cases h:q=o
  ·subst h;simp
  ·have E:(o == q)=false:=by simpa using fun e=>h e.symm
   simp[h,E]
 | cons p m ih=>
  rw[List.findIdx?_cons];cases J:p.1 == o with
  | true=>
   have A:p.1=o:=by simpa using J
   simp only[if_true,List.set_cons_zero,List.find?_cons];by_cases h:q=o
   ·subst h;simp
   ·have E:(o == q)=false:=by simpa using fun e=>h e.symm
    have M:(p.1 == q)=false:=by rw[A];exact E
    simp[h,E,M]
  | false=>
   have A:p.1≠o:=by simpa using J
   cases I:m.findIdx? (fun p=>p.1 == o)with
   | none=>
    rw[I]at ih;simp only[Xaz,if_false,Option.map_none,List.cons_append,List.find?_cons];cases F:p.1 == q with
    | true=>
     have:q≠o:=fun e=>A ((by simpa using F:p.1=q).trans e)
     simp[this]
    | false=>simpa using ih
   | some j=>
    rw[I]at ih;simp only[Xaz,if_false,Option.map_some,List.set_cons_succ,List.find?_cons];cases F:p.1 == q with
    | true=>
     have:q≠o:=fun e=>A ((by simpa using F:p.1=q).trans e)
     simp[this]
    | false=>simpa using ih
def aiJ(d:Decision):PC prog 106 [.agg (aO d)] (boo (ET d)):=by refine pcd func106 rfl rfl ?_;simp only[go_sem];exact .refl _
def S5(b:Bool):PC prog 73 [boo b] (int (xX b)):=by
 refine pcd func73 rfl rfl ?_;simp only[go_sem];refine aA (fun A=>?_) (fun A=>?_)
 ·simp only[go_sem];subst A;exact .refl _
 ·simp only[go_sem];subst A;exact .refl _
def abQ(x:Instance)(c:Column)(cuts:List Cut)(ds:List Decision)(h:MIn x cuts ds)(hc:ColB c)(hq:CutsB cuts):
  PC prog 70 [.agg (aE x),.agg (bH c),.sl (cuts.map eP),.sl (ds.map aO)] (.sl ((rR x c cuts ds).map aQ)):=by
 have h1:=h.orders;have h2:=h.types;have h3:=h.cl;have h4:=h.dl;have a0:=FI x;obtain⟨sn,aq⟩:=Int.eq_ofNat_of_zero_le hc.set.1;have an:sn<2^63:=by have:=hc.set.2;omega
 refine pcb (fun t=>t == 9) func70 rfl rfl ?_;simp only[go_sem];refine eQ fun j ax au (R:ax j=some (eL [])) N=>?_
 clear N au;simp only[go_sem,R];refine aP (Nz x h1) ?_;simp only[go_sem];refine aP (jG _) ?_;rw[La x h1];simp only[go_sem];refine⟨fun ρ H=>∃(k:Nat) (j:Nat),k<=(jT x).length/\ρ 2=.sl (cuts.map eP)/\ρ 3=.sl (ds.map aO)/\ρ 4=.rp (aE x) 0/\ρ 5=.rp (bH c) 0/\ρ 19=.sl ((jT x).map aQ)/\ρ 20=int ((jT x).length:Nat)/\ρ 21=int k/\ρ 9=.os j/\H j=some (eL (((jT x).take k).map fun i=>xX (dH c.set i))),fun ρ _=>(jT x).length-aT (ρ 21),⟨0,j,Xab _,by simp only[go_sem],by simp only[go_sem],by simp only[go_sem],by simp only[go_sem],by simp only[go_sem],by simp only[go_sem,Xaa],(by simp only[go_sem];rfl),by simp only[go_sem],R⟩,?_⟩;rintro ρ H ⟨k,j,hk,U,J,e4,A,ab,aa,ac,F,R⟩;simp only[go_sem,U,J,e4,A,ab,aa,ac,F];refine aA (fun E=>?_) (fun I=>?_)
 ·have E:=ltB (by simpa using E);obtain⟨i,hi⟩:=aM E;have b1:=inB E;simp only[go_sem,U,J,e4,A,ab,aa,ac,F,aC hi,b1];refine aP (uC _ i) ?_;simp only[go_sem,U,J,e4,A,ab,aa,ac,F];refine aP (S5 _) ?_;simp only[go_sem,U,J,e4,A,ab,aa,ac,F];refine aX R ⟨rfl,rfl⟩ ⟨rfl,trivial⟩ (by simp only[Xaa,Xal,Xad,List.length_nil];omega) (fun j' ak=>?_);simp only[go_sem,U,J,e4,A,ab,aa,ac,F,aV k];refine⟨⟨k+1,j',E,rfl,rfl,?_⟩,by simp only[aF];omega⟩;rw[bE hi,Xan];exact mD rfl
 have I:=geB hk (by simpa using I);subst I;rw[Xae]at R
 change H j=some (eL (uQ x c))at R
 simp only[go_sem,U,J,e4,A,ab,aa,ac,F,Xaa];refine⟨fun ρ H=>∃(k:Nat) (j:Nat),k<=x.types.length/\ρ 2=.sl (cuts.map eP)/\ρ 3=.sl (ds.map aO)/\ρ 5=.rp (bH c) 0/\ρ 36=int (x.types.length:Nat)/\ρ 37=int k/\ρ 9=.os j/\H j=some (eL (uQ x c++qJ x c k)),fun ρ _=>x.types.length-aT (ρ 37),⟨0,j,Xab _,by simp only[go_sem,U,J,A],by simp only[go_sem,U,J,A],by simp only[go_sem,U,J,A],by simp only[go_sem,Xaa,U,J,A],(by simp only[go_sem,U,J,A];rfl),by simp only[go_sem,F],by simpa[qJ]using R⟩,?_⟩;rintro ρ H ⟨k,j,hk,U,J,A,ae,af,F,R⟩;simp only[go_sem,U,J,A,ae,af,F];refine aA (fun E=>?_) (fun I=>?_)
 ·have E:=ltB (by simpa using E);have ai:(uQ x c++qJ x c k).length<=62+k:=by unfold uQ qJ;simp only[Xaf,Xaa,Xas];omega
  simp only[go_sem,U,J,A,ae,af,F];refine aP (S5 _) ?_;simp only[go_sem,U,J,A,ae,af,F];refine aX R ⟨rfl,rfl⟩ ⟨rfl,trivial⟩ (by simp only[Xaa,Xad,List.length_nil];omega) (fun j' ak=>?_);simp only[go_sem,U,J,A,ae,af,F,aV k];refine⟨⟨k+1,j',E,rfl,rfl,?_⟩,by simp only[aF];omega⟩;have:qJ x c (k+1)=qJ x c k++[xX (c.type == (k:Int))]:=by unfold qJ;rw[Xbt,Xan];rfl
  rw[this,<-Xar];exact mD rfl
 have I:=geB hk (by simpa using I);subst I;simp only[go_sem,U,J,A,ae,af,F,Xaa];refine⟨fun ρ H=>∃(k:Nat) (j:Nat),k<=cuts.length/\ρ 3=.sl (ds.map aO)/\ρ 5=.rp (bH c) 0/\ρ 49=.sl (cuts.map eP)/\ρ 50=int (cuts.length:Nat)/\ρ 51=int k/\ρ 9=.os j/\H j=some (eL (uQ x c++qJ x c x.types.length++uP c (cuts.take k))),fun ρ _=>cuts.length-aT (ρ 51),⟨0,j,Xab _,by simp only[go_sem,J,A],by simp only[go_sem,J,A],by simp only[go_sem,J,A],by simp only[go_sem,Xaa,J,A],(by simp only[go_sem,J,A];rfl),by simp only[go_sem,F],by simpa[uP]using R⟩,?_⟩;rintro ρ H ⟨k,j,hk,J,A,Y,Z,X,F,R⟩;simp only[go_sem,J,A,Y,Z,X,F];refine aA (fun E=>?_) (fun I=>?_)
 ·have E:=ltB (by simpa using E);obtain⟨q,aj⟩:=aM E;have b1:=inB E;have aw:=hq.set q (Xac aj);have ai:(uQ x c++qJ x c x.types.length++uP c (cuts.take k)).length<=62+1048576+1048576:=by unfold uQ qJ uP;simp only[Xaf,Xaa,Xas,Xal];omega
  simp only[go_sem,J,A,Y,Z,X,F,aC aj,b1];refine aJ fun ay ag=>?_
  simp only[go_sem,J,A,Y,Z,X,F,R];refine bP ag (by simp[sK]) fun al (av:al ay=some (⟨105,3,[eP q]⟩)) N=>?_
  replace R:=N R;obtain⟨ao,R⟩:=R;clear N ag;simp only[go_sem,J,A,Y,Z,X,F,av,R];rw[aq];refine aP (acF q sn aw.1 (by omega) an) ?_;simp only[go_sem,J,A,Y,Z,X,F];refine aX R ⟨rfl,rfl⟩ ⟨rfl,trivial⟩ (by simp only[Xaa,Xad,List.length_nil];omega) (fun j' ak=>?_);simp only[go_sem,J,A,Y,Z,X,F,aV k];refine⟨⟨k+1,j',E,rfl,rfl,?_⟩,by simp only[aF];omega⟩;have:uP c (cuts.take (k+1))=uP c (cuts.take k)++[Ed q.kind (q.set.toNat &&& sn)]:=by unfold uP;rw[bE aj,Xan,aq];rfl
  rw[this,<-Xar];exact mD rfl
 have I:=geB hk (by simpa using I);subst I;rw[Xae]at R;simp only[go_sem,J,A,Y,Z,X,F,Xaa];refine⟨fun ρ H=>∃(k:Nat) (j:Nat),k<=ds.length/\ρ 5=.rp (bH c) 0/\ρ 63=.sl (ds.map aO)/\ρ 64=int (ds.length:Nat)/\ρ 65=int k/\ρ 9=.os j/\H j=some (eL (uQ x c++qJ x c x.types.length++uP c cuts++uL c (ds.take k))),fun ρ _=>ds.length-aT (ρ 65),⟨0,j,Xab _,by simp only[go_sem,A],by simp only[go_sem,A],by simp only[go_sem,Xaa,A],(by simp only[go_sem,A];rfl),by simp only[go_sem,F],by simpa[uL]using R⟩,?_⟩;rintro ρ H ⟨k,j,hk,A,O,T,M,F,R⟩;simp only[go_sem,A,O,T,M,F];refine aA (fun E=>?_) (fun I=>?_)
 ·have E:=ltB (by simpa using E);obtain⟨d,hd⟩:=aM E;have b1:=inB E;have hs:=zU (p:=ET) hd;have ai:(uQ x c++qJ x c x.types.length++uP c cuts++uL c (ds.take k)).length<=62+1048576+1048576+1048576:=by have:=M6 ds k;unfold uQ qJ uP uL;simp only[Xaf,Xaa,Xas];omega
  simp only[go_sem,A,O,T,M,F,aC hd,b1];refine aJ fun az ah=>?_
  simp only[go_sem,A,O,T,M,F,R];refine bP ah (by simp[gK]) fun am (ar:am az=some (⟨58,4,[aO d]⟩)) N=>?_
  replace R:=N R;obtain⟨ap,R⟩:=R;clear N ah;simp only[go_sem,A,O,T,M,F,ar,R];refine aP (aiJ d) ?_;simp only[go_sem,A,O,T,M,F];refine aA (fun hb=>?_) (fun hb=>?_)
  ·rw[if_pos hb]at hs;have:uL c (ds.take (k+1))=uL c (ds.take k)++[xX (c.type == d.a)]:=by unfold uL;rw[hs,Xan,Xaw,List.map_nil]
   simp only[go_sem,A,O,T,M,F,ar];refine aP (S5 _) ?_;simp only[go_sem,A,O,T,M,F];refine aX R ⟨rfl,rfl⟩ ⟨rfl,trivial⟩ (by simp only[Xaa,Xad,List.length_nil];omega) (fun j' ak=>?_);simp only[go_sem,A,O,T,M,F,aV k];refine⟨⟨k+1,j',E,rfl,rfl,?_⟩,by simp only[aF];omega⟩;rw[this,<-Xar];exact mD rfl
  ·rw[if_neg (by rw[hb];simp),Xak]at hs;simp only[go_sem,A,O,T,M,F,aV k];refine⟨⟨k+1,j,E,rfl,rfl,?_⟩,by simp only[aF];omega⟩;have:uL c (ds.take (k+1))=uL c (ds.take k):=by unfold uL;rw[hs]
   rw[this];exact R
 have I:=geB hk (by simpa using I);subst I;rw[Xae]at R;simp only[go_sem,A,O,T,M,F];exact .row _ _ _ R (ConvE.refl _)
def inM(cols:List Column)(ds:List Decision):List Column:=cols.filter fun c=>ds.all fun d=>cL d c.set
abbrev Tb(l:List Column):Row:=⟨160,7,l.map bH⟩
def Dr(A:List Column)(ds:List Decision)(hl:A.length<=1048576)(hd:ds.length<=1048576):PC prog 67 [.sl (A.map bH),.sl (ds.map aO)] (.sl ((inM A ds).map bH)):=by
 refine pcb (fun t=>t == 5) func67 rfl rfl ?_;simp only[go_sem];refine eQ fun j ab aa (R:ab j=some (Tb [])) N=>?_
 clear N aa;simp only[go_sem,R];refine⟨fun ρ H=>∃(k:Nat) (j:Nat),k<=A.length/\ρ 1=.sl (ds.map aO)/\ρ 8=.sl (A.map bH)/\ρ 9=int (A.length:Nat)/\ρ 10=int k/\ρ 5=.os j/\H j=some (Tb (inM (A.take k) ds)),fun ρ _=>A.length-aT (ρ 10),⟨0,j,Xab _,by simp only[go_sem],by simp only[go_sem],by simp only[go_sem,Xaa],(by simp only[go_sem];rfl),by simp only[go_sem],R⟩,?_⟩;rintro ρ H ⟨k,j,hk,J,M,O,E,I,R⟩;simp only[go_sem,J,M,O,E,I];refine aA (fun F=>?_) (fun U=>?_)
 ·have F:=ltB (by simpa using F);obtain⟨c,hc⟩:=aM F;have b1:=inB F;have Z:inM (A.take (k+1)) ds=inM (A.take k) ds++(if(ds.all fun d=>cL d c.set)=true then[c]else[]):=zU (p:=fun c:Column=>ds.all fun d=>cL d c.set) hc;have ac:(inM (A.take k) ds).length<=k:=JM _ _ _;simp only[go_sem,J,M,O,E,I,aC hc,b1];refine aJ fun i7 T=>?_
  simp only[go_sem,J,M,O,E,I,R];refine bP T (by simp[eH]) fun X (R7:X i7=some (⟨160,7,[bH c]⟩)) N=>?_
  replace R:=N R;obtain⟨Y,R⟩:=R;clear N T;simp only[go_sem,J,M,O,E,I,R7,R];refine aP (Dec.Xs ds c hd) ?_;simp only[go_sem,J,M,O,E,I];refine aA (fun hb=>?_) (fun hb=>?_)
  ·rw[if_pos hb]at Z;simp only[go_sem,J,M,O,E,I,R7];refine aX R ⟨rfl,rfl⟩ ⟨rfl,trivial⟩ (by simp only[Xaa,Xad,List.length_nil];omega) (fun j' ae=>?_);simp only[go_sem,J,M,O,E,I,aV k];refine⟨⟨k+1,j',F,rfl,rfl,?_⟩,by simp only[aF];omega⟩;rw[Z];exact mD rfl
  ·rw[if_neg (by rw[hb];simp),Xak]at Z;simp only[go_sem,J,M,O,E,I,aV k];exact⟨⟨k+1,j,F,rfl,rfl,by rw[Z];exact R⟩,by simp only[aF];omega⟩
 have U:=geB hk (by simpa using U);subst U;rw[Xae]at R;simp only[go_sem,J,M,O,E,I];exact .row _ _ _ R (ConvE.refl _)
def Ph{a b:Nat}(I:a<2^63)(O:b<2^63):∃s:Nat,pP .andNot .i64 (a:Int) (b:Int)=(s:Int)/\s<=a/\∀i,s.testBit i=(a.testBit i&& !b.testBit i):=by
 have h1:((a:Int)%((2^64:Nat):Int)).toNat=a:=by omega
 have M:((b:Int)%((2^64:Nat):Int)).toNat=b:=by omega
 have J:BitVec.ofInt 64 (a:Int)=BitVec.ofNat 64 a:=by apply BitVec.eq_of_toNat_eq;rw[BitVec.toNat_ofInt,BitVec.toNat_ofNat,h1,Xbc (by omega)]
 have F:BitVec.ofInt 64 (b:Int)=BitVec.ofNat 64 b:=by apply BitVec.eq_of_toNat_eq;rw[BitVec.toNat_ofInt,BitVec.toNat_ofNat,M,Xbc (by omega)]
 have A:(BitVec.ofNat 64 a &&& ~~~BitVec.ofNat 64 b).toNat<=a:=by rw[BitVec.toNat_and,BitVec.toNat_ofNat,Xbc (by omega:a<2^64)];exact Nat.and_le_left
 refine⟨(BitVec.ofNat 64 a &&& ~~~BitVec.ofNat 64 b).toNat,?_,A,fun i=>?_⟩
 ·have h:((BitVec.ofInt 64 (a:Int) &&& ~~~(BitVec.ofInt 64 (b:Int))).toNat:Int)=(((BitVec.ofNat 64 a &&& ~~~BitVec.ofNat 64 b).toNat:Nat):Int):=by rw[J,F]
  refine Eq.trans (congrArg IntKind.i64.wrap h) ?_;exact bG (by omega)
 ·rw[BitVec.testBit_toNat];by_cases E:i<64
  ·simp only[BitVec.getLsbD_and,BitVec.getLsbD_not,BitVec.getLsbD_ofNat,E,decide_true,Xbf]
  ·rw[BitVec.getLsbD_of_ge _ _ (by omega),Nat.testBit_lt_two_pow (Xbi I (Xau (by decide) (by omega)))];rfl
def WT(x:Instance)(h:x.orders.length<=62)(ds:List Decision){s:Nat}(T:∀i,s.testBit i=((GC x).testBit i&& !(Ek x).testBit i)):
  (fA (s:Int)).filter (uT x ds)=iZ x ds/\(fA (s:Int)).length<=63/\∀i∈fA (s:Int),∃n o,i=((n:Nat):Int)/\n<x.orders.length/\x.orders[n]?=some o:=by
 have O:∀i,(GC x).testBit i=(decide (i<x.orders.length)&&tG (fun _=>true) x.orders i):=fun i=>wT _ _ _
 have Y:∀i,(Ek x).testBit i=(decide (i<x.orders.length)&&tG (fun o=>o.penalty == -1) x.orders i):=fun i=>wT _ _ _
 have I:∀i:Nat,dH ((s:Nat):Int) (i:Int)=(decide (i<x.orders.length)&&(tG (fun _=>true) x.orders i&& !tG (fun o=>o.penalty == -1) x.orders i)):=by
  intro i;by_cases A:i<x.orders.length
  ·rw[pR (by omega),T,O,Y,decide_eq_true A];simp
  ·rw[decide_eq_false A,Bool.false_and];by_cases M:i<=62
   ·rw[pR M,T,O,decide_eq_false A];simp
   ·unfold dH;rw[decide_eq_false (show ¬((i:Int)<=62)by omega)];simp
 have F:fA (s:Int)=((List.range x.orders.length).filter fun i=>tG (fun _=>true) x.orders i&& !tG (fun o=>o.penalty == -1) x.orders i).map fun i:Nat=>(i:Int):=by
  unfold fA tS
  congr 1
  obtain⟨m,hmm⟩:∃m,63=x.orders.length+m:=⟨63-x.orders.length,by omega⟩;rw[hmm];refine BH (fun i A=>?_) (fun i A=>?_) m
  ·rw[I,decide_eq_true A,Xbf]
  ·rw[I,decide_eq_false (by omega),Bool.false_and]
 refine⟨?_,?_,?_⟩
 ·rw[F];unfold iZ jT agX;rw[List.filter_map,List.filter_map,List.filter_filter,List.filter_filter]
  congr 1
  refine List.filter_congr fun i A=>?_
  have E:=Xav.1 A;obtain⟨o,J⟩:=aM E;rw[G9 J,G9 J];have X:LW x (i:Int)=o.penalty:=by unfold LW;rw[pO J]
  show(uT x ds (i:Int)&&_)=(uT x ds (i:Int)&&_);by_cases U:o.penalty= -1
  ·have:uT x ds (i:Int)=false:=by unfold uT;rw[X,U];rfl
   rw[this];rfl
  ·have:(o.penalty == -1)=false:=by simpa using U
   rw[this];simp
 ·exact pH _ 63
 ·intro i A;rw[F]at A;obtain⟨n,Z,rfl⟩:=Xay.1 A;have E:=Xav.1 (List.mem_filter.1 Z).1;obtain⟨o,J⟩:=aM E;exact⟨n,o,rfl,E,J⟩
def Lq(ds:List Decision)(i:Int):Nat:=ds.countP fun d=>d.kind == 5&&d.a == i
def Ix{ds:List Decision}{k:Nat}{d:Decision}{i:Int}(h:ds[k]?=some d):Lq (ds.take (k+1)) i=Lq (ds.take k) i+(if(d.kind == 5&&d.a == i)=true then 1 else 0):=by unfold Lq;rw[bE h,List.countP_append,List.countP_cons,List.countP_nil,Nat.zero_add]
def acZ(ds:List Decision)(k:Nat)(i:Int):Lq (ds.take k) i<=k:=Xai List.countP_le_length (by rw[Xal];omega)
def UY(ds:List Decision)(i:Int):((Lq ds i:Int) == 0)= !Lg ds i:=by
 unfold Lq Lg;rw[Xap];simp only[Xba,Xbk,Xax];constructor
 ·intro h d A E;have:0<ds.countP fun d=>d.kind == 5&&d.a == i:=List.countP_pos_iff.2 ⟨d,A,E⟩
  omega
 ·intro h;have:(ds.countP fun d=>d.kind == 5&&d.a == i)=0:=List.countP_eq_zero.2 h;omega
def abM(x:Instance)(ds:List Decision)(hx:x.orders.length<=62)(hd:ds.length<=1048576):PC prog 68 [.agg (aE x),.sl (ds.map aO)] (.sl ((iZ x ds).map aQ)):=by
 refine pcb (fun t=>t == 8) func68 rfl rfl ?_;simp only[go_sem];refine eQ fun jm an ak (J:an jm=some (qA [])) N=>?_
 clear N ak;simp only[go_sem,Xaa,J];refine⟨fun ρ H=>∃(k:Nat) (m:List (Int×Int)),k<=ds.length/\ρ 2=.rp (aE x) 0/\ρ 5=.om jm/\ρ 12=.sl (ds.map aO)/\ρ 13=int (ds.length:Nat)/\ρ 14=int k/\H jm=some (qA m)/\(∀i,oK m i=(Lq (ds.take k) i:Nat)),fun ρ _=>ds.length-aT (ρ 14),⟨0,[],Xab _,by simp only[go_sem],by simp only[go_sem],by simp only[go_sem],by simp only[go_sem,Xaa],(by simp only[go_sem];rfl),J,fun _=>rfl⟩,?_⟩;rintro ρ H ⟨k,m,hk,A,O,I,F,E,J,hm⟩;simp only[go_sem,A,O,I,F,E];refine aA (fun T=>?_) (fun X=>?_)
 ·have T:=ltB (by simpa using T);obtain⟨d,ai⟩:=aM T;have b1:=inB T;simp only[go_sem,A,O,I,F,E,aC ai,b1];refine aJ fun i7 af=>?_
  simp only[go_sem,A,O,I,F,E,J];refine bP af (by simp[gK]) fun al (R7:al i7=some (⟨58,4,[aO d]⟩)) N=>?_
  replace J:=N J;obtain⟨aj,J⟩:=J;clear N af;simp only[go_sem,A,O,I,F,E,R7,J];refine aA (fun hb=>?_) (fun hb=>?_)
  ·have ah:d.kind=5:=by simpa using hb
   have az:=acZ ds k d.a;have aw:=hm d.a;have wm:IntKind.i64.wrap (oK m d.a+1)=oK m d.a+1:=bG (by omega);simp only[go_sem,A,O,I,F,E,R7];refine uX J AG (kO _) (iT _ _) zv3 ?_;rw[uS];simp only[go_sem,A,O,I,F,E,wm];refine Fj J AG (kO _) (iT _ _) ?_;rw[yU];generalize hP:aI _ jm _=HP;replace J:HP jm=some (qA (AE m d.a (oK m d.a+1))):=by rw[<-hP,aB];skip
   clear hP;simp only[go_sem,A,O,I,F,E,J];simp only[aV k];refine⟨⟨k+1,AE m d.a (oK m d.a+1),T,rfl,rfl,fun o=>?_⟩,by simp only[aF];omega⟩;rw[Cp,Ix ai,hm o,hm d.a];by_cases e:o=d.a
   ·subst e;rw[ah];simp
   ·have A:(d.kind == 5&&d.a == o)=false:=by simp;exact fun _ h=>e h.symm
    rw[if_neg e,A];simp
  ·have ah:d.kind≠5:=by simpa using hb
   simp only[go_sem,A,O,I,F,E,aV k];refine⟨⟨k+1,m,T,rfl,J,fun o=>?_⟩,by simp only[aF];omega⟩;have A:(d.kind == 5&&d.a == o)=false:=by simp;exact fun h=>absurd h ah
   rw[Ix ai,hm o,A];simp
 have X:=geB hk (by simpa using X);subst X;rw[Xae]at hm;simp only[go_sem,A,O,I,F,E];refine eQ fun j ar aq (R:ar j=some (eL [])) N=>?_
 replace J:=N J;obtain⟨U,J⟩:=J;clear N aq;simp only[go_sem,A,O,I,F,E,R,J];refine CN [(0,true),(1,true),(2,true),(3,true),(4,true),(7,true),(5,false),(6,false)] (by kernel_rfl) ?_;have am:GC x<2^63:=Xbi (Cz _ _) (Xau (by decide) (by omega));have ap:Ek x<2^63:=Xbi (Cz _ _) (Xau (by decide) (by omega));obtain⟨s,av,ay,au⟩:=Ph am ap;obtain⟨q1,q2,q3⟩:=WT x hx ds au;rw[<-q1];clear q1;simp only[go_sem,A,O,I,F,E];refine⟨_,(Nz x hx).q rfl,?_⟩;simp only[go_sem,A,O,I,F,E];refine⟨_,(XA x hx).q rfl,?_⟩;simp only[go_sem,A,O,I,F,E,av];refine aP (jG _) ?_;generalize fA (s:Int)=M at *;simp only[go_sem,A,O,I,F,E,Xaa];refine⟨fun ρ H=>∃(k:Nat) (j:Nat),k<=M.length/\ρ 2=.rp (aE x) 0/\ρ 5=.om jm/\ρ 32=.sl (M.map aQ)/\ρ 33=int (M.length:Nat)/\ρ 34=int k/\ρ 8=.os j/\H j=some (eL ((M.take k).filter (uT x ds)))/\H jm=some (qA m),fun ρ _=>M.length-aT (ρ 34),⟨0,j,Xab _,by simp only[go_sem,A,O],by simp only[go_sem,A,O],by simp only[go_sem,A,O],by simp only[go_sem,Xaa,A,O],(by simp only[go_sem,A,O];rfl),by simp only[go_sem],R,J⟩,?_⟩;rintro ρ H ⟨k,j,hk,A,O,Y,Z,aa,e8,R,J⟩;simp only[go_sem,A,O,Y,Z,aa,e8];refine aA (fun T=>?_) (fun X=>?_)
 ·have T:=ltB (by simpa using T);obtain⟨i,hi⟩:=aM T;have b1:=inB T;obtain⟨n,o,rfl,hn,ho⟩:=q3 i (Xac hi);have b2:=inB hn;have ae:=zU (p:=uT x ds) hi;have ax:=JM (uT x ds) M k;have ao:LW x (n:Int)=o.penalty:=by unfold LW;rw[pO ho]
  simp only[go_sem,A,O,Y,Z,aa,e8,aC hi,b1,aC ho,b2];refine uX J AG (kO _) (iT _ _) zv3 ?_;rw[uS,hm];simp only[go_sem,A,O,Y,Z,aa,e8];have ac:(decide (o.penalty>=0)&&((Lq ds (n:Int):Nat):Int) == 0)=uT x ds (n:Int):=by unfold uT;rw[ao,UY]
  refine aA (fun hb=>?_) (fun hb=>?_)
  ·rw[if_pos (by rw[<-ac];exact hb)]at ae;have U:jm≠j:=fun e=>by subst e;rw[J]at R;cases R
   simp only[go_sem,A,O,Y,Z,aa,e8];refine aX R ⟨rfl,rfl⟩ ⟨rfl,trivial⟩ (by simp only[Xaa,Xad,List.length_nil];omega) (fun j' ag=>?_);have ab:jm≠j':=aR J ag;generalize hP:aI (aI _ j none) j' _=HP;replace J:=kpB hP ab (by first|exact U|exact ne_j_jm.symm) J;have Rn:HP j'=some (eL ((M.take (k+1)).filter (uT x ds))):=by rw[<-hP,aB];rw[ae];exact congrArg (fun l=>some (⟨3,1,l⟩:Row)) (Xan (f:=aQ) (l₁:=(M.take k).filter (uT x ds)) (l₂:=[(n:Int)])).symm
   clear hP ag;simp only[go_sem,A,O,Y,Z,aa,e8,Rn,J];simp only[aV k];exact⟨⟨k+1,j',T,rfl,rfl,Rn⟩,by simp only[aF];omega⟩
  ·rw[if_neg (by rw[<-ac,show(decide (o.penalty>=0)&&((Lq ds (n:Int):Nat):Int) == 0)=false from hb];simp),Xak]at ae;simp only[go_sem,A,O,Y,Z,aa,e8,aV k];exact⟨⟨k+1,j,T,rfl,rfl,by rw[ae];exact R,J⟩,by simp only[aF];omega⟩
 have X:=geB hk (by simpa using X);subst X;rw[Xae]at R;simp only[go_sem,A,O,Y,Z,aa,e8];exact .row _ _ _ R (ConvE.refl _)
def F4{n:Int}(h0: -9223372036854775808<=n)(h1:n<=9223372036854775807):(zed n).size<=8194:=by have:=Go.Nu.gS (m:=n) (Q6 (k:=20) (by omega) (by omega));omega
def E6(b:Bool):xX b=0\/xX b=1:=by cases b <;> simp[xX]
def XT(k:Int)(n:Nat):Ed k n=0\/Ed k n=1:=by unfold Ed;split <;> simp
def Vm{x:Instance}{c:Column}{cuts:List Cut}{ds:List Decision}{n:Int}(h:n∈rR x c cuts ds):n=0\/n=1:=by
 unfold rR uQ qJ uP uL at h;simp only[Xat,Xay]at h;rcases h with((⟨i,_,rfl⟩|⟨i,_,rfl⟩)|⟨i,_,rfl⟩)|⟨i,_,rfl⟩
 ·exact E6 _
 ·exact E6 _
 ·exact XT _ _
 ·exact E6 _
def FY(x:Instance)(c:Column):Bool:=decide (c.type<0)||decide (c.type>=(x.types.length:Int))||decide (c.set<=0)|| !decide (c.set.toNat &&& GC x=c.set.toNat)
def Ac(x:Instance)(d:Nat)(cols:List Column)(cuts:List Cut)(ds:List Decision):Int:=
 if jH x ds≠0 then jH x ds else if Dec.jJ (cuts.map (oI x d))≠0 then Dec.jJ (cuts.map (oI x d))else if cols.any (FY x)=true then 2 else 0
def aaM(x:Instance)(d:Nat)(A:List Column)(cuts:List Cut)(ds:List Decision)(al:LoadsOk x d)(ao:x.types≠[])(h:MIn x cuts ds)(hl:A.length<=1048576)(hs:∀c∈A,c.set<=9223372036854775807):
  PC prog 65 [.agg (aE x),.sl (A.map bH),.sl (cuts.map eP),.sl (ds.map aO)] (int (Ac x d A cuts ds)):=by
 have h1:=h.orders;have h2:=h.types;have h3:=h.cl;have h4:=h.dl;unfold Ac;refine pcd func65 rfl rfl ?_;simp only[go_sem];refine aP (Dec.X8 x ds h4) ?_;simp only[go_sem];refine aA (fun O=>?_) (fun O=>?_)
 ·rw[if_pos (by simpa using O)];simp only[go_sem];exact .refl _
 rw[if_neg (by simpa using O)];simp only[go_sem,Xaa];refine⟨fun ρ H=>∃(k:Nat),k<=cuts.length/\ρ 1=.sl (A.map bH)/\ρ 4=.rp (aE x) 0/\ρ 22=.sl (cuts.map eP)/\ρ 23=int (cuts.length:Nat)/\ρ 24=int k/\(∀e∈(cuts.map (oI x d)).take k,e=0),fun ρ _=>cuts.length-aT (ρ 24),⟨0,Xab _,by simp only[go_sem],by simp only[go_sem],by simp only[go_sem],by simp only[go_sem,Xaa],(by simp only[go_sem];rfl),by simp⟩,?_⟩;rintro ρ H ⟨k,hk,e1,F,M,I,J,hz⟩;simp only[go_sem,e1,F,M,I,J];refine aA (fun E=>?_) (fun T=>?_)
 ·have E:=ltB (by simpa using E);obtain⟨q,hq⟩:=aM E;have b1:=inB E;have hm:(cuts.map (oI x d))[k]?=some (oI x d q):=by rw[List.getElem?_map,hq];rfl
  simp only[go_sem,e1,F,M,I,J,aC hq,b1];refine aJ fun i11 ab=>?_
  simp only[go_sem,e1,F,M,I,J];refine bP ab (by simp[sK]) fun ae (am:ae i11=some (⟨105,3,[eP q]⟩)) N=>?_
  clear N ab;simp only[go_sem,e1,F,M,I,J,am];refine aP (NR x d q al ao) ?_;simp only[go_sem,e1,F,M,I,J];refine aA (fun O=>?_) (fun O=>?_)
  ·have he:=Dec.Ct hz hm O;rw[if_pos (by rw[he];simpa using O),he];simp only[go_sem];exact .refl _
  ·simp only[go_sem,e1,F,M,I,J,aV k];exact⟨⟨k+1,E,rfl,fG (p:=fun e:Int=>e=0) hm (by simpa using O) hz⟩,by simp only[aF];omega⟩
 have T:=geB hk (by simpa using T);subst T;rw[Xaq (by rw[Xaa];exact Xag _)]at hz;rw[if_neg (by rw[Dec.AY hz];simp)];simp only[go_sem,e1,F,M,I,J];refine aP (Nz x h1) ?_;simp only[go_sem,e1,F,M,I,J,Xaa];refine⟨fun ρ H=>∃(k:Nat),k<=A.length/\ρ 4=.rp (aE x) 0/\ρ 13=int (GC x:Nat)/\ρ 37=.sl (A.map bH)/\ρ 38=int (A.length:Nat)/\ρ 39=int k/\(∀c∈A.take k,FY x c=false),fun ρ _=>A.length-aT (ρ 39),⟨0,Xab _,by simp only[go_sem,F],by simp only[go_sem,F],by simp only[go_sem,F],by simp only[go_sem,Xaa,F],(by simp only[go_sem,F];rfl),by simp⟩,?_⟩;rintro ρ H ⟨k,hk,F,U,X,Y,Z,hz⟩;simp only[go_sem,F,U,X,Y,Z];refine aA (fun E=>?_) (fun T=>?_)
 ·have E:=ltB (by simpa using E);obtain⟨c,hc⟩:=aM E;have b1:=inB E;have aq:=hs c (Xac hc);simp only[go_sem,F,U,X,Y,Z,aC hc,b1];refine aJ fun aj aa=>?_
  simp only[go_sem,F,U,X,Y,Z];refine bP aa (by simp[eH]) fun af (ak:af aj=some (⟨160,7,[bH c]⟩)) N=>?_
  clear N aa;simp only[go_sem,F,U,X,Y,Z,ak];have ac:(decide (c.type<0)||decide (c.type>=(x.types.length:Int))||decide (c.set<=0)||(pP .andNot .i64 c.set ((GC x:Nat):Int) != 0))=FY x c:=by
   unfold FY;by_cases h0:c.set<=0
   ·rw[decide_eq_true h0];simp
   ·obtain⟨s,ap⟩:=Int.eq_ofNat_of_zero_le (show 0<=c.set by omega);have ai:GC x<2^63:=Xbi (Cz _ _) (Xau (by decide) (by omega));rw[ap,bne,F9 (by omega) ai,Xbd]
  refine aA (fun O=>?_) (fun O=>?_)
  ·have O:FY x c=true:=by rw[<-ac];exact O
   rw[if_pos (Xao.2 ⟨c,Xac hc,O⟩)];simp only[go_sem];exact .refl _
  ·have O:FY x c=false:=by rw[<-ac];exact O
   simp only[go_sem,F,U,X,Y,Z,aV k];exact⟨⟨k+1,E,rfl,fG (p:=fun c=>FY x c=false) hc O hz⟩,by simp only[aF];omega⟩
 have T:=geB hk (by simpa using T);subst T;rw[Xae]at hz;have ag:¬A.any (FY x)=true:=by intro hc;obtain⟨c,an,ah⟩:=Xao.1 hc;rw[hz c an]at ah;cases ah
 rw[if_neg ag];simp only[go_sem,F,U,X,Y,Z];exact .refl _
end Nu
namespace Nu
open Go.Proofs.Tryz
open Go.Nu
def aiF(s:ByteArray)(n:Int)(h:s.size<=1048576)(h0: -9223372036854775808<=n)(h1:n<=9223372036854775807)(A:(zW s).1.size<=1048576):PC prog 46 [str s,int n] (boo ((zW s).2 == 0&&decide (L8 (zW s).1 (zed n)>=0))):=by refine pcd func46 rfl rfl ?_;simp only[go_sem];refine aP (afQ s h) ?_;simp only[go_sem];refine⟨_,fun _=>(AF n h0 h1).q rfl,?_⟩;simp only[go_sem];refine⟨_,fun _=>(sB _ _ A (Xai (F4 h0 h1) (by decide))).q rfl,?_⟩;simp only[go_sem];exact .refl _
end Nu
namespace Nu
open Go.Nu
def nE(n:Int):Prop:= -9223372036854775808<=n/\n<=9223372036854775807
structure LinB(p:PLin):Prop where
 rows:p.rows.length<=1048576
 cost:p.cost.length<=1048576
 coef:∀r∈p.rows,∀n∈r.coef,nE n
 right:∀r∈p.rows,nE r.right
structure VarB(v:List ByteArray):Prop where
 len:v.length<=1048576
 size:∀s∈v,s.size<=1048576
def QH{ns:List Int}{xs:List ByteArray}:(iD ns xs).1.size<=8194:=by
 by_cases h:(iD ns xs).2=0
 ·exact yH (NI h)
 ·have : (iD ns xs).1 = emp := by
   unfold iD at h |-;split
   ·rfl
   ·split
    ·rfl
    ·next h1 h2=>
     rw[if_neg h1,if_neg h2]at h;have:∀(l:List (Int×ByteArray)) (t:ByteArray),(pW l t).2≠0->(pW l t).1=emp:=by
      intro l;induction l with
      | nil=>intro t h;exact absurd rfl h
      | cons p l ih=>
       intro t h;unfold pW at h |-;split
       ·rfl
       ·next A=>
        rw[if_neg A]at h;split
        ·rfl
        ·next E=>rw[if_neg E]at h;exact ih _ h
     exact this _ _ h
  rw[this];decide
end Nu
namespace Nu
open Go.Proofs.Tryz
open Go.Nu
def UW(k:Int)(s:ByteArray):Bool:= !cZ s||k == 1&&decide (D0 s>0)||k == 3&&decide (D0 s<0)
def Fi(p:PLin)(v:List ByteArray):Bool:=if v.length≠p.rows.length then false else !((p.rows.zip v).any fun q=>UW q.1.kind q.2)
def TC(p:PLin)(v:List ByteArray)(hp:LinB p)(hv:VarB v):PC prog 74 [.agg (iG p),.sl (v.map Go.Aw.D.dL)] (boo (Fi p v)):=by
 have ab:=hv.len;have ac:=hp.rows;unfold Fi;refine pcd func74 rfl rfl ?_;simp only[go_sem];refine aA (fun h1=>?_) (fun h1=>?_)
 ·rw[if_pos (by simp at h1;omega)];simp only[go_sem];exact .refl _
 have hl:v.length=p.rows.length:=by simp at h1;omega
 rw[if_neg (by simpa using hl)];simp only[go_sem];refine⟨fun ρ H=>∃(k:Nat),k<=p.rows.length/\ρ 1=.sl (v.map Go.Aw.D.dL)/\ρ 15=.sl (p.rows.map jU)/\ρ 16=int (p.rows.length:Nat)/\ρ 17=int k/\(∀q∈(p.rows.zip v).take k,UW q.1.kind q.2=false),fun ρ _=>p.rows.length-aT (ρ 17),⟨0,Xab _,by simp only[go_sem],by simp only[go_sem],by simp only[go_sem,Xaa],(by simp only[go_sem];rfl),by simp⟩,?_⟩;rintro ρ H ⟨k,hk,J,A,F,E,hz⟩;simp only[go_sem,J,A,F,E];refine aA (fun I=>?_) (fun T=>?_)
 ·have I:=ltB (by simpa using I);obtain⟨r,hr⟩:=aM I;obtain⟨s,O⟩:=aM (show k<v.length by omega);have b1:=inB I;have X:=inB (show k<v.length by omega);have Z:=hv.size s (Xac O);have Y:(p.rows.zip v)[k]?=some (r,s):=by rw[List.getElem?_zip_eq_some];exact⟨hr,O⟩
  simp only[go_sem,J,A,F,E,aC O,b1,aC hr,X];refine aJ fun i6 M=>?_
  simp only[go_sem,J,A,F,E,aC O,X];refine bP M (by simp[sV]) fun U (R6:U i6=some (⟨157,3,[jU r]⟩)) N=>?_
  clear N M;simp only[go_sem,J,A,F,E,aC O,X,R6];refine aP (Tl s Z) ?_;simp only[go_sem,J,A,F,E,aC O,X,R6];refine aP (rL s Z) ?_;simp only[go_sem,J,A,F,E,aC O,X,R6];have aa:UW r.kind s=(!cZ s||r.kind == 1&&decide (D0 s>0)||r.kind == 3&&decide (D0 s<0)):=rfl;refine aA (fun hb=>?_) (fun hb=>?_)
  ·rw[show((p.rows.zip v).any fun q=>UW q.1.kind q.2)=true from Xao.2 ⟨(r,s),Xac Y,aa.trans hb⟩];simp only[go_sem];exact .refl _
  ·simp only[go_sem,J,A,F,E,aV k];exact⟨⟨k+1,I,rfl,fG (p:=fun q:PRow×ByteArray=>UW q.1.kind q.2=false) Y (aa.trans hb) hz⟩,msr I⟩
 have T:=geB hk (by simpa using T);subst T;rw[Xaq (by rw[List.length_zip];omega)]at hz;rw[show((p.rows.zip v).any fun q=>UW q.1.kind q.2)=false from Xax.2 fun q hq=>by rw[hz q hq];simp];simp only[go_sem,J,A,F,E];exact .refl _
def Lr(p:PLin)(i:Nat):List Int:=p.rows.map fun r=>r.coef.getD i 0
def Jc(p:PLin)(v:List ByteArray)(lim:Nat->Int)(i:Nat):Bool:=(iD (Lr p i) v).2 != 0||decide (L8 (iD (Lr p i) v).1 (zed (lim i))>0)
def Ll(p:PLin)(v:List ByteArray)(lim:Nat->Int):Bool:= !((List.range p.cost.length).any (Jc p v lim))
def zO{ns:List Int}{xs:List ByteArray}:(iD ns xs).1.size<=8194:=QH
def Uf(p:PLin)(v:List ByteArray)(M:Nat->Int)(fn:AV)(g:Nat)(cap:List AV)(hp:LinB p)(ai:∀r∈p.rows,r.coef.length=p.cost.length)(hc:∀i,i<p.cost.length->nE (M i))(hv:VarB v)
  (av:HT fn=some (g,[],cap)) (hw:∀(G:Option Bool) (k:AV->Prop),bR G fn k=k fn) (am:aG prog g=true) (hg:∀i,i<p.cost.length->PC prog g (int (i:Nat)::cap) (int (M i))):
  PC prog 75 [.agg (iG p),.sl (v.map Go.Aw.D.dL),fn] (boo (Ll p v M)):=by
 have aw:=hp.cost;have a0:=hp.rows;unfold Ll;refine pcd func75 rfl rfl ?_;simp only[go_sem];refine⟨fun ρ H=>∃(k:Nat),k<=p.cost.length/\ρ 1=.sl (v.map Go.Aw.D.dL)/\ρ 2=fn/\ρ 3=.rp (iG p) 0/\ρ 15=int (p.cost.length:Nat)/\ρ 16=int k/\(∀q∈(List.range p.cost.length).take k,Jc p v M q=false),fun ρ _=>p.cost.length-aT (ρ 16),⟨0,Xab _,by simp only[go_sem],by simp only[go_sem],by simp only[go_sem],by simp only[go_sem,Xaa],(by simp only[go_sem];rfl),by simp⟩,?_⟩;rintro ρ H ⟨k,hk,J,F,I,A,E,hz⟩;simp only[go_sem,J,F,I,A,E];refine aA (fun O=>?_) (fun af=>?_)
 ·have O:=ltB (by simpa using O);have ak:(List.range p.cost.length)[k]?=some k:=List.getElem?_range O;have ao:=zO (ns:=Lr p k) (xs:=v);have ab:=hc k O;have ax:=F4 ab.1 ab.2;have ag:Jc p v M k=((iD (Lr p k) v).2 != 0||decide (L8 (iD (Lr p k) v).1 (zed (M k))>0)):=rfl;have ap:=Mb (Lr p k) v (fun m hm=>by
   unfold Lr at hm;obtain⟨r,hr,rfl⟩:=Xay.1 hm;have ar:k<r.coef.length:=by rw[ai r hr];exact O
   have:=hp.coef r hr (r.coef.getD k 0) (by rw[List.getD,List.getElem?_eq_getElem ar];exact List.getElem_mem _);exact this) hv.len hv.size
  simp only[go_sem,J,F,I,A,E];refine⟨by omega,aJ fun j8 an=>?_⟩;simp only[go_sem,J,F,I,A,E];have R8:=aB H j8 (some (⟨3,1,List.replicate 0 [int 0]⟩:Row));generalize aI H j8 _=H8 at R8 |-;clear an;refine⟨fun ρ H=>∃m j:Nat,m<=p.rows.length/\ρ 1=.sl (v.map Go.Aw.D.dL)/\ρ 2=fn/\ρ 3=.rp (iG p) 0/\ρ 7=int (k:Nat)/\ρ 15=int p.cost.length/\ρ 16=int (k:Nat)/\ρ 24=.sl (p.rows.map jU)/\ρ 25=int p.rows.length/\ρ 26=int (m:Nat)/\ρ 8=.os j/\H j=some (eL ((p.rows.take m).map fun r=>r.coef.getD k 0)),fun ρ _=>p.rows.length-aT (ρ 26),⟨0,j8,Xab _,by simp only[go_sem,J,F,I,A,E],by simp only[go_sem,J,F,I,A,E],by simp only[go_sem,J,F,I,A,E],by simp only[go_sem,J,F,I,A,E],by simp only[go_sem,J,F,I,A,E],by simp only[go_sem,J,F,I,A,E],by simp only[go_sem,J,F,I,A,E],by simp only[go_sem,J,F,I,A,E,Xaa],(by simp only[go_sem,J,F,I,A,E];rfl),by simp only[go_sem,J,F,I,A,E],R8⟩,?_⟩;clear J F I A E R8;rintro ρ H ⟨m,j,hm,J,F,I,Z,A,E,U,X,Y,e8,R⟩;simp only[go_sem,J,F,I,Z,A,E,U,X,Y,e8];refine NZ hm (fun ac=>?_) (fun aq=>?_)
  ·obtain⟨r,hr⟩:=aM ac;have b1:=inB ac;have az:=ai r (Xac hr);obtain⟨c,al⟩:=aM (show k<r.coef.length by omega);have b2:=inB (show k<r.coef.length by omega);have hs:=bE hr;simp only[go_sem,J,F,I,Z,A,E,U,X,Y,e8,aC hr,b1];refine aJ fun au aa=>?_
   simp only[go_sem,J,F,I,Z,A,E,U,X,Y,e8,R];refine bP aa (by simp[sV]) fun ae (aj:ae au=some (⟨157,3,[jU r]⟩)) N=>?_
   replace R:=N R;obtain⟨ah,R⟩:=R;clear N aa;simp only[go_sem,J,F,I,Z,A,E,U,X,Y,e8,aj,R];refine aA (fun hb=>by simp at hb;omega) (fun _=>?_);simp only[go_sem,J,F,I,Z,A,E,U,X,Y,e8,aj,aC al,b2];refine aX R ⟨rfl,rfl⟩ ⟨rfl,trivial⟩ (by simp only[Xaa,Xal,Xad,List.length_nil];omega) (fun j' ay=>?_);simp only[go_sem,J,F,I,Z,A,E,U,X,Y,e8,aV m];refine⟨⟨m+1,j',ac,rfl,rfl,?_⟩,msr ac⟩;rw[hs,aB,Xan];simp[eL,List.getD,al,aQ]
  ·subst aq;rw[Xae]at R;have Rc:H j=some (eL (Lr p k)):=R;generalize Lr p k=C at *;simp only[go_sem,J,F,I,Z,A,E,e8];refine dD.use ⟨[.sl (C.map aQ),.sl (v.map Go.Aw.D.dL)],.cons _ _ _ _ (.row _ _ _ Rc (ConvE.refl _)) (ConvL.refl _),ap,rfl⟩ ?_;generalize iD C v=T at *;obtain⟨s,e⟩:=T;simp only at ag ao;simp only[go_sem,J,F,I,Z,A,E,e8,hw,av];refine⟨am,_,fun _=>(hg k O).q rfl,?_⟩;simp only[go_sem,J,F,I,Z,A,E,e8];refine⟨_,fun _=>(AF (M k) ab.1 ab.2).q rfl,?_⟩;simp only[go_sem,J,F,I,Z,A,E,e8];refine⟨_,fun _=>(sB s (zed (M k)) (by omega) (by omega)).q rfl,?_⟩;simp only[go_sem,J,F,I,Z,A,E,e8];refine aA (fun hb=>?_) (fun hb=>?_)
   ·rw[show(List.range p.cost.length).any (Jc p v M)=true from Xao.2 ⟨k,Xac ak,by rw[ag];exact hb⟩];simp only[go_sem];exact .refl _
   ·simp only[go_sem,J,F,I,A,E,aV k];exact⟨⟨k+1,O,rfl,fG (p:=fun q=>Jc p v M q=false) ak (by rw[ag];exact hb) hz⟩,msr O⟩
 have af:=geB hk (by simpa using af);subst af;rw[Xaq (by rw[Xas];exact Xag _)]at hz;rw[show(List.range p.cost.length).any (Jc p v M)=false from Xax.2 fun q hq=>by rw[hz q hq];simp];simp only[go_sem,J,F,I,A,E];exact .refl _
def qU(p:PLin):List Int:=p.rows.map (·.right)
def T4(p:PLin)(v:List ByteArray)(hp:LinB p)(hv:VarB v):PC prog 77 [.agg (iG p),.sl (v.map Go.Aw.D.dL)] (.tup [str (iD (qU p) v).1,boo ((iD (qU p) v).2 == 0)]):=by
 have ae:=hp.rows;refine pcb (fun t=>t == 6) func77 rfl rfl ?_;simp only[go_sem];refine eQ fun j aa Z (R:aa j=some (eL [])) N=>?_
 clear N Z;simp only[go_sem,R];refine⟨fun ρ H=>∃(k:Nat) (j:Nat),k<=p.rows.length/\ρ 1=.sl (v.map Go.Aw.D.dL)/\ρ 12=.sl (p.rows.map jU)/\ρ 13=int (p.rows.length:Nat)/\ρ 14=int k/\ρ 6=.os j/\H j=some (eL ((p.rows.take k).map (·.right))),fun ρ _=>p.rows.length-aT (ρ 14),⟨0,j,Xab _,by simp only[go_sem],by simp only[go_sem],by simp only[go_sem,Xaa],(by simp only[go_sem];rfl),by simp only[go_sem],R⟩,?_⟩;rintro ρ H ⟨k,j,hk,T,I,E,A,U,R⟩;simp only[go_sem,T,I,E,A,U];refine aA (fun F=>?_) (fun M=>?_)
 ·have F:=ltB (by simpa using F);obtain⟨r,O⟩:=aM F;have b1:=inB F;have hs:(p.rows.take (k+1)).map (·.right)=(p.rows.take k).map (·.right)++[r.right]:=by rw[bE O,Xan];rfl
  have ab:((p.rows.take k).map (·.right)).length<=k:=by rw[Xaa,Xal];omega
  generalize hP:(p.rows.take k).map (·.right)=P at *;simp only[go_sem,T,I,E,A,U,aC O,b1];refine aJ fun i8 J=>?_
  simp only[go_sem,T,I,E,A,U,aC O,b1,R];refine bP J (by simp[sV]) fun Y (R8:Y i8=some (⟨157,3,[jU r]⟩)) N=>?_
  replace R:=N R;obtain⟨X,R⟩:=R;clear N J;simp only[go_sem,T,I,E,A,U,aC O,b1,R8,R];refine aX R ⟨rfl,rfl⟩ ⟨rfl,trivial⟩ (by simp only[Xaa,Xad,List.length_nil];omega) (fun j' ac=>?_);simp only[go_sem,T,I,E,A,U,aV k];refine⟨⟨k+1,j',F,rfl,rfl,?_⟩,msr F⟩;rw[hs];exact mD rfl
 have M:=geB hk (by simpa using M);subst M;rw[Xae]at R;simp only[go_sem,T,I,E,A,U];refine dD.use ⟨[.sl ((qU p).map aQ),.sl (v.map Go.Aw.D.dL)],.cons _ _ _ _ (.row _ _ _ R (ConvE.refl _)) (ConvL.refl _),Mb (qU p) v (fun n hn=>by obtain⟨r,O,rfl⟩:=Xay.1 hn;exact hp.right r O) hv.len hv.size,rfl⟩ ?_;simp only[go_sem];exact .refl _
def tD(p:PLin)(v:List ByteArray):ByteArray×Bool:=
 if(!Fi p v|| !Ll p v fun i=>p.cost.getD i 0)=true then(emp,false)else if(iD (qU p) v).2=0 then((iD (qU p) v).1,true)else(emp,false)
def Gk(p:PLin)(v:List ByteArray):Bool:=
 if(!Fi p v|| !Ll p v fun _=>0)=true then false else((iD (qU p) v).2 == 0&&decide (D0 (iD (qU p) v).1>0))
def ahO(p:PLin)(i:Nat)(A:i<p.cost.length):PC prog 79 [int (i:Nat),.rp (iG p) 0] (int (p.cost.getD i 0)):=by obtain⟨n,E⟩:=aM A;have b:=inB A;refine pcd func79 rfl rfl ?_;simp only[go_sem];simp only[aC E,go_sem,b,Xaa];rw[show p.cost.getD i 0=n by rw[List.getD,E];rfl];exact .refl _
def ahY(i:Nat):PC prog 76 [int (i:Nat)] (int 0):=by refine pcd func76 rfl rfl ?_;simp only[go_sem];exact .refl _
structure LinW(p:PLin):Prop where
 b:LinB p
 full:∀r∈p.rows,r.coef.length=p.cost.length
 cost:∀i,i<p.cost.length->nE (p.cost.getD i 0)
def ZA(p:PLin)(v:List ByteArray)(E:LinW p)(F:VarB v):PC prog 45 [.agg (iG p),.sl (v.map Go.Aw.D.dL)] (.tup [str (tD p v).1,boo (tD p v).2]):=by
 have I:=Uf p v (fun i=>p.cost.getD i 0) (.fn 79 [.rp (iG p) 0]) 79 [.rp (iG p) 0] E.b E.full E.cost F rfl (fun _ _=>rfl) (by kernel_rfl) (fun i J=>ahO p i J);unfold tD;refine pcd func45 rfl rfl ?_;simp only[go_sem];refine aP (TC p v E.b F) ?_;simp only[go_sem];refine⟨_,fun _=>I.q rfl,?_⟩;simp only[go_sem];refine aA (fun A=>?_) (fun A=>?_)
 ·rw[if_pos A];simp only[go_sem];exact .refl _
 rw[if_neg (by rw[A];simp)];simp only[go_sem];refine aP (T4 p v E.b F) ?_;simp only[go_sem];refine aA (fun A=>?_) (fun A=>?_)
 ·rw[if_neg (by simpa using A)];simp only[go_sem];exact .refl _
 ·rw[if_pos (by simpa using A)];simp only[go_sem];exact .refl _
def Vb(p:PLin)(v:List ByteArray)(A:LinW p)(F:VarB v):PC prog 44 [.agg (iG p),.sl (v.map Go.Aw.D.dL)] (boo (Gk p v)):=by
 have I:=Uf p v (fun _=>0) (.v (.func (.func 76) #[] #[])) 76 [] A.b A.full (fun _ _=>⟨by decide,by decide⟩) F rfl (fun _ _=>rfl) (by kernel_rfl) (fun i M=>ahY i);have J:=zO (ns:=qU p) (xs:=v);unfold Gk;refine pcd func44 rfl rfl ?_;simp only[go_sem];refine aP (TC p v A.b F) ?_;simp only[go_sem];refine⟨_,fun _=>I.q rfl,?_⟩;simp only[go_sem];refine aA (fun E=>?_) (fun E=>?_)
 ·rw[if_pos E];simp only[go_sem];exact .refl _
 rw[if_neg (by rw[E];simp)];simp only[go_sem];refine aP (T4 p v A.b F) ?_;simp only[go_sem];refine⟨_,fun _=>(Tl _ (by omega)).q rfl,?_⟩;simp only[go_sem];exact .refl _
end Nu
namespace Sq
open Go.Proofs.Tryz
open Go.Proofs.YtgncgpcpbadfnaaGreatDoor.Nu (ltB geB)
open Mv (bZ cK aS)
def ahD(s:Score):Int:=IntKind.i64.wrap (IntKind.i64.wrap (IntKind.i64.wrap (IntKind.i64.wrap (IntKind.i64.wrap (IntKind.i64.wrap (s.cost*16)+s.moved)*16)+s.other)*65536)+s.work)
def gV(s:Score):Int×Int:=if(decide (s.cost<0)||decide (s.moved<0)||decide (s.other<0)||decide (s.work<0))=true then(0,2)
 else if(decide (s.cost>1073741824)||decide (s.moved>=16)||decide (s.other>=16)||decide (s.work>=65536))=true then(0,4)else(ahD s,0)
def yD(s:Score):PC prog 50 [.agg (bD s)] (.agg (bD s)):=by
 refine pcd func50 rfl rfl ?_;simp only[go_sem];refine aJ fun j A=>?_
 simp only[go_sem];refine aN (aB _ _ _) (by simp) ?_;simp only[go_sem];exact .refl _
def Ah(s:Score):PC prog 23 [.agg (bD s)] (.tup [int (gV s).1,int (gV s).2]):=by
 refine pcd func23 rfl rfl ?_;simp only[go_sem];refine aP (yD s) ?_;simp only[go_sem];refine aJ fun j O=>?_
 simp only[go_sem];refine bP O (by simp[cC]) fun Y (R:Y j=some (⟨134,4,[bD s]⟩)) N=>?_
 clear N O;simp only[go_sem,R];refine⟨fun ρ H=>∃(k:Nat),k<=4/\ρ 1=.rp (bD s) 0/\ρ 9=.agg (bD s)/\ρ 10=int k/\(∀e∈[s.cost,s.moved,s.other,s.work].take k,¬e<0),fun ρ _=>4-aT (ρ 10),⟨0,Xab _,by simp only[go_sem],by simp only[go_sem],(by simp only[go_sem];rfl),by simp⟩,?_⟩;rintro ρ H ⟨k,hk,I,J,A,M⟩;simp only[go_sem,I,J,A];refine aA (fun E=>?_) (fun F=>?_)
 ·have E:k<4:=by simp at E;omega
  obtain⟨e,U⟩:=aM (l:=[s.cost,s.moved,s.other,s.work]) (show k<[s.cost,s.moved,s.other,s.work].length from E);have hg:(bD s).getD k .any=int e:=by
   have:bD s=[s.cost,s.moved,s.other,s.work].map fun n=>int n:=rfl
   rw[this,List.getD,List.getElem?_map,U];rfl
  simp only[go_sem,I,J,A];refine⟨by omega,by omega,?_⟩;rw[Nat.mul_one,hg];simp only[go_sem,I,J,A];refine aA (fun T=>?_) (fun T=>?_)
  ·simp only[go_sem];have Z:=Xac U;simp only[List.mem_cons,List.not_mem_nil,or_false]at Z;have e:gV s=(0,2):=if_pos (by simp at T |-;rcases Z with h|h|h|h <;> omega);rw[e];exact .refl _
  ·simp only[go_sem,I,J,A,aV k];refine⟨⟨k+1,E,rfl,aS (p:=fun e:Int=>¬e<0) U (by simpa using T) M⟩,by simp only[aF];omega⟩
 have F:k=4:=by simp at F;omega
 subst F;have T:¬(decide (s.cost<0)||decide (s.moved<0)||decide (s.other<0)||decide (s.work<0))=true:=by have h0:=M s.cost (by simp);have h1:=M s.moved (by simp);have h2:=M s.other (by simp);have h3:=M s.work (by simp);simp;omega
 unfold gV;rw[if_neg T];simp only[go_sem,I,J,A];refine aA (fun X=>?_) (fun X=>?_)
 ·rw[if_pos X];simp only[go_sem];exact .refl _
 rw[if_neg (by rw[X];simp)];simp only[go_sem,I,J,A];exact .refl _
def gO(x:Instance)(r:Route):Int×Int:=if((dR x r).2.2 != 0)=true then(0,(dR x r).2.2)else gV (dR x r).2.1
def Xr(x:Instance)(r:Route)(hx:EvalB x)(Z:r.visits.length<=1048575):PC prog 185 [.agg (aE x),.agg (bI r)] (.tup [int (gO x r).1,int (gO x r).2]):=by
 have hw:=Ah (dR x r).2.1;refine pcd func185 rfl rfl ?_;simp only[go_sem];refine aP (BO x r hx Z) ?_;simp only[go_sem];refine eQ fun U O J (E:O U=some (fQ (bY cF))) N=>?_
 clear N J;simp only[go_sem,E];refine eQ fun X T M (F:T X=some (mZ bJ)) N=>?_
 replace E:=N E;obtain⟨A,E⟩:=E;clear N M;simp only[go_sem,F,E];refine aN E (by simp[eK]) ?_;generalize I:aI _ U _=HP;replace F:=kpA I (by first|exact ne_i7_i6|exact A.symm) F;replace E:HP U=some (fQ (bY (dR x r).1)):=upS I;clear I;simp only[go_sem,E,F];refine aN F (by simp[cC]) ?_;generalize I:aI _ X _=HP;replace E:=kpA I (by first|exact A|exact ne_i7_i6.symm) E;replace F:HP X=some (mZ (dR x r).2.1):=upS I;clear I;simp only[go_sem,F,E];unfold gO;refine aA (fun Y=>?_) (fun Y=>?_)
 ·rw[if_pos Y];simp only[go_sem];exact .refl _
 ·rw[if_neg (by rw[Y];simp)];simp only[go_sem,F];refine aP hw ?_;simp only[go_sem];exact .refl _
structure Sta where
 ready:Int
 driven:Int
def fU(s:Sta):List AV:=[int s.ready,int s.driven]
def Gr(c:Sta):(fU c).length=2:=(rfl)
def X7(c:Sta):(fU c).getD 0 .any=int c.ready:=(rfl)
def XK(c:Sta):(fU c).getD 1 .any=int c.driven:=(rfl)
def O8(c:Sta):(fU c).take 2=fU c:=(rfl)
attribute [go_sem] Gr X7 XK O8
abbrev mS(l:List Sta):Row:=⟨282,2,l.map fU⟩
def FU(s u:Sta):Bool:=s.ready == u.ready&&(s.driven == u.driven&&true)
def Y0(l:List Sta)(v:Sta)(Y:l.length<=1048576):PC prog 241 [.sl (l.map fU),.agg (fU v)] (int (qY (FU v) l 0)):=by
 refine pcd func241 rfl rfl ?_;simp only[go_sem];refine⟨fun ρ _=>∃k:Nat,k<=l.length/\ρ 0=.sl (l.map fU)/\ρ 3=.rp (fU v) 0/\ρ 7=int l.length/\ρ 8=int k/\∀u∈l.take k,FU v u=false,fun ρ _=>l.length-aT (ρ 8),⟨0,Xab _,rfl,rfl,rfl,rfl,by simp⟩,?_⟩;rintro ρ H ⟨k,X,h0,O,M,I,J⟩;simp only[go_sem,h0,O,M,I];refine aA (fun A=>?_) (fun E=>?_)
 ·have A:=bA A;obtain⟨u,T⟩:=aM A;have U:=inB A;simp only[go_sem,h0,O,M,I];refine dF (by rfl) (by kernel_rfl) ?_;simp only[go_sem,h0,O,M,I,aC T,U];refine aA (fun F=>?_) (fun F=>?_)
  ·have F:FU v u=true:=F;simp only[go_sem,I];exact bZ (by rw[pN J T F];omega)
  ·have F:FU v u=false:=F;simp only[go_sem,h0,O,M,I,aV k];exact⟨⟨k+1,A,rfl,aS (p:=fun u=>FU v u=false) T F J⟩,by simp only[aF];omega⟩
 ·have E:=bB X E;subst E;rw[Xae]at J;simp only[go_sem];exact bZ (by rw[mY J])
def Ep(l:List Sta)(v:Sta)(A:l.length<=1048576):PC prog 221 [.sl (l.map fU),.agg (fU v)] (boo (l.any (FU v))):=by refine pcd func221 rfl rfl ?_;simp only[go_sem];refine aP (Y0 l v A) ?_;simp only[go_sem];exact cK (pJ l 0 (Xbw _))
def AL(l:List Sta)(s:Sta):List Sta:=if l.any (FU s)=true then l else l++[s]
def DM(l:List Sta)(s:Sta):(AL l s).length<=l.length+1:=by unfold AL;split <;> simp
def XV(l:List Visit)(A:l.length<=1048576):PC prog 190 [.sl (l.map aL)] (.cl (l.map aL)):=by refine pcd func190 rfl rfl ?_;simp only[go_sem];exact .refl _
def ahH(s:Sta):NC prog 191 [.v (.slice none 0 0),.agg (fU s)] (mS [s]) .os:=by
 refine ncb (fun _=>false) func191 rfl rfl ?_;simp only[go_sem];refine bF.nil0 (PC.use (Ep [] s (by decide)) ?_);simp only[go_sem];refine aA (fun A=>(by cases A)) (fun _=>?_);simp only[go_sem];refine WO aeN (.inl rfl) (by simp) (by simp only[go_sem]) (by simp) fun j E=>?_
 simp only[go_sem];exact⟨j,rfl,aB _ _ _⟩
abbrev aeZ(j:Nat)(H:aH)(j':Nat)(H':aH):Prop:=∀k row,k≠j->H k=some row->k≠j'/\H' k=some row
def Sc(l:List Sta)(s:Sta){H:aH}{j:Nat}(R:H j=some (mS l))(O:l.length<=1000000){K:AV->aH->Prop}(J:∀j' H',H' j'=some (mS (AL l s))->aeZ j H j' H'->K (.os j') H'):
  bF prog 191 [.os j,.agg (fU s)] H K:=by
 refine bF.body (c:=f191.body.getD .skip) (fun _=>false) mixed func191 rfl (by kernel_rfl) ?_;unfold f191;simp only[Xbh];simp only[go_sem];refine dD.use ⟨[.sl (l.map fU),.agg (fU s)],.cons _ _ _ _ (.row _ _ _ R (ConvE.refl _)) (ConvL.refl _),Ep l s (by omega),rfl⟩ ?_;simp only[go_sem];refine aA (fun E=>?_) (fun E=>?_)
 ·simp only[go_sem];refine J j H (by unfold AL;rw[if_pos E];exact R) fun k row F h=>⟨F,h⟩
 ·simp only[go_sem];refine aX R ⟨rfl,rfl⟩ (by simp only[go_sem]) (by simp only[Xaa,Xad,List.length_nil];omega) (fun M I=>?_);simp only[go_sem];refine J M _ ?_ fun k row F h=>?_
  ·rw[aB];unfold AL;rw[if_neg (by rw[E];simp)];refine congrArg (fun l=>some (⟨282,2,l⟩:Row)) ?_;rw[Xan];rfl
  ·have A:k≠M:=fun e=>by subst e;rw[I]at h;cases h
   exact⟨A,by rw[aD _ _ _ _ A,aD _ _ _ _ F];exact h⟩
structure Sr where
 x:Instance
 kind:Nat
 set:Int
 total:Nat
 best:Column
 found:Bool
def tM(s:Sr):List AV:=aE s.x++([int (s.kind:Nat),int s.set,int (s.total:Nat)]++(bH s.best++[boo s.found]))
section
variable(s:Sr)
def oX:(tM s).length=17:=(rfl)
def abE:(tM s).getD 2 .any=.sl (s.x.types.map aZ):=(rfl)
def aeF:(tM s).getD 3 .any=.sl (s.x.orders.map aW):=(rfl)
def adF:(tM s).getD 6 .any=int (s.kind:Nat):=(rfl)
def aaV:(tM s).getD 7 .any=int s.set:=(rfl)
def abI:(tM s).getD 8 .any=int (s.total:Nat):=(rfl)
def XR:(tM s).getD 16 .any=boo s.found:=(rfl)
def aaT:(tM s).take 6=aE s.x:=(rfl)
def Wx:(tM s).take 2=aY s.x.net:=(rfl)
def Q8:((tM s).drop 9).take 7=bH s.best:=(rfl)
def UO:(tM s).take 17=tM s:=(rfl)
end
attribute [go_sem] oX abE aeF adF aaV abI XR aaT Wx Q8 UO
abbrev jR(s:Sr):Row:=⟨239,17,[tM s]⟩
def nZ(t:VType)(l:List Sta)(d dr:Int):List Sta:=AL (AL l ⟨d,dr⟩) ⟨W (d+t.rest),0⟩
def G7(t:VType)(l:List Sta)(d A:Int):(nZ t l d A).length<=l.length+2:=by unfold nZ;have h1:=DM (AL l ⟨d,A⟩) ⟨W (d+t.rest),0⟩;have E:=DM l ⟨d,A⟩;omega
def YJ(s:Sr)(t:VType)(l:List Sta)(d F:Int){H:aH}{A j:Nat}(ht:s.x.types[s.kind]?=some t)(RS:H A=some (jR s))(R:H j=some (mS l))(hl:l.length<=900000){K:AV->aH->Prop}
  (hK:∀j' H',H' j'=some (mS (nZ t l d F))->aeZ j H j' H'->K (.os j') H'):bF prog 148 [.op A 0 0,.os j,int d,int F] H K:=by
 have aa:A≠j:=fun e=>by subst e;rw[RS]at R;cases R
 have hk:=(List.getElem?_eq_some_iff.1 ht).1;have b1:=inB hk;have g1:=aC (f:=aZ) ht;have h1:=DM l ⟨d,F⟩;refine bF.body (c:=f148.body.getD .skip) (fun _=>false) mixed func148 rfl (by kernel_rfl) ?_;unfold f148;simp only[Xbh];simp only[go_sem];refine Sc l ⟨d,F⟩ R (by omega) fun j1 H1 R1 I=>?_
 obtain⟨n1,J⟩:=I A _ aa RS;simp only[go_sem];refine gW [A] [(0,true),(1,true),(2,true),(3,true),(4,true),(5,true),(6,true),(7,true),(8,true),(9,true),(10,true),(11,true),(12,true),(13,true),(14,true),(15,true),(16,false),(17,true)] (by simp[J]) (by kernel_rfl) fun Hp Hr hp hr _ ac=>?_
 have E:=(hp A (by simp)).trans J;simp only[go_sem,g1,b1,E];have ab:Hr j1=some (mS (AL l ⟨d,F⟩)):=(hr j1 (by simpa using n1.symm)).trans R1;refine Sc (AL l ⟨d,F⟩) ⟨W (d+t.rest),0⟩ ab (by omega) fun U H2 R2 Z=>?_
 simp only[go_sem];refine fun h0 Hm Y T=>?_
 have O:U≠A:=fun e=>by have:=h0 A (by simp);rw[<-e,R2]at this;cases this
 simp only[go_sem];refine hK U Hm ((T U (by simpa using O)).trans R2) fun k row X M=>?_
 obtain⟨m1,m2⟩:=I k row X M;by_cases e:k=A
 ·subst e;exact⟨O.symm,(Y k (by simp)).trans m2⟩
 ·obtain⟨m3,m4⟩:=Z k row m1 ((hr k (by simpa using e)).trans m2);exact⟨m3,(T k (by simpa using e)).trans m4⟩
def Zb(s:Sr)(t:VType)(d A:Int){H:aH}{F:Nat}(ht:s.x.types[s.kind]?=some t)(RS:H F=some (jR s)){K:AV->aH->Prop}
  (hK:∀j' H',H' j'=some (mS (nZ t [] d A))->(∀k row,H k=some row->k≠j'/\H' k=some row)->K (.os j') H'):bF prog 148 [.op F 0 0,.v (.slice none 0 0),int d,int A] H K:=by
 have hk:=(List.getElem?_eq_some_iff.1 ht).1;have b1:=inB hk;have g1:=aC (f:=aZ) ht;refine bF.body (c:=f148.body.getD .skip) (fun _=>false) mixed func148 rfl (by kernel_rfl) ?_;unfold f148;simp only[Xbh];simp only[go_sem];refine NC.use (ahH ⟨d,A⟩) fun E U=>?_
 have n1:F≠E:=fun e=>by rw[e,U]at RS;cases RS
 have J:aI H E (some (mS [⟨d,A⟩])) F=some (jR s):=(aD _ _ _ _ n1).trans RS;have R1:aI H E (some (mS [⟨d,A⟩])) E=some (mS [⟨d,A⟩]):=aB _ _ _;have Y:∀k row,H k=some row->k≠E/\aI H E (some (mS [⟨d,A⟩])) k=some row:=fun k row h=>by
  have X:k≠E:=fun e=>by rw[e,U]at h;cases h
  exact⟨X,(aD _ _ _ _ X).trans h⟩
 generalize aI H E (some (mS [⟨d,A⟩]))=H1 at *;simp only[go_sem];refine gW [F] [(0,true),(1,true),(2,true),(3,true),(4,true),(5,true),(6,true),(7,true),(8,true),(9,true),(10,true),(11,true),(12,true),(13,true),(14,true),(15,true),(16,false),(17,true)] (by simp[J]) (by kernel_rfl) fun Hp Hr hp hr _ ae=>?_
 have I:=(hp F (by simp)).trans J;simp only[go_sem,g1,b1,I];have ac:Hr E=some (mS [⟨d,A⟩]):=(hr E (by simpa using n1.symm)).trans R1;refine Sc [⟨d,A⟩] ⟨W (d+t.rest),0⟩ ac (by simp) fun Z H2 R2 ab=>?_
 simp only[go_sem];refine fun h0 Hm aa T=>?_
 have O:Z≠F:=fun e=>by have:=h0 F (by simp);rw[<-e,R2]at this;cases this
 simp only[go_sem];refine hK Z Hm ((T Z (by simpa using O)).trans R2) fun k row M=>?_
 obtain⟨m1,m2⟩:=Y k row M;by_cases e:k=F
 ·subst e;exact⟨O.symm,(aa k (by simp)).trans m2⟩
 ·obtain⟨m3,m4⟩:=ab k row m1 ((hr k (by simpa using e)).trans m2);exact⟨m3,(T k (by simpa using e)).trans m4⟩
def NN(n:Network)(t:VType)(src:Int)(st:Stop)(out:List Sta)(a:Sta):List Sta:=
 let g:=jO n t.profile src st.place a.ready
 if(g.2.2 != 0||decide (W (W (a.driven+g.1)-a.ready)>t.drive))=true then out
 else if((Rx.mO st g.1).2 != 0)=true then out
 else nZ t out (Rx.mO st g.1).1 (W (W (a.driven+g.1)-a.ready))
def BD(n:Network)(t:VType)(src:Int)(st:Stop)(l:List Sta):List Sta:=l.foldl (NN n t src st) []
def XQ(n:Network)(t:VType)(src:Int)(st:Stop)(out:List Sta)(a:Sta):(NN n t src st out a).length<=out.length+2:=by
 unfold NN;simp only;split
 ·omega
 ·split
  ·omega
  ·exact G7 _ _ _ _
def BL(n:Network)(t:VType)(src:Int)(st:Stop)(l:List Sta):∀k,((l.take k).foldl (NN n t src st) []).length<=2*k
 | 0=>by simp
 | k+1=>by
  have h:=BL n t src st l k;by_cases E:k<l.length
  ·obtain⟨c,A⟩:=aM E;rw[iA A];exact Xai (XQ n t src st _ c) (by omega)
  ·rw[Xaq (by omega)];rw[Xaq (by omega)]at h;omega
def ZR(H0:aH)(js:Nat)(s:Sr)(t:VType)(hj:H0 js=some (jR s))(ht:s.x.types[s.kind]?=some t)(src:Int)(l:List Sta)(st:Stop)(hn:NetOk s.x.net)(hl:l.length<=400000):
  LC prog 189 [.op js 0 0,int src,.sl (l.map fU),.agg (dQ st)] H0 (.sl ((BD s.x.net t src st l).map fU)):=by
 have hk:=(List.getElem?_eq_some_iff.1 ht).1;have b1:=inB hk;have g1:=aC (f:=aZ) ht;refine LC.body (c:=f189.body.getD .skip) (fun t=>t == 10) mixed func189 rfl (by kernel_rfl) ?_;unfold f189;simp only[Xbh];simp only[go_sem];have U:=Sup.refl H0;have ac:=U.at hj;refine gW [js] [(0,true),(1,true),(2,true),(3,true),(4,true),(5,true),(6,true),(7,true),(8,true),(9,true),(10,true),(11,false),(12,false)] (by simp[ac]) (by kernel_rfl) fun Hp Hr hp hr _ ar=>?_
 have X:=(hp js (by simp)).trans ac;simp only[go_sem,g1,b1,X];refine aJ fun i9 au=>?_
 simp only[go_sem];refine aN (aB _ _ _) (by simp[jY]) ?_;refine oS hr au fun ak=>?_
 have aj:=U.none ak;generalize af:aI (aI _ i9 _) i9 _=HGi9;replace U:=Sup.eq ((U.upd aj _).upd aj _) af;have T:HGi9 i9=some ((⟨124,14,[aZ t]⟩:Row)):=by rw[<-af,aB];try rfl
 clear af ak;simp only[go_sem,T];refine aJ fun j an=>?_
 have ae:i9≠j:=aR T an;have aq:=U.none an;generalize ai:aI _ j _=HGj;replace U:=Sup.eq (U.upd aq _) ai;replace T:=(congrFun ai.symm i9).trans ((aD _ _ _ _ ae).trans T);have R:HGj j=some (mS []):=by rw[<-ai,aB];try rfl
 clear ai an;simp only[go_sem,R,T];refine⟨fun ρ H=>∃(k:Nat) (j:Nat),k<=l.length/\ρ 0=.op js 0 0/\ρ 1=int src/\ρ 7=.rp (dQ st) 0/\ρ 9=.op i9 0 0/\ρ 28=.sl (l.map fU)/\ρ 29=int (l.length:Nat)/\ρ 30=int k/\ρ 10=.os j/\Sup H0 H/\H0 j=none/\H i9=some (⟨124,14,[aZ t]⟩:Row)/\H j=some (mS ((l.take k).foldl (NN s.x.net t src st) [])),fun ρ _=>l.length-aT (ρ 30),⟨0,j,Xab _,by simp only[go_sem],by simp only[go_sem],by simp only[go_sem],by simp only[go_sem],by simp only[go_sem],by simp only[go_sem,Xaa],(by simp only[go_sem];rfl),by simp only[go_sem],U,aq,T,R⟩,?_⟩;rintro ρ H ⟨k,j,hk,e0,e1,e7,e9,F,E,A,I,U,nj,T,R⟩;simp only[go_sem,e0,e1,e7,e9,F,E,A,I];refine aA (fun ab=>?_) (fun am=>?_)
 ·have ab:=ltB (by simpa using ab);obtain⟨a,ha⟩:=aM ab;have d1:=inB ab;have hs:=iA (f:=NN s.x.net t src st) (b:=([]:List Sta)) ha;have aw:=BL s.x.net t src st l k;generalize (l.take k).foldl (NN s.x.net t src st) []=out at *;have av:i9≠j:=fun e=>by subst e;rw[T]at R;cases R
  simp only[go_sem,e0,e1,e7,e9,F,E,A,I,aC ha,d1];refine aJ fun Z Y=>?_
  have O:j≠Z:=aR R Y;have J:i9≠Z:=aR T Y;simp only[go_sem,e0,e1,e7,e9,F,E,A,I,R,T];refine aN (aB _ _ _) (by simp[Gr]) ?_;have aa:=U.none Y;generalize M:aI (aI _ Z _) Z _=HGi12;replace U:=Sup.eq ((U.upd aa _).upd aa _) M;replace R:=kpR M O O R;replace T:=kpR M J J T;have ag:HGi12 Z=some ((⟨282,2,[fU a]⟩:Row)):=by rw[<-M,aB];try rfl
  clear M Y;simp only[go_sem,e0,e1,e7,e9,F,E,A,I,ag,R,T];have ac:=U.at hj;have ne:js≠Z:=Sup.ne (Sup.refl H0) hj aa;refine gW [js,i9,Z] [(0,true),(1,true),(2,true),(3,true),(4,true),(5,true),(6,true),(7,true),(8,true),(9,true),(10,true),(11,true),(12,false),(13,true),(14,true),(15,true),(16,true),(17,true),(18,true),(19,true)] (by simp[ac,T,ag]) (by kernel_rfl) fun Hp Hr hp hr _ ar=>?_
  have X:=(hp js (by simp)).trans ac;have al:=(hp i9 (by simp)).trans T;have ah:=(hp Z (by simp)).trans ag;simp only[go_sem,e0,e1,e7,e9,F,E,A,I,X,al,ah];refine aP (YB s.x.net t.profile src st.place a.ready hn) ?_;simp only[go_sem,e0,e1,e7,e9,F,E,A,I,X,al,ah];refine nC hr ?_;have ha:NN s.x.net t src st out a=(if((jO s.x.net t.profile src st.place a.ready).2.2 != 0||decide (W (W (a.driven+(jO s.x.net t.profile src st.place a.ready).1)-a.ready)>t.drive))=true then out
   else if((Rx.mO st (jO s.x.net t.profile src st.place a.ready).1).2 != 0)=true then out
   else nZ t out (Rx.mO st (jO s.x.net t.profile src st.place a.ready).1).1 (W (W (a.driven+(jO s.x.net t.profile src st.place a.ready).1)-a.ready))):=rfl
  rw[ha]at hs;clear ha;generalize jO s.x.net t.profile src st.place a.ready=g at *;simp only[go_sem,e0,e1,e7,e9,F,E,A,I,T,ag];refine aA (fun c1=>?_) (fun c1=>?_)
  ·have c1:(g.2.2 != 0||decide (W (W (a.driven+g.1)-a.ready)>t.drive))=true:=c1;rw[if_pos c1]at hs;simp only[go_sem,e0,e1,e7,e9,F,E,A,I,aV k];refine⟨⟨k+1,j,ab,rfl,rfl,U,nj,T,?_⟩,by simp only[aF];omega⟩;rw[hs];exact R
  have c1:(g.2.2 != 0||decide (W (W (a.driven+g.1)-a.ready)>t.drive))=false:=c1;rw[if_neg (fun h=>Bool.noConfusion (c1.symm.trans h))]at hs;simp only[go_sem,e0,e1,e7,e9,F,E,A,I];refine aP (Rx.Xy st g.1) ?_;simp only[go_sem,e0,e1,e7,e9,F,E,A,I];generalize Rx.mO st g.1=dp at *;refine aA (fun c2=>?_) (fun c2=>?_)
  ·rw[if_pos c2]at hs;simp only[go_sem,e0,e1,e7,e9,F,E,A,I,aV k];refine⟨⟨k+1,j,ab,rfl,rfl,U,nj,T,?_⟩,by simp only[aF];omega⟩;rw[hs];exact R
  rw[if_neg (fun h=>Bool.noConfusion (c2.symm.trans h))]at hs;simp only[go_sem,e0,e1,e7,e9,F,E,A,I,ag];refine YJ s t out dp.1 (W (W (a.driven+g.1)-a.ready)) ht ac R (by omega) fun j2 H2 R2 ap=>?_
  simp only[go_sem,e0,e1,e7,e9,F,E,A,I,aV k];refine⟨⟨k+1,j2,ab,rfl,rfl,fun q row hq=>?_,?_,(ap i9 _ av T).2,?_⟩,by simp only[aF];omega⟩
  ·have ao:q≠j:=fun e=>by subst e;rw[nj]at hq;cases hq
   exact(ap q row ao (U q row hq)).2
  ·cases e:H0 j2 with
   | none=>rfl
   | some row=>
    have ao:j2≠j:=fun e2=>by subst e2;rw[nj]at e;cases e
    exact absurd rfl (ap j2 row ao (U j2 row e)).1
  ·rw[hs];exact R2
 have am:=geB hk (by simpa using am);subst am;rw[Xae]at R;simp only[go_sem,e0,e1,e7,e9,F,E,A,I];exact⟨U,[j],by simpa using nj,.row _ _ _ (by simp;exact R) (ConvE.refl _)⟩
def WR(H0:aH)(F:Nat)(s:Sr)(t:VType)(d E:Int)(I:s.x.types[s.kind]?=some t)(O:H0 F=some (jR s)):
  LC prog 148 [.op F 0 0,.v (.slice none 0 0),int d,int E] H0 (.sl ((nZ t [] d E).map fU)):=fun K M=>
 bF.data (Zb s t d E I O fun j' H' R A=>⟨fun k row h=>(A k row h).2,[j'],fun k T=>by
  have e:k=j':=by simpa using T
  subst e;cases J:H0 k with
  | none=>rfl
  | some row=>exact absurd rfl (A k row J).1,.row _ _ _ (by simp;exact R) (ConvE.refl _)⟩) M
end Sq
namespace Sq
open Go.Proofs.Tryz
open Go.Proofs.YtgncgpcpbadfnaaGreatDoor.Nu (ltB geB)
open Mv (bZ cK aS)
def KH(a b:Column):Bool:=if(a.price != b.price)=true then decide (a.price<b.price)else decide (Vk a.route.visits b.route.visits<0)
def Zz(a b:Column)(E:a.route.visits.length<=1048576):PC prog 187 [.agg (bH a),.agg (bH b)] (boo (KH a b)):=by
 refine pcd func187 rfl rfl ?_;simp only[go_sem];unfold KH;refine aA (fun A=>?_) (fun A=>?_)
 ·rw[if_pos A];simp only[go_sem];exact .refl _
 ·rw[if_neg (by rw[A];simp)];simp only[go_sem];refine aP (aaU a.route.visits b.route.visits E) ?_;simp only[go_sem];exact .refl _
def BC(best:Column)(fd:Bool)(next:Column):Column:=if(!fd||KH next best)=true then next else best
abbrev lH(c:Column):Row:=⟨160,7,[bH c]⟩
def dV:Column:=⟨0,0,0,⟨0,0,[],[]⟩⟩
def aaX(best:Column)(O:Bool)(next:Column)(T:next.route.visits.length<=1048576):PC prog 186 [.agg (bH best),boo O,.agg (bH next),.v (.func (.func 187) #[] #[])] (.agg (bH (BC best O next))):=by
 have M:aG prog 187=true:=by kernel_rfl
 have F:=Zz next best T
 refine pcd func186 rfl rfl ?_;simp only[go_sem];refine eQ fun i8 E J (A:E i8=some (lH dV)) N=>?_
 clear N J;simp only[go_sem,M,A];refine⟨_,fun _=>F.q rfl,?_⟩;simp only[go_sem];unfold BC;refine aA (fun F=>?_) (fun F=>?_)
 ·rw[if_pos F];simp only[go_sem];refine aN A (by simp[eH]) ?_;generalize I:aI _ i8 _=HP;replace A:HP i8=some (lH next):=upS I;clear I;simp only[go_sem,A];exact .refl _
 ·rw[if_neg (fun h=>Bool.noConfusion (F.symm.trans h))];simp only[go_sem];refine aN A (by simp[eH]) ?_;generalize I:aI _ i8 _=HP;replace A:HP i8=some (lH best):=upS I;clear I;simp only[go_sem,A];exact .refl _
def mA(s:Sr)(l:List Visit):Route:=⟨(s.kind:Nat),0,[],l⟩
def Lj(s:Sr)(l:List Visit)(p:Int):Column:=⟨(s.kind:Nat),s.set,p,mA s l⟩
def LS(s:Sr)(l:List Visit):Sr:=if((gO s.x (mA s l)).2 == 0)=true then { s with best:=BC s.best s.found (Lj s l (gO s.x (mA s l)).1),found:=true }else s
def AK(t:VType)(rec:Sr->List Visit->Int->List Sta->Sr)(l:List Visit)(src:Int)(st:List Sta)(s:Sr)(v:Visit):Sr:=
 if((gH s.x v).2 != 0)=true then s
 else if(BD s.x.net t src (gH s.x v).1 st).length=0 then s
 else rec s (l++[v]) (gH s.x v).1.place (BD s.x.net t src (gH s.x v).1 st)
def oG(t:VType):Nat->Sr->List Visit->Int->List Sta->Sr
 | 0,s,_,_,_=>s
 | f+1,s,l,src,st=>if((l.length:Int) == (s.total:Int))=true then LS s l else(CE s.x s.set l).foldl (AK t (oG t f) l src st) s
structure SameB(s s':Sr):Prop where
 x:s'.x=s.x
 kind:s'.kind=s.kind
 set:s'.set=s.set
 total:s'.total=s.total
structure SrB(t:VType)(s:Sr):Prop where
 ty:s.x.types[s.kind]?=some t
 ev:EvalB s.x
 before:s.x.before.length<=1048576
 orders:s.x.orders.length<=60
 total:s.total<=16
def SameB.refl(s:Sr):SameB s s:=⟨rfl,rfl,rfl,rfl⟩
def SameB.trans{a b c:Sr}(h:SameB a b)(g:SameB b c):SameB a c:=⟨g.x.trans h.x,g.kind.trans h.kind,g.set.trans h.set,g.total.trans h.total⟩
def SameB.b{t:VType}{a b:Sr}(h:SameB a b)(g:SrB t a):SrB t b:=⟨by rw[h.x,h.kind];exact g.ty,by rw[h.x];exact g.ev,by rw[h.x];exact g.before,by rw[h.x];exact g.orders,by rw[h.total];exact g.total⟩
def VG(s:Sr)(l:List Visit):SameB s (LS s l):=by unfold LS;split <;> exact⟨rfl,rfl,rfl,rfl⟩
def FH{α:Type}{g:Sr->α->Sr}(A:∀a v,SameB a (g a v)):∀(l:List α) (a:Sr),SameB a (l.foldl g a)
 | [],a=>.refl a
 | v::l,a=>(A a v).trans (FH A l (g a v))
def sI(t:VType):∀(f:Nat) (s:Sr) (l:List Visit) (src:Int) (st:List Sta),SameB s (oG t f s l src st)
 | 0,s,_,_,_=>.refl s
 | f+1,s,l,src,st=>by
  unfold oG;split
  ·exact VG s l
  ·refine FH (fun a v=>?_) _ _;unfold AK;split
   ·exact .refl a
   ·split
    ·exact .refl a
    ·exact sI t f _ _ _ _
def ajG{H:aH}{j:Nat}:(fun q=>if q∈[j]then none else H q)=aI H j none:=funext fun q=>by simp only[aI,Xbg]
def Es{l:List Nat}{H0 H O:aH}{K:Env->aH->Prop}{ρ:Env}{J A:Nat}{a b:Row}{r5:Option Row}(Y:∀k,k∉l->O k=H k)(hn:A∉l)(Z:O J=none)(U:Sup (aI H0 A (some a)) H)
  (h:∀F:aH,F A=some b->Sup (aI H0 A (some b)) F->K ρ F):oR l H K ρ (aI (aI (aI O J r5) J none) A (some b)):=fun h0 F h1 X=>by
 refine h F ((X A hn).trans (aB _ _ _)) fun k row M=>?_
 by_cases e:k=A
 ·subst e;rw[aB]at M;rw[X k hn,aB];exact M
 ·rw[aD _ _ _ _ e]at M;have T:=U k row (by rw[aD _ _ _ _ e];exact M);by_cases I:k∈l
  ·rw[h1 k I];exact T
  ·have E:k≠J:=fun e2=>by rw[<-e2,Y k I,T]at Z;cases Z
   rw[X k I,aD _ _ _ _ e,aD _ _ _ _ E,aD _ _ _ _ E,Y k I];exact T
abbrev Xc(t:VType)(js f:Nat):Prop:=∀(s:Sr) (_:SrB t s) (H0:aH) (_:H0 js=some (jR s)) (l:List Visit) (src:Int) (st:List Sta) (_:l.length<=s.total) (_:s.total-l.length<f) (_:st.length<=2^(l.length+1)),
 MC prog 147 [.op js 0 0,.sl (l.map aL),int src,.sl (st.map fU)] H0 (aI H0 js (some (jR (oG t f s l src st)))) (.tup [])
def JO(t:VType)(js f:Nat)(a7:∀f',f=f'+1->Xc t js f'):Xc t js f:=by
 intro s ay H0 az l src st bw hf bq;obtain⟨f,rfl⟩:∃f',f=f'+1:=⟨f-1,by omega⟩;have a7:=a7 f rfl;have bx:=ay.total;have hj:=az;have eW:oG t (f+1) s l src st=if((l.length:Int) == (s.total:Int))=true then LS s l else(CE s.x s.set l).foldl (AK t (oG t f) l src st) s:=rfl
 generalize oG t (f+1) s l src st=RW at *;refine MC.body (c:=f147.body.getD .skip) (fun _=>false) (RK az) mixed func147 rfl (by kernel_rfl) ?_;unfold f147;simp only[Xbh];simp only[go_sem,hj,Xaa];have U:=Sup.refl H0;refine aA (fun hb=>?_) (fun hb=>?_)
 ·rw[if_pos hb]at eW;subst eW;have eE:LS s l=if((gO s.x (mA s l)).2 == 0)=true then { s with best:=BC s.best s.found (Lj s l (gO s.x (mA s l)).1),found:=true }else s:=rfl
  have hP:=Xr s.x (mA s l) ay.ev (by show l.length<=1048575;omega);simp only[go_sem,hj];refine aJ fun j8 a4=>?_
  have ah:js≠j8:=aR hj a4;simp only[go_sem,hj];refine aN (aB _ _ _) (by simp[gU]) ?_;have a9:=U.none a4;generalize au:aI (aI _ j8 _) j8 _=HGj8;replace U:=Sup.eq ((U.upd a9 _).upd a9 _) au;replace hj:=kpR au ah ah hj;have R8:HGj8 j8=some ((⟨65,4,[bI (mA s l)]⟩:Row)):=by rw[<-au,aB];try rfl
  clear au a4;simp only[go_sem,R8,hj];refine gW [js,j8] [(0,true),(1,true),(2,true),(3,true),(4,true),(5,false),(6,true),(7,true),(8,true),(9,true),(10,true)] (by simp[hj,R8]) (by kernel_rfl) fun Hp Hr hp hr _ am=>?_
  have ab:=(hp js (by simp)).trans hj;have al:=(hp j8 (by simp)).trans R8;simp only[go_sem,ab,al];refine aP hP ?_;generalize gO s.x (mA s l)=pr at *;simp only[go_sem];refine nC hr ?_;simp only[go_sem];refine aA (fun hc=>?_) (fun hc=>?_)
  case refine_2=>rw[if_neg (fun h=>Bool.noConfusion (hc.symm.trans h))]at eE;rw[eE];simp only[go_sem];refine JZ.flat ?_ _;rw[LF az];exact U
  rw[if_pos hc]at eE;simp only[go_sem];clear hp hr am ab al;refine gW [js,j8] [(0,true),(1,true),(2,true),(3,true),(4,true),(5,true),(6,true),(7,true),(8,true),(9,true),(10,true),(11,false),(12,false)] (by simp[hj,R8]) (by kernel_rfl) fun Hp Hr hp hr _ am=>?_
  have ab:=(hp js (by simp)).trans hj;have al:=(hp j8 (by simp)).trans R8;simp only[go_sem,ab,al];refine aJ fun ao bo=>?_
  simp only[go_sem];refine aN (aB _ _ _) (by simp[eH,gU]) ?_;refine oS hr bo fun aq=>?_
  have af:js≠ao:=aR hj aq;have a0:=U.none aq;generalize ai:aI (aI _ ao _) ao _=HGj11;replace U:=Sup.eq ((U.upd a0 _).upd a0 _) ai;replace hj:=kpR ai af af hj;have aw:HGj11 ao=some (lH (Lj s l pr.1)):=by rw[<-ai,aB];try rfl
  clear ai aq;simp only[go_sem,aw,hj];clear hp hr am ab al;have hF:=aaX s.best s.found (Lj s l pr.1) (by show l.length<=1048576;omega);generalize b2:BC s.best s.found (Lj s l pr.1)=fb at *;have bg:js≠ao:=fun e=>by subst e;rw[hj]at aw;cases aw
  refine lL [ao] (.q 0 (.q 1 (.q 2 (.q 3 (.q 5 (.q 6 (.q 7 (.q 9 (.a2 4 (.a1 8 (.a1 10 (.q 11 (.q 12 (.a1 13 .nil))))) 8 (.a1 4 (.a1 10 (.q 11 (.q 12 (.a1 13 .nil)))))))))))))) (fun Z H'=>Z 0=.op js 0 0/\H' js=some (jR { s with best:=fb })/\Sup (aI H0 js (some (jR { s with best:=fb }))) H') (by simp[aw]) (by kernel_rfl) (fun K' ak Hp Hr hp hr _ am=>?_) ?_
  ·have bc:=(hp ao (by simp)).trans aw;have ag:=(hr js (by simpa using bg)).trans hj;simp only[go_sem,bc];refine jN ?_ ?_
   ·simp only[go_sem,ag];refine aP hF ?_;simp only[go_sem,ag];refine aN ag (by simp[oX,eH]) ?_;simp only[go_sem];refine rU hr (by simpa using bg) (ak _ _ ⟨by simp only[go_sem],(aB _ _ _).trans rfl,?_⟩);exact U.set js (some (jR { s with best:=fb }))
   ·simp only[go_sem,ag];refine aP hF ?_;simp only[go_sem,ag];refine aN ag (by simp[oX,eH]) ?_;simp only[go_sem];refine rU hr (by simpa using bg) (ak _ _ ⟨by simp only[go_sem],(aB _ _ _).trans rfl,?_⟩);exact U.set js (some (jR { s with best:=fb }))
  clear hj U R8 aw;rintro ρ H ⟨I,R,U⟩;simp only[go_sem,I,R];refine bU so4 R (by simp[oX]) ?_;simp only[go_sem];rw[eE];refine JZ.flat ?_ _;exact Sup.set2 U (some (jR { s with best:=fb,found:=true }))
 rw[if_neg (fun h=>Bool.noConfusion (hb.symm.trans h))]at eW;subst eW;have bz:l.length<s.total:=by simp at hb;omega
 have bv:=ay.orders;have bn:=BG s.x s.set l s.x.orders.length;simp only[go_sem];refine gW [js] [(0,true),(1,true),(2,true),(3,true),(4,true),(5,true),(6,true),(7,true),(8,true),(11,true),(9,false),(10,true)] (by simp[hj]) (by kernel_rfl) fun Hp Hr hp hr _ am=>?_
 have ab:=(hp js (by simp)).trans hj;simp only[go_sem,ab];refine aP (adT s.x s.set l (by omega) ay.before (by omega)) ?_;have bn:(CE s.x s.set l).length<=120:=Xai bn (by omega);generalize CE s.x s.set l=vs at *;simp only[go_sem,Xaa];refine nC hr ?_;clear hp hr am ab U;have b0:st.length<=131072:=Xai bq (Xai (Xau (by decide) (show l.length+1<=17 by omega)) (by decide));refine⟨fun ρ H=>∃(k:Nat) (a:Sr),k<=vs.length/\ρ 0=.op js 0 0/\ρ 1=.sl (l.map aL)/\ρ 2=int src/\ρ 3=.sl (st.map fU)/\ρ 77=.sl (vs.map aL)/\ρ 78=int (vs.length:Nat)/\ρ 79=int k/\a=(vs.take k).foldl (AK t (oG t f) l src st) s/\SameB s a/\H js=some (jR a)/\Sup (aI H0 js (some (jR a))) H,fun ρ _=>vs.length-aT (ρ 79),⟨0,s,Xab _,by simp only[go_sem],by simp only[go_sem],by simp only[go_sem],by simp only[go_sem],by simp only[go_sem],by simp only[go_sem,Xaa],(by simp only[go_sem];rfl),rfl,SameB.refl s,az,by rw[LF az];exact Sup.refl H0⟩,?_⟩;rintro ρ H ⟨k,a,hk,I,T,J,O,E,F,A,ha,hS,R,U⟩;simp only[go_sem,I,T,J,O,E,F,A];refine aA (fun ap=>?_) (fun ba=>?_)
 ·have ap:=ltB (by simpa using ap);obtain⟨v,hv⟩:=aM ap;have b1:=inB ap;have hs:=iA (f:=AK t (oG t f) l src st) (b:=s) hv;rw[<-ha]at hs;have bm:=hS.b ay;have eX:AK t (oG t f) l src st a v=if((gH a.x v).2 != 0)=true then a
   else if(BD a.x.net t src (gH a.x v).1 st).length=0 then a
   else oG t f a (l++[v]) (gH a.x v).1.place (BD a.x.net t src (gH a.x v).1 st):=rfl
  have bu:SameB a (AK t (oG t f) l src st a v):=by
   unfold AK;split
   ·exact .refl a
   ·split
    ·exact .refl a
    ·exact sI t f _ _ _ _
  generalize AK t (oG t f) l src st a v=EV at *;have bp:=Tu a.x v;generalize b3:gH a.x v=sv at *;simp only[go_sem,I,T,J,O,E,F,A,aC hv,b1];refine aJ fun ac an=>?_
  have ae:js≠ac:=aR R an;simp only[go_sem,I,T,J,O,E,F,A,R];refine aN (aB _ _ _) (by simp[cX]) ?_;have a5:=U.none an;generalize aj:aI (aI _ ac _) ac _=HGi13;replace U:=Sup.eq ((U.upd a5 _).upd a5 _) aj;replace R:=kpR aj ae ae R;have aa:HGi13 ac=some ((⟨126,2,[aL v]⟩:Row)):=by rw[<-aj,aB];try rfl
  clear aj an;simp only[go_sem,I,T,J,O,E,F,A,aa,R];refine lL [js,ac] (.q 0 (.q 1 (.q 2 (.q 3 (.q 4 (.q 5 (.a2 6 (.q 7 (.q 8 (.q 9 (.a1 10 (.a1 11 (.q 12 .nil)))))) 10 (.a1 6 (.q 7 (.q 8 (.q 9 (.a1 11 (.q 12 .nil))))))))))))) (fun Z H'=>Z 0=.op js 0 0/\Z 1=.sl (l.map aL)/\Z 2=int src/\Z 3=.sl (st.map fU)/\Z 77=.sl (vs.map aL)/\Z 78=int vs.length/\Z 79=int (k:Nat)/\Z 13=.op ac 0 0/\Z 15=int sv.2/\∃av,Z 14=.op av 0 0/\H' av=some (⟨79,4,[dQ sv.1]⟩:Row)/\H' ac=some (⟨126,2,[aL v]⟩:Row)/\H' js=some (jR a)/\Sup (aI H0 js (some (jR a))) H') (by simp[R,aa]) (by kernel_rfl) (fun K' ak Hp Hr hp hr _ am=>?_) ?_
  ·have bt:=(hp js (by simp)).trans R;have ar:=(hp ac (by simp)).trans aa;simp only[go_sem,I,T,J,O,E,F,A,bt,ar];refine jN ?_ ?_
   ·simp only[go_sem,I,T,J,O,E,F,A];refine aP bp ?_;simp only[go_sem,I,T,J,O,E,F,A];refine aJ fun j8 bj=>?_
    simp only[go_sem,I,T,J,O,E,F,A];refine aN (aB _ _ _) (by simp[lM]) ?_;simp only[go_sem];refine oS hr bj fun h8=>ak _ _ ⟨by simp only[go_sem,I,T,J,O,E,F,A],by simp only[go_sem,I,T,J,O,E,F,A],by simp only[go_sem,I,T,J,O,E,F,A],by simp only[go_sem,I,T,J,O,E,F,A],by simp only[go_sem,I,T,J,O,E,F,A],by simp only[go_sem,I,T,J,O,E,F,A],by simp only[go_sem,I,T,J,O,E,F,A],by simp only[go_sem,I,T,J,O,E,F,A],by simp only[go_sem],j8,by simp only[go_sem],aB _ _ _,(aD _ _ _ _ (aR aa h8)).trans ((aD _ _ _ _ (aR aa h8)).trans aa),(aD _ _ _ _ (aR R h8)).trans ((aD _ _ _ _ (aR R h8)).trans R),(U.upd (U.none h8) _).upd (U.none h8) _⟩
   ·simp only[go_sem,I,T,J,O,E,F,A];refine aJ fun j8 bj=>?_
    simp only[go_sem,I,T,J,O,E,F,A];refine aP bp ?_;simp only[go_sem,I,T,J,O,E,F,A];refine aN (aB _ _ _) (by simp[lM]) ?_;simp only[go_sem];refine oS hr bj fun h8=>ak _ _ ⟨by simp only[go_sem,I,T,J,O,E,F,A],by simp only[go_sem,I,T,J,O,E,F,A],by simp only[go_sem,I,T,J,O,E,F,A],by simp only[go_sem,I,T,J,O,E,F,A],by simp only[go_sem,I,T,J,O,E,F,A],by simp only[go_sem,I,T,J,O,E,F,A],by simp only[go_sem,I,T,J,O,E,F,A],by simp only[go_sem,I,T,J,O,E,F,A],by simp only[go_sem],j8,by simp only[go_sem],aB _ _ _,(aD _ _ _ _ (aR aa h8)).trans ((aD _ _ _ _ (aR aa h8)).trans aa),(aD _ _ _ _ (aR R h8)).trans ((aD _ _ _ _ (aR R h8)).trans R),(U.upd (U.none h8) _).upd (U.none h8) _⟩
  clear aa R U I T J O E F A;rintro ρ H ⟨I,T,J,O,E,F,A,Y,M,av,X,ax,aa,R,U⟩;simp only[go_sem,I,T,J,O,E,F,A,Y,M,X];refine aA (fun c1=>?_) (fun c1=>?_)
  ·rw[if_pos c1]at eX;simp only[go_sem,I,T,J,O,E,F,A,Y,M,X,aV k];exact⟨⟨k+1,a,ap,rfl,by rw[hs,eX],hS,R,U⟩,by simp only[aF];omega⟩
  rw[if_neg (fun h=>Bool.noConfusion (c1.symm.trans h))]at eX;have br:=ZR H js a t R bm.ty src st sv.1 bm.ev.net (by omega);have a6:=BL a.x.net t src sv.1 st st.length;rw[Xae]at a6;replace a6:(BD a.x.net t src sv.1 st).length<=2*st.length:=a6;generalize BD a.x.net t src sv.1 st=nx at *;simp only[go_sem,I,T,J,O,E,F,A,Y,M,X,ax];refine LC.use br ?_;simp only[go_sem,I,T,J,O,E,F,A,Y,M,X,Xaa];refine aA (fun c2=>?_) (fun c2=>?_)
  case refine_2=>
   have hz:nx.length=0:=by simp at c2;simp[c2]
   rw[if_pos hz]at eX;simp only[go_sem,I,T,J,O,E,F,A,Y,M,X,aV k];exact⟨⟨k+1,a,ap,rfl,by rw[hs,eX],hS,R,U⟩,by simp only[aF];omega⟩
  have hz:¬nx.length=0:=by simp at c2;omega
  rw[if_neg hz]at eX;have bb:js≠ac:=fun e=>by subst e;rw[R]at aa;cases aa
  have be:js≠av:=fun e=>by subst e;rw[R]at ax;cases ax
  simp only[go_sem,I,T,J,O,E,F,A,Y,M,X];have bk:(l++[v]).length=l.length+1:=by simp
  have bd:=fun(Hx:aH) (hx:Hx js=some (jR a))=>a7 a bm Hx hx (l++[v]) sv.1.place nx (by rw[bk,hS.total];omega) (by rw[bk,hS.total];omega) (by rw[bk,Nat.pow_succ];omega)
  rw[<-eX]at bd;refine lL [ac,av] (.q 0 (.q 1 (.q 3 (.q 6 (.q 7 (.q 8 (.a2 2 (.a1 4 (.a1 5 (.a1 9 .nil))) 4 (.a1 2 (.a1 5 (.a1 9 .nil)))))))))) (fun Z H'=>Z 0=.op js 0 0/\Z 1=.sl (l.map aL)/\Z 2=int src/\Z 3=.sl (st.map fU)/\Z 77=.sl (vs.map aL)/\Z 78=int vs.length/\Z 79=int (k:Nat)/\H' js=some (jR EV)/\Sup (aI H0 js (some (jR EV))) H') (by simp[aa,ax]) (by kernel_rfl) (fun K' ak Hp Hr hp hr _ am=>?_) ?_
  ·have ar:=(hp ac (by simp)).trans aa;have bi:=(hp av (by simp)).trans ax;have a8:=(hr js (by simp[bb,be])).trans R;simp only[go_sem,I,T,J,O,E,F,A,Y,M,X,ar,bi];refine jN ?_ ?_
   ·simp only[go_sem,I,T,J,O,E,F,A,Y,M,X];refine aP (XV l (by omega)) ?_;simp only[go_sem,I,T,J,O,E,F,A,Y,M,X];refine SP agK (.inl rfl) (by simp) (Bt cX l) (by simp only[go_sem]) (by simp;omega) fun j5 h5=>?_
    have n5:js≠j5:=aR a8 h5;simp only[go_sem,I,T,J,O,E,F,A,Y,M,X];refine bF.frz [j5] (args':=[.op js 0 0,.sl (l.map aL++[aL v]),int sv.1.place,.sl (nx.map fU)]) (.cons _ _ _ _ (.refl _) (.cons _ _ _ _ (.row _ _ _ (by simp;exact aB _ _ _) (ConvE.refl _)) (.cons _ _ _ _ (.refl _) (.cons _ _ _ _ (.refl _) .nil)))) ?_;rw[ajG,show l.map aL++[aL v]=(l++[v]).map aL by simp];refine MC.use (bd _ ((aD _ _ _ _ n5).trans ((aD _ _ _ _ n5).trans a8))) ?_;simp only[go_sem,I,T,J,O,E,F,A,Y,M,X];refine Es hr (by simp[bb,be]) h5 U fun Hm bf bh=>ak _ _ ⟨by simp only[go_sem,I,T,J,O,E,F,A,Y,M,X],by simp only[go_sem,I,T,J,O,E,F,A,Y,M,X],by simp only[go_sem,I,T,J,O,E,F,A,Y,M,X],by simp only[go_sem,I,T,J,O,E,F,A,Y,M,X],by simp only[go_sem,I,T,J,O,E,F,A,Y,M,X],by simp only[go_sem,I,T,J,O,E,F,A,Y,M,X],by simp only[go_sem,I,T,J,O,E,F,A,Y,M,X],bf,bh⟩
   ·simp only[go_sem,I,T,J,O,E,F,A,Y,M,X];refine aP (XV l (by omega)) ?_;simp only[go_sem,I,T,J,O,E,F,A,Y,M,X];refine SP agK (.inl rfl) (by simp) (Bt cX l) (by simp only[go_sem]) (by simp;omega) fun j5 h5=>?_
    have n5:js≠j5:=aR a8 h5;simp only[go_sem,I,T,J,O,E,F,A,Y,M,X];refine bF.frz [j5] (args':=[.op js 0 0,.sl (l.map aL++[aL v]),int sv.1.place,.sl (nx.map fU)]) (.cons _ _ _ _ (.refl _) (.cons _ _ _ _ (.row _ _ _ (by simp;exact aB _ _ _) (ConvE.refl _)) (.cons _ _ _ _ (.refl _) (.cons _ _ _ _ (.refl _) .nil)))) ?_;rw[ajG,show l.map aL++[aL v]=(l++[v]).map aL by simp];refine MC.use (bd _ ((aD _ _ _ _ n5).trans ((aD _ _ _ _ n5).trans a8))) ?_;simp only[go_sem,I,T,J,O,E,F,A,Y,M,X];refine Es hr (by simp[bb,be]) h5 U fun Hm bf bh=>ak _ _ ⟨by simp only[go_sem,I,T,J,O,E,F,A,Y,M,X],by simp only[go_sem,I,T,J,O,E,F,A,Y,M,X],by simp only[go_sem,I,T,J,O,E,F,A,Y,M,X],by simp only[go_sem,I,T,J,O,E,F,A,Y,M,X],by simp only[go_sem,I,T,J,O,E,F,A,Y,M,X],by simp only[go_sem,I,T,J,O,E,F,A,Y,M,X],by simp only[go_sem,I,T,J,O,E,F,A,Y,M,X],bf,bh⟩
  clear aa ax R U I T J O E F A Y M X;rintro ρ H ⟨I,T,J,O,E,F,A,R,U⟩;simp only[go_sem,I,T,J,O,E,F,A,aV k];exact⟨⟨k+1,EV,ap,rfl,hs.symm,hS.trans bu,R,U⟩,by simp only[aF];omega⟩
 have ba:=geB hk (by simpa using ba);subst ba;rw[Xae]at ha;rw[<-ha];simp only[go_sem];exact JZ.flat U _
end Sq
namespace Sq
open Go.Proofs.YtgncgpcpbadfnaaGreatDoor.Nu (ltB geB)
open Mv (bZ cK aS)
def Uh(t:VType)(A:Nat):∀f,Xc t A f
 | 0=>JO t A 0 (fun f' e=>by omega)
 | f + 1 => JO t A (f + 1) (fun f' e => by
     obtain rfl:f'=f:=by omega
     exact Uh t A f')
def zK(x:Instance)(set:Int)(l:List Visit):Prop:=∀p v q,l=p++v::q->v∈CE x set p
def zK.nil{x:Instance}{set:Int}:zK x set []:=fun p v q h=>by simp at h
def zK.snoc{x:Instance}{set:Int}{l:List Visit}(h:zK x set l){v:Visit}(F:v∈CE x set l):zK x set (l++[v]):=fun p w q e=>by
 rcases List.eq_nil_or_concat q with rfl|⟨A,u,rfl⟩
 ·obtain⟨rfl,E⟩:=List.append_inj' e rfl;cases E;exact F
 ·rw[List.concat_eq_append,show p++w::(A++[u])=(p++w::A)++[u]by simp]at e;obtain⟨rfl,E⟩:=List.append_inj' e rfl;exact h p w A rfl
def zA(s:Sr):Prop:=s.found=true->∃l,s.best=Lj s l (gO s.x (mA s l)).1/\(gO s.x (mA s l)).2=0/\zK s.x s.set l/\l.length=s.total
def Pk{s:Sr}(h:zA s){l:List Visit}(F:zK s.x s.set l)(I:l.length=s.total):zA (LS s l):=by
 unfold LS;split
 next A=>
  have A:(gO s.x (mA s l)).2=0:=by simpa using A
  intro _;show ∃l',BC s.best s.found (Lj s l (gO s.x (mA s l)).1)=Lj s l' (gO s.x (mA s l')).1/\(gO s.x (mA s l')).2=0/\zK s.x s.set l'/\l'.length=s.total;unfold BC;split
  ·exact⟨l,rfl,A,F,I⟩
  next E=>
   have J:s.found=true:=by
    cases e:s.found with
    | true=>rfl
    | false=>rw[e]at E;simp at E
   exact h J
 ·exact h
def Ha{l:List Visit}{g:Sr->Visit->Sr}{s0:Sr}(A:∀a v,SameB s0 a->zA a->v∈CE s0.x s0.set l->SameB s0 (g a v)/\zA (g a v)):∀(vs:List Visit) (a:Sr),(∀v∈vs,v∈CE s0.x s0.set l)->SameB s0 a->zA a->zA (vs.foldl g a)
 | [],a,_,_,h=>h
 | v::vs,a,hv,hs,h=>by obtain⟨h1,F⟩:=A a v hs h (hv v (by simp));exact Ha A vs (g a v) (fun u E=>hv u (by simp[E])) h1 F
def DP(t:VType):∀(f:Nat) (s:Sr) (l:List Visit) (src:Int) (st:List Sta),zA s->zK s.x s.set l->zA (oG t f s l src st)
 | 0,s,_,_,_,h,_=>h
 | f+1,s,l,src,st,h,hl=>by
  unfold oG;split
  next I=>exact Pk h hl (by simp at I;omega)
  ·refine Ha (l:=l) (fun a v A F E=>?_) _ s (fun v E=>E) (SameB.refl s) h;unfold AK;split
   ·exact⟨A,F⟩
   ·split
    ·exact⟨A,F⟩
    ·refine⟨A.trans (sI t f _ _ _ _),DP t f _ _ _ _ F ?_⟩;rw[A.x,A.set];exact hl.snoc E
def pS(x:Instance)(l:List Int):Nat:=(l.map fun i=>(iW x.orders i).length).sum
def xE(x:Instance)(set:Int):Nat:=pS x (fA set)
def QR(x:Instance){l:List Int}{k:Nat}{i:Int}(h:l[k]?=some i):pS x (l.take (k+1))=pS x (l.take k)+(iW x.orders i).length:=by unfold pS;rw[bE h];simp
def Gq(x:Instance):∀l:List Int,pS x l<=2*l.length
 | []=>Xag _
 | i::l=>by have h1:=Gq x l;have A:=rO x.orders i;unfold pS at h1 |-;simp only[Xaw,List.sum_cons,Xad];omega
def Sf(x:Instance)(l:List Int)(k:Nat):pS x (l.take k)<=2*k:=by have h1:=Gq x (l.take k);rw[Xal]at h1;omega
def Ip{set:Int}{n:Nat}(h:∀i:Nat,n<=i->dH set (i:Int)=false):∀d,tS set (n+d)=tS set n
 | 0=>rfl
 | d+1=>by rw[<-Nat.add_assoc,rG,h (n+d) (by omega),Ip h d];simp
def ZY{set:Int}{n:Nat}(h0:0<=set)(h1:set<2^n)(i:Nat)(E:n<=i):dH set (i:Int)=false:=by
 obtain⟨m,rfl⟩:=Int.eq_ofNat_of_zero_le h0;by_cases A:i<=62
 ·rw[pR (by omega) (by omega),Xbd];refine Nat.testBit_lt_two_pow (Xbi (m:=2^n) ?_ (Xau (by decide) E))
  exact_mod_cast h1
 ·unfold dH;rw[decide_eq_false (show ¬(i:Int)<=62 by omega)];simp
def S6{set:Int}{n:Nat}(h0:0<=set)(h1:set<2^n)(A:n<=63):(fA set).length<=n:=by have h:=Ip (ZY h0 h1) (63-n);unfold fA;rw[show 63=n+(63-n)by omega,h];exact pH set n
def U1{x:Instance}{set:Int}{n:Nat}(h0:0<=set)(h1:set<2^n)(A:n<=63):xE x set<=2*n:=by have F:=S6 h0 h1 A;have E:=Gq x (fA set);unfold xE;omega
def Zp{α:Type}{o:Option α}{f:α->Prop}{a:α}(h:o=some a)(A:f a):bM o f:=by subst h;exact A
abbrev lA(t:VType):Row:=⟨124,14,[aZ t]⟩
end Sq
end Go.Proofs.YtgncgpcpbadfnaaGreatDoor
