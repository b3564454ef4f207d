import Derived.Test.YtkjdacijpeiphaaGreatDoorVp14
import Derived.Test.YtkjdacijpeiphaaGreatDoorVp17
import Derived.Test.YtkjdacijpeiphaaGreatDoorVp18
set_option linter.unusedSimpArgs false
set_option linter.unusedVariables false
set_option linter.defProp false
set_option maxRecDepth 100000
namespace Go.Proofs.YtkjdacijpeiphaaGreatDoor
open Go.Aw Go.Aw.D Go.Proofs Ty
namespace Nu
open Go.Nu Go.So Go.Sb
abbrev hlf:ByteArray:=⟨#[49,47,50]⟩
end Nu
namespace Nu
open Go.Proofs.Tryz
open Go.Nu Go.So Go.Sb
def Ys(c:Cut)(E:Nat)(h:0<=c.set)(A:c.set<9223372036854775808)(F:E<2^63):PC prog 80 [.agg (eC c),int E] (int (Cr c.kind (c.set.toNat &&& E))):=by obtain⟨k,s,n⟩:=c;obtain⟨m,rfl⟩:=Int.eq_ofNat_of_zero_le h;have A:(m:Int)<9223372036854775808:=A;exact ZK k n m E (by omega) F
end Nu
namespace Nu
open Go.Nu
open Dec (kK gS dA)
def Z9(x:Instance):List Nat:=(List.range x.orders.length).filter (qP (fun _=>true) x.orders)
def iM(x:Instance):List Int:=(Z9 x).map fun i:Nat=>(i:Int)
def Ze(x:Instance)(k:Nat):List Int:=((List.range k).filter (qP (fun _=>true) x.orders)).map fun i:Nat=>(i:Int)
def SW(x:Instance)(k:Nat):(Ze x k).length<=k:=by unfold Ze;rw[Xaa];exact Xag (Xbm _ _) (by rw[Xbq];exact Xaf _)
def Ef(x:Instance):(iM x).length<=x.orders.length:=SW x _
def zO{p q:Nat->Bool}{n:Nat}(h1:∀i,i<n->p i=q i)(A:∀i,n<=i->p i=false):∀m,(List.range (n+m)).filter p=(List.range n).filter q
 | 0=>List.filter_congr fun i E=>h1 i (Xba.1 E)
 | m+1=>by rw[<-Nat.add_assoc,List.range_succ,List.filter_append,zO h1 A m];simp[A (n+m) (by omega)]
def Ii(x:Instance)(h:x.orders.length<=62):eJ (Dy x:Nat)=iM x:=by
 unfold eJ rL iM Z9
 congr 1
 obtain⟨m,hm⟩:∃m,63=x.orders.length+m:=⟨63-x.orders.length,by omega⟩;have F:∀i,(Dy x).testBit i=(decide (i<x.orders.length)&&qP (fun _=>true) x.orders i):=fun i=>uE _ _ _
 have A:∀i:Nat,dC ((Dy x:Nat):Int) (i:Int)=(decide (i<x.orders.length)&&qP (fun _=>true) x.orders i):=by
  intro i;by_cases E:i<=62
  ·rw[nI E,F]
  ·unfold dC;rw[decide_eq_false (show ¬((i:Int)<=62)by omega),decide_eq_false (show ¬i<x.orders.length by omega)];simp
 rw[hm];refine zO (fun i E=>?_) (fun i E=>?_) m
 ·rw[A,decide_eq_true E,Xbe]
 ·rw[A,decide_eq_false (by omega),Bool.false_and]
def uT(b:Bool):Int:=if b=true then 1 else 0
def CO(d:Decision):Bool:=d.kind == 3||d.kind == 4
def Lj(l:List Decision)(k:Nat):((l.take k).filter CO).length<=k:=Xag (Xbm _ _) (by rw[Xah];omega)
def vI{α:Type}{p:α->Bool}{l:List α}{k:Nat}{a:α}(h:l[k]?=some a):(l.take (k+1)).filter p=(l.take k).filter p++(if p a=true then[a]else[]):=by
 rw[aZ h,List.filter_append];by_cases A:p a=true
 ·simp[A]
 ·simp[A]
abbrev fG(l:List Int):Row:=⟨3,1,l.map aQ⟩
def fS(x:Instance)(cuts:List Cut)(ds:List Decision):Nat:=(iM x).length+x.types.length+cuts.length+(ds.filter CO).length
structure MIn(x:Instance)(cuts:List Cut)(ds:List Decision):Prop where
 orders:x.orders.length<=62
 types:x.types.length<=1048576
 cl:cuts.length<=1048576
 dl:ds.length<=1048576
def Ip(ds:List Decision)(i:Int):Bool:=ds.any fun d=>d.kind == 5&&d.a == i
def KI(x:Instance)(i:Int):Int:=(oG x.orders i).penalty
def sQ(x:Instance)(ds:List Decision)(i:Int):Bool:=decide (KI x i>=0)&& !Ip ds i
def gQ(x:Instance)(ds:List Decision):List Int:=(iM x).filter (sQ x ds)
def Gy{α:Type}(p:α->Bool)(l:List α)(k:Nat):((l.take k).filter p).length<=k:=Xag (Xbm _ _) (by rw[Xah];omega)
def sT(x:Instance)(c:Column):List Int:=(iM x).map fun i=>uT (dC c.set i)
def nW(x:Instance)(c:Column)(k:Nat):List Int:=(List.range k).map fun t:Nat=>uT (c.type == (t:Int))
def rW(c:Column)(cuts:List Cut):List Int:=cuts.map fun q=>Cr q.kind (q.set.toNat &&& c.set.toNat)
def rQ(c:Column)(ds:List Decision):List Int:=(ds.filter CO).map fun d=>uT (c.type == d.a)
def pK(x:Instance)(c:Column)(cuts:List Cut)(ds:List Decision):List Int:=sT x c++nW x c x.types.length++rW c cuts++rQ c ds
structure ColB(c:Column):Prop where
 set:0<=c.set/\c.set<=9223372036854775807
structure CutsB(cuts:List Cut):Prop where
 set:∀q∈cuts,0<=q.set/\q.set<=9223372036854775807
def zE(x:Instance)(c:Column)(cuts:List Cut)(ds:List Decision):(pK x c cuts ds).length=fS x cuts ds:=by unfold pK sT nW rW rQ fS;simp only[Xai,Xaa,Xbq]
end Nu
namespace Nu
open Go.Proofs.Tryz
open Go.Nu
open Dec (kK gS dA)
def At(m:List (Int×Int))(o v q:Int):mS (xJ m o v) q=if q=o then v else mS m q:=by
 unfold mS xJ rF;induction m with
 | nil=>
  by_cases h:q=o
  ·subst h;simp
  ·have E:(o == q)=false:=by simpa using fun e=>h e.symm
   simp[h,E]
 | cons p m ih=>
  rw[List.findIdx?_cons];cases I:p.1 == o with
  | true=>
   have A:p.1=o:=by simpa using I
   simp only[if_true,List.set_cons_zero,List.find?_cons];by_cases h:q=o
   ·subst h;simp
   ·have E:(o == q)=false:=by simpa using fun e=>h e.symm
    have M:(p.1 == q)=false:=by rw[A];exact E
    simp[h,E,M]
  | false=>
   have A:p.1≠o:=by simpa using I
   cases J:m.findIdx? (fun p=>p.1 == o)with
   | none=>
    rw[J]at ih;simp only[Xar,if_false,Option.map_none,List.cons_append,List.find?_cons];cases F:p.1 == q with
    | true=>
     have:q≠o:=fun e=>A ((by simpa using F:p.1=q).trans e)
     simp[this]
    | false=>simpa using ih
   | some j=>
    rw[J]at ih;simp only[Xar,if_false,Option.map_some,List.set_cons_succ,List.find?_cons];cases F:p.1 == q with
    | true=>
     have:q≠o:=fun e=>A ((by simpa using F:p.1=q).trans e)
     simp[this]
    | false=>simpa using ih
def ZX(d:Decision):PC prog 81 [.agg (aM d)] (boo (CO d)):=by refine pcd func81 rfl rfl ?_;simp only[go_sem];exact .refl _
def PE(b:Bool):PC prog 56 [boo b] (int (uT b)):=by
 refine pcd func56 rfl rfl ?_;simp only[go_sem];refine aA (fun A=>?_) (fun A=>?_)
 ·simp only[go_sem];subst A;exact .refl _
 ·simp only[go_sem];subst A;exact .refl _
def YB(x:Instance)(c:Column)(cuts:List Cut)(ds:List Decision)(h:MIn x cuts ds)(hc:ColB c)(hq:CutsB cuts):
  PC prog 53 [.agg (aE x),.agg (bA c),.sl (cuts.map eC),.sl (ds.map aM)] (.sl ((pK x c cuts ds).map aQ)):=by
 have h1:=h.orders;have h2:=h.types;have h3:=h.cl;have h4:=h.dl;have a0:=Ef x;obtain⟨sn,aq⟩:=Int.eq_ofNat_of_zero_le hc.set.1;have aj:sn<2^63:=by have:=hc.set.2;omega
 refine pcb (fun t=>t == 9) func53 rfl rfl ?_;simp only[go_sem];refine dV fun j aw av (R:aw j=some (fG [])) N=>?_
 clear N av;simp only[go_sem,R];refine aP (KQ x h1) ?_;simp only[go_sem];refine aP (hY _) ?_;rw[Ii x h1];simp only[go_sem];refine⟨fun ρ H=>∃(k:Nat) (j:Nat),k<=(iM x).length/\ρ 2=.sl (cuts.map eC)/\ρ 3=.sl (ds.map aM)/\ρ 4=.rp (aE x) 0/\ρ 5=.rp (bA c) 0/\ρ 19=.sl ((iM x).map aQ)/\ρ 20=int ((iM x).length:Nat)/\ρ 21=int k/\ρ 9=.os j/\H j=some (fG (((iM x).take k).map fun i=>uT (dC c.set i))),fun ρ _=>(iM x).length-aU (ρ 21),⟨0,j,Xab _,by simp only[go_sem],by simp only[go_sem],by simp only[go_sem],by simp only[go_sem],by simp only[go_sem],by simp only[go_sem,Xaa],(by simp only[go_sem];rfl),by simp only[go_sem],R⟩,?_⟩;rintro ρ H ⟨k,j,hk,U,J,e4,A,ab,ac,aa,F,R⟩;simp only[go_sem,U,J,e4,A,ab,ac,aa,F];refine aA (fun E=>?_) (fun I=>?_)
 ·have E:=ltB (by simpa using E);obtain⟨i,hi⟩:=aO E;have b1:=inB E;simp only[go_sem,U,J,e4,A,ab,ac,aa,F,aC hi,b1];refine aP (rC _ i) ?_;simp only[go_sem,U,J,e4,A,ab,ac,aa,F];refine aP (PE _) ?_;simp only[go_sem,U,J,e4,A,ab,ac,aa,F];refine bT R ⟨rfl,rfl⟩ ⟨rfl,trivial⟩ (by simp only[Xaa,Xah,Xae,List.length_nil];omega) (fun j' an=>?_);simp only[go_sem,U,J,e4,A,ab,ac,aa,F,aT k];refine⟨⟨k+1,j',E,rfl,rfl,?_⟩,by simp only[aF];omega⟩;rw[aZ hi,Xak];exact lV rfl
 have I:=geB hk (by simpa using I);subst I;rw[Xad]at R
 change H j=some (fG (sT x c))at R
 simp only[go_sem,U,J,e4,A,ab,ac,aa,F,Xaa];refine⟨fun ρ H=>∃(k:Nat) (j:Nat),k<=x.types.length/\ρ 2=.sl (cuts.map eC)/\ρ 3=.sl (ds.map aM)/\ρ 5=.rp (bA c) 0/\ρ 36=int (x.types.length:Nat)/\ρ 37=int k/\ρ 9=.os j/\H j=some (fG (sT x c++nW x c k)),fun ρ _=>x.types.length-aU (ρ 37),⟨0,j,Xab _,by simp only[go_sem,U,J,A],by simp only[go_sem,U,J,A],by simp only[go_sem,U,J,A],by simp only[go_sem,Xaa,U,J,A],(by simp only[go_sem,U,J,A];rfl),by simp only[go_sem,F],by simpa[nW]using R⟩,?_⟩;rintro ρ H ⟨k,j,hk,U,J,A,ae,ah,F,R⟩;simp only[go_sem,U,J,A,ae,ah,F];refine aA (fun E=>?_) (fun I=>?_)
 ·have E:=ltB (by simpa using E);have ai:(sT x c++nW x c k).length<=62+k:=by unfold sT nW;simp only[Xai,Xaa,Xbq];omega
  simp only[go_sem,U,J,A,ae,ah,F];refine aP (PE _) ?_;simp only[go_sem,U,J,A,ae,ah,F];refine bT R ⟨rfl,rfl⟩ ⟨rfl,trivial⟩ (by simp only[Xaa,Xae,List.length_nil];omega) (fun j' an=>?_);simp only[go_sem,U,J,A,ae,ah,F,aT k];refine⟨⟨k+1,j',E,rfl,rfl,?_⟩,by simp only[aF];omega⟩;have:nW x c (k+1)=nW x c k++[uT (c.type == (k:Int))]:=by unfold nW;rw[List.range_succ,Xak];rfl
  rw[this,<-Xbd];exact lV rfl
 have I:=geB hk (by simpa using I);subst I;simp only[go_sem,U,J,A,ae,ah,F,Xaa];refine⟨fun ρ H=>∃(k:Nat) (j:Nat),k<=cuts.length/\ρ 3=.sl (ds.map aM)/\ρ 5=.rp (bA c) 0/\ρ 49=.sl (cuts.map eC)/\ρ 50=int (cuts.length:Nat)/\ρ 51=int k/\ρ 9=.os j/\H j=some (fG (sT x c++nW x c x.types.length++rW c (cuts.take k))),fun ρ _=>cuts.length-aU (ρ 51),⟨0,j,Xab _,by simp only[go_sem,J,A],by simp only[go_sem,J,A],by simp only[go_sem,J,A],by simp only[go_sem,Xaa,J,A],(by simp only[go_sem,J,A];rfl),by simp only[go_sem,F],by simpa[rW]using R⟩,?_⟩;rintro ρ H ⟨k,j,hk,J,A,Z,Y,X,F,R⟩;simp only[go_sem,J,A,Z,Y,X,F];refine aA (fun E=>?_) (fun I=>?_)
 ·have E:=ltB (by simpa using E);obtain⟨q,ak⟩:=aO E;have b1:=inB E;have au:=hq.set q (Xac ak);have ai:(sT x c++nW x c x.types.length++rW c (cuts.take k)).length<=62+1048576+1048576:=by unfold sT nW rW;simp only[Xai,Xaa,Xbq,Xah];omega
  simp only[go_sem,J,A,Z,Y,X,F,aC ak,b1];refine aJ fun az ag=>?_
  simp only[go_sem,J,A,Z,Y,X,F,R];refine bH ag (by simp[pB]) fun am (ay:am az=some (⟨104,3,[eC q]⟩)) N=>?_
  replace R:=N R;obtain⟨ap,R⟩:=R;clear N ag;simp only[go_sem,J,A,Z,Y,X,F,ay,R];rw[aq];refine aP (Ys q sn au.1 (by omega) aj) ?_;simp only[go_sem,J,A,Z,Y,X,F];refine bT R ⟨rfl,rfl⟩ ⟨rfl,trivial⟩ (by simp only[Xaa,Xae,List.length_nil];omega) (fun j' an=>?_);simp only[go_sem,J,A,Z,Y,X,F,aT k];refine⟨⟨k+1,j',E,rfl,rfl,?_⟩,by simp only[aF];omega⟩;have:rW c (cuts.take (k+1))=rW c (cuts.take k)++[Cr q.kind (q.set.toNat &&& sn)]:=by unfold rW;rw[aZ ak,Xak,aq];rfl
  rw[this,<-Xbd];exact lV rfl
 have I:=geB hk (by simpa using I);subst I;rw[Xad]at R;simp only[go_sem,J,A,Z,Y,X,F,Xaa];refine⟨fun ρ H=>∃(k:Nat) (j:Nat),k<=ds.length/\ρ 5=.rp (bA c) 0/\ρ 63=.sl (ds.map aM)/\ρ 64=int (ds.length:Nat)/\ρ 65=int k/\ρ 9=.os j/\H j=some (fG (sT x c++nW x c x.types.length++rW c cuts++rQ c (ds.take k))),fun ρ _=>ds.length-aU (ρ 65),⟨0,j,Xab _,by simp only[go_sem,A],by simp only[go_sem,A],by simp only[go_sem,Xaa,A],(by simp only[go_sem,A];rfl),by simp only[go_sem,F],by simpa[rQ]using R⟩,?_⟩;rintro ρ H ⟨k,j,hk,A,T,O,M,F,R⟩;simp only[go_sem,A,T,O,M,F];refine aA (fun E=>?_) (fun I=>?_)
 ·have E:=ltB (by simpa using E);obtain⟨d,hd⟩:=aO E;have b1:=inB E;have hs:=vI (p:=CO) hd;have ai:(sT x c++nW x c x.types.length++rW c cuts++rQ c (ds.take k)).length<=62+1048576+1048576+1048576:=by have:=Lj ds k;unfold sT nW rW rQ;simp only[Xai,Xaa,Xbq];omega
  simp only[go_sem,A,T,O,M,F,aC hd,b1];refine aJ fun ax af=>?_
  simp only[go_sem,A,T,O,M,F,R];refine bH af (by simp[eA]) fun al (ar:al ax=some (⟨33,4,[aM d]⟩)) N=>?_
  replace R:=N R;obtain⟨ao,R⟩:=R;clear N af;simp only[go_sem,A,T,O,M,F,ar,R];refine aP (ZX d) ?_;simp only[go_sem,A,T,O,M,F];refine aA (fun hb=>?_) (fun hb=>?_)
  ·rw[if_pos hb]at hs;have:rQ c (ds.take (k+1))=rQ c (ds.take k)++[uT (c.type == d.a)]:=by unfold rQ;rw[hs,Xak,Xat,List.map_nil]
   simp only[go_sem,A,T,O,M,F,ar];refine aP (PE _) ?_;simp only[go_sem,A,T,O,M,F];refine bT R ⟨rfl,rfl⟩ ⟨rfl,trivial⟩ (by simp only[Xaa,Xae,List.length_nil];omega) (fun j' an=>?_);simp only[go_sem,A,T,O,M,F,aT k];refine⟨⟨k+1,j',E,rfl,rfl,?_⟩,by simp only[aF];omega⟩;rw[this,<-Xbd];exact lV rfl
  ·rw[if_neg (by rw[hb];simp),Xbn]at hs;simp only[go_sem,A,T,O,M,F,aT k];refine⟨⟨k+1,j,E,rfl,rfl,?_⟩,by simp only[aF];omega⟩;have:rQ c (ds.take (k+1))=rQ c (ds.take k):=by unfold rQ;rw[hs]
   rw[this];exact R
 have I:=geB hk (by simpa using I);subst I;rw[Xad]at R;simp only[go_sem,A,T,O,M,F];exact .row _ _ _ R (ConvE.refl _)
def inM(cols:List Column)(ds:List Decision):List Column:=cols.filter fun c=>ds.all fun d=>dA d c.set
abbrev PP(l:List Column):Row:=⟨140,7,l.map bA⟩
def A0(A:List Column)(ds:List Decision)(hl:A.length<=1048576)(hd:ds.length<=1048576):PC prog 50 [.sl (A.map bA),.sl (ds.map aM)] (.sl ((inM A ds).map bA)):=by
 refine pcb (fun t=>t == 5) func50 rfl rfl ?_;simp only[go_sem];refine dV fun j ab aa (R:ab j=some (PP [])) N=>?_
 clear N aa;simp only[go_sem,R];refine⟨fun ρ H=>∃(k:Nat) (j:Nat),k<=A.length/\ρ 1=.sl (ds.map aM)/\ρ 8=.sl (A.map bA)/\ρ 9=int (A.length:Nat)/\ρ 10=int k/\ρ 5=.os j/\H j=some (PP (inM (A.take k) ds)),fun ρ _=>A.length-aU (ρ 10),⟨0,j,Xab _,by simp only[go_sem],by simp only[go_sem],by simp only[go_sem,Xaa],(by simp only[go_sem];rfl),by simp only[go_sem],R⟩,?_⟩;rintro ρ H ⟨k,j,hk,M,O,I,E,J,R⟩;simp only[go_sem,M,O,I,E,J];refine aA (fun F=>?_) (fun U=>?_)
 ·have F:=ltB (by simpa using F);obtain⟨c,hc⟩:=aO F;have b1:=inB F;have Z:inM (A.take (k+1)) ds=inM (A.take k) ds++(if(ds.all fun d=>dA d c.set)=true then[c]else[]):=vI (p:=fun c:Column=>ds.all fun d=>dA d c.set) hc;have ac:(inM (A.take k) ds).length<=k:=Gy _ _ _;simp only[go_sem,M,O,I,E,J,aC hc,b1];refine aJ fun i7 T=>?_
  simp only[go_sem,M,O,I,E,J,R];refine bH T (by simp[dW]) fun X (R7:X i7=some (⟨140,7,[bA c]⟩)) N=>?_
  replace R:=N R;obtain⟨Y,R⟩:=R;clear N T;simp only[go_sem,M,O,I,E,J,R7,R];refine aP (Dec.V3 ds c hd) ?_;simp only[go_sem,M,O,I,E,J];refine aA (fun hb=>?_) (fun hb=>?_)
  ·rw[if_pos hb]at Z;simp only[go_sem,M,O,I,E,J,R7];refine bT R ⟨rfl,rfl⟩ ⟨rfl,trivial⟩ (by simp only[Xaa,Xae,List.length_nil];omega) (fun j' ae=>?_);simp only[go_sem,M,O,I,E,J,aT k];refine⟨⟨k+1,j',F,rfl,rfl,?_⟩,by simp only[aF];omega⟩;rw[Z];exact lV rfl
  ·rw[if_neg (by rw[hb];simp),Xbn]at Z;simp only[go_sem,M,O,I,E,J,aT k];exact⟨⟨k+1,j,F,rfl,rfl,by rw[Z];exact R⟩,by simp only[aF];omega⟩
 have U:=geB hk (by simpa using U);subst U;rw[Xad]at R;simp only[go_sem,M,O,I,E,J];exact .row _ _ _ R (ConvE.refl _)
def MJ{a b:Nat}(J:a<2^63)(O:b<2^63):∃s:Nat,pU .andNot .i64 (a:Int) (b:Int)=(s:Int)/\s<=a/\∀i,s.testBit i=(a.testBit i&& !b.testBit i):=by
 have h1:((a:Int)%((2^64:Nat):Int)).toNat=a:=by omega
 have E:((b:Int)%((2^64:Nat):Int)).toNat=b:=by omega
 have M:BitVec.ofInt 64 (a:Int)=BitVec.ofNat 64 a:=by apply BitVec.eq_of_toNat_eq;rw[BitVec.toNat_ofInt,BitVec.toNat_ofNat,h1,Xav (by omega)]
 have F:BitVec.ofInt 64 (b:Int)=BitVec.ofNat 64 b:=by apply BitVec.eq_of_toNat_eq;rw[BitVec.toNat_ofInt,BitVec.toNat_ofNat,E,Xav (by omega)]
 have A:(BitVec.ofNat 64 a &&& ~~~BitVec.ofNat 64 b).toNat<=a:=by rw[BitVec.toNat_and,BitVec.toNat_ofNat,Xav (by omega:a<2^64)];exact Nat.and_le_left
 refine⟨(BitVec.ofNat 64 a &&& ~~~BitVec.ofNat 64 b).toNat,?_,A,fun i=>?_⟩
 ·have h:((BitVec.ofInt 64 (a:Int) &&& ~~~(BitVec.ofInt 64 (b:Int))).toNat:Int)=(((BitVec.ofNat 64 a &&& ~~~BitVec.ofNat 64 b).toNat:Nat):Int):=by rw[M,F]
  refine Eq.trans (congrArg IntKind.i64.wrap h) ?_;exact bE (by omega)
 ·rw[BitVec.testBit_toNat];by_cases I:i<64
  ·simp only[BitVec.getLsbD_and,BitVec.getLsbD_not,BitVec.getLsbD_ofNat,I,decide_true,Xbe]
  ·rw[BitVec.getLsbD_of_ge _ _ (by omega),Nat.testBit_lt_two_pow (Xbf J (Xaq (by decide) (by omega)))];rfl
def UH(x:Instance)(h:x.orders.length<=62)(ds:List Decision){s:Nat}(T:∀i,s.testBit i=((Dy x).testBit i&& !(Cg x).testBit i)):
  (eJ (s:Int)).filter (sQ x ds)=gQ x ds/\(eJ (s:Int)).length<=63/\∀i∈eJ (s:Int),∃n o,i=((n:Nat):Int)/\n<x.orders.length/\x.orders[n]?=some o:=by
 have U:∀i,(Dy x).testBit i=(decide (i<x.orders.length)&&qP (fun _=>true) x.orders i):=fun i=>uE _ _ _
 have X:∀i,(Cg x).testBit i=(decide (i<x.orders.length)&&qP (fun o=>o.penalty == -1) x.orders i):=fun i=>uE _ _ _
 have J:∀i:Nat,dC ((s:Nat):Int) (i:Int)=(decide (i<x.orders.length)&&(qP (fun _=>true) x.orders i&& !qP (fun o=>o.penalty == -1) x.orders i)):=by
  intro i;by_cases A:i<x.orders.length
  ·rw[nI (by omega),T,U,X,decide_eq_true A];simp
  ·rw[decide_eq_false A,Bool.false_and];by_cases M:i<=62
   ·rw[nI M,T,U,decide_eq_false A];simp
   ·unfold dC;rw[decide_eq_false (show ¬((i:Int)<=62)by omega)];simp
 have F:eJ (s:Int)=((List.range x.orders.length).filter fun i=>qP (fun _=>true) x.orders i&& !qP (fun o=>o.penalty == -1) x.orders i).map fun i:Nat=>(i:Int):=by
  unfold eJ rL
  congr 1
  obtain⟨m,hmm⟩:∃m,63=x.orders.length+m:=⟨63-x.orders.length,by omega⟩;rw[hmm];refine zO (fun i A=>?_) (fun i A=>?_) m
  ·rw[J,decide_eq_true A,Xbe]
  ·rw[J,decide_eq_false (by omega),Bool.false_and]
 refine⟨?_,?_,?_⟩
 ·rw[F];unfold gQ iM Z9;rw[List.filter_map,List.filter_map,List.filter_filter,List.filter_filter]
  congr 1
  refine List.filter_congr fun i A=>?_
  have E:=Xba.1 A;obtain⟨o,I⟩:=aO E;rw[DU I,DU I];have Z:KI x (i:Int)=o.penalty:=by unfold KI;rw[nE I]
  show(sQ x ds (i:Int)&&_)=(sQ x ds (i:Int)&&_);by_cases O:o.penalty= -1
  ·have:sQ x ds (i:Int)=false:=by unfold sQ;rw[Z,O];rfl
   rw[this];rfl
  ·have:(o.penalty == -1)=false:=by simpa using O
   rw[this];simp
 ·exact nH _ 63
 ·intro i A;rw[F]at A;obtain⟨n,Y,rfl⟩:=Xau.1 A;have E:=Xba.1 (List.mem_filter.1 Y).1;obtain⟨o,I⟩:=aO E;exact⟨n,o,rfl,E,I⟩
def IR(ds:List Decision)(i:Int):Nat:=ds.countP fun d=>d.kind == 5&&d.a == i
def FI{ds:List Decision}{k:Nat}{d:Decision}{i:Int}(h:ds[k]?=some d):IR (ds.take (k+1)) i=IR (ds.take k) i+(if(d.kind == 5&&d.a == i)=true then 1 else 0):=by unfold IR;rw[aZ h,List.countP_append,List.countP_cons,List.countP_nil,Nat.zero_add]
def Xs(ds:List Decision)(k:Nat)(i:Int):IR (ds.take k) i<=k:=Xag List.countP_le_length (by rw[Xah];omega)
def S6(ds:List Decision)(i:Int):((IR ds i:Int) == 0)= !Ip ds i:=by
 unfold IR Ip;rw[Xao];simp only[beq_iff_eq,Xbh,Xbb];constructor
 ·intro h d E A;have:0<ds.countP fun d=>d.kind == 5&&d.a == i:=List.countP_pos_iff.2 ⟨d,E,A⟩
  omega
 ·intro h;have:(ds.countP fun d=>d.kind == 5&&d.a == i)=0:=List.countP_eq_zero.2 h;omega
def W9(x:Instance)(ds:List Decision)(hx:x.orders.length<=62)(hd:ds.length<=1048576):PC prog 51 [.agg (aE x),.sl (ds.map aM)] (.sl ((gQ x ds).map aQ)):=by
 refine pcb (fun t=>t == 8) func51 rfl rfl ?_;simp only[go_sem];refine dV fun jm al ao (J:al jm=some (nN [])) N=>?_
 clear N ao;simp only[go_sem,Xaa,J];refine⟨fun ρ H=>∃(k:Nat) (m:List (Int×Int)),k<=ds.length/\ρ 2=.rp (aE x) 0/\ρ 5=.om jm/\ρ 12=.sl (ds.map aM)/\ρ 13=int (ds.length:Nat)/\ρ 14=int k/\H jm=some (nN m)/\(∀i,mS m i=(IR (ds.take k) i:Nat)),fun ρ _=>ds.length-aU (ρ 14),⟨0,[],Xab _,by simp only[go_sem],by simp only[go_sem],by simp only[go_sem],by simp only[go_sem,Xaa],(by simp only[go_sem];rfl),J,fun _=>rfl⟩,?_⟩;rintro ρ H ⟨k,m,hk,A,O,I,E,F,J,hm⟩;simp only[go_sem,A,O,I,E,F];refine aA (fun T=>?_) (fun aa=>?_)
 ·have T:=ltB (by simpa using T);obtain⟨d,ai⟩:=aO T;have b1:=inB T;simp only[go_sem,A,O,I,E,F,aC ai,b1];refine aJ fun i7 ag=>?_
  simp only[go_sem,A,O,I,E,F,J];refine bH ag (by simp[eA]) fun am (R7:am i7=some (⟨33,4,[aM d]⟩)) N=>?_
  replace J:=N J;obtain⟨aj,J⟩:=J;clear N ag;simp only[go_sem,A,O,I,E,F,R7,J];refine aA (fun hb=>?_) (fun hb=>?_)
  ·have ah:d.kind=5:=by simpa using hb
   have az:=Xs ds k d.a;have ay:=hm d.a;have wm:IntKind.i64.wrap (mS m d.a+1)=mS m d.a+1:=bE (by omega);simp only[go_sem,A,O,I,E,F,R7];refine rY J xZ (iX _) (gO _ _) zv3 ?_;rw[rZ];simp only[go_sem,A,O,I,E,F,wm];refine C2 J xZ (iX _) (gO _ _) ?_;rw[vV];generalize hP:aI _ jm _=HP;replace J:HP jm=some (nN (xJ m d.a (mS m d.a+1))):=by rw[<-hP,aB];skip
   clear hP;simp only[go_sem,A,O,I,E,F,J];simp only[aT k];refine⟨⟨k+1,xJ m d.a (mS m d.a+1),T,rfl,rfl,fun o=>?_⟩,by simp only[aF];omega⟩;rw[At,FI ai,hm o,hm d.a];by_cases e:o=d.a
   ·subst e;rw[ah];simp
   ·have A:(d.kind == 5&&d.a == o)=false:=by simp;exact fun _ h=>e h.symm
    rw[if_neg e,A];simp
  ·have ah:d.kind≠5:=by simpa using hb
   simp only[go_sem,A,O,I,E,F,aT k];refine⟨⟨k+1,m,T,rfl,J,fun o=>?_⟩,by simp only[aF];omega⟩;have A:(d.kind == 5&&d.a == o)=false:=by simp;exact fun h=>absurd h ah
   rw[FI ai,hm o,A];simp
 have aa:=geB hk (by simpa using aa);subst aa;rw[Xad]at hm;simp only[go_sem,A,O,I,E,F];refine dV fun j au ar (R:au j=some (fG [])) N=>?_
 replace J:=N J;obtain⟨U,J⟩:=J;clear N ar;simp only[go_sem,A,O,I,E,F,R,J];refine As [(0,true),(1,true),(2,true),(3,true),(4,true),(7,true),(5,false),(6,false)] (by kernel_rfl) ?_;have ap:Dy x<2^63:=Xbf (Aj _ _) (Xaq (by decide) (by omega));have an:Cg x<2^63:=Xbf (Aj _ _) (Xaq (by decide) (by omega));obtain⟨s,aq,ax,av⟩:=MJ ap an;obtain⟨q1,q2,q3⟩:=UH x hx ds av;rw[<-q1];clear q1;simp only[go_sem,A,O,I,E,F];refine⟨_,(KQ x hx).q rfl,?_⟩;simp only[go_sem,A,O,I,E,F];refine⟨_,(Vt x hx).q rfl,?_⟩;simp only[go_sem,A,O,I,E,F,aq];refine aP (hY _) ?_;generalize eJ (s:Int)=M at *;simp only[go_sem,A,O,I,E,F,Xaa];refine⟨fun ρ H=>∃(k:Nat) (j:Nat),k<=M.length/\ρ 2=.rp (aE x) 0/\ρ 5=.om jm/\ρ 32=.sl (M.map aQ)/\ρ 33=int (M.length:Nat)/\ρ 34=int k/\ρ 8=.os j/\H j=some (fG ((M.take k).filter (sQ x ds)))/\H jm=some (nN m),fun ρ _=>M.length-aU (ρ 34),⟨0,j,Xab _,by simp only[go_sem,A,O],by simp only[go_sem,A,O],by simp only[go_sem,A,O],by simp only[go_sem,Xaa,A,O],(by simp only[go_sem,A,O];rfl),by simp only[go_sem],R,J⟩,?_⟩;rintro ρ H ⟨k,j,hk,A,O,Y,X,Z,e8,R,J⟩;simp only[go_sem,A,O,Y,X,Z,e8];refine aA (fun T=>?_) (fun aa=>?_)
 ·have T:=ltB (by simpa using T);obtain⟨i,hi⟩:=aO T;have b1:=inB T;obtain⟨n,o,rfl,hn,ho⟩:=q3 i (Xac hi);have b2:=inB hn;have ae:=vI (p:=sQ x ds) hi;have aw:=Gy (sQ x ds) M k;have ak:KI x (n:Int)=o.penalty:=by unfold KI;rw[nE ho]
  simp only[go_sem,A,O,Y,X,Z,e8,aC hi,b1,aC ho,b2];refine rY J xZ (iX _) (gO _ _) zv3 ?_;rw[rZ,hm];simp only[go_sem,A,O,Y,X,Z,e8];have ac:(decide (o.penalty>=0)&&((IR ds (n:Int):Nat):Int) == 0)=sQ x ds (n:Int):=by unfold sQ;rw[ak,S6]
  refine aA (fun hb=>?_) (fun hb=>?_)
  ·rw[if_pos (by rw[<-ac];exact hb)]at ae;have U:jm≠j:=fun e=>by subst e;rw[J]at R;cases R
   simp only[go_sem,A,O,Y,X,Z,e8];refine bT R ⟨rfl,rfl⟩ ⟨rfl,trivial⟩ (by simp only[Xaa,Xae,List.length_nil];omega) (fun j' af=>?_);have ab:jm≠j':=bC J af;generalize hP:aI (aI _ j none) j' _=HP;replace J:=kpB hP ab (by first|exact U|exact ne_j_jm.symm) J;have Rn:HP j'=some (fG ((M.take (k+1)).filter (sQ x ds))):=by rw[<-hP,aB];rw[ae];exact congrArg (fun l=>some (⟨3,1,l⟩:Row)) (Xak (f:=aQ) (l₁:=(M.take k).filter (sQ x ds)) (l₂:=[(n:Int)])).symm
   clear hP af;simp only[go_sem,A,O,Y,X,Z,e8,Rn,J];simp only[aT k];exact⟨⟨k+1,j',T,rfl,rfl,Rn⟩,by simp only[aF];omega⟩
  ·rw[if_neg (by rw[<-ac,show(decide (o.penalty>=0)&&((IR ds (n:Int):Nat):Int) == 0)=false from hb];simp),Xbn]at ae;simp only[go_sem,A,O,Y,X,Z,e8,aT k];exact⟨⟨k+1,j,T,rfl,rfl,by rw[ae];exact R,J⟩,by simp only[aF];omega⟩
 have aa:=geB hk (by simpa using aa);subst aa;rw[Xad]at R;simp only[go_sem,A,O,Y,X,Z,e8];exact .row _ _ _ R (ConvE.refl _)
def DO{n:Int}(h0: -9223372036854775808<=n)(h1:n<=9223372036854775807):(zed n).size<=8194:=by have:=Go.Nu.fT (m:=n) (MS (k:=20) (by omega) (by omega));omega
def C3(b:Bool):uT b=0\/uT b=1:=by cases b <;> simp[uT]
def Ut(k:Int)(n:Nat):Cr k n=0\/Cr k n=1:=by unfold Cr;split <;> simp
def SN{x:Instance}{c:Column}{cuts:List Cut}{ds:List Decision}{n:Int}(h:n∈pK x c cuts ds):n=0\/n=1:=by
 unfold pK sT nW rW rQ at h;simp only[Xas,Xau]at h;rcases h with((⟨i,_,rfl⟩|⟨i,_,rfl⟩)|⟨i,_,rfl⟩)|⟨i,_,rfl⟩
 ·exact C3 _
 ·exact C3 _
 ·exact Ut _ _
 ·exact C3 _
def EB(x:Instance)(c:Column):Bool:=decide (c.type<0)||decide (c.type>=(x.types.length:Int))||decide (c.set<=0)|| !decide (c.set.toNat &&& Dy x=c.set.toNat)
def vS(x:Instance)(d:Nat)(cols:List Column)(cuts:List Cut)(ds:List Decision):Int:=
 if kK x ds≠0 then kK x ds else if Dec.iV (cuts.map (mL x d))≠0 then Dec.iV (cuts.map (mL x d))else if cols.any (EB x)=true then 2 else 0
def Yc(x:Instance)(d:Nat)(A:List Column)(cuts:List Cut)(ds:List Decision)(aj:LoadsOk x d)(an:x.types≠[])(h:MIn x cuts ds)(hl:A.length<=1048576)(hs:∀c∈A,c.set<=9223372036854775807):
  PC prog 48 [.agg (aE x),.sl (A.map bA),.sl (cuts.map eC),.sl (ds.map aM)] (int (vS x d A cuts ds)):=by
 have h1:=h.orders;have h2:=h.types;have h3:=h.cl;have h4:=h.dl;unfold vS;refine pcd func48 rfl rfl ?_;simp only[go_sem];refine aP (Dec.Vq x ds h4) ?_;simp only[go_sem];refine aA (fun O=>?_) (fun O=>?_)
 ·rw[if_pos (by simpa using O)];simp only[go_sem];exact .refl _
 rw[if_neg (by simpa using O)];simp only[go_sem,Xaa];refine⟨fun ρ H=>∃(k:Nat),k<=cuts.length/\ρ 1=.sl (A.map bA)/\ρ 4=.rp (aE x) 0/\ρ 22=.sl (cuts.map eC)/\ρ 23=int (cuts.length:Nat)/\ρ 24=int k/\(∀e∈(cuts.map (mL x d)).take k,e=0),fun ρ _=>cuts.length-aU (ρ 24),⟨0,Xab _,by simp only[go_sem],by simp only[go_sem],by simp only[go_sem],by simp only[go_sem,Xaa],(by simp only[go_sem];rfl),by simp⟩,?_⟩;rintro ρ H ⟨k,hk,e1,F,M,J,I,hz⟩;simp only[go_sem,e1,F,M,J,I];refine aA (fun E=>?_) (fun T=>?_)
 ·have E:=ltB (by simpa using E);obtain⟨q,hq⟩:=aO E;have b1:=inB E;have hm:(cuts.map (mL x d))[k]?=some (mL x d q):=by rw[List.getElem?_map,hq];rfl
  simp only[go_sem,e1,F,M,J,I,aC hq,b1];refine aJ fun i11 ab=>?_
  simp only[go_sem,e1,F,M,J,I];refine bH ab (by simp[pB]) fun ae (ap:ae i11=some (⟨104,3,[eC q]⟩)) N=>?_
  clear N ab;simp only[go_sem,e1,F,M,J,I,ap];refine aP (LD x d q aj an) ?_;simp only[go_sem,e1,F,M,J,I];refine aA (fun O=>?_) (fun O=>?_)
  ·have he:=Dec.AC hz hm O;rw[if_pos (by rw[he];simpa using O),he];simp only[go_sem];exact .refl _
  ·simp only[go_sem,e1,F,M,J,I,aT k];exact⟨⟨k+1,E,rfl,fI (p:=fun e:Int=>e=0) hm (by simpa using O) hz⟩,by simp only[aF];omega⟩
 have T:=geB hk (by simpa using T);subst T;rw[Xam (by rw[Xaa];exact Xaf _)]at hz;rw[if_neg (by rw[Dec.xO hz];simp)];simp only[go_sem,e1,F,M,J,I];refine aP (KQ x h1) ?_;simp only[go_sem,e1,F,M,J,I,Xaa];refine⟨fun ρ H=>∃(k:Nat),k<=A.length/\ρ 4=.rp (aE x) 0/\ρ 13=int (Dy x:Nat)/\ρ 37=.sl (A.map bA)/\ρ 38=int (A.length:Nat)/\ρ 39=int k/\(∀c∈A.take k,EB x c=false),fun ρ _=>A.length-aU (ρ 39),⟨0,Xab _,by simp only[go_sem,F],by simp only[go_sem,F],by simp only[go_sem,F],by simp only[go_sem,Xaa,F],(by simp only[go_sem,F];rfl),by simp⟩,?_⟩;rintro ρ H ⟨k,hk,F,U,Z,X,Y,hz⟩;simp only[go_sem,F,U,Z,X,Y];refine aA (fun E=>?_) (fun T=>?_)
 ·have E:=ltB (by simpa using E);obtain⟨c,hc⟩:=aO E;have b1:=inB E;have aq:=hs c (Xac hc);simp only[go_sem,F,U,Z,X,Y,aC hc,b1];refine aJ fun ak aa=>?_
  simp only[go_sem,F,U,Z,X,Y];refine bH aa (by simp[dW]) fun af (ao:af ak=some (⟨140,7,[bA c]⟩)) N=>?_
  clear N aa;simp only[go_sem,F,U,Z,X,Y,ao];have ac:(decide (c.type<0)||decide (c.type>=(x.types.length:Int))||decide (c.set<=0)||(pU .andNot .i64 c.set ((Dy x:Nat):Int) != 0))=EB x c:=by
   unfold EB;by_cases h0:c.set<=0
   ·rw[decide_eq_true h0];simp
   ·obtain⟨s,am⟩:=Int.eq_ofNat_of_zero_le (show 0<=c.set by omega);have ai:Dy x<2^63:=Xbf (Aj _ _) (Xaq (by decide) (by omega));rw[am,bne,ET (by omega) ai,Xaz]
  refine aA (fun O=>?_) (fun O=>?_)
  ·have O:EB x c=true:=by rw[<-ac];exact O
   rw[if_pos (Xan.2 ⟨c,Xac hc,O⟩)];simp only[go_sem];exact .refl _
  ·have O:EB x c=false:=by rw[<-ac];exact O
   simp only[go_sem,F,U,Z,X,Y,aT k];exact⟨⟨k+1,E,rfl,fI (p:=fun c=>EB x c=false) hc O hz⟩,by simp only[aF];omega⟩
 have T:=geB hk (by simpa using T);subst T;rw[Xad]at hz;have ag:¬A.any (EB x)=true:=by intro hc;obtain⟨c,al,ah⟩:=Xan.1 hc;rw[hz c al]at ah;cases ah
 rw[if_neg ag];simp only[go_sem,F,U,Z,X,Y];exact .refl _
end Nu
namespace Nu
open Go.Proofs.Tryz
open Go.Nu
def ZD(s:ByteArray)(n:Int)(h:s.size<=1048576)(h0: -9223372036854775808<=n)(h1:n<=9223372036854775807)(A:(vB s).1.size<=1048576):PC prog 37 [str s,int n] (boo ((vB s).2 == 0&&decide (Kl (vB s).1 (zed n)>=0))):=by refine pcd func37 rfl rfl ?_;simp only[go_sem];refine aP (ZS s h) ?_;simp only[go_sem];refine⟨_,fun _=>(yD n h0 h1).q rfl,?_⟩;simp only[go_sem];refine⟨_,fun _=>(pH _ _ A (Xag (DO h0 h1) (by decide))).q rfl,?_⟩;simp only[go_sem];exact .refl _
end Nu
namespace Nu
open Go.Nu
def oX(n:Int):Prop:= -9223372036854775808<=n/\n<=9223372036854775807
structure LinB(p:PLin):Prop where
 rows:p.rows.length<=1048576
 cost:p.cost.length<=1048576
 coef:∀r∈p.rows,∀n∈r.coef,oX n
 right:∀r∈p.rows,oX r.right
structure VarB(v:List ByteArray):Prop where
 len:v.length<=1048576
 size:∀s∈v,s.size<=1048576
def OU{ns:List Int}{xs:List ByteArray}:(fX ns xs).1.size<=8194:=by
 by_cases h:(fX ns xs).2=0
 ·exact wI (KB h)
 ·have : (fX ns xs).1 = emp := by
   unfold fX at h |-;split
   ·rfl
   ·split
    ·rfl
    ·next h1 h2=>
     rw[if_neg h1,if_neg h2]at h;have:∀(l:List (Int×ByteArray)) (t:ByteArray),(nK l t).2≠0->(nK l t).1=emp:=by
      intro l;induction l with
      | nil=>intro t h;exact absurd rfl h
      | cons p l ih=>
       intro t h;unfold nK at h |-;split
       ·rfl
       ·next E=>
        rw[if_neg E]at h;split
        ·rfl
        ·next A=>rw[if_neg A]at h;exact ih _ h
     exact this _ _ h
  rw[this];decide
end Nu
namespace Nu
open Go.Proofs.Tryz
open Go.Nu
def S4(k:Int)(s:ByteArray):Bool:= !cP s||k == 1&&decide (Cm s>0)||k == 3&&decide (Cm s<0)
def De(p:PLin)(v:List ByteArray):Bool:=if v.length≠p.rows.length then false else !((p.rows.zip v).any fun q=>S4 q.1.kind q.2)
def QD(p:PLin)(v:List ByteArray)(hp:LinB p)(hv:VarB v):PC prog 57 [.agg (gC p),.sl (v.map Go.Aw.D.dB)] (boo (De p v)):=by
 have ab:=hv.len;have ac:=hp.rows;unfold De;refine pcd func57 rfl rfl ?_;simp only[go_sem];refine aA (fun h1=>?_) (fun h1=>?_)
 ·rw[if_pos (by simp at h1;omega)];simp only[go_sem];exact .refl _
 have hl:v.length=p.rows.length:=by simp at h1;omega
 rw[if_neg (by simpa using hl)];simp only[go_sem];refine⟨fun ρ H=>∃(k:Nat),k<=p.rows.length/\ρ 1=.sl (v.map Go.Aw.D.dB)/\ρ 15=.sl (p.rows.map iN)/\ρ 16=int (p.rows.length:Nat)/\ρ 17=int k/\(∀q∈(p.rows.zip v).take k,S4 q.1.kind q.2=false),fun ρ _=>p.rows.length-aU (ρ 17),⟨0,Xab _,by simp only[go_sem],by simp only[go_sem],by simp only[go_sem,Xaa],(by simp only[go_sem];rfl),by simp⟩,?_⟩;rintro ρ H ⟨k,hk,M,E,A,F,hz⟩;simp only[go_sem,M,E,A,F];refine aA (fun I=>?_) (fun T=>?_)
 ·have I:=ltB (by simpa using I);obtain⟨r,hr⟩:=aO I;obtain⟨s,O⟩:=aO (show k<v.length by omega);have b1:=inB I;have U:=inB (show k<v.length by omega);have aa:=hv.size s (Xac O);have X:(p.rows.zip v)[k]?=some (r,s):=by rw[List.getElem?_zip_eq_some];exact⟨hr,O⟩
  simp only[go_sem,M,E,A,F,aC O,b1,aC hr,U];refine aJ fun i6 J=>?_
  simp only[go_sem,M,E,A,F,aC O,U];refine bH J (by simp[qO]) fun Y (R6:Y i6=some (⟨137,3,[iN r]⟩)) N=>?_
  clear N J;simp only[go_sem,M,E,A,F,aC O,U,R6];refine aP (PA s aa) ?_;simp only[go_sem,M,E,A,F,aC O,U,R6];refine aP (pS s aa) ?_;simp only[go_sem,M,E,A,F,aC O,U,R6];have Z:S4 r.kind s=(!cP s||r.kind == 1&&decide (Cm s>0)||r.kind == 3&&decide (Cm s<0)):=rfl;refine aA (fun hb=>?_) (fun hb=>?_)
  ·rw[show((p.rows.zip v).any fun q=>S4 q.1.kind q.2)=true from Xan.2 ⟨(r,s),Xac X,Z.trans hb⟩];simp only[go_sem];exact .refl _
  ·simp only[go_sem,M,E,A,F,aT k];exact⟨⟨k+1,I,rfl,fI (p:=fun q:PRow×ByteArray=>S4 q.1.kind q.2=false) X (Z.trans hb) hz⟩,msr I⟩
 have T:=geB hk (by simpa using T);subst T;rw[Xam (by rw[List.length_zip];omega)]at hz;rw[show((p.rows.zip v).any fun q=>S4 q.1.kind q.2)=false from Xbb.2 fun q hq=>by rw[hz q hq];simp];simp only[go_sem,M,E,A,F];exact .refl _
def IK(p:PLin)(i:Nat):List Int:=p.rows.map fun r=>r.coef.getD i 0
def Hh(p:PLin)(v:List ByteArray)(lim:Nat->Int)(i:Nat):Bool:=(fX (IK p i) v).2 != 0||decide (Kl (fX (IK p i) v).1 (zed (lim i))>0)
def HK(p:PLin)(v:List ByteArray)(lim:Nat->Int):Bool:= !((List.range p.cost.length).any (Hh p v lim))
def uY{ns:List Int}{xs:List ByteArray}:(fX ns xs).1.size<=8194:=OU
def Qt(p:PLin)(v:List ByteArray)(M:Nat->Int)(fn:AV)(g:Nat)(cap:List AV)(hp:LinB p)(ak:∀r∈p.rows,r.coef.length=p.cost.length)(hc:∀i,i<p.cost.length->oX (M i))(hv:VarB v)
  (av:Fb fn=some (g,[],cap)) (hw:∀(G:Option Bool) (k:AV->Prop),bK G fn k=k fn) (au:aH prog g=true) (hg:∀i,i<p.cost.length->PC prog g (int (i:Nat)::cap) (int (M i))):
  PC prog 58 [.agg (gC p),.sl (v.map Go.Aw.D.dB),fn] (boo (HK p v M)):=by
 have az:=hp.cost;have ax:=hp.rows;unfold HK;refine pcd func58 rfl rfl ?_;simp only[go_sem];refine⟨fun ρ H=>∃(k:Nat),k<=p.cost.length/\ρ 1=.sl (v.map Go.Aw.D.dB)/\ρ 2=fn/\ρ 3=.rp (gC p) 0/\ρ 15=int (p.cost.length:Nat)/\ρ 16=int k/\(∀q∈(List.range p.cost.length).take k,Hh p v M q=false),fun ρ _=>p.cost.length-aU (ρ 16),⟨0,Xab _,by simp only[go_sem],by simp only[go_sem],by simp only[go_sem],by simp only[go_sem,Xaa],(by simp only[go_sem];rfl),by simp⟩,?_⟩;rintro ρ H ⟨k,hk,F,I,J,E,A,hz⟩;simp only[go_sem,F,I,J,E,A];refine aA (fun O=>?_) (fun ag=>?_)
 ·have O:=ltB (by simpa using O);have aj:(List.range p.cost.length)[k]?=some k:=List.getElem?_range O;have ap:=uY (ns:=IK p k) (xs:=v);have ab:=hc k O;have a0:=DO ab.1 ab.2;have ae:Hh p v M k=((fX (IK p k) v).2 != 0||decide (Kl (fX (IK p k) v).1 (zed (M k))>0)):=rfl;have aq:=Kd (IK p k) v (fun m hm=>by
   unfold IK at hm;obtain⟨r,hr,rfl⟩:=Xau.1 hm;have an:k<r.coef.length:=by rw[ak r hr];exact O
   have:=hp.coef r hr (r.coef.getD k 0) (by rw[List.getD,List.getElem?_eq_getElem an];exact List.getElem_mem _);exact this) hv.len hv.size
  simp only[go_sem,F,I,J,E,A];refine⟨by omega,aJ fun j8 ar=>?_⟩;simp only[go_sem,F,I,J,E,A];have R8:=aB H j8 (some (⟨3,1,List.replicate 0 [int 0]⟩:Row));generalize aI H j8 _=H8 at R8 |-;clear ar;refine⟨fun ρ H=>∃m j:Nat,m<=p.rows.length/\ρ 1=.sl (v.map Go.Aw.D.dB)/\ρ 2=fn/\ρ 3=.rp (gC p) 0/\ρ 7=int (k:Nat)/\ρ 15=int p.cost.length/\ρ 16=int (k:Nat)/\ρ 24=.sl (p.rows.map iN)/\ρ 25=int p.rows.length/\ρ 26=int (m:Nat)/\ρ 8=.os j/\H j=some (fG ((p.rows.take m).map fun r=>r.coef.getD k 0)),fun ρ _=>p.rows.length-aU (ρ 26),⟨0,j8,Xab _,by simp only[go_sem,F,I,J,E,A],by simp only[go_sem,F,I,J,E,A],by simp only[go_sem,F,I,J,E,A],by simp only[go_sem,F,I,J,E,A],by simp only[go_sem,F,I,J,E,A],by simp only[go_sem,F,I,J,E,A],by simp only[go_sem,F,I,J,E,A],by simp only[go_sem,F,I,J,E,A,Xaa],(by simp only[go_sem,F,I,J,E,A];rfl),by simp only[go_sem,F,I,J,E,A],R8⟩,?_⟩;clear F I J E A R8;rintro ρ H ⟨m,j,hm,F,I,J,e7,E,A,U,X,Y,Z,R⟩;simp only[go_sem,F,I,J,e7,E,A,U,X,Y,Z];refine LI hm (fun ac=>?_) (fun ao=>?_)
  ·obtain⟨r,hr⟩:=aO ac;have b1:=inB ac;have ay:=ak r (Xac hr);obtain⟨c,al⟩:=aO (show k<r.coef.length by omega);have b2:=inB (show k<r.coef.length by omega);have hs:=aZ hr;simp only[go_sem,F,I,J,e7,E,A,U,X,Y,Z,aC hr,b1];refine aJ fun am aa=>?_
   simp only[go_sem,F,I,J,e7,E,A,U,X,Y,Z,R];refine bH aa (by simp[qO]) fun af (ai:af am=some (⟨137,3,[iN r]⟩)) N=>?_
   replace R:=N R;obtain⟨ah,R⟩:=R;clear N aa;simp only[go_sem,F,I,J,e7,E,A,U,X,Y,Z,ai,R];refine aA (fun hb=>by simp at hb;omega) (fun _=>?_);simp only[go_sem,F,I,J,e7,E,A,U,X,Y,Z,ai,aC al,b2];refine bT R ⟨rfl,rfl⟩ ⟨rfl,trivial⟩ (by simp only[Xaa,Xah,Xae,List.length_nil];omega) (fun j' aw=>?_);simp only[go_sem,F,I,J,e7,E,A,U,X,Y,Z,aT m];refine⟨⟨m+1,j',ac,rfl,rfl,?_⟩,msr ac⟩;rw[hs,aB,Xak];simp[fG,List.getD,al,aQ]
  ·subst ao;rw[Xad]at R;have Rc:H j=some (fG (IK p k)):=R;generalize IK p k=C at *;simp only[go_sem,F,I,J,e7,E,A,Z];refine cQ.use ⟨[.sl (C.map aQ),.sl (v.map Go.Aw.D.dB)],.cons _ _ _ _ (.row _ _ _ Rc (ConvE.refl _)) (ConvL.refl _),aq,rfl⟩ ?_;generalize fX C v=T at *;obtain⟨s,e⟩:=T;simp only at ae ap;simp only[go_sem,F,I,J,e7,E,A,Z,hw,av];refine⟨au,_,fun _=>(hg k O).q rfl,?_⟩;simp only[go_sem,F,I,J,e7,E,A,Z];refine⟨_,fun _=>(yD (M k) ab.1 ab.2).q rfl,?_⟩;simp only[go_sem,F,I,J,e7,E,A,Z];refine⟨_,fun _=>(pH s (zed (M k)) (by omega) (by omega)).q rfl,?_⟩;simp only[go_sem,F,I,J,e7,E,A,Z];refine aA (fun hb=>?_) (fun hb=>?_)
   ·rw[show(List.range p.cost.length).any (Hh p v M)=true from Xan.2 ⟨k,Xac aj,by rw[ae];exact hb⟩];simp only[go_sem];exact .refl _
   ·simp only[go_sem,F,I,J,E,A,aT k];exact⟨⟨k+1,O,rfl,fI (p:=fun q=>Hh p v M q=false) aj (by rw[ae];exact hb) hz⟩,msr O⟩
 have ag:=geB hk (by simpa using ag);subst ag;rw[Xam (by rw[Xbq];exact Xaf _)]at hz;rw[show(List.range p.cost.length).any (Hh p v M)=false from Xbb.2 fun q hq=>by rw[hz q hq];simp];simp only[go_sem,F,I,J,E,A];exact .refl _
def oH(p:PLin):List Int:=p.rows.map (·.right)
def PF(p:PLin)(v:List ByteArray)(hp:LinB p)(hv:VarB v):PC prog 60 [.agg (gC p),.sl (v.map Go.Aw.D.dB)] (.tup [str (fX (oH p) v).1,boo ((fX (oH p) v).2 == 0)]):=by
 have ae:=hp.rows;refine pcb (fun t=>t == 6) func60 rfl rfl ?_;simp only[go_sem];refine dV fun j ab aa (R:ab j=some (fG [])) N=>?_
 clear N aa;simp only[go_sem,R];refine⟨fun ρ H=>∃(k:Nat) (j:Nat),k<=p.rows.length/\ρ 1=.sl (v.map Go.Aw.D.dB)/\ρ 12=.sl (p.rows.map iN)/\ρ 13=int (p.rows.length:Nat)/\ρ 14=int k/\ρ 6=.os j/\H j=some (fG ((p.rows.take k).map (·.right))),fun ρ _=>p.rows.length-aU (ρ 14),⟨0,j,Xab _,by simp only[go_sem],by simp only[go_sem],by simp only[go_sem,Xaa],(by simp only[go_sem];rfl),by simp only[go_sem],R⟩,?_⟩;rintro ρ H ⟨k,j,hk,U,I,A,E,O,R⟩;simp only[go_sem,U,I,A,E,O];refine aA (fun F=>?_) (fun M=>?_)
 ·have F:=ltB (by simpa using F);obtain⟨r,T⟩:=aO F;have Z:=inB F;have hs:(p.rows.take (k+1)).map (·.right)=(p.rows.take k).map (·.right)++[r.right]:=by rw[aZ T,Xak];rfl
  have ac:((p.rows.take k).map (·.right)).length<=k:=by rw[Xaa,Xah];omega
  generalize hP:(p.rows.take k).map (·.right)=P at *;simp only[go_sem,U,I,A,E,O,aC T,Z];refine aJ fun i8 J=>?_
  simp only[go_sem,U,I,A,E,O,aC T,Z,R];refine bH J (by simp[qO]) fun Y (R8:Y i8=some (⟨137,3,[iN r]⟩)) N=>?_
  replace R:=N R;obtain⟨X,R⟩:=R;clear N J;simp only[go_sem,U,I,A,E,O,aC T,Z,R8,R];refine bT R ⟨rfl,rfl⟩ ⟨rfl,trivial⟩ (by simp only[Xaa,Xae,List.length_nil];omega) (fun j' af=>?_);simp only[go_sem,U,I,A,E,O,aT k];refine⟨⟨k+1,j',F,rfl,rfl,?_⟩,msr F⟩;rw[hs];exact lV rfl
 have M:=geB hk (by simpa using M);subst M;rw[Xad]at R;simp only[go_sem,U,I,A,E,O];refine cQ.use ⟨[.sl ((oH p).map aQ),.sl (v.map Go.Aw.D.dB)],.cons _ _ _ _ (.row _ _ _ R (ConvE.refl _)) (ConvL.refl _),Kd (oH p) v (fun n hn=>by obtain⟨r,T,rfl⟩:=Xau.1 hn;exact hp.right r T) hv.len hv.size,rfl⟩ ?_;simp only[go_sem];exact .refl _
def qQ(p:PLin)(v:List ByteArray):ByteArray×Bool:=
 if(!De p v|| !HK p v fun i=>p.cost.getD i 0)=true then(emp,false)else if(fX (oH p) v).2=0 then((fX (oH p) v).1,true)else(emp,false)
def DQ(p:PLin)(v:List ByteArray):Bool:=
 if(!De p v|| !HK p v fun _=>0)=true then false else((fX (oH p) v).2 == 0&&decide (Cm (fX (oH p) v).1>0))
def ZH(p:PLin)(i:Nat)(A:i<p.cost.length):PC prog 62 [int (i:Nat),.rp (gC p) 0] (int (p.cost.getD i 0)):=by obtain⟨n,E⟩:=aO A;have b:=inB A;refine pcd func62 rfl rfl ?_;simp only[go_sem];simp only[aC E,go_sem,b,Xaa];rw[show p.cost.getD i 0=n by rw[List.getD,E];rfl];exact .refl _
def aaI(i:Nat):PC prog 59 [int (i:Nat)] (int 0):=by refine pcd func59 rfl rfl ?_;simp only[go_sem];exact .refl _
structure LinW(p:PLin):Prop where
 b:LinB p
 full:∀r∈p.rows,r.coef.length=p.cost.length
 cost:∀i,i<p.cost.length->oX (p.cost.getD i 0)
def VC(p:PLin)(v:List ByteArray)(E:LinW p)(F:VarB v):PC prog 36 [.agg (gC p),.sl (v.map Go.Aw.D.dB)] (.tup [str (qQ p v).1,boo (qQ p v).2]):=by
 have I:=Qt p v (fun i=>p.cost.getD i 0) (.fn 62 [.rp (gC p) 0]) 62 [.rp (gC p) 0] E.b E.full E.cost F rfl (fun _ _=>rfl) (by kernel_rfl) (fun i J=>ZH p i J);unfold qQ;refine pcd func36 rfl rfl ?_;simp only[go_sem];refine aP (QD p v E.b F) ?_;simp only[go_sem];refine⟨_,fun _=>I.q rfl,?_⟩;simp only[go_sem];refine aA (fun A=>?_) (fun A=>?_)
 ·rw[if_pos A];simp only[go_sem];exact .refl _
 rw[if_neg (by rw[A];simp)];simp only[go_sem];refine aP (PF p v E.b F) ?_;simp only[go_sem];refine aA (fun A=>?_) (fun A=>?_)
 ·rw[if_neg (by simpa using A)];simp only[go_sem];exact .refl _
 ·rw[if_pos (by simpa using A)];simp only[go_sem];exact .refl _
def RI(p:PLin)(v:List ByteArray)(A:LinW p)(E:VarB v):PC prog 35 [.agg (gC p),.sl (v.map Go.Aw.D.dB)] (boo (DQ p v)):=by
 have F:=Qt p v (fun _=>0) (.v (.func (.func 59) #[] #[])) 59 [] A.b A.full (fun _ _=>⟨by decide,by decide⟩) E rfl (fun _ _=>rfl) (by kernel_rfl) (fun i M=>aaI i);have J:=uY (ns:=oH p) (xs:=v);unfold DQ;refine pcd func35 rfl rfl ?_;simp only[go_sem];refine aP (QD p v A.b E) ?_;simp only[go_sem];refine⟨_,fun _=>F.q rfl,?_⟩;simp only[go_sem];refine aA (fun I=>?_) (fun I=>?_)
 ·rw[if_pos I];simp only[go_sem];exact .refl _
 rw[if_neg (by rw[I];simp)];simp only[go_sem];refine aP (PF p v A.b E) ?_;simp only[go_sem];refine⟨_,fun _=>(PA _ (by omega)).q rfl,?_⟩;simp only[go_sem];exact .refl _
end Nu
namespace Sq
open Go.Proofs.Tryz
open Go.Proofs.YtkjdacijpeiphaaGreatDoor.Nu (ltB geB)
open Mv (bP cK aR)
def aaC(s:Score):Int:=IntKind.i64.wrap (IntKind.i64.wrap (IntKind.i64.wrap (IntKind.i64.wrap (IntKind.i64.wrap (IntKind.i64.wrap (s.cost*16)+s.moved)*16)+s.other)*65536)+s.work)
def gB(s:Score):Int×Int:=if(decide (s.cost<0)||decide (s.moved<0)||decide (s.other<0)||decide (s.work<0))=true then(0,2)
 else if(decide (s.cost>1073741824)||decide (s.moved>=16)||decide (s.other>=16)||decide (s.work>=65536))=true then(0,4)else(aaC s,0)
def wJ(s:Score):PC prog 43 [.agg (aV s)] (.agg (aV s)):=by
 refine pcd func43 rfl rfl ?_;simp only[go_sem];refine aJ fun j A=>?_
 simp only[go_sem];refine aN (aB _ _ _) (by simp) ?_;simp only[go_sem];exact .refl _
def wV(s:Score):PC prog 31 [.agg (aV s)] (.tup [int (gB s).1,int (gB s).2]):=by
 refine pcd func31 rfl rfl ?_;simp only[go_sem];refine aP (wJ s) ?_;simp only[go_sem];refine aJ fun j T=>?_
 simp only[go_sem];refine bH T (by simp[bR]) fun X (R:X j=some (⟨126,4,[aV s]⟩)) N=>?_
 clear N T;simp only[go_sem,R];refine⟨fun ρ H=>∃(k:Nat),k<=4/\ρ 1=.rp (aV s) 0/\ρ 9=.agg (aV s)/\ρ 10=int k/\(∀e∈[s.cost,s.moved,s.other,s.work].take k,¬e<0),fun ρ _=>4-aU (ρ 10),⟨0,Xab _,by simp only[go_sem],by simp only[go_sem],(by simp only[go_sem];rfl),by simp⟩,?_⟩;rintro ρ H ⟨k,hk,J,I,A,M⟩;simp only[go_sem,J,I,A];refine aA (fun E=>?_) (fun F=>?_)
 ·have E:k<4:=by simp at E;omega
  obtain⟨e,Y⟩:=aO (l:=[s.cost,s.moved,s.other,s.work]) (show k<[s.cost,s.moved,s.other,s.work].length from E);have hg:(aV s).getD k .any=int e:=by
   have:aV s=[s.cost,s.moved,s.other,s.work].map fun n=>int n:=rfl
   rw[this,List.getD,List.getElem?_map,Y];rfl
  simp only[go_sem,J,I,A];refine⟨by omega,by omega,?_⟩;rw[Nat.mul_one,hg];simp only[go_sem,J,I,A];refine aA (fun O=>?_) (fun O=>?_)
  ·simp only[go_sem];have Z:=Xac Y;simp only[List.mem_cons,List.not_mem_nil,or_false]at Z;have e:gB s=(0,2):=if_pos (by simp at O |-;rcases Z with h|h|h|h <;> omega);rw[e];exact .refl _
  ·simp only[go_sem,J,I,A,aT k];refine⟨⟨k+1,E,rfl,aR (p:=fun e:Int=>¬e<0) Y (by simpa using O) M⟩,by simp only[aF];omega⟩
 have F:k=4:=by simp at F;omega
 subst F;have O:¬(decide (s.cost<0)||decide (s.moved<0)||decide (s.other<0)||decide (s.work<0))=true:=by have h0:=M s.cost (by simp);have h1:=M s.moved (by simp);have h2:=M s.other (by simp);have h3:=M s.work (by simp);simp;omega
 unfold gB;rw[if_neg O];simp only[go_sem,J,I,A];refine aA (fun U=>?_) (fun U=>?_)
 ·rw[if_pos U];simp only[go_sem];exact .refl _
 rw[if_neg (by rw[U];simp)];simp only[go_sem,J,I,A];exact .refl _
def gP(x:Instance)(r:Route):Int×Int:=if((eI x r).2.2 != 0)=true then(0,(eI x r).2.2)else gB (eI x r).2.1
def Ul(x:Instance)(r:Route)(Z:EvalB x)(hr:r.visits.length<=1048575):PC prog 159 [.agg (aE x),.agg (bI r)] (.tup [int (gP x r).1,int (gP x r).2]):=by
 have hw:=wV (eI x r).2.1;refine pcd func159 rfl rfl ?_;simp only[go_sem];refine aP (zF x r Z hr) ?_;simp only[go_sem];refine dV fun X T M (E:T X=some (fA (bQ bV))) N=>?_
 clear N M;simp only[go_sem,E];refine dV fun U J O (F:J U=some (lC bB)) N=>?_
 replace E:=N E;obtain⟨A,E⟩:=E;clear N O;simp only[go_sem,F,E];refine aN E (by simp[dZ]) ?_;generalize I:aI _ X _=HP;replace F:=kpA I (by first|exact ne_i7_i6|exact A.symm) F;replace E:HP X=some (fA (bQ (eI x r).1)):=upS I;clear I;simp only[go_sem,E,F];refine aN F (by simp[bR]) ?_;generalize I:aI _ U _=HP;replace E:=kpA I (by first|exact A|exact ne_i7_i6.symm) E;replace F:HP U=some (lC (eI x r).2.1):=upS I;clear I;simp only[go_sem,F,E];unfold gP;refine aA (fun Y=>?_) (fun Y=>?_)
 ·rw[if_pos Y];simp only[go_sem];exact .refl _
 ·rw[if_neg (by rw[Y];simp)];simp only[go_sem,F];refine aP hw ?_;simp only[go_sem];exact .refl _
structure Sta where
 ready:Int
 driven:Int
def fD(s:Sta):List AV:=[int s.ready,int s.driven]
def Dm(c:Sta):(fD c).length=2:=(rfl)
def VB(c:Sta):(fD c).getD 0 .any=int c.ready:=(rfl)
def Ww(c:Sta):(fD c).getD 1 .any=int c.driven:=(rfl)
def OE(c:Sta):(fD c).take 2=fD c:=(rfl)
attribute [go_sem] Dm VB Ww OE
abbrev kY(l:List Sta):Row:=⟨259,2,l.map fD⟩
def EQ(s u:Sta):Bool:=s.ready == u.ready&&(s.driven == u.driven&&true)
def Wy(l:List Sta)(v:Sta)(Y:l.length<=1048576):PC prog 215 [.sl (l.map fD),.agg (fD v)] (int (oE (EQ v) l 0)):=by
 refine pcd func215 rfl rfl ?_;simp only[go_sem];refine⟨fun ρ _=>∃k:Nat,k<=l.length/\ρ 0=.sl (l.map fD)/\ρ 3=.rp (fD v) 0/\ρ 7=int l.length/\ρ 8=int k/\∀u∈l.take k,EQ v u=false,fun ρ _=>l.length-aU (ρ 8),⟨0,Xab _,rfl,rfl,rfl,rfl,by simp⟩,?_⟩;rintro ρ H ⟨k,X,h0,J,O,I,M⟩;simp only[go_sem,h0,J,O,I];refine aA (fun A=>?_) (fun E=>?_)
 ·have A:=bU A;obtain⟨u,T⟩:=aO A;have U:=inB A;simp only[go_sem,h0,J,O,I];refine dD (by rfl) (by kernel_rfl) ?_;simp only[go_sem,h0,J,O,I,aC T,U];refine aA (fun F=>?_) (fun F=>?_)
  ·have F:EQ v u=true:=F;simp only[go_sem,I];exact bP (by rw[nF M T F];omega)
  ·have F:EQ v u=false:=F;simp only[go_sem,h0,J,O,I,aT k];exact⟨⟨k+1,A,rfl,aR (p:=fun u=>EQ v u=false) T F M⟩,by simp only[aF];omega⟩
 ·have E:=bW X E;subst E;rw[Xad]at M;simp only[go_sem];exact bP (by rw[lD M])
def Cj(l:List Sta)(v:Sta)(A:l.length<=1048576):PC prog 195 [.sl (l.map fD),.agg (fD v)] (boo (l.any (EQ v))):=by refine pcd func195 rfl rfl ?_;simp only[go_sem];refine aP (Wy l v A) ?_;simp only[go_sem];exact cK (mX l 0 (Xbs _))
def xU(l:List Sta)(s:Sta):List Sta:=if l.any (EQ s)=true then l else l++[s]
def Bo(l:List Sta)(s:Sta):(xU l s).length<=l.length+1:=by unfold xU;split <;> simp
def UF(l:List Visit)(A:l.length<=1048576):PC prog 164 [.sl (l.map aL)] (.cl (l.map aL)):=by refine pcd func164 rfl rfl ?_;simp only[go_sem];exact .refl _
def ZE(s:Sta):NC prog 165 [.v (.slice none 0 0),.agg (fD s)] (kY [s]) .os:=by
 refine ncb (fun _=>false) func165 rfl rfl ?_;simp only[go_sem];refine aX.nil0 (PC.use (Cj [] s (by decide)) ?_);simp only[go_sem];refine aA (fun A=>(by cases A)) (fun _=>?_);simp only[go_sem];refine VW Y3 (.inl rfl) (by simp) (by simp only[go_sem]) (by simp) fun j E=>?_
 simp only[go_sem];exact⟨j,rfl,aB _ _ _⟩
abbrev Y9(j:Nat)(H:aG)(j':Nat)(H':aG):Prop:=∀k row,k≠j->H k=some row->k≠j'/\H' k=some row
def L9(l:List Sta)(s:Sta){H:aG}{j:Nat}(R:H j=some (kY l))(O:l.length<=1000000){K:AV->aG->Prop}(M:∀j' H',H' j'=some (kY (xU l s))->Y9 j H j' H'->K (.os j') H'):
  aX prog 165 [.os j,.agg (fD s)] H K:=by
 refine aX.body (c:=f165.body.getD .skip) (fun _=>false) mixed func165 rfl (by kernel_rfl) ?_;unfold f165;simp only[Xbc];simp only[go_sem];refine cQ.use ⟨[.sl (l.map fD),.agg (fD s)],.cons _ _ _ _ (.row _ _ _ R (ConvE.refl _)) (ConvL.refl _),Cj l s (by omega),rfl⟩ ?_;simp only[go_sem];refine aA (fun E=>?_) (fun E=>?_)
 ·simp only[go_sem];refine M j H (by unfold xU;rw[if_pos E];exact R) fun k row F h=>⟨F,h⟩
 ·simp only[go_sem];refine bT R ⟨rfl,rfl⟩ (by simp only[go_sem]) (by simp only[Xaa,Xae,List.length_nil];omega) (fun J I=>?_);simp only[go_sem];refine M J _ ?_ fun k row F h=>?_
  ·rw[aB];unfold xU;rw[if_neg (by rw[E];simp)];refine congrArg (fun l=>some (⟨259,2,l⟩:Row)) ?_;rw[Xak];rfl
  ·have A:k≠J:=fun e=>by subst e;rw[I]at h;cases h
   exact⟨A,by rw[aD _ _ _ _ A,aD _ _ _ _ F];exact h⟩
structure Sr where
 x:Instance
 kind:Nat
 set:Int
 total:Nat
 best:Column
 found:Bool
def qT(s:Sr):List AV:=aE s.x++([int (s.kind:Nat),int s.set,int (s.total:Nat)]++(bA s.best++[boo s.found]))
section
variable(s:Sr)
def mK:(qT s).length=17:=(rfl)
def Yz:(qT s).getD 2 .any=.sl (s.x.types.map bM):=(rfl)
def WV:(qT s).getD 3 .any=.sl (s.x.orders.map bF):=(rfl)
def Xt:(qT s).getD 6 .any=int (s.kind:Nat):=(rfl)
def YA:(qT s).getD 7 .any=int s.set:=(rfl)
def YC:(qT s).getD 8 .any=int (s.total:Nat):=(rfl)
def Vg:(qT s).getD 16 .any=boo s.found:=(rfl)
def Yu:(qT s).take 6=aE s.x:=(rfl)
def SF:(qT s).take 2=gA s.x.net:=(rfl)
def Ok:((qT s).drop 9).take 7=bA s.best:=(rfl)
def Sj:(qT s).take 17=qT s:=(rfl)
end
attribute [go_sem] mK Yz WV Xt YA YC Vg Yu SF Ok Sj
abbrev iE(s:Sr):Row:=⟨213,17,[qT s]⟩
def lW(t:VType)(l:List Sta)(d dr:Int):List Sta:=xU (xU l ⟨d,dr⟩) ⟨W (d+t.rest),0⟩
def Do(t:VType)(l:List Sta)(d A:Int):(lW t l d A).length<=l.length+2:=by unfold lW;have h1:=Bo (xU l ⟨d,A⟩) ⟨W (d+t.rest),0⟩;have E:=Bo l ⟨d,A⟩;omega
def Vz(s:Sr)(t:VType)(l:List Sta)(d F:Int){H:aG}{A j:Nat}(ht:s.x.types[s.kind]?=some t)(RS:H A=some (iE s))(R:H j=some (kY l))(hl:l.length<=900000){K:AV->aG->Prop}
  (hK:∀j' H',H' j'=some (kY (lW t l d F))->Y9 j H j' H'->K (.os j') H'):aX prog 121 [.op A 0 0,.os j,int d,int F] H K:=by
 have ab:A≠j:=fun e=>by subst e;rw[RS]at R;cases R
 have hk:=(List.getElem?_eq_some_iff.1 ht).1;have b1:=inB hk;have g1:=aC (f:=bM) ht;have h1:=Bo l ⟨d,F⟩;refine aX.body (c:=f121.body.getD .skip) (fun _=>false) mixed func121 rfl (by kernel_rfl) ?_;unfold f121;simp only[Xbc];simp only[go_sem];refine L9 l ⟨d,F⟩ R (by omega) fun j1 H1 R1 J=>?_
 obtain⟨n1,M⟩:=J A _ ab RS;simp only[go_sem];refine fW [A] [(0,true),(1,true),(2,true),(3,true),(4,true),(5,true),(6,true),(7,true),(8,true),(9,true),(10,true),(11,true),(12,true),(13,true),(14,true),(15,true),(16,false),(17,true)] (by simp[M]) (by kernel_rfl) fun Hp Hr hp hr _ ac=>?_
 have E:=(hp A (by simp)).trans M;simp only[go_sem,g1,b1,E];have X:Hr j1=some (kY (xU l ⟨d,F⟩)):=(hr j1 (by simpa using n1.symm)).trans R1;refine L9 (xU l ⟨d,F⟩) ⟨W (d+t.rest),0⟩ X (by omega) fun Z H2 R2 Y=>?_
 simp only[go_sem];refine fun h0 Hm U I=>?_
 have O:Z≠A:=fun e=>by have:=h0 A (by simp);rw[<-e,R2]at this;cases this
 simp only[go_sem];refine hK Z Hm ((I Z (by simpa using O)).trans R2) fun k row aa T=>?_
 obtain⟨m1,m2⟩:=J k row aa T;by_cases e:k=A
 ·subst e;exact⟨O.symm,(U k (by simp)).trans m2⟩
 ·obtain⟨m3,m4⟩:=Y k row m1 ((hr k (by simpa using e)).trans m2);exact⟨m3,(I k (by simpa using e)).trans m4⟩
def Ug(s:Sr)(t:VType)(d A:Int){H:aG}{F:Nat}(ht:s.x.types[s.kind]?=some t)(RS:H F=some (iE s)){K:AV->aG->Prop}
  (hK:∀j' H',H' j'=some (kY (lW t [] d A))->(∀k row,H k=some row->k≠j'/\H' k=some row)->K (.os j') H'):aX prog 121 [.op F 0 0,.v (.slice none 0 0),int d,int A] H K:=by
 have hk:=(List.getElem?_eq_some_iff.1 ht).1;have b1:=inB hk;have g1:=aC (f:=bM) ht;refine aX.body (c:=f121.body.getD .skip) (fun _=>false) mixed func121 rfl (by kernel_rfl) ?_;unfold f121;simp only[Xbc];simp only[go_sem];refine NC.use (ZE ⟨d,A⟩) fun E M=>?_
 have n1:F≠E:=fun e=>by rw[e,M]at RS;cases RS
 have O:aI H E (some (kY [⟨d,A⟩])) F=some (iE s):=(aD _ _ _ _ n1).trans RS;have R1:aI H E (some (kY [⟨d,A⟩])) E=some (kY [⟨d,A⟩]):=aB _ _ _;have aa:∀k row,H k=some row->k≠E/\aI H E (some (kY [⟨d,A⟩])) k=some row:=fun k row h=>by
  have X:k≠E:=fun e=>by rw[e,M]at h;cases h
  exact⟨X,(aD _ _ _ _ X).trans h⟩
 generalize aI H E (some (kY [⟨d,A⟩]))=H1 at *;simp only[go_sem];refine fW [F] [(0,true),(1,true),(2,true),(3,true),(4,true),(5,true),(6,true),(7,true),(8,true),(9,true),(10,true),(11,true),(12,true),(13,true),(14,true),(15,true),(16,false),(17,true)] (by simp[O]) (by kernel_rfl) fun Hp Hr hp hr _ ac=>?_
 have I:=(hp F (by simp)).trans O;simp only[go_sem,g1,b1,I];have Z:Hr E=some (kY [⟨d,A⟩]):=(hr E (by simpa using n1.symm)).trans R1;refine L9 [⟨d,A⟩] ⟨W (d+t.rest),0⟩ Z (by simp) fun j2 H2 R2 ab=>?_
 simp only[go_sem];refine fun h0 Hm Y J=>?_
 have T:j2≠F:=fun e=>by have:=h0 F (by simp);rw[<-e,R2]at this;cases this
 simp only[go_sem];refine hK j2 Hm ((J j2 (by simpa using T)).trans R2) fun k row U=>?_
 obtain⟨m1,m2⟩:=aa k row U;by_cases e:k=F
 ·subst e;exact⟨T.symm,(Y k (by simp)).trans m2⟩
 ·obtain⟨m3,m4⟩:=ab k row m1 ((hr k (by simpa using e)).trans m2);exact⟨m3,(J k (by simpa using e)).trans m4⟩
def Kc(n:Network)(t:VType)(src:Int)(st:Stop)(out:List Sta)(a:Sta):List Sta:=
 let g:=iD n t.profile src st.place a.ready
 if(g.2.2 != 0||decide (W (W (a.driven+g.1)-a.ready)>t.drive))=true then out
 else if((Rx.kW st g.1).2 != 0)=true then out
 else lW t out (Rx.kW st g.1).1 (W (W (a.driven+g.1)-a.ready))
def yT(n:Network)(t:VType)(src:Int)(st:Stop)(l:List Sta):List Sta:=l.foldl (Kc n t src st) []
def Uz(n:Network)(t:VType)(src:Int)(st:Stop)(out:List Sta)(a:Sta):(Kc n t src st out a).length<=out.length+2:=by
 unfold Kc;simp only;split
 ·omega
 ·split
  ·omega
  ·exact Do _ _ _ _
def yM(n:Network)(t:VType)(src:Int)(st:Stop)(l:List Sta):∀k,((l.take k).foldl (Kc n t src st) []).length<=2*k
 | 0=>by simp
 | k+1=>by
  have h:=yM n t src st l k;by_cases E:k<l.length
  ·obtain⟨c,A⟩:=aO E;rw[jT A];exact Xag (Uz n t src st _ c) (by omega)
  ·rw[Xam (by omega)];rw[Xam (by omega)]at h;omega
def UL(H0:aG)(js:Nat)(s:Sr)(t:VType)(hj:H0 js=some (iE s))(ht:s.x.types[s.kind]?=some t)(src:Int)(l:List Sta)(st:Stop)(hn:NetOk s.x.net)(hl:l.length<=400000):
  LC prog 163 [.op js 0 0,int src,.sl (l.map fD),.agg (dQ st)] H0 (.sl ((yT s.x.net t src st l).map fD)):=by
 have hk:=(List.getElem?_eq_some_iff.1 ht).1;have b1:=inB hk;have g1:=aC (f:=bM) ht;refine LC.body (c:=f163.body.getD .skip) (fun t=>t == 10) mixed func163 rfl (by kernel_rfl) ?_;unfold f163;simp only[Xbc];simp only[go_sem];have U:=Sup.refl H0;have ac:=U.at hj;refine fW [js] [(0,true),(1,true),(2,true),(3,true),(4,true),(5,true),(6,true),(7,true),(8,true),(9,true),(10,true),(11,false),(12,false)] (by simp[ac]) (by kernel_rfl) fun Hp Hr hp hr _ au=>?_
 have X:=(hp js (by simp)).trans ac;simp only[go_sem,g1,b1,X];refine aJ fun i9 ar=>?_
 simp only[go_sem];refine aN (aB _ _ _) (by simp[jZ]) ?_;refine mJ hr ar fun aj=>?_
 have ak:=U.none aj;generalize ae:aI (aI _ i9 _) i9 _=HGi9;replace U:=Sup.eq ((U.upd ak _).upd ak _) ae;have Y:HGi9 i9=some ((⟨70,14,[bM t]⟩:Row)):=by rw[<-ae,aB];try rfl
 clear ae aj;simp only[go_sem,Y];refine aJ fun j an=>?_
 have ah:i9≠j:=bC Y an;have aq:=U.none an;generalize ai:aI _ j _=HGj;replace U:=Sup.eq (U.upd aq _) ai;replace Y:=(congrFun ai.symm i9).trans ((aD _ _ _ _ ah).trans Y);have R:HGj j=some (kY []):=by rw[<-ai,aB];try rfl
 clear ai an;simp only[go_sem,R,Y];refine⟨fun ρ H=>∃(k:Nat) (j:Nat),k<=l.length/\ρ 0=.op js 0 0/\ρ 1=int src/\ρ 7=.rp (dQ st) 0/\ρ 9=.op i9 0 0/\ρ 28=.sl (l.map fD)/\ρ 29=int (l.length:Nat)/\ρ 30=int k/\ρ 10=.os j/\Sup H0 H/\H0 j=none/\H i9=some (⟨70,14,[bM t]⟩:Row)/\H j=some (kY ((l.take k).foldl (Kc s.x.net t src st) [])),fun ρ _=>l.length-aU (ρ 30),⟨0,j,Xab _,by simp only[go_sem],by simp only[go_sem],by simp only[go_sem],by simp only[go_sem],by simp only[go_sem],by simp only[go_sem,Xaa],(by simp only[go_sem];rfl),by simp only[go_sem],U,aq,Y,R⟩,?_⟩;rintro ρ H ⟨k,j,hk,e0,e1,e7,e9,F,E,I,A,U,nj,Y,R⟩;simp only[go_sem,e0,e1,e7,e9,F,E,I,A];refine aA (fun ab=>?_) (fun ao=>?_)
 ·have ab:=ltB (by simpa using ab);obtain⟨a,ha⟩:=aO ab;have d1:=inB ab;have hs:=jT (f:=Kc s.x.net t src st) (b:=([]:List Sta)) ha;have aw:=yM s.x.net t src st l k;generalize (l.take k).foldl (Kc s.x.net t src st) []=out at *;have av:i9≠j:=fun e=>by subst e;rw[Y]at R;cases R
  simp only[go_sem,e0,e1,e7,e9,F,E,I,A,aC ha,d1];refine aJ fun Z T=>?_
  have O:j≠Z:=bC R T;have M:i9≠Z:=bC Y T;simp only[go_sem,e0,e1,e7,e9,F,E,I,A,R,Y];refine aN (aB _ _ _) (by simp[Dm]) ?_;have aa:=U.none T;generalize J:aI (aI _ Z _) Z _=HGi12;replace U:=Sup.eq ((U.upd aa _).upd aa _) J;replace R:=kpR J O O R;replace Y:=kpR J M M Y;have af:HGi12 Z=some ((⟨259,2,[fD a]⟩:Row)):=by rw[<-J,aB];try rfl
  clear J T;simp only[go_sem,e0,e1,e7,e9,F,E,I,A,af,R,Y];have ac:=U.at hj;have ne:js≠Z:=Sup.ne (Sup.refl H0) hj aa;refine fW [js,i9,Z] [(0,true),(1,true),(2,true),(3,true),(4,true),(5,true),(6,true),(7,true),(8,true),(9,true),(10,true),(11,true),(12,false),(13,true),(14,true),(15,true),(16,true),(17,true),(18,true),(19,true)] (by simp[ac,Y,af]) (by kernel_rfl) fun Hp Hr hp hr _ au=>?_
  have X:=(hp js (by simp)).trans ac;have al:=(hp i9 (by simp)).trans Y;have ag:=(hp Z (by simp)).trans af;simp only[go_sem,e0,e1,e7,e9,F,E,I,A,X,al,ag];refine aP (WD s.x.net t.profile src st.place a.ready hn) ?_;simp only[go_sem,e0,e1,e7,e9,F,E,I,A,X,al,ag];refine lI hr ?_;have ha:Kc s.x.net t src st out a=(if((iD s.x.net t.profile src st.place a.ready).2.2 != 0||decide (W (W (a.driven+(iD s.x.net t.profile src st.place a.ready).1)-a.ready)>t.drive))=true then out
   else if((Rx.kW st (iD s.x.net t.profile src st.place a.ready).1).2 != 0)=true then out
   else lW t out (Rx.kW st (iD s.x.net t.profile src st.place a.ready).1).1 (W (W (a.driven+(iD s.x.net t.profile src st.place a.ready).1)-a.ready))):=rfl
  rw[ha]at hs;clear ha;generalize iD s.x.net t.profile src st.place a.ready=g at *;simp only[go_sem,e0,e1,e7,e9,F,E,I,A,Y,af];refine aA (fun c1=>?_) (fun c1=>?_)
  ·have c1:(g.2.2 != 0||decide (W (W (a.driven+g.1)-a.ready)>t.drive))=true:=c1;rw[if_pos c1]at hs;simp only[go_sem,e0,e1,e7,e9,F,E,I,A,aT k];refine⟨⟨k+1,j,ab,rfl,rfl,U,nj,Y,?_⟩,by simp only[aF];omega⟩;rw[hs];exact R
  have c1:(g.2.2 != 0||decide (W (W (a.driven+g.1)-a.ready)>t.drive))=false:=c1;rw[if_neg (fun h=>Bool.noConfusion (c1.symm.trans h))]at hs;simp only[go_sem,e0,e1,e7,e9,F,E,I,A];refine aP (Rx.TH st g.1) ?_;simp only[go_sem,e0,e1,e7,e9,F,E,I,A];generalize Rx.kW st g.1=dp at *;refine aA (fun c2=>?_) (fun c2=>?_)
  ·rw[if_pos c2]at hs;simp only[go_sem,e0,e1,e7,e9,F,E,I,A,aT k];refine⟨⟨k+1,j,ab,rfl,rfl,U,nj,Y,?_⟩,by simp only[aF];omega⟩;rw[hs];exact R
  rw[if_neg (fun h=>Bool.noConfusion (c2.symm.trans h))]at hs;simp only[go_sem,e0,e1,e7,e9,F,E,I,A,af];refine Vz s t out dp.1 (W (W (a.driven+g.1)-a.ready)) ht ac R (by omega) fun j2 H2 R2 am=>?_
  simp only[go_sem,e0,e1,e7,e9,F,E,I,A,aT k];refine⟨⟨k+1,j2,ab,rfl,rfl,fun q row hq=>?_,?_,(am i9 _ av Y).2,?_⟩,by simp only[aF];omega⟩
  ·have ap:q≠j:=fun e=>by subst e;rw[nj]at hq;cases hq
   exact(am q row ap (U q row hq)).2
  ·cases e:H0 j2 with
   | none=>rfl
   | some row=>
    have ap:j2≠j:=fun e2=>by subst e2;rw[nj]at e;cases e
    exact absurd rfl (am j2 row ap (U j2 row e)).1
  ·rw[hs];exact R2
 have ao:=geB hk (by simpa using ao);subst ao;rw[Xad]at R;simp only[go_sem,e0,e1,e7,e9,F,E,I,A];exact⟨U,[j],by simpa using nj,.row _ _ _ (by simp;exact R) (ConvE.refl _)⟩
def We(H0:aG)(F:Nat)(s:Sr)(t:VType)(d E:Int)(M:s.x.types[s.kind]?=some t)(J:H0 F=some (iE s)):
  LC prog 121 [.op F 0 0,.v (.slice none 0 0),int d,int E] H0 (.sl ((lW t [] d E).map fD)):=fun K O=>
 aX.data (Ug s t d E M J fun j' H' R A=>⟨fun k row h=>(A k row h).2,[j'],fun k T=>by
  have e:k=j':=by simpa using T
  subst e;cases I:H0 k with
  | none=>rfl
  | some row=>exact absurd rfl (A k row I).1,.row _ _ _ (by simp;exact R) (ConvE.refl _)⟩) O
end Sq
namespace Sq
open Go.Proofs.Tryz
open Go.Proofs.YtkjdacijpeiphaaGreatDoor.Nu (ltB geB)
open Mv (bP cK aR)
def IL(a b:Column):Bool:=if(a.price != b.price)=true then decide (a.price<b.price)else decide (RF a.route.visits b.route.visits<0)
def V1(a b:Column)(E:a.route.visits.length<=1048576):PC prog 161 [.agg (bA a),.agg (bA b)] (boo (IL a b)):=by
 refine pcd func161 rfl rfl ?_;simp only[go_sem];unfold IL;refine aA (fun A=>?_) (fun A=>?_)
 ·rw[if_pos A];simp only[go_sem];exact .refl _
 ·rw[if_neg (by rw[A];simp)];simp only[go_sem];refine aP (X6 a.route.visits b.route.visits E) ?_;simp only[go_sem];exact .refl _
def yQ(best:Column)(fd:Bool)(next:Column):Column:=if(!fd||IL next best)=true then next else best
abbrev jP(c:Column):Row:=⟨140,7,[bA c]⟩
def dI:Column:=⟨0,0,0,⟨0,0,[],[]⟩⟩
def XJ(best:Column)(O:Bool)(next:Column)(T:next.route.visits.length<=1048576):PC prog 160 [.agg (bA best),boo O,.agg (bA next),.v (.func (.func 161) #[] #[])] (.agg (bA (yQ best O next))):=by
 have M:aH prog 161=true:=by kernel_rfl
 have J:=V1 next best T
 refine pcd func160 rfl rfl ?_;simp only[go_sem];refine dV fun i8 E F (A:E i8=some (jP dI)) N=>?_
 clear N F;simp only[go_sem,M,A];refine⟨_,fun _=>J.q rfl,?_⟩;simp only[go_sem];unfold yQ;refine aA (fun J=>?_) (fun J=>?_)
 ·rw[if_pos J];simp only[go_sem];refine aN A (by simp[dW]) ?_;generalize I:aI _ i8 _=HP;replace A:HP i8=some (jP next):=upS I;clear I;simp only[go_sem,A];exact .refl _
 ·rw[if_neg (fun h=>Bool.noConfusion (J.symm.trans h))];simp only[go_sem];refine aN A (by simp[dW]) ?_;generalize I:aI _ i8 _=HP;replace A:HP i8=some (jP best):=upS I;clear I;simp only[go_sem,A];exact .refl _
def kH(s:Sr)(l:List Visit):Route:=⟨(s.kind:Nat),0,[],l⟩
def HU(s:Sr)(l:List Visit)(p:Int):Column:=⟨(s.kind:Nat),s.set,p,kH s l⟩
def KP(s:Sr)(l:List Visit):Sr:=if((gP s.x (kH s l)).2 == 0)=true then { s with best:=yQ s.best s.found (HU s l (gP s.x (kH s l)).1),found:=true }else s
def xS(t:VType)(rec:Sr->List Visit->Int->List Sta->Sr)(l:List Visit)(src:Int)(st:List Sta)(s:Sr)(v:Visit):Sr:=
 if((fM s.x v).2 != 0)=true then s
 else if(yT s.x.net t src (fM s.x v).1 st).length=0 then s
 else rec s (l++[v]) (fM s.x v).1.place (yT s.x.net t src (fM s.x v).1 st)
def mF(t:VType):Nat->Sr->List Visit->Int->List Sta->Sr
 | 0,s,_,_,_=>s
 | f+1,s,l,src,st=>if((l.length:Int) == (s.total:Int))=true then KP s l else(Ao s.x s.set l).foldl (xS t (mF t f) l src st) s
structure SameB(s s':Sr):Prop where
 x:s'.x=s.x
 kind:s'.kind=s.kind
 set:s'.set=s.set
 total:s'.total=s.total
structure SrB(t:VType)(s:Sr):Prop where
 ty:s.x.types[s.kind]?=some t
 ev:EvalB s.x
 before:s.x.before.length<=1048576
 orders:s.x.orders.length<=60
 total:s.total<=16
def SameB.refl(s:Sr):SameB s s:=⟨rfl,rfl,rfl,rfl⟩
def SameB.trans{a b c:Sr}(h:SameB a b)(g:SameB b c):SameB a c:=⟨g.x.trans h.x,g.kind.trans h.kind,g.set.trans h.set,g.total.trans h.total⟩
def SameB.b{t:VType}{a b:Sr}(h:SameB a b)(g:SrB t a):SrB t b:=⟨by rw[h.x,h.kind];exact g.ty,by rw[h.x];exact g.ev,by rw[h.x];exact g.before,by rw[h.x];exact g.orders,by rw[h.total];exact g.total⟩
def Ra(s:Sr)(l:List Visit):SameB s (KP s l):=by unfold KP;split <;> exact⟨rfl,rfl,rfl,rfl⟩
def ES{α:Type}{g:Sr->α->Sr}(A:∀a v,SameB a (g a v)):∀(l:List α) (a:Sr),SameB a (l.foldl g a)
 | [],a=>.refl a
 | v::l,a=>(A a v).trans (ES A l (g a v))
def pC(t:VType):∀(f:Nat) (s:Sr) (l:List Visit) (src:Int) (st:List Sta),SameB s (mF t f s l src st)
 | 0,s,_,_,_=>.refl s
 | f+1,s,l,src,st=>by
  unfold mF;split
  ·exact Ra s l
  ·refine ES (fun a v=>?_) _ _;unfold xS;split
   ·exact .refl a
   ·split
    ·exact .refl a
    ·exact pC t f _ _ _ _
def abD{H:aG}{j:Nat}:(fun q=>if q∈[j]then none else H q)=aI H j none:=funext fun q=>by simp only[aI,Xax]
def Cv{l:List Nat}{H0 H X:aG}{K:Env->aG->Prop}{ρ:Env}{J A:Nat}{a b:Row}{r5:Option Row}(Y:∀k,k∉l->X k=H k)(Z:A∉l)(h5:X J=none)(U:Sup (aI H0 A (some a)) H)
  (h:∀E:aG,E A=some b->Sup (aI H0 A (some b)) E->K ρ E):mI l H K ρ (aI (aI (aI X J r5) J none) A (some b)):=fun h0 E h1 O=>by
 refine h E ((O A Z).trans (aB _ _ _)) fun k row M=>?_
 by_cases e:k=A
 ·subst e;rw[aB]at M;rw[O k Z,aB];exact M
 ·rw[aD _ _ _ _ e]at M;have T:=U k row (by rw[aD _ _ _ _ e];exact M);by_cases I:k∈l
  ·rw[h1 k I];exact T
  ·have F:k≠J:=fun e2=>by rw[<-e2,Y k I,T]at h5;cases h5
   rw[O k I,aD _ _ _ _ e,aD _ _ _ _ F,aD _ _ _ _ F,Y k I];exact T
abbrev Uc(t:VType)(js f:Nat):Prop:=∀(s:Sr) (_:SrB t s) (H0:aG) (_:H0 js=some (iE s)) (l:List Visit) (src:Int) (st:List Sta) (_:l.length<=s.total) (_:s.total-l.length<f) (_:st.length<=2^(l.length+1)),
 MC prog 120 [.op js 0 0,.sl (l.map aL),int src,.sl (st.map fD)] H0 (aI H0 js (some (iE (mF t f s l src st)))) (.tup [])
def F6(t:VType)(js f:Nat)(a5:∀f',f=f'+1->Uc t js f'):Uc t js f:=by
 intro s a6 H0 ay l src st bw hf bq;obtain⟨f,rfl⟩:∃f',f=f'+1:=⟨f-1,by omega⟩;have a5:=a5 f rfl;have bz:=a6.total;have hj:=ay;have eW:mF t (f+1) s l src st=if((l.length:Int) == (s.total:Int))=true then KP s l else(Ao s.x s.set l).foldl (xS t (mF t f) l src st) s:=rfl
 generalize mF t (f+1) s l src st=RW at *;refine MC.body (c:=f120.body.getD .skip) (fun _=>false) (Ow ay) mixed func120 rfl (by kernel_rfl) ?_;unfold f120;simp only[Xbc];simp only[go_sem,hj,Xaa];have U:=Sup.refl H0;refine aA (fun hb=>?_) (fun hb=>?_)
 ·rw[if_pos hb]at eW;subst eW;have eE:KP s l=if((gP s.x (kH s l)).2 == 0)=true then { s with best:=yQ s.best s.found (HU s l (gP s.x (kH s l)).1),found:=true }else s:=rfl
  have hP:=Ul s.x (kH s l) a6.ev (by show l.length<=1048575;omega);simp only[go_sem,hj];refine aJ fun j8 a0=>?_
  have ag:js≠j8:=bC hj a0;simp only[go_sem,hj];refine aN (aB _ _ _) (by simp[iI]) ?_;have a9:=U.none a0;generalize au:aI (aI _ j8 _) j8 _=HGj8;replace U:=Sup.eq ((U.upd a9 _).upd a9 _) au;replace hj:=kpR au ag ag hj;have R8:HGj8 j8=some ((⟨76,4,[bI (kH s l)]⟩:Row)):=by rw[<-au,aB];try rfl
  clear au a0;simp only[go_sem,R8,hj];refine fW [js,j8] [(0,true),(1,true),(2,true),(3,true),(4,true),(5,false),(6,true),(7,true),(8,true),(9,true),(10,true)] (by simp[hj,R8]) (by kernel_rfl) fun Hp Hr hp hr _ al=>?_
  have ab:=(hp js (by simp)).trans hj;have ak:=(hp j8 (by simp)).trans R8;simp only[go_sem,ab,ak];refine aP hP ?_;generalize gP s.x (kH s l)=pr at *;simp only[go_sem];refine lI hr ?_;simp only[go_sem];refine aA (fun hc=>?_) (fun hc=>?_)
  case refine_2=>rw[if_neg (fun h=>Bool.noConfusion (hc.symm.trans h))]at eE;rw[eE];simp only[go_sem];refine IE.flat ?_ _;rw[Lk ay];exact U
  rw[if_pos hc]at eE;simp only[go_sem];clear hp hr al ab ak;refine fW [js,j8] [(0,true),(1,true),(2,true),(3,true),(4,true),(5,true),(6,true),(7,true),(8,true),(9,true),(10,true),(11,false),(12,false)] (by simp[hj,R8]) (by kernel_rfl) fun Hp Hr hp hr _ al=>?_
  have ab:=(hp js (by simp)).trans hj;have ak:=(hp j8 (by simp)).trans R8;simp only[go_sem,ab,ak];refine aJ fun ao bo=>?_
  simp only[go_sem];refine aN (aB _ _ _) (by simp[dW,iI]) ?_;refine mJ hr bo fun ar=>?_
  have af:js≠ao:=bC hj ar;have az:=U.none ar;generalize ai:aI (aI _ ao _) ao _=HGj11;replace U:=Sup.eq ((U.upd az _).upd az _) ai;replace hj:=kpR ai af af hj;have ax:HGj11 ao=some (jP (HU s l pr.1)):=by rw[<-ai,aB];try rfl
  clear ai ar;simp only[go_sem,ax,hj];clear hp hr al ab ak;have hF:=XJ s.best s.found (HU s l pr.1) (by show l.length<=1048576;omega);generalize b3:yQ s.best s.found (HU s l pr.1)=fb at *;have bm:js≠ao:=fun e=>by subst e;rw[hj]at ax;cases ax
  refine jS [ao] (.q 0 (.q 1 (.q 2 (.q 3 (.q 5 (.q 6 (.q 7 (.q 9 (.a2 4 (.a1 8 (.a1 10 (.q 11 (.q 12 (.a1 13 .nil))))) 8 (.a1 4 (.a1 10 (.q 11 (.q 12 (.a1 13 .nil)))))))))))))) (fun Z H'=>Z 0=.op js 0 0/\H' js=some (iE { s with best:=fb })/\Sup (aI H0 js (some (iE { s with best:=fb }))) H') (by simp[ax]) (by kernel_rfl) (fun K' am Hp Hr hp hr _ al=>?_) ?_
  ·have bf:=(hp ao (by simp)).trans ax;have ah:=(hr js (by simpa using bm)).trans hj;simp only[go_sem,bf];refine iB ?_ ?_
   ·simp only[go_sem,ah];refine aP hF ?_;simp only[go_sem,ah];refine aN ah (by simp[mK,dW]) ?_;simp only[go_sem];refine oW hr (by simpa using bm) (am _ _ ⟨by simp only[go_sem],(aB _ _ _).trans rfl,?_⟩);exact U.set js (some (iE { s with best:=fb }))
   ·simp only[go_sem,ah];refine aP hF ?_;simp only[go_sem,ah];refine aN ah (by simp[mK,dW]) ?_;simp only[go_sem];refine oW hr (by simpa using bm) (am _ _ ⟨by simp only[go_sem],(aB _ _ _).trans rfl,?_⟩);exact U.set js (some (iE { s with best:=fb }))
  clear hj U R8 ax;rintro ρ H ⟨I,R,U⟩;simp only[go_sem,I,R];refine bO so4 R (by simp[mK]) ?_;simp only[go_sem];rw[eE];refine IE.flat ?_ _;exact Sup.set2 U (some (iE { s with best:=fb,found:=true }))
 rw[if_neg (fun h=>Bool.noConfusion (hb.symm.trans h))]at eW;subst eW;have bv:l.length<s.total:=by simp at hb;omega
 have b0:=a6.orders;have bn:=yO s.x s.set l s.x.orders.length;simp only[go_sem];refine fW [js] [(0,true),(1,true),(2,true),(3,true),(4,true),(5,true),(6,true),(7,true),(8,true),(11,true),(9,false),(10,true)] (by simp[hj]) (by kernel_rfl) fun Hp Hr hp hr _ al=>?_
 have ab:=(hp js (by simp)).trans hj;simp only[go_sem,ab];refine aP (WX s.x s.set l (by omega) a6.before (by omega)) ?_;have bn:(Ao s.x s.set l).length<=120:=Xag bn (by omega);generalize Ao s.x s.set l=vs at *;simp only[go_sem,Xaa];refine lI hr ?_;clear hp hr al ab U;have bx:st.length<=131072:=Xag bq (Xag (Xaq (by decide) (show l.length+1<=17 by omega)) (by decide));refine⟨fun ρ H=>∃(k:Nat) (a:Sr),k<=vs.length/\ρ 0=.op js 0 0/\ρ 1=.sl (l.map aL)/\ρ 2=int src/\ρ 3=.sl (st.map fD)/\ρ 77=.sl (vs.map aL)/\ρ 78=int (vs.length:Nat)/\ρ 79=int k/\a=(vs.take k).foldl (xS t (mF t f) l src st) s/\SameB s a/\H js=some (iE a)/\Sup (aI H0 js (some (iE a))) H,fun ρ _=>vs.length-aU (ρ 79),⟨0,s,Xab _,by simp only[go_sem],by simp only[go_sem],by simp only[go_sem],by simp only[go_sem],by simp only[go_sem],by simp only[go_sem,Xaa],(by simp only[go_sem];rfl),rfl,SameB.refl s,ay,by rw[Lk ay];exact Sup.refl H0⟩,?_⟩;rintro ρ H ⟨k,a,hk,I,M,X,Y,F,E,A,ha,hS,R,U⟩;simp only[go_sem,I,M,X,Y,F,E,A];refine aA (fun aq=>?_) (fun bj=>?_)
 ·have aq:=ltB (by simpa using aq);obtain⟨v,hv⟩:=aO aq;have b1:=inB aq;have hs:=jT (f:=xS t (mF t f) l src st) (b:=s) hv;rw[<-ha]at hs;have bi:=hS.b a6;have eX:xS t (mF t f) l src st a v=if((fM a.x v).2 != 0)=true then a
   else if(yT a.x.net t src (fM a.x v).1 st).length=0 then a
   else mF t f a (l++[v]) (fM a.x v).1.place (yT a.x.net t src (fM a.x v).1 st):=rfl
  have br:SameB a (xS t (mF t f) l src st a v):=by
   unfold xS;split
   ·exact .refl a
   ·split
    ·exact .refl a
    ·exact pC t f _ _ _ _
  generalize xS t (mF t f) l src st a v=EV at *;have bp:=O3 a.x v;generalize b2:fM a.x v=sv at *;simp only[go_sem,I,M,X,Y,F,E,A,aC hv,b1];refine aJ fun ac an=>?_
  have ae:js≠ac:=bC R an;simp only[go_sem,I,M,X,Y,F,E,A,R];refine aN (aB _ _ _) (by simp[cN]) ?_;have a4:=U.none an;generalize aj:aI (aI _ ac _) ac _=HGi13;replace U:=Sup.eq ((U.upd a4 _).upd a4 _) aj;replace R:=kpR aj ae ae R;have aa:HGi13 ac=some ((⟨72,2,[aL v]⟩:Row)):=by rw[<-aj,aB];try rfl
  clear aj an;simp only[go_sem,I,M,X,Y,F,E,A,aa,R];refine jS [js,ac] (.q 0 (.q 1 (.q 2 (.q 3 (.q 4 (.q 5 (.a2 6 (.q 7 (.q 8 (.q 9 (.a1 10 (.a1 11 (.q 12 .nil)))))) 10 (.a1 6 (.q 7 (.q 8 (.q 9 (.a1 11 (.q 12 .nil))))))))))))) (fun Z H'=>Z 0=.op js 0 0/\Z 1=.sl (l.map aL)/\Z 2=int src/\Z 3=.sl (st.map fD)/\Z 77=.sl (vs.map aL)/\Z 78=int vs.length/\Z 79=int (k:Nat)/\Z 13=.op ac 0 0/\Z 15=int sv.2/\∃av,Z 14=.op av 0 0/\H' av=some (⟨56,4,[dQ sv.1]⟩:Row)/\H' ac=some (⟨72,2,[aL v]⟩:Row)/\H' js=some (iE a)/\Sup (aI H0 js (some (iE a))) H') (by simp[R,aa]) (by kernel_rfl) (fun K' am Hp Hr hp hr _ al=>?_) ?_
  ·have bu:=(hp js (by simp)).trans R;have ap:=(hp ac (by simp)).trans aa;simp only[go_sem,I,M,X,Y,F,E,A,bu,ap];refine iB ?_ ?_
   ·simp only[go_sem,I,M,X,Y,F,E,A];refine aP bp ?_;simp only[go_sem,I,M,X,Y,F,E,A];refine aJ fun j8 bc=>?_
    simp only[go_sem,I,M,X,Y,F,E,A];refine aN (aB _ _ _) (by simp[jW]) ?_;simp only[go_sem];refine mJ hr bc fun h8=>am _ _ ⟨by simp only[go_sem,I,M,X,Y,F,E,A],by simp only[go_sem,I,M,X,Y,F,E,A],by simp only[go_sem,I,M,X,Y,F,E,A],by simp only[go_sem,I,M,X,Y,F,E,A],by simp only[go_sem,I,M,X,Y,F,E,A],by simp only[go_sem,I,M,X,Y,F,E,A],by simp only[go_sem,I,M,X,Y,F,E,A],by simp only[go_sem,I,M,X,Y,F,E,A],by simp only[go_sem],j8,by simp only[go_sem],aB _ _ _,(aD _ _ _ _ (bC aa h8)).trans ((aD _ _ _ _ (bC aa h8)).trans aa),(aD _ _ _ _ (bC R h8)).trans ((aD _ _ _ _ (bC R h8)).trans R),(U.upd (U.none h8) _).upd (U.none h8) _⟩
   ·simp only[go_sem,I,M,X,Y,F,E,A];refine aJ fun j8 bc=>?_
    simp only[go_sem,I,M,X,Y,F,E,A];refine aP bp ?_;simp only[go_sem,I,M,X,Y,F,E,A];refine aN (aB _ _ _) (by simp[jW]) ?_;simp only[go_sem];refine mJ hr bc fun h8=>am _ _ ⟨by simp only[go_sem,I,M,X,Y,F,E,A],by simp only[go_sem,I,M,X,Y,F,E,A],by simp only[go_sem,I,M,X,Y,F,E,A],by simp only[go_sem,I,M,X,Y,F,E,A],by simp only[go_sem,I,M,X,Y,F,E,A],by simp only[go_sem,I,M,X,Y,F,E,A],by simp only[go_sem,I,M,X,Y,F,E,A],by simp only[go_sem,I,M,X,Y,F,E,A],by simp only[go_sem],j8,by simp only[go_sem],aB _ _ _,(aD _ _ _ _ (bC aa h8)).trans ((aD _ _ _ _ (bC aa h8)).trans aa),(aD _ _ _ _ (bC R h8)).trans ((aD _ _ _ _ (bC R h8)).trans R),(U.upd (U.none h8) _).upd (U.none h8) _⟩
  clear aa R U I M X Y F E A;rintro ρ H ⟨I,M,X,Y,F,E,A,J,T,av,O,aw,aa,R,U⟩;simp only[go_sem,I,M,X,Y,F,E,A,J,T,O];refine aA (fun c1=>?_) (fun c1=>?_)
  ·rw[if_pos c1]at eX;simp only[go_sem,I,M,X,Y,F,E,A,J,T,O,aT k];exact⟨⟨k+1,a,aq,rfl,by rw[hs,eX],hS,R,U⟩,by simp only[aF];omega⟩
  rw[if_neg (fun h=>Bool.noConfusion (c1.symm.trans h))]at eX;have bt:=UL H js a t R bi.ty src st sv.1 bi.ev.net (by omega);have a7:=yM a.x.net t src sv.1 st st.length;rw[Xad]at a7;replace a7:(yT a.x.net t src sv.1 st).length<=2*st.length:=a7;generalize yT a.x.net t src sv.1 st=nx at *;simp only[go_sem,I,M,X,Y,F,E,A,J,T,O,aw];refine LC.use bt ?_;simp only[go_sem,I,M,X,Y,F,E,A,J,T,O,Xaa];refine aA (fun c2=>?_) (fun c2=>?_)
  case refine_2=>
   have hz:nx.length=0:=by simp at c2;simp[c2]
   rw[if_pos hz]at eX;simp only[go_sem,I,M,X,Y,F,E,A,J,T,O,aT k];exact⟨⟨k+1,a,aq,rfl,by rw[hs,eX],hS,R,U⟩,by simp only[aF];omega⟩
  have hz:¬nx.length=0:=by simp at c2;omega
  rw[if_neg hz]at eX;have bk:js≠ac:=fun e=>by subst e;rw[R]at aa;cases aa
  have bd:js≠av:=fun e=>by subst e;rw[R]at aw;cases aw
  simp only[go_sem,I,M,X,Y,F,E,A,J,T,O];have ba:(l++[v]).length=l.length+1:=by simp
  have be:=fun(Hx:aG) (hx:Hx js=some (iE a))=>a5 a bi Hx hx (l++[v]) sv.1.place nx (by rw[ba,hS.total];omega) (by rw[ba,hS.total];omega) (by rw[ba,Nat.pow_succ];omega)
  rw[<-eX]at be;refine jS [ac,av] (.q 0 (.q 1 (.q 3 (.q 6 (.q 7 (.q 8 (.a2 2 (.a1 4 (.a1 5 (.a1 9 .nil))) 4 (.a1 2 (.a1 5 (.a1 9 .nil)))))))))) (fun Z H'=>Z 0=.op js 0 0/\Z 1=.sl (l.map aL)/\Z 2=int src/\Z 3=.sl (st.map fD)/\Z 77=.sl (vs.map aL)/\Z 78=int vs.length/\Z 79=int (k:Nat)/\H' js=some (iE EV)/\Sup (aI H0 js (some (iE EV))) H') (by simp[aa,aw]) (by kernel_rfl) (fun K' am Hp Hr hp hr _ al=>?_) ?_
  ·have ap:=(hp ac (by simp)).trans aa;have bb:=(hp av (by simp)).trans aw;have a8:=(hr js (by simp[bk,bd])).trans R;simp only[go_sem,I,M,X,Y,F,E,A,J,T,O,ap,bb];refine iB ?_ ?_
   ·simp only[go_sem,I,M,X,Y,F,E,A,J,T,O];refine aP (UF l (by omega)) ?_;simp only[go_sem,I,M,X,Y,F,E,A,J,T,O];refine PI Z3 (.inl rfl) (by simp) (yU cN l) (by simp only[go_sem]) (by simp;omega) fun j5 h5=>?_
    have n5:js≠j5:=bC a8 h5;simp only[go_sem,I,M,X,Y,F,E,A,J,T,O];refine aX.frz [j5] (args':=[.op js 0 0,.sl (l.map aL++[aL v]),int sv.1.place,.sl (nx.map fD)]) (.cons _ _ _ _ (.refl _) (.cons _ _ _ _ (.row _ _ _ (by simp;exact aB _ _ _) (ConvE.refl _)) (.cons _ _ _ _ (.refl _) (.cons _ _ _ _ (.refl _) .nil)))) ?_;rw[abD,show l.map aL++[aL v]=(l++[v]).map aL by simp];refine MC.use (be _ ((aD _ _ _ _ n5).trans ((aD _ _ _ _ n5).trans a8))) ?_;simp only[go_sem,I,M,X,Y,F,E,A,J,T,O];refine Cv hr (by simp[bk,bd]) h5 U fun Hm bh bg=>am _ _ ⟨by simp only[go_sem,I,M,X,Y,F,E,A,J,T,O],by simp only[go_sem,I,M,X,Y,F,E,A,J,T,O],by simp only[go_sem,I,M,X,Y,F,E,A,J,T,O],by simp only[go_sem,I,M,X,Y,F,E,A,J,T,O],by simp only[go_sem,I,M,X,Y,F,E,A,J,T,O],by simp only[go_sem,I,M,X,Y,F,E,A,J,T,O],by simp only[go_sem,I,M,X,Y,F,E,A,J,T,O],bh,bg⟩
   ·simp only[go_sem,I,M,X,Y,F,E,A,J,T,O];refine aP (UF l (by omega)) ?_;simp only[go_sem,I,M,X,Y,F,E,A,J,T,O];refine PI Z3 (.inl rfl) (by simp) (yU cN l) (by simp only[go_sem]) (by simp;omega) fun j5 h5=>?_
    have n5:js≠j5:=bC a8 h5;simp only[go_sem,I,M,X,Y,F,E,A,J,T,O];refine aX.frz [j5] (args':=[.op js 0 0,.sl (l.map aL++[aL v]),int sv.1.place,.sl (nx.map fD)]) (.cons _ _ _ _ (.refl _) (.cons _ _ _ _ (.row _ _ _ (by simp;exact aB _ _ _) (ConvE.refl _)) (.cons _ _ _ _ (.refl _) (.cons _ _ _ _ (.refl _) .nil)))) ?_;rw[abD,show l.map aL++[aL v]=(l++[v]).map aL by simp];refine MC.use (be _ ((aD _ _ _ _ n5).trans ((aD _ _ _ _ n5).trans a8))) ?_;simp only[go_sem,I,M,X,Y,F,E,A,J,T,O];refine Cv hr (by simp[bk,bd]) h5 U fun Hm bh bg=>am _ _ ⟨by simp only[go_sem,I,M,X,Y,F,E,A,J,T,O],by simp only[go_sem,I,M,X,Y,F,E,A,J,T,O],by simp only[go_sem,I,M,X,Y,F,E,A,J,T,O],by simp only[go_sem,I,M,X,Y,F,E,A,J,T,O],by simp only[go_sem,I,M,X,Y,F,E,A,J,T,O],by simp only[go_sem,I,M,X,Y,F,E,A,J,T,O],by simp only[go_sem,I,M,X,Y,F,E,A,J,T,O],bh,bg⟩
  clear aa aw R U I M X Y F E A J T O;rintro ρ H ⟨I,M,X,Y,F,E,A,R,U⟩;simp only[go_sem,I,M,X,Y,F,E,A,aT k];exact⟨⟨k+1,EV,aq,rfl,hs.symm,hS.trans br,R,U⟩,by simp only[aF];omega⟩
 have bj:=geB hk (by simpa using bj);subst bj;rw[Xad]at ha;rw[<-ha];simp only[go_sem];exact IE.flat U _
end Sq
namespace Sq
open Go.Proofs.YtkjdacijpeiphaaGreatDoor.Nu (ltB geB)
open Mv (bP cK aR)
def O1(t:VType)(A:Nat):∀f,Uc t A f
 | 0=>F6 t A 0 (fun f' e=>by omega)
 | f + 1 => F6 t A (f + 1) (fun f' e => by
     obtain rfl:f'=f:=by omega
     exact O1 t A f')
def vU(x:Instance)(set:Int)(l:List Visit):Prop:=∀p v q,l=p++v::q->v∈Ao x set p
def vU.nil{x:Instance}{set:Int}:vU x set []:=fun p v q h=>by simp at h
def vU.snoc{x:Instance}{set:Int}{l:List Visit}(h:vU x set l){v:Visit}(F:v∈Ao x set l):vU x set (l++[v]):=fun p w q e=>by
 rcases List.eq_nil_or_concat q with rfl|⟨A,u,rfl⟩
 ·obtain⟨rfl,E⟩:=List.append_inj' e rfl;cases E;exact F
 ·rw[List.concat_eq_append,show p++w::(A++[u])=(p++w::A)++[u]by simp]at e;obtain⟨rfl,E⟩:=List.append_inj' e rfl;exact h p w A rfl
def wK(s:Sr):Prop:=s.found=true->∃l,s.best=HU s l (gP s.x (kH s l)).1/\(gP s.x (kH s l)).2=0/\vU s.x s.set l/\l.length=s.total
def OT{s:Sr}(h:wK s){l:List Visit}(J:vU s.x s.set l)(I:l.length=s.total):wK (KP s l):=by
 unfold KP;split
 next A=>
  have A:(gP s.x (kH s l)).2=0:=by simpa using A
  intro _;show ∃l',yQ s.best s.found (HU s l (gP s.x (kH s l)).1)=HU s l' (gP s.x (kH s l')).1/\(gP s.x (kH s l')).2=0/\vU s.x s.set l'/\l'.length=s.total;unfold yQ;split
  ·exact⟨l,rfl,A,J,I⟩
  next E=>
   have F:s.found=true:=by
    cases e:s.found with
    | true=>rfl
    | false=>rw[e]at E;simp at E
   exact h F
 ·exact h
def Dp{l:List Visit}{g:Sr->Visit->Sr}{s0:Sr}(A:∀a v,SameB s0 a->wK a->v∈Ao s0.x s0.set l->SameB s0 (g a v)/\wK (g a v)):∀(vs:List Visit) (a:Sr),(∀v∈vs,v∈Ao s0.x s0.set l)->SameB s0 a->wK a->wK (vs.foldl g a)
 | [],a,_,_,h=>h
 | v::vs,a,hv,hs,h=>by obtain⟨h1,E⟩:=A a v hs h (hv v (by simp));exact Dp A vs (g a v) (fun u F=>hv u (by simp[F])) h1 E
def CG(t:VType):∀(f:Nat) (s:Sr) (l:List Visit) (src:Int) (st:List Sta),wK s->vU s.x s.set l->wK (mF t f s l src st)
 | 0,s,_,_,_,h,_=>h
 | f+1,s,l,src,st,h,hl=>by
  unfold mF;split
  next I=>exact OT h hl (by simp at I;omega)
  ·refine Dp (l:=l) (fun a v A F E=>?_) _ s (fun v E=>E) (SameB.refl s) h;unfold xS;split
   ·exact⟨A,F⟩
   ·split
    ·exact⟨A,F⟩
    ·refine⟨A.trans (pC t f _ _ _ _),CG t f _ _ _ _ F ?_⟩;rw[A.x,A.set];exact hl.snoc E
def mY(x:Instance)(l:List Int):Nat:=(l.map fun i=>(gN x.orders i).length).sum
def tD(x:Instance)(set:Int):Nat:=mY x (eJ set)
def NE(x:Instance){l:List Int}{k:Nat}{i:Int}(h:l[k]?=some i):mY x (l.take (k+1))=mY x (l.take k)+(gN x.orders i).length:=by unfold mY;rw[aZ h];simp
def Dq(x:Instance):∀l:List Int,mY x l<=2*l.length
 | []=>Xaf _
 | i::l=>by have h1:=Dq x l;have A:=oY x.orders i;unfold mY at h1 |-;simp only[Xat,List.sum_cons,Xae];omega
def NQ(x:Instance)(l:List Int)(k:Nat):mY x (l.take k)<=2*k:=by have h1:=Dq x (l.take k);rw[Xah]at h1;omega
def GG{set:Int}{n:Nat}(h:∀i:Nat,n<=i->dC set (i:Int)=false):∀d,rL set (n+d)=rL set n
 | 0=>rfl
 | d+1=>by rw[<-Nat.add_assoc,oS,h (n+d) (by omega),GG h d];simp
def TG{set:Int}{n:Nat}(h0:0<=set)(h1:set<2^n)(i:Nat)(E:n<=i):dC set (i:Int)=false:=by
 obtain⟨m,rfl⟩:=Int.eq_ofNat_of_zero_le h0;by_cases A:i<=62
 ·rw[nI (by omega) (by omega),Xaz];refine Nat.testBit_lt_two_pow (Xbf (m:=2^n) ?_ (Xaq (by decide) E))
  exact_mod_cast h1
 ·unfold dC;rw[decide_eq_false (show ¬(i:Int)<=62 by omega)];simp
def Pi{set:Int}{n:Nat}(h0:0<=set)(h1:set<2^n)(A:n<=63):(eJ set).length<=n:=by have h:=GG (TG h0 h1) (63-n);unfold eJ;rw[show 63=n+(63-n)by omega,h];exact nH set n
def Tb{x:Instance}{set:Int}{n:Nat}(h0:0<=set)(h1:set<2^n)(A:n<=63):tD x set<=2*n:=by have E:=Pi h0 h1 A;have F:=Dq x (eJ set);unfold tD;omega
def TN{α:Type}{o:Option α}{f:α->Prop}{a:α}(h:o=some a)(A:f a):bD o f:=by subst h;exact A
abbrev Dl(t:VType):Row:=⟨70,14,[bM t]⟩
end Sq
end Go.Proofs.YtkjdacijpeiphaaGreatDoor
