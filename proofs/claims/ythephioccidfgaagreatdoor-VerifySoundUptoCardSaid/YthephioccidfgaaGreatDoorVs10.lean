import Derived.Lib.ItoaMem
import Derived.Test.YthephioccidfgaaGreatDoorVs07
import Derived.Test.YthephioccidfgaaGreatDoorVs09
set_option linter.unusedSimpArgs false
set_option linter.unusedVariables false
set_option linter.defProp false
set_option maxRecDepth 100000
namespace Go.Proofs.YthephioccidfgaaGreatDoor
open Go.Aw Go.Aw.D Go.Proofs Ty
namespace Nu
open Go.Proofs.Tryz
open Go.Nu
def dU(s:ByteArray):ByteArray×ByteArray×Int:=if cO s=true then(kW s,kG s,0)else(emp,emp,3)
def ahE(s:ByteArray)(h:s.size<=1048576):PC prog 109 [str s] (.tup [str (dU s).1,str (dU s).2.1,int (dU s).2.2]):=by
 refine pcd func109 rfl rfl ?_;simp only[go_sem];refine aO (wQ s h) ?_;simp only[go_sem];unfold dU;refine aA (fun A=>?_) (fun A=>?_)
 ·rw[if_neg (by simpa using A)];simp only[go_sem];exact .refl _
 ·rw[if_pos (by simpa using A)];simp only[go_sem];refine aO (ER s h) ?_;simp only[go_sem];exact .refl _
def Af(s:ByteArray):ByteArray×Int:=
 if((dU s).2.2 != 0)=true then(emp,(dU s).2.2)
 else if((qZ (dU s).1 (dU s).2.1).2.2 != 0||(qZ (dU s).1 (dU s).2.1).2.1.toList == (⟨#[48]⟩:ByteArray).toList)=true then((qZ (dU s).1 (dU s).2.1).1,(qZ (dU s).1 (dU s).2.1).2.2)
 else JI (qZ (dU s).1 (dU s).2.1).1 ⟨#[49]⟩
def Ic(s:ByteArray)(h:s.size<=1048576):(dU s).1.size<=1048576/\(dU s).2.1.size<=1048576/\(qZ (dU s).1 (dU s).2.1).1.size<=1048576:=by
 unfold dU;split
 next E=>
  obtain⟨x,rfl,A,T,F⟩:=iJ E;have U:=x.den_pos;have O:=A.2;have J:dec x.den=zed (x.den:Int):=(gH x.den).symm;refine⟨Xal (GG _) h,?_,?_⟩
  ·show(kG (rE x)).size<=1048576;rw[F];exact fS A.2
  ·show(qZ (kW (rE x)) (kG (rE x))).1.size<=1048576;rw[T,F,J,FF A.1 (by omega) (by omega)];refine jC ?_;have h1:=A.1;have:(x.num.fdiv (x.den:Int)).natAbs<=x.num.natAbs:=by rw[Int.fdiv_eq_ediv_of_nonneg _ (by omega)];exact Int.natAbs_ediv_le_natAbs _ _
   show(x.num.fdiv (x.den:Int)).natAbs<dA;omega
 next E=>
  refine⟨by decide,by decide,?_⟩;show(qZ emp emp).1.size<=1048576;have:uA emp emp=3:=by unfold uA;rw[if_pos (by decide)]
  unfold qZ;rw[this];decide
def aAF(s:ByteArray)(h:s.size<=1048576):PC prog 75 [str s] (.tup [str (Af s).1,int (Af s).2]):=by
 obtain⟨h1,E,h3⟩:=Ic s h;have T:Af s=(if((dU s).2.2 != 0)=true then(emp,(dU s).2.2)
  else if((qZ (dU s).1 (dU s).2.1).2.2 != 0||(qZ (dU s).1 (dU s).2.1).2.1.toList == (⟨#[48]⟩:ByteArray).toList)=true then((qZ (dU s).1 (dU s).2.1).1,(qZ (dU s).1 (dU s).2.1).2.2)
  else JI (qZ (dU s).1 (dU s).2.1).1 ⟨#[49]⟩):=rfl
 have J:=ahE s h;have O:=KC (dU s).1 (dU s).2.1 h1 E;have F:=aqQ (qZ (dU s).1 (dU s).2.1).1 ⟨#[49]⟩ h3 (by decide);generalize qZ (dU s).1 (dU s).2.1=D at *;generalize dU s=p at *;generalize Af s=c at *;subst T;refine pcd func75 rfl rfl ?_;simp only[go_sem];refine aO J ?_;simp only[go_sem];refine aA (fun A=>?_) (fun A=>?_)
 ·rw[if_pos A];simp only[go_sem];exact .refl _
 rw[if_neg (by rw[A];simp)];simp only[go_sem];refine aO O ?_;simp only[go_sem];refine aA (fun A=>?_) (fun A=>?_)
 ·rw[if_pos A];simp only[go_sem];exact .refl _
 rw[if_neg (by rw[A];simp)];simp only[go_sem];refine aO F ?_;simp only[go_sem];exact .refl _
def avH{a b:Nat}(F:a<2^63)(E:b<2^63):sI .and .i64 (a:Int) (b:Int)=((a &&& b:Nat):Int):=by
 have h:((BitVec.ofInt 64 (a:Int) &&& BitVec.ofInt 64 (b:Int)).toNat:Int)=((a &&& b:Nat):Int):=by
  rw[BitVec.toNat_and,BitVec.toNat_ofInt,BitVec.toNat_ofInt];have h1:((a:Int)%((2^64:Nat):Int)).toNat=a:=by omega
  have A:((b:Int)%((2^64:Nat):Int)).toNat=b:=by omega
  rw[h1,A]
 refine Eq.trans (congrArg IntKind.i64.wrap h) ?_;have:=Nat.and_lt_two_pow a E;exact bD (by omega)
theorem vV{x:Int}{i:Nat}(h:i<=62):shV .shr .i64 x (i:Int)=x/2^i:=Sq.vV h
def cR(set i:Int):Bool:=decide (i>=0)&&decide (i<=62)&&((set/2^i.toNat)%2 == 1)
def yH(set i:Int):PC prog 100 [int set,int i] (boo (cR set i)):=Sq.yH set i
def qP(set:Int)(k:Nat):List Int:=((List.range k).filter fun i:Nat=>cR set (i:Int)).map fun i:Nat=>(i:Int)
def eY(set:Int):List Int:=qP set 63
def qD(set:Int)(k:Nat):qP set (k+1)=qP set k++(if cR set (k:Int)=true then[(k:Int)]else[]):=Sq.qD set k
theorem qY(set:Int)(k:Nat):(qP set k).length<=k:=Sq.qY set k
def DX(l:List Int):Row:=⟨3,1,l.map aQ⟩
def lL(set:Int):PC prog 66 [int set] (.sl ((eY set).map aQ)):=Sq.lL set
def sG:Nat->Nat->Nat
 | 0,_=>0
 | k+1,n=>n%2+sG k (n/2)
def Gr:∀(k n:Nat),sG (k+1) n=sG k n+(n/2^k)%2
 | 0,n=>by simp[sG]
 | k+1,n=>by rw[sG,Gr k (n/2),sG,Nat.div_div_eq_div_mul,show 2*2^k=2^(k+1)by rw[Nat.pow_succ,Nat.mul_comm]];omega
def Pz:∀k n:Nat,sG k n<=k
 | 0,_=>Xae 0
 | k+1,n=>by have:=Pz k (n/2);rw[sG];omega
def Tf(n:Nat):∀k:Nat,k<=63->(qP (n:Int) k).length=sG k n
 | 0,_=>rfl
 | k+1,hk=>by
  rw[qD,Xaf,Tf n k (by omega),Gr];have h:cR (n:Int) (k:Int)=decide ((n/2^k)%2=1):=by
   unfold cR;rw[show decide ((k:Int)>=0)=true by simp,show decide ((k:Int)<=62)=true by simp;omega,Xao,Xbc,Xbc];rw[Xar,Xay,decide_eq_true_iff];have:((n:Int)/2^k)=((n/2^k:Nat):Int):=by norm_cast
   rw[this];omega
  rw[h];by_cases A:(n/2^k)%2=1
  ·simp[A]
  ·have:(n/2^k)%2=0:=by omega
   simp[this]
def amZ(n:Nat):PC prog 57 [int n] (int (sG 63 n:Nat)):=by
 have O:=Tf n 63 (Xae _);have U:=Pz 63 n;refine pcd func57 rfl rfl ?_;simp only[go_sem];refine aO (lL n) ?_;simp only[go_sem,Xaa,eY,O];generalize sG 63 n=P at *;refine⟨fun ρ _=>∃k:Nat,k<=P/\ρ 3=int k/\ρ 6=int (P:Nat)/\ρ 7=int k,fun ρ _=>P-aU (ρ 7),⟨0,Xab _,by simp only[go_sem];rfl,rfl,by simp only[go_sem];rfl⟩,?_⟩;rintro ρ H ⟨k,T,h3,F,J⟩;simp only[go_sem,F,J];refine aA (fun E=>?_) (fun A=>?_)
 ·have E:=ltB E;simp only[go_sem,h3,F,J,aW k];exact⟨⟨k+1,E,rfl⟩,by simp only[aN];omega⟩
 ·have A:=geB T A;subst A;simp only[go_sem,h3];exact .refl _
def pZ(p:Int×Int):List AV:=[int p.1,int p.2]
def At(m:List (Int×Int))(o:Int):Option Nat:=m.findIdx? fun p=>p.1 == o
def sH(m:List (Int×Int))(o:Int):Int:=((m.find? fun p=>p.1 == o).map (·.2)).getD 0
def Dk(m:List (Int×Int))(o v:Int):List (Int×Int):=match At m o with
 | some i=>m.set i (o,v)
 | none=>m++[(o,v)]
abbrev uB(m:List (Int×Int)):Row:=⟨0,2,m.map pZ⟩
def zX(o:Int):∀(m:List (Int×Int)) (i:Nat),xY (wI prog 3 (int o)) (m.map pZ) i=some ((At m o).map (·+i))
 | [],i=>rfl
 | p::m,i=>by
  have ih:=zX o m (i+1);have E:wI prog 3 (int o) ((pZ p).getD 0 .any)=some (o == p.1):=by show wI prog 3 (int o) (int p.1)=_;unfold wI;simp only[kk3];simp[Al]
  rw[Xaq,xY,E];unfold At at *;rw[List.findIdx?_cons];by_cases h:o=p.1
  ·subst h;simp
  ·have h1:(o == p.1)=false:=by simpa using h
   have A:(p.1 == o)=false:=by simpa using fun e=>h e.symm
   rw[h1,A];simp only[Xbi,if_false];rw[ih];cases m.findIdx? (fun p=>p.1 == o)with
   | none=>rfl
   | some j=>simp;omega
def kY(o:Int)(m:List (Int×Int)):xY (wI prog 3 (int o)) (m.map pZ) 0=some (At m o):=by rw[zX];cases At m o <;> rfl
def mO(o:Int):rS prog 3 (int o)=true:=by simp only[rS,kk3];rfl
def Ab(m:List (Int×Int))(o:Int):Pi false (int 0) (m.map pZ) (At m o)=int (sH m o):=by
 unfold Pi sH At;induction m with
 | nil=>rfl
 | cons p m ih=>
  rw[List.findIdx?_cons,List.find?_cons];cases h:p.1 == o with
  | true=>simp[pZ]
  | false=>
   cases A:m.findIdx? (fun p=>p.1 == o)with
   | none=>rw[A]at ih;simpa using ih
   | some j=>rw[A]at ih;simp at ih |-;exact ih
def BG(m:List (Int×Int))(o v:Int):adC (m.map pZ) (At m o) (int o) (int v)=(Dk m o v).map pZ:=by
 unfold adC Dk;cases At m o with
 | none=>simp[pZ]
 | some i=>simp[List.map_set,pZ]
def Hy(k:Int):Nat:=if k=1 then 2 else if k=2 then 1 else 0
def MA(k:Int)(P:Nat):Bool:=decide (Hy k>0)&&decide (Hy k<=P)
def lS(k:Int)(n:Nat):Int:=if MA k (sG 63 n)=true then 1 else 0
def azI(k m:Int)(a b:Nat)(ha:a<2^63)(T:b<2^63):PC prog 101 [.agg [int k,int a,int m],int b] (int (lS k (a &&& b))):=by
 have hs:=amZ (a &&& b);have U:=Pz 63 (a &&& b);refine pcd func101 rfl rfl ?_;simp only[go_sem];refine aJ fun jm F=>?_
 generalize A:aH bY jm _=HM;have O:HM jm=some (uB []):=by rw[<-A,aB];rfl
 clear A F;simp only[go_sem];refine I4 O DF (mO _) (kY _ _) ?_;rw[BG];generalize A:aH HM jm _=HN;have J:HN jm=some (uB [(1,2)]):=by rw[<-A,aB];rfl
 clear A O;simp only[go_sem];refine I4 J DF (mO _) (kY _ _) ?_;rw[BG];generalize A:aH HN jm _=HO;have Ro:HO jm=some (uB [(1,2),(2,1)]):=by rw[<-A,aB];rfl
 clear A J;simp only[go_sem];refine Aj Ro DF (mO _) (kY _ _) zv3 ?_;rw[Ab];have X:sH [(1,2),(2,1)] k=(Hy k:Nat):=by
  unfold sH Hy;by_cases h1:k=1
  ·subst h1;rfl
  ·by_cases E:k=2
   ·subst E;rfl
   ·have Z:((1:Int) == k)=false:=by simpa using fun e=>h1 e.symm
    have e2:((2:Int) == k)=false:=by simpa using fun e=>E e.symm
    simp[List.find?,Z,e2,h1,E]
 rw[X];simp only[go_sem];rw[avH ha T];refine⟨_,fun _=>hs.q rfl,?_⟩;unfold lS;generalize sG 63 (a &&& b)=P at *;simp only[go_sem];have Y:(decide (((Hy k:Nat):Int)>0)&&decide ((P:Int)>=((Hy k:Nat):Int)))=MA k P:=by unfold MA;rw[Xar];simp
 rw[Y];refine aA (fun h=>?_) (fun h=>?_)
 ·simp only[go_sem];exact cI (by rw[if_pos h])
 ·simp only[go_sem];exact cI (by rw[if_neg (by rw[h];simp)])
end Nu
namespace Nu
open Go.Nu
def Gt(one:Cut)(cols:List Column):List Int:=cols.map fun c=>lS one.kind (one.set.toNat &&& c.set.toNat)
def Fi:∀(l:List (Int×ByteArray)) (t:ByteArray),cO t=true->(mV l t).2=0->cO (mV l t).1=true
 | [],t,h,_=>h
 | p::l,t,h,h0=>by
  unfold mV at h0 |-;split at h0
  ·next h1=>exact absurd h0 h1
  ·next h1=>
   rw[if_neg h1];split at h0
   ·next A=>exact absurd h0 A
   ·next A=>
    rw[if_neg A];exact Fi l _ (D0 (by simpa using A)) h0
def Um{ns:List Int}{xs:List ByteArray}(h:(gW ns xs).2=0):cO (gW ns xs).1=true:=by
 unfold gW at h |-;split at h
 ·cases h
 ·next h1=>
  rw[if_neg h1];split at h
  ·cases h
  ·next A=>rw[if_neg A];exact Fi _ _ Jo h
end Nu
section
theorem fU{α:Type}{b:Bool}{f:α}(h:opt b f=[]):b=false:=by cases b <;> simp[opt]at h |-
def iM{n a b:Int}:inR n a b=true↔a<=n/\n<=b:=by unfold inR;simp only[Xah,decide_eq_true_eq]
def pY{b:Bool}(h:(!b)=false):b=true:=by simpa using h
structure TypeB(t:VType)(d:Int):Prop where
 cap:Dj t.cap d=true
 skills:0<=t.skills/\t.skills<=1073741823
 start:0<=t.start/\t.start<=t.close
 close:t.close<=4096
 drive:1<=t.drive/\t.drive<=4096
 rest:0<=t.rest/\t.rest<=4096
 count:0<=t.count/\t.count<=10
def ahJ{n:Network}{l:List VType}{k:Nat}{t:VType}(h:nT n l k t=[]):TypeB t (gX l):=by
 unfold nT at h;simp only[Xbn,Xbe]at h;obtain⟨⟨⟨⟨⟨⟨⟨⟨_,_⟩,h3⟩,_⟩,U⟩,F⟩,O⟩,Z⟩,h9⟩:=h;have T:=iM.1 (pY (fU h3));have X:=pY (fU U);have Y:=iM.1 (pY (fU F));have E:=Xam.1 (fU O);have A:=Xam.1 (fU Z);have q7:=iM.1 (pY E.1);have J:¬t.close>4096:=by simpa using E.2
 exact⟨X,Y,q7,by omega,iM.1 (pY A.1),iM.1 (pY A.2),T⟩
structure OrdB(o:Order)(d:Int):Prop where
 load:gV o.load d=true
 pick: -1<=o.pick.place
 drop: -1<=o.drop.place
 both:(o.pick.place == -1&&o.drop.place == -1)=false
 wpick:jM o.pick=0
 wdrop:jM o.drop=0
 skills:0<=o.skills/\o.skills<=1073741823
 penalty: -1<=o.penalty/\o.penalty<=1000000
def atE{P:Nat}{d T:Int}{l:List Order}{k:Nat}{o:Order}(h:lI P d T l k o=[]):OrdB o d:=by unfold lI at h;simp only[Xbn,Xbe]at h;obtain⟨⟨⟨⟨⟨⟨⟨_,_⟩,h3⟩,Y⟩,U⟩,J⟩,O⟩,X⟩:=h;have F:=Xam.1 (fU Y);have A:=Xam.1 (fU J);have E:=fU X;simp only[Xam]at E;refine⟨pY (fU h3),(iM.1 (pY F.1)).1,(iM.1 (pY F.2)).1,fU U,by simpa using A.1,by simpa using A.2,iM.1 (pY (fU O)),iM.1 (pY E.1.1.1.1.1.1)⟩
structure ArcOk(a:Arc):Prop where
 travel:jY a.travel=[]
 slow:a.slow.length<=16
 pt:∀p∈a.slow,(0<=p.t/\p.t<=4096)/\0<=p.a/\p.a<=4096
def aoY{n:Network}{k:Nat}{a:Arc}(U:n.arcs[k]?=some a)(h:IJ n k=[]):ArcOk a:=by
 unfold IJ at h;rw[yZ U]at h;simp only[Xbn,Xbe,Xbx]at h;obtain⟨⟨⟨_,T⟩,J⟩,F⟩:=h;have X:¬(a.slow.length:Int)>16:=by simpa using fU J
 refine⟨T,by omega,fun p O=>?_⟩;obtain⟨i,E,rfl⟩:=List.getElem_of_mem O;have:=Xcd.1 F i (Xai.2 E);have A:=fU this;unfold qW at A;rw[fG (List.getElem?_eq_getElem E)]at A;simp only[Xam]at A;exact⟨iM.1 (pY A.1.1),iM.1 (pY A.1.2)⟩
structure PairB(N:Int)(q:Pair):Prop where
 a:0<=q.a/\q.a<N
 b:0<=q.b/\q.b<N
 ne:q.a≠q.b
def Ug{N:Int}{l:List Pair}{w:ByteArray}{s:Bool}(h:yV N l w s=[]):l.length<=16/\∀q∈l,PairB N q:=by
 unfold yV at h;rw[Xbe]at h;have O:¬(l.length:Int)>16:=by simpa using fU h.1
 refine⟨by omega,fun q J=>?_⟩;obtain⟨i,E,rfl⟩:=List.getElem_of_mem J;have:=Xcd.1 h.2 i (Xai.2 E);unfold iB at this;have F:pAt l i=l[i]:=by simp[pAt,List.getD,E]
 rw[F]at this;split at this
 ·simp at this
 ·rename_i A;unfold Go.Proofs.YthephioccidfgaaGreatDoor.rR at A;simp only[Xam,decide_eq_false_iff_not]at A;exact⟨by omega,by omega,by simpa using A.2⟩
structure Acc(x:Instance):Prop where
 arcs:x.net.arcs.length<=1024
 arc:∀a∈x.net.arcs,ArcOk a
 types:1<=x.types.length/\x.types.length<=6
 type:∀t∈x.types,TypeB t (gX x.types)
 orders:x.orders.length<=10
 order:∀o∈x.orders,OrdB o (gX x.types)
 apart:x.apart.length<=16
 apartB:∀q∈x.apart,PairB x.orders.length q
 before:x.before.length<=16
 beforeB:∀q∈x.before,PairB x.orders.length q
def GY{x:Instance}(h:kZ x=[]):Acc x:=by
 unfold kZ at h;simp only[Xbe,Xbx]at h;obtain⟨⟨⟨O,E⟩,J⟩,F⟩:=h;unfold Ks at O;simp only[Xbe]at O;unfold vR at E;rw[Xbe]at E;unfold tE at J;rw[Xbe]at J;unfold FV at F;rw[Xbe]at F;obtain⟨Z,r2⟩:=Ug F.1;obtain⟨X,Y⟩:=Ug F.2;have e1:¬(x.net.arcs.length:Int)>1024:=by simpa using fU O.1.2
 have e2:=iM.1 (pY (fU E.1));have e3:¬(x.orders.length:Int)>10:=by simpa using fU J.1
 refine⟨by omega,fun a ha=>?_,by omega,fun t T=>?_,by omega,fun o U=>?_,Z,r2,X,Y⟩
 ·obtain⟨i,A,rfl⟩:=List.getElem_of_mem ha;exact aoY (List.getElem?_eq_getElem A) (Xcd.1 O.2 i (Xai.2 A))
 ·obtain⟨i,A,rfl⟩:=List.getElem_of_mem T;have:=Xcd.1 E.2 i (Xai.2 A);unfold iU at this;rw[Xbx,KV (List.getElem?_eq_getElem A)]at this;exact ahJ this
 ·obtain⟨i,A,rfl⟩:=List.getElem_of_mem U;have:=Xcd.1 J.2 i (Xai.2 A);unfold gQ at this;rw[Xbx,Lb (List.getElem?_eq_getElem A)]at this;exact atE this
def XI{l:List Int}{d:Int}(h:gV l d=true):(l.length:Int)=d/\∀n∈l,0<=n/\n<=1000:=by
 unfold gV at h;split at h
 ·rename_i A;refine⟨A,fun n E=>?_⟩;have:=Xaj.1 h n E;simp only[Xau,Xam,decide_eq_false_iff_not]at this;omega
 ·cases h
def arJ{l:List Int}{d:Int}(h:Dj l d=true):(l.length:Int)=d/\1<=d/\d<=3:=by
 unfold Dj at h;split at h
 ·cases h
 ·rename_i A;simp only[Xbu,Xam]at A;have h1:=iM.1 (pY A.1);have E:(l.length:Int)=d:=by simpa[bne]using A.2
  omega
end
namespace Nu
open Go.Proofs.Tryz
open Go.Nu
def xV(p:Nat->Bool):Nat->Nat
 | 0=>0
 | k+1=>xV p k+(if p k=true then 2^k else 0)
def Fe(p:Nat->Bool):∀k,xV p k<2^k
 | 0=>by simp[xV]
 | k+1=>by have:=Fe p k;rw[xV,Nat.pow_succ];split <;> omega
def wP(p:Nat->Bool):∀k i,(xV p k).testBit i=(decide (i<k)&&p i)
 | 0,i=>by simp[xV]
 | k+1,i=>by
  have A:=Fe p k;have ih:=wP p k i;rw[xV];have E:xV p k+(if p k=true then 2^k else 0)=xV p k ||| (if p k=true then 2^k else 0):=by
   split
   ·rw[Nat.add_comm,Nat.or_comm];have:=Nat.two_pow_add_eq_or_of_lt A 1;simpa using this
   ·simp
  rw[E,Nat.testBit_or,ih];by_cases h:p k=true
  ·rw[if_pos h,Nat.testBit_two_pow];by_cases e:k=i
   ·subst e;simp[h]
   ·have:(decide (i<k+1))=decide (i<k):=by rw[Xar];simp;omega
    rw[this];simp[e]
  ·rw[if_neg h];by_cases e:k=i
   ·subst e;simp[h]
   ·have:(decide (i<k+1))=decide (i<k):=by rw[Xar];simp;omega
    rw[this];simp
def aAM{a k:Nat}(h:a<2^k):a ||| 2^k=a+2^k:=by rw[Nat.or_comm,Nat.add_comm];have:=Nat.two_pow_add_eq_or_of_lt h 1;simpa using this.symm
def B8{a b:Nat}(F:a<2^63)(E:b<2^63):sI .or .i64 (a:Int) (b:Int)=((a ||| b:Nat):Int):=by
 have h:((BitVec.ofInt 64 (a:Int) ||| BitVec.ofInt 64 (b:Int)).toNat:Int)=((a ||| b:Nat):Int):=by
  rw[BitVec.toNat_or,BitVec.toNat_ofInt,BitVec.toNat_ofInt];have h1:((a:Int)%((2^64:Nat):Int)).toNat=a:=by omega
  have A:((b:Int)%((2^64:Nat):Int)).toNat=b:=by omega
  rw[h1,A]
 refine Eq.trans (congrArg IntKind.i64.wrap h) ?_;have:=Xcc F E;exact bD (by omega)
theorem Lc{i:Nat}(h:i<=62):shV .shl .i64 1 (i:Int)=((2^i:Nat):Int):=by
 show IntKind.i64.wrap (1*2^min ((i:Int)).toNat 64)=_;have:min ((i:Int)).toNat 64=i:=by omega
 rw[this,Int.one_mul];have A:(2:Nat)^i<=2^62:=Xas (by decide) h;have h3:((2:Int)^i)=((2^i:Nat):Int):=by norm_cast
 rw[h3];generalize 2^i=m at A;exact bD (by omega)
theorem jD{s:Nat}{i:Nat}(h1:i<=62):cR (s:Int) (i:Int)=s.testBit i:=by
 rw[Xcm];unfold cR;have h3:((2:Int)^i)=((2^i:Nat):Int):=by norm_cast
 rw[Xao,h3];have:((s:Int)/((2^i:Nat):Int))=((s/2^i:Nat):Int):=rfl;rw[this];generalize s/2^i=m;rw[Xar];simp only[Xay,decide_eq_true_eq,Xah];omega
def J1{a b:Nat}(ha:a<2^63)(Z:b<2^63):(sI .andNot .i64 (a:Int) (b:Int) == 0)=decide (a &&& b=a):=by
 have e:sI .andNot .i64 (a:Int) (b:Int)=((a-(a &&& b):Nat):Int):=by
  have h1:((a:Int)%((2^64:Nat):Int)).toNat=a:=by omega
  have O:((b:Int)%((2^64:Nat):Int)).toNat=b:=by omega
  have h:((BitVec.ofInt 64 (a:Int) &&& ~~~(BitVec.ofInt 64 (b:Int))).toNat:Int)=((a-(a &&& b):Nat):Int):=by
   have E:a &&& b<=a:=Nat.and_le_left;have Y:BitVec.ofInt 64 (a:Int) &&& ~~~(BitVec.ofInt 64 (b:Int))=BitVec.ofNat 64 (a-(a &&& b)):=by
    have h3:BitVec.ofInt 64 (a:Int)=BitVec.ofNat 64 a:=by apply BitVec.eq_of_toNat_eq;rw[BitVec.toNat_ofInt,BitVec.toNat_ofNat,h1,Xbf (by omega)]
    have T:BitVec.ofInt 64 (b:Int)=BitVec.ofNat 64 b:=by apply BitVec.eq_of_toNat_eq;rw[BitVec.toNat_ofInt,BitVec.toNat_ofNat,O,Xbf (by omega)]
    rw[h3,T];have X:(BitVec.ofNat 64 a &&& ~~~BitVec.ofNat 64 b) &&& BitVec.ofNat 64 (a &&& b)=0#64:=by apply BitVec.eq_of_getLsbD_eq;intro i A;simp only[BitVec.getLsbD_and,BitVec.getLsbD_not,BitVec.getLsbD_ofNat,Nat.testBit_and,A,decide_true,Xbc];cases a.testBit i <;> cases b.testBit i <;> simp
    have J:(BitVec.ofNat 64 a &&& ~~~BitVec.ofNat 64 b) ||| BitVec.ofNat 64 (a &&& b)=BitVec.ofNat 64 a:=by apply BitVec.eq_of_getLsbD_eq;intro i A;simp only[BitVec.getLsbD_or,BitVec.getLsbD_and,BitVec.getLsbD_not,BitVec.getLsbD_ofNat,Nat.testBit_and,A,decide_true,Xbc];cases a.testBit i <;> cases b.testBit i <;> rfl
    have U:=congrArg BitVec.toNat ((BitVec.add_eq_or_of_and_eq_zero _ _ X).trans J);rw[BitVec.toNat_add,BitVec.toNat_ofNat,BitVec.toNat_ofNat,Xbf (by omega:a<2^64),Xbf (by omega:a &&& b<2^64)]at U;apply BitVec.eq_of_toNat_eq;rw[BitVec.toNat_ofNat,Xbf (by omega)];have hl:=(BitVec.ofNat 64 a &&& ~~~BitVec.ofNat 64 b).isLt;have F:(BitVec.ofNat 64 a &&& ~~~BitVec.ofNat 64 b).toNat<=a:=by rw[BitVec.toNat_and,BitVec.toNat_ofNat,Xbf (by omega:a<2^64)];exact Nat.and_le_left
    omega
   rw[Y,BitVec.toNat_ofNat,Xbf (by omega)]
  refine Eq.trans (congrArg IntKind.i64.wrap h) ?_;exact bD (by omega)
 rw[e,Xar];have E:a &&& b<=a:=Nat.and_le_left;simp only[Xay,decide_eq_true_eq];omega
def aeZ(a b:Nat)(E:a<2^63)(A:b<2^63):PC prog 93 [int a,int b] (boo (decide (a &&& b=a))):=by refine pcd func93 rfl rfl ?_;simp only[go_sem];exact cB (J1 E A)
def wG(q:Order->Bool)(l:List Order)(i:Nat):Bool:=match l[i]? with|some o=> !o.off&&q o|none=>false
theorem Cp{q:Order->Bool}{l:List Order}{i:Nat}{o:Order}(h:l[i]?=some o):wG q l i=(!o.off&&q o):=by unfold wG;rw[h]
def Ms(q:Order->Bool)(l:List Order):Nat:=xV (wG q l) l.length
def akX{g:Nat}{q:Order->Bool}(x:Instance)(hx:x.orders.length<=62)(U:aF prog g=true)(hg:∀o∈x.orders,PC prog g [.agg (aY o)] (boo (q o))):
  PC prog 103 [.agg (aE x),.v (.func (.func g) #[] #[])] (int (Ms q x.orders:Nat)):=by
 refine pcd func103 rfl rfl ?_;simp only[go_sem];unfold Ms;generalize hp:wG q x.orders=p;refine⟨fun ρ H=>∃(k:Nat),k<=x.orders.length/\ρ 1=.v (.func (.func g) #[] #[])/\ρ 9=.sl (x.orders.map aY)/\ρ 10=int (x.orders.length:Nat)/\ρ 11=int k/\ρ 5=int (xV p k:Nat),fun ρ _=>x.orders.length-aU (ρ 11),⟨0,Xab _,rfl,rfl,by simp only[go_sem],(by simp only[go_sem];rfl),by simp only[go_sem];rfl⟩,?_⟩;rintro ρ H ⟨k,hk,Z,X,F,E,e5⟩;simp only[go_sem,F,E];refine aA (fun A=>?_) (fun J=>?_)
 ·have A:=ltB A;obtain⟨o,Y⟩:=aI A;have b1:=inB A;have O:p k=(!o.off&&q o):=by rw[<-hp];exact Cp Y
  have aa:=Fe p k;have ab:2^k<=2^62:=Xas (by decide) (by omega);simp only[go_sem,X,E,aC Y,b1];refine aJ fun j hj=>?_
  simp only[go_sem,];refine aM (aB _ _ _) (by simp[aY]) ?_;simp only[go_sem,Z,U];refine⟨_,fun _=>(hg o (Xac Y)).q rfl,?_⟩;simp only[go_sem,];refine aA (fun T=>?_) (fun T=>?_)
  ·have q1:=Lc (i:=k) (by omega);have q2:=B8 (a:=xV p k) (b:=2^k) (by omega) (by omega);simp only[go_sem,Z,X,F,E,e5,q1,q2,aW k];refine⟨by omega,⟨k+1,A,rfl,?_⟩,by simp only[aN];omega⟩;rw[aAM aa,xV,O,if_pos T]
  ·simp only[go_sem,Z,X,F,E,e5,aW k];refine⟨⟨k+1,A,rfl,?_⟩,by simp only[aN];omega⟩;rw[xV,O,if_neg (by rw[T];simp),Nat.add_zero]
 ·have J:=geB hk J;subst J;simp only[go_sem,e5];exact .refl _
def Ld(x:Instance):Nat:=Ms (fun _=>true) x.orders
def Bq(x:Instance):Nat:=Ms (fun o=>o.penalty == -1) x.orders
def aAQ(o:Order):PC prog 104 [.agg (aY o)] (boo true):=by refine pcd func104 rfl rfl ?_;simp only[go_sem];exact .refl _
def avK(o:Order):PC prog 134 [.agg (aY o)] (boo (o.penalty == -1)):=by refine pcd func134 rfl rfl ?_;simp only[go_sem];exact .refl _
def S4(x:Instance)(A:x.orders.length<=62):PC prog 67 [.agg (aE x)] (int (Ld x:Nat)):=by refine pcd func67 rfl rfl ?_;simp only[go_sem];refine aO (akX x A (by kernel_rfl) fun o _=>aAQ o) ?_;simp only[go_sem];exact .refl _
def ahV(x:Instance)(A:x.orders.length<=62):PC prog 94 [.agg (aE x)] (int (Bq x:Nat)):=by refine pcd func94 rfl rfl ?_;simp only[go_sem];refine aO (akX x A (by kernel_rfl) fun o _=>avK o) ?_;simp only[go_sem];exact .refl _
def wM(n:Nat)(set:Int):Bool:=decide (set>=0)&&(set/2^n == 0)
def Ou(x:Instance)(set:Int)(A:x.orders.length<=62):PC prog 56 [.agg (aE x),int set] (boo (wM x.orders.length set)):=by refine pcd func56 rfl rfl ?_;simp only[go_sem];refine⟨by omega,?_⟩;refine cB ?_;rw[vV A];rfl
def PD{g:Nat}{cap:List AV}{p:Int->Bool}(l:List Int)(hl:l.length<=1048576)(T:aF prog g=true)(hg:∀v∈l,PC prog g (int v::cap) (boo (p v))):
  ∃n:Int,decide (n>=0)=l.any p/\PC prog 179 [.sl (l.map aQ),.fn g cap] (int n):=by
 refine⟨match l.findIdx? p with|some i=>(i:Int)|none=> -1,?_,?_⟩
 ·cases h:l.findIdx? p with
  | none=>have:=List.findIdx?_eq_none_iff.1 h;simp only;rw[Xap.2 (fun x hx=>by rw[this x hx];simp)];rfl
  | some i=>obtain⟨hi,hp,_⟩:=List.findIdx?_eq_some_iff_getElem.1 h;simp only;rw[Xak.2 ⟨l[i],List.getElem_mem hi,hp⟩];simp
 ·
  refine pcd func179 rfl rfl ?_;simp only[go_sem];refine⟨fun ρ H=>∃(k:Nat),k<=l.length/\ρ 0=.sl (l.map aQ)/\ρ 1=.fn g cap/\ρ 7=int (l.length:Nat)/\ρ 8=int k/\(∀u∈l.take k,p u=false),fun ρ _=>l.length-aU (ρ 8),⟨0,Xab _,rfl,rfl,by simp only[go_sem],(by simp only[go_sem];rfl),by simp⟩,?_⟩;rintro ρ H ⟨k,hk,Y,Z,e7,U,F⟩;simp only[go_sem,e7,U];refine aA (fun A=>?_) (fun E=>?_)
  ·have A:=ltB A;obtain⟨u,J⟩:=aI A;have b1:=inB A;simp only[go_sem,Y,Z,U,aC J,b1,T];refine aO (hg u (Xac J)) ?_;simp only[go_sem,];refine aA (fun O=>?_) (fun O=>?_)
   ·simp only[go_sem,];have:l.findIdx? p=some k:=by
     have X:k<l.length:=A;refine List.findIdx?_eq_some_iff_getElem.2 ⟨X,?_,fun j hj=>?_⟩
     ·have:=(List.getElem?_eq_some_iff.1 J).2;rw[this];exact O
     ·have:=F l[j] (List.mem_take_iff_getElem.2 ⟨j,by omega,rfl⟩);rw[this];simp
    rw[this];exact .refl _
   ·simp only[go_sem,Y,Z,e7,U,aW k];exact⟨⟨k+1,A,rfl,gP (p:=fun u=>p u=false) J O F⟩,by simp only[aN];omega⟩
  ·have E:=geB hk E;subst E;rw[Xad]at F;simp only[go_sem];rw[List.findIdx?_eq_none_iff.2 F];exact .refl _
def IC{g:Nat}{cap:List AV}{p:Int->Bool}(l:List Int)(F:l.length<=1048576)(A:aF prog g=true)(J:∀v∈l,PC prog g (int v::cap) (boo (p v))):
  PC prog 136 [.sl (l.map aQ),.fn g cap] (boo (l.any p)):=by
 obtain⟨n,O,E⟩:=PD l F A J;refine pcd func136 rfl rfl ?_;simp only[go_sem];refine aO E ?_;simp only[go_sem];exact cB O
def uR(l:List Order)(i:Int):Order:=l.getD i.toNat ⟨ByteArray.empty,[],⟨0,0,0,0⟩,⟨0,0,0,0⟩,0,0,0,0,0,false⟩
def gS{l:List Order}{i:Nat}{o:Order}(h:l[i]?=some o):uR l (i:Int)=o:=by simp[uR,List.getD,h]
def WY(l:List Order)(ms:List Int):Prop:=∀i∈ms,0<=i/\i<(l.length:Int)
def OT(x:Instance)(g:Nat)(q:Order->Int)(i:Int)(O:0<=i/\i<(x.orders.length:Int))(E:aF prog g=true)(T:∀o,PC prog g [.agg (aY o)] (int (q o))):
  PC prog 137 [int i,.rp [.v (.func (.func g) #[] #[])] 0,.rp (aE x) 0] (boo (decide (q (uR x.orders i)>=0))):=by
 obtain⟨n,rfl⟩:=Int.eq_ofNat_of_zero_le O.1;have A:n<x.orders.length:=by omega
 obtain⟨o,F⟩:=aI A;have J:=inB A;rw[gS F];refine pcd func137 rfl rfl ?_;simp only[go_sem];refine mC (by rfl) (by kernel_rfl) ?_;simp only[go_sem,aC F,J,E];refine⟨_,(T o).q rfl,?_⟩;simp only[go_sem];exact .refl _
def QX(o:Order):PC prog 138 [.agg (aY o)] (int o.pick.place):=by refine pcd func138 rfl rfl ?_;simp only[go_sem];exact .refl _
def TI(o:Order):PC prog 139 [.agg (aY o)] (int o.drop.place):=by refine pcd func139 rfl rfl ?_;simp only[go_sem];exact .refl _
def Hw(x:Instance)(g:Nat)(q:Order->Int)(ms:List Int)(E:WY x.orders ms)(F:ms.length<=1048576)(A:aF prog g=true)(O:∀o,PC prog g [.agg (aY o)] (int (q o))):
  PC prog 135 [.v (.func (.func g) #[] #[]),.rp [.sl (ms.map aQ)] 0,.rp (aE x) 0] (boo (!(ms.any fun i=>decide (q (uR x.orders i)>=0)))):=by
 refine pcd func135 rfl rfl ?_;simp only[go_sem];refine aO (IC (p:=fun i=>decide (q (uR x.orders i)>=0)) ms F (by kernel_rfl) (fun i J=>OT x g q i (E i J) A O)) ?_;simp only[go_sem];exact .refl _
def WB(x:Instance)(ms:List Int):Bool:= !(ms.any fun i=>decide ((uR x.orders i).pick.place>=0))|| !(ms.any fun i=>decide ((uR x.orders i).drop.place>=0))
def Wu(x:Instance)(ms:List Int)(A:WY x.orders ms)(E:ms.length<=1048576):PC prog 95 [.agg (aE x),.sl (ms.map aQ)] (boo (WB x ms)):=by refine pcd func95 rfl rfl ?_;simp only[go_sem];refine aO (Hw x _ (fun o=>o.pick.place) ms A E (by kernel_rfl) QX) ?_;simp only[go_sem];refine⟨_,fun _=>(Hw x _ (fun o=>o.drop.place) ms A E (by kernel_rfl) TI).q rfl,?_⟩;simp only[go_sem];exact .refl _
def rI:List Int->List Int->Int->Int×Int
 | n::a,c::l,t=>if n<=0 then rI a l t else if c=0 then(0,24)else rI a l (eF t ((n+c-1).tdiv c))
 | _,_,t=>(t,0)
def yS(a c:List Int):Int×Int:=if a.length≠c.length then(0,2)else if c.any (fun n=>decide (n<0))=true then(0,2)else rI a c 0
def Mid(n:Int):Prop:= -1099511627776<=n/\n<=1099511627776
def akI(a c:List Int)(hl:a.length<=1048576)(af:c.length<=1048576)(ha:∀n∈a,Mid n)(hc:∀n∈c,Mid n):
  PC prog 140 [.sl (a.map aQ),.sl (c.map aQ)] (.tup [int (yS a c).1,int (yS a c).2]):=by
 refine pcd func140 rfl rfl ?_;simp only[go_sem];refine aA (fun Z=>?_) (fun Z=>?_)
 ·have Z:a.length≠c.length:=neN Z;simp only[go_sem];rw[show yS a c=(0,2)from if_pos Z];exact .refl _
 have Z:a.length=c.length:=eqN Z;have e0:yS a c=if c.any (fun n=>decide (n<0))=true then(0,2)else rI a c 0:=if_neg (by simp[Z])
 rw[e0];simp only[go_sem,Xaa];refine⟨fun ρ H=>∃(k:Nat),k<=c.length/\ρ 0=.sl (a.map aQ)/\ρ 1=.sl (c.map aQ)/\ρ 17=.sl (c.map aQ)/\ρ 18=int (c.length:Nat)/\ρ 19=int k/\(∀n∈c.take k,0<=n),fun ρ _=>c.length-aU (ρ 19),⟨0,Xab _,rfl,rfl,rfl,rfl,(by simp only[go_sem];rfl),by simp⟩,?_⟩;rintro ρ H ⟨k,hk,e0,e1,ab,aa,U,hz⟩;simp only[go_sem,aa,U];refine aA (fun A=>?_) (fun E=>?_)
 ·have A:=ltB A;obtain⟨n,T⟩:=aI A;have b1:=inB A;simp only[go_sem,ab,U,aC T,b1];refine aA (fun J=>?_) (fun J=>?_)
  ·simp only[go_sem];rw[if_pos (ZV T J)];exact .refl _
  ·simp only[go_sem,e0,e1,ab,aa,U,aW k];exact⟨⟨k+1,A,rfl,gP T (by simpa using J) hz⟩,by simp only[aN];omega⟩
 have E:=geB hk E;subst E;rw[Xad]at hz;rw[if_neg (by rw[Fa fun n T=>by simpa using hz n T];simp)];simp only[go_sem,e0,Xaa];refine⟨fun ρ H=>∃(k:Nat) (t:Int),k<=a.length/\ρ 1=.sl (c.map aQ)/\ρ 26=.sl (a.map aQ)/\ρ 27=int (a.length:Nat)/\ρ 28=int k/\ρ 8=int t/\rI a c 0=rI (a.drop k) (c.drop k) t,fun ρ _=>a.length-aU (ρ 28),⟨0,0,Xab _,by simp only[go_sem,e1,],by simp only[go_sem,],by simp only[go_sem,],(by simp only[go_sem,];rfl),rfl,rfl⟩,?_⟩;rintro ρ H ⟨k,t,hk,e1,X,Y,F,e8,O⟩;simp only[go_sem,Y,F];refine aA (fun A=>?_) (fun E=>?_)
 ·have A:=ltB A;obtain⟨n,T⟩:=aI A;obtain⟨m,hm⟩:=aI (l:=c) (k:=k) (by omega);have b1:=inB A;have b2:=inB (show k<c.length by omega);have ae:=ha n (Xac T);have ac:=hc m (Xac hm);have ag:=hz m (Xac hm);unfold Mid at ae ac;rw[QC T,QC hm,rI]at O;simp only[go_sem,e1,X,F,aC T,aC hm,b1,b2];refine aA (fun J=>?_) (fun J=>?_)
  ·rw[if_pos (by simpa using J)]at O;simp only[go_sem,e1,X,Y,F,e8,aW k];exact⟨⟨k+1,t,A,rfl,rfl,O⟩,by simp only[aN];omega⟩
  have J:¬n<=0:=by simpa using J
  rw[if_neg J]at O;simp only[go_sem,];refine aA (fun h0=>?_) (fun h0=>?_)
  ·rw[if_pos (by simpa using h0)]at O;rw[O];simp only[go_sem];exact .refl _
  have h0:m≠0:=by simpa using h0
  rw[if_neg h0]at O;have w1:IntKind.i64.wrap (n+m)=n+m:=bD (by omega);have w2:IntKind.i64.wrap (n+m-1)=n+m-1:=bD (by omega);have w3:IntKind.i64.wrap ((n+m-1).tdiv m)=(n+m-1).tdiv m:=bD (by have h1:=Int.tdiv_nonneg (a:=n+m-1) (b:=m) (by omega) (by omega);have h2:=Int.tdiv_le_self m (a:=n+m-1) (by omega);omega);simp only[go_sem,e1,X,Y,F,e8,w1,w2,w3,aW k];exact⟨h0,⟨k+1,_,A,rfl,rfl,O⟩,by simp only[aN];omega⟩
 ·have E:=geB hk E;subst E;have ea:a.drop a.length=[]:=Xca;have:rI a c 0=(t,0):=by rw[O,ea];unfold rI;rfl
  rw[this];simp only[go_sem,e8];exact .refl _
def Am(l:List Order)(dim:Nat)(i:Int):Int:=(uR l i).load.getD dim 0
def gO(l:List Order)(ms:List Int)(dim:Nat):Int:=(ms.map (Am l dim)).sum
def kD(l:List VType)(dim:Nat):Int:=l.foldl (fun c t=>eF c (t.cap.getD dim 0)) 0
def uD(x:Instance)(ms:List Int)(dim:Nat):Int:=if(yS [gO x.orders ms dim] [kD x.types dim]).2≠0 then 0 else(yS [gO x.orders ms dim] [kD x.types dim]).1
structure LoadsOk(x:Instance)(d:Nat):Prop where
 dims:d<=3
 orders:x.orders.length<=62
 types:x.types.length<=1048576
 load:∀o∈x.orders,o.load.length=d/\∀n∈o.load,0<=n/\n<=1000
 cap:∀t∈x.types,t.cap.length=d/\∀n∈t.cap,0<=n/\n<=1000
def GL{x:Instance}{d dim:Nat}(h:LoadsOk x d)(O:dim<d){i:Int}(J:0<=i/\i<(x.orders.length:Int)):0<=Am x.orders dim i/\Am x.orders dim i<=1000:=by obtain⟨n,rfl⟩:=Int.eq_ofNat_of_zero_le J.1;obtain⟨o,E⟩:=aI (show n<x.orders.length by omega);unfold Am;rw[gS E];obtain⟨h1,F⟩:=h.load o (Xac E);obtain⟨v,A⟩:=aI (show dim<o.load.length by omega);rw[List.getD,A];exact F v (Xac A)
def wZ{x:Instance}{d dim:Nat}(h:LoadsOk x d)(A:dim<d):∀{ms:List Int},WY x.orders ms->0<=gO x.orders ms dim/\gO x.orders ms dim<=1000*ms.length
 | [],_=>by simp[gO]
 | i::ms,hm=>by
  have h1:=GL h A (hm i (by simp));have E:=wZ h A (ms:=ms) fun j F=>hm j (by simp[F])
  unfold gO at E |-;rw[Xaq,List.sum_cons,Xag];omega
def Ey(l:List Order)(ms:List Int)(i:Int)(dim:Nat):gO l (ms++[i]) dim=gO l ms dim+Am l dim i:=by simp[gO]
def HA(l:List VType)(t:VType)(dim:Nat):kD (l++[t]) dim=eF (kD l dim) (t.cap.getD dim 0):=by simp[kD]
def asR{a b c:Int}(h1:0<=a/\a<=c)(A:0<=b/\b<=c):0<=eF a b/\eF a b<=c:=by unfold eF;split <;> omega
def De{x:Instance}{d dim:Nat}(h:LoadsOk x d)(O:dim<d):∀k,0<=kD (x.types.take k) dim/\kD (x.types.take k) dim<=1000
 | 0=>by simp[kD]
 | k+1=>by
  have ih:=De h O k;rcases Xcb k x.types.length with F|F
  ·obtain⟨t,A⟩:=aI F;rw[aZ A,HA];obtain⟨h1,J⟩:=h.cap t (Xac A);obtain⟨v,E⟩:=aI (show dim<t.cap.length by omega);refine asR ih ?_;rw[List.getD,E];exact J v (Xac E)
  ·rw[Xbb (by omega)]at ih |-;exact ih
def avQ(x:Instance)(ms:List Int)(dim d:Nat)(h:LoadsOk x d)(hd:dim<d)(hm:WY x.orders ms)(hl:ms.length<=63):
  PC prog 96 [.agg (aE x),.sl (ms.map aQ),int dim] (int (uD x ms dim)):=by
 have al:=h.orders;have am:=h.types;refine pcd func96 rfl rfl ?_;simp only[go_sem];refine⟨fun ρ H=>∃(k:Nat),k<=ms.length/\ρ 2=int dim/\ρ 3=.rp (aE x) 0/\ρ 8=int 0/\ρ 15=.sl (ms.map aQ)/\ρ 16=int (ms.length:Nat)/\ρ 17=int k/\ρ 7=int (gO x.orders (ms.take k) dim),fun ρ _=>ms.length-aU (ρ 17),⟨0,Xab _,rfl,rfl,rfl,rfl,rfl,(by simp only[go_sem];rfl),by simp only[go_sem];rfl⟩,?_⟩;rintro ρ H ⟨k,hk,e2,e3,U,ak,aa,ae,O⟩;simp only[go_sem,aa,ae];refine aA (fun A=>?_) (fun E=>?_)
 ·have A:=ltB A;obtain⟨i,hi⟩:=aI A;have b1:=inB A;have Z:=hm i (Xac hi);have ar:=GL h hd Z;have ap:=wZ h hd (ms:=ms.take k) fun j hj=>hm j (List.mem_of_mem_take hj)
  have ac:=Ey x.orders (ms.take k) i dim;rw[<-aZ hi]at ac;obtain⟨n,rfl⟩:=Int.eq_ofNat_of_zero_le Z.1;have X:n<x.orders.length:=by omega
  obtain⟨o,F⟩:=aI X;obtain⟨aq,an⟩:=h.load o (Xac F);obtain⟨v,hv⟩:=aI (show dim<o.load.length by omega);have ai:Am x.orders dim (n:Int)=v:=by unfold Am;rw[gS F,List.getD,hv];rfl
  have b2:=inB X;have b3:=inB (show dim<o.load.length by omega);have ao:(ms.take k).length<=63:=by rw[Xav];omega
  have w1:IntKind.i64.wrap (gO x.orders (ms.take k) dim+v)=gO x.orders (ms.take (k+1)) dim:=by rw[ac,ai,bD (by omega)]
  simp only[go_sem,e2,e3,U,ak,aa,ae,O,aC hi,b1,aC F,b2,aC hv,b3,w1,aW k];exact⟨⟨k+1,A,rfl,rfl⟩,by simp only[aN];omega⟩
 have E:=geB hk E;subst E;rw[Xad]at O;simp only[go_sem,e3,Xaa];refine⟨fun ρ H=>∃(k:Nat),k<=x.types.length/\ρ 2=int dim/\ρ 7=int (gO x.orders ms dim)/\ρ 34=.sl (x.types.map bB)/\ρ 35=int (x.types.length:Nat)/\ρ 36=int k/\ρ 8=int (kD (x.types.take k) dim),fun ρ _=>x.types.length-aU (ρ 36),⟨0,Xab _,by simp only[go_sem,e2,],O,by simp only[go_sem,],by simp only[go_sem,],(by simp only[go_sem,];rfl),by simp only[go_sem,U];rfl⟩,?_⟩;rintro ρ H ⟨k,hk,e2,O,ab,Y,J,U⟩;simp only[go_sem,Y,J];refine aA (fun A=>?_) (fun E=>?_)
 ·have A:=ltB A;obtain⟨t,ht⟩:=aI A;have b1:=inB A;obtain⟨h1,h2⟩:=h.cap t (Xac ht);obtain⟨v,hv⟩:=aI (show dim<t.cap.length by omega);have b3:=inB (show dim<t.cap.length by omega);simp only[go_sem,ab,J,aC ht,b1];refine aJ fun j af=>?_
  simp only[go_sem,];refine bP af (by simp[lY]) fun ah (R:ah j=some (mZ t)) N=>?_
  simp only[go_sem,e2,U,R];simp only[go_sem,e2,O,ab,Y,J,aC hv,b3,aW k];refine⟨⟨k+1,A,rfl,?_⟩,by simp only[aN];omega⟩;rw[aZ ht,HA,List.getD,hv];rfl
 have E:=geB hk E;subst E;rw[Xad]at U;have hL:=wZ h hd hm;have hC:=De h hd x.types.length;rw[Xad]at hC;simp only[go_sem,O,U];have ag:∀n∈[gO x.orders ms dim],Mid n:=fun n X=>by rw[Xbs.1 X];unfold Mid;omega
 have aj:∀n∈[kD x.types dim],Mid n:=fun n X=>by rw[Xbs.1 X];unfold Mid;omega
 refine aO (akI [gO x.orders ms dim] [kD x.types dim] (by simp) (by simp) ag aj) ?_;unfold uD;generalize yS [gO x.orders ms dim] [kD x.types dim]=T;simp only[go_sem];refine aA (fun hb=>?_) (fun hb=>?_)
 ·simp only[go_sem];rw[if_pos (by simpa using hb)];exact .refl _
 ·simp only[go_sem];rw[if_neg (by simpa using hb)];exact .refl _
def xA{n:Nat}{set:Int}(h:wM n set=true):∃s:Nat,set=(s:Int)/\s<2^n:=by
 unfold wM at h;simp only[Xah,decide_eq_true_eq,Xay]at h;obtain⟨s,rfl⟩:=Int.eq_ofNat_of_zero_le h.1;refine⟨s,rfl,?_⟩;have h3:((2:Int)^n)=((2^n:Nat):Int):=by norm_cast
 have A:=h.2;rw[h3]at A;have E:s/2^n=0:=by exact_mod_cast A
 exact(Nat.div_eq_zero_iff_lt (Nat.two_pow_pos n)).1 E
def acO{n s:Nat}:wM n (s:Int)=decide (s<2^n):=by
 unfold wM;have h3:((2:Int)^n)=((2^n:Nat):Int):=by norm_cast
 rw[h3,Xar];simp only[Xah,decide_eq_true_eq,Xay];constructor
 ·rintro⟨_,h⟩;have A:s/2^n=0:=by exact_mod_cast h
  exact(Nat.div_eq_zero_iff_lt (Nat.two_pow_pos n)).1 A
 ·intro h;refine⟨by omega,?_⟩;have A:s/2^n=0:=Nat.div_eq_of_lt h
  exact_mod_cast A
def Zp{s n:Nat}(h:s<2^n)(X:n<=62):∀i∈eY (s:Int),0<=i/\i<(n:Int):=by
 intro i J;unfold eY qP at J;obtain⟨j,U,rfl⟩:=Xan.1 J;obtain⟨F,A⟩:=Xbg.1 U;have T:=Xai.1 F;rw[jD (by omega)]at A;refine⟨by omega,?_⟩;rcases Xcb j n with O|E
 ·omega
 ·rw[Xce (Xbh h (Xas (by decide) E))]at A;cases A
def LP(x:Instance)(ms:List Int)(k:Nat):Int:=(List.range k).foldl (fun n dim=>eF n (uD x ms dim)) 1
def GR(x:Instance)(ms:List Int)(k:Nat):LP x ms (k+1)=eF (LP x ms k) (uD x ms k):=by unfold LP;rw[Xbv,Xbq];rfl
def SU(x:Instance)(set:Int):Bool:=decide (set<=0)|| !wM x.orders.length set|| !decide (set.toNat &&& Bq x=set.toNat)
def uG(x:Instance)(d:Nat)(set:Int):Int:=if SU x set=true then 0 else if WB x (eY set)=false then 1 else LP x (eY set) d
def EO(q:Order->Bool)(l:List Order):Ms q l<2^l.length:=Fe _ _
def ajS(x:Instance)(d:Nat)(set:Int)(h:LoadsOk x d)(ht:x.types≠[]):PC prog 58 [.agg (aE x),int set] (int (uG x d set)):=by
 have A:=h.orders;have ae:=h.dims;have ac:Bq x<2^x.orders.length:=EO _ _;have ab:2^x.orders.length<=2^62:=Xas (by decide) A;refine pcd func58 rfl rfl ?_;simp only[go_sem];refine⟨_,fun _=>(Ou x set A).q rfl,?_⟩;simp only[go_sem];refine⟨_,fun _=>(ahV x A).q rfl,?_⟩;simp only[go_sem];refine⟨boo (decide (set.toNat &&& Bq x=set.toNat)),fun hg=>?_,?_⟩
 ·simp at hg;obtain⟨s,rfl,hs⟩:=xA hg.2;exact(aeZ s (Bq x) (by omega) (by omega)).q rfl
 simp only[go_sem];apply aA <;> intro J
 ·simp only[go_sem];rw[show uG x d set=0 from if_pos J];exact .refl _
 have e0:uG x d set=if WB x (eY set)=false then 1 else LP x (eY set) d:=if_neg (by unfold SU;rw[J];simp)
 rw[e0];obtain⟨s,rfl,hs⟩:=xA (n:=x.orders.length) (set:=set) (by simp at J;exact J.1.2);have hm:WY x.orders (eY (s:Int)):=Zp hs A;have Y:(eY (s:Int)).length<=63:=qY _ _;simp only[go_sem];refine aO (lL s) ?_;simp only[go_sem];refine aO (Wu x (eY s) hm (by omega)) ?_;simp only[go_sem];obtain⟨t,r,E⟩:=List.exists_cons_of_ne_nil ht;have U:((x.types.length:Int) == 0)=false:=by rw[E];rw[beq_eq_false_iff_ne];simp;omega
 simp only[go_sem,U];apply aA <;> intro J
 ·simp only[go_sem];rw[if_pos (by simpa using J)];exact .refl _
 rw[if_neg (by simpa using J)];have b1:=inB (show 0<x.types.length by rw[E];simp);have aa:x.types[0]?=some t:=by rw[E];rfl
 have X:=aC (f:=bB) aa;have hd:=(h.cap t (by rw[E];simp)).1;subst hd;simp only[go_sem,Xaa,X];refine⟨by omega,?_⟩;refine⟨fun ρ H=>∃(k:Nat),k<=t.cap.length/\ρ 2=.rp (aE x) 0/\ρ 6=.sl ((eY s).map aQ)/\ρ 41=int (t.cap.length:Nat)/\ρ 42=int k/\ρ 5=int (LP x (eY s) k),fun ρ _=>t.cap.length-aU (ρ 42),⟨0,Xab _,rfl,rfl,rfl,(by simp only[go_sem];rfl),by simp only[go_sem];rfl⟩,?_⟩;rintro ρ H ⟨k,hk,e2,e6,O,F,e5⟩;simp only[go_sem,O,F];refine tP hk (fun T=>?_) (fun Z=>?_)
 ·simp only[go_sem,e2,e6,F,e5];refine aO (avQ x (eY s) k _ h T hm Y) ?_;simp only[go_sem,e2,e6,O,F,aW k];exact⟨⟨k+1,T,rfl,by rw[GR]⟩,by simp only[aN];omega⟩
 ·subst Z;simp only[go_sem,e5];exact .refl _
def lG(x:Instance)(d:Nat)(one:Cut):Int:=
 if one.kind=1 then(if(!wM x.orders.length one.set|| !((sG 63 one.set.toNat:Nat):Int) == 3)=true then 2 else if one.n≠1 then 27 else 0)
 else if one.kind=2 then(if(!wM x.orders.length one.set||one.set == 0)=true then 2 else if(decide (one.n<1)||decide (one.n>uG x d one.set))=true then 27 else 0)
 else 8
def RQ(x:Instance)(d:Nat)(A:Cut)(h:LoadsOk x d)(U:x.types≠[]):PC prog 37 [.agg (aE x),.agg (fZ A)] (int (lG x d A)):=by
 have F:=h.orders;refine pcd func37 rfl rfl ?_;simp only[go_sem];unfold lG;apply aA <;> intro h1
 ·rw[if_pos (by simpa using h1)];simp only[go_sem];refine aO (Ou x A.set F) ?_;simp only[go_sem];refine⟨int (sG 63 A.set.toNat:Nat),fun O=>?_,?_⟩
  ·simp at O;obtain⟨s,T,_⟩:=xA O;rw[T];exact(amZ s).q rfl
  simp only[go_sem];apply aA <;> intro E
  ·rw[if_pos (by exact E)];simp only[go_sem];exact .refl _
  rw[if_neg (by rw[show(!wM x.orders.length A.set|| !((sG 63 A.set.toNat:Nat):Int) == 3)=false from E];simp)];simp only[go_sem];apply aA <;> intro E
  ·rw[if_pos (by simpa using E)];simp only[go_sem];exact .refl _
  ·rw[if_neg (by simpa using E)];simp only[go_sem];exact .refl _
 rw[if_neg (by simpa using h1)];simp only[go_sem];apply aA <;> intro J
 ·rw[if_pos (by simpa using J)];simp only[go_sem];refine aO (Ou x A.set F) ?_;simp only[go_sem];apply aA <;> intro E
  ·rw[if_pos (by exact E)];simp only[go_sem];exact .refl _
  rw[if_neg (by rw[show(!wM x.orders.length A.set||A.set == 0)=false from E];simp)];simp only[go_sem];refine kB ?_;simp only[go_sem];refine⟨_,fun _=>(ajS x d A.set h U).q rfl,?_⟩;simp only[go_sem];apply aA <;> intro E
  ·rw[if_pos (by exact E)];simp only[go_sem];exact .refl _
  ·rw[if_neg (by rw[show(decide (A.n<1)||decide (A.n>uG x d A.set))=false from E];simp)];simp only[go_sem];exact .refl _
 ·rw[if_neg (by simpa using J)];simp only[go_sem];exact .refl _
def Bv(one:Cut):Int×Int:=if one.kind=1 then(1,1)else if one.kind=2 then(3,one.n)else(0,0)
def aA0(A:Cut):PC prog 98 [.agg (fZ A)] (.tup [int (Bv A).1,int (Bv A).2]):=by
 refine pcd func98 rfl rfl ?_;simp only[go_sem];unfold Bv;apply aA <;> intro h1
 ·rw[if_pos (by simpa using h1)];simp only[go_sem];exact .refl _
 rw[if_neg (by simpa using h1)];simp only[go_sem];apply aA <;> intro E
 ·rw[if_pos (by simpa using E)];simp only[go_sem];refine kB ?_;simp only[go_sem];exact .refl _
 ·rw[if_neg (by simpa using E)];simp only[go_sem];exact .refl _
end Nu
namespace Nu
open Go.Nu
def xR(l:List Int):List AV:=[.sl (l.map aQ)]
def Ku(ll:List (List Int))(d:Int):Bool:= !(decide (d<0)||decide (d>3))&&ll.all fun l=> !((l.length:Int) != d)
def zK(ll:List (List Int))(i:Nat):Int:=ll.foldl (fun s l=>IntKind.i64.wrap (s+l.getD i 0)) 0
def Yf(ll:List (List Int))(d:Int):List Int×Int:=if Ku ll d=true then((List.range d.toNat).map (zK ll),0)else([],2)
def SC{x:Instance}{d dim:Nat}{ms:List Int}(h:LoadsOk x d)(T:dim<d)(Y:WY x.orders ms):
  0<=uD x ms dim/\(kD x.types dim<1->uD x ms dim=0)/\(1<=kD x.types dim->∀n:Int,0<=n->(uD x ms dim<=n↔gO x.orders ms dim<=n*kD x.types dim))/\uD x ms dim<=gO x.orders ms dim:=by
 have Z:=(wZ h T Y).1;have U:=(De h T x.types.length).1;rw[Xad]at U;unfold uD yS;generalize gO x.orders ms dim=L at *;generalize kD x.types dim=C at *;have A:([C].any fun n=>decide (n<0))=false:=by simp;exact U
 simp only[Xag,List.length_nil,ne_eq,not_true,if_false,A,Xbi,rI];by_cases h0:L<=0
 ·have:L=0:=by omega
  subst this;simp only[Xaz,if_true];simp;intro F n J;exact⟨fun _=>Int.mul_nonneg J (by omega),fun _=>J⟩
 ·rw[if_neg h0];by_cases F:C=0
  ·rw[if_pos F];simp;omega
  ·rw[if_neg F];have X:eF 0 ((L+C-1).tdiv C)=(L+C-1)/C:=by have h1:(L+C-1).tdiv C=(L+C-1)/C:=Xcf (by omega);have O:0<=(L+C-1)/C:=Int.ediv_nonneg (by omega) (by omega);rw[h1];unfold eF;split <;> omega
   simp only[X,not_true,if_false];have O:0<=(L+C-1)/C:=Int.ediv_nonneg (by omega) (by omega);refine⟨O,fun h=>by omega,fun h1 n J=>?_,?_⟩
   ·have E:(L+C-1)/C<=n↔(L+C-1)/C<n+1:=by omega
    rw[E,Int.ediv_lt_iff_lt_mul (by omega),Int.add_mul,Int.one_mul];omega
   ·have E:(L+C-1)/C<=L↔(L+C-1)/C<L+1:=by omega
    rw[E,Int.ediv_lt_iff_lt_mul (by omega),Int.add_mul,Int.one_mul];have:L*1<=L*C:=Int.mul_le_mul_of_nonneg_left (by omega) (by omega);omega
def Zq{x:Instance}{d:Nat}{ms:List Int}(h:LoadsOk x d)(A:WY x.orders ms)(E:ms.length<=63):∀k,k<=d->1<=LP x ms k/\LP x ms k<=63001
 | 0,_=>by simp[LP]
 | k+1,hk=>by have ih:=Zq h A E k (by omega);have h1:=SC h (dim:=k) (by omega) A;have F:=wZ h (dim:=k) (by omega) A;rw[GR];unfold eF;split <;> omega
end Nu
end Go.Proofs.YthephioccidfgaaGreatDoor
section
namespace Go.So
variable{α:Type}
structure SWO(lt:α->α->Bool):Prop where
 asym:∀a b,lt a b=true->lt b a=false
 neg:∀a b c,lt a b=false->lt b c=false->lt a c=false
section
variable{lt:α->α->Bool}(h:SWO lt)
include h
end
section
variable{lt:α->α->Bool}(h:SWO lt)
include h
end
end Go.So
end
namespace Go.Proofs.YthephioccidfgaaGreatDoor
open Go.Aw Go.Aw.D Go.Proofs Ty
namespace Nu
open Go.Nu Go.So
structure Broken where
 cut:Cut
 by_:ByteArray
abbrev O5(gf:Nat):AV:=.v (.func (.func gf) #[] #[])
abbrev TB:=Broken×Nat
def fs(L:List TB):List Broken:=L.map Prod.fst
end Nu
namespace Nu
open Go.Nu Go.So
section
variable{gf:Nat}{lt:Broken->Broken->Bool}{ok:Broken->Prop}
end
end Nu
namespace Nu
open Go.Nu Go.So
section
variable{gf:Nat}{lt:Broken->Broken->Bool}{ok:Broken->Prop}
end
end Nu
namespace Dec
open Go.Proofs.Tryz
theorem bZ{H:aG}{k:IntKind}{a b:Int}(h:a=b):Conv H (.v (.int k a)) (.v (.int k b)):=h▸.refl _
theorem cL{H:aG}{a b:Bool}(h:a=b):Conv H (.v (.bool a)) (.v (.bool b)):=h▸.refl _
def aBp{H:aG}{a b:List AV}(h:a=b):Conv H (.agg a) (.agg b):=h▸.refl _
def BC(x:Instance)(n:Int):Bool:=decide (n>=0)&&decide (n<(x.orders.length:Int))
def Jm(x:Instance)(n:Int):PC prog 54 [int n,.rp (aE x) 0] (boo (BC x n)):=by refine pcd func54 rfl rfl ?_;simp only[go_sem];exact .refl _
def dR(x:Instance)(d:Decision):Int:=
 if d.kind=1\/d.kind=2 then(if BC x d.a&&BC x d.b&&d.a != d.b then 0 else 2)
 else if d.kind=5\/d.kind=6 then(if BC x d.a then 0 else 2)
 else if d.kind=3\/d.kind=4 then(if decide (d.a>=0)&&decide (d.a<(x.types.length:Int))&&decide (d.n>=0)&&decide (d.n<=10)then 0 else 2)
 else 8
def O2(x:Instance)(d:Decision):PC prog 28 [.agg (aE x),.agg (aP d)] (int (dR x d)):=by
 refine pcd func28 rfl rfl ?_;simp only[go_sem]
 repeat' (first|(refine aO (Jm _ _) ?_)|(refine⟨_,fun _=>PC.q (Jm _ _) rfl,?_⟩)|(refine⟨_,PC.q (Jm _ _) rfl,?_⟩)|(refine aA (fun A=>?_) (fun A=>?_))|(simp only[go_sem]))
 all_goals (refine bZ ?_;(try unfold dR);generalize BC x d.a=p at *;generalize BC x d.b=q at *;cases p <;> cases q <;> simp_all <;> (try omega))
def kV:List Int->Int
 | []=>0
 | e::r=>if e != 0 then e else kV r
def FJ{l:List Int}{k:Nat}{e:Int}(h:∀e∈l.take k,e=0)(A:l[k]?=some e)(F:(e != 0)=true):kV l=e:=by
 induction l generalizing k with
 | nil=>simp at A
 | cons a r ih=>
  cases k with
  | zero=>simp at A;subst A;simp only[kV];rw[if_pos F]
  | succ k=>have h0:=h a (by simp);subst h0;simp only[kV];exact ih (k:=k) (fun e E=>h e (by simp[E])) (by simpa using A)
def Dw{l:List Int}(h:∀e∈l,e=0):kV l=0:=by
 induction l with
 | nil=>rfl
 | cons a r ih=>have h0:=h a (by simp);subst h0;simp only[kV];exact ih fun e A=>h e (by simp[A])
def mT{l:List Int}(h:kV l=0):∀e∈l,e=0:=by
 induction l with
 | nil=>simp
 | cons a r ih=>
  simp only[kV]at h;split at h
  ·rename_i A;simp at A;exact absurd h A
  ·rename_i A;simp at A;intro e E;rcases Xba.1 E with rfl|E;exact A;exact ih h e E
def iS(x:Instance)(l:List Decision):Int:=if decide ((l.length:Int)>1024)then 4 else kV (l.map (dR x))
def arL(x:Instance)(l:List Decision)(hl:l.length<=1048576):PC prog 13 [.agg (aE x),.sl (l.map aP)] (int (iS x l)):=by
 refine pcd func13 rfl rfl ?_;simp only[go_sem];apply aA <;> intro O
 ·simp only[go_sem];exact bZ (by unfold iS;rw[if_pos O])
 ·have hc:iS x l=kV (l.map (dR x)):=by unfold iS;rw[if_neg (by rw[O];simp)]
  rw[hc];simp only[go_sem];refine⟨fun ρ _=>∃k:Nat,k<=l.length/\ρ 2=.rp (aE x) 0/\ρ 11=.sl (l.map aP)/\ρ 12=int l.length/\ρ 13=int k/\∀e∈(l.map (dR x)).take k,e=0,fun ρ _=>l.length-aU (ρ 13),⟨0,Xab _,rfl,rfl,rfl,rfl,by simp⟩,?_⟩;rintro ρ H ⟨k,hk,Z,T,U,E,X⟩;simp only[go_sem,U,E];refine aA (fun A=>?_) (fun F=>?_)
  ·have A:=bF A;obtain⟨d,Y⟩:=aI A;have b1:=inB A;simp only[go_sem,T,E,aC Y,b1];refine aJ fun j hj=>?_
   simp only[go_sem];refine aM (aB _ _ _) (by simp[kJ]) ?_;simp only[go_sem,Z,];refine aO (O2 x d) ?_;simp only[go_sem];apply aA <;> intro O
   ·simp only[go_sem];exact bZ (FJ X (by simp[Y]) O).symm
   ·simp only[go_sem,Z,T,U,E,aW k];refine⟨⟨k+1,A,rfl,?_⟩,msr A⟩;rw[aZ (x:=dR x d) (by simp[Y])];intro e J;rcases Xat.1 J with J|J
    ·exact X e J
    ·simp at J;subst J;simpa using O
  ·have F:=bG hk F;subst F;simp only[go_sem];exact bZ (Dw (by rw[Xbb (by simp)]at X;exact X)).symm
def B8{a b:Nat}(E:a<2^63)(A:b<2^63):sI .or .i64 (a:Int) (b:Int)=((a ||| b:Nat):Int):=Sq.B8 E A
def cR(set i:Int):Bool:=decide (i>=0)&&decide (i<=62)&&((set/2^i.toNat)%2 == 1)
def Hs(set i:Int):PC prog 100 [int set,int i] (boo (cR set i)):=Sq.yH set i
def mG(set i:Int):Bool:=(set/2^i.toNat)%2 == 1
def cN(d:Decision)(set:Int):Bool:=
 if d.kind=1 then cR set d.a == cR set d.b else if d.kind=2 then !cR set d.a|| !cR set d.b else if d.kind=6 then !cR set d.a else true
def aqV(d:Decision)(set:Int):PC prog 145 [.agg (aP d),int set] (boo (cN d set)):=by
 refine pcd func145 rfl rfl ?_;simp only[go_sem];refine kB ?_
 repeat' (first|(refine aO (Hs _ _) ?_)|(refine⟨_,fun _=>PC.q (Hs _ _) rfl,?_⟩)|(refine⟨_,PC.q (Hs _ _) rfl,?_⟩)|(refine aA (fun A=>?_) (fun A=>?_))|(simp only[go_sem]))
 all_goals (refine cL ?_;unfold cN;simp_all)
def tT(p:Decision->Bool)(l:List Decision):Bool:=l.all p
theorem FL{α:Type}{p:α->Bool}{l:List α}{k:Nat}{x:α}(A:l[k]?=some x)(E:p x=false):l.all p=false:=by rw[List.all_eq_false];exact⟨x,Xac A,by simp[E]⟩
def QQ{α:Type}{p:α->Bool}{l:List α}(h:∀x∈l.take l.length,p x=true):l.all p=true:=by rw[Xad]at h;rw[Xaj];exact h
def tR{α:Type}{p:α->Bool}{l:List α}{k:Nat}{x:α}(F:l[k]?=some x)(E:p x=true)(h:∀x∈l.take k,p x=true):∀x∈l.take (k+1),p x=true:=by
 rw[aZ F];intro y A;rcases Xat.1 A with A|A
 ·exact h y A
 ·simp at A;subst A;exact E
def aR{α:Type}{p:α->Prop}{l:List α}{k:Nat}{x:α}(F:l[k]?=some x)(E:p x)(h:∀x∈l.take k,p x):∀x∈l.take (k+1),p x:=by
 rw[aZ F];intro y A;rcases Xat.1 A with A|A
 ·exact h y A
 ·simp at A;subst A;exact E
def aoS(l:List Decision)(c:Column)(hl:l.length<=1048576):PC prog 99 [.sl (l.map aP),.agg (bO c)] (boo (l.all fun d=>cN d c.set)):=by
 refine pcd func99 rfl rfl ?_;simp only[go_sem];refine⟨fun ρ _=>∃k:Nat,k<=l.length/\ρ 3=.rp (bO c) 0/\ρ 7=.sl (l.map aP)/\ρ 8=int l.length/\ρ 9=int k/\∀d∈l.take k,cN d c.set=true,fun ρ _=>l.length-aU (ρ 9),⟨0,Xab _,rfl,rfl,rfl,rfl,by simp⟩,?_⟩;rintro ρ H ⟨k,Y,h3,U,X,J,T⟩;simp only[go_sem,X,J];refine aA (fun A=>?_) (fun E=>?_)
 ·have A:=bF A;obtain⟨d,F⟩:=aI A;have Z:=inB A;simp only[go_sem,U,J,aC F,Z];refine aJ fun j hj=>?_
  simp only[go_sem];refine aM (aB _ _ _) (by simp[kJ]) ?_;simp only[go_sem,h3,];refine aO (aqV d _) ?_;simp only[go_sem];apply aA <;> intro O
  ·simp only[go_sem];exact cL (FL F (by simpa using O)).symm
  ·simp only[go_sem,h3,U,X,J,aW k];exact⟨⟨k+1,A,rfl,tR F (by simpa using O) T⟩,msr A⟩
 ·have E:=bG Y E;subst E;simp only[go_sem];exact cL (QQ T).symm
end Dec
end Go.Proofs.YthephioccidfgaaGreatDoor
section
namespace Go.Ve
section
variable{α δ:Type}(leaf:α->Bool)(yes no:α->Int)(ch:α->δ)(opp:δ->δ)
def inT(n:Nat)(k:Int):Bool:=decide (0<=k)&&decide (k<(n:Int))
def nC(l:List α):Bool:=l.all fun a=>leaf a||(inT l.length (yes a)&&inT l.length (no a))
def qQ(a:α):List Int:=if leaf a=true then[]else[yes a,no a]
def cnt(l:List α)(k:Int):Nat:=(l.flatMap (qQ leaf yes no)).count k
def qX(l:List α):Bool:=(List.range l.length).all fun i=>if i=0 then cnt leaf yes no l 0 == 0 else cnt leaf yes no l i == 1
inductive WayT (l:List α):Nat->List δ->Prop
 | root:WayT l 0 []
 | yes {i k:Nat} {d:List δ} {a:α}:WayT l i d->l[i]?=some a->leaf a=false->yes a=(k:Int)->WayT l k (d++[ch a])
 | no {i k:Nat} {d:List δ} {a:α}:WayT l i d->l[i]?=some a->leaf a=false->no a=(k:Int)->WayT l k (d++[opp (ch a)])
structure BInv(l:List α)(V q:List Nat):Prop where
 nd:(V++q).Nodup
 lt:∀k∈V++q,k<l.length
 zero:0∈V++q
 closed:∀v∈V,∀a,l[v]?=some a->∀k:Nat,(k:Int)∈qQ leaf yes no a->k∈V++q
 up:∀k∈V++q,k≠0->∃v∈V,∃a,l[v]?=some a/\(k:Int)∈qQ leaf yes no a
 way:∀j k,(V++q)[j]?=some k->∃d,WayT leaf yes no ch opp l k d/\d.length<=j
variable{leaf yes no ch opp}{l:List α}{V q:List Nat}{k:Nat}
def Ee{A:Type}[BEq A](f:α->List A)(k:A):∀(l:List α),(l.flatMap f).count k=(l.map fun a=>(f a).count k).sum
 | []=>rfl
 | a::l=>by simp[List.flatMap_cons,List.count_append,Ee f k l]
def O8{A:Type}(f:A->Nat):∀(l:List A) (i j:Nat) (a b:A),l[i]?=some a->l[j]?=some b->i≠j->f a+f b<=(l.map f).sum
 | [],i,j,a,b,h,_,_=>by simp at h
 | x::l,0,0,a,b,_,_,h=>absurd rfl h
 | x::l,0,j+1,a,b,h1,h2,_=>by simp at h1 h2;subst h1;simp only[List.map_cons,List.sum_cons];have:=sum_one f l j b h2;omega
 | x::l,i+1,0,a,b,h1,h2,_=>by simp at h1 h2;subst h2;simp only[List.map_cons,List.sum_cons];have:=sum_one f l i a h1;omega
 | x::l,i+1,j+1,a,b,h1,h2,h=>by simp at h1 h2;simp only[List.map_cons,List.sum_cons];have:=O8 f l i j a b h1 h2 (by omega);omega
where sum_one {A:Type} (f:A->Nat):∀(l:List A) (i:Nat) (a:A),l[i]?=some a->f a<=(l.map f).sum
 | [],i,a,h=>by simp at h
 | x::l,0,a,h=>by simp at h;subst h;simp
 | x::l,i+1,a,h=>by simp at h;have:=sum_one f l i a h;simp only[List.map_cons,List.sum_cons];omega
def aqD(A:qX leaf yes no l=true){k:Nat}(E:k<l.length)(h0:k≠0):cnt leaf yes no l k=1:=by unfold qX at A;rw[List.all_eq_true]at A;have:=A k (List.mem_range.2 E);rw[if_neg h0]at this;simpa using this
def UC(A:qX leaf yes no l=true)(E:l≠[]):cnt leaf yes no l 0=0:=by unfold qX at A;rw[List.all_eq_true]at A;have:=A 0 (List.mem_range.2 (List.length_pos_iff.2 E));simpa using this
def DO(A:qX leaf yes no l=true){k:Nat}(E:k<l.length){i j:Nat}{a b:α}(T:l[i]?=some a)(J:l[j]?=some b)(O:(k:Int)∈qQ leaf yes no a)(F:(k:Int)∈qQ leaf yes no b):i=j:=by
 refine Decidable.byContradiction fun h=>?_
 have h1:=O8 (fun a=>(qQ leaf yes no a).count (k:Int)) l i j a b T J h;have e:cnt leaf yes no l (k:Int)<=1:=by
  by_cases h0:k=0
  ·subst h0;have:=UC A (by rintro rfl;simp at E);simp at this |-;omega
  ·exact Nat.le_of_eq (aqD A E h0)
 unfold cnt at e;rw[Ee]at e;have:=List.count_pos_iff.2 O;have:=List.count_pos_iff.2 F;omega
def yX(E:qX leaf yes no l=true){i:Nat}{a:α}(A:l[i]?=some a):(0:Int)∉qQ leaf yes no a:=fun h=>by have h0:=UC E (by rintro rfl;simp at A);unfold cnt at h0;rw[List.count_eq_zero]at h0;exact h0 (List.mem_flatMap.2 ⟨a,List.mem_of_getElem? A,h⟩)
def Fx(O:qX leaf yes no l=true)(F:nC leaf yes no l=true){i:Nat}{a:α}(E:l[i]?=some a)(J:leaf a=false):yes a≠no a:=fun h=>by
 unfold nC at F;rw[List.all_eq_true]at F;have:=F a (List.mem_of_getElem? E);simp only[J,Bool.false_or,Bool.and_eq_true,inT,decide_eq_true_eq]at this;obtain⟨⟨h1,X⟩,_⟩:=this;obtain⟨k,U⟩:=Int.eq_ofNat_of_zero_le h1;have A:k<l.length:=by omega
 have h0:k≠0:=by rintro rfl;refine yX O E ?_;simp only[qQ,J,Bool.false_eq_true,if_false];rw[U];simp
 have e:=aqD O A h0;unfold cnt at e;rw[Ee]at e;have h3:=O8.sum_one (fun a=>(qQ leaf yes no a).count (k:Int)) l i a E;simp only[qQ,J,Bool.false_eq_true,if_false]at h3;rw[<-h,U]at h3;simp at h3;have:(2:Nat)<=1:=by refine Nat.le_trans h3 ?_;have T:=e;simp only[qQ]at T;exact Nat.le_of_eq T
 omega
def aiT(A:nC leaf yes no l=true){k:Nat}{d:List δ}(h:WayT leaf yes no ch opp l k d)(E:l≠[]):k<l.length:=by
 unfold nC at A;rw[List.all_eq_true]at A;cases h with
 | root=>exact List.length_pos_iff.2 E
 | yes h1 h2 h3 h4=>have:=A _ (List.mem_of_getElem? h2);simp only[h3,Bool.false_or,Bool.and_eq_true,inT,decide_eq_true_eq]at this;omega
 | no h1 h2 h3 h4=>have:=A _ (List.mem_of_getElem? h2);simp only[h3,Bool.false_or,Bool.and_eq_true,inT,decide_eq_true_eq]at this;omega
def BInv.start(E:l≠[]):BInv leaf yes no ch opp l [] [0]:=
 ⟨by simp,fun k A=>by simp at A;subst A;exact List.length_pos_iff.2 E,by simp,fun v F=>by simp at F,fun k A h0=>by simp at A;exact absurd A h0,
  fun j k h=>by
   cases j with
   | zero=>simp at h;subst h;exact⟨[],.root,Nat.le_refl _⟩
   | succ j=>simp at h⟩
def BInv.leafStep(h:BInv leaf yes no ch opp l V (k::q)){a:α}(J:l[k]?=some a)(O:leaf a=true):BInv leaf yes no ch opp l (V++[k]) q:=by
 have e:V++[k]++q=V++k::q:=by simp
 refine⟨by rw[e];exact h.nd,by rw[e];exact h.lt,by rw[e];exact h.zero,fun v A b E m F=>?_,fun m F h0=>?_,by rw[e];exact h.way⟩
 ·rw[e];rcases List.mem_append.1 A with A|A
  ·exact h.closed v A b E m F
  ·simp at A;subst A;rw[J]at E;cases E;simp[qQ,O]at F
 ·rw[e]at F;obtain⟨v,A,b,E⟩:=h.up m F h0;exact⟨v,List.mem_append.2 (.inl A),b,E⟩
def BInv.innerStep(hc:qX leaf yes no l=true)(hr:nC leaf yes no l=true)(h:BInv leaf yes no ch opp l V (k::q)){a:α}(J:l[k]?=some a)(Z:leaf a=false){y n:Nat}(hy:yes a=(y:Int))(hn:no a=(n:Int)):
  BInv leaf yes no ch opp l (V++[k]) (q++[y,n]):=by
 have T:∀m:Nat,(m:Int)∈qQ leaf yes no a↔m=y\/m=n:=fun m=>by simp only[qQ,Z,Bool.false_eq_true,if_false,List.mem_cons,List.not_mem_nil,or_false,hy,hn];omega
 have e:V++[k]++(q++[y,n])=(V++k::q)++[y,n]:=by simp
 have ag:y≠n:=fun x=>Fx hc hr J Z (by rw[hy,hn,x])
 have Y:∀m,m=y\/m=n->m∉V++k::q:=fun m A X=>by
  have O:=(T m).2 A;have af:m≠0:=by rintro rfl;exact yX hc J O
  obtain⟨v,F,b,U,ae⟩:=h.up m X af;have:=DO hc (h.lt m X) U J ae O;subst this;have:=h.nd;rw[List.nodup_append]at this;exact this.2.2 v F v (by simp) rfl
 have ac:∀m,m=y\/m=n->m<l.length:=fun m A=>by have hR:=hr;unfold nC at hR;rw[List.all_eq_true]at hR;have:=hR a (List.mem_of_getElem? J);simp only[Z,Bool.false_or,Bool.and_eq_true,inT,decide_eq_true_eq]at this;rcases A with rfl|rfl <;> omega
 have aa:∃d,WayT leaf yes no ch opp l k d/\d.length<=V.length:=h.way V.length k (by simp);refine⟨?_,fun m A=>?_,?_,fun v F b U m A=>?_,fun m A h0=>?_,fun j m E=>?_⟩
 ·rw[e,List.nodup_append];refine⟨h.nd,by simp[ag],fun x hx z hz=>?_⟩;rintro rfl;exact Y x (by simpa using hz) hx
 ·rw[e]at A;rcases List.mem_append.1 A with A|A
  ·exact h.lt m A
  ·exact ac m (by simpa using A)
 ·rw[e];exact List.mem_append.2 (.inl h.zero)
 ·rw[e];rcases List.mem_append.1 F with F|F
  ·exact List.mem_append.2 (.inl (h.closed v F b U m A))
  ·simp at F;subst F;rw[J]at U;cases U;exact List.mem_append.2 (.inr (by simpa using(T m).1 A))
 ·rw[e]at A;rcases List.mem_append.1 A with A|A
  ·obtain⟨v,F,b,U⟩:=h.up m A h0;exact⟨v,List.mem_append.2 (.inl F),b,U⟩
  ·exact⟨k,by simp,a,J,(T m).2 (by simpa using A)⟩
 ·rw[e]at E;rw[List.getElem?_append]at E;split at E
  ·exact h.way j m E
  ·rename_i ab;obtain⟨d,hd,ai⟩:=aa;have ah:V.length<j:=by simp at ab;omega
   match hjj:j-(V++k::q).length,E with
   | 0,E=>simp at E;subst E;exact⟨d++[ch a],.yes hd J Z hy,by simp;omega⟩
   | 1,E=>simp at E;subst E;exact⟨d++[opp (ch a)],.no hd J Z hn,by simp;omega⟩
   | j'+2,E=>simp at E
def EE:∀(n:Nat) (L:List Nat),L.Nodup->(∀k∈L,k<n)->L.length<=n
 | 0,[],_,_=>Nat.le_refl _
 | 0,k::L,_,h=>absurd (h k (by simp)) (by omega)
 | n+1,L,hd,h=>by
  have h1:=EE n (L.filter (·≠n)) (hd.filter _) fun k A=>by simp at A;have:=h k A.1;omega
  have E:L.length<=(L.filter (·≠n)).length+1:=by
   have e:L.length=(L.filter (·≠n)).length+(L.filter (fun k=> !decide (k≠n))).length:=by
    rw[<-List.countP_eq_length_filter,<-List.countP_eq_length_filter,List.length_eq_countP_add_countP (fun k=>decide (k≠n)) (l:=L)]
    congr 2;funext k;by_cases A:k=n <;> simp[A]
   have F:(L.filter (fun k=> !decide (k≠n))).length<=1:=by
    have:(L.filter (fun k=> !decide (k≠n)))=L.filter (fun k=>k == n):=by congr 1;funext k;by_cases A:k=n <;> simp[A]
    rw[this,<-List.countP_eq_length_filter,<-List.count_eq_countP];exact List.nodup_iff_count.1 hd n
   omega
  omega
def FT{n:Nat}{L:List Nat}(E:L.Nodup)(h:∀k∈L,k<n)(J:L.length=n):∀k,k<n->k∈L:=fun k F=>by
 refine Decidable.byContradiction fun A=>?_
 have:=EE n (k::L) (by simp[A,E]) (by simp;exact⟨F,h⟩);simp at this;omega
def BInv.len(h:BInv leaf yes no ch opp l V q):(V++q).length<=l.length:=EE _ _ h.nd h.lt
def BInv.reach(h:BInv leaf yes no ch opp l V []){k:Nat}{d:List δ}(F:WayT leaf yes no ch opp l k d):k∈V:=by
 have A:=h.closed;have E:=h.zero;simp only[List.append_nil]at A E;induction F with
 | root=>exact E
 | yes h1 h2 h3 h4 ih=>exact A _ ih _ h2 _ (by simp[qQ,h3,h4])
 | no h1 h2 h3 h4 ih=>exact A _ ih _ h2 _ (by simp[qQ,h3,h4])
def BInv.full(h:BInv leaf yes no ch opp l V []):V.length=l.length↔∀k,k<l.length->∃d,WayT leaf yes no ch opp l k d:=by
 have A:=h.nd;have E:=h.lt;simp only[List.append_nil]at A E;constructor
 ·intro U k F;obtain⟨j,O⟩:=List.getElem?_of_mem (FT A E U k F);obtain⟨d,J,_⟩:=h.way j k (by simpa using O);exact⟨d,J⟩
 ·intro T;have h1:∀k,k<l.length->k∈V:=fun k F=>let ⟨d,J⟩:=T k F;h.reach J
  have X:=EE _ V A E;have h3:l.length<=V.length:=by
   have:=List.Nodup.length_le_of_subset (l₁:=List.range l.length) (l₂:=V) List.nodup_range fun k F=>h1 k (List.mem_range.1 F)
   simpa using this
  omega
def BInv.short(h:BInv leaf yes no ch opp l V []){k:Nat}{d:List δ}(J:WayT leaf yes no ch opp l k d):∃A,WayT leaf yes no ch opp l k A/\A.length<l.length:=by obtain⟨j,E⟩:=List.getElem?_of_mem (h.reach J);obtain⟨A,F,T⟩:=h.way j k (by simpa using E);have:=h.len;have O:=(List.getElem?_eq_some_iff.1 E).1;simp at this;exact⟨A,F,by omega⟩
def SQ(A:qX leaf yes no l=true){d:List δ}(h:WayT leaf yes no ch opp l 0 d):d=[]:=by
 generalize E:0=k at h;cases h with
 | root=>rfl
 | yes h1 h2 h3 h4=>subst E;exact absurd (by simp[qQ,h3,h4]) (yX A h2)
 | no h1 h2 h3 h4=>subst E;exact absurd (by simp[qQ,h3,h4]) (yX A h2)
def arF(O:qX leaf yes no l=true)(X:nC leaf yes no l=true){k i:Nat}{a:α}{d:List δ}(Z:k≠0)(A:l[i]?=some a)(Y:leaf a=false)(h:WayT leaf yes no ch opp l k d)(U:yes a=(k:Int)\/no a=(k:Int)):
  ∃E,d=E++[if no a=(k:Int)then opp (ch a)else ch a]/\WayT leaf yes no ch opp l i E:=by
 have F:(k:Int)∈qQ leaf yes no a:=by
  simp only[qQ,Y,Bool.false_eq_true,if_false,List.mem_cons,List.not_mem_nil,or_false];rcases U with h|h
  ·exact .inl h.symm
  ·exact .inr h.symm
 have J:=aiT X h (by rintro rfl;simp at A);cases h with
 | root=>exact absurd rfl Z
 | @yes i' _ E b h1 h2 h3 h4=>have:=DO O J A h2 F (by simp[qQ,h3,h4]);subst this;rw[A]at h2;cases h2;refine⟨E,?_,h1⟩;rw[if_neg];intro T;exact Fx O X A Y (by rw[h4,T])
 | @no i' _ E b h1 h2 h3 h4=>have:=DO O J A h2 F (by simp[qQ,h3,h4]);subst this;rw[A]at h2;cases h2;exact⟨E,by rw[if_pos h4],h1⟩
def Ap(A:qX leaf yes no l=true)(J:nC leaf yes no l=true){k:Nat}{d e:List δ}(h:WayT leaf yes no ch opp l k d)(O:WayT leaf yes no ch opp l k e):d=e:=by
 induction h generalizing e with
 | root=>exact(SQ A O).symm
 | @yes i k d a h1 h2 h3 h4 ih=>
  have T:k≠0:=by rintro rfl;exact yX A h2 (by simp[qQ,h3,h4])
  obtain⟨U,rfl,E⟩:=arF A J T h2 h3 O (.inl h4);rw[ih E,if_neg];intro F;exact Fx A J h2 h3 (by rw[h4,F])
 | @no i k d a h1 h2 h3 h4 ih=>
  have T:k≠0:=by rintro rfl;exact yX A h2 (by simp[qQ,h3,h4])
  obtain⟨U,rfl,E⟩:=arF A J T h2 h3 O (.inr h4);rw[ih E,if_pos h4]
end
end Go.Ve
end
section
namespace Go.Proofs.YthephioccidfgaaGreatDoor.Dec
open Go.Proofs.Tryz
open Go.Aw Go.Aw.D Go.Proofs Ty
def oV(d:Decision):Decision:=
 if d.kind=1 then { d with kind:=2 }else if d.kind=2 then { d with kind:=1 }
 else if d.kind=3 then { d with kind:=4,n:=IntKind.i64.wrap (d.n+1) }else if d.kind=4 then { d with kind:=3,n:=IntKind.i64.wrap (d.n-1) }
 else if d.kind=5 then { d with kind:=6 }else if d.kind=6 then { d with kind:=5 }else d
def aiW(d:Decision):PC prog 14 [.agg (aP d)] (.agg (aP (oV d))):=by
 refine pcb (fun t=>t == 1) func14 rfl rfl ?_;simp only[go_sem];simp only[aP];refine aJ fun j O=>?_
 simp only[go_sem];refine aJ fun i F=>?_
 have E:j≠i:=fun e=>by subst e;rw[aB]at F;simp at F
 have A:i≠j:=E.symm;simp only[go_sem,aD _ _ _ _ E]
 repeat' (first|(refine aA (fun J=>?_) (fun J=>?_))|(refine cC so3 (by first|exact aB _ _ _|exact(aD _ _ _ _ E).trans (aB _ _ _)) (by simp) ?_)|(refine aM (by first|exact aB _ _ _|exact(aD _ _ _ _ A).trans (aB _ _ _)|exact(aD _ _ _ _ A).trans ((aD _ _ _ _ A).trans (aB _ _ _))) (by simp) ?_)|(simp only[go_sem,aD _ _ _ _ E,aD _ _ _ _ A]))
 all_goals (refine aBp ?_;simp_all [oV,aP])
end Go.Proofs.YthephioccidfgaaGreatDoor.Dec
end
section
namespace Go.Aw
open Go.RowKit
section
variable{P:Program}{f:FuncId}{args:List AV}{H:aG}{K:AV->aG->Prop}
theorem arY{S:Sg}{w:World}{v:Value}(h:rep S w (.v (.slice none 0 0)) v):rep S w (.sl []) v:=by
 have A:v=.slice none 0 0:=by grind[rep]
 subst A;simp only[rep]
 grind
def bK.nil0{A:List AV}(h:bK P f (.sl []::A) H K):bK P f (.v (.slice none 0 0)::A) H K:=fun S w vals E F=>h S w vals E (by grind[bJ,arY])
end
end Go.Aw
end
namespace Go.Proofs.YthephioccidfgaaGreatDoor
open Go.Aw Go.Aw.D Go.Proofs Ty
namespace Sq
open Go.Proofs.Tryz
open Go.Nu (lB)
open Go.Proofs.YthephioccidfgaaGreatDoor.Nu (ltB geB GD)
open Mv (bZ cL aR)
def SV(v:Visit):Int:=if v.drop=true then 1 else 0
def or2(a b:Int):Int:=if a=0 then b else a
def O5(a b:Visit):Int:=or2 (lB a.order b.order) (lB (SV a) (SV b))
def aeN:List Visit->List Visit->Int
 | [],[]=>0
 | [],_::_=> -1
 | _::_,[]=>1
 | a::l,b::m=>or2 (O5 a b) (aeN l m)
def agL:List Int->Int
 | []=>0
 | a::l=>if a=0 then agL l else a
theorem zS{α:Type}{l:List α}{k:Nat}{u:α}(h:l[k]?=some u):l.drop k=u::l.drop (k+1):=by grind[List.drop_eq_getElem_cons]
def aBC(l:List Int)(hl:l.length<=1048576):PC prog 258 [.sl (l.map aQ)] (int (agL l)):=by
 refine pcd func258 rfl rfl ?_;simp only[go_sem];refine⟨fun ρ H=>∃(k:Nat),k<=l.length/\ρ 3=int 0/\ρ 6=.sl (l.map aQ)/\ρ 7=int (l.length:Nat)/\ρ 8=int k/\agL l=agL (l.drop k),fun ρ _=>l.length-aU (ρ 8),⟨0,Xab _,rfl,rfl,rfl,(by rfl),rfl⟩,?_⟩;rintro ρ H ⟨k,Z,J,X,U,E,F⟩;simp only[go_sem,U,E];refine tP Z (fun A=>?_) (fun O=>?_)
 ·obtain⟨u,T⟩:=aI A;have b1:=inB A;rw[zS T,agL]at F;simp only[go_sem,J,X,E,aC T,b1];refine aA (fun Y=>?_) (fun Y=>?_)
  ·simp only[go_sem,];simp_all[bZ]
  ·rw[if_pos (by grind)]at F;simp only[go_sem,J,X,U,E,aW k]
   grind[aN]
 ·subst O;simp only[go_sem,J,];exact bZ (by rw[F,Xca];rfl)
def anM(v:Visit):PC prog 257 [.agg (aL v)] (int (SV v)):=by
 refine pcd func257 rfl rfl ?_;simp only[go_sem];unfold SV;apply aA <;> intro A
 ·simp only[go_sem,A];simp[bZ]
 ·simp only[go_sem,A];exact bZ (by simp)
def Vv(a b:Visit):PC prog 237 [.agg (aL a),.agg (aL b)] (int (O5 a b)):=by
 refine pcd func237 rfl rfl ?_;simp only[go_sem];refine I3 (by kernel_rfl) ?_;simp only[go_sem];refine⟨_,(GD a.order b.order).q rfl,?_⟩;simp only[go_sem];refine⟨_,(anM a).q rfl,?_⟩;simp only[go_sem];refine⟨_,(anM b).q rfl,?_⟩;simp only[go_sem];refine⟨_,(GD (SV a) (SV b)).q rfl,?_⟩;simp only[go_sem];refine aO (aBC [lB a.order b.order,lB (SV a) (SV b)] (by simp)) ?_;simp only[go_sem]
 grind[bZ,O5,or2,agL]
def asN(a b:List Visit)(ha:a.length<=1048576):PC prog 236 [.sl (a.map aL),.sl (b.map aL),.v (.func (.func 237) #[] #[])] (int (aeN a b)):=by
 have ae:aF prog 237=true:=by kernel_rfl
 refine pcd func236 rfl rfl ?_;simp only[go_sem];refine⟨fun ρ H=>∃(k:Nat),k<=a.length/\ρ 0=.sl (a.map aL)/\ρ 1=.sl (b.map aL)/\ρ 2=.v (.func (.func 237) #[] #[])/\ρ 11=.sl (a.map aL)/\ρ 12=int (a.length:Nat)/\ρ 13=int k/\aeN a b=aeN (a.drop k) (b.drop k)/\k<=b.length,fun ρ _=>a.length-aU (ρ 13),⟨0,Xab _,by simp only[go_sem],by simp only[go_sem],by simp only[go_sem],by simp only[go_sem],by simp only[go_sem,Xaa],(by simp only[go_sem];rfl),rfl,Xab _⟩,?_⟩;rintro ρ H ⟨k,hk,e0,X,e2,F,J,E,O,af⟩;simp only[go_sem,J,E];refine aA (fun A=>?_) (fun Y=>?_)
 ·have A:=ltB (by omega);obtain⟨u,hu⟩:=aI A;have b1:=inB A;rw[zS hu]at O;simp only[go_sem,F,E,aC hu,b1];refine aJ fun i8 T=>?_
  simp only[go_sem,e0,X,e2,F,J,E];refine bP T (by simp[dJ]) fun aa (R8:aa i8=some ((⟨123,2,[aL u]⟩:Row))) N=>?_
  clear N T;simp only[go_sem,X,];apply aA <;> intro hb
  ·have ac:b.length<=k:=by grind
   simp only[go_sem];refine bZ ?_;rw[O,List.drop_of_length_le ac];rfl
  have U:k<b.length:=by grind
  obtain⟨v,hv⟩:=aI U;have b2:=inB U;rw[zS hv]at O;simp only[go_sem,X,aC hv,b2];refine aJ fun i9 ab=>?_
  simp only[go_sem,e0,X,e2,F,J,E,R8];refine bP ab (by simp[dJ]) fun Z (R9:Z i9=some ((⟨123,2,[aL v]⟩:Row))) N=>?_
  replace R8:=(N R8).2;simp only[go_sem,e2,R9,R8];refine aO (Vv u v) ?_;simp only[go_sem];apply aA <;> intro hb
  ·have hc:¬O5 u v=0:=by grind
   simp only[go_sem];refine bZ ?_;rw[O];show _=or2 (O5 u v) _;simp_all[or2]
  ·have hc:O5 u v=0:=by grind
   simp only[go_sem,e0,X,e2,F,J,E,aW k];refine⟨⟨k+1,A,rfl,?_,U⟩,msr A⟩;rw[O];show or2 (O5 u v) _=_;simp_all[or2]
 have Y:=geB hk (by omega);subst Y;rw[Xca]at O;simp only[go_sem,e0,X,Xaa];apply aA <;> intro hb
 ·have hb:a.length<b.length:=by grind
  simp only[go_sem];refine bZ ?_;obtain⟨v,hv⟩:=aI hb;rw[O,zS hv];rfl
 ·have hb:¬a.length<b.length:=by grind
  simp only[go_sem];refine bZ ?_;rw[O,List.drop_of_length_le (by omega)];rfl
def awP(a b:List Visit)(A:a.length<=1048576):PC prog 215 [.sl (a.map aL),.sl (b.map aL)] (boo (decide (aeN a b<0))):=by refine pcd func215 rfl rfl ?_;simp only[go_sem];refine aO (asN a b A) ?_;simp only[go_sem];exact .refl _
end Sq
namespace Sq
open Go.Proofs.Tryz
open Go.Proofs.YthephioccidfgaaGreatDoor.Nu (ltB geB)
open Mv (bZ cL aR)
def eqV(w v:Visit):Bool:=w.order == v.order&&(w.drop == v.drop&&true)
def tS(l:List Visit)(w:Visit):Bool:= !decide (cD l w<0)
def Ce(W l:List Visit)(v:Visit):Bool:=(W.takeWhile fun w=> !eqV w v).all (tS l)
def Xc(x:Instance)(l:List Visit)(v:Visit):Bool:=x.before.all fun q=>(q.b != v.order)||(eN x.orders q.a).all (tS l)
def rC(x:Instance)(l:List Visit)(v:Visit):Bool:=(!decide (cD l v>=0)&&Ce (eN x.orders v.order) l v)&&Xc x l v
def asS{α:Type}{p:α->Bool}{W:List α}{k:Nat}(h:∀u∈W.take k,p u=true):W.takeWhile p=W.take k++(W.drop k).takeWhile p:=by grind[List.take_append_drop,List.takeWhile_append_of_pos]
def ZB{W l:List Visit}{v:Visit}{k:Nat}(h:∀u∈W.take k,eqV u v=false/\tS l u=true):Ce W l v=Ce (W.drop k) l v:=by
 unfold Ce;rw[asS (k:=k) (fun u A=>by grind),List.all_append]
 grind
def awG(x:Instance)(l:List Visit)(v:Visit)(hl:l.length<=1048576)(hb:x.before.length<=1048576):PC prog 216 [.agg (aE x),.sl (l.map aL),.agg (aL v)] (boo (rC x l v)):=by
 refine pcd func216 rfl rfl ?_;simp only[go_sem];refine aO (EI l v hl) ?_;simp only[go_sem];apply aA <;> intro c1
 ·simp only[go_sem]
  grind[cL,rC]
 have c1:decide (cD l v>=0)=false:=c1;have hW:=vZ x.orders v.order;simp only[go_sem];refine aO (vL x.orders v.order) ?_;simp only[go_sem,Xaa];have hr:rC x l v=(Ce (eN x.orders v.order) l v&&Xc x l v):=by grind[rC]
 generalize eN x.orders v.order=W at *;refine KG (fun al _=>al 1=.sl (l.map aL)/\al 3=.rp (aE x) 0/\al 5=.rp (aL v) 0/\Ce W l v=true) ?_ fun Q hQ au=>?_
 ·rintro ρ H ⟨h1,h3,h5,ao⟩;rw[ao,Xbc]at hr;simp only[go_sem,h3,Xaa];refine⟨fun ρ H=>∃(k:Nat),k<=x.before.length/\ρ 1=.sl (l.map aL)/\ρ 3=.rp (aE x) 0/\ρ 5=.rp (aL v) 0/\ρ 36=.sl (x.before.map cZ)/\ρ 37=int (x.before.length:Nat)/\ρ 38=int k/\(∀q∈x.before.take k,((q.b != v.order)||(eN x.orders q.a).all (tS l))=true),fun ρ _=>x.before.length-aU (ρ 38),⟨0,Xab _,by simp only[go_sem,h1,],h3,h5,by rfl,by rfl,(by rfl),by simp⟩,?_⟩;rintro ρ H ⟨k,hk,T,X,U,O,J,E,hz⟩;simp only[go_sem,J,E];refine aA (fun A=>?_) (fun Z=>?_)
  ·have A:=ltB (by omega);obtain⟨q,hq⟩:=aI A;have b1:=inB A;simp only[go_sem,O,E,aC hq,b1];refine aJ fun ay ab=>?_
   simp only[go_sem,T,X,U,O,J,E];refine bP ab (by simp[nU]) fun ah (ap:ah ay=some (⟨92,2,[cZ q]⟩)) N=>?_
   clear N ab;simp only[go_sem,U,ap];refine⟨by decide,aA (fun F=>?_) (fun F=>?_)⟩
   ·simp only[go_sem,T,X,U,O,J,E,aW k];exact⟨⟨k+1,A,rfl,aR (p:=fun q:Pair=>((q.b != v.order)||(eN x.orders q.a).all (tS l))=true) hq (by grind) hz⟩,msr A⟩
   have F:(q.b != v.order)=false:=F;have hV:=vZ x.orders q.a;simp only[go_sem,X,ap];refine⟨by decide,PC.use (vL x.orders q.a) ?_⟩;simp only[go_sem,Xaa];have az:((q.b != v.order)||(eN x.orders q.a).all (tS l))=(eN x.orders q.a).all (tS l):=by grind
   generalize a0:eN x.orders q.a=V at *;refine⟨fun ρ _=>∃m:Nat,m<=V.length/\ρ 1=.sl (l.map aL)/\ρ 3=.rp (aE x) 0/\ρ 5=.rp (aL v) 0/\ρ 36=.sl (x.before.map cZ)/\ρ 37=int x.before.length/\ρ 38=int (k:Nat)/\ρ 51=.sl (V.map aL)/\ρ 52=int V.length/\ρ 53=int (m:Nat)/\∀u∈V.take m,tS l u=true,fun ρ _=>V.length-aU (ρ 53),⟨0,Xab _,by simp only[go_sem,T,],by simp only[go_sem,X,],by simp only[go_sem,U,],by simp only[go_sem,O,],J,E,by rfl,by rfl,by rfl,by simp⟩,?_⟩;rintro ρ H ⟨m,hm,T,X,U,O,J,E,an,am,ac,hy⟩;simp only[go_sem,am,ac];refine aA (fun af=>?_) (fun ar=>?_)
   ·have af:=ltB (by omega);obtain⟨u,hu⟩:=aI af;have b2:=inB af;simp only[go_sem,an,ac,aC hu,b2];refine aJ fun aw aa=>?_
    simp only[go_sem,T,X,U,O,J,E,an,am,ac];refine bP aa (by simp[dJ]) fun aj (ax:aj aw=some ((⟨123,2,[aL u]⟩:Row))) N=>?_
    clear N aa;simp only[go_sem,T,ax];refine aO (EI l u hl) ?_;simp only[go_sem];apply aA <;> intro av
    ·simp only[go_sem];refine cL ?_;have Y:tS l u=false:=by grind[tS]
     rw[hr];unfold Xc
     grind
    ·have Y:tS l u=true:=by grind[tS]
     simp only[go_sem,T,X,U,O,J,E,an,am,ac,aW m];exact⟨⟨m+1,af,rfl,aR (p:=fun u:Visit=>tS l u=true) hu Y hy⟩,by grind[aN]⟩
   have ar:=geB hm (by omega);subst ar;rw[Xad]at hy;simp only[go_sem,T,X,U,O,J,E,aW k];exact⟨⟨k+1,A,rfl,aR (p:=fun q:Pair=>((q.b != v.order)||(eN x.orders q.a).all (tS l))=true) hq (by grind) hz⟩,msr A⟩
  have Z:=geB hk (by omega);subst Z;rw[Xad]at hz;simp only[go_sem]
  grind[cL,Xc]
 refine⟨fun ρ H=>∃(k:Nat),k<=W.length/\ρ 1=.sl (l.map aL)/\ρ 3=.rp (aE x) 0/\ρ 5=.rp (aL v) 0/\ρ 21=.sl (W.map aL)/\ρ 22=int (W.length:Nat)/\ρ 23=int k/\(∀u∈W.take k,eqV u v=false/\tS l u=true),fun ρ _=>W.length-aU (ρ 23),⟨0,Xab _,rfl,rfl,rfl,rfl,rfl,(by rfl),by simp⟩,?_⟩;rintro ρ H ⟨k,hk,T,X,U,ai,ak,ae,hz⟩;simp only[go_sem,ak,ae];refine aA (fun A=>?_) (fun Z=>?_)
 ·have A:=ltB (by omega);obtain⟨u,hu⟩:=aI A;have b1:=inB A;have hp:=ZB (l:=l) (v:=v) hz;rw[zS hu]at hp;simp only[go_sem,ai,ae,aC hu,b1];refine aJ fun i8 ag=>?_
  simp only[go_sem,T,X,U,ai,ak,ae];refine bP ag (by simp[dJ]) fun aq (R8:aq i8=some ((⟨123,2,[aL u]⟩:Row))) N=>?_
  clear N ag;simp only[go_sem,U,R8];apply aA <;> intro F
  ·have F:eqV u v=true:=F;simp only[go_sem];refine hQ _ _ ⟨by simp only[go_sem,T,],by simp only[go_sem,X,],by simp only[go_sem,U,],?_⟩
   grind[Ce,List.takeWhile_cons]
  have F:eqV u v=false:=F;simp only[go_sem,T,R8];refine aO (EI l u hl) ?_;simp only[go_sem];apply aA <;> intro av
  ·have Y:tS l u=false:=by grind[tS]
   simp only[go_sem];refine au _ _ ?_;simp only[go_sem]
   grind[cL,Ce,List.takeWhile_cons]
  ·have Y:tS l u=true:=by grind[tS]
   simp only[go_sem,T,X,U,ai,ak,ae,aW k];exact⟨⟨k+1,A,rfl,aR (p:=fun u:Visit=>eqV u v=false/\tS l u=true) hu ⟨F,Y⟩ hz⟩,msr A⟩
 have Z:=geB hk (by omega);subst Z;have hp:=ZB (l:=l) (v:=v) hz;rw[Xca]at hp;simp only[go_sem];exact hQ _ _ ⟨by simp only[go_sem,T,],by simp only[go_sem,X,],by simp only[go_sem,U,],hp⟩
def OJ(x:Instance)(i:Nat):Bool:=match x.orders[i]? with|some o=>o.off|none=>false
def If(x:Instance)(set:Int)(i:Nat):Bool:=(decide ((i:Int)>62)||(sI .and .i64 (shV .shr .i64 set (i:Nat)) 1 == 0))||OJ x i
def AW(x:Instance)(set:Int)(l:List Visit)(i:Nat):List Visit:=if If x set i=true then[]else(eN x.orders (i:Nat)).filter (rC x l)
def wN(x:Instance)(set:Int)(l:List Visit)(k:Nat):List Visit:=(List.range k).flatMap (AW x set l)
def oM(x:Instance)(set:Int)(l:List Visit):List Visit:=wN x set l x.orders.length
def Hz(x:Instance)(set:Int)(l:List Visit)(k:Nat):wN x set l (k+1)=wN x set l k++AW x set l k:=by grind[wN,Xbv]
def Ws(x:Instance)(set:Int)(l:List Visit)(i:Nat):(AW x set l i).length<=2:=by grind[AW,vZ]
def Ek(x:Instance)(set:Int)(l:List Visit):∀k,(wN x set l k).length<=2*k
 | 0=>Xae _
 | k+1=>by rw[Hz,Xaf];have:=Ek x set l k;have:=Ws x set l k;omega
abbrev ayM(l:List Visit):Row:=⟨123,2,l.map aL⟩
def RD{α:Type}{p:α->Bool}{l:List α}{k:Nat}{a:α}(h:l[k]?=some a):(l.take (k+1)).filter p=(l.take k).filter p++(if p a=true then[a]else[]):=by simp_all[aZ,List.filter_cons]
def arO(x:Instance)(set:Int)(l:List Visit)(hl:l.length<=1048576)(hb:x.before.length<=1048576)(hx:x.orders.length<=100000):PC prog 185 [.agg (aE x),int set,.sl (l.map aL)] (.sl ((oM x set l).map aL)):=by
 refine pcb (fun t=>t == 7) func185 rfl rfl ?_;simp only[go_sem];refine fR fun j al an (R:al j=some (ayM [])) N=>?_
 simp only[go_sem];refine⟨fun ρ H=>∃(k:Nat) (j:Nat),k<=x.orders.length/\ρ 1=int set/\ρ 2=.sl (l.map aL)/\ρ 3=.rp (aE x) 0/\ρ 13=.sl (x.orders.map aY)/\ρ 14=int (x.orders.length:Nat)/\ρ 15=int k/\ρ 7=.os j/\H j=some (ayM (wN x set l k)),fun ρ _=>x.orders.length-aU (ρ 15),⟨0,j,Xab _,rfl,rfl,rfl,rfl,rfl,(by rfl),rfl,R⟩,?_⟩;rintro ρ H ⟨k,j,hk,Z,e2,X,E,J,A,e7,R⟩;simp only[go_sem,J,A];refine aA (fun O=>?_) (fun af=>?_)
 ·have O:=ltB (by omega);obtain⟨o,ho⟩:=aI O;have b1:=inB O;have hs:=Hz x set l k;have ap:=Ek x set l k;have aq:OJ x k=o.off:=by grind[OJ]
  have am:If x set k=((decide ((k:Int)>62)||(sI .and .i64 (shV .shr .i64 set (k:Nat)) 1 == 0))||o.off):=by grind[If]
  have hA:AW x set l k=if If x set k=true then[]else(eN x.orders (k:Nat)).filter (rC x l):=rfl
  rw[hA,am]at hs;generalize wN x set l k=L at *;simp only[go_sem,E,A,aC ho,b1];refine aJ fun i9 aj=>?_
  simp only[go_sem,Z,e2,X,E,J,A,e7,R];refine bP aj (by simp[lX]) fun ag (R9:ag i9=some ((⟨78,16,[aY o]⟩:Row))) N=>?_
  replace R:=(N R).2;simp only[go_sem,Z,R9];refine⟨fun _=>by omega,?_⟩;apply aA <;> intro hc
  ·rw[if_pos hc,Xbl]at hs;simp only[go_sem,Z,e2,X,E,J,A,e7,aW k];refine⟨⟨k+1,j,O,rfl,rfl,?_⟩,msr O⟩
   grind
  rw[if_neg (by grind)]at hs;simp only[go_sem,X,];refine aO (vL x.orders (k:Nat)) ?_;simp only[go_sem,Xaa];have hV:=vZ x.orders (k:Nat);generalize eN x.orders (k:Nat)=V at *;refine⟨fun ρ H=>∃m j:Nat,m<=V.length/\ρ 1=int set/\ρ 2=.sl (l.map aL)/\ρ 3=.rp (aE x) 0/\ρ 13=.sl (x.orders.map aY)/\ρ 14=int x.orders.length/\ρ 15=int (k:Nat)/\ρ 36=.sl (V.map aL)/\ρ 37=int V.length/\ρ 38=int (m:Nat)/\ρ 7=.os j/\H j=some (ayM (L++(V.take m).filter (rC x l))),fun ρ _=>V.length-aU (ρ 38),⟨0,j,Xab _,by simp only[go_sem,Z,],by simp only[go_sem,e2,],by simp only[go_sem,X,],by simp only[go_sem,E,],by simp only[go_sem,J,],A,by rfl,by rfl,by rfl,e7,by grind⟩,?_⟩;rintro ρ H ⟨m,j,hm,Z,e2,X,E,J,A,aa,Y,T,e7,R⟩;simp only[go_sem,Y,T];refine aA (fun U=>?_) (fun ah=>?_)
  ·have U:=ltB (by omega);obtain⟨u,hu⟩:=aI U;have b2:=inB U;have ac:=RD (p:=rC x l) hu;have ar:((V.take m).filter (rC x l)).length<=2:=Xal (List.length_filter_le _ _) (by grind);simp only[go_sem,aa,T,aC hu,b2];generalize (V.take m).filter (rC x l)=F at *;refine aJ fun i11 ab=>?_
   simp only[go_sem,Z,e2,X,E,J,A,aa,Y,T,e7,R];refine bP ab (by simp[dJ]) fun ae (ai:ae i11=some ((⟨123,2,[aL u]⟩:Row))) N=>?_
   replace R:=(N R).2;simp only[go_sem,e2,X,ai];refine aO (awG x l u hl hb) ?_;simp only[go_sem];apply aA <;> intro ak
   ·rw[if_pos ak]at ac;simp only[go_sem,e7,ai];refine bC R ⟨rfl,rfl⟩ (by simp only[go_sem]) (by grind) (fun j2 ao=>?_);simp only[go_sem,Z,e2,X,E,J,A,aa,Y,T,aW m];refine⟨⟨m+1,j2,U,rfl,rfl,?_⟩,by grind[aN]⟩;rw[ac,<-Xbk,aB];simp
   ·rw[if_neg (by grind),Xbl]at ac;simp only[go_sem,Z,e2,X,E,J,A,aa,Y,T,e7,aW m];refine⟨⟨m+1,j,U,rfl,rfl,?_⟩,by simp only[aN];omega⟩
    grind
  have ah:=geB hm (by omega);subst ah;rw[Xad]at R;simp only[go_sem,Z,e2,X,E,J,A,e7,aW k];refine⟨⟨k+1,j,O,rfl,rfl,?_⟩,msr O⟩
  grind
 have af:=geB hk (by omega);subst af;simp only[go_sem,e7];exact .row _ _ _ R (ConvE.refl _)
end Sq
end Go.Proofs.YthephioccidfgaaGreatDoor
section
namespace Go.Aw
open Go.RowKit
section
variable{P:Program}{f:FuncId}{args:List AV}{H:aG}{K:AV->aG->Prop}{r:AV}
def Sup(H H':aG):Prop:=∀k row,H k=some row->H' k=some row
def Qg(H:aG)(r:AV)(a:AV)(H':aG):Prop:=Sup H H'/\∃l:List Nat,(∀k,k∈l->H k=none)/\Conv (fun k=>if k∈l then H' k else none) a r
def bK.data(h:bK P f args H (Qg H r))(Y:K r H):bK P f args H K:=by
 intro S w vals hS U;refine(h S w vals hS U).mono fun e w' ⟨v,x,H',S',he,⟨hm,l,X,T⟩,F,Z,O,hn⟩=>?_
 obtain⟨h1,J,h3⟩:=F.frz l;refine⟨v,r,H,S'.froze _,he,Y,h1.drop (fun k row E=>?_),T.rep h3 Z,O.trans J,fun k _ h0=>h0⟩;have A:¬k∈l:=fun A=>by rw[X k A]at E;cases E
 show(if k∈l then none else H' k)=some row;rw[if_neg A];exact hm k row E
def LC(P:Program)(f:FuncId)(args:List AV)(H:aG)(r:AV):Prop:=∀K:AV->aG->Prop,K r H->bK P f args H K
def LC.use(h:LC P f args H r)(A:K r H):bK P f args H K:=h K A
def LC.body{fn:Func}{c:Code}(mt:Nat->Bool)(F:P.follows .mixedOrders=true)(O:P.funcs[f]?=some fn)(E:fn.body=some c)(A:Dz fn c args.length=true)
 (h:awp P (bK P) (dS P) mt c (Lp P fn.results.toList (Qg H r)) (Ip args) H):LC P f args H r:=fun K J=>bK.data (bK.body mt F O E A h) J
theorem Sup.refl(H:aG):Sup H H:=fun _ _ h=>h
def Sup.upd{H H':aG}(h:Sup H H'){i:Nat}(E:H i=none)(a:Option Row):Sup H (aH H' i a):=fun k row A=>by rw[aD _ _ _ _ (fun e=>by subst e;rw[E]at A;cases A)];exact h k row A
def Sup.none{H H':aG}(h:Sup H H'){i:Nat}(A:H' i=none):H i=none:=by
 cases e:H i with
 | none=>rfl
 | some row=>rw[h i row e]at A;cases A
def Sup.eq{H A B:aG}(h:Sup H A)(e:A=B):Sup H B:=e▸h
def Sup.at{H H':aG}(h:Sup H H'){i:Nat}{row:Row}(A:H i=some row):H' i=some row:=h i row A
def Sup.ne{H H':aG}(h:Sup H H'){i j:Nat}{row:Row}(E:H i=some row)(A:H j=.none):i≠j:=fun e=>by subst e;rw[E]at A;cases A
theorem Qg.flat{H H':aG}(h:Sup H H')(r:AV):Qg H r r H':=⟨h,[],by simp,.refl r⟩
def qF{l:List Nat}{H A:aG}{K:Env->aG->Prop}{ρ:Env}(F:∀k,k∉l->A k=H k)(h:K ρ H):sN l H K ρ A:=fun _ J h1 E=>by
 have:J=H:=funext fun k=>by
  by_cases e:k∈l
  ·exact h1 k e
  ·rw[E k e,F k e]
 rw[this];exact h
def vP{l:List Nat}{H E:aG}{K:Env->aG->Prop}{ρ:Env}{i:Nat}{r:Option Row}(O:∀k,k∉l->E k=H k)(J:i∉l)(h:K ρ (aH H i r)):sN l H K ρ (aH E i r):=fun _ T h1 F=>by
 have:T=aH H i r:=funext fun k=>by
  by_cases e:k∈l
  ·rw[h1 k e,aD _ _ _ _ (fun A=>J (by rw[<-A];exact e))]
  ·rw[F k e];by_cases A:k=i
   ·subst A;rw[aB,aB]
   ·rw[aD _ _ _ _ A,aD _ _ _ _ A,O k e]
 rw[this];exact h
def sU{l:List Nat}{H F:aG}{K:Env->aG->Prop}{ρ:Env}{i:Nat}{a:Option Row}{b:Row}(J:∀k,k∉l->F k=H k)(T:F i=none)(h:H i=none->K ρ (aH (aH H i a) i (some b))):sN l H K ρ (aH (aH F i a) i (some b)):=fun h0 U h1 O=>by
 have E:i∉l:=fun e=>by have:=h0 i e;rw[aB]at this;cases this
 have:U=aH (aH H i a) i (some b):=funext fun k=>by
  by_cases e:k∈l
  ·rw[h1 k e,aD _ _ _ _ (fun A=>E (by rw[<-A];exact e)),aD _ _ _ _ (fun A=>E (by rw[<-A];exact e))]
  ·rw[O k e];by_cases A:k=i
   ·subst A;rw[aB,aB]
   ·rw[aD _ _ _ _ A,aD _ _ _ _ A,aD _ _ _ _ A,aD _ _ _ _ A,J k e]
 rw[this];exact h ((J i E).symm.trans T)
end
end Go.Aw
end
namespace Go.Proofs.YthephioccidfgaaGreatDoor
open Go.Aw Go.Aw.D Go.Proofs Ty
namespace Sq
open Go.Proofs.YthephioccidfgaaGreatDoor.Nu (ltB geB)
open Mv (bZ cL aR)
def LG(L:List Nat):Nat:=(L.map fun a=>2^62-a).sum
def TX:∀{L:List Nat} {i u v:Nat},L[i]?=some u->u<v->v<=2^62->LG (L.set i v)<LG L
 | [],i,u,v,h,_,_=>by grind
 | a::L,0,u,v,h,h1,h2=>by
  have:a=u:=by grind
  subst this;show(2^62-v)+(L.map fun a=>2^62-a).sum<(2^62-a)+(L.map fun a=>2^62-a).sum;omega
 | a::L,i+1,u,v,h,h1,h2=>by
  have:=TX (L:=L) (i:=i) (by grind) h1 h2
  grind[LG]
abbrev II(L:List Nat):Row:=⟨3,1,L.map fun n=>[int (n:Nat)]⟩
def aA6:List AV->Nat
 | [.v (.int _ a)]=>2^62-a.toNat
 | _=>0
def asC(x b:AV)(H:aG):Nat:=match x,b with
 | .os j,.v (.bool true)=>match H j with
   | some r=>(r.es.map aA6).sum+1
   | none=>0
 | _,_=>0
theorem ajM{j:Nat}{H:aG}{L:List Nat}(h:H j=some (II L)):asC (.os j) (boo true) H=LG L+1:=by unfold asC;simp only[h,List.map_map];rfl
theorem ayS{j:Nat}{H:aG}:asC (.os j) (boo false) H=0:=rfl
def amS{s:Int}{a:Int}(h:a∈eY s):∃k:Nat,a=(k:Nat):=by grind[eY,qP]
def ajV(s:Int):(eY s).length<=63:=by
 unfold eY qP
 grind
end Sq
namespace Sq
structure Lab where
 ready:Int
 since:Int
 sheet:Sheet
def FW:Tm:=⟨0,0,0,false⟩
def cM(s:Sheet)(k:Nat)(b:Bool)(d:Int):Sheet:=match k with
 | 0=>{ s with rest:=b,depart:=d }
 | j+1=>{ s with times:=s.times.set j ⟨(s.times.getD j FW).arrive,(s.times.getD j FW).begin_,d,b⟩ }
def fI(t:VType)(l:Lab)(b:Bool):Int:=if b=true then W (l.ready+t.rest)else l.ready
def nY(l:Lab)(b:Bool):Int:=if b=true then 0 else l.since
def goL(x:Instance)(t:VType)(p q:Int)(l:Lab)(b:Bool):Int×Int×Int:=fB x.net t.profile p q (fI t l b)
def mL(x:Instance)(t:VType)(p q:Int)(l:Lab)(b:Bool):Int:=W (W (nY l b+(goL x t p q l b).1)-fI t l b)
def iV(x:Instance)(t:VType)(p:Int)(s:Stop)(k:Nat)(l:Lab)(b:Bool):Sheet:=
 { cM l.sheet k b (fI t l b)with
   times:=(cM l.sheet k b (fI t l b)).times++[⟨(goL x t p s.place l b).1,eF (goL x t p s.place l b).1 s.start,0,false⟩]
   miles:=W (l.sheet.miles+(goL x t p s.place l b).2.1) }
def pD(x:Instance)(t:VType)(p:Int)(s:Stop)(k:Nat)(l:Lab)(b:Bool):Except Int Lab:=
 if((goL x t p s.place l b).2.2 != 0)=true then .error 12
 else if eF (goL x t p s.place l b).1 s.start>s.close then .error 14
 else if mL x t p s.place l b>t.drive then .error 16
 else .ok ⟨W (eF (goL x t p s.place l b).1 s.start+s.service),mL x t p s.place l b,iV x t p s k l b⟩
def K8(x:Instance)(t:VType)(p:Int)(k:Nat)(l:Lab)(b:Bool):Sheet:=
 { cM l.sheet k b (fI t l b)with
   end_:=(goL x t p t.dst l b).1
   miles:=W (l.sheet.miles+(goL x t p t.dst l b).2.1) }
def rZ(x:Instance)(t:VType)(p:Int)(k:Nat)(l:Lab)(b:Bool):Except Int Lab:=
 if((goL x t p t.dst l b).2.2 != 0)=true then .error 12
 else if(goL x t p t.dst l b).1>t.close then .error 15
 else if mL x t p t.dst l b>t.drive then .error 16
 else .ok ⟨(goL x t p t.dst l b).1,mL x t p t.dst l b,K8 x t p k l b⟩
def EU(x:Instance)(t:VType):List Visit->List Bool->Int->Nat->Lab->Except Int Lab
 | [],b::_,p,k,l=>rZ x t p k l b
 | v::vs,b::bs,p,k,l=>match pD x t p (bI x v).1 k l b with
   | .error e=>.error e
   | .ok l'=>EU x t vs bs (bI x v).1.place (k+1) l'
 | _,[],_,_,l=>.ok l
def eZ(t:VType)(r:Route):Lab:=⟨eF t.start r.start,0,aS⟩
theorem oG(s:Sheet)(k:Nat)(b:Bool)(d:Int):(cM s k b d).miles=s.miles/\(cM s k b d).end_=s.end_/\(cM s k b d).times.length=s.times.length:=by cases k <;> simp[cM]
def zE(t:VType)(p:Int)(l:Lab)(m:Int)(b:Bool):nW t ⟨p,l.ready,l.since,m⟩ b=⟨p,fI t l b,nY l b,m⟩:=by unfold nW fI nY;cases b <;> rfl
def Z0{a s c:Int}(h:s<=c):(eF a s>c)↔a>c:=by unfold eF;split <;> omega
def M6{x:Instance}{t:VType}{p:Int}{l:Lab}{b:Bool}{q c A:Int}:
  oT x t ⟨p,fI t l b,nY l b,l.sheet.miles⟩ q c A =
   if((goL x t p q l b).2.2 != 0)=true then(⟨p,fI t l b,nY l b,l.sheet.miles⟩,12)
   else if(goL x t p q l b).1>c then(⟨p,fI t l b,nY l b,l.sheet.miles⟩,A)
   else if mL x t p q l b>t.drive then(⟨p,fI t l b,nY l b,l.sheet.miles⟩,16)
   else(⟨q,(goL x t p q l b).1,mL x t p q l b,W (l.sheet.miles+(goL x t p q l b).2.1)⟩,0):=by
 unfold oT goL mL;by_cases h:(fB x.net t.profile p q (fI t l b)).2.2=0
 ·simp only[h];rfl
 ·have:((fB x.net t.profile p q (fI t l b)).2.2 == 0)=false:=by simpa using h
  have E:((fB x.net t.profile p q (fI t l b)).2.2 != 0)=true:=by simpa using h
  simp only[this,E];rfl
def TR(x:Instance)(t:VType):∀(vs:List Visit) (bs:List Bool) (b:Bool) (p:Int) (k:Nat) (l:Lab) (dr:List Int),bs.length=vs.length->l.sheet.times.length=k ->
   (∀v∈vs,(bI x v).1.start<=(bI x v).1.close) ->
   match (vs.zip bs).foldlM (nF x t) (nW t ⟨p,l.ready,l.since,l.sheet.miles⟩ b,dr,(cM l.sheet k b (fI t l b)).times)with
   | .error e=>EU x t vs (b::bs) p k l=.error e
   | .ok a=>if((oT x t a.1 t.dst t.close 15).2 != 0)=true then EU x t vs (b::bs) p k l=.error (oT x t a.1 t.dst t.close 15).2
     else ∃l',EU x t vs (b::bs) p k l=.ok l'/\l'.sheet=⟨(cM l.sheet k b (fI t l b)).rest,(cM l.sheet k b (fI t l b)).depart,a.2.2,(oT x t a.1 t.dst t.close 15).1.time,(oT x t a.1 t.dst t.close 15).1.miles⟩
 | [],bs,b,p,k,l,dr,hb,hk,_=>by
   simp only[List.zip_nil_left,List.foldlM_nil];show if((oT x t (nW t ⟨p,l.ready,l.since,l.sheet.miles⟩ b) t.dst t.close 15).2 != 0)=true then _ else _
   rw[zE,M6];unfold EU rZ;by_cases h1:((goL x t p t.dst l b).2.2 != 0)=true
   . simp only[h1,if_true];exact(if_pos (by decide)).mpr trivial
   by_cases E:(goL x t p t.dst l b).1>t.close
   . simp only[h1,E,if_true,if_false,Xbi];exact(if_pos (by decide)).mpr trivial
   by_cases h3:mL x t p t.dst l b>t.drive
   . simp only[h1,E,h3,if_true,if_false,Xbi];exact(if_pos (by decide)).mpr trivial
   . simp only[h1,E,h3,if_false,Xbi];refine(if_neg (by decide)).mpr ⟨_,rfl,?_⟩;unfold K8;rfl
 | v::vs,[],b,p,k,l,dr,hb,_,_=>by simp at hb
 | v::vs,b1::bs,b,p,k,l,dr,hb,hk,hs=>by
   have O:=hs v (by simp);rw[List.zip_cons_cons,List.foldlM_cons];unfold EU;have A:tC x t (nW t ⟨p,l.ready,l.since,l.sheet.miles⟩ b,dr,(cM l.sheet k b (fI t l b)).times) v=_:=(congrArg (fun s=>oT x t s (bI x v).1.place (bI x v).1.close 14) (zE t p l l.sheet.miles b)).trans M6;generalize Y:(bI x v).1=s at A O |-;unfold pD;by_cases h1:((goL x t p s.place l b).2.2 != 0)=true
   . simp only[h1,if_true]at A |-;unfold nF;rw[A];rfl
   by_cases E:(goL x t p s.place l b).1>s.close
   . have F:=(Z0 O).2 E;simp only[h1,E,F,if_true,if_false,Xbi]at A |-;unfold nF;rw[A];rfl
   have F:¬eF (goL x t p s.place l b).1 s.start>s.close:=fun h=>E ((Z0 O).1 h)
   by_cases h3:mL x t p s.place l b>t.drive
   . simp only[h1,E,F,h3,if_true,if_false,Xbi]at A |-;unfold nF;rw[A];rfl
   simp only[h1,E,F,h3,if_false,Xbi]at A |-;have e1 : nF x t (nW t ⟨p, l.ready, l.since, l.sheet.miles⟩ b, dr, (cM l.sheet k b (fI t l b)).times) (v, b1) =
       .ok (Fy x t (nW t ⟨p,l.ready,l.since,l.sheet.miles⟩ b,dr,(cM l.sheet k b (fI t l b)).times) (v,b1)):=by
     unfold nF;rw[A];rfl
   rw[e1];show match (vs.zip bs).foldlM (nF x t) (Fy x t (nW t ⟨p,l.ready,l.since,l.sheet.miles⟩ b,dr,(cM l.sheet k b (fI t l b)).times) (v,b1))with
     | .error e=>_
     | .ok a=>_
   have X:(iV x t p s k l b).times.length=k+1:=by simp only[iV,Xaf,Xag,List.length_nil,(oG _ _ _ _).2.2,hk]
   have ih:=TR x t vs bs b1 s.place (k+1) ⟨W (eF (goL x t p s.place l b).1 s.start+s.service),mL x t p s.place l b,iV x t p s k l b⟩ (dr++[(tC x t (nW t ⟨p,l.ready,l.since,l.sheet.miles⟩ b,dr,(cM l.sheet k b (fI t l b)).times) v).1.driven])
     (by simpa using hb) X (fun u hu=>hs u (by simp[hu]))
   have e2 : Fy x t (nW t ⟨p, l.ready, l.since, l.sheet.miles⟩ b, dr, (cM l.sheet k b (fI t l b)).times) (v, b1) =
       (nW t ⟨s.place,W (eF (goL x t p s.place l b).1 s.start+s.service),mL x t p s.place l b,(iV x t p s k l b).miles⟩ b1,dr++[(tC x t (nW t ⟨p,l.ready,l.since,l.sheet.miles⟩ b,dr,(cM l.sheet k b (fI t l b)).times) v).1.driven],
         (cM (iV x t p s k l b) (k+1) b1 (fI t ⟨W (eF (goL x t p s.place l b).1 s.start+s.service),mL x t p s.place l b,iV x t p s k l b⟩ b1)).times):=by
     unfold Fy;rw[Y];simp only[A];have J:(cM l.sheet k b (fI t l b)).times.length=k:=by rw[(oG _ _ _ _).2.2,hk]
     have et:(nW t (OA s ⟨s.place,(goL x t p s.place l b).1,mL x t p s.place l b,W (l.sheet.miles+(goL x t p s.place l b).2.1)⟩) b1)=⟨s.place,fI t ⟨W (eF (goL x t p s.place l b).1 s.start+s.service),mL x t p s.place l b,iV x t p s k l b⟩ b1,nY ⟨W (eF (goL x t p s.place l b).1 s.start+s.service),mL x t p s.place l b,iV x t p s k l b⟩ b1,W (l.sheet.miles+(goL x t p s.place l b).2.1)⟩:=by exact zE t s.place ⟨W (eF (goL x t p s.place l b).1 s.start+s.service),mL x t p s.place l b,iV x t p s k l b⟩ _ b1
     rw[et];rw[zE t s.place ⟨W (eF (goL x t p s.place l b).1 s.start+s.service),mL x t p s.place l b,iV x t p s k l b⟩ _ b1];have U:((cM l.sheet k b (fI t l b)).times++[(⟨(goL x t p s.place l b).1,eF (goL x t p s.place l b).1 s.start,0,false⟩:Tm)]).getD k FW=⟨(goL x t p s.place l b).1,eF (goL x t p s.place l b).1 s.start,0,false⟩:=by rw[List.getD_eq_getElem?_getD,List.getElem?_append_right (by omega),J];simp
     have hT:(iV x t p s k l b).times=(cM l.sheet k b (fI t l b)).times++[⟨(goL x t p s.place l b).1,eF (goL x t p s.place l b).1 s.start,0,false⟩]:=rfl;have T:∀d,(cM (iV x t p s k l b) (k+1) b1 d).times=(cM l.sheet k b (fI t l b)).times++[⟨(goL x t p s.place l b).1,eF (goL x t p s.place l b).1 s.start,d,b1⟩]:=fun d=>by show(iV x t p s k l b).times.set k ⟨((iV x t p s k l b).times.getD k FW).arrive,((iV x t p s k l b).times.getD k FW).begin_,d,b1⟩=_;rw[hT,U,List.set_append_right _ _ (by omega),J];simp
     rw[T];rfl
   rw[e2];have Z : (cM (iV x t p s k l b) (k + 1) b1 (fI t ⟨W (eF (goL x t p s.place l b).1 s.start + s.service), mL x t p s.place l b, iV x t p s k l b⟩ b1)).rest = (cM l.sheet k b (fI t l b)).rest /\
       (cM (iV x t p s k l b) (k+1) b1 (fI t ⟨W (eF (goL x t p s.place l b).1 s.start+s.service),mL x t p s.place l b,iV x t p s k l b⟩ b1)).depart=(cM l.sheet k b (fI t l b)).depart:=⟨rfl,rfl⟩
   rw[Z.1,Z.2]at ih;exact ih
def azP{x:Instance}{r:Route}{t:VType}{b:Bool}{bs:List Bool}(T:bW x r=true)(U:x.types[r.type.toNat]?=some t)(J:bs.length=r.visits.length)
  (hs:∀v∈r.visits,(bI x v).1.start<=(bI x v).1.close):
  match EU x t r.visits (b::bs) t.src 0 (eZ t r)with
  | .error e=>(iL x r (b::bs)).1=aS/\(iL x r (b::bs)).2.2=e
  | .ok l=>(iL x r (b::bs)).1=l.sheet/\(iL x r (b::bs)).2.2=0:=by
 have Y:iL x r (b::bs)=aAI x r (b::bs) t b:=by
  unfold iL;rw[if_neg,U]
  ·rfl
  ·rw[T];simp[J]
 rw[Y];have h:=TR x t r.visits bs b t.src 0 (eZ t r) [] J rfl hs;unfold aAI;show match EU x t r.visits (b::bs) t.src 0 (eZ t r)with
  | .error e=>(match (r.visits.zip bs).foldlM (nF x t) (xE r t b,[],[])with| .error e=>(aS,[],e)| .ok a=>tX x t b (xE r t b) a:Sheet×List Int×Int).1=aS/\_
  | .ok l=>_
 have Z:(nW t ⟨t.src,(eZ t r).ready,(eZ t r).since,(eZ t r).sheet.miles⟩ b,([]:List Int),(cM (eZ t r).sheet 0 b (fI t (eZ t r) b)).times)=(xE r t b,[],[]):=rfl;rw[Z]at h;cases A:(r.visits.zip bs).foldlM (nF x t) (xE r t b,[],[])with
 | error e=>rw[A]at h;have h:EU x t r.visits (b::bs) t.src 0 (eZ t r)=.error e:=h;rw[h];exact⟨rfl,by show(match (r.visits.zip bs).foldlM (nF x t) (xE r t b,[],[])with| .error e=>(aS,[],e)| .ok a=>tX x t b (xE r t b) a:Sheet×List Int×Int).2.2=e;rw[A]⟩
 | ok a=>
  rw[A]at h;simp only at h;by_cases F:((oT x t a.1 t.dst t.close 15).2 != 0)=true
  ·rw[if_pos F]at h;rw[h];have E:tX x t b (xE r t b) a=(aS,[],(oT x t a.1 t.dst t.close 15).2):=if_pos F;refine⟨?_,?_⟩
   ·show(tX x t b (xE r t b) a).1=_;rw[E]
   ·show(match (r.visits.zip bs).foldlM (nF x t) (xE r t b,[],[])with| .error e=>(aS,[],e)| .ok a=>tX x t b (xE r t b) a:Sheet×List Int×Int).2.2=_;rw[A];show(tX x t b (xE r t b) a).2.2=_;rw[E]
  ·rw[if_neg F]at h;obtain⟨l',h1,O⟩:=h;rw[h1];have E:tX x t b (xE r t b) a=_:=if_neg F;have X:(xE r t b).time=fI t (eZ t r) b:=by have:=zE t t.src (eZ t r) 0 b;exact congrArg St8.time this
   refine⟨?_,?_⟩
   ·show(match (r.visits.zip bs).foldlM (nF x t) (xE r t b,[],[])with| .error e=>(aS,[],e)| .ok a=>tX x t b (xE r t b) a:Sheet×List Int×Int).1=_;rw[A];show(tX x t b (xE r t b) a).1=_;rw[E,O];show(⟨b,(xE r t b).time,a.2.2,_,_⟩:Sheet)=_;rw[X];rfl
   ·show(match (r.visits.zip bs).foldlM (nF x t) (xE r t b,[],[])with| .error e=>(aS,[],e)| .ok a=>tX x t b (xE r t b) a:Sheet×List Int×Int).2.2=_;rw[A];show(tX x t b (xE r t b) a).2.2=_;rw[E]
structure GoB(x:Instance)(t:VType):Prop where
 arrive:∀p q d,0<=d/\d<=12288->(fB x.net t.profile p q d).2.2=0->0<=(fB x.net t.profile p q d).1
 rest:0<=t.rest/\t.rest<=4096
 close:t.close<=4096
 drive:t.drive<=4096
structure StopB(s:Stop):Prop where
 start:0<=s.start
 close:s.close<=4096
 service:0<=s.service/\s.service<=4096
structure LabB(l:Lab)(k:Nat):Prop where
 ready:0<=l.ready/\l.ready<=8192
 since: -(12288*(k:Int))<=l.since/\l.since<=4096
def oI(l m:Lab):Prop:=l.ready=m.ready/\l.since<=m.since
theorem oI.refl(l:Lab):oI l l:=⟨rfl,Xaz _⟩
def oI.trans{a b c:Lab}(h:oI a b)(A:oI b c):oI a c:=⟨h.1.trans A.1,Int.le_trans h.2 A.2⟩
def atI{n:Int}(h: -9223372036854775808<=n/\n<=9223372036854775807):W n=n:=bD h
def FP{t:VType}{l:Lab}{k:Nat}(E:0<=t.rest/\t.rest<=4096)(A:LabB l k)(b:Bool):0<=fI t l b/\fI t l b<=12288:=by
 have:=A.ready;unfold fI;cases b with
 | false=>exact⟨this.1,by simp;omega⟩
 | true=>rw[if_pos rfl,atI (by omega)];omega
def N2{l:Lab}{k:Nat}(A:LabB l k)(b:Bool): -(12288*(k:Int))<=nY l b/\nY l b<=4096:=by
 unfold nY;cases b with
 | false=>exact A.since
 | true=>rw[if_pos rfl];omega
def FN{x:Instance}{t:VType}{p q:Int}{l:Lab}{b:Bool}{k:Nat}(T:k<=1048576)(E:GoB x t)(A:LabB l k)(h0:(goL x t p q l b).2.2=0)(h1:(goL x t p q l b).1<=4096):
  mL x t p q l b=nY l b+(goL x t p q l b).1-fI t l b/\0<=(goL x t p q l b).1:=by
 have F:=FP E.rest A b;have O:=N2 A b;have J:0<=(goL x t p q l b).1:=E.arrive p q _ F h0;unfold mL;rw[atI (n:=nY l b+(goL x t p q l b).1) (by omega),atI (by omega)];exact⟨rfl,J⟩
def IZ(a s:Int):a<=eF a s/\s<=eF a s:=by unfold eF;split <;> omega
def FG{x:Instance}{t:VType}{p:Int}{s:Stop}{k j:Nat}{l l':Lab}{b:Bool}(h:pD x t p s j l b=.ok l'):
  (goL x t p s.place l b).2.2=0/\eF (goL x t p s.place l b).1 s.start<=s.close/\mL x t p s.place l b<=t.drive /\
   l'=⟨W (eF (goL x t p s.place l b).1 s.start+s.service),mL x t p s.place l b,iV x t p s j l b⟩:=by
 unfold pD at h;split at h
 ·cases h
 ·rename_i h1;split at h
  ·cases h
  ·rename_i A;split at h
   ·cases h
   ·rename_i h3;injection h with h;exact⟨by simpa using h1,by omega,by omega,h.symm⟩
def J6{x:Instance}{t:VType}{p:Int}{j:Nat}{l l':Lab}{b:Bool}(h:rZ x t p j l b=.ok l'):
  (goL x t p t.dst l b).2.2=0/\(goL x t p t.dst l b).1<=t.close/\mL x t p t.dst l b<=t.drive /\
   l'=⟨(goL x t p t.dst l b).1,mL x t p t.dst l b,K8 x t p j l b⟩:=by
 unfold rZ at h;split at h
 ·cases h
 ·rename_i h1;split at h
  ·cases h
  ·rename_i A;split at h
   ·cases h
   ·rename_i h3;injection h with h;exact⟨by simpa using h1,by omega,by omega,h.symm⟩
def auK{x:Instance}{t:VType}{p:Int}{s:Stop}{k j:Nat}{l l':Lab}{b:Bool}(T:k<=1048576)(A:GoB x t)(F:StopB s)(E:LabB l k)(h:pD x t p s j l b=.ok l'):LabB l' (k+1):=by
 obtain⟨h0,h1,U,rfl⟩:=FG (k:=k) h;have hi:=IZ (goL x t p s.place l b).1 s.start;have Z:=F.close;have h3:=F.start;have Y:=F.service;obtain⟨e,ha⟩:=FN T A E h0 (by omega);have X:=FP A.rest E b;have O:=N2 E b;have J:=A.drive;refine⟨?_,?_⟩
 ·show 0<=W _/\W _<=8192;rw[atI (by omega)];omega
 ·show _<=mL x t p s.place l b/\mL x t p s.place l b<=4096;refine⟨?_,by omega⟩;rw[e];push_cast;omega
def aaO{x:Instance}{t:VType}{p q:Int}{l m:Lab}{b:Bool}(h:l.ready=m.ready):goL x t p q l b=goL x t p q m b/\fI t l b=fI t m b:=by
 have e:fI t l b=fI t m b:=by unfold fI;rw[h]
 exact⟨by unfold goL;rw[e],e⟩
def JV{x:Instance}{t:VType}{p:Int}{s:Stop}{k j:Nat}{l m J:Lab}{b:Bool}(U:k<=1048576)(O:GoB x t)(hs:StopB s)(Y:LabB l k)(hm:LabB m k)(F:oI l m)(h:pD x t p s j m b=.ok J):
  ∃l',pD x t p s j l b=.ok l'/\oI l' J:=by
 obtain⟨h0,h1,h2,rfl⟩:=FG (k:=k) h;obtain⟨A,X⟩:=aaO (x:=x) (t:=t) (p:=p) (q:=s.place) (b:=b) F.1;have hi:=IZ (goL x t p s.place m b).1 s.start;have hc:=hs.close;have Z:=(FN (p:=p) (q:=s.place) (b:=b) U O hm h0 (by omega)).1;have e2:=(FN (p:=p) (q:=s.place) (b:=b) U O Y (by rw[A];exact h0) (by rw[A];omega)).1;have T:nY l b<=nY m b:=by
  unfold nY;cases b with
  | false=>exact F.2
  | true=>exact Xaz _
 have E:mL x t p s.place l b<=mL x t p s.place m b:=by rw[Z,e2,A,X];omega
 refine⟨⟨W (eF (goL x t p s.place l b).1 s.start+s.service),mL x t p s.place l b,iV x t p s j l b⟩,?_,?_,E⟩
 ·unfold pD;rw[A,if_neg (by rw[h0];simp),if_neg (by omega),if_neg (by omega)]
 ·show W _=W _;rw[A]
def JP{x:Instance}{t:VType}{p:Int}{k j:Nat}{l m O:Lab}{b:Bool}(U:k<=1048576)(E:GoB x t)(Y:LabB l k)(hm:LabB m k)(J:oI l m)(h:rZ x t p j m b=.ok O):
  ∃l',rZ x t p j l b=.ok l'/\oI l' O:=by
 obtain⟨h0,h1,h2,rfl⟩:=J6 h;obtain⟨A,X⟩:=aaO (x:=x) (t:=t) (p:=p) (q:=t.dst) (b:=b) J.1;have hc:=E.close;have Z:=(FN (p:=p) (q:=t.dst) (b:=b) U E hm h0 (by omega)).1;have e2:=(FN (p:=p) (q:=t.dst) (b:=b) U E Y (by rw[A];exact h0) (by rw[A];omega)).1;have T:nY l b<=nY m b:=by
  unfold nY;cases b with
  | false=>exact J.2
  | true=>exact Xaz _
 have F:mL x t p t.dst l b<=mL x t p t.dst m b:=by rw[Z,e2,A,X];omega
 refine⟨⟨(goL x t p t.dst l b).1,mL x t p t.dst l b,K8 x t p j l b⟩,?_,?_,F⟩
 ·unfold rZ;rw[A,if_neg (by rw[h0];simp),if_neg (by omega),if_neg (by omega)]
 ·show(goL x t p t.dst l b).1=_;rw[A]
def eA(fixed:List Bool)(k:Nat):List Bool:=if k<fixed.length then[fixed.getD k false]else[false,true]
def eT(x:Instance)(t:VType)(r:Route):Nat->Int
 | 0=>t.src
 | k+1=>match r.visits[k]? with|some v=>(bI x v).1.place|none=>0
def fP(x:Instance)(t:VType)(r:Route)(k:Nat)(l:Lab)(b:Bool):Except Int Lab:=match r.visits[k]? with
 | some v=>pD x t (eT x t r k) (bI x v).1 k l b
 | none=>rZ x t (eT x t r k) k l b
def jL(x:Instance)(t:VType)(r:Route):List Bool->Nat->Lab->Except Int Lab
 | [],_,l=>.ok l
 | b::bs,k,l=>match fP x t r k l b with
   | .error e=>.error e
   | .ok l'=>jL x t r bs (k+1) l'
def anS{x:Instance}{t:VType}{r:Route}:∀(bs:List Bool) (k:Nat) (l:Lab),bs.length+k=r.visits.length+1->k<=r.visits.length->EU x t (r.visits.drop k) bs (eT x t r k) k l=jL x t r bs k l
 | [],k,l,h,hk=>by simp at h;omega
 | b::bs,k,l,h,hk=>by
  by_cases A:k<r.visits.length
  ·obtain⟨v,E⟩:=aI A;have O:r.visits.drop k=v::r.visits.drop (k+1):=by
    rw[List.drop_eq_getElem_cons A];have:r.visits[k]=v:=by rw[List.getElem?_eq_getElem A]at E;exact Option.some.inj E
    rw[this]
   rw[O];unfold EU jL fP;rw[E];have ih:=fun l'=>anS (x:=x) (t:=t) (r:=r) bs (k+1) l' (by simp at h;omega) (by omega)
   have J:eT x t r (k+1)=(bI x v).1.place:=by show(match r.visits[k]? with|some v=>(bI x v).1.place|none=>0)=_;rw[E]
   rw[J]at ih;show(match pD x t (eT x t r k) (bI x v).1 k l b with| .error e=>Except.error e| .ok l'=>EU x t (r.visits.drop (k+1)) bs (bI x v).1.place (k+1) l')=(match pD x t (eT x t r k) (bI x v).1 k l b with| .error e=>Except.error e| .ok l'=>jL x t r bs (k+1) l');cases pD x t (eT x t r k) (bI x v).1 k l b with
   | error e=>rfl
   | ok l'=>exact ih l'
  ·have T:k=r.visits.length:=by omega
   have F:bs=[]:=by
    have:bs.length=0:=by simp at h;omega
    exact Xcn this
   subst F;rw[List.drop_eq_nil_of_le (by omega)];unfold EU jL fP;rw[List.getElem?_eq_none (by omega)];show rZ x t (eT x t r k) k l b=match rZ x t (eT x t r k) k l b with| .error e=>Except.error e| .ok l'=>jL x t r [] (k+1) l'
   cases rZ x t (eT x t r k) k l b with
   | error e=>rfl
   | ok l'=>rfl
theorem mN{x:Instance}{t:VType}{r:Route}:∀(bs:List Bool) (b:Bool) (k:Nat) (l:Lab),jL x t r (bs++[b]) k l=match jL x t r bs k l with
  | .error e=>.error e
  | .ok l'=>fP x t r (k+bs.length) l' b
 | [],b,k,l=>by show(match fP x t r k l b with| .error e=>Except.error e| .ok l'=>jL x t r [] (k+1) l')=fP x t r (k+0) l b;cases fP x t r k l b <;> rfl
 | c::bs,b,k,l=>by
  show(match fP x t r k l c with| .error e=>Except.error e| .ok l'=>jL x t r (bs++[b]) (k+1) l')=match (match fP x t r k l c with| .error e=>Except.error e| .ok l'=>jL x t r bs (k+1) l')with| .error e=>Except.error e| .ok l'=>fP x t r (k+(bs.length+1)) l' b
  cases fP x t r k l c with
  | error e=>rfl
  | ok l'=>show jL x t r (bs++[b]) (k+1) l'=_;rw[mN bs b (k+1) l',show k+1+bs.length=k+(bs.length+1)by omega]
def yO(m l:Lab):Bool:=m.ready == l.ready&&decide (m.since<=l.since)
def K4{m l:Lab}:yO m l=true↔oI m l:=by unfold yO oI;simp
def xF(out:List Lab)(e:Except Int Lab):List Lab:=match e with
 | .error _=>out
 | .ok l=>if out.any (yO · l)=true then out else out++[l]
def Cn(x:Instance)(t:VType)(r:Route)(ls:List Lab)(k:Nat):List Lab:=(ls.flatMap fun l=>(eA r.rests k).map fun b=>fP x t r k l b).foldl xF []
def dpL(x:Instance)(t:VType)(r:Route):Nat->List Lab
 | 0=>[eZ t r]
 | k+1=>Cn x t r (dpL x t r k) k
def C7:∀(es:List (Except Int Lab)) (out:List Lab),
  (∀l∈es.foldl xF out,l∈out\/.ok l∈es)/\(∀l∈out,l∈es.foldl xF out)/\(∀l,.ok l∈es->∃m∈es.foldl xF out,oI m l)
 | [],out=>⟨fun l h=>.inl h,fun l h=>h,fun l h=>by cases h⟩
 | e::es,out=>by
  obtain⟨h1,T,h3⟩:=C7 es (xF out e);have E:∀l∈out,l∈xF out e:=fun l A=>by
   unfold xF;split
   ·exact A
   ·split
    ·exact A
    ·exact List.mem_append_left _ A
  refine⟨fun l A=>?_,fun l A=>T l (E l A),fun l A=>?_⟩
  ·rcases h1 l A with h|h
   ·unfold xF at h;split at h
    ·exact .inl h
    ·split at h
     ·exact .inl h
     ·rcases Xat.1 h with h|h
      ·exact .inl h
      ·simp at h;subst h;exact .inr (by simp)
   ·exact .inr (by simp[h])
  ·rcases Xba.1 A with h|h
   ·subst h;have F:∃m∈xF out (.ok l),oI m l:=by
     unfold xF;simp only;split
     ·rename_i U;obtain⟨m,O,J⟩:=Xak.1 U;exact⟨m,O,K4.1 J⟩
     ·exact⟨l,by simp,oI.refl l⟩
    obtain⟨m,O,J⟩:=F;exact⟨m,T m O,J⟩
   ·exact h3 l h
def oW(fixed bs:List Bool):Prop:=∀(i:Nat) (b:Bool),bs[i]?=some b->b∈eA fixed i
def Ke{fixed bs:List Bool}{b:Bool}:oW fixed (bs++[b])↔oW fixed bs/\b∈eA fixed bs.length:=by
 constructor
 ·intro h;refine⟨fun i c A=>h i c ?_,h bs.length b (by simp)⟩;have:=(List.getElem?_eq_some_iff.1 A).1;rw[List.getElem?_append_left this];exact A
 ·rintro⟨h1,E⟩ i c A;by_cases O:i<bs.length
  ·rw[List.getElem?_append_left O]at A;exact h1 i c A
  ·rw[List.getElem?_append_right (by omega)]at A;by_cases F:i=bs.length
   ·subst F;simp at A;subst A;exact E
   ·have:i-bs.length≠0:=by omega
    cases J:i-bs.length with
    | zero=>omega
    | succ n=>rw[J]at A;simp at A
structure RouteB(x:Instance)(t:VType)(r:Route):Prop where
 go:GoB x t
 stop:∀v∈r.visits,StopB (bI x v).1
 first:LabB (eZ t r) 0
 short:r.visits.length<=1048575
def Es{α:Type}{l:List α}{k:Nat}(h:l.length=k+1):∃m b,l=m++[b]/\m.length=k:=by
 have A:l≠[]:=by intro e;subst e;simp at h
 refine⟨l.dropLast,l.getLast A,(List.dropLast_concat_getLast A).symm,by simp[h]⟩
def aaC{x:Instance}{t:VType}{r:Route}{k:Nat}(E:k<r.visits.length)(l:Lab)(b:Bool):∃v∈r.visits,fP x t r k l b=pD x t (eT x t r k) (bI x v).1 k l b:=by obtain⟨v,A⟩:=aI E;exact⟨v,Xac A,by unfold fP;rw[A]⟩
def GW{x:Instance}{t:VType}{r:Route}(A:RouteB x t r):∀(k:Nat) (bs:List Bool) (l:Lab),bs.length=k->k<=r.visits.length->jL x t r bs 0 (eZ t r)=.ok l->LabB l k
 | 0,bs,l,hl,_,h=>by have:=Xcn hl;subst this;injection h with h;subst h;exact A.first
 | k+1,bs,l,hl,hk,h=>by
  obtain⟨m,b,rfl,F⟩:=Es hl;rw[mN]at h;cases E:jL x t r m 0 (eZ t r)with
  | error e=>rw[E]at h;cases h
  | ok l'=>rw[E]at h;have h:fP x t r (0+m.length) l' b=.ok l:=h;rw[F,Xcj]at h;have J:=GW A k m l' F (by omega) E;have T:=A.short;obtain⟨v,O,e⟩:=aaC (x:=x) (t:=t) (r:=r) (k:=k) (by omega) l' b;rw[e]at h;exact auK (by omega) A.go (A.stop v O) J h
def zC{x:Instance}{t:VType}{r:Route}:∀(k:Nat) (l:Lab),l∈dpL x t r k->∃bs,bs.length=k/\oW r.rests bs/\jL x t r bs 0 (eZ t r)=.ok l
 | 0,l,h=>by have h:l∈[eZ t r]:=h;simp at h;subst h;exact⟨[],rfl,fun i b A=>by simp at A,rfl⟩
 | k+1,l,h=>by
  have h:l∈Cn x t r (dpL x t r k) k:=h;unfold Cn at h;rcases(C7 _ []).1 l h with h|h
  ·cases h
  ·obtain⟨l',E,h⟩:=Xbp.1 h;obtain⟨b,A,h⟩:=Xan.1 h;obtain⟨bs,h1,F,h3⟩:=zC k l' E;refine⟨bs++[b],by simp[h1],Ke.2 ⟨F,by rw[h1];exact A⟩,?_⟩;rw[mN,h3];show fP x t r (0+bs.length) l' b=.ok l;rw[h1,Xcj];exact h
def Im{x:Instance}{t:VType}{r:Route}(A:RouteB x t r):∀(k:Nat) (bs:List Bool) (m:Lab),bs.length=k->k<=r.visits.length+1->oW r.rests bs->jL x t r bs 0 (eZ t r)=.ok m->∃l∈dpL x t r k,oI l m
 | 0,bs,m,hl,_,_,h=>by have:=Xcn hl;subst this;injection h with h;subst h;exact⟨_,by show eZ t r∈[eZ t r];simp,oI.refl _⟩
 | k+1,bs,m,hl,hk,hc,h=>by
  obtain⟨cs,b,rfl,T⟩:=Es hl;obtain⟨X,F⟩:=Ke.1 hc;rw[T]at F;rw[mN]at h;cases O:jL x t r cs 0 (eZ t r)with
  | error e=>rw[O]at h;cases h
  | ok m'=>
   rw[O]at h;have h:fP x t r (0+cs.length) m' b=.ok m:=h;rw[T,Xcj]at h;obtain⟨l',E,J⟩:=Im A k cs m' T (by omega) X O;have hs:=A.short;have bm:=GW A k cs m' T (by omega) O;obtain⟨ds,d1,d2,d3⟩:=zC k l' E;have bl:=GW A k ds l' d1 (by omega) d3;have step:∃l,fP x t r k l' b=.ok l/\oI l m:=by
    by_cases Z:k<r.visits.length
    ·obtain⟨v,hv⟩:=aI Z;have e:∀l,fP x t r k l b=pD x t (eT x t r k) (bI x v).1 k l b:=fun l=>by unfold fP;rw[hv]
     rw[e]at h |-;exact JV (by omega) A.go (A.stop v (Xac hv)) bl bm J h
    ·have e:∀l,fP x t r k l b=rZ x t (eT x t r k) k l b:=fun l=>by unfold fP;rw[List.getElem?_eq_none (by omega)]
     rw[e]at h |-;exact JP (by omega) A.go bl bm J h
   obtain⟨l,aa,U⟩:=step;obtain⟨q,hq,Y⟩:=(C7 ((dpL x t r k).flatMap fun l=>(eA r.rests k).map fun b=>fP x t r k l b) []).2.2 l
    (Xbp.2 ⟨l',E,Xan.2 ⟨b,F,aa⟩⟩)
   exact⟨q,hq,Y.trans U⟩
def XW{x:Instance}{t:VType}{r:Route}(X:RouteB x t r):dpL x t r (r.visits.length+1)=[]↔∀bs,bs.length=r.visits.length+1->oW r.rests bs->∃e,jL x t r bs 0 (eZ t r)=.error e:=by
 constructor
 ·intro h bs O U;cases T:jL x t r bs 0 (eZ t r)with
  | error e=>exact⟨e,rfl⟩
  | ok m=>obtain⟨l,A,_⟩:=Im X _ bs m O (Xae _) U T;rw[h]at A;cases A
 ·intro h;cases J:dpL x t r (r.visits.length+1)with
  | nil=>rfl
  | cons l ls=>obtain⟨bs,h1,F,h3⟩:=zC (r.visits.length+1) l (by rw[J];simp);obtain⟨e,E⟩:=h bs h1 F;rw[h3]at E;cases E
def Dc{α:Type}(a c:List α)(b d:α):(a++b::c).set a.length d=a++d::c:=by simp
def JG{α:Type}(a c:List α)(b d:α):(a++b::c).getD a.length d=b:=by simp
def Rh{α:Type}(n:Nat)(a:α):List.replicate (n+1) a=List.replicate n a++[a]:=List.replicate_succ'
def JF(n:Nat):∀(j m:Nat) (q:List Bool),n<=q.length->sF n (q.length+1+j) (q++false::(List.replicate j true++List.replicate m false))=(q++true::List.replicate (j+m) false,true)
 | 0,m,q,hq=>by unfold sF;rw[if_pos hq];simp only[List.replicate_zero,Xbn,JG,Xcj];rw[if_neg (by simp),Dc]
 | j+1,m,q,hq=>by
  have e:q++false::(List.replicate (j+1) true++List.replicate m false)=(q++false::List.replicate j true)++true::List.replicate m false:=by rw[Rh];simp
  have A:(q++false::List.replicate j true).length=q.length+1+j:=by simp;omega
  rw[show q.length+1+(j+1)=(q++false::List.replicate j true).length+1 by omega,e];unfold sF;rw[if_pos (by omega),JG,if_pos rfl,Dc,A];have ih:=JF n j (m+1) q hq;rw[List.replicate_succ]at ih;rw[show(q++false::List.replicate j true)++false::List.replicate m false=q++false::(List.replicate j true++false::List.replicate m false)by simp,ih,show j+(m+1)=j+1+m by omega]
def Kr(n:Nat):∀(j m:Nat) (p:List Bool),p.length=n->sF n (n+j) (p++(List.replicate j true++List.replicate m false))=([],false)
 | 0,m,p,hp=>by
   rw[Nat.add_zero];cases n with
   | zero=>rfl
   | succ k => conv => lhs; unfold sF
               rw[if_neg (by omega)]
 | j+1,m,p,hp=>by
   have e:p++(List.replicate (j+1) true++List.replicate m false)=(p++List.replicate j true)++true::List.replicate m false:=by rw[Rh];simp
   have A:(p++List.replicate j true).length=n+j:=by simp;omega
   rw[show n+(j+1)=(p++List.replicate j true).length+1 by omega,e];unfold sF;rw[if_pos (by omega),JG,if_pos rfl,Dc,A];have ih:=Kr n j (m+1) p hp;rw[List.replicate_succ]at ih;rw[show(p++List.replicate j true)++false::List.replicate m false=p++(List.replicate j true++false::List.replicate m false)by simp,ih]
def anF{n m:Nat}{q:List Bool}(A:n<=q.length):mY (q++false::List.replicate m true) n=(q++true::List.replicate m false,true):=by have h:=JF n m 0 q A;simp only[List.replicate_zero,Xbl,Nat.add_zero]at h;unfold mY;rw[show(q++false::List.replicate m true).length=q.length+1+m by simp;omega,h]
def alN{n m:Nat}{p:List Bool}(A:p.length=n):mY (p++List.replicate m true) n=([],false):=by have h:=Kr n m 0 p A;simp only[List.replicate_zero,Xbl]at h;unfold mY;rw[show(p++List.replicate m true).length=n+m by simp[A],h]
def tT(p:List Bool):Nat->List (List Bool)
 | 0=>[p]
 | m+1=>tT (p++[false]) m++tT (p++[true]) m
def EB:∀(m:Nat) (p c:List Bool),c∈tT p m↔c.length=p.length+m/\p <+: c
 | 0,p,c=>by
  show c∈[p]↔_;simp only[Xba,List.not_mem_nil,or_false];constructor
  ·rintro rfl;exact⟨rfl,List.prefix_refl _⟩
  ·rintro⟨h1,A⟩;exact(A.eq_of_length (by omega)).symm
 | m+1,p,c=>by
  show c∈tT (p++[false]) m++tT (p++[true]) m↔_;rw[Xat,EB m,EB m];constructor
  ·rintro(⟨h1,A⟩|⟨h1,A⟩)
   ·exact⟨by simp at h1;omega,(List.prefix_append _ _).trans A⟩
   ·exact⟨by simp at h1;omega,(List.prefix_append _ _).trans A⟩
  ·rintro⟨h1,s,rfl⟩;cases s with
   | nil=>simp at h1
   | cons b s=>
    cases b
    ·exact .inl ⟨by simp at h1 |-;omega,⟨s,by simp⟩⟩
    ·exact .inr ⟨by simp at h1 |-;omega,⟨s,by simp⟩⟩
def Bi(x:Instance)(r:Route)(l:List (List Bool))(b:Sheet×Bool):Sheet×Bool:=l.foldl (fun b c=>lH x r c b) b
def DR{x:Instance}{r:Route}{n:Nat}:∀(m:Nat) (p:List Bool) (b:Sheet×Bool),n<=p.length ->
  wY x r n (GQ (p++List.replicate m false,true)) (p++List.replicate m false,true) b=wY x r n (GQ (mY (p++List.replicate m true) n)) (mY (p++List.replicate m true) n) (Bi x r (tT p m) b)
 | 0,p,b,hp=>(Hj (x:=x) (r:=r) (m:=n) (c:=(p++List.replicate 0 false,true)) (b:=b) rfl).1.trans (by simp only[List.replicate_zero,Xbl];rfl)
 | m+1,p,b,hp=>by have h1:=DR (x:=x) (r:=r) (n:=n) m (p++[false]) b (by simp;omega);have A:=DR (x:=x) (r:=r) (n:=n) m (p++[true]) (Bi x r (tT (p++[false]) m) b) (by simp;omega);rw[show p++[false]++List.replicate m false=p++List.replicate (m+1) false by simp[List.replicate_succ]]at h1;rw[show p++[false]++List.replicate m true=p++false::List.replicate m true by simp,anF hp]at h1;rw[show p++[true]++List.replicate m false=p++true::List.replicate m false by simp]at A;rw[show p++[true]++List.replicate m true=p++List.replicate (m+1) true by simp[List.replicate_succ]]at A;rw[h1,A];unfold Bi;rw[show tT p (m+1)=tT (p++[false]) m++tT (p++[true]) m from rfl,Xbq]
def sD(r:Route):Nat:=r.visits.length+1-r.rests.length
def Ue{x:Instance}{r:Route}(J:bW x r=true)(U:r.rests.length<=r.visits.length+1)(T:(iL x r (dE r)).2.2≠0->(iL x r (dE r)).1=aS):
  uC x r=PE (Bi x r (tT r.rests (sD r)) (aS,false)) (iL x r (dE r)).2.2:=by
 have e:uC x r=_:=if_neg (by rw[J];simp;omega);rw[e];have E:((iL x r (dE r)).1,(iL x r (dE r)).2.2 == 0)=lH x r (dE r) (aS,false):=by
  unfold lH;by_cases h:(iL x r (dE r)).2.2=0
  ·rw[if_pos (by rw[h];rfl),h];rfl
  ·rw[if_neg (by simp[h]),T h];have:((iL x r (dE r)).2.2 == 0)=false:=by simpa using h
   rw[this]
 rw[E];have O:=(Hj (x:=x) (r:=r) (m:=r.rests.length) (c:=(dE r,true)) (b:=(aS,false)) rfl).1;have A:=DR (x:=x) (r:=r) (n:=r.rests.length) (sD r) r.rests (aS,false) (Xae _);have F:r.rests++List.replicate (sD r) false=dE r:=rfl;rw[F]at A;rw[<-O,A,alN rfl,HC rfl]
def Y6{x:Instance}{r:Route}:∀(l:List (List Bool)) (b:Sheet×Bool),(Bi x r l b).2=(b.2||l.any fun c=>(iL x r c).2.2 == 0)
 | [],b=>by simp[Bi]
 | c::l,b=>by have ih:=Y6 (x:=x) (r:=r) l (lH x r c b);show(Bi x r l (lH x r c b)).2=_;rw[ih];unfold lH;simp only[List.any_cons];cases h:(iL x r c).2.2 == 0 <;> simp[];cases A:b.2 <;> simp[];split <;> simp[A]
def aqW{x:Instance}{r:Route}(E:bW x r=true)(F:r.rests.length<=r.visits.length+1)(J:(iL x r (dE r)).2.2≠0->(iL x r (dE r)).1=aS):
  (uC x r).2=if(tT r.rests (sD r)).any (fun c=>(iL x r c).2.2 == 0)=true then 0 else(iL x r (dE r)).2.2:=by
 rw[Ue E F J];have A:=Y6 (x:=x) (r:=r) (tT r.rests (sD r)) (aS,false);simp only[Xbt]at A;unfold PE;rw[A];split <;> rfl
def uU{p c:List Bool}(h:p.length<=c.length):oW p c↔p <+: c:=by
 constructor
 ·intro J;refine List.prefix_iff_getElem?.2 fun i E=>?_
  have F:i<c.length:=by omega
  have A:=J i c[i] (List.getElem?_eq_getElem F);unfold eA at A;rw[if_pos E]at A;simp only[Xba,List.not_mem_nil,or_false]at A;rw[List.getElem?_eq_getElem F,A];simp[List.getD,List.getElem?_eq_getElem E]
 ·rintro⟨s,rfl⟩ i b A;unfold eA;by_cases E:i<p.length
  ·rw[if_pos E];rw[List.getElem?_append_left E]at A;simp[List.getD,A]
  ·rw[if_neg E];cases b <;> simp
theorem jU{r:Route}(A:r.rests.length<=r.visits.length+1):(dE r).length=r.visits.length+1:=by unfold dE;simp;omega
def asH{bs:List Bool}{n:Nat}(h:bs.length=n+1):∃b cs,bs=b::cs/\cs.length=n:=by
 cases bs with
 | nil=>simp at h
 | cons b cs=>exact⟨b,cs,rfl,by simpa using h⟩
def Sf{x:Instance}{r:Route}{t:VType}{bs:List Bool}(F:bW x r=true)(O:x.types[r.type.toNat]?=some t)(A:bs.length=r.visits.length+1)
  (J:∀v∈r.visits,(bI x v).1.start<=(bI x v).1.close):
  match jL x t r bs 0 (eZ t r)with
  | .error e=>(iL x r bs).1=aS/\(iL x r bs).2.2=e
  | .ok l=>(iL x r bs).1=l.sheet/\(iL x r bs).2.2=0:=by
 obtain⟨b,cs,rfl,E⟩:=asH A;have h:=azP (b:=b) F O E J;have e:=anS (x:=x) (t:=t) (r:=r) (b::cs) 0 (eZ t r) (by simpa using A) (Xab _);have e:EU x t r.visits (b::cs) t.src 0 (eZ t r)=jL x t r (b::cs) 0 (eZ t r):=e;rw[e]at h;exact h
theorem Ok{x:Instance}{t:VType}{p:Int}{s:Stop}{k:Nat}{l:Lab}{b:Bool}{e:Int}(h:pD x t p s k l b=.error e):e≠0:=by
 unfold pD at h
 repeat' split at h
 all_goals first|(injection h with h;omega)|cases h
theorem Oc{x:Instance}{t:VType}{p:Int}{k:Nat}{l:Lab}{b:Bool}{e:Int}(h:rZ x t p k l b=.error e):e≠0:=by
 unfold rZ at h
 repeat' split at h
 all_goals first|(injection h with h;omega)|cases h
def B6{x:Instance}{t:VType}{r:Route}:∀(bs:List Bool) (k:Nat) (l:Lab) (e:Int),jL x t r bs k l=.error e->e≠0
 | [],k,l,e,h=>by cases h
 | b::bs,k,l,e,h=>by
  unfold jL at h;cases A:fP x t r k l b with
  | error e'=>
   rw[A]at h;have h:(Except.error e':Except Int Lab)=.error e:=h;injection h with h;subst h;unfold fP at A;split at A
   ·exact Ok A
   ·exact Oc A
  | ok l'=>rw[A]at h;exact B6 bs (k+1) l' e h
def GZ(e:Except Int Lab):Int:=match e with| .error e=>e| .ok _=>0
def auM{x:Instance}{r:Route}{t:VType}(hB:RouteB x t r)(O:bW x r=true)(U:x.types[r.type.toNat]?=some t)(hr:r.rests.length<=r.visits.length+1)
  (Z:∀v∈r.visits,(bI x v).1.start<=(bI x v).1.close):
  (uC x r).2=match dpL x t r (r.visits.length+1)with
   | []=>GZ (jL x t r (dE r) 0 (eZ t r))
   | _::_=>0:=by
 have h0:=Sf (bs:=dE r) O U (jU hr) Z;have hz:(iL x r (dE r)).2.2≠0->(iL x r (dE r)).1=aS:=by
  intro aa;cases A:jL x t r (dE r) 0 (eZ t r)with
  | error e=>rw[A]at h0;exact h0.1
  | ok l=>rw[A]at h0;exact absurd h0.2 aa
 have e0:(iL x r (dE r)).2.2=GZ (jL x t r (dE r) 0 (eZ t r)):=by
  cases A:jL x t r (dE r) 0 (eZ t r)with
  | error e=>rw[A]at h0;exact h0.2
  | ok l=>rw[A]at h0;exact h0.2
 rw[aqW O hr hz,e0];cases E:dpL x t r (r.visits.length+1)with
 | nil=>
  rw[if_neg];rw[Xak];rintro⟨c,hc,he⟩;obtain⟨Y,X⟩:=(EB _ _ _).1 hc;have F:c.length=r.visits.length+1:=by unfold sD at Y;omega
  obtain⟨e,J⟩:=(XW hB).1 E c F ((uU (by omega)).2 X);have h1:=Sf (bs:=c) O U F Z;rw[J]at h1;have T:(iL x r c).2.2=0:=by simpa using he
  exact B6 _ _ _ _ J (h1.2.symm.trans T)
 | cons l ls=>rw[if_pos];rw[Xak];obtain⟨bs,h1,T,h3⟩:=zC (r.visits.length+1) l (by rw[E];simp);refine⟨bs,(EB _ _ _).2 ⟨by unfold sD;omega,(uU (by omega)).1 T⟩,?_⟩;have A:=Sf (bs:=bs) O U h1 Z;rw[h3]at A;rw[A.2];rfl
end Sq
namespace Rx
open Go.Nu
open Sq (W fB xH zI Ej lA eN dX cR NetOk)
structure Clk where
 ready:Int
 since:Int
structure Part where
 place:Int
 memory:Nat
 board:Nat
 visits:Nat
 load:List Int
 clocks:List Clk
 value:ByteArray
structure Wk where
 x:Instance
 kind:Nat
 t:VType
 near:List Int
 dual:Option (List ByteArray)
 most:Nat
section
variable(w:Wk)
end
def arC(c d:Clk):Bool:=c.ready == d.ready&&decide (c.since<=d.since)
def aBm(n:Network)(t:VType)(place goal:Int)(s:List Clk×Int)(c:Clk):List Clk×Int:=
 if((fB n t.profile place goal c.ready).2.2 == 0&&decide (W (W (c.since+(fB n t.profile place goal c.ready).1)-c.ready)<=t.drive))=true
 then(s.1++[⟨(fB n t.profile place goal c.ready).1,W (W (c.since+(fB n t.profile place goal c.ready).1)-c.ready)⟩],(fB n t.profile place goal c.ready).2.1)else s
def axQ(t:VType)(c:Clk):Clk:=⟨W (c.ready+t.rest),0⟩
def drv2(n:Network)(t:VType)(place goal:Int)(s:List Clk×Int)(c:Clk):List Clk×Int:=aBm n t place goal (aBm n t place goal s c) (axQ t c)
def aqM(n:Network)(t:VType)(place goal:Int)(l:List Clk):List Clk×Int:=l.foldl (drv2 n t place goal) ([],0)
def nB(s:Stop)(a:Int):Int×Int:=if eF a s.start>s.close then(0,14)else(W (eF a s.start+s.service),0)
def srvC(s:Stop)(out:List Clk)(c:Clk):List Clk:=
 if((nB s c.ready).2 != 0)=true then out
 else if(out.any fun d=>arC d ⟨(nB s c.ready).1,c.since⟩)=true then out
 else(out.filter fun d=> !arC ⟨(nB s c.ready).1,c.since⟩ d)++[⟨(nB s c.ready).1,c.since⟩]
def Yg(s:Stop)(l:List Clk):List Clk:=l.foldl (srvC s) []
def memP(near:List Int)(m o:Nat):Nat:=(m &&& (near.getD o 0).toNat) ||| 2^o
def ayB(a:Int)(kind:Nat):Int:=if(a != -1&&a != (kind:Int))=true then 1 else 0
def azH(a:ByteArray)(n:Int):ByteArray:=(Bt a (zed n)).1
def cT(x:Instance)(o:Nat):Order:=x.orders.getD o ⟨ByteArray.empty,[],⟨0,0,0,0⟩,⟨0,0,0,0⟩,0,0,0,0,0,false⟩
def aBr(a:ByteArray)(o:Nat):Option (List ByteArray)->ByteArray
 | none=>a
 | some l=>(subR a (l.getD o ByteArray.empty)).1
def OG(w:Wk)(p:Part)(o:Nat):Part×Bool:=
 if(cR (p.memory:Nat) (o:Nat)||cR (p.board:Nat) (o:Nat))=true then(p,false)
 else({ p with memory:=memP w.near p.memory o,value:=aBr (azH p.value ((ayB (cT w.x o).now w.kind*16+ayB (cT w.x o).last w.kind)*65536)) o w.dual },true)
def aAr(b o:Nat):Nat:=b ^^^ (b &&& 2^o)
def Aa(o:Order):Bool:=decide (o.pick.place>=0)&&decide (o.drop.place>=0)
def avI(w:Wk)(p:Part)(o:Nat)(drop:Bool):Part×Bool:=
 if drop=false then
   ({ p with load:=zI p.load (cT w.x o).load,board:=if Aa (cT w.x o)=true then p.board ||| 2^o else p.board },lA (zI p.load (cT w.x o).load) w.t.cap)
 else if Aa (cT w.x o)=true then
   if cR (p.board:Nat) (o:Nat)=true then({ p with load:=Ej p.load (cT w.x o).load,board:=aAr p.board o },lA (Ej p.load (cT w.x o).load) w.t.cap)else(p,false)
 else(p,lA p.load w.t.cap)
def goP(w:Wk)(p:Part)(s:Stop):Part×Bool:=
 let d:=aqM w.x.net w.t p.place s.place p.clocks
 ({ p with clocks:=Yg s d.1,place:=s.place,visits:=p.visits+1,value:=azH p.value (W (W (w.t.perMile*d.2)*16777216)) },decide ((Yg s d.1).length>0))
def YO(w:Wk)(p:Part)(v:Visit):Part×Bool:=
 if(decide ((p.visits:Int)>=(w.most:Int))||(cT w.x v.order.toNat).off|| !xH w.t.skills (cT w.x v.order.toNat).skills)=true then(p,false)
 else
   let s:=if(!v.drop||decide ((cT w.x v.order.toNat).pick.place<0))=true then OG w p v.order.toNat else(p,true)
   if s.2=true then
     let l:=avI w s.1 v.order.toNat v.drop
     if l.2=true then(if((dX w.x v).2 != 0)=true then(l.1,false)else goP w l.1 (dX w.x v).1)else(l.1,false)
   else(s.1,false)
def aA3(close:Int)(out:Int)(c:Clk):Int:=if(decide (c.ready<=close)&&(decide (out<0)||decide (c.ready<out)))=true then c.ready else out
def atO(w:Wk)(p:Part):Int×Int×Bool:=
 if((p.visits:Int) == 0||(p.board:Int) != 0)=true then(0,0,false)
 else
   let d:=aqM w.x.net w.t p.place w.t.dst p.clocks
   (d.1.foldl (aA3 w.t.close) (-1),d.2,decide (d.1.foldl (aA3 w.t.close) (-1)>=0))
def akW(w:Wk)(e:Int):Int:=W (e-w.t.start)
def aBD(w:Wk)(e miles:Int):Int:=W (W (w.t.fixed+W (w.t.perMile*miles))+W (w.t.perTick*akW w e))
def azC(w:Wk)(p:Part)(e miles:Int):ByteArray:=
 azH p.value (W (W (aBD w e miles*16777216)+W (W (Int.tdiv (akW w e) 64)*W (Int.tdiv (akW w e) 64))))
def asD(x:Instance):List Visit:=(List.range x.orders.length).flatMap fun i=>if(cT x i).off=true then[]else eN x.orders (i:Nat)
def aAN(w:Wk):Part:=⟨w.t.src,0,0,0,List.replicate w.t.cap.length 0,[⟨w.t.start,0⟩],dec 0⟩
end Rx
namespace Rx
open Go.Nu
open Sq (W fB xH zI Ej lA eN dX cR NetOk)
open Nu (CG Dq ltB geB)
end Rx
namespace Rx
open Go.Proofs.Tryz
open Go.Nu
open Sq (W fB xH zI Ej lA eN dX cR NetOk uX nQ lO qS)
open Mv (bZ cL aR)
open Nu (CG Dq ltB geB)
def amX(s:Stop)(a:Int):PC prog 217 [.agg (eQ s),int a] (.tup [int (nB s a).1,int (nB s a).2]):=by
 refine pcd func217 rfl rfl ?_;simp only[go_sem];refine aO (Sq.YG s a) ?_;unfold nB;by_cases h:eF a s.start>s.close
 ·simp only[if_pos h];simp only[go_sem];refine aA (fun A=>?_) (fun A=>?_)
  ·simp only[go_sem];exact .refl _
  ·simp at A
 ·simp only[if_neg h];simp only[go_sem];refine aA (fun A=>?_) (fun A=>?_)
  ·simp at A
  ·simp only[go_sem];exact .refl _
end Rx
namespace Rx
open Go.Nu
open Sq (W fB xH zI Ej lA eN dX cR NetOk)
open Nu (CG Dq ltB geB)
theorem jQ{x:Instance}{o:Nat}(h:o<x.orders.length):x.orders[o]?=some (cT x o):=by unfold cT;rw[List.getD,List.getElem?_eq_getElem h,Xbr]
def BI(n:Int): -9223372036854775808<=IntKind.i64.wrap n/\IntKind.i64.wrap n<=9223372036854775807:=by have e:IntKind.i64.wrap n=Go.RowKit.wrap64 n:=IntWalk.i64_left n;rw[e];unfold Go.RowKit.wrap64;omega
abbrev CL(s:Stop):Row:=⟨76,4,[eQ s]⟩
end Rx
namespace Rx
open Go.Nu
open Sq (W fB xH zI Ej lA eN dX cR NetOk)
open Nu (CG Dq ltB geB xD)
open Mv (bZ cL aR)
def azY(x:Instance)(k:Nat):VType:=x.types.getD k ⟨ByteArray.empty,0,0,0,[],0,0,0,0,0,0,0,0,0⟩
def aBj(w:Wk)(p:Part)(n:Int):Int:=if(atO w p).2.2=true then W (n+1)else n
def countP(w:Wk)(vs:List Visit):Nat->Part->Int->Int
 | 0,p,n=>aBj w p n
 | f+1,p,n=>vs.foldl (fun n v=>if n>8192 then n else if(YO w p v).2=true then countP w vs f (YO w p v).1 n else n) (aBj w p n)
end Rx
namespace Rx
open Go.Nu
open Sq (W fB xH zI Ej lA eN dX cR NetOk uX nQ lO qS)
open Nu (CG Dq ltB geB xD wQ)
open Mv (bZ cL aR)
section
variable{H:aG}{w:Wk}{jw jk jm jf:Nat}{known more fresh:List Part}
end
end Rx
namespace Rx
open Go.Nu Go.So
open Nu (ltB geB)
abbrev iG(l:List Int):Row:=⟨3,1,l.map aQ⟩
def Ko(x:Int):(aQ x).length=1:=(rfl)
abbrev TB:=Int×Nat
def fs(L:List TB):List Int:=L.map Prod.fst
section
variable{gf:Nat}{cx:AV}{jc:Nat}{rc:Row}{cap':List AV}{lt:Int->Int->Bool}{ok:Int->Prop}
end
end Rx
end Go.Proofs.YthephioccidfgaaGreatDoor
