import Derived.Lib.ItoaMem
import Derived.Test.YtgncgpcpbadfnaaGreatDoorVc10
import Derived.Test.YtgncgpcpbadfnaaGreatDoorVc13
set_option linter.unusedSimpArgs false
set_option linter.unusedVariables false
set_option linter.defProp false
set_option maxRecDepth 100000
namespace Go.Proofs.YtgncgpcpbadfnaaGreatDoor
open Go.Aw Go.Aw.D Go.Proofs Ty
namespace Nu
open Go.Proofs.Tryz
open Go.Nu
def dG(s:ByteArray):ByteArray×ByteArray×Int:=if cZ s=true then(iR s,iH s,0)else(emp,emp,3)
def Z9(s:ByteArray)(h:s.size<=1048576):PC prog 113 [str s] (.tup [str (dG s).1,str (dG s).2.1,int (dG s).2.2]):=by
 refine pcd func113 rfl rfl ?_;simp only[go_sem];refine aP (rL s h) ?_;simp only[go_sem];unfold dG;refine aA (fun A=>?_) (fun A=>?_)
 ·rw[if_neg (by simpa using A)];simp only[go_sem];exact .refl _
 ·rw[if_pos (by simpa using A)];simp only[go_sem];refine aP (Ci s h) ?_;simp only[go_sem];exact .refl _
def zW(s:ByteArray):ByteArray×Int:=
 if((dG s).2.2 != 0)=true then(emp,(dG s).2.2)
 else if((oB (dG s).1 (dG s).2.1).2.2 != 0||(oB (dG s).1 (dG s).2.1).2.1.toList == (⟨#[48]⟩:ByteArray).toList)=true then((oB (dG s).1 (dG s).2.1).1,(oB (dG s).1 (dG s).2.1).2.2)
 else Hz (oB (dG s).1 (dG s).2.1).1 ⟨#[49]⟩
def Er(s:ByteArray)(h:s.size<=1048576):(dG s).1.size<=1048576/\(dG s).2.1.size<=1048576/\(oB (dG s).1 (dG s).2.1).1.size<=1048576:=by
 unfold dG;split
 next E=>
  obtain⟨x,rfl,A,J,F⟩:=iN E;have O:=x.den_pos;have M:=A.2;have I:dec x.den=zed (x.den:Int):=(fY x.den).symm;refine⟨Xai (Dt _) h,?_,?_⟩
  ·show(iH (sM x)).size<=1048576;rw[F];exact eJ A.2
  ·show(oB (iR (sM x)) (iH (sM x))).1.size<=1048576;rw[J,F,I,FA A.1 (by omega) (by omega)];refine gS ?_;have h1:=A.1;have:(x.num.fdiv (x.den:Int)).natAbs<=x.num.natAbs:=by rw[Int.fdiv_eq_ediv_of_nonneg _ (by omega)];exact Int.natAbs_ediv_le_natAbs _ _
   show(x.num.fdiv (x.den:Int)).natAbs<dE;omega
 next E=>
  refine⟨by decide,by decide,?_⟩;show(oB emp emp).1.size<=1048576;have:pU emp emp=3:=by unfold pU;rw[if_pos (by decide)]
  unfold oB;rw[this];decide
def afQ(s:ByteArray)(h:s.size<=1048576):PC prog 80 [str s] (.tup [str (zW s).1,int (zW s).2]):=by
 obtain⟨h1,O,J⟩:=Er s h;have F:zW s=(if((dG s).2.2 != 0)=true then(emp,(dG s).2.2)
  else if((oB (dG s).1 (dG s).2.1).2.2 != 0||(oB (dG s).1 (dG s).2.1).2.1.toList == (⟨#[48]⟩:ByteArray).toList)=true then((oB (dG s).1 (dG s).2.1).1,(oB (dG s).1 (dG s).2.1).2.2)
  else Hz (oB (dG s).1 (dG s).2.1).1 ⟨#[49]⟩):=rfl
 have I:=Z9 s h;have M:=GT (dG s).1 (dG s).2.1 h1 O;have E:=WY (oB (dG s).1 (dG s).2.1).1 ⟨#[49]⟩ J (by decide);generalize oB (dG s).1 (dG s).2.1=D at *;generalize dG s=p at *;generalize zW s=c at *;subst F;refine pcd func80 rfl rfl ?_;simp only[go_sem];refine aP I ?_;simp only[go_sem];refine aA (fun A=>?_) (fun A=>?_)
 ·rw[if_pos A];simp only[go_sem];exact .refl _
 rw[if_neg (by rw[A];simp)];simp only[go_sem];refine aP M ?_;simp only[go_sem];refine aA (fun A=>?_) (fun A=>?_)
 ·rw[if_pos A];simp only[go_sem];exact .refl _
 rw[if_neg (by rw[A];simp)];simp only[go_sem];refine aP E ?_;simp only[go_sem];exact .refl _
def aaF{a b:Nat}(F:a<2^63)(A:b<2^63):pP .and .i64 (a:Int) (b:Int)=((a &&& b:Nat):Int):=by
 have h:((BitVec.ofInt 64 (a:Int) &&& BitVec.ofInt 64 (b:Int)).toNat:Int)=((a &&& b:Nat):Int):=by
  rw[BitVec.toNat_and,BitVec.toNat_ofInt,BitVec.toNat_ofInt];have h1:((a:Int)%((2^64:Nat):Int)).toNat=a:=by omega
  have E:((b:Int)%((2^64:Nat):Int)).toNat=b:=by omega
  rw[h1,E]
 refine Eq.trans (congrArg IntKind.i64.wrap h) ?_;have:=Nat.and_lt_two_pow a A;exact bG (by omega)
def wW{x:Int}{i:Nat}(h:i<=62):shV .shr .i64 x (i:Int)=x/2^i:=Sq.wW h
def dH(set i:Int):Bool:=decide (i>=0)&&decide (i<=62)&&((set/2^i.toNat)%2 == 1)
def uC(set i:Int):PC prog 52 [int set,int i] (boo (dH set i)):=Sq.uC set i
def tS(set:Int)(k:Nat):List Int:=((List.range k).filter fun i:Nat=>dH set (i:Int)).map fun i:Nat=>(i:Int)
def fA(set:Int):List Int:=tS set 63
def rG(set:Int)(k:Nat):tS set (k+1)=tS set k++(if dH set (k:Int)=true then[(k:Int)]else[]):=Sq.rG set k
def pH(set:Int)(k:Nat):(tS set k).length<=k:=Sq.pH set k
def vY(l:List Int):Row:=⟨3,1,l.map aQ⟩
def jG(set:Int):PC prog 71 [int set] (.sl ((fA set).map aQ)):=Sq.jG set
def AC:Nat->Nat->Nat
 | 0,_=>0
 | k+1,n=>n%2+AC k (n/2)
def IM:∀(k n:Nat),AC (k+1) n=AC k n+(n/2^k)%2
 | 0,n=>by simp[AC]
 | k+1,n=>by rw[AC,IM k (n/2),AC,Nat.div_div_eq_div_mul,show 2*2^k=2^(k+1)by rw[Nat.pow_succ,Nat.mul_comm]];omega
def KP:∀k n:Nat,AC k n<=k
 | 0,_=>Xag 0
 | k+1,n=>by have:=KP k (n/2);rw[AC];omega
def LL(n:Nat):∀k:Nat,k<=63->(tS (n:Int) k).length=AC k n
 | 0,_=>rfl
 | k+1,hk=>by
  rw[rG,Xaf,LL n k (by omega),IM];have h:dH (n:Int) (k:Int)=decide ((n/2^k)%2=1):=by
   unfold dH;rw[show decide ((k:Int)>=0)=true by simp,show decide ((k:Int)<=62)=true by simp;omega,Xbd,Xbf,Xbf];rw[Xap,Xba,decide_eq_true_iff];have:((n:Int)/2^k)=((n/2^k:Nat):Int):=by norm_cast
   rw[this];omega
  rw[h];by_cases A:(n/2^k)%2=1
  ·simp[A]
  ·have:(n/2^k)%2=0:=by omega
   simp[this]
def Xz(n:Nat):PC prog 62 [int n] (int (AC 63 n:Nat)):=by
 have T:=LL n 63 (Xag _);have O:=KP 63 n;refine pcd func62 rfl rfl ?_;simp only[go_sem];refine aP (jG n) ?_;simp only[go_sem,Xaa,fA,T];generalize AC 63 n=P at *;refine⟨fun ρ _=>∃k:Nat,k<=P/\ρ 3=int k/\ρ 6=int (P:Nat)/\ρ 7=int k,fun ρ _=>P-aT (ρ 7),⟨0,Xab _,by simp only[go_sem];rfl,by simp only[go_sem],by simp only[go_sem];rfl⟩,?_⟩;rintro ρ H ⟨k,M,F,J,I⟩;simp only[go_sem,F,J,I];refine aA (fun E=>?_) (fun A=>?_)
 ·have E:=ltB E;simp only[go_sem,F,J,I,aV k];exact⟨⟨k+1,E,rfl⟩,by simp only[aF];omega⟩
 ·have A:=geB M A;subst A;simp only[go_sem,F];exact .refl _
def mK(p:Int×Int):List AV:=[int p.1,int p.2]
def uB(m:List (Int×Int))(o:Int):Option Nat:=m.findIdx? fun p=>p.1 == o
def oK(m:List (Int×Int))(o:Int):Int:=((m.find? fun p=>p.1 == o).map (·.2)).getD 0
def AE(m:List (Int×Int))(o v:Int):List (Int×Int):=match uB m o with
 | some i=>m.set i (o,v)
 | none=>m++[(o,v)]
abbrev qA(m:List (Int×Int)):Row:=⟨0,2,m.map mK⟩
def uW(o:Int):∀(m:List (Int×Int)) (i:Nat),tA (pL prog 3 (int o)) (m.map mK) i=some ((uB m o).map (·+i))
 | [],i=>rfl
 | p::m,i=>by
  have ih:=uW o m (i+1);have A:pL prog 3 (int o) ((mK p).getD 0 .any)=some (o == p.1):=by show pL prog 3 (int o) (int p.1)=_;unfold pL;simp only[kk3];simp[uI]
  rw[Xaw,tA,A];unfold uB at *;rw[List.findIdx?_cons];by_cases h:o=p.1
  ·subst h;simp
  ·have h1:(o == p.1)=false:=by simpa using h
   have E:(p.1 == o)=false:=by simpa using fun e=>h e.symm
   rw[h1,E];simp only[Xaz,if_false];rw[ih];cases m.findIdx? (fun p=>p.1 == o)with
   | none=>rfl
   | some j=>simp;omega
def iT(o:Int)(m:List (Int×Int)):tA (pL prog 3 (int o)) (m.map mK) 0=some (uB m o):=by rw[uW];cases uB m o <;> rfl
def kO(o:Int):mF prog 3 (int o)=true:=by simp only[mF,kk3];rfl
def uS(m:List (Int×Int))(o:Int):Fv false (int 0) (m.map mK) (uB m o)=int (oK m o):=by
 unfold Fv oK uB;induction m with
 | nil=>rfl
 | cons p m ih=>
  rw[List.findIdx?_cons,List.find?_cons];cases h:p.1 == o with
  | true=>simp[mK]
  | false=>
   cases A:m.findIdx? (fun p=>p.1 == o)with
   | none=>rw[A]at ih;simpa using ih
   | some j=>rw[A]at ih;simp at ih |-;exact ih
def yU(m:List (Int×Int))(o v:Int):V5 (m.map mK) (uB m o) (int o) (int v)=(AE m o v).map mK:=by
 unfold V5 AE;cases uB m o with
 | none=>simp[mK]
 | some i=>simp[List.map_set,mK]
def ID(k:Int):Nat:=if k=1 then 2 else if k=2 then 1 else 0
def Yd(k:Int)(P:Nat):Bool:=decide (ID k>0)&&decide (ID k<=P)
def Ed(k:Int)(n:Nat):Int:=if Yd k (AC 63 n)=true then 1 else 0
def ahG(k m:Int)(a b:Nat)(X:a<2^63)(hb:b<2^63):PC prog 105 [.agg [int k,int a,int m],int b] (int (Ed k (a &&& b))):=by
 have M:=Xz (a &&& b);have aa:=KP 63 (a &&& b);refine pcd func105 rfl rfl ?_;simp only[go_sem];refine aJ fun jm E=>?_
 generalize A:aI bS jm _=HM;have J:HM jm=some (qA []):=by rw[<-A,aB];rfl
 clear A E;simp only[go_sem];refine Fj J AG (kO _) (iT _ _) ?_;rw[yU];generalize A:aI HM jm _=HN;have I:HN jm=some (qA [(1,2)]):=by rw[<-A,aB];rfl
 clear A J;simp only[go_sem];refine Fj I AG (kO _) (iT _ _) ?_;rw[yU];generalize A:aI HN jm _=HO;have U:HO jm=some (qA [(1,2),(2,1)]):=by rw[<-A,aB];rfl
 clear A I;simp only[go_sem];refine uX U AG (kO _) (iT _ _) zv3 ?_;rw[uS];have Z:oK [(1,2),(2,1)] k=(ID k:Nat):=by
  unfold oK ID;by_cases h1:k=1
  ·subst h1;rfl
  ·by_cases F:k=2
   ·subst F;rfl
   ·have O:((1:Int) == k)=false:=by simpa using fun e=>h1 e.symm
    have T:((2:Int) == k)=false:=by simpa using fun e=>F e.symm
    simp[List.find?,O,T,h1,F]
 rw[Z];simp only[go_sem];rw[aaF X hb];refine⟨_,fun _=>M.q rfl,?_⟩;unfold Ed;generalize AC 63 (a &&& b)=P at *;simp only[go_sem];have Y:(decide (((ID k:Nat):Int)>0)&&decide ((P:Int)>=((ID k:Nat):Int)))=Yd k P:=by unfold Yd;rw[Xap];simp
 rw[Y];refine aA (fun h=>?_) (fun h=>?_)
 ·simp only[go_sem];exact cI (by rw[if_pos h])
 ·simp only[go_sem];exact cI (by rw[if_neg (by rw[h];simp)])
end Nu
namespace Nu
open Go.Nu
def BS:∀(l:List (Int×ByteArray)) (t:ByteArray),cZ t=true->(pW l t).2=0->cZ (pW l t).1=true
 | [],t,h,_=>h
 | p::l,t,h,h0=>by
  unfold pW at h0 |-;split at h0
  ·next h1=>exact absurd h0 h1
  ·next h1=>
   rw[if_neg h1];split at h0
   ·next A=>exact absurd h0 A
   ·next A=>
    rw[if_neg A];exact BS l _ (FX (by simpa using A)) h0
def NI{ns:List Int}{xs:List ByteArray}(h:(iD ns xs).2=0):cZ (iD ns xs).1=true:=by
 unfold iD at h |-;split at h
 ·cases h
 ·next h1=>
  rw[if_neg h1];split at h
  ·cases h
  ·next A=>rw[if_neg A];exact BS _ _ O4 h
end Nu
section
def fX{α:Type}{b:Bool}{f:α}(h:opt b f=[]):b=false:=by cases b <;> simp[opt]at h |-
def lB{n a b:Int}:inR n a b=true↔a<=n/\n<=b:=by unfold inR;simp only[Xam,decide_eq_true_eq]
def sY{b:Bool}(h:(!b)=false):b=true:=by simpa using h
structure TypeB(t:VType)(d:Int):Prop where
 cap:yZ t.cap d=true
 skills:0<=t.skills/\t.skills<=1073741823
 start:0<=t.start/\t.start<=t.close
 close:t.close<=4096
 drive:1<=t.drive/\t.drive<=4096
 rest:0<=t.rest/\t.rest<=4096
 count:0<=t.count/\t.count<=10
def Xl{n:Network}{l:List VType}{k:Nat}{t:VType}(h:mH n l k t=[]):TypeB t (jP l):=by
 unfold mH at h;simp only[Xbl,Xbj]at h;obtain⟨⟨⟨⟨⟨⟨⟨⟨_,_⟩,Z⟩,_⟩,J⟩,X⟩,U⟩,M⟩,h9⟩:=h;have T:=lB.1 (sY (fX Z));have F:=sY (fX J);have Y:=lB.1 (sY (fX X));have A:=Xah.1 (fX U);have E:=Xah.1 (fX M);have O:=lB.1 (sY A.1);have I:¬t.close>4096:=by simpa using A.2
 exact⟨F,Y,O,by omega,lB.1 (sY E.1),lB.1 (sY E.2),T⟩
structure OrdB(o:Order)(d:Int):Prop where
 load:fE o.load d=true
 pick: -1<=o.pick.place
 drop: -1<=o.drop.place
 both:(o.pick.place == -1&&o.drop.place == -1)=false
 wpick:fM o.pick=0
 wdrop:fM o.drop=0
 skills:0<=o.skills/\o.skills<=1073741823
 penalty: -1<=o.penalty/\o.penalty<=1000000
def acQ{P:Nat}{d T:Int}{l:List Order}{k:Nat}{o:Order}(h:kN P d T l k o=[]):OrdB o d:=by unfold kN at h;simp only[Xbl,Xbj]at h;obtain⟨⟨⟨⟨⟨⟨⟨_,_⟩,U⟩,I⟩,O⟩,M⟩,J⟩,X⟩:=h;have A:=Xah.1 (fX I);have E:=Xah.1 (fX M);have F:=fX X;simp only[Xah]at F;refine⟨sY (fX U),(lB.1 (sY A.1)).1,(lB.1 (sY A.2)).1,fX O,by simpa using E.1,by simpa using E.2,lB.1 (sY (fX J)),lB.1 (sY F.1.1.1.1.1.1)⟩
structure ArcOk(a:Arc):Prop where
 travel:jD a.travel=[]
 slow:a.slow.length<=16
 pt:∀p∈a.slow,(0<=p.t/\p.t<=4096)/\0<=p.a/\p.a<=4096
def YR{n:Network}{k:Nat}{a:Arc}(I:n.arcs[k]?=some a)(h:G0 n k=[]):ArcOk a:=by
 unfold G0 at h;rw[oJ I]at h;simp only[Xbl,Xbj,List.map_eq_nil_iff]at h;obtain⟨⟨⟨_,F⟩,M⟩,J⟩:=h;have T:¬(a.slow.length:Int)>16:=by simpa using fX M
 refine⟨F,by omega,fun p O=>?_⟩;obtain⟨i,E,rfl⟩:=List.getElem_of_mem O;have:=List.flatMap_eq_nil_iff.1 J i (Xav.2 E);have A:=fX this;unfold nI at A;rw[dO (List.getElem?_eq_getElem E)]at A;simp only[Xah]at A;exact⟨lB.1 (sY A.1.1),lB.1 (sY A.1.2)⟩
structure PairB(N:Int)(q:Pair):Prop where
 a:0<=q.a/\q.a<N
 b:0<=q.b/\q.b<N
 ne:q.a≠q.b
def ON{N:Int}{l:List Pair}{w:ByteArray}{s:Bool}(h:uG N l w s=[]):l.length<=16/\∀q∈l,PairB N q:=by
 unfold uG at h;rw[Xbj]at h;have J:¬(l.length:Int)>16:=by simpa using fX h.1
 refine⟨by omega,fun q F=>?_⟩;obtain⟨i,E,rfl⟩:=List.getElem_of_mem F;have:=List.flatMap_eq_nil_iff.1 h.2 i (Xav.2 E);unfold fT at this;have I:pAt l i=l[i]:=by simp[pAt,List.getD,E]
 rw[I]at this;split at this
 ·simp at this
 ·rename_i A;unfold Go.Proofs.YtgncgpcpbadfnaaGreatDoor.B6 at A;simp only[Xah,decide_eq_false_iff_not]at A;exact⟨by omega,by omega,by simpa using A.2⟩
structure Acc(x:Instance):Prop where
 arcs:x.net.arcs.length<=1024
 arc:∀a∈x.net.arcs,ArcOk a
 types:1<=x.types.length/\x.types.length<=6
 type:∀t∈x.types,TypeB t (jP x.types)
 orders:x.orders.length<=10
 order:∀o∈x.orders,OrdB o (jP x.types)
 apart:x.apart.length<=16
 apartB:∀q∈x.apart,PairB x.orders.length q
 before:x.before.length<=16
 beforeB:∀q∈x.before,PairB x.orders.length q
def ahP{x:Instance}(h:Dv x=[]):Acc x:=by
 unfold Dv at h;simp only[Xbj,List.map_eq_nil_iff]at h;obtain⟨⟨⟨J,F⟩,I⟩,E⟩:=h;unfold HU at J;simp only[Xbj]at J;unfold tU at F;rw[Xbj]at F;unfold qT at I;rw[Xbj]at I;unfold CU at E;rw[Xbj]at E;obtain⟨U,r2⟩:=ON E.1;obtain⟨T,X⟩:=ON E.2;have Z:¬(x.net.arcs.length:Int)>1024:=by simpa using fX J.1.2
 have e2:=lB.1 (sY (fX F.1));have e3:¬(x.orders.length:Int)>10:=by simpa using fX I.1
 refine⟨by omega,fun a Y=>?_,by omega,fun t M=>?_,by omega,fun o O=>?_,U,r2,T,X⟩
 ·obtain⟨i,A,rfl⟩:=List.getElem_of_mem Y;exact YR (List.getElem?_eq_getElem A) (List.flatMap_eq_nil_iff.1 J.2 i (Xav.2 A))
 ·obtain⟨i,A,rfl⟩:=List.getElem_of_mem M;have:=List.flatMap_eq_nil_iff.1 F.2 i (Xav.2 A);unfold iC at this;rw[List.map_eq_nil_iff,Ms (List.getElem?_eq_getElem A)]at this;exact Xl this
 ·obtain⟨i,A,rfl⟩:=List.getElem_of_mem O;have:=List.flatMap_eq_nil_iff.1 I.2 i (Xav.2 A);unfold gC at this;rw[List.map_eq_nil_iff,Oy (List.getElem?_eq_getElem A)]at this;exact acQ this
end
namespace Nu
open Go.Proofs.Tryz
open Go.Nu
def tJ(p:Nat->Bool):Nat->Nat
 | 0=>0
 | k+1=>tJ p k+(if p k=true then 2^k else 0)
def Cx(p:Nat->Bool):∀k,tJ p k<2^k
 | 0=>by simp[tJ]
 | k+1=>by have:=Cx p k;rw[tJ,Nat.pow_succ];split <;> omega
def wT(p:Nat->Bool):∀k i,(tJ p k).testBit i=(decide (i<k)&&p i)
 | 0,i=>by simp[tJ]
 | k+1,i=>by
  have A:=Cx p k;have ih:=wT p k i;rw[tJ];have E:tJ p k+(if p k=true then 2^k else 0)=tJ p k ||| (if p k=true then 2^k else 0):=by
   split
   ·rw[Nat.add_comm,Nat.or_comm];have:=Nat.two_pow_add_eq_or_of_lt A 1;simpa using this
   ·simp
  rw[E,Nat.testBit_or,ih];by_cases h:p k=true
  ·rw[if_pos h,Nat.testBit_two_pow];by_cases e:k=i
   ·subst e;simp[h]
   ·have:(decide (i<k+1))=decide (i<k):=by rw[Xap];simp;omega
    rw[this];simp[e]
  ·rw[if_neg h];by_cases e:k=i
   ·subst e;simp[h]
   ·have:(decide (i<k+1))=decide (i<k):=by rw[Xap];simp;omega
    rw[this];simp
def agD{a k:Nat}(h:a<2^k):a ||| 2^k=a+2^k:=by rw[Nat.or_comm,Nat.add_comm];have:=Nat.two_pow_add_eq_or_of_lt h 1;simpa using this.symm
def yX{a b:Nat}(E:a<2^63)(A:b<2^63):pP .or .i64 (a:Int) (b:Int)=((a ||| b:Nat):Int):=by
 have h:((BitVec.ofInt 64 (a:Int) ||| BitVec.ofInt 64 (b:Int)).toNat:Int)=((a ||| b:Nat):Int):=by
  rw[BitVec.toNat_or,BitVec.toNat_ofInt,BitVec.toNat_ofInt];have h1:((a:Int)%((2^64:Nat):Int)).toNat=a:=by omega
  have F:((b:Int)%((2^64:Nat):Int)).toNat=b:=by omega
  rw[h1,F]
 refine Eq.trans (congrArg IntKind.i64.wrap h) ?_;have:=Xbx E A;exact bG (by omega)
def Gi{i:Nat}(h:i<=62):shV .shl .i64 1 (i:Int)=((2^i:Nat):Int):=by
 show IntKind.i64.wrap (1*2^min ((i:Int)).toNat 64)=_;have:min ((i:Int)).toNat 64=i:=by omega
 rw[this,Int.one_mul];have A:(2:Nat)^i<=2^62:=Xau (by decide) h;have E:((2:Int)^i)=((2^i:Nat):Int):=by norm_cast
 rw[E];generalize 2^i=m at A;exact bG (by omega)
def pR{s:Nat}{i:Nat}(h1:i<=62):dH (s:Int) (i:Int)=s.testBit i:=by
 rw[Nat.testBit_eq_decide_div_mod_eq];unfold dH;have A:((2:Int)^i)=((2^i:Nat):Int):=by norm_cast
 rw[Xbd,A];have:((s:Int)/((2^i:Nat):Int))=((s/2^i:Nat):Int):=rfl;rw[this];generalize s/2^i=m;rw[Xap];simp only[Xba,decide_eq_true_eq,Xam];omega
def F9{a b:Nat}(ha:a<2^63)(Z:b<2^63):(pP .andNot .i64 (a:Int) (b:Int) == 0)=decide (a &&& b=a):=by
 have e:pP .andNot .i64 (a:Int) (b:Int)=((a-(a &&& b):Nat):Int):=by
  have h1:((a:Int)%((2^64:Nat):Int)).toNat=a:=by omega
  have X:((b:Int)%((2^64:Nat):Int)).toNat=b:=by omega
  have h:((BitVec.ofInt 64 (a:Int) &&& ~~~(BitVec.ofInt 64 (b:Int))).toNat:Int)=((a-(a &&& b):Nat):Int):=by
   have E:a &&& b<=a:=Nat.and_le_left;have M:BitVec.ofInt 64 (a:Int) &&& ~~~(BitVec.ofInt 64 (b:Int))=BitVec.ofNat 64 (a-(a &&& b)):=by
    have U:BitVec.ofInt 64 (a:Int)=BitVec.ofNat 64 a:=by apply BitVec.eq_of_toNat_eq;rw[BitVec.toNat_ofInt,BitVec.toNat_ofNat,h1,Xbc (by omega)]
    have I:BitVec.ofInt 64 (b:Int)=BitVec.ofNat 64 b:=by apply BitVec.eq_of_toNat_eq;rw[BitVec.toNat_ofInt,BitVec.toNat_ofNat,X,Xbc (by omega)]
    rw[U,I];have J:(BitVec.ofNat 64 a &&& ~~~BitVec.ofNat 64 b) &&& BitVec.ofNat 64 (a &&& b)=0#64:=by apply BitVec.eq_of_getLsbD_eq;intro i A;simp only[BitVec.getLsbD_and,BitVec.getLsbD_not,BitVec.getLsbD_ofNat,Nat.testBit_and,A,decide_true,Xbf,BitVec.getLsbD_zero];cases a.testBit i <;> cases b.testBit i <;> simp
    have T:(BitVec.ofNat 64 a &&& ~~~BitVec.ofNat 64 b) ||| BitVec.ofNat 64 (a &&& b)=BitVec.ofNat 64 a:=by apply BitVec.eq_of_getLsbD_eq;intro i A;simp only[BitVec.getLsbD_or,BitVec.getLsbD_and,BitVec.getLsbD_not,BitVec.getLsbD_ofNat,Nat.testBit_and,A,decide_true,Xbf];cases a.testBit i <;> cases b.testBit i <;> rfl
    have O:=congrArg BitVec.toNat ((BitVec.add_eq_or_of_and_eq_zero _ _ J).trans T);rw[BitVec.toNat_add,BitVec.toNat_ofNat,BitVec.toNat_ofNat,Xbc (by omega:a<2^64),Xbc (by omega:a &&& b<2^64)]at O;apply BitVec.eq_of_toNat_eq;rw[BitVec.toNat_ofNat,Xbc (by omega)];have Y:=(BitVec.ofNat 64 a &&& ~~~BitVec.ofNat 64 b).isLt;have F:(BitVec.ofNat 64 a &&& ~~~BitVec.ofNat 64 b).toNat<=a:=by rw[BitVec.toNat_and,BitVec.toNat_ofNat,Xbc (by omega:a<2^64)];exact Nat.and_le_left
    omega
   rw[M,BitVec.toNat_ofNat,Xbc (by omega)]
  refine Eq.trans (congrArg IntKind.i64.wrap h) ?_;exact bG (by omega)
 rw[e,Xap];have E:a &&& b<=a:=Nat.and_le_left;simp only[Xba,decide_eq_true_eq];omega
def VF(a b:Nat)(A:a<2^63)(E:b<2^63):PC prog 98 [int a,int b] (boo (decide (a &&& b=a))):=by refine pcd func98 rfl rfl ?_;simp only[go_sem];exact cB (F9 A E)
def tG(q:Order->Bool)(l:List Order)(i:Nat):Bool:=match l[i]? with|some o=> !o.off&&q o|none=>false
def G9{q:Order->Bool}{l:List Order}{i:Nat}{o:Order}(h:l[i]?=some o):tG q l i=(!o.off&&q o):=by unfold tG;rw[h]
def N8(q:Order->Bool)(l:List Order):Nat:=tJ (tG q l) l.length
def XS{g:Nat}{q:Order->Bool}(x:Instance)(hx:x.orders.length<=62)(Z:aG prog g=true)(hg:∀o∈x.orders,PC prog g [.agg (aW o)] (boo (q o))):
  PC prog 107 [.agg (aE x),.v (.func (.func g) #[] #[])] (int (N8 q x.orders:Nat)):=by
 refine pcd func107 rfl rfl ?_;simp only[go_sem];unfold N8;generalize hp:tG q x.orders=p;refine⟨fun ρ H=>∃(k:Nat),k<=x.orders.length/\ρ 1=.v (.func (.func g) #[] #[])/\ρ 9=.sl (x.orders.map aW)/\ρ 10=int (x.orders.length:Nat)/\ρ 11=int k/\ρ 5=int (tJ p k:Nat),fun ρ _=>x.orders.length-aT (ρ 11),⟨0,Xab _,by simp only[go_sem],by simp only[go_sem],by simp only[go_sem,Xaa],(by simp only[go_sem];rfl),by simp only[go_sem];rfl⟩,?_⟩;rintro ρ H ⟨k,hk,J,M,E,A,I⟩;simp only[go_sem,J,M,E,A,I];refine aA (fun F=>?_) (fun O=>?_)
 ·have F:=ltB F;obtain⟨o,U⟩:=aM F;have X:=inB F;have T:p k=(!o.off&&q o):=by rw[<-hp];exact G9 U
  have Y:=Cx p k;have aa:2^k<=2^62:=Xau (by decide) (by omega);simp only[go_sem,J,M,E,A,I,aC U,X];refine aJ fun j hj=>?_
  simp only[go_sem,J,M,E,A,I,aC U,X];refine aN (aB _ _ _) (by simp[aW]) ?_;simp only[go_sem,J,M,E,A,I,aC U,X,Z];refine⟨_,fun _=>(hg o (Xac U)).q rfl,?_⟩;simp only[go_sem,J,M,E,A,I];refine aA (fun hb=>?_) (fun hb=>?_)
  ·have q1:=Gi (i:=k) (by omega);have q2:=yX (a:=tJ p k) (b:=2^k) (by omega) (by omega);simp only[go_sem,J,M,E,A,I,q1,q2,aV k];refine⟨by omega,⟨k+1,F,rfl,?_⟩,by simp only[aF];omega⟩;rw[agD Y,tJ,T,if_pos hb]
  ·simp only[go_sem,J,M,E,A,I,aV k];refine⟨⟨k+1,F,rfl,?_⟩,by simp only[aF];omega⟩;rw[tJ,T,if_neg (by rw[hb];simp),Nat.add_zero]
 ·have O:=geB hk O;subst O;simp only[go_sem,J,M,E,A,I];exact .refl _
def GC(x:Instance):Nat:=N8 (fun _=>true) x.orders
def Ek(x:Instance):Nat:=N8 (fun o=>o.penalty == -1) x.orders
def agH(o:Order):PC prog 108 [.agg (aW o)] (boo true):=by refine pcd func108 rfl rfl ?_;simp only[go_sem];exact .refl _
def adB(o:Order):PC prog 138 [.agg (aW o)] (boo (o.penalty == -1)):=by refine pcd func138 rfl rfl ?_;simp only[go_sem];exact .refl _
def Nz(x:Instance)(A:x.orders.length<=62):PC prog 72 [.agg (aE x)] (int (GC x:Nat)):=by refine pcd func72 rfl rfl ?_;simp only[go_sem];refine aP (XS x A (by kernel_rfl) fun o _=>agH o) ?_;simp only[go_sem];exact .refl _
def XA(x:Instance)(A:x.orders.length<=62):PC prog 99 [.agg (aE x)] (int (Ek x:Nat)):=by refine pcd func99 rfl rfl ?_;simp only[go_sem];refine aP (XS x A (by kernel_rfl) fun o _=>adB o) ?_;simp only[go_sem];exact .refl _
def wM(n:Nat)(set:Int):Bool:=decide (set>=0)&&(set/2^n == 0)
def KX(x:Instance)(set:Int)(A:x.orders.length<=62):PC prog 61 [.agg (aE x),int set] (boo (wM x.orders.length set)):=by refine pcd func61 rfl rfl ?_;simp only[go_sem];refine⟨by omega,?_⟩;refine cB ?_;rw[wW A];rfl
def KQ{g:Nat}{cap:List AV}{p:Int->Bool}(l:List Int)(hl:l.length<=1048576)(X:aG prog g=true)(hg:∀v∈l,PC prog g (int v::cap) (boo (p v))):
  ∃n:Int,decide (n>=0)=l.any p/\PC prog 182 [.sl (l.map aQ),.fn g cap] (int n):=by
 refine⟨match l.findIdx? p with|some i=>(i:Int)|none=> -1,?_,?_⟩
 ·cases h:l.findIdx? p with
  | none=>have:=List.findIdx?_eq_none_iff.1 h;simp only;rw[Xax.2 (fun x hx=>by rw[this x hx];simp)];rfl
  | some i=>obtain⟨hi,hp,_⟩:=List.findIdx?_eq_some_iff_getElem.1 h;simp only;rw[Xao.2 ⟨l[i],List.getElem_mem hi,hp⟩];simp
 ·
  refine pcd func182 rfl rfl ?_;simp only[go_sem];refine⟨fun ρ H=>∃(k:Nat),k<=l.length/\ρ 0=.sl (l.map aQ)/\ρ 1=.fn g cap/\ρ 7=int (l.length:Nat)/\ρ 8=int k/\(∀u∈l.take k,p u=false),fun ρ _=>l.length-aT (ρ 8),⟨0,Xab _,by simp only[go_sem],by simp only[go_sem],by simp only[go_sem,Xaa],(by simp only[go_sem];rfl),by simp⟩,?_⟩;rintro ρ H ⟨k,hk,I,J,F,M,O⟩;simp only[go_sem,I,J,F,M];refine aA (fun A=>?_) (fun E=>?_)
  ·have A:=ltB A;obtain⟨u,T⟩:=aM A;have Z:=inB A;simp only[go_sem,I,J,F,M,aC T,Z,X];refine aP (hg u (Xac T)) ?_;simp only[go_sem,I,J,F,M];refine aA (fun Y=>?_) (fun Y=>?_)
   ·simp only[go_sem,I,J,F,M];have:l.findIdx? p=some k:=by
     have U:k<l.length:=A;refine List.findIdx?_eq_some_iff_getElem.2 ⟨U,?_,fun j hj=>?_⟩
     ·have:=(List.getElem?_eq_some_iff.1 T).2;rw[this];exact Y
     ·have:=O l[j] (List.mem_take_iff_getElem.2 ⟨j,by omega,rfl⟩);rw[this];simp
    rw[this];exact .refl _
   ·simp only[go_sem,I,J,F,M,aV k];exact⟨⟨k+1,A,rfl,fG (p:=fun u=>p u=false) T Y O⟩,by simp only[aF];omega⟩
  ·have E:=geB hk E;subst E;rw[Xae]at O;simp only[go_sem];rw[List.findIdx?_eq_none_iff.2 O];exact .refl _
def EE{g:Nat}{cap:List AV}{p:Int->Bool}(l:List Int)(F:l.length<=1048576)(A:aG prog g=true)(I:∀v∈l,PC prog g (int v::cap) (boo (p v))):
  PC prog 140 [.sl (l.map aQ),.fn g cap] (boo (l.any p)):=by
 obtain⟨n,J,E⟩:=KQ l F A I;refine pcd func140 rfl rfl ?_;simp only[go_sem];refine aP E ?_;simp only[go_sem];exact cB J
def qQ(l:List Order)(i:Int):Order:=l.getD i.toNat ⟨ByteArray.empty,[],⟨0,0,0,0⟩,⟨0,0,0,0⟩,0,0,0,0,0,false⟩
def pO{l:List Order}{i:Nat}{o:Order}(h:l[i]?=some o):qQ l (i:Int)=o:=by simp[qQ,List.getD,h]
def WF(l:List Order)(ms:List Int):Prop:=∀i∈ms,0<=i/\i<(l.length:Int)
def Kh(x:Instance)(g:Nat)(q:Order->Int)(i:Int)(I:0<=i/\i<(x.orders.length:Int))(E:aG prog g=true)(J:∀o,PC prog g [.agg (aW o)] (int (q o))):
  PC prog 141 [int i,.rp [.v (.func (.func g) #[] #[])] 0,.rp (aE x) 0] (boo (decide (q (qQ x.orders i)>=0))):=by
 obtain⟨n,rfl⟩:=Int.eq_ofNat_of_zero_le I.1;have A:n<x.orders.length:=by omega
 obtain⟨o,F⟩:=aM A;have M:=inB A;rw[pO F];refine pcd func141 rfl rfl ?_;simp only[go_sem];refine dF (by rfl) (by kernel_rfl) ?_;simp only[go_sem,aC F,M,E];refine⟨_,(J o).q rfl,?_⟩;simp only[go_sem];exact .refl _
def Ob(o:Order):PC prog 142 [.agg (aW o)] (int o.pick.place):=by refine pcd func142 rfl rfl ?_;simp only[go_sem];exact .refl _
def Of(o:Order):PC prog 143 [.agg (aW o)] (int o.drop.place):=by refine pcd func143 rfl rfl ?_;simp only[go_sem];exact .refl _
def Ew(x:Instance)(g:Nat)(q:Order->Int)(ms:List Int)(J:WF x.orders ms)(F:ms.length<=1048576)(A:aG prog g=true)(I:∀o,PC prog g [.agg (aW o)] (int (q o))):
  PC prog 139 [.v (.func (.func g) #[] #[]),.rp [.sl (ms.map aQ)] 0,.rp (aE x) 0] (boo (!(ms.any fun i=>decide (q (qQ x.orders i)>=0)))):=by
 refine pcd func139 rfl rfl ?_;simp only[go_sem];refine aP (EE (p:=fun i=>decide (q (qQ x.orders i)>=0)) ms F (by kernel_rfl) (fun i E=>Kh x g q i (J i E) A I)) ?_;simp only[go_sem];exact .refl _
def agW(x:Instance)(ms:List Int):Bool:= !(ms.any fun i=>decide ((qQ x.orders i).pick.place>=0))|| !(ms.any fun i=>decide ((qQ x.orders i).drop.place>=0))
def Qw(x:Instance)(ms:List Int)(A:WF x.orders ms)(E:ms.length<=1048576):PC prog 100 [.agg (aE x),.sl (ms.map aQ)] (boo (agW x ms)):=by refine pcd func100 rfl rfl ?_;simp only[go_sem];refine aP (Ew x _ (fun o=>o.pick.place) ms A E (by kernel_rfl) Ob) ?_;simp only[go_sem];refine⟨_,fun _=>(Ew x _ (fun o=>o.drop.place) ms A E (by kernel_rfl) Of).q rfl,?_⟩;simp only[go_sem];exact .refl _
def xI:List Int->List Int->Int->Int×Int
 | n::a,c::l,t=>if n<=0 then xI a l t else if c=0 then(0,24)else xI a l (lC t ((n+c-1).tdiv c))
 | _,_,t=>(t,0)
def Bp(a c:List Int):Int×Int:=if a.length≠c.length then(0,2)else if c.any (fun n=>decide (n<0))=true then(0,2)else xI a c 0
def Mid(n:Int):Prop:= -1099511627776<=n/\n<=1099511627776
def ZB(a c:List Int)(hl:a.length<=1048576)(ac:c.length<=1048576)(ha:∀n∈a,Mid n)(hc:∀n∈c,Mid n):
  PC prog 144 [.sl (a.map aQ),.sl (c.map aQ)] (.tup [int (Bp a c).1,int (Bp a c).2]):=by
 refine pcd func144 rfl rfl ?_;simp only[go_sem];refine aA (fun hb=>?_) (fun hb=>?_)
 ·have hb:a.length≠c.length:=neN hb;simp only[go_sem];rw[show Bp a c=(0,2)from if_pos hb];exact .refl _
 have hb:a.length=c.length:=eqN hb;have X:Bp a c=if c.any (fun n=>decide (n<0))=true then(0,2)else xI a c 0:=if_neg (by simp[hb])
 rw[X];simp only[go_sem,Xaa];refine⟨fun ρ H=>∃(k:Nat),k<=c.length/\ρ 0=.sl (a.map aQ)/\ρ 1=.sl (c.map aQ)/\ρ 17=.sl (c.map aQ)/\ρ 18=int (c.length:Nat)/\ρ 19=int k/\(∀n∈c.take k,0<=n),fun ρ _=>c.length-aT (ρ 19),⟨0,Xab _,by simp only[go_sem],by simp only[go_sem],by simp only[go_sem],by simp only[go_sem,Xaa],(by simp only[go_sem];rfl),by simp⟩,?_⟩;rintro ρ H ⟨k,hk,X,J,F,I,E,hz⟩;simp only[go_sem,X,J,F,I,E];refine aA (fun A=>?_) (fun M=>?_)
 ·have A:=ltB A;obtain⟨n,Z⟩:=aM A;have b1:=inB A;simp only[go_sem,X,J,F,I,E,aC Z,b1];refine aA (fun Y=>?_) (fun Y=>?_)
  ·simp only[go_sem];rw[if_pos (E5 Z Y)];exact .refl _
  ·simp only[go_sem,X,J,F,I,E,aV k];exact⟨⟨k+1,A,rfl,fG Z (by simpa using Y) hz⟩,by simp only[aF];omega⟩
 have M:=geB hk M;subst M;rw[Xae]at hz;rw[if_neg (by rw[Ch fun n Z=>by simpa using hz n Z];simp)];simp only[go_sem,X,J,F,I,E,Xaa];refine⟨fun ρ H=>∃(k:Nat) (t:Int),k<=a.length/\ρ 1=.sl (c.map aQ)/\ρ 26=.sl (a.map aQ)/\ρ 27=int (a.length:Nat)/\ρ 28=int k/\ρ 8=int t/\xI a c 0=xI (a.drop k) (c.drop k) t,fun ρ _=>a.length-aT (ρ 28),⟨0,0,Xab _,by simp only[go_sem,X,J,F,I,E],by simp only[go_sem,X,J,F,I,E],by simp only[go_sem,Xaa,X,J,F,I,E],(by simp only[go_sem,X,J,F,I,E];rfl),by simp only[go_sem],rfl⟩,?_⟩;rintro ρ H ⟨k,t,hk,J,T,U,O,e8,hi⟩;simp only[go_sem,J,T,U,O,e8];refine aA (fun A=>?_) (fun M=>?_)
 ·have A:=ltB A;obtain⟨n,Z⟩:=aM A;obtain⟨m,hm⟩:=aM (l:=c) (k:=k) (by omega);have b1:=inB A;have b2:=inB (show k<c.length by omega);have aa:=ha n (Xac Z);have ab:=hc m (Xac hm);have ae:=hz m (Xac hm);unfold Mid at aa ab;rw[J3 Z,J3 hm,xI]at hi;simp only[go_sem,J,T,U,O,e8,aC Z,aC hm,b1,b2];refine aA (fun Y=>?_) (fun Y=>?_)
  ·rw[if_pos (by simpa using Y)]at hi;simp only[go_sem,J,T,U,O,e8,aV k];exact⟨⟨k+1,t,A,rfl,rfl,hi⟩,by simp only[aF];omega⟩
  have Y:¬n<=0:=by simpa using Y
  rw[if_neg Y]at hi;simp only[go_sem,J,T,U,O,e8];refine aA (fun h0=>?_) (fun h0=>?_)
  ·rw[if_pos (by simpa using h0)]at hi;rw[hi];simp only[go_sem];exact .refl _
  have h0:m≠0:=by simpa using h0
  rw[if_neg h0]at hi;have w1:IntKind.i64.wrap (n+m)=n+m:=bG (by omega);have w2:IntKind.i64.wrap (n+m-1)=n+m-1:=bG (by omega);have w3:IntKind.i64.wrap ((n+m-1).tdiv m)=(n+m-1).tdiv m:=bG (by have h1:=Int.tdiv_nonneg (a:=n+m-1) (b:=m) (by omega) (by omega);have h2:=Int.tdiv_le_self m (a:=n+m-1) (by omega);omega);simp only[go_sem,J,T,U,O,e8,w1,w2,w3,aV k];exact⟨h0,⟨k+1,_,A,rfl,rfl,hi⟩,by simp only[aF];omega⟩
 ·have M:=geB hk M;subst M;have ea:a.drop a.length=[]:=Xbp;have:xI a c 0=(t,0):=by rw[hi,ea];unfold xI;rfl
  rw[this];simp only[go_sem,J,T,U,O,e8];exact .refl _
def Bv(l:List Order)(dim:Nat)(i:Int):Int:=(qQ l i).load.getD dim 0
def jF(l:List Order)(ms:List Int)(dim:Nat):Int:=(ms.map (Bv l dim)).sum
def pZ(l:List VType)(dim:Nat):Int:=l.foldl (fun c t=>lC c (t.cap.getD dim 0)) 0
def K8(x:Instance)(ms:List Int)(dim:Nat):Int:=if(Bp [jF x.orders ms dim] [pZ x.types dim]).2≠0 then 0 else(Bp [jF x.orders ms dim] [pZ x.types dim]).1
structure LoadsOk(x:Instance)(d:Nat):Prop where
 dims:d<=3
 orders:x.orders.length<=62
 types:x.types.length<=1048576
 load:∀o∈x.orders,o.load.length=d/\∀n∈o.load,0<=n/\n<=1000
 cap:∀t∈x.types,t.cap.length=d/\∀n∈t.cap,0<=n/\n<=1000
def Jj{x:Instance}{d A:Nat}(h:LoadsOk x d)(M:A<d){i:Int}(I:0<=i/\i<(x.orders.length:Int)):0<=Bv x.orders A i/\Bv x.orders A i<=1000:=by obtain⟨n,rfl⟩:=Int.eq_ofNat_of_zero_le I.1;obtain⟨o,E⟩:=aM (show n<x.orders.length by omega);unfold Bv;rw[pO E];obtain⟨h1,J⟩:=h.load o (Xac E);obtain⟨v,F⟩:=aM (show A<o.load.length by omega);rw[List.getD,F];exact J v (Xac F)
def Bi{x:Instance}{d A:Nat}(h:LoadsOk x d)(E:A<d):∀{ms:List Int},WF x.orders ms->0<=jF x.orders ms A/\jF x.orders ms A<=1000*ms.length
 | [],_=>by simp[jF]
 | i::ms,hm=>by
  have h1:=Jj h E (hm i (by simp));have I:=Bi h E (ms:=ms) fun j F=>hm j (by simp[F])
  unfold jF at I |-;rw[Xaw,List.sum_cons,Xad];omega
def Ko(l:List Order)(ms:List Int)(i:Int)(A:Nat):jF l (ms++[i]) A=jF l ms A+Bv l A i:=by simp[jF]
def Eu(l:List VType)(t:VType)(A:Nat):pZ (l++[t]) A=lC (pZ l A) (t.cap.getD A 0):=by simp[pZ]
def aeI{a b c:Int}(h1:0<=a/\a<=c)(A:0<=b/\b<=c):0<=lC a b/\lC a b<=c:=by unfold lC;split <;> omega
def IP{x:Instance}{d A:Nat}(h:LoadsOk x d)(J:A<d):∀k,0<=pZ (x.types.take k) A/\pZ (x.types.take k) A<=1000
 | 0=>by simp[pZ]
 | k+1=>by
  have ih:=IP h J k;rcases Xbb k x.types.length with F|F
  ·obtain⟨t,E⟩:=aM F;rw[bE E,Eu];obtain⟨h1,M⟩:=h.cap t (Xac E);obtain⟨v,I⟩:=aM (show A<t.cap.length by omega);refine aeI ih ?_;rw[List.getD,I];exact M v (Xac I)
  ·rw[Xaq (by omega)]at ih |-;exact ih
def acC(x:Instance)(ms:List Int)(A d:Nat)(h:LoadsOk x d)(hd:A<d)(hm:WF x.orders ms)(hl:ms.length<=63):
  PC prog 101 [.agg (aE x),.sl (ms.map aQ),int A] (int (K8 x ms A)):=by
 have al:=h.orders;have ak:=h.types;refine pcd func101 rfl rfl ?_;simp only[go_sem];refine⟨fun ρ H=>∃(k:Nat),k<=ms.length/\ρ 2=int A/\ρ 3=.rp (aE x) 0/\ρ 8=int 0/\ρ 15=.sl (ms.map aQ)/\ρ 16=int (ms.length:Nat)/\ρ 17=int k/\ρ 7=int (jF x.orders (ms.take k) A),fun ρ _=>ms.length-aT (ρ 17),⟨0,Xab _,by simp only[go_sem],by simp only[go_sem],by simp only[go_sem],by simp only[go_sem],by simp only[go_sem,Xaa],(by simp only[go_sem];rfl),by simp only[go_sem];rfl⟩,?_⟩;rintro ρ H ⟨k,hk,X,e3,F,I,M,J,O⟩;simp only[go_sem,X,e3,F,I,M,J,O];refine aA (fun E=>?_) (fun U=>?_)
 ·have E:=ltB E;obtain⟨i,hi⟩:=aM E;have b1:=inB E;have ac:=hm i (Xac hi);have am:=Jj h hd ac;have an:=Bi h hd (ms:=ms.take k) fun j hj=>hm j (List.mem_of_mem_take hj)
  have af:=Ko x.orders (ms.take k) i A;rw[<-bE hi]at af;obtain⟨n,rfl⟩:=Int.eq_ofNat_of_zero_le ac.1;have hn:n<x.orders.length:=by omega
  obtain⟨o,ab⟩:=aM hn;obtain⟨ao,ap⟩:=h.load o (Xac ab);obtain⟨v,hv⟩:=aM (show A<o.load.length by omega);have ai:Bv x.orders A (n:Int)=v:=by unfold Bv;rw[pO ab,List.getD,hv];rfl
  have b2:=inB hn;have b3:=inB (show A<o.load.length by omega);have aq:(ms.take k).length<=63:=by rw[Xal];omega
  have w1:IntKind.i64.wrap (jF x.orders (ms.take k) A+v)=jF x.orders (ms.take (k+1)) A:=by rw[af,ai,bG (by omega)]
  simp only[go_sem,X,e3,F,I,M,J,O,aC hi,b1,aC ab,b2,aC hv,b3,w1,aV k];exact⟨⟨k+1,E,rfl,rfl⟩,by simp only[aF];omega⟩
 have U:=geB hk U;subst U;rw[Xae]at O;simp only[go_sem,X,e3,F,I,M,J,O,Xaa];refine⟨fun ρ H=>∃(k:Nat),k<=x.types.length/\ρ 2=int A/\ρ 7=int (jF x.orders ms A)/\ρ 34=.sl (x.types.map aZ)/\ρ 35=int (x.types.length:Nat)/\ρ 36=int k/\ρ 8=int (pZ (x.types.take k) A),fun ρ _=>x.types.length-aT (ρ 36),⟨0,Xab _,by simp only[go_sem,X,e3,F,I,M,J,O],by simp only[go_sem,X,e3,F,I,M,J,O],by simp only[go_sem,X,e3,F,I,M,J,O],by simp only[go_sem,Xaa,X,e3,F,I,M,J,O],(by simp only[go_sem,X,e3,F,I,M,J,O];rfl),by simp only[go_sem,F];rfl⟩,?_⟩;rintro ρ H ⟨k,hk,X,O,aa,Y,Z,F⟩;simp only[go_sem,X,O,aa,Y,Z,F];refine aA (fun E=>?_) (fun U=>?_)
 ·have E:=ltB E;obtain⟨t,ht⟩:=aM E;have b1:=inB E;obtain⟨h1,h2⟩:=h.cap t (Xac ht);obtain⟨v,hv⟩:=aM (show A<t.cap.length by omega);have b3:=inB (show A<t.cap.length by omega);simp only[go_sem,X,O,aa,Y,Z,F,aC ht,b1];refine aJ fun j ae=>?_
  simp only[go_sem,X,O,aa,Y,Z,F,aC ht,b1];refine bP ae (by simp[jY]) fun ag (R:ag j=some (lA t)) N=>?_
  clear N ae;simp only[go_sem,X,O,aa,Y,Z,F,aC ht,b1,R];simp only[go_sem,X,O,aa,Y,Z,F,aC hv,b3,aV k];refine⟨⟨k+1,E,rfl,?_⟩,by simp only[aF];omega⟩;rw[bE ht,Eu,List.getD,hv];rfl
 have U:=geB hk U;subst U;rw[Xae]at F;have hL:=Bi h hd hm;have hC:=IP h hd x.types.length;rw[Xae]at hC;simp only[go_sem,X,O,aa,Y,Z,F];have aj:∀n∈[jF x.orders ms A],Mid n:=fun n hn=>by rw[Xbg.1 hn];unfold Mid;omega
 have ah:∀n∈[pZ x.types A],Mid n:=fun n hn=>by rw[Xbg.1 hn];unfold Mid;omega
 refine aP (ZB [jF x.orders ms A] [pZ x.types A] (by simp) (by simp) aj ah) ?_;unfold K8;generalize Bp [jF x.orders ms A] [pZ x.types A]=T;simp only[go_sem];refine aA (fun hb=>?_) (fun hb=>?_)
 ·simp only[go_sem];rw[if_pos (by simpa using hb)];exact .refl _
 ·simp only[go_sem];rw[if_neg (by simpa using hb)];exact .refl _
def BI{n:Nat}{set:Int}(h:wM n set=true):∃s:Nat,set=(s:Int)/\s<2^n:=by
 unfold wM at h;simp only[Xam,decide_eq_true_eq,Xba]at h;obtain⟨s,rfl⟩:=Int.eq_ofNat_of_zero_le h.1;refine⟨s,rfl,?_⟩;have F:((2:Int)^n)=((2^n:Nat):Int):=by norm_cast
 have A:=h.2;rw[F]at A;have E:s/2^n=0:=by exact_mod_cast A
 exact(Nat.div_eq_zero_iff_lt (Nat.two_pow_pos n)).1 E
def adS{s n:Nat}(h:s<2^n)(T:n<=62):∀i∈fA (s:Int),0<=i/\i<(n:Int):=by
 intro i I;unfold fA tS at I;obtain⟨j,J,rfl⟩:=Xay.1 I;obtain⟨F,A⟩:=List.mem_filter.1 J;have O:=Xav.1 F;rw[pR (by omega)]at A;refine⟨by omega,?_⟩;rcases Xbb j n with M|E
 ·omega
 ·rw[Nat.testBit_lt_two_pow (Xbi h (Xau (by decide) E))]at A;cases A
def UC(x:Instance)(ms:List Int)(k:Nat):Int:=(List.range k).foldl (fun n dim=>lC n (K8 x ms dim)) 1
def WA(x:Instance)(ms:List Int)(k:Nat):UC x ms (k+1)=lC (UC x ms k) (K8 x ms k):=by unfold UC;rw[Xbt,List.foldl_append];rfl
def aeR(x:Instance)(set:Int):Bool:=decide (set<=0)|| !wM x.orders.length set|| !decide (set.toNat &&& Ek x=set.toNat)
def Hi(x:Instance)(d:Nat)(set:Int):Int:=if aeR x set=true then 0 else if agW x (fA set)=false then 1 else UC x (fA set) d
def Cz(q:Order->Bool)(l:List Order):N8 q l<2^l.length:=Cx _ _
def YF(x:Instance)(d:Nat)(set:Int)(h:LoadsOk x d)(ht:x.types≠[]):PC prog 63 [.agg (aE x),int set] (int (Hi x d set)):=by
 have A:=h.orders;have af:=h.dims;have ac:Ek x<2^x.orders.length:=Cz _ _;have ae:2^x.orders.length<=2^62:=Xau (by decide) A;refine pcd func63 rfl rfl ?_;simp only[go_sem];refine⟨_,fun _=>(KX x set A).q rfl,?_⟩;simp only[go_sem];refine⟨_,fun _=>(XA x A).q rfl,?_⟩;simp only[go_sem];refine⟨boo (decide (set.toNat &&& Ek x=set.toNat)),fun hg=>?_,?_⟩
 ·simp at hg;obtain⟨s,rfl,hs⟩:=BI hg.2;exact(VF s (Ek x) (by omega) (by omega)).q rfl
 simp only[go_sem];refine aA (fun M=>?_) (fun M=>?_)
 ·simp only[go_sem];rw[show Hi x d set=0 from if_pos M];exact .refl _
 have e0:Hi x d set=if agW x (fA set)=false then 1 else UC x (fA set) d:=if_neg (by unfold aeR;rw[M];simp)
 rw[e0];obtain⟨s,rfl,hs⟩:=BI (n:=x.orders.length) (set:=set) (by simp at M;exact M.1.2);have hm:WF x.orders (fA (s:Int)):=adS hs A;have Z:(fA (s:Int)).length<=63:=pH _ _;simp only[go_sem];refine aP (jG s) ?_;simp only[go_sem];refine aP (Qw x (fA s) hm (by omega)) ?_;simp only[go_sem];obtain⟨t,r,F⟩:=List.exists_cons_of_ne_nil ht;have T:((x.types.length:Int) == 0)=false:=by rw[F];rw[beq_eq_false_iff_ne];simp;omega
 simp only[go_sem,Xaa,T];refine aA (fun M=>?_) (fun M=>?_)
 ·simp only[go_sem];rw[if_pos (by simpa using M)];exact .refl _
 rw[if_neg (by simpa using M)];have b1:=inB (show 0<x.types.length by rw[F];simp);have ab:x.types[0]?=some t:=by rw[F];rfl
 have aa:=aC (f:=aZ) ab;have hd:=(h.cap t (by rw[F];simp)).1;subst hd;simp only[go_sem,Xaa,aa];refine⟨by omega,?_⟩;refine⟨fun ρ H=>∃(k:Nat),k<=t.cap.length/\ρ 2=.rp (aE x) 0/\ρ 6=.sl ((fA s).map aQ)/\ρ 41=int (t.cap.length:Nat)/\ρ 42=int k/\ρ 5=int (UC x (fA s) k),fun ρ _=>t.cap.length-aT (ρ 42),⟨0,Xab _,by simp only[go_sem],by simp only[go_sem],by simp only[go_sem,Xaa],(by simp only[go_sem];rfl),by simp only[go_sem];rfl⟩,?_⟩;rintro ρ H ⟨k,hk,X,Y,I,E,U⟩;simp only[go_sem,X,Y,I,E,U];refine aA (fun J=>?_) (fun O=>?_)
 ·have J:=ltB J;simp only[go_sem,X,Y,I,E,U];refine aP (acC x (fA s) k _ h J hm Z) ?_;simp only[go_sem,X,Y,I,E,U,aV k];exact⟨⟨k+1,J,rfl,by rw[WA]⟩,by simp only[aF];omega⟩
 ·have O:=geB hk O;subst O;simp only[go_sem,X,Y,I,E,U];exact .refl _
def oI(x:Instance)(d:Nat)(one:Cut):Int:=
 if one.kind=1 then(if(!wM x.orders.length one.set|| !((AC 63 one.set.toNat:Nat):Int) == 3)=true then 2 else if one.n≠1 then 27 else 0)
 else if one.kind=2 then(if(!wM x.orders.length one.set||one.set == 0)=true then 2 else if(decide (one.n<1)||decide (one.n>Hi x d one.set))=true then 27 else 0)
 else 8
def NR(x:Instance)(d:Nat)(A:Cut)(h:LoadsOk x d)(M:x.types≠[]):PC prog 41 [.agg (aE x),.agg (eP A)] (int (oI x d A)):=by
 have F:=h.orders;refine pcd func41 rfl rfl ?_;simp only[go_sem];unfold oI;refine aA (fun h1=>?_) (fun h1=>?_)
 ·rw[if_pos (by simpa using h1)];simp only[go_sem];refine aP (KX x A.set F) ?_;simp only[go_sem];refine⟨int (AC 63 A.set.toNat:Nat),fun J=>?_,?_⟩
  ·simp at J;obtain⟨s,O,_⟩:=BI J;rw[O];exact(Xz s).q rfl
  simp only[go_sem];refine aA (fun E=>?_) (fun E=>?_)
  ·rw[if_pos (by exact E)];simp only[go_sem];exact .refl _
  rw[if_neg (by rw[show(!wM x.orders.length A.set|| !((AC 63 A.set.toNat:Nat):Int) == 3)=false from E];simp)];simp only[go_sem];refine aA (fun E=>?_) (fun E=>?_)
  ·rw[if_pos (by simpa using E)];simp only[go_sem];exact .refl _
  ·rw[if_neg (by simpa using E)];simp only[go_sem];exact .refl _
 rw[if_neg (by simpa using h1)];simp only[go_sem];refine aA (fun I=>?_) (fun I=>?_)
 ·rw[if_pos (by simpa using I)];simp only[go_sem];refine aP (KX x A.set F) ?_;simp only[go_sem];refine aA (fun E=>?_) (fun E=>?_)
  ·rw[if_pos (by exact E)];simp only[go_sem];exact .refl _
  rw[if_neg (by rw[show(!wM x.orders.length A.set||A.set == 0)=false from E];simp)];simp only[go_sem];refine dF (by rfl) (by kernel_rfl) ?_;simp only[go_sem];refine⟨_,fun _=>(YF x d A.set h M).q rfl,?_⟩;simp only[go_sem];refine aA (fun E=>?_) (fun E=>?_)
  ·rw[if_pos (by exact E)];simp only[go_sem];exact .refl _
  ·rw[if_neg (by rw[show(decide (A.n<1)||decide (A.n>Hi x d A.set))=false from E];simp)];simp only[go_sem];exact .refl _
 ·rw[if_neg (by simpa using I)];simp only[go_sem];exact .refl _
def GM(one:Cut):Int×Int:=if one.kind=1 then(1,1)else if one.kind=2 then(3,one.n)else(0,0)
def aiV(A:Cut):PC prog 103 [.agg (eP A)] (.tup [int (GM A).1,int (GM A).2]):=by
 refine pcd func103 rfl rfl ?_;simp only[go_sem];unfold GM;refine aA (fun h1=>?_) (fun h1=>?_)
 ·rw[if_pos (by simpa using h1)];simp only[go_sem];exact .refl _
 rw[if_neg (by simpa using h1)];simp only[go_sem];refine aA (fun E=>?_) (fun E=>?_)
 ·rw[if_pos (by simpa using E)];simp only[go_sem];refine dF (by rfl) (by kernel_rfl) ?_;simp only[go_sem];exact .refl _
 ·rw[if_neg (by simpa using E)];simp only[go_sem];exact .refl _
end Nu
namespace Nu
open Go.Nu
def sX(l:List Int):List AV:=[.sl (l.map aQ)]
end Nu
end Go.Proofs.YtgncgpcpbadfnaaGreatDoor
section
namespace Go.So
variable{α:Type}
structure SWO(lt:α->α->Bool):Prop where
 asym:∀a b,lt a b=true->lt b a=false
 neg:∀a b c,lt a b=false->lt b c=false->lt a c=false
section
variable{lt:α->α->Bool}(h:SWO lt)
include h
end
section
variable{lt:α->α->Bool}(h:SWO lt)
include h
end
end Go.So
end
namespace Go.Proofs.YtgncgpcpbadfnaaGreatDoor
open Go.Aw Go.Aw.D Go.Proofs Ty
namespace Nu
open Go.Nu Go.So
structure Broken where
 cut:Cut
 by_:ByteArray
abbrev J1(gf:Nat):AV:=.v (.func (.func gf) #[] #[])
abbrev TB:=Broken×Nat
def fs(L:List TB):List Broken:=L.map Prod.fst
end Nu
namespace Nu
open Go.Nu Go.So
section
variable{gf:Nat}{lt:Broken->Broken->Bool}{ok:Broken->Prop}
end
end Nu
namespace Nu
open Go.Nu Go.So
section
variable{gf:Nat}{lt:Broken->Broken->Bool}{ok:Broken->Prop}
end
end Nu
namespace Dec
open Go.Proofs.Tryz
def bZ{H:aH}{k:IntKind}{a b:Int}(h:a=b):Conv H (.v (.int k a)) (.v (.int k b)):=h▸.refl _
def cK{H:aH}{a b:Bool}(h:a=b):Conv H (.v (.bool a)) (.v (.bool b)):=h▸.refl _
def akA{H:aH}{a b:List AV}(h:a=b):Conv H (.agg a) (.agg b):=h▸.refl _
def yP(x:Instance)(n:Int):Bool:=decide (n>=0)&&decide (n<(x.orders.length:Int))
def FB(x:Instance)(n:Int):PC prog 60 [int n,.rp (aE x) 0] (boo (yP x n)):=by refine pcd func60 rfl rfl ?_;simp only[go_sem];exact .refl _
def dC(x:Instance)(d:Decision):Int:=
 if d.kind=1\/d.kind=2 then(if yP x d.a&&yP x d.b&&d.a != d.b then 0 else 2)
 else if d.kind=5\/d.kind=6 then(if yP x d.a then 0 else 2)
 else if d.kind=3\/d.kind=4 then(if decide (d.a>=0)&&decide (d.a<(x.types.length:Int))&&decide (d.n>=0)&&decide (d.n<=10)then 0 else 2)
 else 8
def J6(x:Instance)(d:Decision):PC prog 39 [.agg (aE x),.agg (aO d)] (int (dC x d)):=by
 refine pcd func39 rfl rfl ?_;simp only[go_sem]
 repeat' (first|(refine aP (FB _ _) ?_)|(refine⟨_,fun _=>PC.q (FB _ _) rfl,?_⟩)|(refine⟨_,PC.q (FB _ _) rfl,?_⟩)|(refine aA (fun A=>?_) (fun A=>?_))|(simp only[go_sem]))
 all_goals (refine bZ ?_;(try unfold dC);generalize yP x d.a=p at *;generalize yP x d.b=q at *;cases p <;> cases q <;> simp_all <;> (try omega))
def jJ:List Int->Int
 | []=>0
 | e::r=>if e != 0 then e else jJ r
def Ct{l:List Int}{k:Nat}{e:Int}(h:∀e∈l.take k,e=0)(A:l[k]?=some e)(F:(e != 0)=true):jJ l=e:=by
 induction l generalizing k with
 | nil=>simp at A
 | cons a r ih=>
  cases k with
  | zero=>simp at A;subst A;simp only[jJ];rw[if_pos F]
  | succ k=>have h0:=h a (by simp);subst h0;simp only[jJ];exact ih (k:=k) (fun e E=>h e (by simp[E])) (by simpa using A)
def AY{l:List Int}(h:∀e∈l,e=0):jJ l=0:=by
 induction l with
 | nil=>rfl
 | cons a r ih=>have h0:=h a (by simp);subst h0;simp only[jJ];exact ih fun e A=>h e (by simp[A])
def pD{l:List Int}(h:jJ l=0):∀e∈l,e=0:=by
 induction l with
 | nil=>simp
 | cons a r ih=>
  simp only[jJ]at h;split at h
  ·rename_i A;simp at A;exact absurd h A
  ·rename_i A;simp at A;intro e E;rcases List.mem_cons.1 E with rfl|E;exact A;exact ih h e E
def jH(x:Instance)(l:List Decision):Int:=if decide ((l.length:Int)>1024)then 4 else jJ (l.map (dC x))
def X8(x:Instance)(l:List Decision)(hl:l.length<=1048576):PC prog 17 [.agg (aE x),.sl (l.map aO)] (int (jH x l)):=by
 refine pcd func17 rfl rfl ?_;simp only[go_sem];refine aA (fun M=>?_) (fun M=>?_)
 ·simp only[go_sem];exact bZ (by unfold jH;rw[if_pos M])
 ·have Z:jH x l=jJ (l.map (dC x)):=by unfold jH;rw[if_neg (by rw[M];simp)]
  rw[Z];simp only[go_sem];refine⟨fun ρ _=>∃k:Nat,k<=l.length/\ρ 2=.rp (aE x) 0/\ρ 11=.sl (l.map aO)/\ρ 12=int l.length/\ρ 13=int k/\∀e∈(l.map (dC x)).take k,e=0,fun ρ _=>l.length-aT (ρ 13),⟨0,Xab _,rfl,rfl,rfl,rfl,by simp⟩,?_⟩;rintro ρ H ⟨k,hk,T,F,E,A,X⟩;simp only[go_sem,T,F,E,A];refine aA (fun I=>?_) (fun J=>?_)
  ·have I:=bA I;obtain⟨d,U⟩:=aM I;have Y:=inB I;simp only[go_sem,T,F,E,A,aC U,Y];refine aJ fun j hj=>?_
   simp only[go_sem,T,F,E,A,aC U,Y];refine aN (aB _ _ _) (by simp[gK]) ?_;simp only[go_sem,T,F,E,A,aC U,Y];refine aP (J6 x d) ?_;simp only[go_sem,T,F,E,A];refine aA (fun M=>?_) (fun M=>?_)
   ·simp only[go_sem];exact bZ (Ct X (by simp[U]) M).symm
   ·simp only[go_sem,T,F,E,A,aV k];refine⟨⟨k+1,I,rfl,?_⟩,by simp only[aF];omega⟩;rw[bE (x:=dC x d) (by simp[U])];intro e O;rcases Xat.1 O with O|O
    ·exact X e O
    ·simp at O;subst O;simpa using M
  ·have J:=bB hk J;subst J;simp only[go_sem];exact bZ (AY (by rw[Xaq (by simp)]at X;exact X)).symm
def yX{a b:Nat}(A:a<2^63)(E:b<2^63):pP .or .i64 (a:Int) (b:Int)=((a ||| b:Nat):Int):=Sq.yX A E
def dH(set i:Int):Bool:=decide (i>=0)&&decide (i<=62)&&((set/2^i.toNat)%2 == 1)
def sW(set i:Int):PC prog 52 [int set,int i] (boo (dH set i)):=Sq.uC set i
def kS(set i:Int):Bool:=(set/2^i.toNat)%2 == 1
def cL(d:Decision)(set:Int):Bool:=
 if d.kind=1 then dH set d.a == dH set d.b else if d.kind=2 then !dH set d.a|| !dH set d.b else if d.kind=6 then !dH set d.a else true
def OI(d:Decision)(set:Int):PC prog 51 [.agg (aO d),int set] (boo (cL d set)):=by
 refine pcd func51 rfl rfl ?_;simp only[go_sem];refine dF (by rfl) (by kernel_rfl) ?_
 repeat' (first|(refine aP (sW _ _) ?_)|(refine⟨_,fun _=>PC.q (sW _ _) rfl,?_⟩)|(refine⟨_,PC.q (sW _ _) rfl,?_⟩)|(refine aA (fun A=>?_) (fun A=>?_))|(simp only[go_sem]))
 all_goals (refine cK ?_;unfold cL;simp_all)
def qO{α:Type}{p:α->Bool}{l:List α}{k:Nat}{x:α}(E:l[k]?=some x)(A:p x=false):l.all p=false:=by rw[List.all_eq_false];exact⟨x,Xac E,by simp[A]⟩
def uM{α:Type}{p:α->Bool}{l:List α}(h:∀x∈l.take l.length,p x=true):l.all p=true:=by rw[Xae]at h;rw[Xaj];exact h
def mG{α:Type}{p:α->Bool}{l:List α}{k:Nat}{x:α}(F:l[k]?=some x)(E:p x=true)(h:∀x∈l.take k,p x=true):∀x∈l.take (k+1),p x=true:=by
 rw[bE F];intro y A;rcases Xat.1 A with A|A
 ·exact h y A
 ·simp at A;subst A;exact E
def aS{α:Type}{p:α->Prop}{l:List α}{k:Nat}{x:α}(F:l[k]?=some x)(E:p x)(h:∀x∈l.take k,p x):∀x∈l.take (k+1),p x:=by
 rw[bE F];intro y A;rcases Xat.1 A with A|A
 ·exact h y A
 ·simp at A;subst A;exact E
def Xs(l:List Decision)(c:Column)(Z:l.length<=1048576):PC prog 104 [.sl (l.map aO),.agg (bH c)] (boo (l.all fun d=>cL d c.set)):=by
 refine pcd func104 rfl rfl ?_;simp only[go_sem];refine⟨fun ρ _=>∃k:Nat,k<=l.length/\ρ 3=.rp (bH c) 0/\ρ 7=.sl (l.map aO)/\ρ 8=int l.length/\ρ 9=int k/\∀d∈l.take k,cL d c.set=true,fun ρ _=>l.length-aT (ρ 9),⟨0,Xab _,rfl,rfl,rfl,rfl,by simp⟩,?_⟩;rintro ρ H ⟨k,Y,J,I,F,M,X⟩;simp only[go_sem,J,I,F,M];refine aA (fun A=>?_) (fun E=>?_)
 ·have A:=bA A;obtain⟨d,O⟩:=aM A;have T:=inB A;simp only[go_sem,J,I,F,M,aC O,T];refine aJ fun j hj=>?_
  simp only[go_sem,J,I,F,M,aC O,T];refine aN (aB _ _ _) (by simp[gK]) ?_;simp only[go_sem,J,I,F,M,aC O,T];refine aP (OI d _) ?_;simp only[go_sem,J,I,F,M];refine aA (fun U=>?_) (fun U=>?_)
  ·simp only[go_sem];exact cK (qO O (by simpa using U)).symm
  ·simp only[go_sem,J,I,F,M,aV k];exact⟨⟨k+1,A,rfl,mG O (by simpa using U) X⟩,by simp only[aF];omega⟩
 ·have E:=bB Y E;subst E;simp only[go_sem];exact cK (uM X).symm
end Dec
end Go.Proofs.YtgncgpcpbadfnaaGreatDoor
section
namespace Go.Ve
section
variable{α δ:Type}(leaf:α->Bool)(yes no:α->Int)(ch:α->δ)(opp:δ->δ)
def inT(n:Nat)(k:Int):Bool:=decide (0<=k)&&decide (k<(n:Int))
def kZ(l:List α):Bool:=l.all fun a=>leaf a||(inT l.length (yes a)&&inT l.length (no a))
def nD(a:α):List Int:=if leaf a=true then[]else[yes a,no a]
def cnt(l:List α)(k:Int):Nat:=(l.flatMap (nD leaf yes no)).count k
def nV(l:List α):Bool:=(List.range l.length).all fun i=>if i=0 then cnt leaf yes no l 0 == 0 else cnt leaf yes no l i == 1
inductive WayT (l:List α):Nat->List δ->Prop
 | root:WayT l 0 []
 | yes {i k:Nat} {d:List δ} {a:α}:WayT l i d->l[i]?=some a->leaf a=false->yes a=(k:Int)->WayT l k (d++[ch a])
 | no {i k:Nat} {d:List δ} {a:α}:WayT l i d->l[i]?=some a->leaf a=false->no a=(k:Int)->WayT l k (d++[opp (ch a)])
structure BInv(l:List α)(V q:List Nat):Prop where
 nd:(V++q).Nodup
 lt:∀k∈V++q,k<l.length
 zero:0∈V++q
 closed:∀v∈V,∀a,l[v]?=some a->∀k:Nat,(k:Int)∈nD leaf yes no a->k∈V++q
 up:∀k∈V++q,k≠0->∃v∈V,∃a,l[v]?=some a/\(k:Int)∈nD leaf yes no a
 way:∀j k,(V++q)[j]?=some k->∃d,WayT leaf yes no ch opp l k d/\d.length<=j
variable{leaf yes no ch opp}{l:List α}{V q:List Nat}{k:Nat}
def Bf{A:Type}[BEq A](f:α->List A)(k:A):∀(l:List α),(l.flatMap f).count k=(l.map fun a=>(f a).count k).sum
 | []=>rfl
 | a::l=>by simp[List.flatMap_cons,List.count_append,Bf f k l]
def KZ{A:Type}(f:A->Nat):∀(l:List A) (i j:Nat) (a b:A),l[i]?=some a->l[j]?=some b->i≠j->f a+f b<=(l.map f).sum
 | [],i,j,a,b,h,_,_=>by simp at h
 | x::l,0,0,a,b,_,_,h=>absurd rfl h
 | x::l,0,j+1,a,b,h1,h2,_=>by simp at h1 h2;subst h1;simp only[List.map_cons,List.sum_cons];have:=sum_one f l j b h2;omega
 | x::l,i+1,0,a,b,h1,h2,_=>by simp at h1 h2;subst h2;simp only[List.map_cons,List.sum_cons];have:=sum_one f l i a h1;omega
 | x::l,i+1,j+1,a,b,h1,h2,h=>by simp at h1 h2;simp only[List.map_cons,List.sum_cons];have:=KZ f l i j a b h1 h2 (by omega);omega
where sum_one {A:Type} (f:A->Nat):∀(l:List A) (i:Nat) (a:A),l[i]?=some a->f a<=(l.map f).sum
 | [],i,a,h=>by simp at h
 | x::l,0,a,h=>by simp at h;subst h;simp
 | x::l,i+1,a,h=>by simp at h;have:=sum_one f l i a h;simp only[List.map_cons,List.sum_cons];omega
def Z2(A:nV leaf yes no l=true){k:Nat}(E:k<l.length)(h0:k≠0):cnt leaf yes no l k=1:=by unfold nV at A;rw[List.all_eq_true]at A;have:=A k (List.mem_range.2 E);rw[if_neg h0]at this;simpa using this
def Mf(A:nV leaf yes no l=true)(E:l≠[]):cnt leaf yes no l 0=0:=by unfold nV at A;rw[List.all_eq_true]at A;have:=A 0 (List.mem_range.2 (List.length_pos_iff.2 E));simpa using this
def Bk(A:nV leaf yes no l=true){k:Nat}(E:k<l.length){i j:Nat}{a b:α}(F:l[i]?=some a)(I:l[j]?=some b)(M:(k:Int)∈nD leaf yes no a)(J:(k:Int)∈nD leaf yes no b):i=j:=by
 refine Decidable.byContradiction fun h=>?_
 have h1:=KZ (fun a=>(nD leaf yes no a).count (k:Int)) l i j a b F I h;have e:cnt leaf yes no l (k:Int)<=1:=by
  by_cases h0:k=0
  ·subst h0;have:=Mf A (by rintro rfl;simp at E);simp at this |-;omega
  ·exact Nat.le_of_eq (Z2 A E h0)
 unfold cnt at e;rw[Bf]at e;have:=List.count_pos_iff.2 M;have:=List.count_pos_iff.2 J;omega
def vB(E:nV leaf yes no l=true){i:Nat}{a:α}(A:l[i]?=some a):(0:Int)∉nD leaf yes no a:=fun h=>by have h0:=Mf E (by rintro rfl;simp at A);unfold cnt at h0;rw[List.count_eq_zero]at h0;exact h0 (List.mem_flatMap.2 ⟨a,List.mem_of_getElem? A,h⟩)
def Cd(O:nV leaf yes no l=true)(E:kZ leaf yes no l=true){i:Nat}{a:α}(F:l[i]?=some a)(I:leaf a=false):yes a≠no a:=fun h=>by
 unfold kZ at E;rw[List.all_eq_true]at E;have:=E a (List.mem_of_getElem? F);simp only[I,Bool.false_or,Bool.and_eq_true,inT,decide_eq_true_eq]at this;obtain⟨⟨h1,U⟩,_⟩:=this;obtain⟨k,T⟩:=Int.eq_ofNat_of_zero_le h1;have J:k<l.length:=by omega
 have h0:k≠0:=by rintro rfl;refine vB O F ?_;simp only[nD,I,Bool.false_eq_true,if_false];rw[T];simp
 have e:=Z2 O J h0;unfold cnt at e;rw[Bf]at e;have A:=KZ.sum_one (fun a=>(nD leaf yes no a).count (k:Int)) l i a F;simp only[nD,I,Bool.false_eq_true,if_false]at A;rw[<-h,T]at A;simp at A;have:(2:Nat)<=1:=by refine Nat.le_trans A ?_;have M:=e;simp only[nD]at M;exact Nat.le_of_eq M
 omega
def Y2(A:kZ leaf yes no l=true){k:Nat}{d:List δ}(h:WayT leaf yes no ch opp l k d)(E:l≠[]):k<l.length:=by
 unfold kZ at A;rw[List.all_eq_true]at A;cases h with
 | root=>exact List.length_pos_iff.2 E
 | yes h1 h2 h3 h4=>have:=A _ (List.mem_of_getElem? h2);simp only[h3,Bool.false_or,Bool.and_eq_true,inT,decide_eq_true_eq]at this;omega
 | no h1 h2 h3 h4=>have:=A _ (List.mem_of_getElem? h2);simp only[h3,Bool.false_or,Bool.and_eq_true,inT,decide_eq_true_eq]at this;omega
def BInv.start(E:l≠[]):BInv leaf yes no ch opp l [] [0]:=
 ⟨by simp,fun k A=>by simp at A;subst A;exact List.length_pos_iff.2 E,by simp,fun v F=>by simp at F,fun k A h0=>by simp at A;exact absurd A h0,
  fun j k h=>by
   cases j with
   | zero=>simp at h;subst h;exact⟨[],.root,Nat.le_refl _⟩
   | succ j=>simp at h⟩
def BInv.leafStep(h:BInv leaf yes no ch opp l V (k::q)){a:α}(I:l[k]?=some a)(J:leaf a=true):BInv leaf yes no ch opp l (V++[k]) q:=by
 have e:V++[k]++q=V++k::q:=by simp
 refine⟨by rw[e];exact h.nd,by rw[e];exact h.lt,by rw[e];exact h.zero,fun v A b E m F=>?_,fun m F h0=>?_,by rw[e];exact h.way⟩
 ·rw[e];rcases List.mem_append.1 A with A|A
  ·exact h.closed v A b E m F
  ·simp at A;subst A;rw[I]at E;cases E;simp[nD,J]at F
 ·rw[e]at F;obtain⟨v,A,b,E⟩:=h.up m F h0;exact⟨v,List.mem_append.2 (.inl A),b,E⟩
def BInv.innerStep(hc:nV leaf yes no l=true)(hr:kZ leaf yes no l=true)(h:BInv leaf yes no ch opp l V (k::q)){a:α}(J:l[k]?=some a)(Y:leaf a=false){y n:Nat}(hy:yes a=(y:Int))(hn:no a=(n:Int)):
  BInv leaf yes no ch opp l (V++[k]) (q++[y,n]):=by
 have M:∀m:Nat,(m:Int)∈nD leaf yes no a↔m=y\/m=n:=fun m=>by simp only[nD,Y,Bool.false_eq_true,if_false,List.mem_cons,List.not_mem_nil,or_false,hy,hn];omega
 have e:V++[k]++(q++[y,n])=(V++k::q)++[y,n]:=by simp
 have ae:y≠n:=fun x=>Cd hc hr J Y (by rw[hy,hn,x])
 have U:∀m,m=y\/m=n->m∉V++k::q:=fun m A X=>by
  have I:=(M m).2 A;have ac:m≠0:=by rintro rfl;exact vB hc J I
  obtain⟨v,F,b,O,aa⟩:=h.up m X ac;have:=Bk hc (h.lt m X) O J aa I;subst this;have:=h.nd;rw[List.nodup_append]at this;exact this.2.2 v F v (by simp) rfl
 have ab:∀m,m=y\/m=n->m<l.length:=fun m A=>by have hR:=hr;unfold kZ at hR;rw[List.all_eq_true]at hR;have:=hR a (List.mem_of_getElem? J);simp only[Y,Bool.false_or,Bool.and_eq_true,inT,decide_eq_true_eq]at this;rcases A with rfl|rfl <;> omega
 have T:∃d,WayT leaf yes no ch opp l k d/\d.length<=V.length:=h.way V.length k (by simp);refine⟨?_,fun m A=>?_,?_,fun v F b O m A=>?_,fun m A h0=>?_,fun j m E=>?_⟩
 ·rw[e,List.nodup_append];refine⟨h.nd,by simp[ae],fun x hx z hz=>?_⟩;rintro rfl;exact U x (by simpa using hz) hx
 ·rw[e]at A;rcases List.mem_append.1 A with A|A
  ·exact h.lt m A
  ·exact ab m (by simpa using A)
 ·rw[e];exact List.mem_append.2 (.inl h.zero)
 ·rw[e];rcases List.mem_append.1 F with F|F
  ·exact List.mem_append.2 (.inl (h.closed v F b O m A))
  ·simp at F;subst F;rw[J]at O;cases O;exact List.mem_append.2 (.inr (by simpa using(M m).1 A))
 ·rw[e]at A;rcases List.mem_append.1 A with A|A
  ·obtain⟨v,F,b,O⟩:=h.up m A h0;exact⟨v,List.mem_append.2 (.inl F),b,O⟩
  ·exact⟨k,by simp,a,J,(M m).2 (by simpa using A)⟩
 ·rw[e]at E;rw[List.getElem?_append]at E;split at E
  ·exact h.way j m E
  ·rename_i Z;obtain⟨d,hd,ag⟩:=T;have af:V.length<j:=by simp at Z;omega
   match hjj:j-(V++k::q).length,E with
   | 0,E=>simp at E;subst E;exact⟨d++[ch a],.yes hd J Y hy,by simp;omega⟩
   | 1,E=>simp at E;subst E;exact⟨d++[opp (ch a)],.no hd J Y hn,by simp;omega⟩
   | j'+2,E=>simp at E
def Cn:∀(n:Nat) (L:List Nat),L.Nodup->(∀k∈L,k<n)->L.length<=n
 | 0,[],_,_=>Nat.le_refl _
 | 0,k::L,_,h=>absurd (h k (by simp)) (by omega)
 | n+1,L,hd,h=>by
  have h1:=Cn n (L.filter (·≠n)) (hd.filter _) fun k A=>by simp at A;have:=h k A.1;omega
  have F:L.length<=(L.filter (·≠n)).length+1:=by
   have e:L.length=(L.filter (·≠n)).length+(L.filter (fun k=> !decide (k≠n))).length:=by
    rw[<-List.countP_eq_length_filter,<-List.countP_eq_length_filter,List.length_eq_countP_add_countP (fun k=>decide (k≠n)) (l:=L)]
    congr 2;funext k;by_cases A:k=n <;> simp[A]
   have E:(L.filter (fun k=> !decide (k≠n))).length<=1:=by
    have:(L.filter (fun k=> !decide (k≠n)))=L.filter (fun k=>k == n):=by congr 1;funext k;by_cases A:k=n <;> simp[A]
    rw[this,<-List.countP_eq_length_filter,<-List.count_eq_countP];exact List.nodup_iff_count.1 hd n
   omega
  omega
def DB{n:Nat}{L:List Nat}(E:L.Nodup)(h:∀k∈L,k<n)(I:L.length=n):∀k,k<n->k∈L:=fun k F=>by
 refine Decidable.byContradiction fun A=>?_
 have:=Cn n (k::L) (by simp[A,E]) (by simp;exact⟨F,h⟩);simp at this;omega
def BInv.len(h:BInv leaf yes no ch opp l V q):(V++q).length<=l.length:=Cn _ _ h.nd h.lt
def BInv.reach(h:BInv leaf yes no ch opp l V []){k:Nat}{d:List δ}(F:WayT leaf yes no ch opp l k d):k∈V:=by
 have A:=h.closed;have E:=h.zero;simp only[List.append_nil]at A E;induction F with
 | root=>exact E
 | yes h1 h2 h3 h4 ih=>exact A _ ih _ h2 _ (by simp[nD,h3,h4])
 | no h1 h2 h3 h4 ih=>exact A _ ih _ h2 _ (by simp[nD,h3,h4])
def BInv.full(h:BInv leaf yes no ch opp l V []):V.length=l.length↔∀k,k<l.length->∃d,WayT leaf yes no ch opp l k d:=by
 have E:=h.nd;have A:=h.lt;simp only[List.append_nil]at E A;constructor
 ·intro O k F;obtain⟨j,M⟩:=List.getElem?_of_mem (DB E A O k F);obtain⟨d,I,_⟩:=h.way j k (by simpa using M);exact⟨d,I⟩
 ·intro J;have h1:∀k,k<l.length->k∈V:=fun k F=>let ⟨d,I⟩:=J k F;h.reach I
  have U:=Cn _ V E A;have T:l.length<=V.length:=by
   have:=List.Nodup.length_le_of_subset (l₁:=List.range l.length) (l₂:=V) List.nodup_range fun k F=>h1 k (List.mem_range.1 F)
   simpa using this
  omega
def BInv.short(h:BInv leaf yes no ch opp l V []){k:Nat}{d:List δ}(I:WayT leaf yes no ch opp l k d):∃A,WayT leaf yes no ch opp l k A/\A.length<l.length:=by obtain⟨j,E⟩:=List.getElem?_of_mem (h.reach I);obtain⟨A,F,J⟩:=h.way j k (by simpa using E);have:=h.len;have M:=(List.getElem?_eq_some_iff.1 E).1;simp at this;exact⟨A,F,by omega⟩
def OC(A:nV leaf yes no l=true){d:List δ}(h:WayT leaf yes no ch opp l 0 d):d=[]:=by
 generalize E:0=k at h;cases h with
 | root=>rfl
 | yes h1 h2 h3 h4=>subst E;exact absurd (by simp[nD,h3,h4]) (vB A h2)
 | no h1 h2 h3 h4=>subst E;exact absurd (by simp[nD,h3,h4]) (vB A h2)
def YH(O:nV leaf yes no l=true)(T:kZ leaf yes no l=true){k i:Nat}{a:α}{d:List δ}(X:k≠0)(A:l[i]?=some a)(U:leaf a=false)(h:WayT leaf yes no ch opp l k d)(M:yes a=(k:Int)\/no a=(k:Int)):
  ∃E,d=E++[if no a=(k:Int)then opp (ch a)else ch a]/\WayT leaf yes no ch opp l i E:=by
 have F:(k:Int)∈nD leaf yes no a:=by
  simp only[nD,U,Bool.false_eq_true,if_false,List.mem_cons,List.not_mem_nil,or_false];rcases M with h|h
  ·exact .inl h.symm
  ·exact .inr h.symm
 have I:=Y2 T h (by rintro rfl;simp at A);cases h with
 | root=>exact absurd rfl X
 | @yes i' _ E b h1 h2 h3 h4=>have:=Bk O I A h2 F (by simp[nD,h3,h4]);subst this;rw[A]at h2;cases h2;refine⟨E,?_,h1⟩;rw[if_neg];intro J;exact Cd O T A U (by rw[h4,J])
 | @no i' _ E b h1 h2 h3 h4=>have:=Bk O I A h2 F (by simp[nD,h3,h4]);subst this;rw[A]at h2;cases h2;exact⟨E,by rw[if_pos h4],h1⟩
def wJ(A:nV leaf yes no l=true)(F:kZ leaf yes no l=true){k:Nat}{d e:List δ}(h:WayT leaf yes no ch opp l k d)(M:WayT leaf yes no ch opp l k e):d=e:=by
 induction h generalizing e with
 | root=>exact(OC A M).symm
 | @yes i k d a h1 h2 h3 h4 ih=>
  have J:k≠0:=by rintro rfl;exact vB A h2 (by simp[nD,h3,h4])
  obtain⟨O,rfl,E⟩:=YH A F J h2 h3 M (.inl h4);rw[ih E,if_neg];intro I;exact Cd A F h2 h3 (by rw[h4,I])
 | @no i k d a h1 h2 h3 h4 ih=>
  have J:k≠0:=by rintro rfl;exact vB A h2 (by simp[nD,h3,h4])
  obtain⟨O,rfl,E⟩:=YH A F J h2 h3 M (.inr h4);rw[ih E,if_pos h4]
end
end Go.Ve
end
section
namespace Go.Proofs.YtgncgpcpbadfnaaGreatDoor.Dec
open Go.Proofs.Tryz
open Go.Aw Go.Aw.D Go.Proofs Ty
def mQ(d:Decision):Decision:=
 if d.kind=1 then { d with kind:=2 }else if d.kind=2 then { d with kind:=1 }
 else if d.kind=3 then { d with kind:=4,n:=IntKind.i64.wrap (d.n+1) }else if d.kind=4 then { d with kind:=3,n:=IntKind.i64.wrap (d.n-1) }
 else if d.kind=5 then { d with kind:=6 }else if d.kind=6 then { d with kind:=5 }else d
def ZG(d:Decision):PC prog 18 [.agg (aO d)] (.agg (aO (mQ d))):=by
 refine pcb (fun t=>t == 1) func18 rfl rfl ?_;simp only[go_sem];simp only[aO];refine aJ fun j J=>?_
 simp only[go_sem];refine aJ fun i F=>?_
 have E:j≠i:=fun e=>by subst e;rw[aB]at F;simp at F
 have A:i≠j:=E.symm;simp only[go_sem,aD _ _ _ _ E]
 repeat' (first|(refine aA (fun I=>?_) (fun I=>?_))|(refine bU so3 (by first|exact aB _ _ _|exact(aD _ _ _ _ E).trans (aB _ _ _)) (by simp) ?_)|(refine aN (by first|exact aB _ _ _|exact(aD _ _ _ _ A).trans (aB _ _ _)|exact(aD _ _ _ _ A).trans ((aD _ _ _ _ A).trans (aB _ _ _))) (by simp) ?_)|(simp only[go_sem,aD _ _ _ _ E,aD _ _ _ _ A]))
 all_goals (refine akA ?_;simp_all [mQ,aO])
end Go.Proofs.YtgncgpcpbadfnaaGreatDoor.Dec
end
section
namespace Go.Aw
open Go.RowKit
section
variable{P:Program}{f:FuncId}{args:List AV}{H:aH}{K:AV->aH->Prop}
def adY{S:Sg}{w:World}{v:Value}(h:rep S w (.v (.slice none 0 0)) v):rep S w (.sl []) v:=by
 have A:v=.slice none 0 0:=by simp only[rep]at h;exact h
 subst A;simp only[rep];exact⟨none,0,0,rfl,rfl,Nat.le_refl _,Nat.zero_le _,.inl trivial⟩
def bF.nil0{E:List AV}(h:bF P f (.sl []::E) H K):bF P f (.v (.slice none 0 0)::E) H K:=fun S w vals F A=>h S w vals F (by simp only[bC]at A |-;obtain⟨u,t,e,h1,I⟩:=A;exact⟨u,t,e,adY h1,I⟩)
end
end Go.Aw
end
namespace Go.Proofs.YtgncgpcpbadfnaaGreatDoor
open Go.Aw Go.Aw.D Go.Proofs Ty
namespace Sq
open Go.Proofs.Tryz
open Go.Nu (jM)
open Go.Proofs.YtgncgpcpbadfnaaGreatDoor.Nu (ltB geB C5)
open Mv (bZ cK aS)
def Om(v:Visit):Int:=if v.drop=true then 1 else 0
def or2(a b:Int):Int:=if a=0 then b else a
def J1(a b:Visit):Int:=or2 (jM a.order b.order) (jM (Om a) (Om b))
def Vk:List Visit->List Visit->Int
 | [],[]=>0
 | [],_::_=> -1
 | _::_,[]=>1
 | a::l,b::m=>or2 (J1 a b) (Vk l m)
def V6:List Int->Int
 | []=>0
 | a::l=>if a=0 then V6 l else a
def yT{α:Type}{l:List α}{k:Nat}{u:α}(h:l[k]?=some u):l.drop k=u::l.drop (k+1):=by obtain⟨A,rfl⟩:=List.getElem?_eq_some_iff.1 h;rw[List.drop_eq_getElem_cons A]
def ajL(l:List Int)(Z:l.length<=1048576):PC prog 261 [.sl (l.map aQ)] (int (V6 l)):=by
 refine pcd func261 rfl rfl ?_;simp only[go_sem];refine⟨fun ρ H=>∃(k:Nat),k<=l.length/\ρ 3=int 0/\ρ 6=.sl (l.map aQ)/\ρ 7=int (l.length:Nat)/\ρ 8=int k/\V6 l=V6 (l.drop k),fun ρ _=>l.length-aT (ρ 8),⟨0,Xab _,by simp only[go_sem],by simp only[go_sem],by simp only[go_sem,Xaa],(by simp only[go_sem];rfl),rfl⟩,?_⟩;rintro ρ H ⟨k,Y,M,O,F,I,J⟩;simp only[go_sem,M,O,F,I];refine aA (fun A=>?_) (fun E=>?_)
 ·have A:=ltB A;obtain⟨u,U⟩:=aM A;have X:=inB A;rw[yT U,V6]at J;simp only[go_sem,M,O,F,I,aC U,X];refine aA (fun T=>?_) (fun T=>?_)
  ·simp only[go_sem,M,O,F,I];exact bZ (by rw[J,if_neg (by simpa using T)])
  ·rw[if_pos (by simpa using T)]at J;simp only[go_sem,M,O,F,I,aV k];exact⟨⟨k+1,A,rfl,J⟩,by simp only[aF];omega⟩
 ·have E:=geB Y E;subst E;simp only[go_sem,M,O,F,I];exact bZ (by rw[J,Xbp];rfl)
def WQ(v:Visit):PC prog 260 [.agg (aL v)] (int (Om v)):=by
 refine pcd func260 rfl rfl ?_;simp only[go_sem];unfold Om;refine aA (fun A=>?_) (fun A=>?_)
 ·simp only[go_sem,A];exact bZ (by simp)
 ·simp only[go_sem,A];exact bZ (by simp)
def Si(a b:Visit):PC prog 240 [.agg (aL a),.agg (aL b)] (int (J1 a b)):=by
 refine pcd func240 rfl rfl ?_;simp only[go_sem];refine E7 (by kernel_rfl) ?_;simp only[go_sem];refine⟨_,(C5 a.order b.order).q rfl,?_⟩;simp only[go_sem];refine⟨_,(WQ a).q rfl,?_⟩;simp only[go_sem];refine⟨_,(WQ b).q rfl,?_⟩;simp only[go_sem];refine⟨_,(C5 (Om a) (Om b)).q rfl,?_⟩;simp only[go_sem];refine aP (ajL [jM a.order b.order,jM (Om a) (Om b)] (by simp)) ?_;simp only[go_sem];refine bZ ?_;unfold J1 or2;simp only[V6];split
 ·split
  ·next h=>exact h.symm
  ·rfl
 ·rfl
def adK(a b:List Visit)(ha:a.length<=1048576):PC prog 239 [.sl (a.map aL),.sl (b.map aL),.v (.func (.func 240) #[] #[])] (int (Vk a b)):=by
 have ai:aG prog 240=true:=by kernel_rfl
 refine pcd func239 rfl rfl ?_;simp only[go_sem];refine⟨fun ρ H=>∃(k:Nat),k<=a.length/\ρ 0=.sl (a.map aL)/\ρ 1=.sl (b.map aL)/\ρ 2=.v (.func (.func 240) #[] #[])/\ρ 11=.sl (a.map aL)/\ρ 12=int (a.length:Nat)/\ρ 13=int k/\Vk a b=Vk (a.drop k) (b.drop k)/\k<=b.length,fun ρ _=>a.length-aT (ρ 13),⟨0,Xab _,by simp only[go_sem],by simp only[go_sem],by simp only[go_sem],by simp only[go_sem],by simp only[go_sem,Xaa],(by simp only[go_sem];rfl),rfl,Xab _⟩,?_⟩;rintro ρ H ⟨k,hk,O,J,M,F,E,A,X,ah⟩;simp only[go_sem,O,J,M,F,E,A];refine aA (fun T=>?_) (fun aa=>?_)
 ·have T:=ltB (by simpa using T);obtain⟨u,hu⟩:=aM T;have b1:=inB T;rw[yT hu]at X;simp only[go_sem,O,J,M,F,E,A,aC hu,b1];refine aJ fun i8 Y=>?_
  simp only[go_sem,O,J,M,F,E,A];refine bP Y (by simp[cX]) fun ae (Z:ae i8=some ((⟨126,2,[aL u]⟩:Row))) N=>?_
  clear N Y;simp only[go_sem,O,J,M,F,E,A,Z];refine aA (fun I=>?_) (fun I=>?_)
  ·have ag:b.length<=k:=by simpa using I
   simp only[go_sem,O,J,M,F,E,A];refine bZ ?_;rw[X,List.drop_of_length_le ag];rfl
  have ab:k<b.length:=by simpa using I
  obtain⟨v,hv⟩:=aM ab;have b2:=inB ab;rw[yT hv]at X;simp only[go_sem,O,J,M,F,E,A,aC hv,b2];refine aJ fun i9 U=>?_
  simp only[go_sem,O,J,M,F,E,A,Z];refine bP U (by simp[cX]) fun af (R9:af i9=some ((⟨126,2,[aL v]⟩:Row))) N=>?_
  replace Z:=N Z;obtain⟨ac,Z⟩:=Z;clear N U;simp only[go_sem,O,J,M,F,E,A,R9,Z];refine aP (Si u v) ?_;simp only[go_sem,O,J,M,F,E,A];refine aA (fun I=>?_) (fun I=>?_)
  ·have hc:¬J1 u v=0:=by simpa using I
   simp only[go_sem,O,J,M,F,E,A];refine bZ ?_;rw[X];show _=or2 (J1 u v) _;unfold or2;rw[if_neg hc]
  ·have hc:J1 u v=0:=by simpa using I
   simp only[go_sem,O,J,M,F,E,A,aV k];refine⟨⟨k+1,T,rfl,?_,ab⟩,by simp only[aF];omega⟩;rw[X];show or2 (J1 u v) _=_;unfold or2;rw[if_pos hc]
 have aa:=geB hk (by simpa using aa);subst aa;rw[Xbp]at X;simp only[go_sem,O,J,M,F,E,A,Xaa];refine aA (fun I=>?_) (fun I=>?_)
 ·have I:a.length<b.length:=by simpa using I
  simp only[go_sem];refine bZ ?_;obtain⟨v,hv⟩:=aM I;rw[X,yT hv];rfl
 ·have I:¬a.length<b.length:=by simpa using I
  simp only[go_sem];refine bZ ?_;rw[X,List.drop_of_length_le (by omega)];rfl
def aaU(a b:List Visit)(A:a.length<=1048576):PC prog 218 [.sl (a.map aL),.sl (b.map aL)] (boo (decide (Vk a b<0))):=by refine pcd func218 rfl rfl ?_;simp only[go_sem];refine aP (adK a b A) ?_;simp only[go_sem];exact .refl _
end Sq
namespace Sq
open Go.Proofs.Tryz
open Go.Proofs.YtgncgpcpbadfnaaGreatDoor.Nu (ltB geB)
open Mv (bZ cK aS)
def eqV(w v:Visit):Bool:=w.order == v.order&&(w.drop == v.drop&&true)
def sN(l:List Visit)(w:Visit):Bool:= !decide (fD l w<0)
def Lp(W l:List Visit)(v:Visit):Bool:=(W.takeWhile fun w=> !eqV w v).all (sN l)
def acW(x:Instance)(l:List Visit)(v:Visit):Bool:=x.before.all fun q=>(q.b != v.order)||(iW x.orders q.a).all (sN l)
def uD(x:Instance)(l:List Visit)(v:Visit):Bool:=(!decide (fD l v>=0)&&Lp (iW x.orders v.order) l v)&&acW x l v
def acD{α:Type}{p:α->Bool}{W:List α}{k:Nat}(h:∀u∈W.take k,p u=true):W.takeWhile p=W.take k++(W.drop k).takeWhile p:=by
 conv=>lhs;rw[<-List.take_append_drop k W]
 exact List.takeWhile_append_of_pos h
def TG{W l:List Visit}{v:Visit}{k:Nat}(h:∀u∈W.take k,eqV u v=false/\sN l u=true):Lp W l v=Lp (W.drop k) l v:=by
 unfold Lp;rw[acD (k:=k) (fun u A=>by rw[(h u A).1];rfl),List.all_append];have:(W.take k).all (sN l)=true:=Xaj.2 fun u A=>(h u A).2
 rw[this,Xbf]
def aaR(x:Instance)(l:List Visit)(v:Visit)(hl:l.length<=1048576)(hb:x.before.length<=1048576):PC prog 219 [.agg (aE x),.sl (l.map aL),.agg (aL v)] (boo (uD x l v)):=by
 refine pcd func219 rfl rfl ?_;simp only[go_sem];refine aP (CM l v hl) ?_;simp only[go_sem];refine aA (fun c1=>?_) (fun c1=>?_)
 ·simp only[go_sem];refine cK ?_;unfold uD;have c1:decide (fD l v>=0)=true:=c1;rw[c1];rfl
 have c1:decide (fD l v>=0)=false:=c1;have hW:=rO x.orders v.order;simp only[go_sem];refine aP (rC x.orders v.order) ?_;simp only[go_sem,Xaa];have hr:uD x l v=(Lp (iW x.orders v.order) l v&&acW x l v):=by unfold uD;rw[c1];rfl
 generalize iW x.orders v.order=W at *;refine FJ (fun am _=>am 1=.sl (l.map aL)/\am 3=.rp (aE x) 0/\am 5=.rp (aL v) 0/\Lp W l v=true) ?_ fun Q hQ av=>?_
 ·rintro ρ H ⟨h1,h3,h5,aq⟩;rw[aq,Xbf]at hr;simp only[go_sem,h1,h3,h5,Xaa];refine⟨fun ρ H=>∃(k:Nat),k<=x.before.length/\ρ 1=.sl (l.map aL)/\ρ 3=.rp (aE x) 0/\ρ 5=.rp (aL v) 0/\ρ 36=.sl (x.before.map cN)/\ρ 37=int (x.before.length:Nat)/\ρ 38=int k/\(∀q∈x.before.take k,((q.b != v.order)||(iW x.orders q.a).all (sN l))=true),fun ρ _=>x.before.length-aT (ρ 38),⟨0,Xab _,by simp only[go_sem,h1,h3,h5],by simp only[go_sem,h1,h3,h5],by simp only[go_sem,h1,h3,h5],by simp only[go_sem,h1,h3,h5],by simp only[go_sem,Xaa,h1,h3,h5],(by simp only[go_sem,h1,h3,h5];rfl),by simp⟩,?_⟩;rintro ρ H ⟨k,hk,J,M,I,A,E,F,hz⟩;simp only[go_sem,J,M,I,A,E,F];refine aA (fun Y=>?_) (fun Z=>?_)
  ·have Y:=ltB (by simpa using Y);obtain⟨q,hq⟩:=aM Y;have b1:=inB Y;simp only[go_sem,J,M,I,A,E,F,aC hq,b1];refine aJ fun ax ah=>?_
   simp only[go_sem,J,M,I,A,E,F];refine bP ah (by simp[lI]) fun ak (ao:ak ax=some (⟨101,2,[cN q]⟩)) N=>?_
   clear N ah;simp only[go_sem,J,M,I,A,E,F,ao];refine⟨by decide,aA (fun O=>?_) (fun O=>?_)⟩
   ·simp only[go_sem,J,M,I,A,E,F,aV k];exact⟨⟨k+1,Y,rfl,aS (p:=fun q:Pair=>((q.b != v.order)||(iW x.orders q.a).all (sN l))=true) hq (by rw[show(q.b != v.order)=true from O];rfl) hz⟩,by simp only[aF];omega⟩
   have O:(q.b != v.order)=false:=O;have hV:=rO x.orders q.a;simp only[go_sem,J,M,I,A,E,F,ao];refine⟨by decide,PC.use (rC x.orders q.a) ?_⟩;simp only[go_sem,J,M,I,A,E,F,Xaa];have ar:((q.b != v.order)||(iW x.orders q.a).all (sN l))=(iW x.orders q.a).all (sN l):=by rw[O];rfl
   generalize au:iW x.orders q.a=V at *;refine⟨fun ρ _=>∃m:Nat,m<=V.length/\ρ 1=.sl (l.map aL)/\ρ 3=.rp (aE x) 0/\ρ 5=.rp (aL v) 0/\ρ 36=.sl (x.before.map cN)/\ρ 37=int x.before.length/\ρ 38=int (k:Nat)/\ρ 51=.sl (V.map aL)/\ρ 52=int V.length/\ρ 53=int (m:Nat)/\∀u∈V.take m,sN l u=true,fun ρ _=>V.length-aT (ρ 53),⟨0,Xab _,by simp only[go_sem,J,M,I,A,E,F],by simp only[go_sem,J,M,I,A,E,F],by simp only[go_sem,J,M,I,A,E,F],by simp only[go_sem,J,M,I,A,E,F],by simp only[go_sem,J,M,I,A,E,F],by simp only[go_sem,J,M,I,A,E,F],by simp only[go_sem,J,M,I,A,E,F],by simp only[go_sem,J,M,I,A,E,F],by simp only[go_sem,J,M,I,A,E,F];rfl,by simp⟩,?_⟩;clear J M I A E F h1 h3 h5;rintro ρ H ⟨m,hm,J,M,I,A,E,F,ac,ae,af,hy⟩;simp only[go_sem,J,M,I,A,E,F,ac,ae,af];refine aA (fun ai=>?_) (fun al=>?_)
   ·have ai:=ltB (by simpa using ai);obtain⟨u,hu⟩:=aM ai;have b2:=inB ai;simp only[go_sem,J,M,I,A,E,F,ac,ae,af,aC hu,b2];refine aJ fun aw ag=>?_
    simp only[go_sem,J,M,I,A,E,F,ac,ae,af];refine bP ag (by simp[cX]) fun an (ay:an aw=some ((⟨126,2,[aL u]⟩:Row))) N=>?_
    clear N ag;simp only[go_sem,J,M,I,A,E,F,ac,ae,af,ay];refine aP (CM l u hl) ?_;simp only[go_sem,J,M,I,A,E,F,ac,ae,af];refine aA (fun aa=>?_) (fun aa=>?_)
    ·simp only[go_sem];refine cK ?_;have ab:sN l u=false:=by unfold sN;rw[show decide (fD l u<0)=true from aa];rfl
     rw[hr];unfold acW;exact(List.all_eq_false.2 ⟨q,Xac hq,by rw[au,ar];rw[Bool.not_eq_true];exact List.all_eq_false.2 ⟨u,Xac hu,by rw[ab];simp⟩⟩).symm
    ·have ab:sN l u=true:=by unfold sN;rw[show decide (fD l u<0)=false from aa];rfl
     simp only[go_sem,J,M,I,A,E,F,ac,ae,af,aV m];exact⟨⟨m+1,ai,rfl,aS (p:=fun u:Visit=>sN l u=true) hu ab hy⟩,by simp only[aF];omega⟩
   have al:=geB hm (by simpa using al);subst al;rw[Xae]at hy;simp only[go_sem,J,M,I,A,E,F,aV k];exact⟨⟨k+1,Y,rfl,aS (p:=fun q:Pair=>((q.b != v.order)||(iW x.orders q.a).all (sN l))=true) hq (by rw[au,ar];exact Xaj.2 hy) hz⟩,by simp only[aF];omega⟩
  have Z:=geB hk (by simpa using Z);subst Z;rw[Xae]at hz;simp only[go_sem];refine cK ?_;rw[hr];unfold acW;exact(Xaj.2 hz).symm
 refine⟨fun ρ H=>∃(k:Nat),k<=W.length/\ρ 1=.sl (l.map aL)/\ρ 3=.rp (aE x) 0/\ρ 5=.rp (aL v) 0/\ρ 21=.sl (W.map aL)/\ρ 22=int (W.length:Nat)/\ρ 23=int k/\(∀u∈W.take k,eqV u v=false/\sN l u=true),fun ρ _=>W.length-aT (ρ 23),⟨0,Xab _,by simp only[go_sem],by simp only[go_sem],by simp only[go_sem],by simp only[go_sem],by simp only[go_sem,Xaa],(by simp only[go_sem];rfl),by simp⟩,?_⟩;rintro ρ H ⟨k,hk,J,M,I,X,U,T,hz⟩;simp only[go_sem,J,M,I,X,U,T];refine aA (fun Y=>?_) (fun Z=>?_)
 ·have Y:=ltB (by simpa using Y);obtain⟨u,hu⟩:=aM Y;have b1:=inB Y;have hp:=TG (l:=l) (v:=v) hz;rw[yT hu]at hp;simp only[go_sem,J,M,I,X,U,T,aC hu,b1];refine aJ fun i8 aj=>?_
  simp only[go_sem,J,M,I,X,U,T];refine bP aj (by simp[cX]) fun ap (R8:ap i8=some ((⟨126,2,[aL u]⟩:Row))) N=>?_
  clear N aj;simp only[go_sem,J,M,I,X,U,T,R8];refine aA (fun O=>?_) (fun O=>?_)
  ·have O:eqV u v=true:=O;simp only[go_sem];refine hQ _ _ ⟨by simp only[go_sem,J,M,I,X,U,T],by simp only[go_sem,J,M,I,X,U,T],by simp only[go_sem,J,M,I,X,U,T],?_⟩;rw[hp];unfold Lp;rw[List.takeWhile_cons,O];rfl
  have O:eqV u v=false:=O;simp only[go_sem,J,M,I,X,U,T,R8];refine aP (CM l u hl) ?_;simp only[go_sem,J,M,I,X,U,T];refine aA (fun aa=>?_) (fun aa=>?_)
  ·have ab:sN l u=false:=by unfold sN;rw[show decide (fD l u<0)=true from aa];rfl
   simp only[go_sem];refine av _ _ ?_;simp only[go_sem];refine cK ?_;have:Lp W l v=false:=by rw[hp];unfold Lp;rw[List.takeWhile_cons,O];show(u::_).all (sN l)=false;rw[List.all_cons,ab];rfl
   rw[hr,this];rfl
  ·have ab:sN l u=true:=by unfold sN;rw[show decide (fD l u<0)=false from aa];rfl
   simp only[go_sem,J,M,I,X,U,T,aV k];exact⟨⟨k+1,Y,rfl,aS (p:=fun u:Visit=>eqV u v=false/\sN l u=true) hu ⟨O,ab⟩ hz⟩,by simp only[aF];omega⟩
 have Z:=geB hk (by simpa using Z);subst Z;have hp:=TG (l:=l) (v:=v) hz;rw[Xbp]at hp;simp only[go_sem];exact hQ _ _ ⟨by simp only[go_sem,J,M,I,X,U,T],by simp only[go_sem,J,M,I,X,U,T],by simp only[go_sem,J,M,I,X,U,T],hp⟩
def agU(x:Instance)(i:Nat):Bool:=match x.orders[i]? with|some o=>o.off|none=>false
def SE(x:Instance)(set:Int)(i:Nat):Bool:=(decide ((i:Int)>62)||(pP .and .i64 (shV .shr .i64 set (i:Nat)) 1 == 0))||agU x i
def FL(x:Instance)(set:Int)(l:List Visit)(i:Nat):List Visit:=if SE x set i=true then[]else(iW x.orders (i:Nat)).filter (uD x l)
def Bs(x:Instance)(set:Int)(l:List Visit)(k:Nat):List Visit:=(List.range k).flatMap (FL x set l)
def CE(x:Instance)(set:Int)(l:List Visit):List Visit:=Bs x set l x.orders.length
def DV(x:Instance)(set:Int)(l:List Visit)(k:Nat):Bs x set l (k+1)=Bs x set l k++FL x set l k:=by unfold Bs;rw[Xbt,List.flatMap_append];simp
def PF(x:Instance)(set:Int)(l:List Visit)(i:Nat):(FL x set l i).length<=2:=by
 unfold FL;split
 ·simp
 ·exact Xai (Xbu _ _) (rO _ _)
def BG(x:Instance)(set:Int)(l:List Visit):∀k,(Bs x set l k).length<=2*k
 | 0=>Xag _
 | k+1=>by rw[DV,Xaf];have:=BG x set l k;have:=PF x set l k;omega
abbrev acK(l:List Visit):Row:=⟨126,2,l.map aL⟩
def ZC(l:List Visit)(v:Visit):(⟨126,2,l.map aL++[aL v]⟩:Row)=acK (l++[v]):=by show _=(⟨126,2,(l++[v]).map aL⟩:Row);rw[Xan];rfl
def Md{α:Type}{p:α->Bool}{l:List α}{k:Nat}{a:α}(h:l[k]?=some a):(l.take (k+1)).filter p=(l.take k).filter p++(if p a=true then[a]else[]):=by
 rw[bE h,List.filter_append]
 congr 1
 rw[List.filter_cons];rfl
def adT(x:Instance)(set:Int)(l:List Visit)(hl:l.length<=1048576)(hb:x.before.length<=1048576)(hx:x.orders.length<=100000):PC prog 188 [.agg (aE x),int set,.sl (l.map aL)] (.sl ((CE x set l).map aL)):=by
 refine pcb (fun t=>t == 7) func188 rfl rfl ?_;simp only[go_sem];refine eQ fun j ao an (R:ao j=some (acK [])) N=>?_
 clear N an;simp only[go_sem,R];refine⟨fun ρ H=>∃(k:Nat) (j:Nat),k<=x.orders.length/\ρ 1=int set/\ρ 2=.sl (l.map aL)/\ρ 3=.rp (aE x) 0/\ρ 13=.sl (x.orders.map aW)/\ρ 14=int (x.orders.length:Nat)/\ρ 15=int k/\ρ 7=.os j/\H j=some (acK (Bs x set l k)),fun ρ _=>x.orders.length-aT (ρ 15),⟨0,j,Xab _,by simp only[go_sem],by simp only[go_sem],by simp only[go_sem],by simp only[go_sem],by simp only[go_sem,Xaa],(by simp only[go_sem];rfl),by simp only[go_sem],R⟩,?_⟩;rintro ρ H ⟨k,j,hk,M,O,T,I,A,E,J,R⟩;simp only[go_sem,M,O,T,I,A,E,J];refine aA (fun aa=>?_) (fun af=>?_)
 ·have aa:=ltB (by simpa using aa);obtain⟨o,ho⟩:=aM aa;have b1:=inB aa;have hs:=DV x set l k;have ar:=BG x set l k;have aq:agU x k=o.off:=by unfold agU;rw[ho]
  have ap:SE x set k=((decide ((k:Int)>62)||(pP .and .i64 (shV .shr .i64 set (k:Nat)) 1 == 0))||o.off):=by unfold SE;rw[aq]
  have hA:FL x set l k=if SE x set k=true then[]else(iW x.orders (k:Nat)).filter (uD x l):=rfl
  rw[hA,ap]at hs;generalize Bs x set l k=L at *;simp only[go_sem,M,O,T,I,A,E,J,aC ho,b1];refine aJ fun i9 ae=>?_
  simp only[go_sem,M,O,T,I,A,E,J,R];refine bP ae (by simp[kF]) fun am (R9:am i9=some ((⟨81,16,[aW o]⟩:Row))) N=>?_
  replace R:=N R;obtain⟨ak,R⟩:=R;clear N ae;simp only[go_sem,M,O,T,I,A,E,J,R9,R];refine⟨fun _=>by omega,?_⟩;refine aA (fun hc=>?_) (fun hc=>?_)
  ·rw[if_pos hc,Xak]at hs;simp only[go_sem,M,O,T,I,A,E,J,aV k];refine⟨⟨k+1,j,aa,rfl,rfl,?_⟩,by simp only[aF];omega⟩;rw[hs];exact R
  rw[if_neg (by rw[hc];simp)]at hs;simp only[go_sem,M,O,T,I,A,E,J];refine aP (rC x.orders (k:Nat)) ?_;simp only[go_sem,M,O,T,I,A,E,J,Xaa];have hV:=rO x.orders (k:Nat);generalize iW x.orders (k:Nat)=V at *;refine⟨fun ρ H=>∃m j:Nat,m<=V.length/\ρ 1=int set/\ρ 2=.sl (l.map aL)/\ρ 3=.rp (aE x) 0/\ρ 13=.sl (x.orders.map aW)/\ρ 14=int x.orders.length/\ρ 15=int (k:Nat)/\ρ 36=.sl (V.map aL)/\ρ 37=int V.length/\ρ 38=int (m:Nat)/\ρ 7=.os j/\H j=some (acK (L++(V.take m).filter (uD x l))),fun ρ _=>V.length-aT (ρ 38),⟨0,j,Xab _,by simp only[go_sem,M,O,T,I,A,E,J],by simp only[go_sem,M,O,T,I,A,E,J],by simp only[go_sem,M,O,T,I,A,E,J],by simp only[go_sem,M,O,T,I,A,E,J],by simp only[go_sem,M,O,T,I,A,E,J],by simp only[go_sem,M,O,T,I,A,E,J],by simp only[go_sem,M,O,T,I,A,E,J],by simp only[go_sem,M,O,T,I,A,E,J],by simp only[go_sem,M,O,T,I,A,E,J];rfl,by simp only[go_sem,M,O,T,I,A,E,J],by simpa using R⟩,?_⟩;clear M O T I A E J R R9;rintro ρ H ⟨m,j,hm,M,O,T,I,A,E,U,X,Y,J,R⟩;simp only[go_sem,M,O,T,I,A,E,U,X,Y,J];refine aA (fun Z=>?_) (fun ag=>?_)
  ·have Z:=ltB (by simpa using Z);obtain⟨u,hu⟩:=aM Z;have b2:=inB Z;have ac:=Md (p:=uD x l) hu;have av:((V.take m).filter (uD x l)).length<=2:=Xai (Xbu _ _) (by rw[Xal];omega);simp only[go_sem,M,O,T,I,A,E,U,X,Y,J,aC hu,b2];generalize (V.take m).filter (uD x l)=F at *;refine aJ fun i11 ab=>?_
   simp only[go_sem,M,O,T,I,A,E,U,X,Y,J,R];refine bP ab (by simp[cX]) fun ai (al:ai i11=some ((⟨126,2,[aL u]⟩:Row))) N=>?_
   replace R:=N R;obtain⟨aj,R⟩:=R;clear N ab;simp only[go_sem,M,O,T,I,A,E,U,X,Y,J,al,R];refine aP (aaR x l u hl hb) ?_;simp only[go_sem,M,O,T,I,A,E,U,X,Y,J];refine aA (fun ah=>?_) (fun ah=>?_)
   ·rw[if_pos ah]at ac;simp only[go_sem,M,O,T,I,A,E,U,X,Y,J,al];refine aX R ⟨rfl,rfl⟩ (by simp only[go_sem]) (by simp only[Xaa,Xaf,Xad,List.length_nil];omega) (fun j2 au=>?_);simp only[go_sem,M,O,T,I,A,E,U,X,Y,J,aV m];refine⟨⟨m+1,j2,Z,rfl,rfl,?_⟩,by simp only[aF];omega⟩;rw[ac,<-Xar,aB];exact congrArg some (ZC _ _)
   ·rw[if_neg (by rw[ah];simp),Xak]at ac;simp only[go_sem,M,O,T,I,A,E,U,X,Y,J,aV m];refine⟨⟨m+1,j,Z,rfl,rfl,?_⟩,by simp only[aF];omega⟩;rw[ac];exact R
  have ag:=geB hm (by simpa using ag);subst ag;rw[Xae]at R;simp only[go_sem,M,O,T,I,A,E,J,aV k];refine⟨⟨k+1,j,aa,rfl,rfl,?_⟩,by simp only[aF];omega⟩;rw[hs];exact R
 have af:=geB hk (by simpa using af);subst af;simp only[go_sem,M,O,T,I,A,E,J];exact .row _ _ _ R (ConvE.refl _)
end Sq
end Go.Proofs.YtgncgpcpbadfnaaGreatDoor
section
namespace Go.Aw
open Go.RowKit
section
variable{P:Program}{f:FuncId}{args:List AV}{H:aH}{K:AV->aH->Prop}{r:AV}
def Sup(H H':aH):Prop:=∀k row,H k=some row->H' k=some row
def JZ(H:aH)(r:AV)(a:AV)(H':aH):Prop:=Sup H H'/\∃l:List Nat,(∀k,k∈l->H k=none)/\Conv (fun k=>if k∈l then H' k else none) a r
def bF.data(h:bF P f args H (JZ H r))(M:K r H):bF P f args H K:=by
 intro S w vals O ha;refine(h S w vals O ha).mono fun e w' ⟨v,x,H',S',J,⟨X,l,I,T⟩,E,hv,Z,hn⟩=>?_
 obtain⟨h1,Y,U⟩:=E.frz l;refine⟨v,r,H,S'.froze _,J,M,h1.drop (fun k row F=>?_),T.rep U hv,Z.trans Y,fun k _ h0=>h0⟩;have A:¬k∈l:=fun A=>by rw[I k A]at F;cases F
 show(if k∈l then none else H' k)=some row;rw[if_neg A];exact X k row F
def LC(P:Program)(f:FuncId)(args:List AV)(H:aH)(r:AV):Prop:=∀K:AV->aH->Prop,K r H->bF P f args H K
def LC.use(h:LC P f args H r)(A:K r H):bF P f args H K:=h K A
def LC.body{fn:Func}{c:Code}(mt:Nat->Bool)(F:P.follows .mixedOrders=true)(I:P.funcs[f]?=some fn)(E:fn.body=some c)(A:AT fn c args.length=true)
 (h:awp P (bF P) (dD P) mt c (HR P fn.results.toList (JZ H r)) (ES args) H):LC P f args H r:=fun K J=>bF.data (bF.body mt F I E A h) J
def Sup.refl(H:aH):Sup H H:=fun _ _ h=>h
def Sup.upd{H H':aH}(h:Sup H H'){i:Nat}(E:H i=none)(a:Option Row):Sup H (aI H' i a):=fun k row A=>by rw[aD _ _ _ _ (fun e=>by subst e;rw[E]at A;cases A)];exact h k row A
def Sup.none{H H':aH}(h:Sup H H'){i:Nat}(A:H' i=none):H i=none:=by
 cases e:H i with
 | none=>rfl
 | some row=>rw[h i row e]at A;cases A
def Sup.eq{H A B:aH}(h:Sup H A)(e:A=B):Sup H B:=e▸h
def Sup.at{H H':aH}(h:Sup H H'){i:Nat}{row:Row}(A:H i=some row):H' i=some row:=h i row A
def Sup.ne{H H':aH}(h:Sup H H'){i j:Nat}{row:Row}(E:H i=some row)(A:H j=.none):i≠j:=fun e=>by subst e;rw[E]at A;cases A
def JZ.flat{H H':aH}(h:Sup H H')(r:AV):JZ H r r H':=⟨h,[],by simp,.refl r⟩
def nC{l:List Nat}{H A:aH}{K:Env->aH->Prop}{ρ:Env}(E:∀k,k∉l->A k=H k)(h:K ρ H):oR l H K ρ A:=fun _ F h1 I=>by
 have:F=H:=funext fun k=>by
  by_cases e:k∈l
  ·exact h1 k e
  ·rw[I k e,E k e]
 rw[this];exact h
def rU{l:List Nat}{H E:aH}{K:Env->aH->Prop}{ρ:Env}{i:Nat}{r:Option Row}(F:∀k,k∉l->E k=H k)(I:i∉l)(h:K ρ (aI H i r)):oR l H K ρ (aI E i r):=fun _ J h1 M=>by
 have:J=aI H i r:=funext fun k=>by
  by_cases e:k∈l
  ·rw[h1 k e,aD _ _ _ _ (fun A=>I (by rw[<-A];exact e))]
  ·rw[M k e];by_cases A:k=i
   ·subst A;rw[aB,aB]
   ·rw[aD _ _ _ _ A,aD _ _ _ _ A,F k e]
 rw[this];exact h
def oS{l:List Nat}{H F:aH}{K:Env->aH->Prop}{ρ:Env}{i:Nat}{a:Option Row}{b:Row}(I:∀k,k∉l->F k=H k)(J:F i=none)(h:H i=none->K ρ (aI (aI H i a) i (some b))):oR l H K ρ (aI (aI F i a) i (some b)):=fun h0 M h1 O=>by
 have E:i∉l:=fun e=>by have:=h0 i e;rw[aB]at this;cases this
 have:M=aI (aI H i a) i (some b):=funext fun k=>by
  by_cases e:k∈l
  ·rw[h1 k e,aD _ _ _ _ (fun A=>E (by rw[<-A];exact e)),aD _ _ _ _ (fun A=>E (by rw[<-A];exact e))]
  ·rw[O k e];by_cases A:k=i
   ·subst A;rw[aB,aB]
   ·rw[aD _ _ _ _ A,aD _ _ _ _ A,aD _ _ _ _ A,aD _ _ _ _ A,I k e]
 rw[this];exact h ((I i E).symm.trans J)
end
end Go.Aw
end
section
namespace Go.Proofs.YtgncgpcpbadfnaaGreatDoor.Sq
open Go.Aw Go.Aw.D Go.Proofs Ty
open Go.Proofs.YtgncgpcpbadfnaaGreatDoor.Nu (ltB geB)
open Mv (bZ cK aS)
def Gu(L:List Nat):Nat:=(L.map fun a=>2^62-a).sum
def MK:∀{L:List Nat} {i u v:Nat},L[i]?=some u->u<v->v<=2^62->Gu (L.set i v)<Gu L
 | [],i,u,v,h,_,_=>by simp at h
 | a::L,0,u,v,h,h1,h2=>by
  have:a=u:=by simpa using h
  subst this;show(2^62-v)+(L.map fun a=>2^62-a).sum<(2^62-a)+(L.map fun a=>2^62-a).sum;omega
 | a::L,i+1,u,v,h,h1,h2=>by have:=MK (L:=L) (i:=i) (by simpa using h) h1 h2;show(2^62-a)+Gu (L.set i v)<(2^62-a)+Gu L;omega
abbrev Dh(L:List Nat):Row:=⟨3,1,L.map fun n=>[int (n:Nat)]⟩
def ajA:List AV->Nat
 | [.v (.int _ a)]=>2^62-a.toNat
 | _=>0
def aaS(x b:AV)(H:aH):Nat:=match x,b with
 | .os j,.v (.bool true)=>match H j with
   | some r=>(r.es.map ajA).sum+1
   | none=>0
 | _,_=>0
def WN{j:Nat}{H:aH}{L:List Nat}(h:H j=some (Dh L)):aaS (.os j) (boo true) H=Gu L+1:=by unfold aaS;simp only[h,List.map_map];rfl
def aiK{j:Nat}{H:aH}:aaS (.os j) (boo false) H=0:=rfl
def Yu{s:Int}{a:Int}(h:a∈fA s):∃k:Nat,a=(k:Nat):=by unfold fA tS at h;obtain⟨k,_,rfl⟩:=Xay.1 h;exact⟨k,rfl⟩
def Zh(s:Int):(fA s).length<=63:=by unfold fA tS;rw[Xaa];exact Xai (Xbu _ _) (by rw[Xas];exact Xag _)
end Go.Proofs.YtgncgpcpbadfnaaGreatDoor.Sq
end
