import Derived.Lib.ItoaMem
import Derived.Test.YtkfhgjihlbilpaaGreatDoorVl07
import Derived.Test.YtkfhgjihlbilpaaGreatDoorVl09
set_option linter.unusedSimpArgs false
set_option linter.unusedVariables false
set_option linter.defProp false
set_option maxRecDepth 100000
namespace Go.Proofs.YtkfhgjihlbilpaaGreatDoor
open Go.Aw Go.Aw.D Go.Proofs Ty
namespace Nu
open Go.Proofs.Tryz
open Go.Nu
def eY(s:ByteArray):ByteArray×ByteArray×Int:=if bZ s=true then(hJ s,iF s,0)else(emp,emp,3)
def arR(s:ByteArray)(h:s.size<=1048576):PC prog 154 [str s] (.tup [str (eY s).1,str (eY s).2.1,int (eY s).2.2]):=by
 refine pcd func154 rfl rfl ?_;simp only[go_sem];refine aL (xA s h) ?_;simp only[go_sem];unfold eY;apply aA <;> intro A
 ·rw[if_neg (by grind)];simp only[go_sem];exact .refl _
 ·rw[if_pos (by grind)];simp only[go_sem];refine aL (GC s h) ?_;simp only[go_sem];exact .refl _
def AF(s:ByteArray):ByteArray×Int:=
 if((eY s).2.2 != 0)=true then(emp,(eY s).2.2)
 else if((nE (eY s).1 (eY s).2.1).2.2 != 0||(nE (eY s).1 (eY s).2.1).2.1.toList == (⟨#[48]⟩:ByteArray).toList)=true then((nE (eY s).1 (eY s).2.1).1,(nE (eY s).1 (eY s).2.1).2.2)
 else Fg (nE (eY s).1 (eY s).2.1).1 ⟨#[49]⟩
def Iu(s:ByteArray)(h:s.size<=1048576):(eY s).1.size<=1048576/\(eY s).2.1.size<=1048576/\(nE (eY s).1 (eY s).2.1).1.size<=1048576:=by
 unfold eY;split
 next E=>
  obtain⟨x,rfl,A,O,I⟩:=fH E;have T:=x.den_pos;have F:=A.2;have J:dec x.den=zed (x.den:Int):=(dH x.den).symm;refine⟨Xaf (DM _) h,?_,?_⟩
  ·grind[dV]
  ·show(nE (hJ (qU x)) (iF (qU x))).1.size<=1048576;rw[O,I,J,AR A.1 (by omega) (by omega)];refine dP ?_;have h1:=A.1
   grind[Int.natAbs_ediv_le_natAbs]
 next E=>
  refine⟨by decide,by decide,?_⟩;show(nE emp emp).1.size<=1048576;have:lX emp emp=3:=by rfl
  unfold nE;rw[this];decide
def aAG(s:ByteArray)(h:s.size<=1048576):PC prog 98 [str s] (.tup [str (AF s).1,int (AF s).2]):=by
 obtain⟨h1,O,E⟩:=Iu s h;have I:AF s=(if((eY s).2.2 != 0)=true then(emp,(eY s).2.2)
  else if((nE (eY s).1 (eY s).2.1).2.2 != 0||(nE (eY s).1 (eY s).2.1).2.1.toList == (⟨#[48]⟩:ByteArray).toList)=true then((nE (eY s).1 (eY s).2.1).1,(nE (eY s).1 (eY s).2.1).2.2)
  else Fg (nE (eY s).1 (eY s).2.1).1 ⟨#[49]⟩):=rfl
 have J:=arR s h;have F:=LK (eY s).1 (eY s).2.1 h1 O;have T:=asU (nE (eY s).1 (eY s).2.1).1 ⟨#[49]⟩ E (by decide);generalize nE (eY s).1 (eY s).2.1=D at *;generalize eY s=p at *;generalize AF s=c at *;subst I;refine pcd func98 rfl rfl ?_;simp only[go_sem];refine aL J ?_;simp only[go_sem];apply aA <;> intro A
 ·rw[if_pos A];simp only[go_sem];exact .refl _
 rw[if_neg (by grind)];simp only[go_sem];refine aL F ?_;simp only[go_sem];apply aA <;> intro A
 ·rw[if_pos A];simp only[go_sem];exact .refl _
 rw[if_neg (by grind)];simp only[go_sem];refine aL T ?_;simp only[go_sem];exact .refl _
def acQ{a b:Nat}(E:a<2^63)(A:b<2^63):vY .and .i64 (a:Int) (b:Int)=((a &&& b:Nat):Int):=by
 have h:((BitVec.ofInt 64 (a:Int) &&& BitVec.ofInt 64 (b:Int)).toNat:Int)=((a &&& b:Nat):Int):=by grind
 refine Eq.trans (congrArg IntKind.i64.wrap h) ?_;have:=Nat.and_lt_two_pow a A
 grind[aW]
theorem vE{x:Int}{i:Nat}(h:i<=62):shV .shr .i64 x (i:Int)=x/2^i:=Sq.vE h
def dI(set i:Int):Bool:=decide (i>=0)&&decide (i<=62)&&((set/2^i.toNat)%2 == 1)
def Ai(set i:Int):PC prog 145 [int set,int i] (boo (dI set i)):=Sq.Ai set i
def rL(set:Int)(k:Nat):List Int:=((List.range k).filter fun i:Nat=>dI set (i:Int)).map fun i:Nat=>(i:Int)
def dA(set:Int):List Int:=rL set 63
def pC(set:Int)(k:Nat):rL set (k+1)=rL set k++(if dI set (k:Int)=true then[(k:Int)]else[]):=Sq.pC set k
theorem oR(set:Int)(k:Nat):(rL set k).length<=k:=Sq.oR set k
def rW(l:List Int):Row:=⟨3,1,l.map aP⟩
def mN(set:Int):PC prog 88 [int set] (.sl ((dA set).map aP)):=Sq.mN set
def xX:Nat->Nat->Nat
 | 0,_=>0
 | k+1,n=>n%2+xX k (n/2)
def OB:∀(k n:Nat),xX (k+1) n=xX k n+(n/2^k)%2
 | 0,n=>by simp[xX]
 | k+1,n=>by rw[xX,OB k (n/2),xX,Nat.div_div_eq_div_mul,show 2*2^k=2^(k+1)by rw[Xbo,Nat.mul_comm]];omega
def NZ:∀k:Nat,xX k 0=0
 | 0=>rfl
 | k+1=>by rw[xX,NZ k]
def DE:∀k n:Nat,xX k n<=k
 | 0,_=>Xae 0
 | k+1,n=>by have:=DE k (n/2);rw[xX];omega
def LI(n:Nat):∀k:Nat,k<=63->(rL (n:Int) k).length=xX k n
 | 0,_=>rfl
 | k+1,hk=>by
  rw[pC,Xar,LI n k (by omega),OB];have h:dI (n:Int) (k:Int)=decide ((n/2^k)%2=1):=by
   unfold dI
   grind
  grind
def amR(n:Nat):PC prog 79 [int n] (int (xX 63 n:Nat)):=by
 have O:=LI n 63 (Xae _);have U:=DE 63 n;refine pcd func79 rfl rfl ?_;simp only[go_sem];refine aL (mN n) ?_;simp only[go_sem,Xac,dA,O];generalize xX 63 n=P at *;refine⟨fun ρ _=>∃k:Nat,k<=P/\ρ 3=int k/\ρ 6=int (P:Nat)/\ρ 7=int k,fun ρ _=>P-aT (ρ 7),⟨0,Xaa _,by rfl,rfl,by rfl⟩,?_⟩;rintro ρ H ⟨k,T,F,J,I⟩;simp only[go_sem,J,I];refine aA (fun E=>?_) (fun A=>?_)
 ·have E:=ltB E;simp only[go_sem,F,J,I,aQ k]
  grind[aJ]
 ·have A:=geB T A;subst A;simp only[go_sem,F];exact .refl _
def axM(n:Nat)(U:n<9223372036854775808):PC prog 171 [int n] (int (xX 63 n:Nat)):=by
 have aa:=DE 63 n;refine pcd func171 rfl rfl ?_;simp only[go_sem];refine⟨fun ρ _=>∃k m c:Nat,k<=63/\ρ 0=int m/\ρ 3=int c/\m<2^(63-k)/\c+xX (63-k) m=xX 63 n,fun ρ _=>aT (ρ 0),⟨0,n,0,Xaa _,rfl,by rfl,U,by simp⟩,?_⟩;rintro ρ H ⟨k,m,c,hk,h0,I,F,A⟩;simp only[go_sem,h0];refine aA (fun E=>?_) (fun T=>?_)
 ·have E:0<m:=by grind
  obtain⟨d,hd⟩:∃d,63-k=d+1:=⟨62-k,by grind⟩;rw[hd]at F A;have X:m<9223372036854775808:=Xax F (show 2^(d+1)<=2^63 from Xah (by decide) (by omega));rw[xX]at A;rw[Xbo]at F;have J:((m:Int)).tmod 2=((m%2:Nat):Int):=rfl;have Y:IntKind.i64.wrap (((m:Int)).tdiv 2)=((m/2:Nat):Int):=by grind[aW]
  have Z:IntKind.i64.wrap ((c:Int)+((m%2:Nat):Int))=((c+m%2:Nat):Int):=by grind[aW]
  simp only[go_sem,h0,I,J,Y,Z];refine⟨by decide,by decide,?_⟩;exact⟨⟨k+1,m/2,c+m%2,by omega,rfl,rfl,by grind,by grind⟩,by grind[aJ]⟩
 ·have O:m=0:=by grind
  subst O;rw[NZ]at A;simp only[go_sem,I]
  grind[cI]
def rV(p:Int×Int):List AV:=[int p.1,int p.2]
def Dv(m:List (Int×Int))(o:Int):Option Nat:=m.findIdx? fun p=>p.1 == o
def tU(m:List (Int×Int))(o:Int):Int:=((m.find? fun p=>p.1 == o).map (·.2)).getD 0
def Eb(m:List (Int×Int))(o v:Int):List (Int×Int):=match Dv m o with
 | some i=>m.set i (o,v)
 | none=>m++[(o,v)]
abbrev vF(m:List (Int×Int)):Row:=⟨0,2,m.map rV⟩
def Ap(o:Int):∀(m:List (Int×Int)) (i:Nat),yH (AT prog 3 (int o)) (m.map rV) i=some ((Dv m o).map (·+i))
 | [],i=>rfl
 | p::m,i=>by
  have ih:=Ap o m (i+1);have A:AT prog 3 (int o) ((rV p).getD 0 .any)=some (o == p.1):=by rfl
  rw[Xav,yH,A];unfold Dv at *;rw[List.findIdx?_cons];by_cases h:o=p.1
  ·grind
  ·have h1:(o == p.1)=false:=by grind
   have E:(p.1 == o)=false:=by grind
   rw[h1,E];simp only[Xbe,if_false];rw[ih];cases m.findIdx? (fun p=>p.1 == o)with
   | none=>rfl
   | some j=>grind
def lR(o:Int)(m:List (Int×Int)):yH (AT prog 3 (int o)) (m.map rV) 0=some (Dv m o):=by simp[Ap]
def nU(o:Int):uU prog 3 (int o)=true:=by rfl
def AB(m:List (Int×Int))(o:Int):Qs false (int 0) (m.map rV) (Dv m o)=int (tU m o):=by unfold Qs tU Dv;induction m<;>grind[rV]
def C1(m:List (Int×Int))(o v:Int):ahN (m.map rV) (Dv m o) (int o) (int v)=(Eb m o v).map rV:=by grind[ahN,Eb,rV,List.map_set]
def Ld(k:Int):Nat:=if k=1 then 2 else if k=2 then 1 else 0
def Sk(k:Int)(P:Nat):Bool:=decide (Ld k>0)&&decide (Ld k<=P)
def B0(k:Int)(n:Nat):Int:=if Sk k (xX 63 n)=true then 1 else 0
def aqT(k m:Int)(a b:Nat)(I:a<2^63)(E:b<2^63):PC prog 113 [.agg [int k,int a,int m],int b] (int (B0 k (a &&& b))):=by
 have A:a &&& b<2^63:=Nat.and_lt_two_pow a E;have J:=axM (a &&& b) A;have O:=DE 63 (a &&& b);refine pcd func113 rfl rfl ?_;simp only[go_sem];rw[acQ I E];refine aL J ?_;unfold B0;generalize xX 63 (a &&& b)=P at *;simp only[go_sem];have F:((k == 1&&decide ((P:Int)>=2))||(k == 2&&decide ((P:Int)>=1)))=Sk k P:=by grind[Sk,Ld]
 rw[F];apply aA <;> intro h
 ·simp only[go_sem];simp_all[cI]
 ·simp only[go_sem];simp_all[cI]
def aAW(k m:Int)(a b:Nat)(O:a<2^63)(Y:b<2^63):PC prog 146 [.agg [int k,int a,int m],int b] (int (B0 k (a &&& b))):=by
 have U:=amR (a &&& b);have Z:=DE 63 (a &&& b);refine pcd func146 rfl rfl ?_;simp only[go_sem];refine aH fun jm E=>?_
 generalize A:aI bN jm _=HM;have I:HM jm=some (vF []):=by rw[<-A,aB];rfl
 clear A E;simp only[go_sem];refine JL I Ew (nU _) (lR _ _) ?_;rw[C1];generalize A:aI HM jm _=HN;have F:HN jm=some (vF [(1,2)]):=by rw[<-A,aB];rfl
 clear A I;simp only[go_sem];refine JL F Ew (nU _) (lR _ _) ?_;rw[C1];generalize A:aI HN jm _=HO;have X:HO jm=some (vF [(1,2),(2,1)]):=by rw[<-A,aB];rfl
 clear A F;simp only[go_sem];refine AO X Ew (nU _) (lR _ _) zv3 ?_;rw[AB];have T:tU [(1,2),(2,1)] k=(Ld k:Nat):=by grind[tU,Ld]
 rw[T];simp only[go_sem];rw[acQ O Y];refine⟨_,fun _=>U.q rfl,?_⟩;unfold B0;generalize xX 63 (a &&& b)=P at *;simp only[go_sem];have J:(decide (((Ld k:Nat):Int)>0)&&decide ((P:Int)>=((Ld k:Nat):Int)))=Sk k P:=by simp[Sk]
 rw[J];apply aA <;> intro h
 ·simp only[go_sem];simp_all[cI]
 ·simp only[go_sem];simp_all[cI]
end Nu
namespace Nu
open Go.Nu
def Fz:∀(l:List (Int×ByteArray)) (t:ByteArray),bZ t=true->(pR l t).2=0->bZ (pR l t).1=true
 | [],t,h,_=>h
 | p::l,t,h,h0=>by
  unfold pR at h0 |-;split at h0
  ·omega
  ·next h1=>
   rw[if_neg h1];split at h0
   all_goals simp_all[Fz,E9]
def IM{ns:List Int}{xs:List ByteArray}(h:(eV ns xs).2=0):bZ (eV ns xs).1=true:=by
 unfold eV at h |-;split at h
 ·cases h
 ·next h1=>
  rw[if_neg h1];split at h
  all_goals simp_all[if_neg,Fz,Lj]
end Nu
section
theorem iL{α:Type}{b:Bool}{f:α}(h:opt b f=[]):b=false:=by grind[opt]
theorem nB{n a b:Int}:inR n a b=true↔a<=n/\n<=b:=by simp[inR]
def yF{b:Bool}(h:(!b)=false):b=true:=by grind
structure TypeB(t:VType)(d:Int):Prop where
 cap:Ee t.cap d=true
 l7:0<=t.l7/\t.l7<=1073741823
 start:0<=t.start/\t.start<=t.close
 close:t.close<=4096
 υ:1<=t.υ/\t.υ<=4096
 rest:0<=t.rest/\t.rest<=4096
 count:0<=t.count/\t.count<=10
def alN{n:Network}{l:List VType}{k:Nat}{t:VType}(h:qC n l k t=[]):TypeB t (mO l):=by
 unfold qC at h;simp only[Xbi,Xbf]at h;obtain⟨⟨⟨⟨⟨⟨⟨⟨_,_⟩,O⟩,_⟩,X⟩,h6⟩,I⟩,F⟩,h9⟩:=h;have U:=nB.1 (yF (iL O));have E:=yF (iL X);have Y:=nB.1 (yF (iL h6));have J:=Xam.1 (iL I);have A:=Xam.1 (iL F);have T:=nB.1 (yF J.1);have Z:¬t.close>4096:=by grind
 exact⟨E,Y,T,by omega,nB.1 (yF A.1),nB.1 (yF A.2),U⟩
structure OrdB(o:Order)(d:Int):Prop where
 load:fS o.load d=true
 pick: -1<=o.pick.place
 drop: -1<=o.drop.place
 both:(o.pick.place == -1&&o.drop.place == -1)=false
 wpick:kH o.pick=0
 wdrop:kH o.drop=0
 l7:0<=o.l7/\o.l7<=1073741823
 η: -1<=o.η/\o.η<=1000000
def avW{P:Nat}{d T:Int}{l:List Order}{k:Nat}{o:Order}(h:mM P d T l k o=[]):OrdB o d:=by unfold mM at h;simp only[Xbi,Xbf]at h;obtain⟨⟨⟨⟨⟨⟨⟨_,_⟩,F⟩,O⟩,U⟩,X⟩,J⟩,I⟩:=h;have A:=Xam.1 (iL O);have Y:=Xam.1 (iL X);have E:=iL I;simp only[Xam]at E;refine⟨yF (iL F),(nB.1 (yF A.1)).1,(nB.1 (yF A.2)).1,iL U,by grind,by grind,nB.1 (yF (iL J)),nB.1 (yF E.1.1.1.1.1.1)⟩
structure ArcOk(a:Arc):Prop where
 eP:jZ a.eP=[]
 ξ:a.ξ.length<=16
 pt:∀p∈a.ξ,(0<=p.t/\p.t<=4096)/\0<=p.a/\p.a<=4096
def aoS{n:Network}{k:Nat}{a:Arc}(I:n.o9[k]?=some a)(h:KI n k=[]):ArcOk a:=by
 unfold KI at h;rw[DV I]at h;simp only[Xbi,Xbf,List.map_eq_nil_iff]at h;obtain⟨⟨⟨_,F⟩,U⟩,O⟩:=h;have T:¬(a.ξ.length:Int)>16:=by grind[iL]
 refine⟨F,by omega,fun p A=>?_⟩;obtain⟨i,E,rfl⟩:=List.getElem_of_mem A;have:=List.flatMap_eq_nil_iff.1 O i (Xan.2 E);have J:=iL this;unfold rY at J;simp_all[fI,nB]
structure PairB(N:Int)(q:Pair):Prop where
 a:0<=q.a/\q.a<N
 b:0<=q.b/\q.b<N
 ne:q.a≠q.b
def Sd{N:Int}{l:List Pair}{w:ByteArray}{s:Bool}(h:zQ N l w s=[]):l.length<=16/\∀q∈l,PairB N q:=by
 unfold zQ at h;rw[Xbf]at h;have J:¬(l.length:Int)>16:=by grind[iL]
 refine⟨by omega,fun q I=>?_⟩;obtain⟨i,E,rfl⟩:=List.getElem_of_mem I;have:=List.flatMap_eq_nil_iff.1 h.2 i (Xan.2 E);unfold iY at this;have F:pAt l i=l[i]:=by grind[pAt]
 rw[F]at this;split at this
 ·grind
 ·rename_i A;unfold Go.Proofs.YtkfhgjihlbilpaaGreatDoor.pG at A;simp only[Xam,decide_eq_false_iff_not]at A;exact⟨by omega,by omega,by grind⟩
structure Acc(x:Instance):Prop where
 o9:x.τ.o9.length<=1024
 arc:∀a∈x.τ.o9,ArcOk a
 types:1<=x.types.length/\x.types.length<=6
 type:∀t∈x.types,TypeB t (mO x.types)
 y5:x.y5.length<=10
 order:∀o∈x.y5,OrdB o (mO x.types)
 apart:x.apart.length<=16
 apartB:∀q∈x.apart,PairB x.y5.length q
 before:x.before.length<=16
 beforeB:∀q∈x.before,PairB x.y5.length q
theorem aBo{x:Instance}(h:xY x=[]):Acc x:=by
 unfold xY at h;simp only[Xbf,List.map_eq_nil_iff]at h;obtain⟨⟨⟨J,F⟩,I⟩,E⟩:=h;unfold MN at J;simp only[Xbf]at J;unfold Af at F;rw[Xbf]at F;unfold uA at I;rw[Xbf]at I;unfold GP at E;rw[Xbf]at E;obtain⟨U,r2⟩:=Sd E.1;obtain⟨Y,Z⟩:=Sd E.2;have e1:¬(x.τ.o9.length:Int)>1024:=by grind[iL]
 have e2:=nB.1 (yF (iL F.1));have e3:¬(x.y5.length:Int)>10:=by grind[iL]
 refine⟨by omega,fun a X=>?_,by omega,fun t O=>?_,by omega,fun o T=>?_,U,r2,Y,Z⟩
 ·obtain⟨i,A,rfl⟩:=List.getElem_of_mem X;exact aoS (List.getElem?_eq_getElem A) (List.flatMap_eq_nil_iff.1 J.2 i (Xan.2 A))
 ·obtain⟨i,A,rfl⟩:=List.getElem_of_mem O;have:=List.flatMap_eq_nil_iff.1 F.2 i (Xan.2 A);unfold kP at this;rw[List.map_eq_nil_iff,VR (List.getElem?_eq_getElem A)]at this;exact alN this
 ·obtain⟨i,A,rfl⟩:=List.getElem_of_mem T;have:=List.flatMap_eq_nil_iff.1 I.2 i (Xan.2 A);unfold iN at this;rw[List.map_eq_nil_iff,LO (List.getElem?_eq_getElem A)]at this;exact avW this
def YR{l:List Int}{d:Int}(h:fS l d=true):(l.length:Int)=d/\∀n∈l,0<=n/\n<=1000:=by grind[fS]
def alQ{l:List Int}{d:Int}(h:Ee l d=true):(l.length:Int)=d/\1<=d/\d<=3:=by
 unfold Ee at h;split at h
 ·cases h
 ·rename_i A;simp only[Bool.not_eq_true,Xam]at A
  grind[nB]
end
namespace Nu
open Go.Proofs.Tryz
open Go.Nu
def uX(p:Nat->Bool):Nat->Nat
 | 0=>0
 | k+1=>uX p k+(if p k=true then 2^k else 0)
def FO(p:Nat->Bool):∀k,uX p k<2^k
 | 0=>by simp[uX]
 | k+1=>by have:=FO p k;grind[uX]
theorem qR(p:Nat->Bool):∀k i,(uX p k).testBit i=(decide (i<k)&&p i)
 | 0,i=>by simp[uX]
 | k+1,i=>by
  have A:=FO p k;have ih:=qR p k i;rw[uX];have E:uX p k+(if p k=true then 2^k else 0)=uX p k ||| (if p k=true then 2^k else 0):=by
   split
   ·rw[Nat.add_comm,Nat.or_comm];have:=Nat.two_pow_add_eq_or_of_lt A 1;grind
   ·simp
  grind
def aBO{a k:Nat}(h:a<2^k):a ||| 2^k=a+2^k:=by rw[Nat.or_comm,Nat.add_comm];have:=Nat.two_pow_add_eq_or_of_lt h 1;grind
def Km{a b:Nat}(E:a<2^63)(A:b<2^63):vY .or .i64 (a:Int) (b:Int)=((a ||| b:Nat):Int):=by
 have h:((BitVec.ofInt 64 (a:Int) ||| BitVec.ofInt 64 (b:Int)).toNat:Int)=((a ||| b:Nat):Int):=by grind
 refine Eq.trans (congrArg IntKind.i64.wrap h) ?_;have:=Nat.or_lt_two_pow E A
 grind[aW]
theorem GO{i:Nat}(h:i<=62):shV .shl .i64 1 (i:Int)=((2^i:Nat):Int):=by
 show IntKind.i64.wrap (1*2^min ((i:Int)).toNat 64)=_;have:min ((i:Int)).toNat 64=i:=by omega
 rw[this,Int.one_mul];have A:(2:Nat)^i<=2^62:=Xah (by decide) h
 grind[aW]
theorem jW{s:Nat}{i:Nat}(h1:i<=62):dI (s:Int) (i:Int)=s.testBit i:=by
 rw[Nat.testBit_eq_decide_div_mod_eq];unfold dI
 grind
theorem LQ{a b:Nat}(T:a<2^63)(Y:b<2^63):(vY .andNot .i64 (a:Int) (b:Int) == 0)=decide (a &&& b=a):=by
 have e:vY .andNot .i64 (a:Int) (b:Int)=((a-(a &&& b):Nat):Int):=by
  have h1:((a:Int)%((2^64:Nat):Int)).toNat=a:=by omega
  have X:((b:Int)%((2^64:Nat):Int)).toNat=b:=by omega
  have h:((BitVec.ofInt 64 (a:Int) &&& ~~~(BitVec.ofInt 64 (b:Int))).toNat:Int)=((a-(a &&& b):Nat):Int):=by
   have A:a &&& b<=a:=Nat.and_le_left;have U:BitVec.ofInt 64 (a:Int) &&& ~~~(BitVec.ofInt 64 (b:Int))=BitVec.ofNat 64 (a-(a &&& b)):=by
    have E:BitVec.ofInt 64 (a:Int)=BitVec.ofNat 64 a:=by rfl
    have F:BitVec.ofInt 64 (b:Int)=BitVec.ofNat 64 b:=by rfl
    rw[E,F];have I:(BitVec.ofNat 64 a &&& ~~~BitVec.ofNat 64 b) &&& BitVec.ofNat 64 (a &&& b)=0#64:=by grind
    have J:(BitVec.ofNat 64 a &&& ~~~BitVec.ofNat 64 b) ||| BitVec.ofNat 64 (a &&& b)=BitVec.ofNat 64 a:=by grind
    have O:=congrArg BitVec.toNat ((BitVec.add_eq_or_of_and_eq_zero _ _ I).trans J)
    grind[BitVec.toNat_ofNat,BitVec.eq_of_toNat_eq]
   grind
  refine Eq.trans (congrArg IntKind.i64.wrap h) ?_
  grind[aW]
 rw[e,Xaz];have A:a &&& b<=a:=Nat.and_le_left
 grind
def afT(a b:Nat)(E:a<2^63)(A:b<2^63):PC prog 138 [int a,int b] (boo (decide (a &&& b=a))):=by
 refine pcd func138 rfl rfl ?_;simp only[go_sem]
 grind[cB,LQ]
def uK(q:Order->Bool)(l:List Order)(i:Nat):Bool:=match l[i]? with|some o=> !o.off&&q o|none=>false
theorem xM{q:Order->Bool}{l:List Order}{i:Nat}{o:Order}(h:l[i]?=some o):uK q l i=(!o.off&&q o):=by grind[uK]
def Ot(q:Order->Bool)(l:List Order):Nat:=uX (uK q l) l.length
def alY{g:Nat}{q:Order->Bool}(x:Instance)(hx:x.y5.length<=62)(T:aE prog g=true)(hg:∀o∈x.y5,PC prog g [.agg (bE o)] (boo (q o))):
  PC prog 148 [.agg (aD x),.v (.func (.func g) #[] #[])] (int (Ot q x.y5:Nat)):=by
 refine pcd func148 rfl rfl ?_;simp only[go_sem];unfold Ot;generalize hp:uK q x.y5=p;refine⟨fun ρ H=>∃(k:Nat),k<=x.y5.length/\ρ 1=.v (.func (.func g) #[] #[])/\ρ 9=.sl (x.y5.map bE)/\ρ 10=int (x.y5.length:Nat)/\ρ 11=int k/\ρ 5=int (uX p k:Nat),fun ρ _=>x.y5.length-aT (ρ 11),⟨0,Xaa _,rfl,rfl,by rfl,(by rfl),by rfl⟩,?_⟩;rintro ρ H ⟨k,hk,U,O,I,E,J⟩;simp only[go_sem,I,E];refine aA (fun A=>?_) (fun F=>?_)
 ·have A:=ltB A;obtain⟨o,X⟩:=aK A;have Y:=inB A;have aa:p k=(!o.off&&q o):=by rw[<-hp];exact xM X
  have Z:=FO p k;have ab:2^k<=2^62:=Xah (by decide) (by omega);simp only[go_sem,O,E,aC X,Y];refine aH fun j hj=>?_
  simp only[go_sem,];refine aG (aB _ _ _) (by simp[bE]) ?_;simp only[go_sem,U,T];refine⟨_,fun _=>(hg o (Xab X)).q rfl,?_⟩;simp only[go_sem,];refine aA (fun hb=>?_) (fun hb=>?_)
  ·have q1:=GO (i:=k) (by omega);have q2:=Km (a:=uX p k) (b:=2^k) (by omega) (by omega);simp only[go_sem,U,O,I,E,J,q1,q2,aQ k];refine⟨by omega,⟨k+1,A,rfl,?_⟩,by grind[aJ]⟩;simp_all[aBO,uX]
  ·simp only[go_sem,U,O,I,E,J,aQ k];refine⟨⟨k+1,A,rfl,?_⟩,by grind[aJ]⟩;simp_all[uX]
 ·have F:=geB hk F;subst F;simp only[go_sem,J];exact .refl _
def Gu(x:Instance):Nat:=Ot (fun _=>true) x.y5
def AQ(x:Instance):Nat:=Ot (fun o=>o.η == -1) x.y5
def aBB(o:Order):PC prog 149 [.agg (bE o)] (boo true):=by refine pcd func149 rfl rfl ?_;simp only[go_sem];exact .refl _
def auL(o:Order):PC prog 197 [.agg (bE o)] (boo (o.η == -1)):=by refine pcd func197 rfl rfl ?_;simp only[go_sem];exact .refl _
def Ta(x:Instance)(A:x.y5.length<=62):PC prog 89 [.agg (aD x)] (int (Gu x:Nat)):=by refine pcd func89 rfl rfl ?_;simp only[go_sem];refine aL (alY x A (by rfl) fun o _=>aBB o) ?_;simp only[go_sem];exact .refl _
def apP(x:Instance)(A:x.y5.length<=62):PC prog 139 [.agg (aD x)] (int (AQ x:Nat)):=by refine pcd func139 rfl rfl ?_;simp only[go_sem];refine aL (alY x A (by rfl) fun o _=>auL o) ?_;simp only[go_sem];exact .refl _
def vD(n:Nat)(set:Int):Bool:=decide (set>=0)&&(set/2^n == 0)
def QK(x:Instance)(set:Int)(A:x.y5.length<=62):PC prog 78 [.agg (aD x),int set] (boo (vD x.y5.length set)):=by refine pcd func78 rfl rfl ?_;simp only[go_sem];refine⟨by omega,?_⟩;refine cB ?_;rw[vE A];rfl
def PK{g:Nat}{cap:List AV}{p:Int->Bool}(l:List Int)(hl:l.length<=1048576)(F:aE prog g=true)(hg:∀v∈l,PC prog g (int v::cap) (boo (p v))):
  ∃n:Int,decide (n>=0)=l.any p/\PC prog 262 [.sl (l.map aP),.fn g cap] (int n):=by
 refine⟨match l.findIdx? p with|some i=>(i:Int)|none=> -1,?_,?_⟩
 ·grind
 ·
  refine pcd func262 rfl rfl ?_;simp only[go_sem];refine⟨fun ρ H=>∃(k:Nat),k<=l.length/\ρ 0=.sl (l.map aP)/\ρ 1=.fn g cap/\ρ 7=int (l.length:Nat)/\ρ 8=int k/\(∀u∈l.take k,p u=false),fun ρ _=>l.length-aT (ρ 8),⟨0,Xaa _,rfl,rfl,by rfl,(by rfl),by simp⟩,?_⟩;rintro ρ H ⟨k,hk,Y,T,U,O,J⟩;simp only[go_sem,U,O];refine aA (fun A=>?_) (fun E=>?_)
  ·have A:=ltB A;obtain⟨u,I⟩:=aK A;have Z:=inB A;simp only[go_sem,Y,T,O,aC I,Z,F];refine aL (hg u (Xab I)) ?_;simp only[go_sem,];refine aA (fun X=>?_) (fun X=>?_)
   ·simp only[go_sem,];have:l.findIdx? p=some k:=by grind[List.findIdx?_eq_some_iff_getElem,List.mem_take_iff_getElem]
    rw[this];exact .refl _
   ·simp only[go_sem,Y,T,U,O,aQ k];exact⟨⟨k+1,A,rfl,dW (p:=fun u=>p u=false) I X J⟩,by grind[aJ]⟩
  ·have E:=geB hk E;subst E;rw[Xad]at J;simp only[go_sem];rw[List.findIdx?_eq_none_iff.2 J];exact .refl _
def Jo{g:Nat}{cap:List AV}{p:Int->Bool}(l:List Int)(I:l.length<=1048576)(A:aE prog g=true)(E:∀v∈l,PC prog g (int v::cap) (boo (p v))):
  PC prog 199 [.sl (l.map aP),.fn g cap] (boo (l.any p)):=by
 obtain⟨n,J,F⟩:=PK l I A E;refine pcd func199 rfl rfl ?_;simp only[go_sem];refine aL F ?_;simp only[go_sem];exact cB J
def nK(l:List Order)(i:Int):Order:=l.getD i.toNat ⟨ByteArray.empty,[],⟨0,0,0,0⟩,⟨0,0,0,0⟩,0,0,0,0,0,false⟩
theorem iQ{l:List Order}{i:Nat}{o:Order}(h:l[i]?=some o):nK l (i:Int)=o:=by grind[nK]
def ML(l:List Order)(ms:List Int):Prop:=∀i∈ms,0<=i/\i<(l.length:Int)
def PZ(x:Instance)(g:Nat)(q:Order->Int)(i:Int)(J:0<=i/\i<(x.y5.length:Int))(E:aE prog g=true)(I:∀o,PC prog g [.agg (bE o)] (int (q o))):
  PC prog 200 [int i,.rp [.v (.func (.func g) #[] #[])] 0,.rp (aD x) 0] (boo (decide (q (nK x.y5 i)>=0))):=by
 obtain⟨n,rfl⟩:=Int.eq_ofNat_of_zero_le J.1;have A:n<x.y5.length:=by omega
 obtain⟨o,F⟩:=aK A;have O:=inB A;rw[iQ F];refine pcd func200 rfl rfl ?_;simp only[go_sem];refine jD (by rfl) (by kernel_rfl) ?_;simp only[go_sem,aC F,O,E];refine⟨_,(I o).q rfl,?_⟩;simp only[go_sem];exact .refl _
def UB(o:Order):PC prog 201 [.agg (bE o)] (int o.pick.place):=by refine pcd func201 rfl rfl ?_;simp only[go_sem];exact .refl _
def TQ(o:Order):PC prog 202 [.agg (bE o)] (int o.drop.place):=by refine pcd func202 rfl rfl ?_;simp only[go_sem];exact .refl _
def I9(x:Instance)(g:Nat)(q:Order->Int)(ms:List Int)(J:ML x.y5 ms)(I:ms.length<=1048576)(A:aE prog g=true)(E:∀o,PC prog g [.agg (bE o)] (int (q o))):
  PC prog 198 [.v (.func (.func g) #[] #[]),.rp [.sl (ms.map aP)] 0,.rp (aD x) 0] (boo (!(ms.any fun i=>decide (q (nK x.y5 i)>=0)))):=by
 refine pcd func198 rfl rfl ?_;simp only[go_sem];refine aL (Jo (p:=fun i=>decide (q (nK x.y5 i)>=0)) ms I (by rfl) (fun i F=>PZ x g q i (J i F) A E)) ?_;simp only[go_sem];exact .refl _
def aeJ(x:Instance)(ms:List Int):Bool:= !(ms.any fun i=>decide ((nK x.y5 i).pick.place>=0))|| !(ms.any fun i=>decide ((nK x.y5 i).drop.place>=0))
def Xd(x:Instance)(ms:List Int)(A:ML x.y5 ms)(E:ms.length<=1048576):PC prog 140 [.agg (aD x),.sl (ms.map aP)] (boo (aeJ x ms)):=by refine pcd func140 rfl rfl ?_;simp only[go_sem];refine aL (I9 x _ (fun o=>o.pick.place) ms A E (by rfl) UB) ?_;simp only[go_sem];refine⟨_,fun _=>(I9 x _ (fun o=>o.drop.place) ms A E (by rfl) TQ).q rfl,?_⟩;simp only[go_sem];exact .refl _
def Ac:List Int->List Int->Int->Int×Int
 | n::a,c::l,t=>if n<=0 then Ac a l t else if c=0 then(0,24)else Ac a l (fX t ((n+c-1).tdiv c))
 | _,_,t=>(t,0)
def Cz(a c:List Int):Int×Int:=if a.length≠c.length then(0,2)else if c.any (fun n=>decide (n<0))=true then(0,2)else Ac a c 0
def Mid(n:Int):Prop:= -1099511627776<=n/\n<=1099511627776
def akD(a c:List Int)(hl:a.length<=1048576)(ag:c.length<=1048576)(ha:∀n∈a,Mid n)(hc:∀n∈c,Mid n):
  PC prog 203 [.sl (a.map aP),.sl (c.map aP)] (.tup [int (Cz a c).1,int (Cz a c).2]):=by
 refine pcd func203 rfl rfl ?_;simp only[go_sem];refine aA (fun X=>?_) (fun X=>?_)
 ·have X:a.length≠c.length:=neN X;simp only[go_sem];rw[show Cz a c=(0,2)from if_pos X];exact .refl _
 have X:a.length=c.length:=eqN X;have e0:Cz a c=if c.any (fun n=>decide (n<0))=true then(0,2)else Ac a c 0:=if_neg (by omega)
 rw[e0];simp only[go_sem,Xac];refine⟨fun ρ H=>∃(k:Nat),k<=c.length/\ρ 0=.sl (a.map aP)/\ρ 1=.sl (c.map aP)/\ρ 17=.sl (c.map aP)/\ρ 18=int (c.length:Nat)/\ρ 19=int k/\(∀n∈c.take k,0<=n),fun ρ _=>c.length-aT (ρ 19),⟨0,Xaa _,rfl,rfl,rfl,rfl,(by rfl),by simp⟩,?_⟩;rintro ρ H ⟨k,hk,e0,U,aa,ab,T,hz⟩;simp only[go_sem,ab,T];refine aA (fun A=>?_) (fun E=>?_)
 ·have A:=ltB A;obtain⟨n,O⟩:=aK A;have b1:=inB A;simp only[go_sem,aa,T,aC O,b1];refine aA (fun Y=>?_) (fun Y=>?_)
  ·simp only[go_sem];rw[if_pos (FM O Y)];exact .refl _
  ·simp only[go_sem,e0,U,aa,ab,T,aQ k];exact⟨⟨k+1,A,rfl,dW O (by grind) hz⟩,by grind[aJ]⟩
 have E:=geB hk E;subst E;rw[Xad]at hz;rw[if_neg (by grind)];simp only[go_sem,e0,Xac];refine⟨fun ρ H=>∃(k:Nat) (t:Int),k<=a.length/\ρ 1=.sl (c.map aP)/\ρ 26=.sl (a.map aP)/\ρ 27=int (a.length:Nat)/\ρ 28=int k/\ρ 8=int t/\Ac a c 0=Ac (a.drop k) (c.drop k) t,fun ρ _=>a.length-aT (ρ 28),⟨0,0,Xaa _,by simp only[go_sem,U,],by rfl,by rfl,(by rfl),rfl,rfl⟩,?_⟩;rintro ρ H ⟨k,t,hk,U,J,I,F,e8,Z⟩;simp only[go_sem,I,F];refine aA (fun A=>?_) (fun E=>?_)
 ·have A:=ltB A;obtain⟨n,O⟩:=aK A;obtain⟨m,hm⟩:=aK (l:=c) (k:=k) (by omega);have b1:=inB A;have b2:=inB (show k<c.length by omega);have ac:=ha n (Xab O);have ae:=hc m (Xab hm);have af:=hz m (Xab hm);unfold Mid at ac ae;rw[JI O,JI hm,Ac]at Z;simp only[go_sem,U,J,F,aC O,aC hm,b1,b2];refine aA (fun Y=>?_) (fun Y=>?_)
  ·rw[if_pos (by grind)]at Z;simp only[go_sem,U,J,I,F,e8,aQ k]
   grind[aJ]
  have Y:¬n<=0:=by grind
  rw[if_neg Y]at Z;simp only[go_sem,];refine aA (fun h0=>?_) (fun h0=>?_)
  ·rw[if_pos (by grind)]at Z;rw[Z];simp only[go_sem];exact .refl _
  have h0:m≠0:=by grind
  rw[if_neg h0]at Z;have w1:IntKind.i64.wrap (n+m)=n+m:=aW (by omega);have w2:IntKind.i64.wrap (n+m-1)=n+m-1:=aW (by omega);have w3:IntKind.i64.wrap ((n+m-1).tdiv m)=(n+m-1).tdiv m:=aW (by have h1:=Int.tdiv_nonneg (a:=n+m-1) (b:=m) (by omega) (by omega);have h2:=Int.tdiv_le_self m (a:=n+m-1) (by omega);omega);simp only[go_sem,U,J,I,F,e8,w1,w2,w3,aQ k]
  grind[aJ]
 ·have E:=geB hk E;subst E;have ea:a.drop a.length=[]:=Xbr;have:Ac a c 0=(t,0):=by grind[Ac]
  rw[this];simp only[go_sem,e8];exact .refl _
def Co(l:List Order)(dim:Nat)(i:Int):Int:=(nK l i).load.getD dim 0
def fY(l:List Order)(ms:List Int)(dim:Nat):Int:=(ms.map (Co l dim)).sum
def lQ(l:List VType)(dim:Nat):Int:=l.foldl (fun c t=>fX c (t.cap.getD dim 0)) 0
def zK(x:Instance)(ms:List Int)(dim:Nat):Int:=if(Cz [fY x.y5 ms dim] [lQ x.types dim]).2≠0 then 0 else(Cz [fY x.y5 ms dim] [lQ x.types dim]).1
structure LoadsOk(x:Instance)(d:Nat):Prop where
 dims:d<=3
 y5:x.y5.length<=62
 types:x.types.length<=1048576
 load:∀o∈x.y5,o.load.length=d/\∀n∈o.load,0<=n/\n<=1000
 cap:∀t∈x.types,t.cap.length=d/\∀n∈t.cap,0<=n/\n<=1000
def Hs{x:Instance}{d dim:Nat}(h:LoadsOk x d)(I:dim<d){i:Int}(E:0<=i/\i<(x.y5.length:Int)):0<=Co x.y5 dim i/\Co x.y5 dim i<=1000:=by obtain⟨n,rfl⟩:=Int.eq_ofNat_of_zero_le E.1;obtain⟨o,A⟩:=aK (show n<x.y5.length by omega);unfold Co;rw[iQ A];obtain⟨h1,F⟩:=h.load o (Xab A);simp_all
theorem tN{x:Instance}{d dim:Nat}(h:LoadsOk x d)(A:dim<d):∀{ms:List Int},ML x.y5 ms->0<=fY x.y5 ms dim/\fY x.y5 ms dim<=1000*ms.length
 | [],_=>by simp[fY]
 | i::ms,hm=>by
  have h1:=Hs h A (hm i (by simp));have E:=tN h A (ms:=ms) fun j F=>hm j (by grind)
  grind[fY]
def Q9(l:List Order)(ms:List Int)(i:Int)(dim:Nat):fY l (ms++[i]) dim=fY l ms dim+Co l dim i:=by simp[fY]
def C6(l:List VType)(t:VType)(dim:Nat):lQ (l++[t]) dim=fX (lQ l dim) (t.cap.getD dim 0):=by simp[lQ]
def axU{a b c:Int}(h1:0<=a/\a<=c)(A:0<=b/\b<=c):0<=fX a b/\fX a b<=c:=by grind[fX]
def D5{x:Instance}{d dim:Nat}(h:LoadsOk x d)(I:dim<d):∀k,0<=lQ (x.types.take k) dim/\lQ (x.types.take k) dim<=1000
 | 0=>by simp[lQ]
 | k+1=>by
  have ih:=D5 h I k;rcases Xbd k x.types.length with E|E
  ·obtain⟨t,F⟩:=aK E;rw[aY F,C6];obtain⟨h1,J⟩:=h.cap t (Xab F);obtain⟨v,A⟩:=aK (show dim<t.cap.length by omega);refine axU ih ?_;rw[List.getD,A];exact J v (Xab A)
  grind[Xai]
def axD(x:Instance)(ms:List Int)(dim d:Nat)(h:LoadsOk x d)(hd:dim<d)(hm:ML x.y5 ms)(hl:ms.length<=63):
  PC prog 141 [.agg (aD x),.sl (ms.map aP),int dim] (int (zK x ms dim)):=by
 have aj:=h.y5;have ak:=h.types;refine pcd func141 rfl rfl ?_;simp only[go_sem];refine⟨fun ρ H=>∃(k:Nat),k<=ms.length/\ρ 2=int dim/\ρ 3=.rp (aD x) 0/\ρ 8=int 0/\ρ 15=.sl (ms.map aP)/\ρ 16=int (ms.length:Nat)/\ρ 17=int k/\ρ 7=int (fY x.y5 (ms.take k) dim),fun ρ _=>ms.length-aT (ρ 17),⟨0,Xaa _,rfl,rfl,rfl,rfl,rfl,(by rfl),by rfl⟩,?_⟩;rintro ρ H ⟨k,hk,X,e3,J,ai,U,aa,I⟩;simp only[go_sem,U,aa];refine aA (fun A=>?_) (fun E=>?_)
 ·have A:=ltB A;obtain⟨i,hi⟩:=aK A;have b1:=inB A;have ab:=hm i (Xab hi);have aq:=Hs h hd ab;have an:=tN h hd (ms:=ms.take k) fun j hj=>hm j (List.mem_of_mem_take hj)
  have af:=Q9 x.y5 (ms.take k) i dim;rw[<-aY hi]at af;obtain⟨n,rfl⟩:=Int.eq_ofNat_of_zero_le ab.1;have hn:n<x.y5.length:=by omega
  obtain⟨o,Z⟩:=aK hn;obtain⟨am,ap⟩:=h.load o (Xab Z);obtain⟨v,hv⟩:=aK (show dim<o.load.length by omega);have ao:Co x.y5 dim (n:Int)=v:=by grind[Co,iQ]
  have b2:=inB hn;have b3:=inB (show dim<o.load.length by omega);have al:(ms.take k).length<=63:=by grind
  have w1:IntKind.i64.wrap (fY x.y5 (ms.take k) dim+v)=fY x.y5 (ms.take (k+1)) dim:=by grind[aW]
  simp only[go_sem,X,e3,J,ai,U,aa,I,aC hi,b1,aC Z,b2,aC hv,b3,w1,aQ k];exact⟨⟨k+1,A,rfl,rfl⟩,by grind[aJ]⟩
 have E:=geB hk E;subst E;rw[Xad]at I;simp only[go_sem,e3,Xac];refine⟨fun ρ H=>∃(k:Nat),k<=x.types.length/\ρ 2=int dim/\ρ 7=int (fY x.y5 ms dim)/\ρ 34=.sl (x.types.map bI)/\ρ 35=int (x.types.length:Nat)/\ρ 36=int k/\ρ 8=int (lQ (x.types.take k) dim),fun ρ _=>x.types.length-aT (ρ 36),⟨0,Xaa _,by simp only[go_sem,X,],I,by rfl,by rfl,(by rfl),by simp only[go_sem,J];rfl⟩,?_⟩;rintro ρ H ⟨k,hk,X,I,O,Y,F,J⟩;simp only[go_sem,Y,F];refine aA (fun A=>?_) (fun E=>?_)
 ·have A:=ltB A;obtain⟨t,ht⟩:=aK A;have b1:=inB A;obtain⟨h1,h2⟩:=h.cap t (Xab ht);obtain⟨v,hv⟩:=aK (show dim<t.cap.length by omega);have b3:=inB (show dim<t.cap.length by omega);simp only[go_sem,O,F,aC ht,b1];refine aH fun j ac=>?_
  simp only[go_sem,];refine bW ac (by simp[kD]) fun ae (R:ae j=some (lJ t)) N=>?_
  simp only[go_sem,X,J,R];simp only[go_sem,X,I,O,Y,F,aC hv,b3,aQ k];refine⟨⟨k+1,A,rfl,?_⟩,by grind[aJ]⟩;simp_all[aY,C6]
 have E:=geB hk E;subst E;rw[Xad]at J;have hL:=tN h hd hm;have hC:=D5 h hd x.types.length;rw[Xad]at hC;simp only[go_sem,I,J];have ah:∀n∈[fY x.y5 ms dim],Mid n:=fun n hn=>by grind[Mid]
 have ag:∀n∈[lQ x.types dim],Mid n:=fun n hn=>by grind[Mid]
 refine aL (akD [fY x.y5 ms dim] [lQ x.types dim] (by simp) (by simp) ah ag) ?_;unfold zK;generalize Cz [fY x.y5 ms dim] [lQ x.types dim]=T;simp only[go_sem];refine aA (fun hb=>?_) (fun hb=>?_)
 ·simp only[go_sem];rw[if_pos (by grind)];exact .refl _
 ·simp only[go_sem];rw[if_neg (by grind)];exact .refl _
theorem Bx{n:Nat}{set:Int}(h:vD n set=true):∃s:Nat,set=(s:Int)/\s<2^n:=by
 unfold vD at h;simp only[Xak,decide_eq_true_eq,Xau]at h;obtain⟨s,rfl⟩:=Int.eq_ofNat_of_zero_le h.1;refine⟨s,rfl,?_⟩;have E:((2:Int)^n)=((2^n:Nat):Int):=by rfl
 have A:=h.2;rw[E]at A;have F:s/2^n=0:=by exact_mod_cast A
 exact(Nat.div_eq_zero_iff_lt (Nat.two_pow_pos n)).1 F
def OG{n s:Nat}:vD n (s:Int)=decide (s<2^n):=by
 unfold vD;have A:((2:Int)^n)=((2^n:Nat):Int):=by rfl
 rw[A,Xaz];simp only[Xak,decide_eq_true_eq,Xau];constructor
 ·rintro⟨_,h⟩;have E:s/2^n=0:=by exact_mod_cast h
  simp_all
 grind[Nat.div_eq_of_lt]
def JG{s n:Nat}(h:s<2^n)(A:n<=62):∀i∈dA (s:Int),0<=i/\i<(n:Int):=by grind[dA,rL,jW,Xca,Xax,Xah]
def Ea(x:Instance)(ms:List Int)(k:Nat):Int:=(List.range k).foldl (fun n dim=>fX n (zK x ms dim)) 1
theorem Hw(x:Instance)(ms:List Int)(k:Nat):Ea x ms (k+1)=fX (Ea x ms k) (zK x ms k):=by grind[Ea,Xas]
def IS(x:Instance)(set:Int):Bool:=decide (set<=0)|| !vD x.y5.length set|| !decide (set.toNat &&& AQ x=set.toNat)
def Dc(x:Instance)(d:Nat)(set:Int):Int:=if IS x set=true then 0 else if aeJ x (dA set)=false then 1 else Ea x (dA set) d
def CO(q:Order->Bool)(l:List Order):Ot q l<2^l.length:=FO _ _
def anA(x:Instance)(d:Nat)(set:Int)(h:LoadsOk x d)(ht:x.types≠[]):PC prog 80 [.agg (aD x),int set] (int (Dc x d set)):=by
 have A:=h.y5;have ac:=h.dims;have ae:AQ x<2^x.y5.length:=CO _ _;have aa:2^x.y5.length<=2^62:=Xah (by decide) A;refine pcd func80 rfl rfl ?_;simp only[go_sem];refine⟨_,fun _=>(QK x set A).q rfl,?_⟩;simp only[go_sem];refine⟨_,fun _=>(apP x A).q rfl,?_⟩;simp only[go_sem];refine⟨boo (decide (set.toNat &&& AQ x=set.toNat)),fun hg=>?_,?_⟩
 ·simp at hg;obtain⟨s,rfl,hs⟩:=Bx hg.2;exact(afT s (AQ x) (by omega) (by omega)).q rfl
 simp only[go_sem];apply aA <;> intro hb
 ·simp only[go_sem];rw[show Dc x d set=0 from if_pos hb];exact .refl _
 have e0:Dc x d set=if aeJ x (dA set)=false then 1 else Ea x (dA set) d:=if_neg (by grind[IS])
 rw[e0];obtain⟨s,rfl,hs⟩:=Bx (n:=x.y5.length) (set:=set) (by grind);have Z:ML x.y5 (dA (s:Int)):=JG hs A;have T:(dA (s:Int)).length<=63:=oR _ _;simp only[go_sem];refine aL (mN s) ?_;simp only[go_sem];refine aL (Xd x (dA s) Z (by omega)) ?_;simp only[go_sem];obtain⟨t,r,ab⟩:=List.exists_cons_of_ne_nil ht;have F:((x.types.length:Int) == 0)=false:=by grind
 simp only[go_sem,F];apply aA <;> intro hb
 ·simp only[go_sem];rw[if_pos (by grind)];exact .refl _
 rw[if_neg (by grind)];have b1:=inB (show 0<x.types.length by grind);have O:x.types[0]?=some t:=by grind
 have X:=aC (f:=bI) O;have hd:=(h.cap t (by grind)).1;subst hd;simp only[go_sem,Xac,X];refine⟨by omega,?_⟩;refine⟨fun ρ H=>∃(k:Nat),k<=t.cap.length/\ρ 2=.rp (aD x) 0/\ρ 6=.sl ((dA s).map aP)/\ρ 41=int (t.cap.length:Nat)/\ρ 42=int k/\ρ 5=int (Ea x (dA s) k),fun ρ _=>t.cap.length-aT (ρ 42),⟨0,Xaa _,rfl,rfl,rfl,(by rfl),by rfl⟩,?_⟩;rintro ρ H ⟨k,hk,e2,e6,J,E,Y⟩;simp only[go_sem,J,E];refine jI hk (fun I=>?_) (fun U=>?_)
 ·simp only[go_sem,e2,e6,E,Y];refine aL (axD x (dA s) k _ h I Z T) ?_;simp only[go_sem,e2,e6,J,E,aQ k];exact⟨⟨k+1,I,rfl,by rw[Hw]⟩,by grind[aJ]⟩
 ·subst U;simp only[go_sem,Y];exact .refl _
def jS(x:Instance)(d:Nat)(one:Cut):Int:=
 if one.kind=1 then(if(!vD x.y5.length one.set|| !((xX 63 one.set.toNat:Nat):Int) == 3)=true then 2 else if one.n≠1 then 27 else 0)
 else if one.kind=2 then(if(!vD x.y5.length one.set||one.set == 0)=true then 2 else if(decide (one.n<1)||decide (one.n>Dc x d one.set))=true then 27 else 0)
 else 8
def VN(x:Instance)(d:Nat)(A:Cut)(h:LoadsOk x d)(O:x.types≠[]):PC prog 34 [.agg (aD x),.agg (dD A)] (int (jS x d A)):=by
 have E:=h.y5;refine pcd func34 rfl rfl ?_;simp only[go_sem];unfold jS;apply aA <;> intro h1
 ·rw[if_pos (by grind)];simp only[go_sem];refine aL (QK x A.set E) ?_;simp only[go_sem];refine⟨int (xX 63 A.set.toNat:Nat),fun I=>?_,?_⟩
  ·simp at I;obtain⟨s,J,_⟩:=Bx I;rw[J];exact(amR s).q rfl
  simp only[go_sem];apply aA <;> intro F
  ·rw[if_pos (by exact F)];simp only[go_sem];exact .refl _
  rw[if_neg (by grind)];simp only[go_sem];apply aA <;> intro F
  ·rw[if_pos (by grind)];simp only[go_sem];exact .refl _
  ·rw[if_neg (by grind)];simp only[go_sem];exact .refl _
 rw[if_neg (by grind)];simp only[go_sem];apply aA <;> intro T
 ·rw[if_pos (by grind)];simp only[go_sem];refine aL (QK x A.set E) ?_;simp only[go_sem];apply aA <;> intro F
  ·rw[if_pos (by exact F)];simp only[go_sem];exact .refl _
  rw[if_neg (by grind)];simp only[go_sem];refine dC ?_;simp only[go_sem];refine⟨_,fun _=>(anA x d A.set h O).q rfl,?_⟩;simp only[go_sem];apply aA <;> intro F
  ·rw[if_pos (by exact F)];simp only[go_sem];exact .refl _
  ·rw[if_neg (by grind)];simp only[go_sem];exact .refl _
 ·rw[if_neg (by grind)];simp only[go_sem];exact .refl _
def Ed(one:Cut):Int×Int:=if one.kind=1 then(1,1)else if one.kind=2 then(3,one.n)else(0,0)
def aBV(A:Cut):PC prog 143 [.agg (dD A)] (.tup [int (Ed A).1,int (Ed A).2]):=by
 refine pcd func143 rfl rfl ?_;simp only[go_sem];unfold Ed;refine aA (fun h1=>?_) (fun h1=>?_)
 ·rw[if_pos (by grind)];simp only[go_sem];exact .refl _
 rw[if_neg (by grind)];simp only[go_sem];refine aA (fun E=>?_) (fun E=>?_)
 ·rw[if_pos (by grind)];simp only[go_sem];refine jD (by rfl) (by kernel_rfl) ?_;simp only[go_sem];exact .refl _
 ·rw[if_neg (by grind)];simp only[go_sem];exact .refl _
def auZ(A:Cut):PC prog 109 [.agg (dD A)] (.tup [int (Ed A).1,int (Ed A).2]):=by
 refine pcd func109 rfl rfl ?_;simp only[go_sem];unfold Ed;apply aA <;> intro h1
 ·rw[if_pos (by grind)];simp only[go_sem];exact .refl _
 rw[if_neg (by grind)];simp only[go_sem];apply aA <;> intro E
 ·rw[if_pos (by grind)];simp only[go_sem];refine dC ?_;simp only[go_sem];exact .refl _
 ·rw[if_neg (by grind)];simp only[go_sem];exact .refl _
def fO(l:List Int):List AV:=[.sl (l.map aP)]
def kB(ll:List (List Int))(d:Int):Bool:= !(decide (d<0)||decide (d>3))&&ll.all fun l=> !((l.length:Int) != d)
def Kc(ll:List (List Int))(d:Int)(Y:ll.length<=1048576):PC prog 290 [.sl (ll.map fO),int d] (boo (kB ll d)):=by
 refine pcd func290 rfl rfl ?_;simp only[go_sem];apply aA <;> intro I
 ·simp only[go_sem]
  grind[cB,kB]
 have T:kB ll d=ll.all fun l=> !((l.length:Int) != d):=by grind[kB]
 rw[T];simp only[go_sem];refine⟨fun ρ _=>∃k:Nat,k<=ll.length/\ρ 0=.sl (ll.map fO)/\ρ 1=int d/\ρ 5=int k/\∀l∈ll.take k,((l.length:Int) != d)=false,fun ρ _=>ll.length-aT (ρ 5),⟨0,Xaa _,rfl,rfl,rfl,by simp⟩,?_⟩;rintro ρ H ⟨k,X,h0,h1,F,O⟩;simp only[go_sem,h0,F];refine jI X (fun A=>?_) (fun E=>?_)
 ·obtain⟨u,J⟩:=aK A;have U:=inB A;simp only[go_sem,h0,h1,F,aC J,U,fO];refine aA (fun I=>?_) (fun I=>?_)
  ·simp only[go_sem]
   grind[cB]
  ·simp only[go_sem,h0,h1,F,aQ k];exact⟨⟨k+1,A,rfl,dW (p:=fun l:List Int=>((l.length:Int) != d)=false) J I O⟩,by grind[aJ]⟩
 ·subst E;rw[Xad]at O;simp only[go_sem]
  grind[cB]
def lW(ll:List (List Int))(i:Nat):Int:=ll.foldl (fun s l=>IntKind.i64.wrap (s+l.getD i 0)) 0
def A1{ll:List (List Int)}{k i:Nat}{l:List Int}(h:ll[k]?=some l):lW (ll.take (k+1)) i=IntKind.i64.wrap (lW (ll.take k) i+l.getD i 0):=by simp_all[lW,aY]
def xK(ll:List (List Int))(d:Int):List Int×Int:=if kB ll d=true then((List.range d.toNat).map (lW ll),0)else([],2)
def DU{ll:List (List Int)}{d:Int}(h:kB ll d=true):0<=d/\d<=3/\∀l∈ll,(l.length:Int)=d:=by simp_all[kB]
def ayB(ll:List (List Int))(d:Int)(hl:ll.length<=1048576):PC prog 228 [.sl (ll.map fO),int d] (.tup [.sl ((xK ll d).1.map aP),int (xK ll d).2]):=by
 refine pcb (fun t=>t == 6) func228 rfl rfl ?_;simp only[go_sem];refine aL (Kc ll d hl) ?_;simp only[go_sem];apply aA <;> intro hb
 ·simp only[go_sem];have:xK ll d=([],2):=by simp_all[xK]
  rw[this];exact .refl _
 have Z:kB ll d=true:=by grind
 obtain⟨d0,d3,hd⟩:=DU Z;have hs:xK ll d=((List.range d.toNat).map (lW ll),0):=by simp_all[xK]
 rw[hs];simp only[go_sem];refine aH fun j F=>?_
 simp only[go_sem];refine⟨fun ρ H=>∃i:Nat,i<=d.toNat/\ρ 0=.sl (ll.map fO)/\ρ 1=int d/\ρ 7=int i/\∃j,ρ 6=.os j/\H j=some (⟨3,1,((List.range i).map (lW ll)).map aP⟩:Row),fun ρ _=>d.toNat-aT (ρ 7),⟨0,Xaa _,rfl,rfl,rfl,j,rfl,aB _ _ _⟩,?_⟩;rintro ρ H ⟨i,hi,h0,h1,I,j,T,F⟩;simp only[go_sem,h1,I];refine aA (fun E=>?_) (fun O=>?_)
 ·have E:i<d.toNat:=by grind
  simp only[go_sem];refine⟨fun ρ H=>∃k:Nat,k<=ll.length/\ρ 0=.sl (ll.map fO)/\ρ 1=int d/\ρ 6=.os j/\ρ 7=int i/\ρ 8=int (lW (ll.take k) i)/\ρ 9=int k/\H j=some (⟨3,1,((List.range i).map (lW ll)).map aP⟩:Row),fun ρ _=>ll.length-aT (ρ 9),⟨0,Xaa _,h0,h1,T,I,by rfl,by rfl,F⟩,?_⟩;rintro ρ H ⟨k,hk,h0,h1,T,I,U,h9,F⟩;simp only[go_sem,h0,h9];refine jI hk (fun A=>?_) (fun J=>?_)
  ·obtain⟨u,X⟩:=aK A;have b1:=inB A;have aa:=hd u (Xab X);obtain⟨v,hv⟩:=aK (show i<u.length by omega);have b2:=inB (show i<u.length by omega);have Y:u.getD i 0=v:=by grind
   simp only[go_sem,h0,h1,T,I,U,h9,aC X,b1,fO,aC hv,b2,aQ k];refine⟨⟨k+1,A,by rw[A1 X,Y],rfl,F⟩,by grind[aJ]⟩
  ·subst J;rw[Xad]at U;simp only[go_sem,T,U];refine aU F ⟨rfl,rfl⟩ ⟨rfl,trivial⟩ (by grind) (fun j' ab=>?_);simp only[go_sem,h0,h1,I,aQ i];refine⟨⟨i+1,E,rfl,j',rfl,?_⟩,msr E⟩;rw[Xas,Xaq,Xaq];exact aB _ _ _
 ·have O:i=d.toNat:=by grind
  subst O;simp only[go_sem,T];exact .tup _ _ (.cons _ _ _ _ (.row _ _ _ F (ConvE.refl _)) (ConvL.refl _))
def aAV(i:Nat)(U:i<=62):PC prog 227 [int i] (int (2^i:Nat)):=by
 refine pcd func227 rfl rfl ?_;simp only[go_sem];refine⟨fun ρ H=>∃(k:Nat),k<=i/\ρ 0=int i/\ρ 4=int k/\ρ 3=int (2^k:Nat),fun ρ _=>i-aT (ρ 4),⟨0,Xaa _,rfl,(by rfl),by rfl⟩,?_⟩;rintro ρ H ⟨k,O,I,F,E⟩;simp only[go_sem,I,F];refine jI O (fun J=>?_) (fun A=>?_)
 ·have T:(2:Nat)^(k+1)<=2^62:=Xah (by decide) (by omega);have X:(2:Nat)^(k+1)=2*2^k:=by omega
  have w1:IntKind.i64.wrap (2*((2^k:Nat):Int))=((2^(k+1):Nat):Int):=by grind[aW]
  simp only[go_sem,I,F,E,w1,aQ k]
  grind[aJ]
 ·subst A;simp only[go_sem,E];exact .refl _
def aAQ(s:Nat)(i:Int)(F:s<2^63):PC prog 160 [int s,int i] (boo (dI s i)):=by
 refine pcd func160 rfl rfl ?_;simp only[go_sem];refine⟨int (2^i.toNat:Nat),fun A=>?_,?_⟩
 ·simp at A;obtain⟨n,rfl⟩:=Int.eq_ofNat_of_zero_le A.1;exact(aAV n (by omega)).q rfl
 have E:0<2^i.toNat:=Nat.two_pow_pos _;have w1:IntKind.i64.wrap ((s:Int).tdiv ((2^i.toNat:Nat):Int))=((s/2^i.toNat:Nat):Int):=by
  have:s/2^i.toNat<=s:=Xbv _ _
  grind[aW]
 simp only[go_sem,w1]
 grind[cB,dI]
def EQ(s:Nat)(J:s<2^63):PC prog 102 [int s] (.sl ((dA s).map aP)):=by
 refine pcb (fun t=>t == 3) func102 rfl rfl ?_;simp only[go_sem];refine aH fun j U=>?_
 simp only[go_sem];refine⟨fun ρ H=>∃k:Nat,k<=63/\ρ 0=int s/\ρ 4=int k/\∃j,ρ 3=.os j/\H j=some (rW (rL s k)),fun ρ _=>63-aT (ρ 4),⟨0,Xaa _,rfl,by rfl,j,rfl,aB _ _ _⟩,?_⟩;rintro ρ H ⟨k,X,h0,F,j,I,R⟩;simp only[go_sem,F];refine aA (fun A=>?_) (fun E=>?_)
 ·have A:k<63:=by grind
  simp only[go_sem,h0,F];refine aL (aAQ s k J) ?_;simp only[go_sem];apply aA <;> intro T
  ·simp only[go_sem,F,I];refine aU R ⟨rfl,rfl⟩ ⟨rfl,trivial⟩ (by grind[oR,rW]) (fun j' O=>?_);simp only[go_sem,h0,F,aQ k];refine⟨⟨k+1,A,rfl,j',rfl,?_⟩,msr A⟩;rw[pC,if_pos T,aB];simp only[rW,Xaq,Xav,Xbn];rfl
  ·simp only[go_sem,h0,F,I,aQ k];refine⟨⟨k+1,A,rfl,j,rfl,?_⟩,msr A⟩;simp_all[pC]
 ·have E:k=63:=by grind
  subst E;simp only[go_sem,I];exact .row _ _ _ R (ConvE.refl _)
def XS(l:List Order)(i:Int):Bool:=decide (i>=(l.length:Int))||(nK l i).off|| !((nK l i).η == -1)
def GM(l:List Order)(ms:List Int):Bool:= !ms.any (XS l)&&decide (0<ms.length)
def ajO(x:Instance)(ms:List Int)(hm:∀i∈ms,0<=i)(hl:ms.length<=1048576):PC prog 161 [.agg (aD x),.sl (ms.map aP)] (boo (GM x.y5 ms)):=by
 refine pcd func161 rfl rfl ?_;simp only[go_sem];refine⟨fun ρ H=>∃(k:Nat),k<=ms.length/\ρ 1=.sl (ms.map aP)/\ρ 2=.rp (aD x) 0/\ρ 5=int k/\(∀i∈ms.take k,XS x.y5 i=false),fun ρ _=>ms.length-aT (ρ 5),⟨0,Xaa _,rfl,rfl,(by rfl),by simp⟩,?_⟩;rintro ρ H ⟨k,hk,F,T,J,hz⟩;simp only[go_sem,F,J];refine jI hk (fun A=>?_) (fun X=>?_)
 ·obtain⟨i,I⟩:=aK A;have O:=inB A;have U:=hm i (Xab I);obtain⟨n,rfl⟩:=Int.eq_ofNat_of_zero_le U;have hg:n<x.y5.length->(x.y5.map bE).getD n []=bE (nK x.y5 n):=fun h=>by grind[iQ]
  by_cases hn:n<x.y5.length
  ·have b2:=inB hn;simp only[go_sem,O];refine jD (by rfl) (by kernel_rfl) ?_;simp only[go_sem,F,T,J,aC I,O,hg hn,b2];refine aA (fun E=>?_) (fun E=>?_)
   ·simp only[go_sem];refine cB ?_;unfold GM;rw[FM I E];rfl
   ·simp only[go_sem,F,T,J,aQ k];exact⟨⟨k+1,A,rfl,dW (p:=fun i=>XS x.y5 i=false) I E hz⟩,by grind[aJ]⟩
  ·have Y:decide ((n:Int)>=(x.y5.length:Int))=true:=by grind
   have aa:XS x.y5 (n:Int)=true:=by grind[XS]
   simp only[go_sem,O];refine jD (by rfl) (by kernel_rfl) ?_;have Z:(x.y5.map bE).getD n []=[]:=by grind
   have ab:∀b:Bool,yN true (boo b) .any=boo b:=fun b=>by cases b <;> rfl
   simp only[go_sem,F,T,J,aC I,O,Y,Z,List.getD_nil];refine aA (fun E=>?_) (fun E=>by cases E);simp only[go_sem]
   grind[cB,GM]
 ·subst X;rw[Xad]at hz;simp only[go_sem,F,Xac];refine cB ?_;unfold GM
  grind
def adC(x:Instance)(ms:List Int)(hm:ML x.y5 ms)(hl:ms.length<=1048576):PC prog 162 [.agg (aD x),.sl (ms.map aP)] (boo (aeJ x ms)):=by
 refine pcd func162 rfl rfl ?_;simp only[go_sem];unfold aeJ;generalize hp:(fun i=>decide ((nK x.y5 i).pick.place>=0))=p;generalize hq:(fun i=>decide ((nK x.y5 i).drop.place>=0))=q;refine⟨fun ρ H=>∃(k:Nat),k<=ms.length/\ρ 1=.sl (ms.map aP)/\ρ 2=.rp (aD x) 0/\ρ 7=int k/\ρ 5=boo ((ms.take k).any p)/\ρ 6=boo ((ms.take k).any q),fun ρ _=>ms.length-aT (ρ 7),⟨0,Xaa _,rfl,rfl,(by rfl),by rfl,by rfl⟩,?_⟩;rintro ρ H ⟨k,hk,J,Y,I,E,U⟩;simp only[go_sem,J,I,];refine jI hk (fun A=>?_) (fun O=>?_)
 ·obtain⟨i,T⟩:=aK A;have F:=inB A;have X:=hm i (Xab T);obtain⟨n,rfl⟩:=Int.eq_ofNat_of_zero_le X.1;have hn:n<x.y5.length:=by omega
  obtain⟨o,ho⟩:=aK hn;have Z:=inB hn;have aa:p (n:Int)=decide (o.pick.place>=0):=by grind[iQ]
  have ab:q (n:Int)=decide (o.drop.place>=0):=by grind[iQ]
  simp only[go_sem,F];refine jD (by rfl) (by kernel_rfl) ?_;simp only[go_sem,J,Y,I,E,aC T,F,aC ho,Z];refine jD (by rfl) (by kernel_rfl) ?_;simp only[go_sem,J,Y,I,U,aC T,F,aC ho,Z,aQ k];refine⟨⟨k+1,A,rfl,?_,?_⟩,by grind[aJ]⟩
  all_goals simp_all[aY]
 ·subst O;rw[Xad]at E U;simp only[go_sem,E,U];exact .refl _
def YA(x:Instance)(d dim:Nat)(h:LoadsOk x d)(hd:dim<d):PC prog 164 [.agg (aD x),int dim] (int (lQ x.types dim)):=by
 have Y:=h.types;refine pcd func164 rfl rfl ?_;simp only[go_sem];refine⟨fun ρ H=>∃(k:Nat),k<=x.types.length/\ρ 1=int dim/\ρ 2=.rp (aD x) 0/\ρ 6=int k/\ρ 5=int (lQ (x.types.take k) dim),fun ρ _=>x.types.length-aT (ρ 6),⟨0,Xaa _,rfl,rfl,(by rfl),by rfl⟩,?_⟩;rintro ρ H ⟨k,hk,J,F,I,E⟩;simp only[go_sem,F,I];refine jI hk (fun A=>?_) (fun O=>?_)
 ·obtain⟨t,T⟩:=aK A;have U:=inB A;obtain⟨h1,h2⟩:=h.cap t (Xab T);obtain⟨v,X⟩:=aK (show dim<t.cap.length by omega);have Z:=inB (show dim<t.cap.length by omega);have ab:lQ (x.types.take (k+1)) dim=fX (lQ (x.types.take k) dim) v:=by simp_all[aY,C6]
  have aa:decide ((dim:Int)<(t.cap.length:Int))=true:=by grind
  simp only[go_sem,J,F,I,E,aC T,U,aC X,Z];refine aA (fun hb=>?_) (fun hb=>?_)
  ·simp only[go_sem,J,F,I,aC T,U,aC X,Z,aQ k];refine⟨⟨k+1,A,rfl,?_⟩,by simp only[aJ];omega⟩;simp_all[fX]
  ·simp only[go_sem,J,F,I,E,aQ k];refine⟨⟨k+1,A,rfl,?_⟩,by simp only[aJ];omega⟩;simp_all[fX,if_neg]
 ·subst O;rw[Xad]at E;simp only[go_sem,E];exact .refl _
def kN(l:List Order)(ms:List Int):List (List Int):=ms.map fun i=>(nK l i).load
def Ka{ll:List (List Int)}{i:Nat}(h:∀l∈ll,0<=l.getD i 0/\l.getD i 0<=1000):∀k,k<=1048576->lW (ll.take k) i=((ll.take k).map fun l=>l.getD i 0).sum/\0<=lW (ll.take k) i/\lW (ll.take k) i<=1000*k
 | 0,_=>by simp[lW]
 | k+1,hk=>by
  have ih:=Ka h k (by omega);rcases Xbd k ll.length with A|F
  ·obtain⟨l,E⟩:=aK A;have:=h l (Xab E);have e:lW (ll.take (k+1)) i=lW (ll.take k) i+l.getD i 0:=by rw[A1 E,aW (by omega)]
   refine⟨?_,by omega,by omega⟩;simp_all[aY]
  grind[Xai]
def anO(x:Instance)(d:Nat)(s:Nat)(h:LoadsOk x d)(hs:s<2^x.y5.length):
  PC prog 163 [.sl (x.y5.map bE),int s,int d] (.tup [.sl (((List.range d).map fun dim=>fY x.y5 (dA s) dim).map aP),int 0]):=by
 have ai:=h.dims;have F:=h.y5;have hm:ML x.y5 (dA (s:Int)):=JG hs F;have ah:(dA (s:Int)).length<=63:=oR _ _;have ag:2^x.y5.length<=2^62:=Xah (by decide) F;refine pcb (fun t=>t == 9) func163 rfl rfl ?_;simp only[go_sem];refine⟨_,fun _=>(GT (d:Int) 0 3).q rfl,?_⟩;have ab:inR (d:Int) 0 3=true:=by grind[inR]
 have aa:decide ((s:Int)<0)=false:=by simp
 simp only[go_sem,ab,aa];refine aA (fun U=>by simp at U) (fun U=>?_);simp only[go_sem];refine aL (EQ s (by omega)) ?_;simp only[go_sem];refine aH fun j hj=>?_
 simp only[go_sem];refine⟨fun ρ H=>∃(k:Nat) (j:Nat),k<=(dA (s:Int)).length/\ρ 0=.sl (x.y5.map bE)/\ρ 2=int d/\ρ 8=.sl ((dA (s:Int)).map aP)/\ρ 10=int k/\ρ 9=.os j/\H j=some (⟨48,1,(kN x.y5 ((dA (s:Int)).take k)).map fO⟩:Row),fun ρ _=>(dA (s:Int)).length-aT (ρ 10),⟨0,j,Xaa _,by rfl,by rfl,by rfl,(by rfl),by rfl,aB _ _ _⟩,?_⟩;rintro ρ H ⟨k,j,hk,e0,e2,Z,E,e9,R⟩;simp only[go_sem,Z,E];refine jI hk (fun I=>?_) (fun ac=>?_)
 ·obtain⟨i,J⟩:=aK I;have b1:=inB I;have O:=hm i (Xab J);obtain⟨n,rfl⟩:=Int.eq_ofNat_of_zero_le O.1;have hn:n<x.y5.length:=by omega
  obtain⟨o,Y⟩:=aK hn;have b2:=inB hn;simp only[go_sem,e0,Z,E,aC J,b1];refine aA (fun U=>by simp at U;omega) (fun U=>?_);simp only[go_sem,e0,Z,E,e9,aC J,b1,aC Y,b2];refine aU R ⟨rfl,rfl⟩ ⟨rfl,trivial⟩ (by grind[kN]) (fun j' af=>?_);simp only[go_sem,e0,e2,Z,E,aQ k];refine⟨⟨k+1,j',I,rfl,rfl,?_⟩,by grind[aJ]⟩;simp_all[aB,kN,aY,iQ,fO]
 ·subst ac;rw[Xad]at R;simp only[go_sem,e2,e9];refine PC.useF [j] (.cons _ _ _ _ (.row _ _ _ (by simp only[Xbc,if_true];exact R) (ConvE.refl _)) (.cons _ _ _ _ (.refl _) .nil)) (ayB (kN x.y5 (dA (s:Int))) (d:Int) (by grind[kN])) ?_;have ae:kB (kN x.y5 (dA (s:Int))) (d:Int)=true:=by unfold kB;rw[Xak];refine⟨by grind,Xap.2 fun l T=>?_⟩;unfold kN at T;obtain⟨i,J,rfl⟩:=Xao.1 T;have O:=hm i J;obtain⟨n,rfl⟩:=Int.eq_ofNat_of_zero_le O.1;obtain⟨o,Y⟩:=aK (show n<x.y5.length by omega);rw[iQ Y,(h.load o (Xab Y)).1];simp
  have X:xK (kN x.y5 (dA (s:Int))) (d:Int)=((List.range d).map fun dim=>fY x.y5 (dA (s:Int)) dim,0):=by
   unfold xK;rw[if_pos ae,Xal]
   congr 1
   refine List.map_congr_left fun dim A=>?_
   have A:=Xan.1 A;have:=(Ka (ll:=kN x.y5 (dA (s:Int))) (i:=dim) (fun l T=>by unfold kN at T;obtain⟨i,J,rfl⟩:=Xao.1 T;exact Hs h A (hm i J)) (kN x.y5 (dA (s:Int))).length (by grind[kN])).1;rw[Xad]at this;rw[this];unfold kN fY Co;rw[List.map_map];rfl
  rw[X];simp only[go_sem];exact .refl _
theorem nQ{s:Nat}{i:Int}:i∈dA (s:Int)↔∃j:Nat,j<63/\s.testBit j=true/\i=(j:Int):=by grind[dA,rL,jW]
def acJ{s:Nat}(I:s<2^63):(0<(dA (s:Int)).length)↔0<s:=by
 constructor
 ·intro h;rcases Nat.eq_zero_or_pos s with rfl|h0
  ·obtain⟨i,F⟩:=List.exists_mem_of_length_pos h;obtain⟨j,_,J,_⟩:=nQ.1 F
   grind
  omega
 ·intro h;obtain⟨j,E⟩:=Nat.exists_testBit_of_ne_zero (x:=s) (by omega);have A:j<63:=by
   rcases Xbd j 63 with h1|h1
   ·exact h1
   ·rw[Xca (Xax I (Xah (by decide) h1))]at E;cases E
  exact List.length_pos_of_mem (nQ.2 ⟨j,A,E,rfl⟩)
def afY{x:Instance}{s:Nat}(X:x.y5.length<=62)(J:s<2^63)(h0:0<s):GM x.y5 (dA (s:Int))= !IS x (s:Int):=by
 unfold GM IS;rw[decide_eq_true ((acJ J).2 h0),Xbk,OG,Xal,show decide ((s:Int)<=0)=false by grind,Xbl];rw[Xaz];simp only[Xbp,Xam,Xbw,decide_eq_true_eq,Xba];have E:∀j:Nat,j<63->(XS x.y5 (j:Int)=false↔(AQ x).testBit j=true):=by grind[AQ,Ot,XS,qR,iQ,xM]
 have I:∀j,s.testBit j=true->j<63:=fun j F=>by
  rcases Xbd j 63 with h1|h1
  ·exact h1
  ·rw[Xca (Xax J (Xah (by decide) h1))]at F;cases F
 constructor
 ·intro h;have O:∀j,s.testBit j=true->(AQ x).testBit j=true:=fun j F=>(E j (I j F)).1 (by grind[nQ])
  have A:s &&& AQ x=s:=by apply Nat.eq_of_testBit_eq;simp_all
  refine⟨?_,A⟩;have U:AQ x<2^x.y5.length:=CO _ _
  grind[Nat.and_le_right]
 ·rintro⟨_,A⟩ i T;obtain⟨j,h1,Y,rfl⟩:=nQ.1 T
  grind
def I7{x:Instance}{d dim:Nat}{ms:List Int}(h:LoadsOk x d)(I:dim<d)(T:ML x.y5 ms):
  0<=zK x ms dim/\(lQ x.types dim<1->zK x ms dim=0)/\(1<=lQ x.types dim->∀n:Int,0<=n->(zK x ms dim<=n↔fY x.y5 ms dim<=n*lQ x.types dim))/\zK x ms dim<=fY x.y5 ms dim:=by
 have X:=(tN h I T).1;have O:=(D5 h I x.types.length).1;rw[Xad]at O;unfold zK Cz;generalize fY x.y5 ms dim=L at *;generalize lQ x.types dim=C at *;have A:([C].any fun n=>decide (n<0))=false:=by grind
 simp only[Xag,List.length_nil,ne_eq,not_true,if_false,A,Xbe,Ac];by_cases h0:L<=0
 ·have:L=0:=by omega
  simp_all[Int.mul_nonneg]
 ·rw[if_neg h0];by_cases J:C=0
  ·grind
  ·rw[if_neg J];have U:fX 0 ((L+C-1).tdiv C)=(L+C-1)/C:=by
    have h1:(L+C-1).tdiv C=(L+C-1)/C:=Xce (by omega);have F:0<=(L+C-1)/C:=Int.ediv_nonneg (by omega) (by omega)
    grind[fX]
   simp only[U,not_true,if_false];have F:0<=(L+C-1)/C:=Int.ediv_nonneg (by omega) (by omega);refine⟨F,fun h=>by omega,fun h1 n Y=>?_,?_⟩
   ·have E:(L+C-1)/C<=n↔(L+C-1)/C<n+1:=by omega
    rw[E,Int.ediv_lt_iff_lt_mul (by omega),Int.add_mul,Int.one_mul];omega
   ·have E:(L+C-1)/C<=L↔(L+C-1)/C<L+1:=by omega
    rw[E,Int.ediv_lt_iff_lt_mul (by omega),Int.add_mul,Int.one_mul];have:L*1<=L*C:=Int.mul_le_mul_of_nonneg_left (by omega) (by omega);omega
def QW{x:Instance}{d:Nat}{ms:List Int}(h:LoadsOk x d)(A:ML x.y5 ms)(E:ms.length<=63):∀k,k<=d->1<=Ea x ms k/\Ea x ms k<=63001
 | 0,_=>by simp[Ea]
 | k+1,hk=>by
  have ih:=QW h A E k (by omega);have h1:=I7 h (dim:=k) (by omega) A
  grind[tN,Hw,fX]
def aiP(x:Instance)(d:Nat)(set:Int)(h:LoadsOk x d)(ht:x.types≠[])(ao:set<9223372036854775808):PC prog 103 [.agg (aD x),int set] (int (Dc x d set)):=by
 have F:=h.y5;have az:=h.dims;have ax:=h.types;obtain⟨t,r,ay⟩:=List.exists_cons_of_ne_nil ht;have aa:((x.types.length:Int) == 0)=false:=by grind
 refine pcd func103 rfl rfl ?_;simp only[go_sem];simp only[go_sem,aa];apply aA <;> intro hb
 ·simp only[go_sem];have:IS x set=true:=by grind[IS]
  rw[show Dc x d set=0 from if_pos this];exact .refl _
 obtain⟨s,rfl⟩:=Int.eq_ofNat_of_zero_le (a:=set) (by grind);have ak:0<s:=by grind
 have I:s<2^63:=by omega
 simp only[go_sem];refine aL (EQ s I) ?_;simp only[go_sem];have ab:(dA (s:Int)).length<=63:=oR _ _;refine aL (ajO x (dA (s:Int)) (fun i hi=>by grind[nQ]) (by omega)) ?_;rw[afY F I ak];simp only[go_sem];apply aA <;> intro aw
 ·simp only[go_sem];rw[show Dc x d (s:Int)=0 from if_pos (by grind)];exact .refl _
 have ar:IS x (s:Int)=false:=by grind
 have e0:Dc x d (s:Int)=if aeJ x (dA (s:Int))=false then 1 else Ea x (dA (s:Int)) d:=if_neg (by grind)
 rw[e0];have ac:s<2^x.y5.length:=by grind[IS,Bx]
 have Z:ML x.y5 (dA (s:Int)):=JG ac F;simp only[go_sem];refine aL (adC x (dA (s:Int)) Z (by omega)) ?_;simp only[go_sem];apply aA <;> intro a0
 ·simp only[go_sem];rw[if_pos (by grind)];exact .refl _
 rw[if_neg (by grind)];have b1:=inB (show 0<x.types.length by grind);have ah:x.types[0]?=some t:=by grind
 have an:=aC (f:=bI) ah;have hd:=(h.cap t (by grind)).1;subst hd;have al:=anO x _ s h ac;simp only[go_sem];refine jK [(0,true),(1,true),(2,true),(3,true),(4,true),(5,true),(6,true),(7,true),(8,true),(9,false),(10,true),(11,true),(12,true),(13,true),(14,true)] (by kernel_rfl) ?_;simp only[go_sem,Xac,an];refine⟨by omega,?_⟩;refine aL al ?_;simp only[go_sem];have aq:((List.range t.cap.length).map fun dim=>fY x.y5 (dA (s:Int)) dim).length=t.cap.length:=by simp
 refine⟨fun ρ H=>∃(k:Nat),k<=t.cap.length/\ρ 2=.rp (aD x) 0/\ρ 7=.sl (((List.range t.cap.length).map fun dim=>fY x.y5 (dA (s:Int)) dim).map aP)/\ρ 8=int 0/\ρ 9=int k/\ρ 6=int (Ea x (dA (s:Int)) k),fun ρ _=>t.cap.length-aT (ρ 9),⟨0,Xaa _,rfl,rfl,rfl,(by rfl),by rfl⟩,?_⟩;rintro ρ H ⟨k,hk,U,J,Y,E,O⟩;simp only[go_sem,J,Y,E];refine aA (fun A=>?_) (fun ae=>?_)
 ·have ag:k<t.cap.length:=by grind
  clear A;have A:=ag;have hR:=QW h Z ab (k+1) (by omega);have hK:=QW h Z ab k (by omega);obtain⟨q0,q1,q2,_⟩:=I7 h A Z;have hL:=tN h A Z;have hC:=D5 h A x.types.length;rw[Xad]at hC;have X:=Hw x (dA (s:Int)) k;have aj:((List.range t.cap.length).map fun dim=>fY x.y5 (dA (s:Int)) dim)[k]?=some (fY x.y5 (dA (s:Int)) k):=by grind
  have am:=aC (f:=aP) aj;generalize hG:((List.range t.cap.length).map fun dim=>fY x.y5 (dA (s:Int)) dim)=G at *;have bG:0<=(k:Int)/\(k:Int)<(G.length:Int):=by omega
  simp only[go_sem,U,E];refine aL (YA x _ k h A) ?_;simp only[go_sem];generalize fY x.y5 (dA (s:Int)) k=L at *;generalize lQ x.types k=C at *;generalize zK x (dA (s:Int)) k=T at *;apply aA <;> intro hc
  ·have hT:=q1 (by grind);simp only[go_sem,U,J,Y,E,O,aQ k];refine⟨⟨k+1,A,rfl,?_⟩,msr A⟩;rw[X,hT];unfold fX;grind
  have hc:1<=C:=by grind
  simp only[go_sem];refine⟨fun ρ H=>∃out:Int,Ea x (dA (s:Int)) k<=out/\out<=Ea x (dA (s:Int)) (k+1)/\ρ 2=.rp (aD x) 0/\ρ 7=.sl (G.map aP)/\ρ 8=int 0/\ρ 9=int k/\ρ 10=int C/\ρ 6=int out,fun ρ _=>(Ea x (dA (s:Int)) (k+1)).toNat-aT (ρ 6),
   ⟨Ea x (dA (s:Int)) k,Xbz _,by grind[fX],by simp only[go_sem,U,],by simp only[go_sem,J,],by simp only[go_sem,Y,],E,by rfl,O⟩,?_⟩
  clear U J Y E O;rintro ρ H ⟨out,au,a4,U,J,Y,E,af,O⟩;have ap:out*C<=63001*1000:=Int.le_trans (Int.mul_le_mul_of_nonneg_right (by omega:out<=63001) (by omega)) (Int.mul_le_mul_of_nonneg_left hC.2 (by omega));have ai:0<=out*C:=Int.mul_nonneg (by omega) (by omega);have w1:IntKind.i64.wrap (out*C)=out*C:=aW (by omega);simp only[go_sem,J,E,af,O,am,bG,w1];apply aA <;> intro hb
  ·have hb:L>out*C:=by grind
   have hT:¬T<=out:=fun h=>by grind
   have w2:IntKind.i64.wrap (out+1)=out+1:=aW (by omega);have av:out+1<=Ea x (dA (s:Int)) (k+1):=by grind[fX]
   simp only[go_sem,U,J,Y,E,af,O,w2]
   grind[aJ]
  ·have hb:¬L>out*C:=by grind
   have hT:T<=out:=(q2 hc out (by omega)).2 (by omega);simp only[go_sem,U,J,Y,E,O,aQ k];refine⟨⟨k+1,A,rfl,?_⟩,msr A⟩
   grind[fX]
 ·have ae:k=t.cap.length:=by grind
  subst ae;simp only[go_sem,O];exact .refl _
def afP{n s:Nat}(J:n<=62)(I:s<2^63):vD n (s:Int)= !((dA (s:Int)).any fun i=>decide (i>=(n:Int))):=by
 rw[OG,Xaz];simp only[Xbp,decide_eq_true_eq,Xba];constructor
 ·intro h i F;have:=JG h J i F;omega
 ·intro h;refine Nat.lt_pow_two_of_testBit _ fun j O=>?_
  cases E:s.testBit j with
  | false=>rfl
  | true=>
   have A:j<63:=by
    rcases Xbd j 63 with h1|h1
    ·exact h1
    ·rw[Xca (Xax I (Xah (by decide) h1))]at E;cases E
   have:=h (j:Int) (nQ.2 ⟨j,A,E,rfl⟩);omega
def Nt(x:Instance)(d:Nat)(E:Cut)(h:LoadsOk x d)(ht:x.types≠[])(ae:E.set<9223372036854775808):PC prog 41 [.agg (aD x),.agg (dD E)] (int (jS x d E)):=by
 have U:=h.y5;refine pcd func41 rfl rfl ?_;simp only[go_sem];unfold jS;apply aA <;> intro h1
 ·have h1:E.kind≠1/\E.kind≠2:=by grind
  simp only[go_sem];rw[if_neg h1.1,if_neg h1.2];exact .refl _
 have A:E.kind=1\/E.kind=2:=by grind
 simp only[go_sem];apply aA <;> intro h2
 ·have he:vD x.y5.length E.set=false:=by grind[vD]
  simp only[go_sem];rw[he];rcases A with A|A
  ·rw[if_pos A,if_pos (by rfl)];exact .refl _
  ·rw[if_neg (by omega),if_pos A,if_pos (by rfl)];exact .refl _
 obtain⟨s,Z⟩:=Int.eq_ofNat_of_zero_le (a:=E.set) (by grind);have I:s<2^63:=by omega
 have ac:(dA (s:Int)).length=xX 63 s:=LI s 63 (Xae _);have af:=DE 63 s;have ag:=acJ I;have X:=afP U I;rw[Z,Xal,<-ac];simp only[go_sem,Z];refine aL (EQ s I) ?_;simp only[go_sem];refine⟨fun ρ H=>∃(k:Nat),k<=(dA (s:Int)).length/\ρ 2=.rp (aD x) 0/\ρ 3=.rp (dD E) 0/\ρ 5=.sl ((dA (s:Int)).map aP)/\ρ 6=int k/\(∀i∈(dA (s:Int)).take k,decide (i>=(x.y5.length:Int))=false),fun ρ _=>(dA (s:Int)).length-aT (ρ 6),⟨0,Xaa _,rfl,rfl,rfl,(by rfl),by simp⟩,?_⟩;rintro ρ H ⟨k,hk,e2,Y,T,e6,hz⟩;simp only[go_sem,T,e6];refine aA (fun F=>?_) (fun O=>?_)
 ·have F:=ltB F;obtain⟨i,hi⟩:=aK F;have b1:=inB F;simp only[go_sem];refine dC ?_;simp only[go_sem,e2,T,e6,aC hi,b1];apply aA <;> intro J
  ·rw[X,FM hi J];simp only[go_sem];rcases A with A|A
   ·rw[if_pos A,if_pos (by rfl)];exact .refl _
   ·rw[if_neg (by omega),if_pos A,if_pos (by rfl)];exact .refl _
  ·simp only[go_sem,e2,Y,T,e6,aQ k];exact⟨⟨k+1,F,rfl,dW (p:=fun i=>decide (i>=(x.y5.length:Int))=false) hi J hz⟩,msr F⟩
 have O:=geB hk O;subst O;rw[Xad]at hz;rw[X,CG hz];have ah:(dA (s:Int)).length<=63:=oR _ _;simp only[go_sem,Y,];apply aA <;> intro h1
 ·rw[if_pos (by grind)];simp only[go_sem,T,Xac];apply aA <;> intro J
  ·rw[if_pos (by grind)];simp only[go_sem];exact .refl _
  rw[if_neg (by grind)];simp only[go_sem,Y,];apply aA <;> intro J
  ·rw[if_pos (by grind)];simp only[go_sem];exact .refl _
  ·rw[if_neg (by grind)];simp only[go_sem];exact .refl _
 have h1:E.kind≠1:=by grind
 rw[if_neg h1,if_pos (A.resolve_left h1)];simp only[go_sem,T,Xac];have ab:(((dA (s:Int)).length:Int) == 0)=((s:Int) == 0):=by grind
 rw[ab];apply aA <;> intro J
 ·rw[if_pos (by grind)];simp only[go_sem];exact .refl _
 rw[if_neg (by grind)];have aa:=aiP x d (s:Int) h ht (by omega);simp only[go_sem];refine dC ?_;simp only[go_sem,e2,Y,Z];refine⟨_,fun _=>aa.q rfl,?_⟩;simp only[go_sem];apply aA <;> intro J
 ·rw[if_pos (by exact J)];simp only[go_sem];exact .refl _
 ·rw[if_neg (by grind)];simp only[go_sem];exact .refl _
end Nu
end Go.Proofs.YtkfhgjihlbilpaaGreatDoor
section
namespace Go.So
variable{α:Type}
structure SWO(lt:α->α->Bool):Prop where
 asym:∀a b,lt a b=true->lt b a=false
 neg:∀a b c,lt a b=false->lt b c=false->lt a c=false
section
variable{lt:α->α->Bool}(h:SWO lt)
include h
end
def ins(lt:α->α->Bool)(x:α):List α->List α
 | []=>[x]
 | z::r=>if lt x z=true then x::z::r else z::ins lt x r
section
variable{lt:α->α->Bool}(h:SWO lt)
include h
end
end Go.So
end
namespace Go.Proofs.YtkfhgjihlbilpaaGreatDoor
open Go.Aw Go.Aw.D Go.Proofs Ty
namespace Nu
open Go.Nu Go.So
structure Broken where
 cut:Cut
 by_:ByteArray
abbrev Ef(gf:Nat):AV:=.v (.func (.func gf) #[] #[])
abbrev TB:=Broken×Nat
def fs(L:List TB):List Broken:=L.map Prod.fst
end Nu
namespace Nu
open Go.Nu Go.So
section
variable{gf:Nat}{lt:Broken->Broken->Bool}{ok:Broken->Prop}
end
end Nu
namespace Nu
open Go.Nu Go.So
section
variable{gf:Nat}{lt:Broken->Broken->Bool}{ok:Broken->Prop}
end
end Nu
namespace Dec
open Go.Proofs.Tryz
theorem bS{H:aM}{k:IntKind}{a b:Int}(h:a=b):Conv H (.v (.int k a)) (.v (.int k b)):=h▸.refl _
theorem bU{H:aM}{a b:Bool}(h:a=b):Conv H (.v (.bool a)) (.v (.bool b)):=h▸.refl _
def aCs{H:aM}{a b:List AV}(h:a=b):Conv H (.agg a) (.agg b):=h▸.refl _
def xS(x:Instance)(n:Int):Bool:=decide (n>=0)&&decide (n<(x.y5.length:Int))
def Q2(x:Instance)(n:Int):PC prog 101 [.agg (aD x),int n] (boo (xS x n)):=by refine pcd func101 rfl rfl ?_;simp only[go_sem];exact .refl _
def LA(x:Instance)(n:Int):PC prog 133 [int n,.rp (aD x) 0] (boo (xS x n)):=by refine pcd func133 rfl rfl ?_;simp only[go_sem];exact .refl _
def fB(x:Instance)(d:Decision):Int:=
 if d.kind=1\/d.kind=2 then(if xS x d.a&&xS x d.b&&d.a != d.b then 0 else 2)
 else if d.kind=5\/d.kind=6 then(if xS x d.a then 0 else 2)
 else if d.kind=3\/d.kind=4 then(if decide (d.a>=0)&&decide (d.a<(x.types.length:Int))&&decide (d.n>=0)&&decide (d.n<=10)then 0 else 2)
 else 8
def PH(x:Instance)(d:Decision):PC prog 67 [.agg (aD x),.agg (aO d)] (int (fB x d)):=by
 refine pcd func67 rfl rfl ?_;simp only[go_sem]
 repeat' (first|(refine aL (LA _ _) ?_)|(refine⟨_,fun _=>PC.q (LA _ _) rfl,?_⟩)|(refine⟨_,PC.q (LA _ _) rfl,?_⟩)|(refine aA (fun A=>?_) (fun A=>?_))|(simp only[go_sem]))
 all_goals (refine bS ?_;(try unfold fB);generalize xS x d.a=p at *;generalize xS x d.b=q at *;cases p <;> cases q <;> simp_all <;> (try omega))
def Nd(x:Instance)(d:Decision):PC prog 40 [.agg (aD x),.agg (aO d)] (int (fB x d)):=by
 refine pcd func40 rfl rfl ?_;simp only[go_sem]
 repeat' (first|(refine aL (Q2 _ _) ?_)|(refine⟨_,fun _=>PC.q (Q2 _ _) rfl,?_⟩)|(refine⟨_,PC.q (Q2 _ _) rfl,?_⟩)|(refine aA (fun A=>?_) (fun A=>?_))|(simp only[go_sem]))
 all_goals (refine bS ?_;(try unfold fB);generalize xS x d.a=p at *;generalize xS x d.b=q at *;cases p <;> cases q <;> simp_all <;> (try omega))
def lL:List Int->Int
 | []=>0
 | e::r=>if e != 0 then e else lL r
def vW{l:List Int}{k:Nat}{e:Int}(h:∀e∈l.take k,e=0)(A:l[k]?=some e)(E:(e != 0)=true):lL l=e:=by
 induction l generalizing k with
 | nil=>grind
 | cons a r ih=>
  cases k with
  | zero=>simp_all[lL]
  | succ k=>
   have h0:=h a (by simp)
   grind[lL]
theorem uF{l:List Int}(h:∀e∈l,e=0):lL l=0:=by induction l<;>simp_all[lL]
def zJ{l:List Int}(h:lL l=0):∀e∈l,e=0:=by induction l<;>grind[lL]
def kE(x:Instance)(l:List Decision):Int:=if decide ((l.length:Int)>1024)then 4 else lL (l.map (fB x))
def alW(x:Instance)(l:List Decision)(hl:l.length<=1048576):PC prog 29 [.agg (aD x),.sl (l.map aO)] (int (kE x l)):=by
 refine pcd func29 rfl rfl ?_;simp only[go_sem];apply aA <;> intro T
 ·simp only[go_sem];simp_all[bS,kE]
 ·have U:kE x l=lL (l.map (fB x)):=by simp_all[kE,if_neg]
  rw[U];simp only[go_sem];refine⟨fun ρ _=>∃k:Nat,k<=l.length/\ρ 2=.rp (aD x) 0/\ρ 11=.sl (l.map aO)/\ρ 12=int l.length/\ρ 13=int k/\∀e∈(l.map (fB x)).take k,e=0,fun ρ _=>l.length-aT (ρ 13),⟨0,Xaa _,rfl,rfl,rfl,rfl,by simp⟩,?_⟩;rintro ρ H ⟨k,Z,O,J,I,E,Y⟩;simp only[go_sem,I,E];refine aA (fun A=>?_) (fun F=>?_)
  ·have A:=aX A;obtain⟨d,hd⟩:=aK A;have X:=inB A;simp only[go_sem,J,E,aC hd,X];refine aH fun j hj=>?_
   simp only[go_sem];refine aG (aB _ _ _) (by simp[lG]) ?_;simp only[go_sem,O,];refine aL (PH x d) ?_;simp only[go_sem];apply aA <;> intro T
   ·simp only[go_sem];exact bS (vW Y (by grind) T).symm
   ·simp only[go_sem,O,J,I,E,aQ k];refine⟨⟨k+1,A,rfl,?_⟩,msr A⟩;rw[aY (x:=fB x d) (by grind)]
    grind
  ·have F:=aZ Z F;subst F;simp only[go_sem]
   grind[bS,uF,Xai]
def aaL(x:Instance)(l:List Decision)(Z:l.length<=1048576):PC prog 14 [.agg (aD x),.sl (l.map aO)] (int (kE x l)):=by
 refine pcd func14 rfl rfl ?_;simp only[go_sem];apply aA <;> intro J
 ·simp only[go_sem];simp_all[bS,kE]
 ·have O:kE x l=lL (l.map (fB x)):=by simp_all[kE,if_neg]
  rw[O];simp only[go_sem];refine⟨fun ρ _=>∃k:Nat,k<=l.length/\ρ 2=.rp (aD x) 0/\ρ 1=.sl (l.map aO)/\ρ 5=int k/\∀e∈(l.map (fB x)).take k,e=0,fun ρ _=>l.length-aT (ρ 5),⟨0,Xaa _,rfl,rfl,rfl,by simp⟩,?_⟩;rintro ρ H ⟨k,X,I,h1,F,U⟩;simp only[go_sem,h1,F];refine aA (fun A=>?_) (fun E=>?_)
  ·have A:=aX A;obtain⟨d,Y⟩:=aK A;have T:=inB A;simp only[go_sem];refine dC ?_;simp only[go_sem,I,h1,F,aC Y,T];refine⟨_,(Nd x d).q rfl,?_⟩;simp only[go_sem];apply aA <;> intro J
   ·simp only[go_sem];exact bS (vW U (by grind) J).symm
   ·simp only[go_sem,I,h1,F,aQ k];refine⟨⟨k+1,A,rfl,?_⟩,msr A⟩;rw[aY (x:=fB x d) (by grind)]
    grind
  ·have E:=aZ X E;subst E;simp only[go_sem]
   grind[bS,uF,Xai]
def dI(set i:Int):Bool:=decide (i>=0)&&decide (i<=62)&&((set/2^i.toNat)%2 == 1)
def IL(set i:Int):PC prog 145 [int set,int i] (boo (dI set i)):=Sq.Ai set i
def mS(set i:Int):Bool:=(set/2^i.toNat)%2 == 1
def qJ(set i:Int)(O:0<=set)(U:set<=9223372036854775807)(Y:i<=9223372036854775807):PC prog 235 [int set,int i] (boo (mS set i)):=by
 refine pcd func235 rfl rfl ?_;simp only[go_sem];refine⟨fun ρ _=>∃k:Nat,(k:Int)<=max i 0/\ρ 1=int i/\ρ 5=int k/\ρ 0=int (set/2^k),fun ρ _=>i.toNat-aT (ρ 5),⟨0,by omega,rfl,rfl,by simp[Ho,upd]⟩,?_⟩;rintro ρ H ⟨k,Z,h1,T,h0⟩;have A:0<=set/2^k:=Int.ediv_nonneg O (Int.le_of_lt (Int.pow_pos (by decide)));simp only[go_sem,h1,T];refine aA (fun E=>?_) (fun I=>?_)
 ·have E:(k:Int)<i:=by grind
  have X:IntKind.i64.wrap ((k:Int)+1)=((k+1:Nat):Int):=by grind[aW]
  simp only[go_sem,h1,T,h0,X,aJ];refine⟨by omega,⟨k+1,by omega,rfl,?_⟩,by omega⟩;rw[Xce A,Int.pow_succ,<-Int.ediv_ediv_of_nonneg (Int.le_of_lt (Int.pow_pos (by decide)))];have J:set/2^k<=set:=Int.ediv_le_self _ O;generalize set/2^k=m at A J;exact congrArg (fun z=>AV.v (Value.int .i64 z)) (aW (by omega))
 ·have I:i<=(k:Int):=by grind
  have F:k=i.toNat:=by omega
  subst F;simp only[go_sem,h0];refine⟨by omega,bU ?_⟩;rw[Int.tmod_eq_emod_of_nonneg A];rfl
def dJ(d:Decision)(set:Int):Bool:=
 if d.kind=1 then dI set d.a == dI set d.b else if d.kind=2 then !dI set d.a|| !dI set d.b else if d.kind=6 then !dI set d.a else true
def anF(d:Decision)(set:Int):PC prog 208 [.agg (aO d),int set] (boo (dJ d set)):=by
 refine pcd func208 rfl rfl ?_;simp only[go_sem];refine dC ?_
 repeat' (first|(refine aL (IL _ _) ?_)|(refine⟨_,fun _=>PC.q (IL _ _) rfl,?_⟩)|(refine⟨_,PC.q (IL _ _) rfl,?_⟩)|(refine aA (fun A=>?_) (fun A=>?_))|(simp only[go_sem]))
 all_goals (refine bU ?_;unfold dJ;simp_all)
def cX(d:Decision)(set:Int):Bool:=
 if d.kind=1 then mS set d.a != mS set d.b else if d.kind=2 then mS set d.a&&mS set d.b else if d.kind=6 then mS set d.a else false
def pJ(d:Decision):Prop:=wP 0 d
def aeT(d:Decision)(set:Int)(O:pJ d)(F:0<=set)(A:set<=9223372036854775807):PC prog 170 [.agg (aO d),int set] (boo (cX d set)):=by
 have I:d.a<=9223372036854775807:=O.2.1.2;have E:d.b<=9223372036854775807:=O.2.2.1.2;refine pcd func170 rfl rfl ?_;simp only[go_sem];apply aA <;> intro J
 ·simp only[go_sem];refine dC ?_
  repeat' (first|(refine aL (qJ _ _ F A I) ?_)|(refine⟨_,fun _=>PC.q (qJ _ _ F A I) rfl,?_⟩)|(refine⟨_,PC.q (qJ _ _ F A I) rfl,?_⟩)|(refine aL (qJ _ _ F A E) ?_)|(refine⟨_,fun _=>PC.q (qJ _ _ F A E) rfl,?_⟩)|(refine⟨_,PC.q (qJ _ _ F A E) rfl,?_⟩)|(refine aA (fun J=>?_) (fun J=>?_))|(simp only[go_sem]))
  grind[bU,cX]
 ·simp only[go_sem]
  repeat' (first|(refine aL (qJ _ _ F A I) ?_)|(refine⟨_,fun _=>PC.q (qJ _ _ F A I) rfl,?_⟩)|(refine⟨_,PC.q (qJ _ _ F A I) rfl,?_⟩)|(refine aL (qJ _ _ F A E) ?_)|(refine⟨_,fun _=>PC.q (qJ _ _ F A E) rfl,?_⟩)|(refine⟨_,PC.q (qJ _ _ F A E) rfl,?_⟩)|(refine aA (fun J=>?_) (fun J=>?_))|(simp only[go_sem]))
  all_goals grind[bU,cX]
def uL(p:Decision->Bool)(l:List Decision):Bool:=l.all p
theorem JT{α:Type}{p:α->Bool}{l:List α}{k:Nat}{x:α}(A:l[k]?=some x)(E:p x=false):l.all p=false:=by grind
def wV{α:Type}{p:α->Bool}{l:List α}{k:Nat}{x:α}(A:l[k]?=some x)(E:p x=true)(h:∀x∈l.take k,p x=true):∀x∈l.take (k+1),p x=true:=by
 rw[aY A]
 grind
def aS{α:Type}{p:α->Prop}{l:List α}{k:Nat}{x:α}(A:l[k]?=some x)(E:p x)(h:∀x∈l.take k,p x):∀x∈l.take (k+1),p x:=by
 rw[aY A]
 grind
def akH(l:List Decision)(c:Column)(hl:l.length<=1048576):PC prog 144 [.sl (l.map aO),.agg (bC c)] (boo (l.all fun d=>dJ d c.set)):=by
 refine pcd func144 rfl rfl ?_;simp only[go_sem];refine⟨fun ρ _=>∃k:Nat,k<=l.length/\ρ 3=.rp (bC c) 0/\ρ 7=.sl (l.map aO)/\ρ 8=int l.length/\ρ 9=int k/\∀d∈l.take k,dJ d c.set=true,fun ρ _=>l.length-aT (ρ 9),⟨0,Xaa _,rfl,rfl,rfl,rfl,by simp⟩,?_⟩;rintro ρ H ⟨k,Y,O,J,I,F,X⟩;simp only[go_sem,I,F];refine aA (fun A=>?_) (fun E=>?_)
 ·have A:=aX A;obtain⟨d,T⟩:=aK A;have U:=inB A;simp only[go_sem,J,F,aC T,U];refine aH fun j Z=>?_
  simp only[go_sem];refine aG (aB _ _ _) (by simp[lG]) ?_;simp only[go_sem,O,];refine aL (anF d _) ?_;simp only[go_sem];apply aA <;> intro hb
  ·simp only[go_sem]
   grind[bU]
  ·simp only[go_sem,O,J,I,F,aQ k];exact⟨⟨k+1,A,rfl,wV T (by grind) X⟩,msr A⟩
 ·have E:=aZ Y E;subst E;simp only[go_sem]
  grind[bU]
def Xy(l:List Decision)(c:Column)(hl:l.length<=1048576)(F:∀d∈l,pJ d)(X:0<=c.set)(I:c.set<=9223372036854775807):PC prog 110 [.sl (l.map aO),.agg (bC c)] (boo (l.all fun d=> !cX d c.set)):=by
 refine pcd func110 rfl rfl ?_;simp only[go_sem];refine⟨fun ρ _=>∃k:Nat,k<=l.length/\ρ 3=.rp (bC c) 0/\ρ 0=.sl (l.map aO)/\ρ 5=int k/\∀d∈l.take k,cX d c.set=false,fun ρ _=>l.length-aT (ρ 5),⟨0,Xaa _,rfl,rfl,rfl,by simp⟩,?_⟩;rintro ρ H ⟨k,Z,T,h0,J,Y⟩;simp only[go_sem,h0,J];refine aA (fun A=>?_) (fun E=>?_)
 ·have A:=aX A;obtain⟨d,O⟩:=aK A;have U:=inB A;simp only[go_sem];refine dC ?_;simp only[go_sem,T,h0,J,aC O,U];refine⟨_,(aeT d _ (F d (Xab O)) X I).q rfl,?_⟩;apply aA <;> intro hb
  ·simp only[go_sem]
   grind[bU]
  ·simp only[go_sem,T,h0,J,aQ k];exact⟨⟨k+1,A,rfl,aS (p:=fun d=>cX d c.set=false) O (by omega) Y⟩,msr A⟩
 ·have E:=aZ Z E;subst E;simp only[go_sem]
  grind[bU]
end Dec
end Go.Proofs.YtkfhgjihlbilpaaGreatDoor
section
namespace Go.Ve
section
variable{α δ:Type}(leaf:α->Bool)(yes no:α->Int)(ch:α->δ)(opp:δ->δ)
def inT(n:Nat)(k:Int):Bool:=decide (0<=k)&&decide (k<(n:Int))
def oC(l:List α):Bool:=l.all fun a=>leaf a||(inT l.length (yes a)&&inT l.length (no a))
def sN(a:α):List Int:=if leaf a=true then[]else[yes a,no a]
def cnt(l:List α)(k:Int):Nat:=(l.flatMap (sN leaf yes no)).count k
def uY(l:List α):Bool:=(List.range l.length).all fun i=>if i=0 then cnt leaf yes no l 0 == 0 else cnt leaf yes no l i == 1
inductive WayT (l:List α):Nat->List δ->Prop
 | root:WayT l 0 []
 | yes {i k:Nat} {d:List δ} {a:α}:WayT l i d->l[i]?=some a->leaf a=false->yes a=(k:Int)->WayT l k (d++[ch a])
 | no {i k:Nat} {d:List δ} {a:α}:WayT l i d->l[i]?=some a->leaf a=false->no a=(k:Int)->WayT l k (d++[opp (ch a)])
structure BInv(l:List α)(V q:List Nat):Prop where
 nd:(V++q).Nodup
 lt:∀k∈V++q,k<l.length
 zero:0∈V++q
 closed:∀v∈V,∀a,l[v]?=some a->∀k:Nat,(k:Int)∈sN leaf yes no a->k∈V++q
 up:∀k∈V++q,k≠0->∃v∈V,∃a,l[v]?=some a/\(k:Int)∈sN leaf yes no a
 way:∀j k,(V++q)[j]?=some k->∃d,WayT leaf yes no ch opp l k d/\d.length<=j
variable{leaf yes no ch opp}{l:List α}{V q:List Nat}{k:Nat}
theorem EP{A:Type}[BEq A](f:α->List A)(k:A):∀(l:List α),(l.flatMap f).count k=(l.map fun a=>(f a).count k).sum
 | []=>rfl
 | a::l=>by simp[List.flatMap_cons,List.count_append,EP f k l]
def Px{A:Type}(f:A->Nat):∀(l:List A) (i j:Nat) (a b:A),l[i]?=some a->l[j]?=some b->i≠j->f a+f b<=(l.map f).sum
 | [],i,j,a,b,h,_,_=>by grind
 | x::l,0,0,a,b,_,_,h=>absurd rfl h
 | x::l,0,j+1,a,b,h1,h2,_=>by simp at h1 h2;subst h1;simp only[List.map_cons,List.sum_cons];have:=sum_one f l j b h2;omega
 | x::l,i+1,0,a,b,h1,h2,_=>by simp at h1 h2;subst h2;simp only[List.map_cons,List.sum_cons];have:=sum_one f l i a h1;omega
 | x::l,i+1,j+1,a,b,h1,h2,h=>by simp at h1 h2;simp only[List.map_cons,List.sum_cons];have:=Px f l i j a b h1 h2 (by omega);omega
where sum_one {A:Type} (f:A->Nat):∀(l:List A) (i:Nat) (a:A),l[i]?=some a->f a<=(l.map f).sum
 | [],i,a,h=>by grind
 | x::l,0,a,h=>by grind
 | x::l,i+1,a,h=>by
  simp at h;have:=sum_one f l i a h
  grind
theorem akO(A:uY leaf yes no l=true){k:Nat}(E:k<l.length)(h0:k≠0):cnt leaf yes no l k=1:=by
 unfold uY at A
 grind
def Vt(A:uY leaf yes no l=true)(E:l≠[]):cnt leaf yes no l 0=0:=by grind[uY]
def EL(E:uY leaf yes no l=true){k:Nat}(J:k<l.length){i j:Nat}{a b:α}(A:l[i]?=some a)(F:l[j]?=some b)(I:(k:Int)∈sN leaf yes no a)(O:(k:Int)∈sN leaf yes no b):i=j:=by
 refine Decidable.byContradiction fun h=>?_
 have h1:=Px (fun a=>(sN leaf yes no a).count (k:Int)) l i j a b A F h;have e:cnt leaf yes no l (k:Int)<=1:=by
  by_cases h0:k=0
  ·subst h0;have:=Vt E (by grind)
   grind
  grind[akO]
 grind[cnt,EP]
theorem AC(A:uY leaf yes no l=true){i:Nat}{a:α}(E:l[i]?=some a):(0:Int)∉sN leaf yes no a:=fun h=>by
 have h0:=Vt A (by grind)
 grind[cnt,List.count_eq_zero]
theorem Fs(I:uY leaf yes no l=true)(A:oC leaf yes no l=true){i:Nat}{a:α}(E:l[i]?=some a)(J:leaf a=false):yes a≠no a:=fun h=>by
 unfold oC at A;rw[List.all_eq_true]at A;have:=A a (List.mem_of_getElem? E);simp only[J,Bool.false_or,Bool.and_eq_true,inT,decide_eq_true_eq]at this;obtain⟨⟨h1,T⟩,_⟩:=this;obtain⟨k,U⟩:=Int.eq_ofNat_of_zero_le h1;have F:k<l.length:=by omega
 have h0:k≠0:=by rintro rfl;refine AC I E ?_;simp_all[sN]
 have e:=akO I F h0;unfold cnt at e;rw[EP]at e;have O:=Px.sum_one (fun a=>(sN leaf yes no a).count (k:Int)) l i a E;simp_all[sN]
def aAe(A:oC leaf yes no l=true){k:Nat}{d:List δ}(h:WayT leaf yes no ch opp l k d)(E:l≠[]):k<l.length:=by
 unfold oC at A;rw[List.all_eq_true]at A;cases h with
 | root=>grind
 | yes h1 h2 h3 h4=>have:=A _ (List.mem_of_getElem? h2);simp_all[inT]
 | no h1 h2 h3 h4=>have:=A _ (List.mem_of_getElem? h2);simp_all[inT]
def BInv.start(F:l≠[]):BInv leaf yes no ch opp l [] [0]:=
 ⟨by simp,fun k A=>by simp_all;grind,by simp,fun v E=>by grind,fun k A h0=>by grind,
  fun j k h=>by
   cases j with
   | zero=>simp at h;subst h;exact⟨[],.root,Nat.le_refl _⟩
   | succ j=>grind⟩
def BInv.leafStep(h:BInv leaf yes no ch opp l V (k::q)){a:α}(J:l[k]?=some a)(I:leaf a=true):BInv leaf yes no ch opp l (V++[k]) q:=by
 have e:V++[k]++q=V++k::q:=by simp
 refine⟨by rw[e];exact h.nd,by rw[e];exact h.lt,by rw[e];exact h.zero,fun v A b F m E=>?_,fun m E h0=>?_,by rw[e];exact h.way⟩
 ·rw[e];rcases List.mem_append.1 A with A|A
  ·exact h.closed v A b F m E
  grind[sN]
 ·rw[e]at E;obtain⟨v,A,b,F⟩:=h.up m E h0
  grind
def BInv.innerStep(hc:uY leaf yes no l=true)(hr:oC leaf yes no l=true)(h:BInv leaf yes no ch opp l V (k::q)){a:α}(J:l[k]?=some a)(I:leaf a=false){y n:Nat}(hy:yes a=(y:Int))(hn:no a=(n:Int)):
  BInv leaf yes no ch opp l (V++[k]) (q++[y,n]):=by
 have aa:∀m:Nat,(m:Int)∈sN leaf yes no a↔m=y\/m=n:=fun m=>by simp only[sN,I,Bool.false_eq_true,if_false,List.mem_cons,List.not_mem_nil,or_false,hy,hn];omega
 have e:V++[k]++(q++[y,n])=(V++k::q)++[y,n]:=by simp
 have af:y≠n:=fun x=>Fs hc hr J I (by omega)
 have ab:∀m,m=y\/m=n->m∉V++k::q:=fun m A O=>by
  have T:=(aa m).2 A;have Z:m≠0:=by grind[AC]
  obtain⟨v,F,b,X,Y⟩:=h.up m O Z;have:=EL hc (h.lt m O) X J Y T;subst this;have:=h.nd
  grind
 have ag:∀m,m=y\/m=n->m<l.length:=fun m A=>by have hR:=hr;unfold oC at hR;rw[List.all_eq_true]at hR;have:=hR a (List.mem_of_getElem? J);simp only[I,Bool.false_or,Bool.and_eq_true,inT,decide_eq_true_eq]at this;omega
 have U:∃d,WayT leaf yes no ch opp l k d/\d.length<=V.length:=h.way V.length k (by simp);refine⟨?_,fun m A=>?_,?_,fun v F b X m A=>?_,fun m A h0=>?_,fun j m E=>?_⟩
 ·rw[e,List.nodup_append];refine⟨h.nd,by grind,fun x hx z hz=>?_⟩
  grind
 ·rw[e]at A;rcases List.mem_append.1 A with A|A
  ·exact h.lt m A
  simp_all;omega
 ·rw[e];exact List.mem_append.2 (.inl h.zero)
 ·rw[e];rcases List.mem_append.1 F with F|F
  ·exact List.mem_append.2 (.inl (h.closed v F b X m A))
  grind
 ·rw[e]at A;rcases List.mem_append.1 A with A|A
  ·obtain⟨v,F,b,X⟩:=h.up m A h0
   grind
  grind
 ·rw[e]at E;rw[List.getElem?_append]at E;split at E
  ·exact h.way j m E
  ·rename_i ah;obtain⟨d,hd,ae⟩:=U;have ac:V.length<j:=by grind
   match hjj:j-(V++k::q).length,E with
   | 0,E=>simp at E;subst E;exact⟨d++[ch a],.yes hd J I hy,by grind⟩
   | 1,E=>simp at E;subst E;exact⟨d++[opp (ch a)],.no hd J I hn,by grind⟩
   | j'+2,E=>grind
def Gd:∀(n:Nat) (L:List Nat),L.Nodup->(∀k∈L,k<n)->L.length<=n
 | 0,[],_,_=>Nat.le_refl _
 | 0,k::L,_,h=>absurd (h k (by simp)) (by omega)
 | n+1,L,hd,h=>by
  have h1:=Gd n (L.filter (·≠n)) (hd.filter _) fun k A=>by simp at A;have:=h k A.1;omega
  have F:L.length<=(L.filter (·≠n)).length+1:=by
   have e:L.length=(L.filter (·≠n)).length+(L.filter (fun k=> !decide (k≠n))).length:=by
    rw[<-List.countP_eq_length_filter,<-List.countP_eq_length_filter,List.length_eq_countP_add_countP (fun k=>decide (k≠n)) (l:=L)]
    congr 2;funext k;by_cases A:k=n <;> simp[A]
   have E:(L.filter (fun k=> !decide (k≠n))).length<=1:=by
    have:(L.filter (fun k=> !decide (k≠n)))=L.filter (fun k=>k == n):=by congr 1;funext k;by_cases A:k=n <;> simp[A]
    rw[this,<-List.countP_eq_length_filter,<-List.count_eq_countP];exact List.nodup_iff_count.1 hd n
   omega
  omega
def HS{n:Nat}{L:List Nat}(I:L.Nodup)(h:∀k∈L,k<n)(F:L.length=n):∀k,k<n->k∈L:=fun k E=>by
 refine Decidable.byContradiction fun A=>?_
 have:=Gd n (k::L) (by grind) (by grind)
 grind
def BInv.len(h:BInv leaf yes no ch opp l V q):(V++q).length<=l.length:=Gd _ _ h.nd h.lt
def BInv.reach(h:BInv leaf yes no ch opp l V []){k:Nat}{d:List δ}(A:WayT leaf yes no ch opp l k d):k∈V:=by have F:=h.closed;have E:=h.zero;simp only[List.append_nil]at F E;induction A<;>grind[sN]
def BInv.full(h:BInv leaf yes no ch opp l V []):V.length=l.length↔∀k,k<l.length->∃d,WayT leaf yes no ch opp l k d:=by
 have E:=h.nd;have A:=h.lt;simp only[List.append_nil]at E A;constructor
 ·intro O k F;obtain⟨j,X⟩:=List.getElem?_of_mem (HS E A O k F);obtain⟨d,I,_⟩:=h.way j k (by grind)
  grind
 ·intro J;have h1:∀k,k<l.length->k∈V:=fun k F=>let ⟨d,I⟩:=J k F;h.reach I
  have U:=Gd _ V E A;have T:l.length<=V.length:=by
   have:=List.Nodup.length_le_of_subset (l₁:=List.range l.length) (l₂:=V) List.nodup_range fun k F=>h1 k (List.mem_range.1 F)
   grind
  omega
theorem Ug(E:uY leaf yes no l=true){d:List δ}(h:WayT leaf yes no ch opp l 0 d):d=[]:=by
 generalize A:0=k at h;cases h with
 | root=>rfl
 | yes h1 h2 h3 h4=>subst A;exact absurd (by grind[sN]) (AC E h2)
 | no h1 h2 h3 h4=>subst A;exact absurd (by grind[sN]) (AC E h2)
def ajK(J:uY leaf yes no l=true)(O:oC leaf yes no l=true){k i:Nat}{a:α}{d:List δ}(X:k≠0)(I:l[i]?=some a)(T:leaf a=false)(h:WayT leaf yes no ch opp l k d)(U:yes a=(k:Int)\/no a=(k:Int)):
  ∃E,d=E++[if no a=(k:Int)then opp (ch a)else ch a]/\WayT leaf yes no ch opp l i E:=by
 have F:(k:Int)∈sN leaf yes no a:=by simp only[sN,T,Bool.false_eq_true,if_false,List.mem_cons,List.not_mem_nil,or_false];omega
 have A:=aAe O h (by grind);cases h with
 | root=>omega
 | @yes i' _ E b h1 h2 h3 h4=>
  have:=EL J A I h2 F (by grind[sN]);subst this;rw[I]at h2;cases h2;refine⟨E,?_,h1⟩;rw[if_neg]
  grind[Fs]
 | @no i' _ E b h1 h2 h3 h4=>
  have:=EL J A I h2 F (by grind[sN])
  grind
def Ks(A:uY leaf yes no l=true)(F:oC leaf yes no l=true){k:Nat}{d e:List δ}(h:WayT leaf yes no ch opp l k d)(I:WayT leaf yes no ch opp l k e):d=e:=by
 induction h generalizing e with
 | root=>grind[Ug]
 | @yes i k d a h1 h2 h3 h4 ih=>
  have E:k≠0:=by rintro rfl;exact AC A h2 (by grind[sN])
  obtain⟨O,rfl,J⟩:=ajK A F E h2 h3 I (.inl h4);rw[ih J,if_neg]
  grind[Fs]
 | @no i k d a h1 h2 h3 h4 ih=>
  have E:k≠0:=by rintro rfl;exact AC A h2 (by grind[sN])
  obtain⟨O,rfl,J⟩:=ajK A F E h2 h3 I (.inr h4)
  grind
end
end Go.Ve
end
section
namespace Go.Proofs.YtkfhgjihlbilpaaGreatDoor.Dec
open Go.Proofs.Tryz
open Go.Aw Go.Aw.D Go.Proofs Ty
def Cm(d:Decision):Decision:=
 if d.kind=1 then { d with kind:=2 }else if d.kind=2 then { d with kind:=1 }
 else if d.kind=3 then { d with kind:=4,n:=IntKind.i64.wrap (d.n+1) }else if d.kind=4 then { d with kind:=3,n:=IntKind.i64.wrap (d.n-1) }
 else if d.kind=5 then { d with kind:=6 }else if d.kind=6 then { d with kind:=5 }else d
def apV(d:Decision):PC prog 30 [.agg (aO d)] (.agg (aO (Cm d))):=by
 refine pcb (fun t=>t == 1) func30 rfl rfl ?_;simp only[go_sem];simp only[aO];refine aH fun j J=>?_
 simp only[go_sem];refine aH fun i I=>?_
 have E:j≠i:=fun e=>by grind[aB]
 have A:i≠j:=E.symm;simp only[go_sem,aF _ _ _ _ E]
 repeat' (first|(refine aA (fun F=>?_) (fun F=>?_))|(refine bP so3 (by first|exact aB _ _ _|exact(aF _ _ _ _ E).trans (aB _ _ _)) (by simp) ?_)|(refine aG (by first|exact aB _ _ _|exact(aF _ _ _ _ A).trans (aB _ _ _)|exact(aF _ _ _ _ A).trans ((aF _ _ _ _ A).trans (aB _ _ _))) (by simp) ?_)|(simp only[go_sem,aF _ _ _ _ E,aF _ _ _ _ A]))
 all_goals (refine aCs ?_;simp_all [Cm,aO])
end Go.Proofs.YtkfhgjihlbilpaaGreatDoor.Dec
end
section
namespace Go.Aw
open Go.RowKit
section
variable{P:Program}{f:FuncId}{args:List AV}{H:aM}{K:AV->aM->Prop}
theorem axY{S:Sg}{w:World}{v:Value}(h:rep S w (.v (.slice none 0 0)) v):rep S w (.sl []) v:=by
 have A:v=.slice none 0 0:=by grind[rep]
 subst A;simp only[rep]
 grind
def bQ.nil0{A:List AV}(h:bQ P f (.sl []::A) H K):bQ P f (.v (.slice none 0 0)::A) H K:=fun S w vals E F=>h S w vals E (by grind[bR,axY])
end
end Go.Aw
end
namespace Go.Proofs.YtkfhgjihlbilpaaGreatDoor
open Go.Aw Go.Aw.D Go.Proofs Ty
namespace Sq
open Go.Proofs.Tryz
open Go.Nu (iH)
open Go.Proofs.YtkfhgjihlbilpaaGreatDoor.Nu (ltB geB HI)
open Mv (bS bU aS)
def M2(v:Visit):Int:=if v.drop=true then 1 else 0
def or2(a b:Int):Int:=if a=0 then b else a
def Ef(a b:Visit):Int:=or2 (iH a.order b.order) (iH (M2 a) (M2 b))
def TP:List Visit->List Visit->Int
 | [],[]=>0
 | [],_::_=> -1
 | _::_,[]=>1
 | a::l,b::m=>or2 (Ef a b) (TP l m)
def aeP:List Int->Int
 | []=>0
 | a::l=>if a=0 then aeP l else a
theorem uW{α:Type}{l:List α}{k:Nat}{u:α}(h:l[k]?=some u):l.drop k=u::l.drop (k+1):=by grind[Xbq]
def aCf(l:List Int)(hl:l.length<=1048576):PC prog 379 [.sl (l.map aP)] (int (aeP l)):=by
 refine pcd func379 rfl rfl ?_;simp only[go_sem];refine⟨fun ρ H=>∃(k:Nat),k<=l.length/\ρ 3=int 0/\ρ 6=.sl (l.map aP)/\ρ 7=int (l.length:Nat)/\ρ 8=int k/\aeP l=aeP (l.drop k),fun ρ _=>l.length-aT (ρ 8),⟨0,Xaa _,rfl,rfl,rfl,(by rfl),rfl⟩,?_⟩;rintro ρ H ⟨k,Y,I,U,T,J,E⟩;simp only[go_sem,T,J];refine jI Y (fun A=>?_) (fun F=>?_)
 ·obtain⟨u,O⟩:=aK A;have X:=inB A;rw[uW O,aeP]at E;simp only[go_sem,I,U,J,aC O,X];refine aA (fun Z=>?_) (fun Z=>?_)
  ·simp only[go_sem,];simp_all[bS]
  ·rw[if_pos (by grind)]at E;simp only[go_sem,I,U,T,J,aQ k]
   grind[aJ]
 ·subst F;simp only[go_sem,I,];exact bS (by rw[E,Xbr];rfl)
def alA(v:Visit):PC prog 378 [.agg (aN v)] (int (M2 v)):=by
 refine pcd func378 rfl rfl ?_;simp only[go_sem];unfold M2;apply aA <;> intro A
 ·simp only[go_sem,A];simp[bS]
 ·simp only[go_sem,A];simp[bS]
def Wb(a b:Visit):PC prog 354 [.agg (aN a),.agg (aN b)] (int (Ef a b)):=by
 refine pcd func354 rfl rfl ?_;simp only[go_sem];refine JM (by kernel_rfl) ?_;simp only[go_sem];refine⟨_,(HI a.order b.order).q rfl,?_⟩;simp only[go_sem];refine⟨_,(alA a).q rfl,?_⟩;simp only[go_sem];refine⟨_,(alA b).q rfl,?_⟩;simp only[go_sem];refine⟨_,(HI (M2 a) (M2 b)).q rfl,?_⟩;simp only[go_sem];refine aL (aCf [iH a.order b.order,iH (M2 a) (M2 b)] (by simp)) ?_;simp only[go_sem]
 grind[bS,Ef,or2,aeP]
def atN(a b:List Visit)(ha:a.length<=1048576):PC prog 353 [.sl (a.map aN),.sl (b.map aN),.v (.func (.func 354) #[] #[])] (int (TP a b)):=by
 have ae:aE prog 354=true:=by rfl
 refine pcd func353 rfl rfl ?_;simp only[go_sem];refine⟨fun ρ H=>∃(k:Nat),k<=a.length/\ρ 0=.sl (a.map aN)/\ρ 1=.sl (b.map aN)/\ρ 2=.v (.func (.func 354) #[] #[])/\ρ 11=.sl (a.map aN)/\ρ 12=int (a.length:Nat)/\ρ 13=int k/\TP a b=TP (a.drop k) (b.drop k)/\k<=b.length,fun ρ _=>a.length-aT (ρ 13),⟨0,Xaa _,by rfl,by rfl,by rfl,by rfl,by rfl,(by rfl),rfl,Xaa _⟩,?_⟩;rintro ρ H ⟨k,hk,e0,e1,e2,Y,X,I,E,ac⟩;simp only[go_sem,X,I];refine aA (fun A=>?_) (fun aa=>?_)
 ·have A:=ltB (by omega);obtain⟨u,hu⟩:=aK A;have b1:=inB A;rw[uW hu]at E;simp only[go_sem,Y,I,aC hu,b1];refine aH fun i8 F=>?_
  simp only[go_sem];refine bW F (by simp[dG]) fun T (R8:T i8=some ((⟨97,2,[aN u]⟩:Row))) N=>?_
  clear N F;simp only[go_sem,e1,];apply aA <;> intro U
  ·have ab:b.length<=k:=by grind
   simp only[go_sem];refine bS ?_;rw[E,List.drop_of_length_le ab];rfl
  have J:k<b.length:=by grind
  obtain⟨v,hv⟩:=aK J;have b2:=inB J;rw[uW hv]at E;simp only[go_sem,e1,aC hv,b2];refine aH fun i9 Z=>?_
  simp only[go_sem];refine bW Z (by simp[dG]) fun O (R9:O i9=some ((⟨97,2,[aN v]⟩:Row))) N=>?_
  replace R8:=(N R8).2;simp only[go_sem,e2,R9,R8];refine aL (Wb u v) ?_;simp only[go_sem];apply aA <;> intro U
  ·have hc:¬Ef u v=0:=by grind
   simp only[go_sem];refine bS ?_;rw[E];show _=or2 (Ef u v) _;simp_all[or2]
  ·have hc:Ef u v=0:=by grind
   simp only[go_sem,e0,e1,e2,Y,X,I,aQ k];refine⟨⟨k+1,A,rfl,?_,J⟩,msr A⟩;rw[E];show or2 (Ef u v) _=_;simp_all[or2]
 have aa:=geB hk (by omega);subst aa;rw[Xbr]at E;simp only[go_sem,e0,e1,Xac];apply aA <;> intro U
 ·have U:a.length<b.length:=by grind
  simp only[go_sem];refine bS ?_;obtain⟨v,hv⟩:=aK U;rw[E,uW hv];rfl
 ·have U:¬a.length<b.length:=by grind
  simp only[go_sem];refine bS ?_;rw[E,List.drop_of_length_le (by omega)];rfl
def ayE(a b:List Visit)(A:a.length<=1048576):PC prog 316 [.sl (a.map aN),.sl (b.map aN)] (boo (decide (TP a b<0))):=by refine pcd func316 rfl rfl ?_;simp only[go_sem];refine aL (atN a b A) ?_;simp only[go_sem];exact .refl _
end Sq
namespace Sq
open Go.Proofs.Tryz
open Go.Proofs.YtkfhgjihlbilpaaGreatDoor.Nu (ltB geB)
open Mv (bS bU aS)
def eqV(w v:Visit):Bool:=w.order == v.order&&(w.drop == v.drop&&true)
def wA(l:List Visit)(w:Visit):Bool:= !decide (cD l w<0)
def Eh(W l:List Visit)(v:Visit):Bool:=(W.takeWhile fun w=> !eqV w v).all (wA l)
def aiW(x:Instance)(l:List Visit)(v:Visit):Bool:=x.before.all fun q=>(q.b != v.order)||(gD x.y5 q.a).all (wA l)
def tC(x:Instance)(l:List Visit)(v:Visit):Bool:=(!decide (cD l v>=0)&&Eh (gD x.y5 v.order) l v)&&aiW x l v
def awO{α:Type}{p:α->Bool}{W:List α}{k:Nat}(h:∀u∈W.take k,p u=true):W.takeWhile p=W.take k++(W.drop k).takeWhile p:=by grind[Xbt,List.takeWhile_append_of_pos]
def acS{W l:List Visit}{v:Visit}{k:Nat}(h:∀u∈W.take k,eqV u v=false/\wA l u=true):Eh W l v=Eh (W.drop k) l v:=by
 unfold Eh;rw[awO (k:=k) (fun u A=>by grind),List.all_append]
 grind
def awR(x:Instance)(l:List Visit)(v:Visit)(hl:l.length<=1048576)(hb:x.before.length<=1048576):PC prog 317 [.agg (aD x),.sl (l.map aN),.agg (aN v)] (boo (tC x l v)):=by
 refine pcd func317 rfl rfl ?_;simp only[go_sem];refine aL (F7 l v hl) ?_;simp only[go_sem];apply aA <;> intro c1
 ·simp only[go_sem]
  grind[bU,tC]
 have c1:decide (cD l v>=0)=false:=c1;have hW:=xB x.y5 v.order;simp only[go_sem];refine aL (wD x.y5 v.order) ?_;simp only[go_sem,Xac];have hr:tC x l v=(Eh (gD x.y5 v.order) l v&&aiW x l v):=by grind[tC]
 generalize gD x.y5 v.order=W at *;refine J2 (fun ah _=>ah 1=.sl (l.map aN)/\ah 3=.rp (aD x) 0/\ah 5=.rp (aN v) 0/\Eh W l v=true) ?_ fun Q hQ ao=>?_
 ·rintro ρ H ⟨h1,h3,h5,an⟩;rw[an,Xay]at hr;simp only[go_sem,h3,Xac];refine⟨fun ρ H=>∃(k:Nat),k<=x.before.length/\ρ 1=.sl (l.map aN)/\ρ 3=.rp (aD x) 0/\ρ 5=.rp (aN v) 0/\ρ 36=.sl (x.before.map dN)/\ρ 37=int (x.before.length:Nat)/\ρ 38=int k/\(∀q∈x.before.take k,((q.b != v.order)||(gD x.y5 q.a).all (wA l))=true),fun ρ _=>x.before.length-aT (ρ 38),⟨0,Xaa _,by simp only[go_sem,h1,],h3,h5,by rfl,by rfl,(by rfl),by simp⟩,?_⟩;rintro ρ H ⟨k,hk,U,e3,O,J,I,F,hz⟩;simp only[go_sem,I,F];refine aA (fun A=>?_) (fun Y=>?_)
  ·have A:=ltB (by omega);obtain⟨q,hq⟩:=aK A;have b1:=inB A;simp only[go_sem,J,F,aC hq,b1];refine aH fun aw T=>?_
   simp only[go_sem];refine bW T (by simp[oN]) fun af (al:af aw=some (⟨148,2,[dN q]⟩)) N=>?_
   clear N T;simp only[go_sem,O,al];refine⟨by decide,aA (fun E=>?_) (fun E=>?_)⟩
   ·simp only[go_sem,U,e3,O,J,I,F,aQ k];exact⟨⟨k+1,A,rfl,aS (p:=fun q:Pair=>((q.b != v.order)||(gD x.y5 q.a).all (wA l))=true) hq (by grind) hz⟩,msr A⟩
   have E:(q.b != v.order)=false:=E;have hV:=xB x.y5 q.a;simp only[go_sem,e3,al];refine⟨by decide,PC.use (wD x.y5 q.a) ?_⟩;simp only[go_sem,Xac];have ay:((q.b != v.order)||(gD x.y5 q.a).all (wA l))=(gD x.y5 q.a).all (wA l):=by grind
   generalize ax:gD x.y5 q.a=V at *;refine⟨fun ρ _=>∃m:Nat,m<=V.length/\ρ 1=.sl (l.map aN)/\ρ 3=.rp (aD x) 0/\ρ 5=.rp (aN v) 0/\ρ 36=.sl (x.before.map dN)/\ρ 37=int x.before.length/\ρ 38=int (k:Nat)/\ρ 51=.sl (V.map aN)/\ρ 52=int V.length/\ρ 53=int (m:Nat)/\∀u∈V.take m,wA l u=true,fun ρ _=>V.length-aT (ρ 53),⟨0,Xaa _,by simp only[go_sem,U,],by simp only[go_sem,e3,],by simp only[go_sem,O,],by simp only[go_sem,J,],I,F,by rfl,by rfl,by rfl,by simp⟩,?_⟩;rintro ρ H ⟨m,hm,U,e3,O,J,I,F,am,ai,ag,hy⟩;simp only[go_sem,ai,ag];refine aA (fun aa=>?_) (fun aj=>?_)
   ·have aa:=ltB (by omega);obtain⟨u,hu⟩:=aK aa;have b2:=inB aa;simp only[go_sem,am,ag,aC hu,b2];refine aH fun av X=>?_
    simp only[go_sem];refine bW X (by simp[dG]) fun ac (ar:ac av=some ((⟨97,2,[aN u]⟩:Row))) N=>?_
    clear N X;simp only[go_sem,U,ar];refine aL (F7 l u hl) ?_;simp only[go_sem];apply aA <;> intro au
    ·simp only[go_sem];refine bU ?_;have Z:wA l u=false:=by grind[wA]
     rw[hr];unfold aiW
     grind
    ·have Z:wA l u=true:=by grind[wA]
     simp only[go_sem,U,e3,O,J,I,F,am,ai,ag,aQ m];exact⟨⟨m+1,aa,rfl,aS (p:=fun u:Visit=>wA l u=true) hu Z hy⟩,by grind[aJ]⟩
   have aj:=geB hm (by omega);subst aj;rw[Xad]at hy;simp only[go_sem,U,e3,O,J,I,F,aQ k];exact⟨⟨k+1,A,rfl,aS (p:=fun q:Pair=>((q.b != v.order)||(gD x.y5 q.a).all (wA l))=true) hq (by grind) hz⟩,msr A⟩
  have Y:=geB hk (by omega);subst Y;rw[Xad]at hz;simp only[go_sem]
  grind[bU,aiW]
 refine⟨fun ρ H=>∃(k:Nat),k<=W.length/\ρ 1=.sl (l.map aN)/\ρ 3=.rp (aD x) 0/\ρ 5=.rp (aN v) 0/\ρ 21=.sl (W.map aN)/\ρ 22=int (W.length:Nat)/\ρ 23=int k/\(∀u∈W.take k,eqV u v=false/\wA l u=true),fun ρ _=>W.length-aT (ρ 23),⟨0,Xaa _,rfl,rfl,rfl,rfl,rfl,(by rfl),by simp⟩,?_⟩;rintro ρ H ⟨k,hk,U,e3,O,ap,aq,ae,hz⟩;simp only[go_sem,aq,ae];refine aA (fun A=>?_) (fun Y=>?_)
 ·have A:=ltB (by omega);obtain⟨u,hu⟩:=aK A;have b1:=inB A;have hp:=acS (l:=l) (v:=v) hz;rw[uW hu]at hp;simp only[go_sem,ap,ae,aC hu,b1];refine aH fun i8 ab=>?_
  simp only[go_sem];refine bW ab (by simp[dG]) fun ak (R8:ak i8=some ((⟨97,2,[aN u]⟩:Row))) N=>?_
  clear N ab;simp only[go_sem,O,R8];apply aA <;> intro E
  ·have E:eqV u v=true:=E;simp only[go_sem];refine hQ _ _ ⟨by simp only[go_sem,U,],by simp only[go_sem,e3,],by simp only[go_sem,O,],?_⟩
   grind[Eh,List.takeWhile_cons]
  have E:eqV u v=false:=E;simp only[go_sem,U,R8];refine aL (F7 l u hl) ?_;simp only[go_sem];apply aA <;> intro au
  ·have Z:wA l u=false:=by grind[wA]
   simp only[go_sem];refine ao _ _ ?_;simp only[go_sem]
   grind[bU,Eh,List.takeWhile_cons]
  ·have Z:wA l u=true:=by grind[wA]
   simp only[go_sem,U,e3,O,ap,aq,ae,aQ k];exact⟨⟨k+1,A,rfl,aS (p:=fun u:Visit=>eqV u v=false/\wA l u=true) hu ⟨E,Z⟩ hz⟩,msr A⟩
 have Y:=geB hk (by omega);subst Y;have hp:=acS (l:=l) (v:=v) hz;rw[Xbr]at hp;simp only[go_sem];exact hQ _ _ ⟨by simp only[go_sem,U,],by simp only[go_sem,e3,],by simp only[go_sem,O,],hp⟩
def Qu(x:Instance)(i:Nat):Bool:=match x.y5[i]? with|some o=>o.off|none=>false
def Iv(x:Instance)(set:Int)(i:Nat):Bool:=(decide ((i:Int)>62)||(vY .and .i64 (shV .shr .i64 set (i:Nat)) 1 == 0))||Qu x i
def CK(x:Instance)(set:Int)(l:List Visit)(i:Nat):List Visit:=if Iv x set i=true then[]else(gD x.y5 (i:Nat)).filter (tC x l)
def Al(x:Instance)(set:Int)(l:List Visit)(k:Nat):List Visit:=(List.range k).flatMap (CK x set l)
def qA(x:Instance)(set:Int)(l:List Visit):List Visit:=Al x set l x.y5.length
def IF(x:Instance)(set:Int)(l:List Visit)(k:Nat):Al x set l (k+1)=Al x set l k++CK x set l k:=by grind[Al,Xas]
def XW(x:Instance)(set:Int)(l:List Visit)(i:Nat):(CK x set l i).length<=2:=by grind[CK,xB]
def Fe(x:Instance)(set:Int)(l:List Visit):∀k,(Al x set l k).length<=2*k
 | 0=>Xae _
 | k+1=>by rw[IF,Xar];have:=Fe x set l k;have:=XW x set l k;omega
abbrev Qv(l:List Visit):Row:=⟨97,2,l.map aN⟩
def RO{α:Type}{p:α->Bool}{l:List α}{k:Nat}{a:α}(h:l[k]?=some a):(l.take (k+1)).filter p=(l.take k).filter p++(if p a=true then[a]else[]):=by simp_all[aY,List.filter_cons]
def auH(x:Instance)(set:Int)(l:List Visit)(hl:l.length<=1048576)(hb:x.before.length<=1048576)(hx:x.y5.length<=100000):PC prog 268 [.agg (aD x),int set,.sl (l.map aN)] (.sl ((qA x set l).map aN)):=by
 refine pcb (fun t=>t == 7) func268 rfl rfl ?_;simp only[go_sem];refine eJ fun j aj am (R:aj j=some (Qv [])) N=>?_
 simp only[go_sem];refine⟨fun ρ H=>∃(k:Nat) (j:Nat),k<=x.y5.length/\ρ 1=int set/\ρ 2=.sl (l.map aN)/\ρ 3=.rp (aD x) 0/\ρ 13=.sl (x.y5.map bE)/\ρ 14=int (x.y5.length:Nat)/\ρ 15=int k/\ρ 7=.os j/\H j=some (Qv (Al x set l k)),fun ρ _=>x.y5.length-aT (ρ 15),⟨0,j,Xaa _,rfl,rfl,rfl,rfl,rfl,(by rfl),rfl,R⟩,?_⟩;rintro ρ H ⟨k,j,hk,Z,e2,U,J,E,A,e7,R⟩;simp only[go_sem,E,A];refine aA (fun I=>?_) (fun ah=>?_)
 ·have I:=ltB (by omega);obtain⟨o,ho⟩:=aK I;have b1:=inB I;have hs:=IF x set l k;have ao:=Fe x set l k;have an:Qu x k=o.off:=by grind[Qu]
  have al:Iv x set k=((decide ((k:Int)>62)||(vY .and .i64 (shV .shr .i64 set (k:Nat)) 1 == 0))||o.off):=by grind[Iv]
  have hA:CK x set l k=if Iv x set k=true then[]else(gD x.y5 (k:Nat)).filter (tC x l):=rfl
  rw[hA,al]at hs;generalize Al x set l k=L at *;simp only[go_sem,J,A,aC ho,b1];refine aH fun i9 ag=>?_
  simp only[go_sem];refine bW ag (by simp[nI]) fun af (R9:af i9=some ((⟨60,16,[bE o]⟩:Row))) N=>?_
  replace R:=(N R).2;simp only[go_sem,Z,R9];refine⟨fun _=>by omega,?_⟩;apply aA <;> intro hc
  ·rw[if_pos hc,Xat]at hs;simp only[go_sem,Z,e2,U,J,E,A,e7,aQ k];refine⟨⟨k+1,j,I,rfl,rfl,?_⟩,msr I⟩
   grind
  rw[if_neg (by grind)]at hs;simp only[go_sem,U,];refine aL (wD x.y5 (k:Nat)) ?_;simp only[go_sem,Xac];have hV:=xB x.y5 (k:Nat);generalize gD x.y5 (k:Nat)=V at *;refine⟨fun ρ H=>∃m j:Nat,m<=V.length/\ρ 1=int set/\ρ 2=.sl (l.map aN)/\ρ 3=.rp (aD x) 0/\ρ 13=.sl (x.y5.map bE)/\ρ 14=int x.y5.length/\ρ 15=int (k:Nat)/\ρ 36=.sl (V.map aN)/\ρ 37=int V.length/\ρ 38=int (m:Nat)/\ρ 7=.os j/\H j=some (Qv (L++(V.take m).filter (tC x l))),fun ρ _=>V.length-aT (ρ 38),⟨0,j,Xaa _,by simp only[go_sem,Z,],by simp only[go_sem,e2,],by simp only[go_sem,U,],by simp only[go_sem,J,],by simp only[go_sem,E,],A,by rfl,by rfl,by rfl,e7,by grind⟩,?_⟩;rintro ρ H ⟨m,j,hm,Z,e2,U,J,E,A,ab,X,T,e7,R⟩;simp only[go_sem,X,T];refine aA (fun O=>?_) (fun ae=>?_)
  ·have O:=ltB (by omega);obtain⟨u,hu⟩:=aK O;have b2:=inB O;have Y:=RO (p:=tC x l) hu;have ap:((V.take m).filter (tC x l)).length<=2:=Xaf (Xbs _ _) (by grind);simp only[go_sem,ab,T,aC hu,b2];generalize (V.take m).filter (tC x l)=F at *;refine aH fun i11 ac=>?_
   simp only[go_sem];refine bW ac (by simp[dG]) fun aa (ai:aa i11=some ((⟨97,2,[aN u]⟩:Row))) N=>?_
   replace R:=(N R).2;simp only[go_sem,e2,U,ai];refine aL (awR x l u hl hb) ?_;simp only[go_sem];apply aA <;> intro ak
   ·rw[if_pos ak]at Y;simp only[go_sem,e7,ai];refine aU R ⟨rfl,rfl⟩ (by simp only[go_sem]) (by grind) (fun j2 aq=>?_);simp only[go_sem,Z,e2,U,J,E,A,ab,X,T,aQ m];refine⟨⟨m+1,j2,O,rfl,rfl,?_⟩,by grind[aJ]⟩;rw[Y,<-Xaw,aB];simp
   ·rw[if_neg (by grind),Xat]at Y;simp only[go_sem,Z,e2,U,J,E,A,ab,X,T,e7,aQ m];refine⟨⟨m+1,j,O,rfl,rfl,?_⟩,by simp only[aJ];omega⟩
    grind
  have ae:=geB hm (by omega);subst ae;rw[Xad]at R;simp only[go_sem,Z,e2,U,J,E,A,e7,aQ k];refine⟨⟨k+1,j,I,rfl,rfl,?_⟩,msr I⟩
  grind
 have ah:=geB hk (by omega);subst ah;simp only[go_sem,e7];exact .row _ _ _ R (ConvE.refl _)
end Sq
end Go.Proofs.YtkfhgjihlbilpaaGreatDoor
section
namespace Go.Aw
open Go.RowKit
section
variable{P:Program}{f:FuncId}{args:List AV}{H:aM}{K:AV->aM->Prop}{r:AV}
def Sup(H H':aM):Prop:=∀k row,H k=some row->H' k=some row
def Rl(H:aM)(r:AV)(a:AV)(H':aM):Prop:=Sup H H'/\∃l:List Nat,(∀k,k∈l->H k=none)/\Conv (fun k=>if k∈l then H' k else none) a r
def bQ.data(h:bQ P f args H (Rl H r))(F:K r H):bQ P f args H K:=by
 intro S w vals J ha;refine(h S w vals J ha).mono fun e w' ⟨v,x,H',S',O,⟨I,l,hl,Z⟩,E,T,U,hn⟩=>?_
 obtain⟨h1,X,h3⟩:=E.frz l;refine⟨v,r,H,S'.froze _,O,F,h1.drop (fun k row Y=>?_),Z.rep h3 T,U.trans X,fun k _ h0=>h0⟩;have A:¬k∈l:=fun A=>by grind
 show(if k∈l then none else H' k)=some row;rw[if_neg A];exact I k row Y
def LC(P:Program)(f:FuncId)(args:List AV)(H:aM)(r:AV):Prop:=∀K:AV->aM->Prop,K r H->bQ P f args H K
def LC.use(h:LC P f args H r)(A:K r H):bQ P f args H K:=h K A
def LC.body{fn:Func}{c:Code}(mt:Nat->Bool)(I:P.follows .mixedOrders=true)(A:P.funcs[f]?=some fn)(J:fn.body=some c)(F:El fn c args.length=true)
 (h:awp P (bQ P) (eN P) mt c (MH P fn.results.toList (Rl H r)) (Ho args) H):LC P f args H r:=fun K E=>bQ.data (bQ.body mt I A J F h) E
theorem Sup.refl(H:aM):Sup H H:=fun _ _ h=>h
def Sup.upd{H H':aM}(h:Sup H H'){i:Nat}(E:H i=none)(a:Option Row):Sup H (aI H' i a):=fun k row A=>by rw[aF _ _ _ _ (fun e=>by grind)];exact h k row A
def Sup.none{H H':aM}(h:Sup H H'){i:Nat}(A:H' i=none):H i=none:=by
 cases e:H i with
 | none=>rfl
 | some row=>rw[h i row e]at A;cases A
def Sup.eq{H A B:aM}(h:Sup H A)(e:A=B):Sup H B:=e▸h
def Sup.at{H H':aM}(h:Sup H H'){i:Nat}{row:Row}(A:H i=some row):H' i=some row:=h i row A
def Sup.ne{H H':aM}(h:Sup H H'){i j:Nat}{row:Row}(A:H i=some row)(E:H j=.none):i≠j:=fun e=>by grind
theorem Rl.flat{H H':aM}(h:Sup H H')(r:AV):Rl H r r H':=⟨h,[],by simp,.refl r⟩
def qY{l:List Nat}{H A:aM}{K:Env->aM->Prop}{ρ:Env}(F:∀k,k∉l->A k=H k)(h:K ρ H):tK l H K ρ A:=fun _ E h1 I=>by
 have:E=H:=funext fun k=>by grind
 grind
def xG{l:List Nat}{H A:aM}{K:Env->aM->Prop}{ρ:Env}{i:Nat}{r:Option Row}(F:∀k,k∉l->A k=H k)(I:i∉l)(h:K ρ (aI H i r)):tK l H K ρ (aI A i r):=fun _ E h1 J=>by
 have:E=aI H i r:=funext fun k=>by grind[aF,aB]
 grind
def tD{l:List Nat}{H A:aM}{K:Env->aM->Prop}{ρ:Env}{i:Nat}{a:Option Row}{b:Row}(I:∀k,k∉l->A k=H k)(J:A i=none)(h:H i=none->K ρ (aI (aI H i a) i (some b))):tK l H K ρ (aI (aI A i a) i (some b)):=fun h0 F h1 O=>by
 have E:i∉l:=fun e=>by grind[aB]
 have:F=aI (aI H i a) i (some b):=funext fun k=>by grind[aF,aB]
 grind
end
end Go.Aw
end
section
namespace Go.Proofs.YtkfhgjihlbilpaaGreatDoor.Sq
open Go.Aw Go.Aw.D Go.Proofs Ty
open Go.Proofs.YtkfhgjihlbilpaaGreatDoor.Nu (ltB geB)
open Mv (bS bU aS)
def MZ(L:List Nat):Nat:=(L.map fun a=>2^62-a).sum
def SI:∀{L:List Nat} {i u v:Nat},L[i]?=some u->u<v->v<=2^62->MZ (L.set i v)<MZ L
 | [],i,u,v,h,_,_=>by grind
 | a::L,0,u,v,h,h1,h2=>by
  have:a=u:=by grind
  subst this;show(2^62-v)+(L.map fun a=>2^62-a).sum<(2^62-a)+(L.map fun a=>2^62-a).sum;omega
 | a::L,i+1,u,v,h,h1,h2=>by
  have:=SI (L:=L) (i:=i) (by grind) h1 h2
  grind[MZ]
abbrev J4(L:List Nat):Row:=⟨3,1,L.map fun n=>[int (n:Nat)]⟩
def aBU:List AV->Nat
 | [.v (.int _ a)]=>2^62-a.toNat
 | _=>0
def awB(x b:AV)(H:aM):Nat:=match x,b with
 | .os j,.v (.bool true)=>match H j with
   | some r=>(r.es.map aBU).sum+1
   | none=>0
 | _,_=>0
theorem akN{j:Nat}{H:aM}{L:List Nat}(h:H j=some (J4 L)):awB (.os j) (boo true) H=MZ L+1:=by unfold awB;simp only[h,List.map_map];rfl
theorem aAJ{j:Nat}{H:aM}:awB (.os j) (boo false) H=0:=rfl
def arK{s:Int}{a:Int}(h:a∈dA s):∃k:Nat,a=(k:Nat):=by grind[dA,rL]
def alU(s:Int):(dA s).length<=63:=by
 unfold dA rL
 grind
end Go.Proofs.YtkfhgjihlbilpaaGreatDoor.Sq
end
