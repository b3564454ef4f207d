import Derived.Lib.ItoaMem
import Derived.Test.YtkjdacijpeiphaaGreatDoorVp10
import Derived.Test.YtkjdacijpeiphaaGreatDoorVp11
set_option linter.unusedSimpArgs false
set_option linter.unusedVariables false
set_option linter.defProp false
set_option maxRecDepth 100000
namespace Go.Proofs.YtkjdacijpeiphaaGreatDoor
open Go.Aw Go.Aw.D Go.Proofs Ty
namespace Nu
open Go.Proofs.Tryz
open Go.Nu
def cV(s:ByteArray):ByteArray×ByteArray×Int:=if cP s=true then(gU s,gD s,0)else(emp,emp,3)
def Vl(s:ByteArray)(h:s.size<=1048576):PC prog 88 [str s] (.tup [str (cV s).1,str (cV s).2.1,int (cV s).2.2]):=by
 refine pcd func88 rfl rfl ?_;simp only[go_sem];refine aP (pS s h) ?_;simp only[go_sem];unfold cV;refine aA (fun A=>?_) (fun A=>?_)
 ·rw[if_neg (by simpa using A)];simp only[go_sem];exact .refl _
 ·rw[if_pos (by simpa using A)];simp only[go_sem];refine aP (zX s h) ?_;simp only[go_sem];exact .refl _
def vB(s:ByteArray):ByteArray×Int:=
 if((cV s).2.2 != 0)=true then(emp,(cV s).2.2)
 else if((mC (cV s).1 (cV s).2.1).2.2 != 0||(mC (cV s).1 (cV s).2.1).2.1.toList == (⟨#[48]⟩:ByteArray).toList)=true then((mC (cV s).1 (cV s).2.1).1,(mC (cV s).1 (cV s).2.1).2.2)
 else EX (mC (cV s).1 (cV s).2.1).1 ⟨#[49]⟩
def CD(s:ByteArray)(h:s.size<=1048576):(cV s).1.size<=1048576/\(cV s).2.1.size<=1048576/\(mC (cV s).1 (cV s).2.1).1.size<=1048576:=by
 unfold cV;split
 next F=>
  obtain⟨x,rfl,A,M,E⟩:=gJ F;have O:=x.den_pos;have I:=A.2;have J:dec x.den=zed (x.den:Int):=(fF x.den).symm;refine⟨Xag (Bb _) h,?_,?_⟩
  ·show(gD (pV x)).size<=1048576;rw[E];exact dU A.2
  ·show(mC (gU (pV x)) (gD (pV x))).1.size<=1048576;rw[M,E,J,Ew A.1 (by omega) (by omega)];refine fT ?_;have h1:=A.1;have:(x.num.fdiv (x.den:Int)).natAbs<=x.num.natAbs:=by rw[Int.fdiv_eq_ediv_of_nonneg _ (by omega)];exact Int.natAbs_ediv_le_natAbs _ _
   show(x.num.fdiv (x.den:Int)).natAbs<cU;omega
 next F=>
  refine⟨by decide,by decide,?_⟩;show(mC emp emp).1.size<=1048576;have:nM emp emp=3:=by unfold nM;rw[if_pos (by decide)]
  unfold mC;rw[this];decide
def ZS(s:ByteArray)(h:s.size<=1048576):PC prog 63 [str s] (.tup [str (vB s).1,int (vB s).2]):=by
 obtain⟨h1,E,J⟩:=CD s h;have O:vB s=(if((cV s).2.2 != 0)=true then(emp,(cV s).2.2)
  else if((mC (cV s).1 (cV s).2.1).2.2 != 0||(mC (cV s).1 (cV s).2.1).2.1.toList == (⟨#[48]⟩:ByteArray).toList)=true then((mC (cV s).1 (cV s).2.1).1,(mC (cV s).1 (cV s).2.1).2.2)
  else EX (mC (cV s).1 (cV s).2.1).1 ⟨#[49]⟩):=rfl
 have I:=Vl s h;have F:=D6 (cV s).1 (cV s).2.1 h1 E;have M:=Wl (mC (cV s).1 (cV s).2.1).1 ⟨#[49]⟩ J (by decide);generalize mC (cV s).1 (cV s).2.1=D at *;generalize cV s=p at *;generalize vB s=c at *;subst O;refine pcd func63 rfl rfl ?_;simp only[go_sem];refine aP I ?_;simp only[go_sem];refine aA (fun A=>?_) (fun A=>?_)
 ·rw[if_pos A];simp only[go_sem];exact .refl _
 rw[if_neg (by rw[A];simp)];simp only[go_sem];refine aP F ?_;simp only[go_sem];refine aA (fun A=>?_) (fun A=>?_)
 ·rw[if_pos A];simp only[go_sem];exact .refl _
 rw[if_neg (by rw[A];simp)];simp only[go_sem];refine aP M ?_;simp only[go_sem];exact .refl _
def Xu{a b:Nat}(F:a<2^63)(E:b<2^63):pU .and .i64 (a:Int) (b:Int)=((a &&& b:Nat):Int):=by
 have h:((BitVec.ofInt 64 (a:Int) &&& BitVec.ofInt 64 (b:Int)).toNat:Int)=((a &&& b:Nat):Int):=by
  rw[BitVec.toNat_and,BitVec.toNat_ofInt,BitVec.toNat_ofInt];have h1:((a:Int)%((2^64:Nat):Int)).toNat=a:=by omega
  have A:((b:Int)%((2^64:Nat):Int)).toNat=b:=by omega
  rw[h1,A]
 refine Eq.trans (congrArg IntKind.i64.wrap h) ?_;have:=Nat.and_lt_two_pow a E;exact bE (by omega)
def uH{x:Int}{i:Nat}(h:i<=62):shV .shr .i64 x (i:Int)=x/2^i:=Sq.uH h
def dC(set i:Int):Bool:=decide (i>=0)&&decide (i<=62)&&((set/2^i.toNat)%2 == 1)
def rC(set i:Int):PC prog 79 [int set,int i] (boo (dC set i)):=Sq.rC set i
def rL(set:Int)(k:Nat):List Int:=((List.range k).filter fun i:Nat=>dC set (i:Int)).map fun i:Nat=>(i:Int)
def eJ(set:Int):List Int:=rL set 63
def oS(set:Int)(k:Nat):rL set (k+1)=rL set k++(if dC set (k:Int)=true then[(k:Int)]else[]):=Sq.oS set k
def nH(set:Int)(k:Nat):(rL set k).length<=k:=Sq.nH set k
def tJ(l:List Int):Row:=⟨3,1,l.map aQ⟩
def hY(set:Int):PC prog 54 [int set] (.sl ((eJ set).map aQ)):=Sq.hY set
def xM:Nat->Nat->Nat
 | 0,_=>0
 | k+1,n=>n%2+xM k (n/2)
def FY:∀(k n:Nat),xM (k+1) n=xM k n+(n/2^k)%2
 | 0,n=>by simp[xM]
 | k+1,n=>by rw[xM,FY k (n/2),xM,Nat.div_div_eq_div_mul,show 2*2^k=2^(k+1)by rw[Nat.pow_succ,Nat.mul_comm]];omega
def Ie:∀k n:Nat,xM k n<=k
 | 0,_=>Xaf 0
 | k+1,n=>by have:=Ie k (n/2);rw[xM];omega
def JM(n:Nat):∀k:Nat,k<=63->(rL (n:Int) k).length=xM k n
 | 0,_=>rfl
 | k+1,hk=>by
  rw[oS,Xai,JM n k (by omega),FY];have h:dC (n:Int) (k:Int)=decide ((n/2^k)%2=1):=by
   unfold dC;rw[show decide ((k:Int)>=0)=true by simp,show decide ((k:Int)<=62)=true by simp;omega,Xaz,Xbe,Xbe];rw[Xao,beq_iff_eq,decide_eq_true_iff];have:((n:Int)/2^k)=((n/2^k:Nat):Int):=by norm_cast
   rw[this];omega
  rw[h];by_cases A:(n/2^k)%2=1
  ·simp[A]
  ·have:(n/2^k)%2=0:=by omega
   simp[this]
def WE(n:Nat):PC prog 45 [int n] (int (xM 63 n:Nat)):=by
 have M:=JM n 63 (Xaf _);have T:=Ie 63 n;refine pcd func45 rfl rfl ?_;simp only[go_sem];refine aP (hY n) ?_;simp only[go_sem,Xaa,eJ,M];generalize xM 63 n=P at *;refine⟨fun ρ _=>∃k:Nat,k<=P/\ρ 3=int k/\ρ 6=int (P:Nat)/\ρ 7=int k,fun ρ _=>P-aU (ρ 7),⟨0,Xab _,by simp only[go_sem];rfl,by simp only[go_sem],by simp only[go_sem];rfl⟩,?_⟩;rintro ρ H ⟨k,O,F,I,J⟩;simp only[go_sem,F,I,J];refine aA (fun A=>?_) (fun E=>?_)
 ·have A:=ltB A;simp only[go_sem,F,I,J,aT k];exact⟨⟨k+1,A,rfl⟩,by simp only[aF];omega⟩
 ·have E:=geB O E;subst E;simp only[go_sem,F];exact .refl _
def kQ(p:Int×Int):List AV:=[int p.1,int p.2]
def rF(m:List (Int×Int))(o:Int):Option Nat:=m.findIdx? fun p=>p.1 == o
def mS(m:List (Int×Int))(o:Int):Int:=((m.find? fun p=>p.1 == o).map (·.2)).getD 0
def xJ(m:List (Int×Int))(o v:Int):List (Int×Int):=match rF m o with
 | some i=>m.set i (o,v)
 | none=>m++[(o,v)]
abbrev nN(m:List (Int×Int)):Row:=⟨0,2,m.map kQ⟩
def sG(o:Int):∀(m:List (Int×Int)) (i:Nat),qC (mZ prog 3 (int o)) (m.map kQ) i=some ((rF m o).map (·+i))
 | [],i=>rfl
 | p::m,i=>by
  have ih:=sG o m (i+1);have E:mZ prog 3 (int o) ((kQ p).getD 0 .any)=some (o == p.1):=by show mZ prog 3 (int o) (int p.1)=_;unfold mZ;simp only[kk3];simp[rM]
  rw[Xat,qC,E];unfold rF at *;rw[List.findIdx?_cons];by_cases h:o=p.1
  ·subst h;simp
  ·have h1:(o == p.1)=false:=by simpa using h
   have A:(p.1 == o)=false:=by simpa using fun e=>h e.symm
   rw[h1,A];simp only[Xar,if_false];rw[ih];cases m.findIdx? (fun p=>p.1 == o)with
   | none=>rfl
   | some j=>simp;omega
def gO(o:Int)(m:List (Int×Int)):qC (mZ prog 3 (int o)) (m.map kQ) 0=some (rF m o):=by rw[sG];cases rF m o <;> rfl
def iX(o:Int):kR prog 3 (int o)=true:=by simp only[kR,kk3];rfl
def rZ(m:List (Int×Int))(o:Int):Em false (int 0) (m.map kQ) (rF m o)=int (mS m o):=by
 unfold Em mS rF;induction m with
 | nil=>rfl
 | cons p m ih=>
  rw[List.findIdx?_cons,List.find?_cons];cases h:p.1 == o with
  | true=>simp[kQ]
  | false=>
   cases A:m.findIdx? (fun p=>p.1 == o)with
   | none=>rw[A]at ih;simpa using ih
   | some j=>rw[A]at ih;simp at ih |-;exact ih
def vV(m:List (Int×Int))(o v:Int):Ta (m.map kQ) (rF m o) (int o) (int v)=(xJ m o v).map kQ:=by
 unfold Ta xJ;cases rF m o with
 | none=>simp[kQ]
 | some i=>simp[List.map_set,kQ]
def Hi(k:Int):Nat:=if k=1 then 2 else if k=2 then 1 else 0
def T5(k:Int)(P:Nat):Bool:=decide (Hi k>0)&&decide (Hi k<=P)
def Cr(k:Int)(n:Nat):Int:=if T5 k (xM 63 n)=true then 1 else 0
def ZK(k m:Int)(a b:Nat)(Y:a<2^63)(U:b<2^63):PC prog 80 [.agg [int k,int a,int m],int b] (int (Cr k (a &&& b))):=by
 have T:=WE (a &&& b);have aa:=Ie 63 (a &&& b);refine pcd func80 rfl rfl ?_;simp only[go_sem];refine aJ fun jm F=>?_
 generalize A:aI bG jm _=HM;have I:HM jm=some (nN []):=by rw[<-A,aB];rfl
 clear A F;simp only[go_sem];refine C2 I xZ (iX _) (gO _ _) ?_;rw[vV];generalize A:aI HM jm _=HN;have J:HN jm=some (nN [(1,2)]):=by rw[<-A,aB];rfl
 clear A I;simp only[go_sem];refine C2 J xZ (iX _) (gO _ _) ?_;rw[vV];generalize A:aI HN jm _=HO;have M:HO jm=some (nN [(1,2),(2,1)]):=by rw[<-A,aB];rfl
 clear A J;simp only[go_sem];refine rY M xZ (iX _) (gO _ _) zv3 ?_;rw[rZ];have Z:mS [(1,2),(2,1)] k=(Hi k:Nat):=by
  unfold mS Hi;by_cases h1:k=1
  ·subst h1;rfl
  ·by_cases E:k=2
   ·subst E;rfl
   ·have e1:((1:Int) == k)=false:=by simpa using fun e=>h1 e.symm
    have O:((2:Int) == k)=false:=by simpa using fun e=>E e.symm
    simp[List.find?,e1,O,h1,E]
 rw[Z];simp only[go_sem];rw[Xu Y U];refine⟨_,fun _=>T.q rfl,?_⟩;unfold Cr;generalize xM 63 (a &&& b)=P at *;simp only[go_sem];have X:(decide (((Hi k:Nat):Int)>0)&&decide ((P:Int)>=((Hi k:Nat):Int)))=T5 k P:=by unfold T5;rw[Xao];simp
 rw[X];refine aA (fun h=>?_) (fun h=>?_)
 ·simp only[go_sem];exact cI (by rw[if_pos h])
 ·simp only[go_sem];exact cI (by rw[if_neg (by rw[h];simp)])
end Nu
namespace Nu
open Go.Nu
def AW:∀(l:List (Int×ByteArray)) (t:ByteArray),cP t=true->(nK l t).2=0->cP (nK l t).1=true
 | [],t,h,_=>h
 | p::l,t,h,h0=>by
  unfold nK at h0 |-;split at h0
  ·next h1=>exact absurd h0 h1
  ·next h1=>
   rw[if_neg h1];split at h0
   ·next A=>exact absurd h0 A
   ·next A=>
    rw[if_neg A];exact AW l _ (EE (by simpa using A)) h0
def KB{ns:List Int}{xs:List ByteArray}(h:(fX ns xs).2=0):cP (fX ns xs).1=true:=by
 unfold fX at h |-;split at h
 ·cases h
 ·next h1=>
  rw[if_neg h1];split at h
  ·cases h
  ·next A=>rw[if_neg A];exact AW _ _ OP h
end Nu
section
structure TypeB(t:VType)(d:Int):Prop where
 cap:capR t.cap d=true
 skills:0<=t.skills/\t.skills<=1073741823
 start:0<=t.start/\t.start<=t.close
 close:t.close<=4096
 drive:1<=t.drive/\t.drive<=4096
 rest:0<=t.rest/\t.rest<=4096
 count:0<=t.count/\t.count<=10
structure OrdB(o:Order)(d:Int):Prop where
 load:mH o.load d=true
 pick: -1<=o.pick.place
 drop: -1<=o.drop.place
 both:(o.pick.place == -1&&o.drop.place == -1)=false
 wpick:Qh o.pick=0
 wdrop:Qh o.drop=0
 skills:0<=o.skills/\o.skills<=1073741823
 penalty: -1<=o.penalty/\o.penalty<=1000000
structure ArcOk(a:Arc):Prop where
 travel:qV a.travel=[]
 slow:a.slow.length<=16
 pt:∀p∈a.slow,(0<=p.t/\p.t<=4096)/\0<=p.a/\p.a<=4096
structure PairB(N:Int)(q:Pair):Prop where
 a:0<=q.a/\q.a<N
 b:0<=q.b/\q.b<N
 ne:q.a≠q.b
structure Acc(x:Instance):Prop where
 arcs:x.net.arcs.length<=1024
 arc:∀a∈x.net.arcs,ArcOk a
 types:1<=x.types.length/\x.types.length<=6
 type:∀t∈x.types,TypeB t (Y2 x.types)
 orders:x.orders.length<=10
 order:∀o∈x.orders,OrdB o (Y2 x.types)
 apart:x.apart.length<=16
 apartB:∀q∈x.apart,PairB x.orders.length q
 before:x.before.length<=16
 beforeB:∀q∈x.before,PairB x.orders.length q
end
namespace Nu
open Go.Proofs.Tryz
open Go.Nu
def qA(p:Nat->Bool):Nat->Nat
 | 0=>0
 | k+1=>qA p k+(if p k=true then 2^k else 0)
def Au(p:Nat->Bool):∀k,qA p k<2^k
 | 0=>by simp[qA]
 | k+1=>by have:=Au p k;rw[qA,Nat.pow_succ];split <;> omega
def uE(p:Nat->Bool):∀k i,(qA p k).testBit i=(decide (i<k)&&p i)
 | 0,i=>by simp[qA]
 | k+1,i=>by
  have A:=Au p k;have ih:=uE p k i;rw[qA];have E:qA p k+(if p k=true then 2^k else 0)=qA p k ||| (if p k=true then 2^k else 0):=by
   split
   ·rw[Nat.add_comm,Nat.or_comm];have:=Nat.two_pow_add_eq_or_of_lt A 1;simpa using this
   ·simp
  rw[E,Nat.testBit_or,ih];by_cases h:p k=true
  ·rw[if_pos h,Nat.testBit_two_pow];by_cases e:k=i
   ·subst e;simp[h]
   ·have:(decide (i<k+1))=decide (i<k):=by rw[Xao];simp;omega
    rw[this];simp[e]
  ·rw[if_neg h];by_cases e:k=i
   ·subst e;simp[h]
   ·have:(decide (i<k+1))=decide (i<k):=by rw[Xao];simp;omega
    rw[this];simp
def Zv{a k:Nat}(h:a<2^k):a ||| 2^k=a+2^k:=by rw[Nat.or_comm,Nat.add_comm];have:=Nat.two_pow_add_eq_or_of_lt h 1;simpa using this.symm
def Dx{a b:Nat}(A:a<2^63)(F:b<2^63):pU .or .i64 (a:Int) (b:Int)=((a ||| b:Nat):Int):=by
 have h:((BitVec.ofInt 64 (a:Int) ||| BitVec.ofInt 64 (b:Int)).toNat:Int)=((a ||| b:Nat):Int):=by
  rw[BitVec.toNat_or,BitVec.toNat_ofInt,BitVec.toNat_ofInt];have h1:((a:Int)%((2^64:Nat):Int)).toNat=a:=by omega
  have E:((b:Int)%((2^64:Nat):Int)).toNat=b:=by omega
  rw[h1,E]
 refine Eq.trans (congrArg IntKind.i64.wrap h) ?_;have:=Nat.or_lt_two_pow A F;exact bE (by omega)
def ED{i:Nat}(h:i<=62):shV .shl .i64 1 (i:Int)=((2^i:Nat):Int):=by
 show IntKind.i64.wrap (1*2^min ((i:Int)).toNat 64)=_;have:min ((i:Int)).toNat 64=i:=by omega
 rw[this,Int.one_mul];have A:(2:Nat)^i<=2^62:=Xaq (by decide) h;have E:((2:Int)^i)=((2^i:Nat):Int):=by norm_cast
 rw[E];generalize 2^i=m at A;exact bE (by omega)
def nI{s:Nat}{i:Nat}(h1:i<=62):dC (s:Int) (i:Int)=s.testBit i:=by
 rw[Nat.testBit_eq_decide_div_mod_eq];unfold dC;have A:((2:Int)^i)=((2^i:Nat):Int):=by norm_cast
 rw[Xaz,A];have:((s:Int)/((2^i:Nat):Int))=((s/2^i:Nat):Int):=rfl;rw[this];generalize s/2^i=m;rw[Xao];simp only[beq_iff_eq,decide_eq_true_eq,Xap];omega
def ET{a b:Nat}(ha:a<2^63)(Z:b<2^63):(pU .andNot .i64 (a:Int) (b:Int) == 0)=decide (a &&& b=a):=by
 have e:pU .andNot .i64 (a:Int) (b:Int)=((a-(a &&& b):Nat):Int):=by
  have h1:((a:Int)%((2^64:Nat):Int)).toNat=a:=by omega
  have I:((b:Int)%((2^64:Nat):Int)).toNat=b:=by omega
  have h:((BitVec.ofInt 64 (a:Int) &&& ~~~(BitVec.ofInt 64 (b:Int))).toNat:Int)=((a-(a &&& b):Nat):Int):=by
   have E:a &&& b<=a:=Nat.and_le_left;have J:BitVec.ofInt 64 (a:Int) &&& ~~~(BitVec.ofInt 64 (b:Int))=BitVec.ofNat 64 (a-(a &&& b)):=by
    have M:BitVec.ofInt 64 (a:Int)=BitVec.ofNat 64 a:=by apply BitVec.eq_of_toNat_eq;rw[BitVec.toNat_ofInt,BitVec.toNat_ofNat,h1,Xav (by omega)]
    have T:BitVec.ofInt 64 (b:Int)=BitVec.ofNat 64 b:=by apply BitVec.eq_of_toNat_eq;rw[BitVec.toNat_ofInt,BitVec.toNat_ofNat,I,Xav (by omega)]
    rw[M,T];have X:(BitVec.ofNat 64 a &&& ~~~BitVec.ofNat 64 b) &&& BitVec.ofNat 64 (a &&& b)=0#64:=by apply BitVec.eq_of_getLsbD_eq;intro i A;simp only[BitVec.getLsbD_and,BitVec.getLsbD_not,BitVec.getLsbD_ofNat,Nat.testBit_and,A,decide_true,Xbe,BitVec.getLsbD_zero];cases a.testBit i <;> cases b.testBit i <;> simp
    have O:(BitVec.ofNat 64 a &&& ~~~BitVec.ofNat 64 b) ||| BitVec.ofNat 64 (a &&& b)=BitVec.ofNat 64 a:=by apply BitVec.eq_of_getLsbD_eq;intro i A;simp only[BitVec.getLsbD_or,BitVec.getLsbD_and,BitVec.getLsbD_not,BitVec.getLsbD_ofNat,Nat.testBit_and,A,decide_true,Xbe];cases a.testBit i <;> cases b.testBit i <;> rfl
    have U:=congrArg BitVec.toNat ((BitVec.add_eq_or_of_and_eq_zero _ _ X).trans O);rw[BitVec.toNat_add,BitVec.toNat_ofNat,BitVec.toNat_ofNat,Xav (by omega:a<2^64),Xav (by omega:a &&& b<2^64)]at U;apply BitVec.eq_of_toNat_eq;rw[BitVec.toNat_ofNat,Xav (by omega)];have Y:=(BitVec.ofNat 64 a &&& ~~~BitVec.ofNat 64 b).isLt;have F:(BitVec.ofNat 64 a &&& ~~~BitVec.ofNat 64 b).toNat<=a:=by rw[BitVec.toNat_and,BitVec.toNat_ofNat,Xav (by omega:a<2^64)];exact Nat.and_le_left
    omega
   rw[J,BitVec.toNat_ofNat,Xav (by omega)]
  refine Eq.trans (congrArg IntKind.i64.wrap h) ?_;exact bE (by omega)
 rw[e,Xao];have E:a &&& b<=a:=Nat.and_le_left;simp only[beq_iff_eq,decide_eq_true_eq];omega
def Th(a b:Nat)(A:a<2^63)(E:b<2^63):PC prog 72 [int a,int b] (boo (decide (a &&& b=a))):=by refine pcd func72 rfl rfl ?_;simp only[go_sem];exact cB (ET A E)
def qP(q:Order->Bool)(l:List Order)(i:Nat):Bool:=match l[i]? with|some o=> !o.off&&q o|none=>false
def DU{q:Order->Bool}{l:List Order}{i:Nat}{o:Order}(h:l[i]?=some o):qP q l i=(!o.off&&q o):=by unfold qP;rw[h]
def LL(q:Order->Bool)(l:List Order):Nat:=qA (qP q l) l.length
def Vi{g:Nat}{q:Order->Bool}(x:Instance)(hx:x.orders.length<=62)(aa:aH prog g=true)(hg:∀o∈x.orders,PC prog g [.agg (bF o)] (boo (q o))):
  PC prog 82 [.agg (aE x),.v (.func (.func g) #[] #[])] (int (LL q x.orders:Nat)):=by
 refine pcd func82 rfl rfl ?_;simp only[go_sem];unfold LL;generalize hp:qP q x.orders=p;refine⟨fun ρ H=>∃(k:Nat),k<=x.orders.length/\ρ 1=.v (.func (.func g) #[] #[])/\ρ 9=.sl (x.orders.map bF)/\ρ 10=int (x.orders.length:Nat)/\ρ 11=int k/\ρ 5=int (qA p k:Nat),fun ρ _=>x.orders.length-aU (ρ 11),⟨0,Xab _,by simp only[go_sem],by simp only[go_sem],by simp only[go_sem,Xaa],(by simp only[go_sem];rfl),by simp only[go_sem];rfl⟩,?_⟩;rintro ρ H ⟨k,hk,M,I,E,A,J⟩;simp only[go_sem,M,I,E,A,J];refine aA (fun F=>?_) (fun O=>?_)
 ·have F:=ltB F;obtain⟨o,T⟩:=aO F;have Y:=inB F;have U:p k=(!o.off&&q o):=by rw[<-hp];exact DU T
  have Z:=Au p k;have ab:2^k<=2^62:=Xaq (by decide) (by omega);simp only[go_sem,M,I,E,A,J,aC T,Y];refine aJ fun j hj=>?_
  simp only[go_sem,M,I,E,A,J,aC T,Y];refine aN (aB _ _ _) (by simp[bF]) ?_;simp only[go_sem,M,I,E,A,J,aC T,Y,aa];refine⟨_,fun _=>(hg o (Xac T)).q rfl,?_⟩;simp only[go_sem,M,I,E,A,J];refine aA (fun X=>?_) (fun X=>?_)
  ·have q1:=ED (i:=k) (by omega);have q2:=Dx (a:=qA p k) (b:=2^k) (by omega) (by omega);simp only[go_sem,M,I,E,A,J,q1,q2,aT k];refine⟨by omega,⟨k+1,F,rfl,?_⟩,by simp only[aF];omega⟩;rw[Zv Z,qA,U,if_pos X]
  ·simp only[go_sem,M,I,E,A,J,aT k];refine⟨⟨k+1,F,rfl,?_⟩,by simp only[aF];omega⟩;rw[qA,U,if_neg (by rw[X];simp),Nat.add_zero]
 ·have O:=geB hk O;subst O;simp only[go_sem,M,I,E,A,J];exact .refl _
def Dy(x:Instance):Nat:=LL (fun _=>true) x.orders
def Cg(x:Instance):Nat:=LL (fun o=>o.penalty == -1) x.orders
def ZQ(o:Order):PC prog 83 [.agg (bF o)] (boo true):=by refine pcd func83 rfl rfl ?_;simp only[go_sem];exact .refl _
def Xo(o:Order):PC prog 111 [.agg (bF o)] (boo (o.penalty == -1)):=by refine pcd func111 rfl rfl ?_;simp only[go_sem];exact .refl _
def KQ(x:Instance)(A:x.orders.length<=62):PC prog 55 [.agg (aE x)] (int (Dy x:Nat)):=by refine pcd func55 rfl rfl ?_;simp only[go_sem];refine aP (Vi x A (by kernel_rfl) fun o _=>ZQ o) ?_;simp only[go_sem];exact .refl _
def Vt(x:Instance)(A:x.orders.length<=62):PC prog 73 [.agg (aE x)] (int (Cg x:Nat)):=by refine pcd func73 rfl rfl ?_;simp only[go_sem];refine aP (Vi x A (by kernel_rfl) fun o _=>Xo o) ?_;simp only[go_sem];exact .refl _
def tW(n:Nat)(set:Int):Bool:=decide (set>=0)&&(set/2^n == 0)
def HV(x:Instance)(set:Int)(A:x.orders.length<=62):PC prog 44 [.agg (aE x),int set] (boo (tW x.orders.length set)):=by refine pcd func44 rfl rfl ?_;simp only[go_sem];refine⟨by omega,?_⟩;refine cB ?_;rw[uH A];rfl
def IJ{g:Nat}{cap:List AV}{p:Int->Bool}(l:List Int)(hl:l.length<=1048576)(Y:aH prog g=true)(hg:∀v∈l,PC prog g (int v::cap) (boo (p v))):
  ∃n:Int,decide (n>=0)=l.any p/\PC prog 156 [.sl (l.map aQ),.fn g cap] (int n):=by
 refine⟨match l.findIdx? p with|some i=>(i:Int)|none=> -1,?_,?_⟩
 ·cases h:l.findIdx? p with
  | none=>have:=List.findIdx?_eq_none_iff.1 h;simp only;rw[Xbb.2 (fun x Z=>by rw[this x Z];simp)];rfl
  | some i=>obtain⟨hi,hp,_⟩:=List.findIdx?_eq_some_iff_getElem.1 h;simp only;rw[Xan.2 ⟨l[i],List.getElem_mem hi,hp⟩];simp
 ·
  refine pcd func156 rfl rfl ?_;simp only[go_sem];refine⟨fun ρ H=>∃(k:Nat),k<=l.length/\ρ 0=.sl (l.map aQ)/\ρ 1=.fn g cap/\ρ 7=int (l.length:Nat)/\ρ 8=int k/\(∀u∈l.take k,p u=false),fun ρ _=>l.length-aU (ρ 8),⟨0,Xab _,by simp only[go_sem],by simp only[go_sem],by simp only[go_sem,Xaa],(by simp only[go_sem];rfl),by simp⟩,?_⟩;rintro ρ H ⟨k,hk,I,J,F,M,O⟩;simp only[go_sem,I,J,F,M];refine aA (fun A=>?_) (fun E=>?_)
  ·have A:=ltB A;obtain⟨u,T⟩:=aO A;have b1:=inB A;simp only[go_sem,I,J,F,M,aC T,b1,Y];refine aP (hg u (Xac T)) ?_;simp only[go_sem,I,J,F,M];refine aA (fun X=>?_) (fun X=>?_)
   ·simp only[go_sem,I,J,F,M];have:l.findIdx? p=some k:=by
     have U:k<l.length:=A;refine List.findIdx?_eq_some_iff_getElem.2 ⟨U,?_,fun j hj=>?_⟩
     ·have:=(List.getElem?_eq_some_iff.1 T).2;rw[this];exact X
     ·have:=O l[j] (List.mem_take_iff_getElem.2 ⟨j,by omega,rfl⟩);rw[this];simp
    rw[this];exact .refl _
   ·simp only[go_sem,I,J,F,M,aT k];exact⟨⟨k+1,A,rfl,fI (p:=fun u=>p u=false) T X O⟩,by simp only[aF];omega⟩
  ·have E:=geB hk E;subst E;rw[Xad]at O;simp only[go_sem];rw[List.findIdx?_eq_none_iff.2 O];exact .refl _
def CK{g:Nat}{cap:List AV}{p:Int->Bool}(l:List Int)(I:l.length<=1048576)(A:aH prog g=true)(F:∀v∈l,PC prog g (int v::cap) (boo (p v))):
  PC prog 113 [.sl (l.map aQ),.fn g cap] (boo (l.any p)):=by
 obtain⟨n,J,E⟩:=IJ l I A F;refine pcd func113 rfl rfl ?_;simp only[go_sem];refine aP E ?_;simp only[go_sem];exact cB J
def oG(l:List Order)(i:Int):Order:=l.getD i.toNat ⟨ByteArray.empty,[],⟨0,0,0,0⟩,⟨0,0,0,0⟩,0,0,0,0,0,false⟩
def nE{l:List Order}{i:Nat}{o:Order}(h:l[i]?=some o):oG l (i:Int)=o:=by simp[oG,List.getD,h]
def UO(l:List Order)(ms:List Int):Prop:=∀i∈ms,0<=i/\i<(l.length:Int)
def Ih(x:Instance)(g:Nat)(q:Order->Int)(i:Int)(M:0<=i/\i<(x.orders.length:Int))(E:aH prog g=true)(J:∀o,PC prog g [.agg (bF o)] (int (q o))):
  PC prog 114 [int i,.rp [.v (.func (.func g) #[] #[])] 0,.rp (aE x) 0] (boo (decide (q (oG x.orders i)>=0))):=by
 obtain⟨n,rfl⟩:=Int.eq_ofNat_of_zero_le M.1;have A:n<x.orders.length:=by omega
 obtain⟨o,F⟩:=aO A;have I:=inB A;rw[nE F];refine pcd func114 rfl rfl ?_;simp only[go_sem];refine dD (by rfl) (by kernel_rfl) ?_;simp only[go_sem,aC F,I,E];refine⟨_,(J o).q rfl,?_⟩;simp only[go_sem];exact .refl _
def Jk(o:Order):PC prog 115 [.agg (bF o)] (int o.pick.place):=by refine pcd func115 rfl rfl ?_;simp only[go_sem];exact .refl _
def KS(o:Order):PC prog 116 [.agg (bF o)] (int o.drop.place):=by refine pcd func116 rfl rfl ?_;simp only[go_sem];exact .refl _
def B5(x:Instance)(g:Nat)(q:Order->Int)(ms:List Int)(E:UO x.orders ms)(J:ms.length<=1048576)(A:aH prog g=true)(F:∀o,PC prog g [.agg (bF o)] (int (q o))):
  PC prog 112 [.v (.func (.func g) #[] #[]),.rp [.sl (ms.map aQ)] 0,.rp (aE x) 0] (boo (!(ms.any fun i=>decide (q (oG x.orders i)>=0)))):=by
 refine pcd func112 rfl rfl ?_;simp only[go_sem];refine aP (CK (p:=fun i=>decide (q (oG x.orders i)>=0)) ms J (by kernel_rfl) (fun i I=>Ih x g q i (E i I) A F)) ?_;simp only[go_sem];exact .refl _
def ZM(x:Instance)(ms:List Int):Bool:= !(ms.any fun i=>decide ((oG x.orders i).pick.place>=0))|| !(ms.any fun i=>decide ((oG x.orders i).drop.place>=0))
def MY(x:Instance)(ms:List Int)(A:UO x.orders ms)(E:ms.length<=1048576):PC prog 74 [.agg (aE x),.sl (ms.map aQ)] (boo (ZM x ms)):=by refine pcd func74 rfl rfl ?_;simp only[go_sem];refine aP (B5 x _ (fun o=>o.pick.place) ms A E (by kernel_rfl) Jk) ?_;simp only[go_sem];refine⟨_,fun _=>(B5 x _ (fun o=>o.drop.place) ms A E (by kernel_rfl) KS).q rfl,?_⟩;simp only[go_sem];exact .refl _
def tB:List Int->List Int->Int->Int×Int
 | n::a,c::l,t=>if n<=0 then tB a l t else if c=0 then(0,24)else tB a l (jL t ((n+c-1).tdiv c))
 | _,_,t=>(t,0)
def zB(a c:List Int):Int×Int:=if a.length≠c.length then(0,2)else if c.any (fun n=>decide (n<0))=true then(0,2)else tB a c 0
def Mid(n:Int):Prop:= -1099511627776<=n/\n<=1099511627776
def Uw(a c:List Int)(hl:a.length<=1048576)(ae:c.length<=1048576)(ha:∀n∈a,Mid n)(hc:∀n∈c,Mid n):
  PC prog 117 [.sl (a.map aQ),.sl (c.map aQ)] (.tup [int (zB a c).1,int (zB a c).2]):=by
 refine pcd func117 rfl rfl ?_;simp only[go_sem];refine aA (fun hb=>?_) (fun hb=>?_)
 ·have hb:a.length≠c.length:=neN hb;simp only[go_sem];rw[show zB a c=(0,2)from if_pos hb];exact .refl _
 have hb:a.length=c.length:=eqN hb;have X:zB a c=if c.any (fun n=>decide (n<0))=true then(0,2)else tB a c 0:=if_neg (by simp[hb])
 rw[X];simp only[go_sem,Xaa];refine⟨fun ρ H=>∃(k:Nat),k<=c.length/\ρ 0=.sl (a.map aQ)/\ρ 1=.sl (c.map aQ)/\ρ 17=.sl (c.map aQ)/\ρ 18=int (c.length:Nat)/\ρ 19=int k/\(∀n∈c.take k,0<=n),fun ρ _=>c.length-aU (ρ 19),⟨0,Xab _,by simp only[go_sem],by simp only[go_sem],by simp only[go_sem],by simp only[go_sem,Xaa],(by simp only[go_sem];rfl),by simp⟩,?_⟩;rintro ρ H ⟨k,hk,X,J,F,I,E,hz⟩;simp only[go_sem,X,J,F,I,E];refine aA (fun A=>?_) (fun M=>?_)
 ·have A:=ltB A;obtain⟨n,Y⟩:=aO A;have b1:=inB A;simp only[go_sem,X,J,F,I,E,aC Y,b1];refine aA (fun hd=>?_) (fun hd=>?_)
  ·simp only[go_sem];rw[if_pos (Di Y hd)];exact .refl _
  ·simp only[go_sem,X,J,F,I,E,aT k];exact⟨⟨k+1,A,rfl,fI Y (by simpa using hd) hz⟩,by simp only[aF];omega⟩
 have M:=geB hk M;subst M;rw[Xad]at hz;rw[if_neg (by rw[AJ fun n Y=>by simpa using hz n Y];simp)];simp only[go_sem,X,J,F,I,E,Xaa];refine⟨fun ρ H=>∃(k:Nat) (t:Int),k<=a.length/\ρ 1=.sl (c.map aQ)/\ρ 26=.sl (a.map aQ)/\ρ 27=int (a.length:Nat)/\ρ 28=int k/\ρ 8=int t/\tB a c 0=tB (a.drop k) (c.drop k) t,fun ρ _=>a.length-aU (ρ 28),⟨0,0,Xab _,by simp only[go_sem,X,J,F,I,E],by simp only[go_sem,X,J,F,I,E],by simp only[go_sem,Xaa,X,J,F,I,E],(by simp only[go_sem,X,J,F,I,E];rfl),by simp only[go_sem],rfl⟩,?_⟩;rintro ρ H ⟨k,t,hk,J,U,T,O,e8,Z⟩;simp only[go_sem,J,U,T,O,e8];refine aA (fun A=>?_) (fun M=>?_)
 ·have A:=ltB A;obtain⟨n,Y⟩:=aO A;obtain⟨m,hm⟩:=aO (l:=c) (k:=k) (by omega);have b1:=inB A;have b2:=inB (show k<c.length by omega);have ab:=ha n (Xac Y);have aa:=hc m (Xac hm);have ac:=hz m (Xac hm);unfold Mid at ab aa;rw[IY Y,IY hm,tB]at Z;simp only[go_sem,J,U,T,O,e8,aC Y,aC hm,b1,b2];refine aA (fun hd=>?_) (fun hd=>?_)
  ·rw[if_pos (by simpa using hd)]at Z;simp only[go_sem,J,U,T,O,e8,aT k];exact⟨⟨k+1,t,A,rfl,rfl,Z⟩,by simp only[aF];omega⟩
  have hd:¬n<=0:=by simpa using hd
  rw[if_neg hd]at Z;simp only[go_sem,J,U,T,O,e8];refine aA (fun h0=>?_) (fun h0=>?_)
  ·rw[if_pos (by simpa using h0)]at Z;rw[Z];simp only[go_sem];exact .refl _
  have h0:m≠0:=by simpa using h0
  rw[if_neg h0]at Z;have w1:IntKind.i64.wrap (n+m)=n+m:=bE (by omega);have w2:IntKind.i64.wrap (n+m-1)=n+m-1:=bE (by omega);have w3:IntKind.i64.wrap ((n+m-1).tdiv m)=(n+m-1).tdiv m:=bE (by have h1:=Int.tdiv_nonneg (a:=n+m-1) (b:=m) (by omega) (by omega);have h2:=Int.tdiv_le_self m (a:=n+m-1) (by omega);omega);simp only[go_sem,J,U,T,O,e8,w1,w2,w3,aT k];exact⟨h0,⟨k+1,_,A,rfl,rfl,Z⟩,by simp only[aF];omega⟩
 ·have M:=geB hk M;subst M;have ea:a.drop a.length=[]:=Xbi;have:tB a c 0=(t,0):=by rw[Z,ea];unfold tB;rfl
  rw[this];simp only[go_sem,J,U,T,O,e8];exact .refl _
def zV(l:List Order)(dim:Nat)(i:Int):Int:=(oG l i).load.getD dim 0
def gZ(l:List Order)(ms:List Int)(dim:Nat):Int:=(ms.map (zV l dim)).sum
def nO(l:List VType)(dim:Nat):Int:=l.foldl (fun c t=>jL c (t.cap.getD dim 0)) 0
def HD(x:Instance)(ms:List Int)(dim:Nat):Int:=if(zB [gZ x.orders ms dim] [nO x.types dim]).2≠0 then 0 else(zB [gZ x.orders ms dim] [nO x.types dim]).1
structure LoadsOk(x:Instance)(d:Nat):Prop where
 dims:d<=3
 orders:x.orders.length<=62
 types:x.types.length<=1048576
 load:∀o∈x.orders,o.load.length=d/\∀n∈o.load,0<=n/\n<=1000
 cap:∀t∈x.types,t.cap.length=d/\∀n∈t.cap,0<=n/\n<=1000
def Gj{x:Instance}{d A:Nat}(h:LoadsOk x d)(M:A<d){i:Int}(J:0<=i/\i<(x.orders.length:Int)):0<=zV x.orders A i/\zV x.orders A i<=1000:=by obtain⟨n,rfl⟩:=Int.eq_ofNat_of_zero_le J.1;obtain⟨o,F⟩:=aO (show n<x.orders.length by omega);unfold zV;rw[nE F];obtain⟨h1,I⟩:=h.load o (Xac F);obtain⟨v,E⟩:=aO (show A<o.load.length by omega);rw[List.getD,E];exact I v (Xac E)
def yV{x:Instance}{d A:Nat}(h:LoadsOk x d)(E:A<d):∀{ms:List Int},UO x.orders ms->0<=gZ x.orders ms A/\gZ x.orders ms A<=1000*ms.length
 | [],_=>by simp[gZ]
 | i::ms,hm=>by
  have h1:=Gj h E (hm i (by simp));have F:=yV h E (ms:=ms) fun j I=>hm j (by simp[I])
  unfold gZ at F |-;rw[Xat,List.sum_cons,Xae];omega
def It(l:List Order)(ms:List Int)(i:Int)(A:Nat):gZ l (ms++[i]) A=gZ l ms A+zV l A i:=by simp[gZ]
def B0(l:List VType)(t:VType)(A:Nat):nO (l++[t]) A=jL (nO l A) (t.cap.getD A 0):=by simp[nO]
def Xj{a b c:Int}(h1:0<=a/\a<=c)(A:0<=b/\b<=c):0<=jL a b/\jL a b<=c:=by unfold jL;split <;> omega
def Fz{x:Instance}{d A:Nat}(h:LoadsOk x d)(M:A<d):∀k,0<=nO (x.types.take k) A/\nO (x.types.take k) A<=1000
 | 0=>by simp[nO]
 | k+1=>by
  have ih:=Fz h M k;rcases Xay k x.types.length with F|F
  ·obtain⟨t,I⟩:=aO F;rw[aZ I,B0];obtain⟨h1,J⟩:=h.cap t (Xac I);obtain⟨v,E⟩:=aO (show A<t.cap.length by omega);refine Xj ih ?_;rw[List.getD,E];exact J v (Xac E)
  ·rw[Xam (by omega)]at ih |-;exact ih
def Yd(x:Instance)(ms:List Int)(A d:Nat)(h:LoadsOk x d)(hd:A<d)(hm:UO x.orders ms)(hl:ms.length<=63):
  PC prog 75 [.agg (aE x),.sl (ms.map aQ),int A] (int (HD x ms A)):=by
 have ak:=h.orders;have al:=h.types;refine pcd func75 rfl rfl ?_;simp only[go_sem];refine⟨fun ρ H=>∃(k:Nat),k<=ms.length/\ρ 2=int A/\ρ 3=.rp (aE x) 0/\ρ 8=int 0/\ρ 15=.sl (ms.map aQ)/\ρ 16=int (ms.length:Nat)/\ρ 17=int k/\ρ 7=int (gZ x.orders (ms.take k) A),fun ρ _=>ms.length-aU (ρ 17),⟨0,Xab _,by simp only[go_sem],by simp only[go_sem],by simp only[go_sem],by simp only[go_sem],by simp only[go_sem,Xaa],(by simp only[go_sem];rfl),by simp only[go_sem];rfl⟩,?_⟩;rintro ρ H ⟨k,hk,U,e3,M,I,F,J,O⟩;simp only[go_sem,U,e3,M,I,F,J,O];refine aA (fun E=>?_) (fun X=>?_)
 ·have E:=ltB E;obtain⟨i,hi⟩:=aO E;have b1:=inB E;have ae:=hm i (Xac hi);have ao:=Gj h hd ae;have am:=yV h hd (ms:=ms.take k) fun j hj=>hm j (List.mem_of_mem_take hj)
  have af:=It x.orders (ms.take k) i A;rw[<-aZ hi]at af;obtain⟨n,rfl⟩:=Int.eq_ofNat_of_zero_le ae.1;have hn:n<x.orders.length:=by omega
  obtain⟨o,ab⟩:=aO hn;obtain⟨aq,an⟩:=h.load o (Xac ab);obtain⟨v,hv⟩:=aO (show A<o.load.length by omega);have ag:zV x.orders A (n:Int)=v:=by unfold zV;rw[nE ab,List.getD,hv];rfl
  have b2:=inB hn;have b3:=inB (show A<o.load.length by omega);have ap:(ms.take k).length<=63:=by rw[Xah];omega
  have w1:IntKind.i64.wrap (gZ x.orders (ms.take k) A+v)=gZ x.orders (ms.take (k+1)) A:=by rw[af,ag,bE (by omega)]
  simp only[go_sem,U,e3,M,I,F,J,O,aC hi,b1,aC ab,b2,aC hv,b3,w1,aT k];exact⟨⟨k+1,E,rfl,rfl⟩,by simp only[aF];omega⟩
 have X:=geB hk X;subst X;rw[Xad]at O;simp only[go_sem,U,e3,M,I,F,J,O,Xaa];refine⟨fun ρ H=>∃(k:Nat),k<=x.types.length/\ρ 2=int A/\ρ 7=int (gZ x.orders ms A)/\ρ 34=.sl (x.types.map bM)/\ρ 35=int (x.types.length:Nat)/\ρ 36=int k/\ρ 8=int (nO (x.types.take k) A),fun ρ _=>x.types.length-aU (ρ 36),⟨0,Xab _,by simp only[go_sem,U,e3,M,I,F,J,O],by simp only[go_sem,U,e3,M,I,F,J,O],by simp only[go_sem,U,e3,M,I,F,J,O],by simp only[go_sem,Xaa,U,e3,M,I,F,J,O],(by simp only[go_sem,U,e3,M,I,F,J,O];rfl),by simp only[go_sem,M];rfl⟩,?_⟩;rintro ρ H ⟨k,hk,U,O,aa,Z,Y,M⟩;simp only[go_sem,U,O,aa,Z,Y,M];refine aA (fun E=>?_) (fun X=>?_)
 ·have E:=ltB E;obtain⟨t,ht⟩:=aO E;have b1:=inB E;obtain⟨h1,h2⟩:=h.cap t (Xac ht);obtain⟨v,hv⟩:=aO (show A<t.cap.length by omega);have b3:=inB (show A<t.cap.length by omega);simp only[go_sem,U,O,aa,Z,Y,M,aC ht,b1];refine aJ fun j ac=>?_
  simp only[go_sem,U,O,aa,Z,Y,M,aC ht,b1];refine bH ac (by simp[jZ]) fun ah (R:ah j=some (Dl t)) N=>?_
  clear N ac;simp only[go_sem,U,O,aa,Z,Y,M,aC ht,b1,R];simp only[go_sem,U,O,aa,Z,Y,M,aC hv,b3,aT k];refine⟨⟨k+1,E,rfl,?_⟩,by simp only[aF];omega⟩;rw[aZ ht,B0,List.getD,hv];rfl
 have X:=geB hk X;subst X;rw[Xad]at M;have hL:=yV h hd hm;have hC:=Fz h hd x.types.length;rw[Xad]at hC;simp only[go_sem,U,O,aa,Z,Y,M];have aj:∀n∈[gZ x.orders ms A],Mid n:=fun n hn=>by rw[Xax.1 hn];unfold Mid;omega
 have ai:∀n∈[nO x.types A],Mid n:=fun n hn=>by rw[Xax.1 hn];unfold Mid;omega
 refine aP (Uw [gZ x.orders ms A] [nO x.types A] (by simp) (by simp) aj ai) ?_;unfold HD;generalize zB [gZ x.orders ms A] [nO x.types A]=T;simp only[go_sem];refine aA (fun hb=>?_) (fun hb=>?_)
 ·simp only[go_sem];rw[if_pos (by simpa using hb)];exact .refl _
 ·simp only[go_sem];rw[if_neg (by simpa using hb)];exact .refl _
def yS{n:Nat}{set:Int}(h:tW n set=true):∃s:Nat,set=(s:Int)/\s<2^n:=by
 unfold tW at h;simp only[Xap,decide_eq_true_eq,beq_iff_eq]at h;obtain⟨s,rfl⟩:=Int.eq_ofNat_of_zero_le h.1;refine⟨s,rfl,?_⟩;have F:((2:Int)^n)=((2^n:Nat):Int):=by norm_cast
 have A:=h.2;rw[F]at A;have E:s/2^n=0:=by exact_mod_cast A
 exact(Nat.div_eq_zero_iff_lt (Nat.two_pow_pos n)).1 E
def YD{s n:Nat}(h:s<2^n)(T:n<=62):∀i∈eJ (s:Int),0<=i/\i<(n:Int):=by
 intro i I;unfold eJ rL at I;obtain⟨j,J,rfl⟩:=Xau.1 I;obtain⟨E,A⟩:=List.mem_filter.1 J;have M:=Xba.1 E;rw[nI (by omega)]at A;refine⟨by omega,?_⟩;rcases Xay j n with O|F
 ·omega
 ·rw[Nat.testBit_lt_two_pow (Xbf h (Xaq (by decide) F))]at A;cases A
def SI(x:Instance)(ms:List Int)(k:Nat):Int:=(List.range k).foldl (fun n dim=>jL n (HD x ms dim)) 1
def RJ(x:Instance)(ms:List Int)(k:Nat):SI x ms (k+1)=jL (SI x ms k) (HD x ms k):=by unfold SI;rw[List.range_succ,List.foldl_append];rfl
def YZ(x:Instance)(set:Int):Bool:=decide (set<=0)|| !tW x.orders.length set|| !decide (set.toNat &&& Cg x=set.toNat)
def D8(x:Instance)(d:Nat)(set:Int):Int:=if YZ x set=true then 0 else if ZM x (eJ set)=false then 1 else SI x (eJ set) d
def Aj(q:Order->Bool)(l:List Order):LL q l<2^l.length:=Au _ _
def V0(x:Instance)(d:Nat)(set:Int)(h:LoadsOk x d)(ht:x.types≠[]):PC prog 46 [.agg (aE x),int set] (int (D8 x d set)):=by
 have A:=h.orders;have ae:=h.dims;have af:Cg x<2^x.orders.length:=Aj _ _;have ac:2^x.orders.length<=2^62:=Xaq (by decide) A;refine pcd func46 rfl rfl ?_;simp only[go_sem];refine⟨_,fun _=>(HV x set A).q rfl,?_⟩;simp only[go_sem];refine⟨_,fun _=>(Vt x A).q rfl,?_⟩;simp only[go_sem];refine⟨boo (decide (set.toNat &&& Cg x=set.toNat)),fun hg=>?_,?_⟩
 ·simp at hg;obtain⟨s,rfl,hs⟩:=yS hg.2;exact(Th s (Cg x) (by omega) (by omega)).q rfl
 simp only[go_sem];refine aA (fun F=>?_) (fun F=>?_)
 ·simp only[go_sem];rw[show D8 x d set=0 from if_pos F];exact .refl _
 have e0:D8 x d set=if ZM x (eJ set)=false then 1 else SI x (eJ set) d:=if_neg (by unfold YZ;rw[F];simp)
 rw[e0];obtain⟨s,rfl,hs⟩:=yS (n:=x.orders.length) (set:=set) (by simp at F;exact F.1.2);have hm:UO x.orders (eJ (s:Int)):=YD hs A;have Z:(eJ (s:Int)).length<=63:=nH _ _;simp only[go_sem];refine aP (hY s) ?_;simp only[go_sem];refine aP (MY x (eJ s) hm (by omega)) ?_;simp only[go_sem];obtain⟨t,r,J⟩:=List.exists_cons_of_ne_nil ht;have T:((x.types.length:Int) == 0)=false:=by rw[J];rw[beq_eq_false_iff_ne];simp;omega
 simp only[go_sem,Xaa,T];refine aA (fun F=>?_) (fun F=>?_)
 ·simp only[go_sem];rw[if_pos (by simpa using F)];exact .refl _
 rw[if_neg (by simpa using F)];have b1:=inB (show 0<x.types.length by rw[J];simp);have ab:x.types[0]?=some t:=by rw[J];rfl
 have aa:=aC (f:=bM) ab;have hd:=(h.cap t (by rw[J];simp)).1;subst hd;simp only[go_sem,Xaa,aa];refine⟨by omega,?_⟩;refine⟨fun ρ H=>∃(k:Nat),k<=t.cap.length/\ρ 2=.rp (aE x) 0/\ρ 6=.sl ((eJ s).map aQ)/\ρ 41=int (t.cap.length:Nat)/\ρ 42=int k/\ρ 5=int (SI x (eJ s) k),fun ρ _=>t.cap.length-aU (ρ 42),⟨0,Xab _,by simp only[go_sem],by simp only[go_sem],by simp only[go_sem,Xaa],(by simp only[go_sem];rfl),by simp only[go_sem];rfl⟩,?_⟩;rintro ρ H ⟨k,hk,Y,U,M,E,X⟩;simp only[go_sem,Y,U,M,E,X];refine aA (fun I=>?_) (fun O=>?_)
 ·have I:=ltB I;simp only[go_sem,Y,U,M,E,X];refine aP (Yd x (eJ s) k _ h I hm Z) ?_;simp only[go_sem,Y,U,M,E,X,aT k];exact⟨⟨k+1,I,rfl,by rw[RJ]⟩,by simp only[aF];omega⟩
 ·have O:=geB hk O;subst O;simp only[go_sem,Y,U,M,E,X];exact .refl _
def mL(x:Instance)(d:Nat)(one:Cut):Int:=
 if one.kind=1 then(if(!tW x.orders.length one.set|| !((xM 63 one.set.toNat:Nat):Int) == 3)=true then 2 else if one.n≠1 then 27 else 0)
 else if one.kind=2 then(if(!tW x.orders.length one.set||one.set == 0)=true then 2 else if(decide (one.n<1)||decide (one.n>D8 x d one.set))=true then 27 else 0)
 else 8
def LD(x:Instance)(d:Nat)(A:Cut)(h:LoadsOk x d)(O:x.types≠[]):PC prog 32 [.agg (aE x),.agg (eC A)] (int (mL x d A)):=by
 have F:=h.orders;refine pcd func32 rfl rfl ?_;simp only[go_sem];unfold mL;refine aA (fun h1=>?_) (fun h1=>?_)
 ·rw[if_pos (by simpa using h1)];simp only[go_sem];refine aP (HV x A.set F) ?_;simp only[go_sem];refine⟨int (xM 63 A.set.toNat:Nat),fun J=>?_,?_⟩
  ·simp at J;obtain⟨s,M,_⟩:=yS J;rw[M];exact(WE s).q rfl
  simp only[go_sem];refine aA (fun E=>?_) (fun E=>?_)
  ·rw[if_pos (by exact E)];simp only[go_sem];exact .refl _
  rw[if_neg (by rw[show(!tW x.orders.length A.set|| !((xM 63 A.set.toNat:Nat):Int) == 3)=false from E];simp)];simp only[go_sem];refine aA (fun E=>?_) (fun E=>?_)
  ·rw[if_pos (by simpa using E)];simp only[go_sem];exact .refl _
  ·rw[if_neg (by simpa using E)];simp only[go_sem];exact .refl _
 rw[if_neg (by simpa using h1)];simp only[go_sem];refine aA (fun I=>?_) (fun I=>?_)
 ·rw[if_pos (by simpa using I)];simp only[go_sem];refine aP (HV x A.set F) ?_;simp only[go_sem];refine aA (fun E=>?_) (fun E=>?_)
  ·rw[if_pos (by exact E)];simp only[go_sem];exact .refl _
  rw[if_neg (by rw[show(!tW x.orders.length A.set||A.set == 0)=false from E];simp)];simp only[go_sem];refine dD (by rfl) (by kernel_rfl) ?_;simp only[go_sem];refine⟨_,fun _=>(V0 x d A.set h O).q rfl,?_⟩;simp only[go_sem];refine aA (fun E=>?_) (fun E=>?_)
  ·rw[if_pos (by exact E)];simp only[go_sem];exact .refl _
  ·rw[if_neg (by rw[show(decide (A.n<1)||decide (A.n>D8 x d A.set))=false from E];simp)];simp only[go_sem];exact .refl _
 ·rw[if_neg (by simpa using I)];simp only[go_sem];exact .refl _
def Ev(one:Cut):Int×Int:=if one.kind=1 then(1,1)else if one.kind=2 then(3,one.n)else(0,0)
def abP(A:Cut):PC prog 77 [.agg (eC A)] (.tup [int (Ev A).1,int (Ev A).2]):=by
 refine pcd func77 rfl rfl ?_;simp only[go_sem];unfold Ev;refine aA (fun h1=>?_) (fun h1=>?_)
 ·rw[if_pos (by simpa using h1)];simp only[go_sem];exact .refl _
 rw[if_neg (by simpa using h1)];simp only[go_sem];refine aA (fun E=>?_) (fun E=>?_)
 ·rw[if_pos (by simpa using E)];simp only[go_sem];refine dD (by rfl) (by kernel_rfl) ?_;simp only[go_sem];exact .refl _
 ·rw[if_neg (by simpa using E)];simp only[go_sem];exact .refl _
end Nu
namespace Nu
open Go.Nu
def qS(l:List Int):List AV:=[.sl (l.map aQ)]
end Nu
end Go.Proofs.YtkjdacijpeiphaaGreatDoor
section
namespace Go.So
variable{α:Type}
structure SWO(lt:α->α->Bool):Prop where
 asym:∀a b,lt a b=true->lt b a=false
 neg:∀a b c,lt a b=false->lt b c=false->lt a c=false
section
variable{lt:α->α->Bool}(h:SWO lt)
include h
end
section
variable{lt:α->α->Bool}(h:SWO lt)
include h
end
end Go.So
end
namespace Go.Proofs.YtkjdacijpeiphaaGreatDoor
open Go.Aw Go.Aw.D Go.Proofs Ty
namespace Nu
open Go.Nu Go.So
structure Broken where
 cut:Cut
 by_:ByteArray
abbrev Io(gf:Nat):AV:=.v (.func (.func gf) #[] #[])
abbrev TB:=Broken×Nat
def fs(L:List TB):List Broken:=L.map Prod.fst
end Nu
namespace Nu
open Go.Nu Go.So
section
variable{gf:Nat}{lt:Broken->Broken->Bool}{ok:Broken->Prop}
end
end Nu
namespace Nu
open Go.Nu Go.So
section
variable{gf:Nat}{lt:Broken->Broken->Bool}{ok:Broken->Prop}
end
end Nu
namespace Dec
open Go.Proofs.Tryz
def bP{H:aG}{k:IntKind}{a b:Int}(h:a=b):Conv H (.v (.int k a)) (.v (.int k b)):=h▸.refl _
def cK{H:aG}{a b:Bool}(h:a=b):Conv H (.v (.bool a)) (.v (.bool b)):=h▸.refl _
def YP{H:aG}{a b:List AV}(h:a=b):Conv H (.agg a) (.agg b):=h▸.refl _
def BP(x:Instance)(n:Int):Bool:=decide (n>=0)&&decide (n<(x.orders.length:Int))
def D2(x:Instance)(n:Int):PC prog 38 [int n,.rp (aE x) 0] (boo (BP x n)):=by refine pcd func38 rfl rfl ?_;simp only[go_sem];exact .refl _
def gS(x:Instance)(d:Decision):Int:=
 if d.kind=1\/d.kind=2 then(if BP x d.a&&BP x d.b&&d.a != d.b then 0 else 2)
 else if d.kind=5\/d.kind=6 then(if BP x d.a then 0 else 2)
 else if d.kind=3\/d.kind=4 then(if decide (d.a>=0)&&decide (d.a<(x.types.length:Int))&&decide (d.n>=0)&&decide (d.n<=10)then 0 else 2)
 else 8
def Xy(x:Instance)(d:Decision):PC prog 22 [.agg (aE x),.agg (aM d)] (int (gS x d)):=by
 refine pcd func22 rfl rfl ?_;simp only[go_sem]
 repeat' (first|(refine aP (D2 _ _) ?_)|(refine⟨_,fun _=>PC.q (D2 _ _) rfl,?_⟩)|(refine⟨_,PC.q (D2 _ _) rfl,?_⟩)|(refine aA (fun A=>?_) (fun A=>?_))|(simp only[go_sem]))
 all_goals (refine bP ?_;(try unfold gS);generalize BP x d.a=p at *;generalize BP x d.b=q at *;cases p <;> cases q <;> simp_all <;> (try omega))
def iV:List Int->Int
 | []=>0
 | e::r=>if e != 0 then e else iV r
def AC{l:List Int}{k:Nat}{e:Int}(h:∀e∈l.take k,e=0)(A:l[k]?=some e)(F:(e != 0)=true):iV l=e:=by
 induction l generalizing k with
 | nil=>simp at A
 | cons a r ih=>
  cases k with
  | zero=>simp at A;subst A;simp only[iV];rw[if_pos F]
  | succ k=>have h0:=h a (by simp);subst h0;simp only[iV];exact ih (k:=k) (fun e E=>h e (by simp[E])) (by simpa using A)
def xO{l:List Int}(h:∀e∈l,e=0):iV l=0:=by
 induction l with
 | nil=>rfl
 | cons a r ih=>have h0:=h a (by simp);subst h0;simp only[iV];exact ih fun e A=>h e (by simp[A])
def Fe{l:List Int}(h:iV l=0):∀e∈l,e=0:=by
 induction l with
 | nil=>simp
 | cons a r ih=>
  simp only[iV]at h;split at h
  ·rename_i A;simp at A;exact absurd h A
  ·rename_i A;simp at A;intro e E;rcases List.mem_cons.1 E with rfl|E;exact A;exact ih h e E
def kK(x:Instance)(l:List Decision):Int:=if decide ((l.length:Int)>1024)then 4 else iV (l.map (gS x))
def Vq(x:Instance)(l:List Decision)(hl:l.length<=1048576):PC prog 14 [.agg (aE x),.sl (l.map aM)] (int (kK x l)):=by
 refine pcd func14 rfl rfl ?_;simp only[go_sem];refine aA (fun M=>?_) (fun M=>?_)
 ·simp only[go_sem];exact bP (by unfold kK;rw[if_pos M])
 ·have Z:kK x l=iV (l.map (gS x)):=by unfold kK;rw[if_neg (by rw[M];simp)]
  rw[Z];simp only[go_sem];refine⟨fun ρ _=>∃k:Nat,k<=l.length/\ρ 2=.rp (aE x) 0/\ρ 11=.sl (l.map aM)/\ρ 12=int l.length/\ρ 13=int k/\∀e∈(l.map (gS x)).take k,e=0,fun ρ _=>l.length-aU (ρ 13),⟨0,Xab _,rfl,rfl,rfl,rfl,by simp⟩,?_⟩;rintro ρ H ⟨k,hk,O,F,E,A,X⟩;simp only[go_sem,O,F,E,A];refine aA (fun I=>?_) (fun J=>?_)
  ·have I:=bU I;obtain⟨d,U⟩:=aO I;have Y:=inB I;simp only[go_sem,O,F,E,A,aC U,Y];refine aJ fun j hj=>?_
   simp only[go_sem,O,F,E,A,aC U,Y];refine aN (aB _ _ _) (by simp[eA]) ?_;simp only[go_sem,O,F,E,A,aC U,Y];refine aP (Xy x d) ?_;simp only[go_sem,O,F,E,A];refine aA (fun M=>?_) (fun M=>?_)
   ·simp only[go_sem];exact bP (AC X (by simp[U]) M).symm
   ·simp only[go_sem,O,F,E,A,aT k];refine⟨⟨k+1,I,rfl,?_⟩,by simp only[aF];omega⟩;rw[aZ (x:=gS x d) (by simp[U])];intro e T;rcases Xas.1 T with T|T
    ·exact X e T
    ·simp at T;subst T;simpa using M
  ·have J:=bW hk J;subst J;simp only[go_sem];exact bP (xO (by rw[Xam (by simp)]at X;exact X)).symm
def dC(set i:Int):Bool:=decide (i>=0)&&decide (i<=62)&&((set/2^i.toNat)%2 == 1)
def Cs(set i:Int):PC prog 79 [int set,int i] (boo (dC set i)):=Sq.rC set i
def Xe(set i:Int):Bool:=(set/2^i.toNat)%2 == 1
def dA(d:Decision)(set:Int):Bool:=
 if d.kind=1 then dC set d.a == dC set d.b else if d.kind=2 then !dC set d.a|| !dC set d.b else if d.kind=6 then !dC set d.a else true
def UJ(d:Decision)(set:Int):PC prog 122 [.agg (aM d),int set] (boo (dA d set)):=by
 refine pcd func122 rfl rfl ?_;simp only[go_sem];refine dD (by rfl) (by kernel_rfl) ?_
 repeat' (first|(refine aP (Cs _ _) ?_)|(refine⟨_,fun _=>PC.q (Cs _ _) rfl,?_⟩)|(refine⟨_,PC.q (Cs _ _) rfl,?_⟩)|(refine aA (fun A=>?_) (fun A=>?_))|(simp only[go_sem]))
 all_goals (refine cK ?_;unfold dA;simp_all)
def uB{α:Type}{p:α->Bool}{l:List α}{k:Nat}{x:α}(A:l[k]?=some x)(E:p x=false):l.all p=false:=by rw[List.all_eq_false];exact⟨x,Xac A,by simp[E]⟩
def Ax{α:Type}{p:α->Bool}{l:List α}(h:∀x∈l.take l.length,p x=true):l.all p=true:=by rw[Xad]at h;rw[Xal];exact h
def Tw{α:Type}{p:α->Bool}{l:List α}{k:Nat}{x:α}(F:l[k]?=some x)(E:p x=true)(h:∀x∈l.take k,p x=true):∀x∈l.take (k+1),p x=true:=by
 rw[aZ F];intro y A;rcases Xas.1 A with A|A
 ·exact h y A
 ·simp at A;subst A;exact E
def aR{α:Type}{p:α->Prop}{l:List α}{k:Nat}{x:α}(F:l[k]?=some x)(E:p x)(h:∀x∈l.take k,p x):∀x∈l.take (k+1),p x:=by
 rw[aZ F];intro y A;rcases Xas.1 A with A|A
 ·exact h y A
 ·simp at A;subst A;exact E
def V3(l:List Decision)(c:Column)(hl:l.length<=1048576):PC prog 78 [.sl (l.map aM),.agg (bA c)] (boo (l.all fun d=>dA d c.set)):=by
 refine pcd func78 rfl rfl ?_;simp only[go_sem];refine⟨fun ρ _=>∃k:Nat,k<=l.length/\ρ 3=.rp (bA c) 0/\ρ 7=.sl (l.map aM)/\ρ 8=int l.length/\ρ 9=int k/\∀d∈l.take k,dA d c.set=true,fun ρ _=>l.length-aU (ρ 9),⟨0,Xab _,rfl,rfl,rfl,rfl,by simp⟩,?_⟩;rintro ρ H ⟨k,Y,J,M,I,F,X⟩;simp only[go_sem,J,M,I,F];refine aA (fun A=>?_) (fun E=>?_)
 ·have A:=bU A;obtain⟨d,O⟩:=aO A;have U:=inB A;simp only[go_sem,J,M,I,F,aC O,U];refine aJ fun j Z=>?_
  simp only[go_sem,J,M,I,F,aC O,U];refine aN (aB _ _ _) (by simp[eA]) ?_;simp only[go_sem,J,M,I,F,aC O,U];refine aP (UJ d _) ?_;simp only[go_sem,J,M,I,F];refine aA (fun T=>?_) (fun T=>?_)
  ·simp only[go_sem];exact cK (uB O (by simpa using T)).symm
  ·simp only[go_sem,J,M,I,F,aT k];exact⟨⟨k+1,A,rfl,Tw O (by simpa using T) X⟩,by simp only[aF];omega⟩
 ·have E:=bW Y E;subst E;simp only[go_sem];exact cK (Ax X).symm
end Dec
end Go.Proofs.YtkjdacijpeiphaaGreatDoor
section
namespace Go.Ve
section
variable{α δ:Type}(leaf:α->Bool)(yes no:α->Int)(ch:α->δ)(opp:δ->δ)
def inT(n:Nat)(k:Int):Bool:=decide (0<=k)&&decide (k<(n:Int))
def iR(l:List α):Bool:=l.all fun a=>leaf a||(inT l.length (yes a)&&inT l.length (no a))
def jK(a:α):List Int:=if leaf a=true then[]else[yes a,no a]
def cnt(l:List α)(k:Int):Nat:=(l.flatMap (jK leaf yes no)).count k
def kD(l:List α):Bool:=(List.range l.length).all fun i=>if i=0 then cnt leaf yes no l 0 == 0 else cnt leaf yes no l i == 1
inductive WayT (l:List α):Nat->List δ->Prop
 | root:WayT l 0 []
 | yes {i k:Nat} {d:List δ} {a:α}:WayT l i d->l[i]?=some a->leaf a=false->yes a=(k:Int)->WayT l k (d++[ch a])
 | no {i k:Nat} {d:List δ} {a:α}:WayT l i d->l[i]?=some a->leaf a=false->no a=(k:Int)->WayT l k (d++[opp (ch a)])
structure BInv(l:List α)(V q:List Nat):Prop where
 nd:(V++q).Nodup
 lt:∀k∈V++q,k<l.length
 zero:0∈V++q
 closed:∀v∈V,∀a,l[v]?=some a->∀k:Nat,(k:Int)∈jK leaf yes no a->k∈V++q
 up:∀k∈V++q,k≠0->∃v∈V,∃a,l[v]?=some a/\(k:Int)∈jK leaf yes no a
 way:∀j k,(V++q)[j]?=some k->∃d,WayT leaf yes no ch opp l k d/\d.length<=j
variable{leaf yes no ch opp}{l:List α}{V q:List Nat}{k:Nat}
def yN{A:Type}[BEq A](f:α->List A)(k:A):∀(l:List α),(l.flatMap f).count k=(l.map fun a=>(f a).count k).sum
 | []=>rfl
 | a::l=>by simp[List.flatMap_cons,List.count_append,yN f k l]
def Ij{A:Type}(f:A->Nat):∀(l:List A) (i j:Nat) (a b:A),l[i]?=some a->l[j]?=some b->i≠j->f a+f b<=(l.map f).sum
 | [],i,j,a,b,h,_,_=>by simp at h
 | x::l,0,0,a,b,_,_,h=>absurd rfl h
 | x::l,0,j+1,a,b,h1,h2,_=>by simp at h1 h2;subst h1;simp only[List.map_cons,List.sum_cons];have:=sum_one f l j b h2;omega
 | x::l,i+1,0,a,b,h1,h2,_=>by simp at h1 h2;subst h2;simp only[List.map_cons,List.sum_cons];have:=sum_one f l i a h1;omega
 | x::l,i+1,j+1,a,b,h1,h2,h=>by simp at h1 h2;simp only[List.map_cons,List.sum_cons];have:=Ij f l i j a b h1 h2 (by omega);omega
where sum_one {A:Type} (f:A->Nat):∀(l:List A) (i:Nat) (a:A),l[i]?=some a->f a<=(l.map f).sum
 | [],i,a,h=>by simp at h
 | x::l,0,a,h=>by simp at h;subst h;simp
 | x::l,i+1,a,h=>by simp at h;have:=sum_one f l i a h;simp only[List.map_cons,List.sum_cons];omega
def IM(A:kD leaf yes no l=true){k:Nat}(E:k<l.length)(h0:k≠0):cnt leaf yes no l k=1:=by unfold kD at A;rw[List.all_eq_true]at A;have:=A k (List.mem_range.2 E);rw[if_neg h0]at this;simpa using this
def DR(A:kD leaf yes no l=true)(E:l≠[]):cnt leaf yes no l 0=0:=by unfold kD at A;rw[List.all_eq_true]at A;have:=A 0 (List.mem_range.2 (List.length_pos_iff.2 E));simpa using this
def yL(A:kD leaf yes no l=true){k:Nat}(E:k<l.length){i j:Nat}{a b:α}(I:l[i]?=some a)(F:l[j]?=some b)(J:(k:Int)∈jK leaf yes no a)(M:(k:Int)∈jK leaf yes no b):i=j:=by
 refine Decidable.byContradiction fun h=>?_
 have h1:=Ij (fun a=>(jK leaf yes no a).count (k:Int)) l i j a b I F h;have e:cnt leaf yes no l (k:Int)<=1:=by
  by_cases h0:k=0
  ·subst h0;have:=DR A (by rintro rfl;simp at E);simp at this |-;omega
  ·exact Nat.le_of_eq (IM A E h0)
 unfold cnt at e;rw[yN]at e;have:=List.count_pos_iff.2 J;have:=List.count_pos_iff.2 M;omega
def rV(E:kD leaf yes no l=true){i:Nat}{a:α}(A:l[i]?=some a):(0:Int)∉jK leaf yes no a:=fun h=>by have h0:=DR E (by rintro rfl;simp at A);unfold cnt at h0;rw[List.count_eq_zero]at h0;exact h0 (List.mem_flatMap.2 ⟨a,List.mem_of_getElem? A,h⟩)
def AS(O:kD leaf yes no l=true)(I:iR leaf yes no l=true){i:Nat}{a:α}(E:l[i]?=some a)(F:leaf a=false):yes a≠no a:=fun h=>by
 unfold iR at I;rw[List.all_eq_true]at I;have:=I a (List.mem_of_getElem? E);simp only[F,Bool.false_or,Bool.and_eq_true,inT,decide_eq_true_eq]at this;obtain⟨⟨h1,U⟩,_⟩:=this;obtain⟨k,T⟩:=Int.eq_ofNat_of_zero_le h1;have J:k<l.length:=by omega
 have h0:k≠0:=by rintro rfl;refine rV O E ?_;simp only[jK,F,Bool.false_eq_true,if_false];rw[T];simp
 have e:=IM O J h0;unfold cnt at e;rw[yN]at e;have A:=Ij.sum_one (fun a=>(jK leaf yes no a).count (k:Int)) l i a E;simp only[jK,F,Bool.false_eq_true,if_false]at A;rw[<-h,T]at A;simp at A;have:(2:Nat)<=1:=by refine Nat.le_trans A ?_;have M:=e;simp only[jK]at M;exact Nat.le_of_eq M
 omega
def aaF(A:iR leaf yes no l=true){k:Nat}{d:List δ}(h:WayT leaf yes no ch opp l k d)(E:l≠[]):k<l.length:=by
 unfold iR at A;rw[List.all_eq_true]at A;cases h with
 | root=>exact List.length_pos_iff.2 E
 | yes h1 h2 h3 h4=>have:=A _ (List.mem_of_getElem? h2);simp only[h3,Bool.false_or,Bool.and_eq_true,inT,decide_eq_true_eq]at this;omega
 | no h1 h2 h3 h4=>have:=A _ (List.mem_of_getElem? h2);simp only[h3,Bool.false_or,Bool.and_eq_true,inT,decide_eq_true_eq]at this;omega
def BInv.start(F:l≠[]):BInv leaf yes no ch opp l [] [0]:=
 ⟨by simp,fun k A=>by simp at A;subst A;exact List.length_pos_iff.2 F,by simp,fun v E=>by simp at E,fun k A h0=>by simp at A;exact absurd A h0,
  fun j k h=>by
   cases j with
   | zero=>simp at h;subst h;exact⟨[],.root,Nat.le_refl _⟩
   | succ j=>simp at h⟩
def BInv.leafStep(h:BInv leaf yes no ch opp l V (k::q)){a:α}(I:l[k]?=some a)(J:leaf a=true):BInv leaf yes no ch opp l (V++[k]) q:=by
 have e:V++[k]++q=V++k::q:=by simp
 refine⟨by rw[e];exact h.nd,by rw[e];exact h.lt,by rw[e];exact h.zero,fun v A b F m E=>?_,fun m E h0=>?_,by rw[e];exact h.way⟩
 ·rw[e];rcases List.mem_append.1 A with A|A
  ·exact h.closed v A b F m E
  ·simp at A;subst A;rw[I]at F;cases F;simp[jK,J]at E
 ·rw[e]at E;obtain⟨v,A,b,F⟩:=h.up m E h0;exact⟨v,List.mem_append.2 (.inl A),b,F⟩
def BInv.innerStep(hc:kD leaf yes no l=true)(hr:iR leaf yes no l=true)(h:BInv leaf yes no ch opp l V (k::q)){a:α}(J:l[k]?=some a)(Y:leaf a=false){y n:Nat}(hy:yes a=(y:Int))(hn:no a=(n:Int)):
  BInv leaf yes no ch opp l (V++[k]) (q++[y,n]):=by
 have O:∀m:Nat,(m:Int)∈jK leaf yes no a↔m=y\/m=n:=fun m=>by simp only[jK,Y,Bool.false_eq_true,if_false,List.mem_cons,List.not_mem_nil,or_false,hy,hn];omega
 have e:V++[k]++(q++[y,n])=(V++k::q)++[y,n]:=by simp
 have ac:y≠n:=fun x=>AS hc hr J Y (by rw[hy,hn,x])
 have T:∀m,m=y\/m=n->m∉V++k::q:=fun m A U=>by
  have I:=(O m).2 A;have Z:m≠0:=by rintro rfl;exact rV hc J I
  obtain⟨v,F,b,M,ae⟩:=h.up m U Z;have:=yL hc (h.lt m U) M J ae I;subst this;have:=h.nd;rw[List.nodup_append]at this;exact this.2.2 v F v (by simp) rfl
 have aa:∀m,m=y\/m=n->m<l.length:=fun m A=>by have hR:=hr;unfold iR at hR;rw[List.all_eq_true]at hR;have:=hR a (List.mem_of_getElem? J);simp only[Y,Bool.false_or,Bool.and_eq_true,inT,decide_eq_true_eq]at this;rcases A with rfl|rfl <;> omega
 have X:∃d,WayT leaf yes no ch opp l k d/\d.length<=V.length:=h.way V.length k (by simp);refine⟨?_,fun m A=>?_,?_,fun v F b M m A=>?_,fun m A h0=>?_,fun j m E=>?_⟩
 ·rw[e,List.nodup_append];refine⟨h.nd,by simp[ac],fun x hx z hz=>?_⟩;rintro rfl;exact T x (by simpa using hz) hx
 ·rw[e]at A;rcases List.mem_append.1 A with A|A
  ·exact h.lt m A
  ·exact aa m (by simpa using A)
 ·rw[e];exact List.mem_append.2 (.inl h.zero)
 ·rw[e];rcases List.mem_append.1 F with F|F
  ·exact List.mem_append.2 (.inl (h.closed v F b M m A))
  ·simp at F;subst F;rw[J]at M;cases M;exact List.mem_append.2 (.inr (by simpa using(O m).1 A))
 ·rw[e]at A;rcases List.mem_append.1 A with A|A
  ·obtain⟨v,F,b,M⟩:=h.up m A h0;exact⟨v,List.mem_append.2 (.inl F),b,M⟩
  ·exact⟨k,by simp,a,J,(O m).2 (by simpa using A)⟩
 ·rw[e]at E;rw[List.getElem?_append]at E;split at E
  ·exact h.way j m E
  ·rename_i ab;obtain⟨d,hd,ag⟩:=X;have af:V.length<j:=by simp at ab;omega
   match hjj:j-(V++k::q).length,E with
   | 0,E=>simp at E;subst E;exact⟨d++[ch a],.yes hd J Y hy,by simp;omega⟩
   | 1,E=>simp at E;subst E;exact⟨d++[opp (ch a)],.no hd J Y hn,by simp;omega⟩
   | j'+2,E=>simp at E
def Av:∀(n:Nat) (L:List Nat),L.Nodup->(∀k∈L,k<n)->L.length<=n
 | 0,[],_,_=>Nat.le_refl _
 | 0,k::L,_,h=>absurd (h k (by simp)) (by omega)
 | n+1,L,hd,h=>by
  have h1:=Av n (L.filter (·≠n)) (hd.filter _) fun k A=>by simp at A;have:=h k A.1;omega
  have E:L.length<=(L.filter (·≠n)).length+1:=by
   have e:L.length=(L.filter (·≠n)).length+(L.filter (fun k=> !decide (k≠n))).length:=by
    rw[<-List.countP_eq_length_filter,<-List.countP_eq_length_filter,List.length_eq_countP_add_countP (fun k=>decide (k≠n)) (l:=L)]
    congr 2;funext k;by_cases A:k=n <;> simp[A]
   have F:(L.filter (fun k=> !decide (k≠n))).length<=1:=by
    have:(L.filter (fun k=> !decide (k≠n)))=L.filter (fun k=>k == n):=by congr 1;funext k;by_cases A:k=n <;> simp[A]
    rw[this,<-List.countP_eq_length_filter,<-List.count_eq_countP];exact List.nodup_iff_count.1 hd n
   omega
  omega
def Bf{n:Nat}{L:List Nat}(E:L.Nodup)(h:∀k∈L,k<n)(I:L.length=n):∀k,k<n->k∈L:=fun k F=>by
 refine Decidable.byContradiction fun A=>?_
 have:=Av n (k::L) (by simp[A,E]) (by simp;exact⟨F,h⟩);simp at this;omega
def BInv.len(h:BInv leaf yes no ch opp l V q):(V++q).length<=l.length:=Av _ _ h.nd h.lt
def BInv.reach(h:BInv leaf yes no ch opp l V []){k:Nat}{d:List δ}(F:WayT leaf yes no ch opp l k d):k∈V:=by
 have A:=h.closed;have E:=h.zero;simp only[List.append_nil]at A E;induction F with
 | root=>exact E
 | yes h1 h2 h3 h4 ih=>exact A _ ih _ h2 _ (by simp[jK,h3,h4])
 | no h1 h2 h3 h4 ih=>exact A _ ih _ h2 _ (by simp[jK,h3,h4])
def BInv.full(h:BInv leaf yes no ch opp l V []):V.length=l.length↔∀k,k<l.length->∃d,WayT leaf yes no ch opp l k d:=by
 have A:=h.nd;have E:=h.lt;simp only[List.append_nil]at A E;constructor
 ·intro O k F;obtain⟨j,J⟩:=List.getElem?_of_mem (Bf A E O k F);obtain⟨d,I,_⟩:=h.way j k (by simpa using J);exact⟨d,I⟩
 ·intro M;have h1:∀k,k<l.length->k∈V:=fun k F=>let ⟨d,I⟩:=M k F;h.reach I
  have T:=Av _ V A E;have U:l.length<=V.length:=by
   have:=List.Nodup.length_le_of_subset (l₁:=List.range l.length) (l₂:=V) List.nodup_range fun k F=>h1 k (List.mem_range.1 F)
   simpa using this
  omega
def BInv.short(h:BInv leaf yes no ch opp l V []){k:Nat}{d:List δ}(J:WayT leaf yes no ch opp l k d):∃A,WayT leaf yes no ch opp l k A/\A.length<l.length:=by obtain⟨j,E⟩:=List.getElem?_of_mem (h.reach J);obtain⟨A,F,M⟩:=h.way j k (by simpa using E);have:=h.len;have I:=(List.getElem?_eq_some_iff.1 E).1;simp at this;exact⟨A,F,by omega⟩
def JS(A:kD leaf yes no l=true){d:List δ}(h:WayT leaf yes no ch opp l 0 d):d=[]:=by
 generalize E:0=k at h;cases h with
 | root=>rfl
 | yes h1 h2 h3 h4=>subst E;exact absurd (by simp[jK,h3,h4]) (rV A h2)
 | no h1 h2 h3 h4=>subst E;exact absurd (by simp[jK,h3,h4]) (rV A h2)
def NX(M:kD leaf yes no l=true)(U:iR leaf yes no l=true){k i:Nat}{a:α}{d:List δ}(X:k≠0)(A:l[i]?=some a)(T:leaf a=false)(h:WayT leaf yes no ch opp l k d)(J:yes a=(k:Int)\/no a=(k:Int)):
  ∃E,d=E++[if no a=(k:Int)then opp (ch a)else ch a]/\WayT leaf yes no ch opp l i E:=by
 have F:(k:Int)∈jK leaf yes no a:=by
  simp only[jK,T,Bool.false_eq_true,if_false,List.mem_cons,List.not_mem_nil,or_false];rcases J with h|h
  ·exact .inl h.symm
  ·exact .inr h.symm
 have I:=aaF U h (by rintro rfl;simp at A);cases h with
 | root=>exact absurd rfl X
 | @yes i' _ E b h1 h2 h3 h4=>have:=yL M I A h2 F (by simp[jK,h3,h4]);subst this;rw[A]at h2;cases h2;refine⟨E,?_,h1⟩;rw[if_neg];intro O;exact AS M U A T (by rw[h4,O])
 | @no i' _ E b h1 h2 h3 h4=>have:=yL M I A h2 F (by simp[jK,h3,h4]);subst this;rw[A]at h2;cases h2;exact⟨E,by rw[if_pos h4],h1⟩
def pP(A:kD leaf yes no l=true)(J:iR leaf yes no l=true){k:Nat}{d e:List δ}(h:WayT leaf yes no ch opp l k d)(E:WayT leaf yes no ch opp l k e):d=e:=by
 induction h generalizing e with
 | root=>exact(JS A E).symm
 | @yes i k d a h1 h2 h3 h4 ih=>
  have I:k≠0:=by rintro rfl;exact rV A h2 (by simp[jK,h3,h4])
  obtain⟨O,rfl,F⟩:=NX A J I h2 h3 E (.inl h4);rw[ih F,if_neg];intro M;exact AS A J h2 h3 (by rw[h4,M])
 | @no i k d a h1 h2 h3 h4 ih=>
  have I:k≠0:=by rintro rfl;exact rV A h2 (by simp[jK,h3,h4])
  obtain⟨O,rfl,F⟩:=NX A J I h2 h3 E (.inr h4);rw[ih F,if_pos h4]
end
end Go.Ve
end
section
namespace Go.Proofs.YtkjdacijpeiphaaGreatDoor.Dec
open Go.Proofs.Tryz
open Go.Aw Go.Aw.D Go.Proofs Ty
def rN(d:Decision):Decision:=
 if d.kind=1 then { d with kind:=2 }else if d.kind=2 then { d with kind:=1 }
 else if d.kind=3 then { d with kind:=4,n:=IntKind.i64.wrap (d.n+1) }else if d.kind=4 then { d with kind:=3,n:=IntKind.i64.wrap (d.n-1) }
 else if d.kind=5 then { d with kind:=6 }else if d.kind=6 then { d with kind:=5 }else d
def VM(d:Decision):PC prog 15 [.agg (aM d)] (.agg (aM (rN d))):=by
 refine pcb (fun t=>t == 1) func15 rfl rfl ?_;simp only[go_sem];simp only[aM];refine aJ fun j J=>?_
 simp only[go_sem];refine aJ fun i F=>?_
 have E:j≠i:=fun e=>by subst e;rw[aB]at F;simp at F
 have A:i≠j:=E.symm;simp only[go_sem,aD _ _ _ _ E]
 repeat' (first|(refine aA (fun I=>?_) (fun I=>?_))|(refine bO so3 (by first|exact aB _ _ _|exact(aD _ _ _ _ E).trans (aB _ _ _)) (by simp) ?_)|(refine aN (by first|exact aB _ _ _|exact(aD _ _ _ _ A).trans (aB _ _ _)|exact(aD _ _ _ _ A).trans ((aD _ _ _ _ A).trans (aB _ _ _))) (by simp) ?_)|(simp only[go_sem,aD _ _ _ _ E,aD _ _ _ _ A]))
 all_goals (refine YP ?_;simp_all [rN,aM])
def Xn(d:Decision):PC prog 21 [.agg (aM d)] (.agg (aM (rN d))):=by
 refine pcb (fun t=>t == 1) func21 rfl rfl ?_;simp only[go_sem];simp only[aM];refine aJ fun j J=>?_
 simp only[go_sem];refine aJ fun i F=>?_
 have E:j≠i:=fun e=>by subst e;rw[aB]at F;simp at F
 have A:i≠j:=E.symm;simp only[go_sem,aD _ _ _ _ E]
 repeat' (first|(refine aA (fun I=>?_) (fun I=>?_))|(refine bO so3 (by first|exact aB _ _ _|exact(aD _ _ _ _ E).trans (aB _ _ _)) (by simp) ?_)|(refine aN (by first|exact aB _ _ _|exact(aD _ _ _ _ A).trans (aB _ _ _)|exact(aD _ _ _ _ A).trans ((aD _ _ _ _ A).trans (aB _ _ _))) (by simp) ?_)|(simp only[go_sem,aD _ _ _ _ E,aD _ _ _ _ A]))
 all_goals (refine YP ?_;simp_all [rN,aM])
end Go.Proofs.YtkjdacijpeiphaaGreatDoor.Dec
end
section
namespace Go.Aw
open Go.RowKit
section
variable{P:Program}{f:FuncId}{args:List AV}{H:aG}{K:AV->aG->Prop}
def WC(P:Program)(f:FuncId)(args:List AV)(Φ:AV->Prop):Prop:=RC P f args fun x _=>Φ x
def RC.convW{J:AV->Prop}(h:RC P f args fun x H'=>∃r,J r/\Conv H' x r):WC P f args J:=fun S w vals O Y ha=>
 (h S w vals O Y ha).mono fun e w' ⟨v,x,H',S',T,⟨r,M,X⟩,E,Z,I,hn⟩=>by
  refine⟨v,r,bG,S'.froze H',T,M,⟨?_,?_,fun k r F=>by simp[bG]at F,fun k r F=>by simp[bG]at F,fun k k' r r' F=>by simp[bG]at F,E.tabs.keep (S'.le_froze H') (eQ.refl S' w')⟩,X.rep E Z,?_,fun _ _ _=>rfl⟩
  ·rintro g (A|A)
   ·exact .inl (E.ro_fz g A)
   ·exact .inr A
  ·rintro g (A|⟨k,row,F,A⟩)
   ·exact E.fz_lt g A
   ·exact(E.rows k row F).block_lt A
  ·refine⟨Sg.le_trans I.le (S'.le_froze H'),fun k F=>.inl (I.fz k F),I.os,I.tape,I.output,I.size,I.same,?_⟩;rintro g (A|⟨k,row,F,A⟩)
   ·exact I.newro g A
   ·exact .inr fun U=>E.free k row F g A (I.fz g U)
def WC.use{E:AV->Prop}(h:WC P f args E)(M:∀r,E r->K r H):aX P f args H K:=
 RC.frame h fun x H' I J=>⟨H,M x I,fun k row A=>by
  unfold merge;cases F:H' k with
  | none=>exact A
  | some r'=>rw[J k r' F]at A;simp at A,fun _ h _=>h⟩
def WC.body{A:AV->Prop}{fn:Func}{c:Code}(mt:Nat->Bool)(E:P.follows .mixedOrders=true)(J:P.funcs[f]?=some fn)(I:fn.body=some c)(F:vL fn c args.length=true)
 (h:awp P (aX P) (cQ P) mt c (EC P fn.results.toList fun x H'=>∃r,A r/\Conv H' x r) (Bx args) bG):WC P f args A:=RC.convW (RC.body mt E J I F h)
def Xa{S:Sg}{w:World}{v:Value}(h:rep S w (.v (.slice none 0 0)) v):rep S w (.sl []) v:=by
 have A:v=.slice none 0 0:=by simp only[rep]at h;exact h
 subst A;simp only[rep];exact⟨none,0,0,rfl,rfl,Nat.le_refl _,Nat.zero_le _,.inl trivial⟩
def aX.nil0{A:List AV}(h:aX P f (.sl []::A) H K):aX P f (.v (.slice none 0 0)::A) H K:=fun S w vals I E=>h S w vals I (by simp only[aW]at E |-;obtain⟨u,t,e,h1,F⟩:=E;exact⟨u,t,e,Xa h1,F⟩)
end
end Go.Aw
end
namespace Go.Proofs.YtkjdacijpeiphaaGreatDoor
open Go.Aw Go.Aw.D Go.Proofs Ty
namespace Sq
open Go.Proofs.Tryz
open Go.Nu (iC)
open Go.Proofs.YtkjdacijpeiphaaGreatDoor.Nu (ltB geB Ba)
open Mv (bP cK aR)
def Jw(v:Visit):Int:=if v.drop=true then 1 else 0
def or2(a b:Int):Int:=if a=0 then b else a
def Io(a b:Visit):Int:=or2 (iC a.order b.order) (iC (Jw a) (Jw b))
def RF:List Visit->List Visit->Int
 | [],[]=>0
 | [],_::_=> -1
 | _::_,[]=>1
 | a::l,b::m=>or2 (Io a b) (RF l m)
def Tf:List Int->Int
 | []=>0
 | a::l=>if a=0 then Tf l else a
def vA{α:Type}{l:List α}{k:Nat}{u:α}(h:l[k]?=some u):l.drop k=u::l.drop (k+1):=by obtain⟨A,rfl⟩:=List.getElem?_eq_some_iff.1 h;rw[List.drop_eq_getElem_cons A]
def abY(l:List Int)(Z:l.length<=1048576):PC prog 235 [.sl (l.map aQ)] (int (Tf l)):=by
 refine pcd func235 rfl rfl ?_;simp only[go_sem];refine⟨fun ρ H=>∃(k:Nat),k<=l.length/\ρ 3=int 0/\ρ 6=.sl (l.map aQ)/\ρ 7=int (l.length:Nat)/\ρ 8=int k/\Tf l=Tf (l.drop k),fun ρ _=>l.length-aU (ρ 8),⟨0,Xab _,by simp only[go_sem],by simp only[go_sem],by simp only[go_sem,Xaa],(by simp only[go_sem];rfl),rfl⟩,?_⟩;rintro ρ H ⟨k,Y,M,F,I,O,J⟩;simp only[go_sem,M,F,I,O];refine aA (fun A=>?_) (fun E=>?_)
 ·have A:=ltB A;obtain⟨u,U⟩:=aO A;have X:=inB A;rw[vA U,Tf]at J;simp only[go_sem,M,F,I,O,aC U,X];refine aA (fun T=>?_) (fun T=>?_)
  ·simp only[go_sem,M,F,I,O];exact bP (by rw[J,if_neg (by simpa using T)])
  ·rw[if_pos (by simpa using T)]at J;simp only[go_sem,M,F,I,O,aT k];exact⟨⟨k+1,A,rfl,J⟩,by simp only[aF];omega⟩
 ·have E:=geB Y E;subst E;simp only[go_sem,M,F,I,O];exact bP (by rw[J,Xbi];rfl)
def UW(v:Visit):PC prog 234 [.agg (aL v)] (int (Jw v)):=by
 refine pcd func234 rfl rfl ?_;simp only[go_sem];unfold Jw;refine aA (fun A=>?_) (fun A=>?_)
 ·simp only[go_sem,A];exact bP (by simp)
 ·simp only[go_sem,A];exact bP (by simp)
def Mu(a b:Visit):PC prog 214 [.agg (aL a),.agg (aL b)] (int (Io a b)):=by
 refine pcd func214 rfl rfl ?_;simp only[go_sem];refine Yj (by kernel_rfl) ?_;simp only[go_sem];refine⟨_,(Ba a.order b.order).q rfl,?_⟩;simp only[go_sem];refine⟨_,(UW a).q rfl,?_⟩;simp only[go_sem];refine⟨_,(UW b).q rfl,?_⟩;simp only[go_sem];refine⟨_,(Ba (Jw a) (Jw b)).q rfl,?_⟩;simp only[go_sem];refine aP (abY [iC a.order b.order,iC (Jw a) (Jw b)] (by simp)) ?_;simp only[go_sem];refine bP ?_;unfold Io or2;simp only[Tf];split
 ·split
  ·next h=>exact h.symm
  ·rfl
 ·rfl
def Yl(a b:List Visit)(ha:a.length<=1048576):PC prog 213 [.sl (a.map aL),.sl (b.map aL),.v (.func (.func 214) #[] #[])] (int (RF a b)):=by
 have ah:aH prog 214=true:=by kernel_rfl
 refine pcd func213 rfl rfl ?_;simp only[go_sem];refine⟨fun ρ H=>∃(k:Nat),k<=a.length/\ρ 0=.sl (a.map aL)/\ρ 1=.sl (b.map aL)/\ρ 2=.v (.func (.func 214) #[] #[])/\ρ 11=.sl (a.map aL)/\ρ 12=int (a.length:Nat)/\ρ 13=int k/\RF a b=RF (a.drop k) (b.drop k)/\k<=b.length,fun ρ _=>a.length-aU (ρ 13),⟨0,Xab _,by simp only[go_sem],by simp only[go_sem],by simp only[go_sem],by simp only[go_sem],by simp only[go_sem,Xaa],(by simp only[go_sem];rfl),rfl,Xab _⟩,?_⟩;rintro ρ H ⟨k,hk,O,J,M,F,E,A,Y,ag⟩;simp only[go_sem,O,J,M,F,E,A];refine aA (fun T=>?_) (fun aa=>?_)
 ·have T:=ltB (by simpa using T);obtain⟨u,hu⟩:=aO T;have b1:=inB T;rw[vA hu]at Y;simp only[go_sem,O,J,M,F,E,A,aC hu,b1];refine aJ fun i8 X=>?_
  simp only[go_sem,O,J,M,F,E,A];refine bH X (by simp[cN]) fun ac (R8:ac i8=some ((⟨72,2,[aL u]⟩:Row))) N=>?_
  clear N X;simp only[go_sem,O,J,M,F,E,A,R8];refine aA (fun I=>?_) (fun I=>?_)
  ·have af:b.length<=k:=by simpa using I
   simp only[go_sem,O,J,M,F,E,A];refine bP ?_;rw[Y,List.drop_of_length_le af];rfl
  have Z:k<b.length:=by simpa using I
  obtain⟨v,hv⟩:=aO Z;have b2:=inB Z;rw[vA hv]at Y;simp only[go_sem,O,J,M,F,E,A,aC hv,b2];refine aJ fun i9 U=>?_
  simp only[go_sem,O,J,M,F,E,A,R8];refine bH U (by simp[cN]) fun ae (R9:ae i9=some ((⟨72,2,[aL v]⟩:Row))) N=>?_
  replace R8:=N R8;obtain⟨ab,R8⟩:=R8;clear N U;simp only[go_sem,O,J,M,F,E,A,R9,R8];refine aP (Mu u v) ?_;simp only[go_sem,O,J,M,F,E,A];refine aA (fun I=>?_) (fun I=>?_)
  ·have hc:¬Io u v=0:=by simpa using I
   simp only[go_sem,O,J,M,F,E,A];refine bP ?_;rw[Y];show _=or2 (Io u v) _;unfold or2;rw[if_neg hc]
  ·have hc:Io u v=0:=by simpa using I
   simp only[go_sem,O,J,M,F,E,A,aT k];refine⟨⟨k+1,T,rfl,?_,Z⟩,by simp only[aF];omega⟩;rw[Y];show or2 (Io u v) _=_;unfold or2;rw[if_pos hc]
 have aa:=geB hk (by simpa using aa);subst aa;rw[Xbi]at Y;simp only[go_sem,O,J,M,F,E,A,Xaa];refine aA (fun I=>?_) (fun I=>?_)
 ·have I:a.length<b.length:=by simpa using I
  simp only[go_sem];refine bP ?_;obtain⟨v,hv⟩:=aO I;rw[Y,vA hv];rfl
 ·have I:¬a.length<b.length:=by simpa using I
  simp only[go_sem];refine bP ?_;rw[Y,List.drop_of_length_le (by omega)];rfl
def X6(a b:List Visit)(A:a.length<=1048576):PC prog 192 [.sl (a.map aL),.sl (b.map aL)] (boo (decide (RF a b<0))):=by refine pcd func192 rfl rfl ?_;simp only[go_sem];refine aP (Yl a b A) ?_;simp only[go_sem];exact .refl _
end Sq
namespace Sq
open Go.Proofs.Tryz
open Go.Proofs.YtkjdacijpeiphaaGreatDoor.Nu (ltB geB)
open Mv (bP cK aR)
def eqV(w v:Visit):Bool:=w.order == v.order&&(w.drop == v.drop&&true)
def pT(l:List Visit)(w:Visit):Bool:= !decide (fU l w<0)
def IG(W l:List Visit)(v:Visit):Bool:=(W.takeWhile fun w=> !eqV w v).all (pT l)
def WW(x:Instance)(l:List Visit)(v:Visit):Bool:=x.before.all fun q=>(q.b != v.order)||(gN x.orders q.a).all (pT l)
def rG(x:Instance)(l:List Visit)(v:Visit):Bool:=(!decide (fU l v>=0)&&IG (gN x.orders v.order) l v)&&WW x l v
def Xb{α:Type}{p:α->Bool}{W:List α}{k:Nat}(h:∀u∈W.take k,p u=true):W.takeWhile p=W.take k++(W.drop k).takeWhile p:=by
 conv=>lhs;rw[<-List.take_append_drop k W]
 exact List.takeWhile_append_of_pos h
def QC{W l:List Visit}{v:Visit}{k:Nat}(h:∀u∈W.take k,eqV u v=false/\pT l u=true):IG W l v=IG (W.drop k) l v:=by
 unfold IG;rw[Xb (k:=k) (fun u A=>by rw[(h u A).1];rfl),List.all_append];have:(W.take k).all (pT l)=true:=Xal.2 fun u A=>(h u A).2
 rw[this,Xbe]
def XR(x:Instance)(l:List Visit)(v:Visit)(hl:l.length<=1048576)(hb:x.before.length<=1048576):PC prog 193 [.agg (aE x),.sl (l.map aL),.agg (aL v)] (boo (rG x l v)):=by
 refine pcd func193 rfl rfl ?_;simp only[go_sem];refine aP (AA l v hl) ?_;simp only[go_sem];refine aA (fun c1=>?_) (fun c1=>?_)
 ·simp only[go_sem];refine cK ?_;unfold rG;have c1:decide (fU l v>=0)=true:=c1;rw[c1];rfl
 have c1:decide (fU l v>=0)=false:=c1;have hW:=oY x.orders v.order;simp only[go_sem];refine aP (oR x.orders v.order) ?_;simp only[go_sem,Xaa];have hr:rG x l v=(IG (gN x.orders v.order) l v&&WW x l v):=by unfold rG;rw[c1];rfl
 generalize gN x.orders v.order=W at *;refine MX (fun am _=>am 1=.sl (l.map aL)/\am 3=.rp (aE x) 0/\am 5=.rp (aL v) 0/\IG W l v=true) ?_ fun Q hQ au=>?_
 ·rintro ρ H ⟨h1,h3,h5,ar⟩;rw[ar,Xbe]at hr;simp only[go_sem,h1,h3,h5,Xaa];refine⟨fun ρ H=>∃(k:Nat),k<=x.before.length/\ρ 1=.sl (l.map aL)/\ρ 3=.rp (aE x) 0/\ρ 5=.rp (aL v) 0/\ρ 36=.sl (x.before.map dL)/\ρ 37=int (x.before.length:Nat)/\ρ 38=int k/\(∀q∈x.before.take k,((q.b != v.order)||(gN x.orders q.a).all (pT l))=true),fun ρ _=>x.before.length-aU (ρ 38),⟨0,Xab _,by simp only[go_sem,h1,h3,h5],by simp only[go_sem,h1,h3,h5],by simp only[go_sem,h1,h3,h5],by simp only[go_sem,h1,h3,h5],by simp only[go_sem,Xaa,h1,h3,h5],(by simp only[go_sem,h1,h3,h5];rfl),by simp⟩,?_⟩;rintro ρ H ⟨k,hk,J,M,I,A,F,E,hz⟩;simp only[go_sem,J,M,I,A,F,E];refine aA (fun Y=>?_) (fun aa=>?_)
  ·have Y:=ltB (by simpa using Y);obtain⟨q,hq⟩:=aO Y;have b1:=inB Y;simp only[go_sem,J,M,I,A,F,E,aC hq,b1];refine aJ fun aw ai=>?_
   simp only[go_sem,J,M,I,A,F,E];refine bH ai (by simp[jV]) fun al (ao:al aw=some (⟨87,2,[dL q]⟩)) N=>?_
   clear N ai;simp only[go_sem,J,M,I,A,F,E,ao];refine⟨by decide,aA (fun O=>?_) (fun O=>?_)⟩
   ·simp only[go_sem,J,M,I,A,F,E,aT k];exact⟨⟨k+1,Y,rfl,aR (p:=fun q:Pair=>((q.b != v.order)||(gN x.orders q.a).all (pT l))=true) hq (by rw[show(q.b != v.order)=true from O];rfl) hz⟩,by simp only[aF];omega⟩
   have O:(q.b != v.order)=false:=O;have hV:=oY x.orders q.a;simp only[go_sem,J,M,I,A,F,E,ao];refine⟨by decide,PC.use (oR x.orders q.a) ?_⟩;simp only[go_sem,J,M,I,A,F,E,Xaa];have aq:((q.b != v.order)||(gN x.orders q.a).all (pT l))=(gN x.orders q.a).all (pT l):=by rw[O];rfl
   generalize av:gN x.orders q.a=V at *;refine⟨fun ρ _=>∃m:Nat,m<=V.length/\ρ 1=.sl (l.map aL)/\ρ 3=.rp (aE x) 0/\ρ 5=.rp (aL v) 0/\ρ 36=.sl (x.before.map dL)/\ρ 37=int x.before.length/\ρ 38=int (k:Nat)/\ρ 51=.sl (V.map aL)/\ρ 52=int V.length/\ρ 53=int (m:Nat)/\∀u∈V.take m,pT l u=true,fun ρ _=>V.length-aU (ρ 53),⟨0,Xab _,by simp only[go_sem,J,M,I,A,F,E],by simp only[go_sem,J,M,I,A,F,E],by simp only[go_sem,J,M,I,A,F,E],by simp only[go_sem,J,M,I,A,F,E],by simp only[go_sem,J,M,I,A,F,E],by simp only[go_sem,J,M,I,A,F,E],by simp only[go_sem,J,M,I,A,F,E],by simp only[go_sem,J,M,I,A,F,E],by simp only[go_sem,J,M,I,A,F,E];rfl,by simp⟩,?_⟩;clear J M I A F E h1 h3 h5;rintro ρ H ⟨m,hm,J,M,I,A,F,E,ac,af,ae,hy⟩;simp only[go_sem,J,M,I,A,F,E,ac,af,ae];refine aA (fun ah=>?_) (fun ak=>?_)
   ·have ah:=ltB (by simpa using ah);obtain⟨u,hu⟩:=aO ah;have b2:=inB ah;simp only[go_sem,J,M,I,A,F,E,ac,af,ae,aC hu,b2];refine aJ fun ay ag=>?_
    simp only[go_sem,J,M,I,A,F,E,ac,af,ae];refine bH ag (by simp[cN]) fun an (ax:an ay=some ((⟨72,2,[aL u]⟩:Row))) N=>?_
    clear N ag;simp only[go_sem,J,M,I,A,F,E,ac,af,ae,ax];refine aP (AA l u hl) ?_;simp only[go_sem,J,M,I,A,F,E,ac,af,ae];refine aA (fun ab=>?_) (fun ab=>?_)
    ·simp only[go_sem];refine cK ?_;have Z:pT l u=false:=by unfold pT;rw[show decide (fU l u<0)=true from ab];rfl
     rw[hr];unfold WW;exact(List.all_eq_false.2 ⟨q,Xac hq,by rw[av,aq];rw[Bool.not_eq_true];exact List.all_eq_false.2 ⟨u,Xac hu,by rw[Z];simp⟩⟩).symm
    ·have Z:pT l u=true:=by unfold pT;rw[show decide (fU l u<0)=false from ab];rfl
     simp only[go_sem,J,M,I,A,F,E,ac,af,ae,aT m];exact⟨⟨m+1,ah,rfl,aR (p:=fun u:Visit=>pT l u=true) hu Z hy⟩,by simp only[aF];omega⟩
   have ak:=geB hm (by simpa using ak);subst ak;rw[Xad]at hy;simp only[go_sem,J,M,I,A,F,E,aT k];exact⟨⟨k+1,Y,rfl,aR (p:=fun q:Pair=>((q.b != v.order)||(gN x.orders q.a).all (pT l))=true) hq (by rw[av,aq];exact Xal.2 hy) hz⟩,by simp only[aF];omega⟩
  have aa:=geB hk (by simpa using aa);subst aa;rw[Xad]at hz;simp only[go_sem];refine cK ?_;rw[hr];unfold WW;exact(Xal.2 hz).symm
 refine⟨fun ρ H=>∃(k:Nat),k<=W.length/\ρ 1=.sl (l.map aL)/\ρ 3=.rp (aE x) 0/\ρ 5=.rp (aL v) 0/\ρ 21=.sl (W.map aL)/\ρ 22=int (W.length:Nat)/\ρ 23=int k/\(∀u∈W.take k,eqV u v=false/\pT l u=true),fun ρ _=>W.length-aU (ρ 23),⟨0,Xab _,by simp only[go_sem],by simp only[go_sem],by simp only[go_sem],by simp only[go_sem],by simp only[go_sem,Xaa],(by simp only[go_sem];rfl),by simp⟩,?_⟩;rintro ρ H ⟨k,hk,J,M,I,T,X,U,hz⟩;simp only[go_sem,J,M,I,T,X,U];refine aA (fun Y=>?_) (fun aa=>?_)
 ·have Y:=ltB (by simpa using Y);obtain⟨u,hu⟩:=aO Y;have b1:=inB Y;have hp:=QC (l:=l) (v:=v) hz;rw[vA hu]at hp;simp only[go_sem,J,M,I,T,X,U,aC hu,b1];refine aJ fun i8 aj=>?_
  simp only[go_sem,J,M,I,T,X,U];refine bH aj (by simp[cN]) fun ap (R8:ap i8=some ((⟨72,2,[aL u]⟩:Row))) N=>?_
  clear N aj;simp only[go_sem,J,M,I,T,X,U,R8];refine aA (fun O=>?_) (fun O=>?_)
  ·have O:eqV u v=true:=O;simp only[go_sem];refine hQ _ _ ⟨by simp only[go_sem,J,M,I,T,X,U],by simp only[go_sem,J,M,I,T,X,U],by simp only[go_sem,J,M,I,T,X,U],?_⟩;rw[hp];unfold IG;rw[List.takeWhile_cons,O];rfl
  have O:eqV u v=false:=O;simp only[go_sem,J,M,I,T,X,U,R8];refine aP (AA l u hl) ?_;simp only[go_sem,J,M,I,T,X,U];refine aA (fun ab=>?_) (fun ab=>?_)
  ·have Z:pT l u=false:=by unfold pT;rw[show decide (fU l u<0)=true from ab];rfl
   simp only[go_sem];refine au _ _ ?_;simp only[go_sem];refine cK ?_;have:IG W l v=false:=by rw[hp];unfold IG;rw[List.takeWhile_cons,O];show(u::_).all (pT l)=false;rw[List.all_cons,Z];rfl
   rw[hr,this];rfl
  ·have Z:pT l u=true:=by unfold pT;rw[show decide (fU l u<0)=false from ab];rfl
   simp only[go_sem,J,M,I,T,X,U,aT k];exact⟨⟨k+1,Y,rfl,aR (p:=fun u:Visit=>eqV u v=false/\pT l u=true) hu ⟨O,Z⟩ hz⟩,by simp only[aF];omega⟩
 have aa:=geB hk (by simpa using aa);subst aa;have hp:=QC (l:=l) (v:=v) hz;rw[Xbi]at hp;simp only[go_sem];exact hQ _ _ ⟨by simp only[go_sem,J,M,I,T,X,U],by simp only[go_sem,J,M,I,T,X,U],by simp only[go_sem,J,M,I,T,X,U],hp⟩
def ZB(x:Instance)(i:Nat):Bool:=match x.orders[i]? with|some o=>o.off|none=>false
def Qq(x:Instance)(set:Int)(i:Nat):Bool:=(decide ((i:Int)>62)||(pU .and .i64 (shV .shr .i64 set (i:Nat)) 1 == 0))||ZB x i
def EM(x:Instance)(set:Int)(l:List Visit)(i:Nat):List Visit:=if Qq x set i=true then[]else(gN x.orders (i:Nat)).filter (rG x l)
def zQ(x:Instance)(set:Int)(l:List Visit)(k:Nat):List Visit:=(List.range k).flatMap (EM x set l)
def Ao(x:Instance)(set:Int)(l:List Visit):List Visit:=zQ x set l x.orders.length
def CB(x:Instance)(set:Int)(l:List Visit)(k:Nat):zQ x set l (k+1)=zQ x set l k++EM x set l k:=by unfold zQ;rw[List.range_succ,List.flatMap_append];simp
def OL(x:Instance)(set:Int)(l:List Visit)(i:Nat):(EM x set l i).length<=2:=by
 unfold EM;split
 ·simp
 ·exact Xag (Xbm _ _) (oY _ _)
def yO(x:Instance)(set:Int)(l:List Visit):∀k,(zQ x set l k).length<=2*k
 | 0=>Xaf _
 | k+1=>by rw[CB,Xai];have:=yO x set l k;have:=OL x set l k;omega
abbrev Yy(l:List Visit):Row:=⟨72,2,l.map aL⟩
def UM(l:List Visit)(v:Visit):(⟨72,2,l.map aL++[aL v]⟩:Row)=Yy (l++[v]):=by show _=(⟨72,2,(l++[v]).map aL⟩:Row);rw[Xak];rfl
def JV{α:Type}{p:α->Bool}{l:List α}{k:Nat}{a:α}(h:l[k]?=some a):(l.take (k+1)).filter p=(l.take k).filter p++(if p a=true then[a]else[]):=by
 rw[aZ h,List.filter_append]
 congr 1
 rw[List.filter_cons];rfl
def WX(x:Instance)(set:Int)(l:List Visit)(hl:l.length<=1048576)(hb:x.before.length<=1048576)(hx:x.orders.length<=100000):PC prog 162 [.agg (aE x),int set,.sl (l.map aL)] (.sl ((Ao x set l).map aL)):=by
 refine pcb (fun t=>t == 7) func162 rfl rfl ?_;simp only[go_sem];refine dV fun j ao an (R:ao j=some (Yy [])) N=>?_
 clear N an;simp only[go_sem,R];refine⟨fun ρ H=>∃(k:Nat) (j:Nat),k<=x.orders.length/\ρ 1=int set/\ρ 2=.sl (l.map aL)/\ρ 3=.rp (aE x) 0/\ρ 13=.sl (x.orders.map bF)/\ρ 14=int (x.orders.length:Nat)/\ρ 15=int k/\ρ 7=.os j/\H j=some (Yy (zQ x set l k)),fun ρ _=>x.orders.length-aU (ρ 15),⟨0,j,Xab _,by simp only[go_sem],by simp only[go_sem],by simp only[go_sem],by simp only[go_sem],by simp only[go_sem,Xaa],(by simp only[go_sem];rfl),by simp only[go_sem],R⟩,?_⟩;rintro ρ H ⟨k,j,hk,J,O,T,A,E,I,M,R⟩;simp only[go_sem,J,O,T,A,E,I,M];refine aA (fun Z=>?_) (fun ah=>?_)
 ·have Z:=ltB (by simpa using Z);obtain⟨o,ho⟩:=aO Z;have b1:=inB Z;have hs:=CB x set l k;have ar:=yO x set l k;have ap:ZB x k=o.off:=by unfold ZB;rw[ho]
  have aq:Qq x set k=((decide ((k:Int)>62)||(pU .and .i64 (shV .shr .i64 set (k:Nat)) 1 == 0))||o.off):=by unfold Qq;rw[ap]
  have hA:EM x set l k=if Qq x set k=true then[]else(gN x.orders (k:Nat)).filter (rG x l):=rfl
  rw[hA,aq]at hs;generalize zQ x set l k=L at *;simp only[go_sem,J,O,T,A,E,I,M,aC ho,b1];refine aJ fun i9 ae=>?_
  simp only[go_sem,J,O,T,A,E,I,M,R];refine bH ae (by simp[kB]) fun al (R9:al i9=some ((⟨58,16,[bF o]⟩:Row))) N=>?_
  replace R:=N R;obtain⟨ak,R⟩:=R;clear N ae;simp only[go_sem,J,O,T,A,E,I,M,R9,R];refine⟨fun _=>by omega,?_⟩;refine aA (fun hc=>?_) (fun hc=>?_)
  ·rw[if_pos hc,Xbn]at hs;simp only[go_sem,J,O,T,A,E,I,M,aT k];refine⟨⟨k+1,j,Z,rfl,rfl,?_⟩,by simp only[aF];omega⟩;rw[hs];exact R
  rw[if_neg (by rw[hc];simp)]at hs;simp only[go_sem,J,O,T,A,E,I,M];refine aP (oR x.orders (k:Nat)) ?_;simp only[go_sem,J,O,T,A,E,I,M,Xaa];have hV:=oY x.orders (k:Nat);generalize gN x.orders (k:Nat)=V at *;refine⟨fun ρ H=>∃m j:Nat,m<=V.length/\ρ 1=int set/\ρ 2=.sl (l.map aL)/\ρ 3=.rp (aE x) 0/\ρ 13=.sl (x.orders.map bF)/\ρ 14=int x.orders.length/\ρ 15=int (k:Nat)/\ρ 36=.sl (V.map aL)/\ρ 37=int V.length/\ρ 38=int (m:Nat)/\ρ 7=.os j/\H j=some (Yy (L++(V.take m).filter (rG x l))),fun ρ _=>V.length-aU (ρ 38),⟨0,j,Xab _,by simp only[go_sem,J,O,T,A,E,I,M],by simp only[go_sem,J,O,T,A,E,I,M],by simp only[go_sem,J,O,T,A,E,I,M],by simp only[go_sem,J,O,T,A,E,I,M],by simp only[go_sem,J,O,T,A,E,I,M],by simp only[go_sem,J,O,T,A,E,I,M],by simp only[go_sem,J,O,T,A,E,I,M],by simp only[go_sem,J,O,T,A,E,I,M],by simp only[go_sem,J,O,T,A,E,I,M];rfl,by simp only[go_sem,J,O,T,A,E,I,M],by simpa using R⟩,?_⟩;clear J O T A E I M R R9;rintro ρ H ⟨m,j,hm,J,O,T,A,E,I,U,Y,X,M,R⟩;simp only[go_sem,J,O,T,A,E,I,U,Y,X,M];refine aA (fun aa=>?_) (fun ag=>?_)
  ·have aa:=ltB (by simpa using aa);obtain⟨u,hu⟩:=aO aa;have b2:=inB aa;have ac:=JV (p:=rG x l) hu;have au:((V.take m).filter (rG x l)).length<=2:=Xag (Xbm _ _) (by rw[Xah];omega);simp only[go_sem,J,O,T,A,E,I,U,Y,X,M,aC hu,b2];generalize (V.take m).filter (rG x l)=F at *;refine aJ fun i11 ab=>?_
   simp only[go_sem,J,O,T,A,E,I,U,Y,X,M,R];refine bH ab (by simp[cN]) fun af (am:af i11=some ((⟨72,2,[aL u]⟩:Row))) N=>?_
   replace R:=N R;obtain⟨aj,R⟩:=R;clear N ab;simp only[go_sem,J,O,T,A,E,I,U,Y,X,M,am,R];refine aP (XR x l u hl hb) ?_;simp only[go_sem,J,O,T,A,E,I,U,Y,X,M];refine aA (fun ai=>?_) (fun ai=>?_)
   ·rw[if_pos ai]at ac;simp only[go_sem,J,O,T,A,E,I,U,Y,X,M,am];refine bT R ⟨rfl,rfl⟩ (by simp only[go_sem]) (by simp only[Xaa,Xai,Xae,List.length_nil];omega) (fun j2 av=>?_);simp only[go_sem,J,O,T,A,E,I,U,Y,X,M,aT m];refine⟨⟨m+1,j2,aa,rfl,rfl,?_⟩,by simp only[aF];omega⟩;rw[ac,<-Xbd,aB];exact congrArg some (UM _ _)
   ·rw[if_neg (by rw[ai];simp),Xbn]at ac;simp only[go_sem,J,O,T,A,E,I,U,Y,X,M,aT m];refine⟨⟨m+1,j,aa,rfl,rfl,?_⟩,by simp only[aF];omega⟩;rw[ac];exact R
  have ag:=geB hm (by simpa using ag);subst ag;rw[Xad]at R;simp only[go_sem,J,O,T,A,E,I,M,aT k];refine⟨⟨k+1,j,Z,rfl,rfl,?_⟩,by simp only[aF];omega⟩;rw[hs];exact R
 have ah:=geB hk (by simpa using ah);subst ah;simp only[go_sem,J,O,T,A,E,I,M];exact .row _ _ _ R (ConvE.refl _)
end Sq
end Go.Proofs.YtkjdacijpeiphaaGreatDoor
section
namespace Go.Aw
open Go.RowKit
section
variable{P:Program}{f:FuncId}{args:List AV}{H:aG}{K:AV->aG->Prop}{r:AV}
def Sup(H H':aG):Prop:=∀k row,H k=some row->H' k=some row
def IE(H:aG)(r:AV)(a:AV)(H':aG):Prop:=Sup H H'/\∃l:List Nat,(∀k,k∈l->H k=none)/\Conv (fun k=>if k∈l then H' k else none) a r
def aX.data(h:aX P f args H (IE H r))(M:K r H):aX P f args H K:=by
 intro S w vals J ha;refine(h S w vals J ha).mono fun e w' ⟨v,x,H',S',O,⟨U,l,Y,hc⟩,E,Z,X,hn⟩=>?_
 obtain⟨h1,T,I⟩:=E.frz l;refine⟨v,r,H,S'.froze _,O,M,h1.drop (fun k row F=>?_),hc.rep I Z,X.trans T,fun k _ h0=>h0⟩;have A:¬k∈l:=fun A=>by rw[Y k A]at F;cases F
 show(if k∈l then none else H' k)=some row;rw[if_neg A];exact U k row F
def LC(P:Program)(f:FuncId)(args:List AV)(H:aG)(r:AV):Prop:=∀K:AV->aG->Prop,K r H->aX P f args H K
def LC.use(h:LC P f args H r)(A:K r H):aX P f args H K:=h K A
def LC.body{fn:Func}{c:Code}(mt:Nat->Bool)(A:P.follows .mixedOrders=true)(F:P.funcs[f]?=some fn)(J:fn.body=some c)(E:vL fn c args.length=true)
 (h:awp P (aX P) (cQ P) mt c (EC P fn.results.toList (IE H r)) (Bx args) H):LC P f args H r:=fun K I=>aX.data (aX.body mt A F J E h) I
def Sup.refl(H:aG):Sup H H:=fun _ _ h=>h
def Sup.upd{H H':aG}(h:Sup H H'){i:Nat}(E:H i=none)(a:Option Row):Sup H (aI H' i a):=fun k row A=>by rw[aD _ _ _ _ (fun e=>by subst e;rw[E]at A;cases A)];exact h k row A
def Sup.none{H H':aG}(h:Sup H H'){i:Nat}(A:H' i=none):H i=none:=by
 cases e:H i with
 | none=>rfl
 | some row=>rw[h i row e]at A;cases A
def Sup.eq{H A B:aG}(h:Sup H A)(e:A=B):Sup H B:=e▸h
def Sup.at{H H':aG}(h:Sup H H'){i:Nat}{row:Row}(A:H i=some row):H' i=some row:=h i row A
def Sup.ne{H H':aG}(h:Sup H H'){i j:Nat}{row:Row}(E:H i=some row)(A:H j=.none):i≠j:=fun e=>by subst e;rw[E]at A;cases A
def IE.flat{H H':aG}(h:Sup H H')(r:AV):IE H r r H':=⟨h,[],by simp,.refl r⟩
def lI{l:List Nat}{H A:aG}{K:Env->aG->Prop}{ρ:Env}(I:∀k,k∉l->A k=H k)(h:K ρ H):mI l H K ρ A:=fun _ E h1 F=>by
 have:E=H:=funext fun k=>by
  by_cases e:k∈l
  ·exact h1 k e
  ·rw[F k e,I k e]
 rw[this];exact h
def oW{l:List Nat}{H E:aG}{K:Env->aG->Prop}{ρ:Env}{i:Nat}{r:Option Row}(M:∀k,k∉l->E k=H k)(J:i∉l)(h:K ρ (aI H i r)):mI l H K ρ (aI E i r):=fun _ F h1 I=>by
 have:F=aI H i r:=funext fun k=>by
  by_cases e:k∈l
  ·rw[h1 k e,aD _ _ _ _ (fun A=>J (by rw[<-A];exact e))]
  ·rw[I k e];by_cases A:k=i
   ·subst A;rw[aB,aB]
   ·rw[aD _ _ _ _ A,aD _ _ _ _ A,M k e]
 rw[this];exact h
def mJ{l:List Nat}{H F:aG}{K:Env->aG->Prop}{ρ:Env}{i:Nat}{a:Option Row}{b:Row}(I:∀k,k∉l->F k=H k)(O:F i=none)(h:H i=none->K ρ (aI (aI H i a) i (some b))):mI l H K ρ (aI (aI F i a) i (some b)):=fun h0 M h1 J=>by
 have E:i∉l:=fun e=>by have:=h0 i e;rw[aB]at this;cases this
 have:M=aI (aI H i a) i (some b):=funext fun k=>by
  by_cases e:k∈l
  ·rw[h1 k e,aD _ _ _ _ (fun A=>E (by rw[<-A];exact e)),aD _ _ _ _ (fun A=>E (by rw[<-A];exact e))]
  ·rw[J k e];by_cases A:k=i
   ·subst A;rw[aB,aB]
   ·rw[aD _ _ _ _ A,aD _ _ _ _ A,aD _ _ _ _ A,aD _ _ _ _ A,I k e]
 rw[this];exact h ((I i E).symm.trans O)
end
end Go.Aw
end
namespace Go.Proofs.YtkjdacijpeiphaaGreatDoor
open Go.Aw Go.Aw.D Go.Proofs Ty
namespace Sq
open Go.Proofs.YtkjdacijpeiphaaGreatDoor.Nu (ltB geB)
open Mv (bP cK aR)
def DT(L:List Nat):Nat:=(L.map fun a=>2^62-a).sum
def KO:∀{L:List Nat} {i u v:Nat},L[i]?=some u->u<v->v<=2^62->DT (L.set i v)<DT L
 | [],i,u,v,h,_,_=>by simp at h
 | a::L,0,u,v,h,h1,h2=>by
  have:a=u:=by simpa using h
  subst this;show(2^62-v)+(L.map fun a=>2^62-a).sum<(2^62-a)+(L.map fun a=>2^62-a).sum;omega
 | a::L,i+1,u,v,h,h1,h2=>by have:=KO (L:=L) (i:=i) (by simpa using h) h1 h2;show(2^62-a)+DT (L.set i v)<(2^62-a)+DT L;omega
abbrev Bp(L:List Nat):Row:=⟨3,1,L.map fun n=>[int (n:Nat)]⟩
def aaX:List AV->Nat
 | [.v (.int _ a)]=>2^62-a.toNat
 | _=>0
def Yk(x b:AV)(H:aG):Nat:=match x,b with
 | .os j,.v (.bool true)=>match H j with
   | some r=>(r.es.map aaX).sum+1
   | none=>0
 | _,_=>0
def UA{j:Nat}{H:aG}{L:List Nat}(h:H j=some (Bp L)):Yk (.os j) (boo true) H=DT L+1:=by unfold Yk;simp only[h,List.map_map];rfl
def ZY{j:Nat}{H:aG}:Yk (.os j) (boo false) H=0:=rfl
def VI{s:Int}{a:Int}(h:a∈eJ s):∃k:Nat,a=(k:Nat):=by unfold eJ rL at h;obtain⟨k,_,rfl⟩:=Xau.1 h;exact⟨k,rfl⟩
def VV(s:Int):(eJ s).length<=63:=by unfold eJ rL;rw[Xaa];exact Xag (Xbm _ _) (by rw[Xbq];exact Xaf _)
end Sq
namespace Sq
structure Lab where
 ready:Int
 since:Int
 sheet:Sheet
def NS:Tm:=⟨0,0,0,false⟩
def dP(s:Sheet)(k:Nat)(b:Bool)(d:Int):Sheet:=match k with
 | 0=>{ s with rest:=b,depart:=d }
 | j+1=>{ s with times:=s.times.set j ⟨(s.times.getD j NS).arrive,(s.times.getD j NS).begin_,d,b⟩ }
def AQ(t:VType)(l:Lab)(b:Bool):Int:=if b=true then W (l.ready+t.rest)else l.ready
def BS(l:Lab)(b:Bool):Int:=if b=true then 0 else l.since
def goL(x:Instance)(t:VType)(p q:Int)(l:Lab)(b:Bool):Int×Int×Int:=iD x.net t.profile p q (AQ t l b)
def RM(x:Instance)(t:VType)(p q:Int)(l:Lab)(b:Bool):Int:=W (W (BS l b+(goL x t p q l b).1)-AQ t l b)
def NM(x:Instance)(t:VType)(p:Int)(s:Stop)(k:Nat)(l:Lab)(b:Bool):Sheet:=
 { dP l.sheet k b (AQ t l b)with
   times:=(dP l.sheet k b (AQ t l b)).times++[⟨(goL x t p s.place l b).1,jL (goL x t p s.place l b).1 s.start,0,false⟩]
   miles:=W (l.sheet.miles+(goL x t p s.place l b).2.1) }
def Gt(x:Instance)(t:VType)(p:Int)(s:Stop)(k:Nat)(l:Lab)(b:Bool):Except Int Lab:=
 if((goL x t p s.place l b).2.2 != 0)=true then .error 12
 else if jL (goL x t p s.place l b).1 s.start>s.close then .error 14
 else if RM x t p s.place l b>t.drive then .error 16
 else .ok ⟨W (jL (goL x t p s.place l b).1 s.start+s.service),RM x t p s.place l b,NM x t p s k l b⟩
def Tr(x:Instance)(t:VType)(p:Int)(k:Nat)(l:Lab)(b:Bool):Sheet:=
 { dP l.sheet k b (AQ t l b)with
   end_:=(goL x t p t.dst l b).1
   miles:=W (l.sheet.miles+(goL x t p t.dst l b).2.1) }
def KF(x:Instance)(t:VType)(p:Int)(k:Nat)(l:Lab)(b:Bool):Except Int Lab:=
 if((goL x t p t.dst l b).2.2 != 0)=true then .error 12
 else if(goL x t p t.dst l b).1>t.close then .error 15
 else if RM x t p t.dst l b>t.drive then .error 16
 else .ok ⟨(goL x t p t.dst l b).1,RM x t p t.dst l b,Tr x t p k l b⟩
def Hv(t:VType)(r:Route):Lab:=⟨jL t.start r.start,0,bV⟩
def oI(s:Sheet)(k:Nat)(b:Bool)(d:Int):(dP s k b d).miles=s.miles/\(dP s k b d).end_=s.end_/\(dP s k b d).times.length=s.times.length:=by cases k <;> simp[dP]
def iS(fixed:List Bool)(k:Nat):List Bool:=if k<fixed.length then[fixed.getD k false]else[false,true]
def yK(m l:Lab):Bool:=m.ready == l.ready&&decide (m.since<=l.since)
def Fp(out:List Lab)(e:Except Int Lab):List Lab:=match e with
 | .error _=>out
 | .ok l=>if out.any (yK · l)=true then out else out++[l]
def NV{r:Route}(A:r.rests.length<=r.visits.length+1):(Bu r).length=r.visits.length+1:=by unfold Bu;simp;omega
def Q0{x:Instance}{t:VType}{p:Int}{s:Stop}{k:Nat}{l:Lab}{b:Bool}{e:Int}(h:Gt x t p s k l b=.error e):e≠0:=by
 unfold Gt at h
 repeat' split at h
 all_goals first|(injection h with h;omega)|cases h
def Sx{x:Instance}{t:VType}{p:Int}{k:Nat}{l:Lab}{b:Bool}{e:Int}(h:KF x t p k l b=.error e):e≠0:=by
 unfold KF at h
 repeat' split at h
 all_goals first|(injection h with h;omega)|cases h
def KG(e:Except Int Lab):Int:=match e with| .error e=>e| .ok _=>0
end Sq
end Go.Proofs.YtkjdacijpeiphaaGreatDoor
