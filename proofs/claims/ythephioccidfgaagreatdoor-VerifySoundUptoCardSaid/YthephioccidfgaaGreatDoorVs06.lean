import Derived.Lib.ItoaMem
import Derived.Test.YthephioccidfgaaGreatDoorVs05
set_option linter.unusedSimpArgs false
set_option linter.unusedVariables false
set_option linter.defProp false
set_option maxRecDepth 100000
namespace Go.Proofs.YthephioccidfgaaGreatDoor
open Go.Aw Go.Aw.D Go.Proofs Ty
namespace Nu
open Go.Proofs.Tryz
open Go.Nu
def N1:∀{l r:List UInt8},l.all isD=true->r.all isD=true->l.length=r.length->Lib.compareBytes l r=lB (jH l) (jH r)
 | [],[],_,_,_=>by rfl
 | [],_::_,_,_,h=>by grind
 | _::_,[],_,_,h=>by grind
 | a::l,b::r,hl,hr,h=>by
  simp only[List.all_cons,Xah]at hl hr;simp only[Xag,Nat.add_right_cancel_iff]at h;have ih:=N1 hl.2 hr.2 h;have U:jH (a::l)=(a.toNat-48)*10^l.length+jH l:=by
   have:=By [a] l
   grind[jH]
  have O:jH (b::r)=(b.toNat-48)*10^r.length+jH r:=by
   have:=By [b] r
   grind[jH]
  have h1:=IR hl.2;have Z:=IR hr.2;have Y:=uY.1 hl.1;have db:=uY.1 hr.1;rw[Lib.compareBytes,U,O,<-h]at *;have E:a<b↔a.toNat<b.toNat:=UInt8.lt_iff_toNat_lt;have F:b<a↔b.toNat<a.toNat:=UInt8.lt_iff_toNat_lt;split
  ·rename_i A;rw[E]at A;have:(a.toNat-48+1)*10^l.length<=(b.toNat-48)*10^l.length:=Nat.mul_le_mul_right _ (by omega)
   grind[oA]
  ·split
   ·rename_i A;rw[F]at A;have:(b.toNat-48+1)*10^l.length<=(a.toNat-48)*10^l.length:=Nat.mul_le_mul_right _ (by omega);rw[Nat.add_mul]at this;rw[nD (by omega)]
   ·rename_i X T;rw[E]at X;rw[F]at T;have:a.toNat=b.toNat:=by omega
    rw[ih,this];generalize (b.toNat-48)*10^l.length=p;unfold lB;have J:(((p+jH l:Nat):Int)<((p+jH r:Nat):Int))↔((jH l:Nat):Int)<((jH r:Nat):Int):=by omega
    have c2:(((p+jH r:Nat):Int)<((p+jH l:Nat):Int))↔((jH r:Nat):Int)<((jH l:Nat):Int):=by omega
    simp only[J,c2]
def Jx(m n:Nat):PC prog 162 [str (dec m),str (dec n)] (int (lB m n)):=by
 have F:=I6 m;have J:=I6 n;have A:∀{p q:Nat},(Lib.decDigits p).length<(Lib.decDigits q).length->p<q:=fun {p q} h=>by
  have h1:=(vW (n:=p) (k:=(Lib.decDigits p).length) (BQ p)).1 (Xae _);rcases Xcb p q with E|E
  ·exact E
  ·have:=(vW (n:=q) (k:=(Lib.decDigits p).length) (BQ p)).2 (by omega);omega
 refine pcd func162 rfl rfl ?_;simp only[go_sem];apply aA <;> intro h
 ·have h:(dec m).size≠(dec n).size:=neN h;simp only[go_sem];apply aA <;> intro E
  ·have E:=ltB E;simp only[go_sem]
   grind[cI,oA]
  ·have E:¬(dec m).size<(dec n).size:=by grind
   simp only[go_sem];have:=A (p:=n) (q:=m) (by omega)
   grind[cI,nD]
 ·have h:(dec m).size=(dec n).size:=eqN h;simp only[go_sem];refine aO (Vv (dec m) (dec n)) ?_;simp only[go_sem];refine cI ?_;rw[sR,sR,N1 (xO m) (xO n) (by omega),KQ,KQ]
def Yt(a b:ByteArray)(E:iH a=true)(A:iH b=true):PC prog 162 [str a,str b] (int (lB (kM a) (kM b))):=by
 have:=Jx (kM a) (kM b)
 rwa [pA E,pA A]at this
def GH{s:ByteArray}(h:gT s=true):iH (iR s)=true:=by unfold gT at h;simp only[Xah]at h;exact h.1
def XT(a b:ByteArray)(Y:a.size<=1048576)(U:b.size<=1048576):PC prog 113 [str a,str b] (int (apB a b)):=by
 refine pcd func113 rfl rfl ?_;simp only[go_sem];refine aO (EQ a Y) ?_;simp only[go_sem];refine aO (EQ b U) ?_;simp only[go_sem];apply aA <;> intro h
 ·simp only[go_sem];refine cI ?_;unfold apB
  grind
 have E:gT a=true/\gT b=true:=by grind
 have O:=GH E.1;have T:=GH E.2;have A:∀{s:ByteArray},gT s=true->lJ s=true->0<kM (iR s):=fun {s} h1 F=>by
  have h3:=h1;unfold gT at h3;simp only[F,Xbc,Xah,Xau,vQ]at h3
  grind[pA]
 have X:apB a b=lB (nI a) (nI b):=if_pos E;rw[X];unfold nI;simp only[go_sem];apply aA <;> intro F
 ·have F:lJ a=true/\lJ b=true:=by grind
  simp only[go_sem];refine aO (Yt _ _ T O) ?_;simp only[go_sem];simp_all[cI,lB]
 ·simp only[go_sem];apply aA <;> intro h3
  ·have J:lJ b=false:=by grind
   have:=A E.1 h3;simp only[go_sem];refine cI ?_;rw[if_pos h3,if_neg (by grind),oA (by omega)]
  ·simp only[go_sem];apply aA <;> intro J
   ·have:=A E.2 J;simp only[go_sem];refine cI ?_;rw[if_neg (by grind),if_pos J,nD (by omega)]
   ·simp only[go_sem];refine aO (Yt _ _ O T) ?_;simp only[go_sem];simp_all[cI]
def lK(m:Bool)(n:Nat):List AV:=[boo m,str (dec n)]
def FU(m:Bool)(n:Nat):(lK m n).length=2:=(rfl)
def auY(m:Bool)(n:Nat):(lK m n).getD 0 .any=boo m:=(rfl)
def awO(m:Bool)(n:Nat):(lK m n).getD 1 .any=str (dec n):=(rfl)
def afY(m:Bool)(n:Nat):(lK m n).take 2=lK m n:=(rfl)
attribute [go_sem] FU auY awO afY
def SS{m n:Nat}(E:m<dA)(A:n<dA):XA (dec m) (dec n)=szN (m+n):=by unfold XA;rw[if_pos (BL E A),dW,dW]
def Ub{m n:Nat}(E:m<dA)(A:n<dA)(h:n<=m):Vs (dec m) (dec n)=szN (m-n):=by unfold Vs;rw[if_pos (BL E A),dW,dW,if_neg (by omega)]
def fS{m:Nat}(A:m<dA):(dec m).size<=1048576:=by have:=(mK m).2 A;omega
def aBc(a b:Bool)(m n:Nat)(Z:m<dA)(hn:n<dA):PC prog 161 [.agg (lK a m),.agg (lK b n)] (.tup [str (szZ (sg a m+sg b n)).1,int (szZ (sg a m+sg b n)).2]):=by
 refine pcb (fun t=>t == 2||t == 3) func161 rfl rfl ?_;simp only[go_sem];refine aJ fun i hi=>?_
 simp only[go_sem];refine aJ fun j hj=>?_
 have T:=aB bY i (some ⟨253,2,[lK a m]⟩);have J:i≠j:=aV T hj;have E:=aB (aH bY i (some ⟨253,2,[lK a m]⟩)) j (some ⟨253,2,[lK b n]⟩);have A:(aH (aH bY i (some ⟨253,2,[lK a m]⟩)) j (some ⟨253,2,[lK b n]⟩)) i=some ⟨253,2,[lK a m]⟩:=by rw[aD _ _ _ _ J];exact T
 generalize aH (aH bY i _) j _=H1 at *;simp only[go_sem,A,E];apply aA <;> intro h
 ·have F:a=b:=by grind
  subst F;simp only[go_sem,A,E];refine aO (anX (dec m) (dec n) (fS Z) (fS hn)) ?_;rw[SS Z hn];simp only[go_sem,A];refine aO (KI a (m+n)) ?_;simp only[go_sem];have e:sg a (m+n)=sg a m+sg a n:=by grind[sg]
  rw[e];exact .refl _
 have F:b= !a:=by cases a <;> cases b <;> simp_all
 subst F;simp only[go_sem,A,E];refine aO (Jx m n) ?_;simp only[go_sem,A,E];refine bQ (fun U H'=>∃(X b':Bool) (p q:Nat),p<dA/\q<dA/\q<=p/\sg X (p-q)=sg a m+sg (!a) n/\U 2=.op i 0 0/\U 3=.op j 0 0/\H' i=some (⟨253,2,[lK X p]⟩:Row)/\H' j=some (⟨253,2,[lK b' q]⟩:Row)) ?_ fun K hK=>aA (fun Y=>?_) (fun Y=>?_)
 rotate_left
 ·have ae : m < n := by
   rcases Xcb m n with h|h
   ·exact h
   ·exfalso;have Y:=of_decide_eq_true Y;unfold lB at Y;omega
  simp only[go_sem,A,E];refine aM A (by simp[FU]) ?_;generalize O:aH H1 i _=HP;have T:HP i=some (⟨253,2,[lK (!a) n]⟩:Row):=by rw[<-O,aB];rfl
  have ab:HP j=some (⟨253,2,[lK (!a) n]⟩:Row):=by rw[<-O,aD _ _ _ _ (Ne.symm J)];exact E
  clear O;simp only[go_sem];refine aM ab (by simp[FU]) ?_;generalize O:aH HP j _=HQ;have S3:HQ j=some (⟨253,2,[lK a m]⟩:Row):=by rw[<-O,aB];rfl
  have S2:HQ i=some (⟨253,2,[lK (!a) n]⟩:Row):=by rw[<-O,aD _ _ _ _ J];exact T
  clear O;simp only[go_sem];refine hK _ _ ⟨!a,a,n,m,hn,Z,by omega,?_,rfl,rfl,S2,S3⟩
  grind[sg]
 ·have aa:n<=m:=by grind[oA]
  simp only[go_sem];refine hK _ _ ⟨a,!a,m,n,Z,hn,aa,?_,rfl,rfl,A,E⟩
  grind[sg]
 rintro ρ H ⟨X,b',p,q,hp,hq,ac,hv,h2,h3,T,E⟩;simp only[go_sem,h2,h3,T,E];refine aO (aiR (dec p) (dec q) (fS hp) (fS hq)) ?_;rw[Ub hp hq ac];simp only[go_sem,h2,T];refine aO (KI X (p-q)) ?_;simp only[go_sem];rw[hv];exact .refl _
def QV(a b:ByteArray):LK [a,b]=uA a b:=by unfold LK uA aoP;simp only[List.any_cons,List.any_nil,Bool.or_false]
def ahY(n:Int):IB (zed n)=lK (decide (n<0)) n.natAbs:=by unfold IB lK;rw[D8,vY]
def apM(n:Int):sg (decide (n<0)) n.natAbs=n:=by
 unfold sg;by_cases h:n<0
 ·simp[h];omega
 ·simp[h];omega
def XX{m n:Int}(h:uA (zed m) (zed n)=0):zL [zed m,zed n]=[lK (decide (m<0)) m.natAbs,lK (decide (n<0)) n.natAbs]:=by unfold zL;rw[QV,if_pos h];simp only[Xaq,List.map_nil,ahY]
def JW(a b:ByteArray)(E:a.size<=1048576)(A:b.size<=1048576):PC prog 156 [.sl [[str a],[str b]]] (.tup [.sl (zL [a,b]),int (uA a b)]):=by
 have:=avR [a,b] (by simp) (by grind)
 rwa [QV]at this
def aqQ(a b:ByteArray)(F:a.size<=1048576)(A:b.size<=1048576):PC prog 111 [str a,str b] (.tup [str (JI a b).1,int (JI a b).2]):=by
 refine pcd func111 rfl rfl ?_;simp only[go_sem];refine aO (JW a b F A) ?_;simp only[go_sem];apply aA <;> intro h
 ·have h:uA a b≠0:=by grind
  simp only[go_sem];rw[show JI a b=(emp,uA a b)from if_neg h];exact .refl _
 have h:uA a b=0:=by grind
 have e:JI a b=szZ (nI a+nI b):=if_pos h;rw[e];obtain⟨m,n,rfl,rfl,E,J⟩:=FY h;rw[dT,dT,XX h];simp only[go_sem];refine kB ?_;simp only[go_sem,Xag,List.length_nil]
 repeat (refine⟨by first|decide|omega,?_⟩)
 refine⟨_,(aBc _ _ _ _ E J).q rfl,?_⟩;simp only[go_sem];rw[apM,apM];exact .refl _
def amL{m n:Nat}(E:m<dA)(A:n<dA):Vn (dec m) (dec n)=szN (m*n):=by unfold Vn;rw[if_pos (BL E A),dW,dW]
def aAx(a b:ByteArray)(O:a.size<=1048576)(F:b.size<=1048576):PC prog 225 [str a,str b] (.tup [str (Cf a b).1,int (Cf a b).2]):=by
 refine pcd func225 rfl rfl ?_;simp only[go_sem];refine aO (JW a b O F) ?_;simp only[go_sem];apply aA <;> intro h
 ·have h:uA a b≠0:=by grind
  simp only[go_sem];rw[show Cf a b=(emp,uA a b)from if_neg h];exact .refl _
 have h:uA a b=0:=by grind
 have e:Cf a b=szZ (nI a*nI b):=if_pos h;rw[e];obtain⟨m,n,rfl,rfl,A,E⟩:=FY h;rw[dT,dT,XX h];simp only[go_sem];refine kB ?_;simp only[go_sem,Xag,List.length_nil]
 repeat (refine⟨by first|decide|omega,?_⟩)
 refine⟨_,(aAG (dec m.natAbs) (dec n.natAbs) (fS A) (fS E)).q rfl,?_⟩;rw[amL A E];simp only[go_sem];refine kB ?_;simp only[go_sem,Xag,List.length_nil]
 repeat (refine⟨by first|decide|omega,?_⟩)
 refine⟨_,(KI _ (m.natAbs*n.natAbs)).q rfl,?_⟩;simp only[go_sem];have J:sg (!(decide (m<0) == decide (n<0))) (m.natAbs*n.natAbs)=m*n:=by
  unfold sg
  grind
 rw[J];exact .refl _
def DT{P:Program}{C:mM}{PC:FuncId->List AV->aG->AV->Prop}{mt:Nat->Bool}{ops:Array Oper}{K:Env->aG->Prop}{m:Nat}{ρ:Env}{H:aG}(J:Env->aG->Prop)(h1:∀ρ H,J ρ H->K ρ H)
 (A:∀K':Env->aG->Prop,(∀ρ H,J ρ H->K' ρ H)->wW P C PC mt ops K' m ρ H):wW P C PC mt ops K m ρ H:=A K h1
abbrev II(A:List AV):Row:=⟨253,2,[A]⟩
abbrev zN:Row:=II [.v (.bool false),.v (.string ByteArray.empty)]
def ET{A:List AV}(h:A.length=2):(⟨253,2,[List.take 2 A++List.drop (List.take 2 A).length [AV.v (.bool false),AV.v (.string ByteArray.empty)]]⟩:Row)=II A:=by rw[Xbb (by omega),h];simp
def SO{m n:Int}(O:n≠0)(F:decide (m<0)≠decide (n<0))(U:m.natAbs%n.natAbs≠0):
  m.fdiv n= -((m.natAbs/n.natAbs+1:Nat):Int)/\m.fmod n=sg (decide (n<0)) (n.natAbs-m.natAbs%n.natAbs):=by
 have e:=Nat.mod_add_div m.natAbs n.natAbs;have E:=Nat.mod_lt m.natAbs (show 0<n.natAbs by omega);generalize m.natAbs/n.natAbs=q at *;generalize m.natAbs%n.natAbs=r at *;have A:(r:Int)+(n.natAbs:Int)*(q:Int)=(m.natAbs:Int):=by omega
 unfold sg;rcases Int.lt_or_gt_of_ne O with h|h
 ·have J:¬m<0:=fun T=>F (by grind)
  rw[Int.ofNat_natAbs_of_nonpos (a:=n) (by omega),Int.natAbs_of_nonneg (a:=m) (by omega)]at A;refine(Int.fdiv_fmod_unique' h).2 ⟨?_,?_,?_⟩
  all_goals grind
 ·have J:m<0:=by grind
  rw[Int.natAbs_of_nonneg (a:=n) (by omega),Int.ofNat_natAbs_of_nonpos (a:=m) (by omega)]at A;refine(Int.fdiv_fmod_unique h).2 ⟨?_,?_,?_⟩
  all_goals grind
def abZ{m n:Int}(O:n≠0)(h0:decide (m<0)=decide (n<0)\/m.natAbs%n.natAbs=0):
  m.fdiv n=sg (!(decide (m<0) == decide (n<0))) (m.natAbs/n.natAbs)/\m.fmod n=sg (decide (n<0)) (m.natAbs%n.natAbs):=by
 have e:=Nat.mod_add_div m.natAbs n.natAbs;have J:=Nat.mod_lt m.natAbs (show 0<n.natAbs by omega);generalize m.natAbs/n.natAbs=q at *;generalize m.natAbs%n.natAbs=r at *;have E:(r:Int)+(n.natAbs:Int)*(q:Int)=(m.natAbs:Int):=by omega
 unfold sg;rcases Int.lt_or_gt_of_ne O with h|h
 ·rw[Int.ofNat_natAbs_of_nonpos (a:=n) (by omega)]at E;refine(Int.fdiv_fmod_unique' h).2 ?_
  grind
 ·rw[Int.natAbs_of_nonneg (a:=n) (by omega)]at E;refine(Int.fdiv_fmod_unique h).2 ?_;have A:¬n<0:=by omega
  by_cases F:m<0
  ·rw[Int.ofNat_natAbs_of_nonpos (a:=m) (by omega)]at E;have T:r=0:=by
    rcases h0 with h0|h0
    ·simp[A,F]at h0
    ·exact h0
   simp only[A,F,decide_true,decide_false,show(!(true == false))=true from rfl,if_true,Xbi,if_false];have:n* -(q:Int)= -(n*q):=by grind
   exact⟨by rw[this];omega,by omega,by omega⟩
  ·rw[Int.natAbs_of_nonneg (a:=m) (by omega)]at E;simp only[A,F,decide_false,beq_self_eq_true,Xcl,Xbi,if_false];exact⟨by omega,by omega,by omega⟩
def alB{m n:Nat}(E:m<dA)(A:n<dA)(h:n≠0):Tz (dec m) (dec n)=(dec (m/n),dec (m%n),0):=by unfold Tz;rw[if_pos (BL E A),dW,dW,if_neg h]
def KC(a b:ByteArray)(ha:a.size<=1048576)(E:b.size<=1048576):PC prog 110 [str a,str b] (.tup [str (qZ a b).1,str (qZ a b).2.1,int (qZ a b).2.2]):=by
 refine pcd func110 rfl rfl ?_;simp only[go_sem];refine aO (JW a b ha E) ?_;simp only[go_sem];apply aA <;> intro h
 ·have h:uA a b≠0:=by simpa using h
  simp only[go_sem];rw[show qZ a b=(emp,emp,uA a b)from if_neg h];exact .refl _
 have h:uA a b=0:=by simpa using h
 obtain⟨m,n,rfl,rfl,Z,hn⟩:=FY h;have e:qZ (zed m) (zed n)=if n=0 then(emp,emp,10)else(zed (m.fdiv n),zed (m.fmod n),0):=by unfold qZ;rw[if_pos h,dT,dT]
 rw[e,XX h];simp only[go_sem];obtain⟨A,hA⟩:∃A,lK (decide (m<0)) m.natAbs=A:=⟨_,rfl⟩;obtain⟨B,hB⟩:∃B,lK (decide (n<0)) n.natAbs=B:=⟨_,rfl⟩;have aa:A.length=2:=by rw[<-hA];rfl
 have Y:B.length=2:=by rw[<-hB];rfl
 refine DT (fun J H'=>∃i j,J 9=.op i 0 0/\J 10=.op j 0 0/\H' i=some (II A)/\H' j=some (II B)) ?_ fun K hK=>?_
 rotate_left
 ·refine C3 [] (.q 0 (.q 1 (.q 2 (.q 3 (.q 4 (.q 5 (.a2 6 (.a1 7 (.a1 8 (.a1 9 .nil))) 7 (.a1 6 (.a1 8 (.a1 9 .nil)))))))))) (by simp) (by kernel_rfl) fun Hp Hr _ hq _ _=>?_
  simp only[go_sem,Xag,List.length_nil,hA,hB]
  repeat (refine⟨by first|decide|omega,?_⟩)
  refine lF ?_ ?_
  ·simp only[go_sem];refine aJ fun i hi=>?_
   simp only[go_sem];refine aJ fun j hj=>?_
   have R:=aB Hr i (some (zN));have T:=aV R hj;have U:=jW (r':=zN) R hj;have O:=aB (aH Hr i (some (zN))) j (some (zN));simp only[go_sem];refine aM (r:=zN) U (by simp[aa]) ?_;simp only[go_sem];refine aM (r:=zN) (by rw[aD _ _ _ _ T.symm];exact O) (by simp[Y]) ?_;simp only[go_sem];refine fF fun _ Hm _ Z=>hK _ _ ⟨i,j,rfl,rfl,?_,?_⟩
   ·rw[Z i (by simp),aD _ _ _ _ T,aB];exact congrArg some (ET aa)
   ·rw[Z j (by simp),aB];exact congrArg some (ET Y)
  ·simp only[go_sem];refine aJ fun j hj=>?_
   simp only[go_sem];refine aJ fun i hi=>?_
   have R:=aB Hr j (some (zN));have T:=(aV R hi).symm;have O:=jW (r':=zN) R hi;have U:=aB (aH Hr j (some (zN))) i (some (zN));simp only[go_sem];refine aM (r:=zN) U (by simp[aa]) ?_;simp only[go_sem];refine aM (r:=zN) (by rw[aD _ _ _ _ T.symm];exact O) (by simp[Y]) ?_;simp only[go_sem];refine fF fun _ Hm _ Z=>hK _ _ ⟨i,j,rfl,rfl,?_,?_⟩
   ·rw[Z i (by simp),aD _ _ _ _ T,aB];exact congrArg some (ET aa)
   ·rw[Z j (by simp),aB];exact congrArg some (ET Y)
 rintro ρ H ⟨i,j,h9,F,U,O⟩;subst hA hB;simp only[go_sem,F,O,AE];apply aA <;> intro ae
 ·have h0 : n = 0 := by have:=Au.1 (xU.1 ae);omega
  simp only[go_sem];rw[if_pos h0];exact .refl _
 have h0:n≠0:=fun e=>by subst e;exact vQ.1 ae rfl
 have ah:n.natAbs≠0:=by omega
 rw[if_neg h0];simp only[go_sem,h9,F,U,O];refine aO (azV (dec m.natAbs) (dec n.natAbs) (fS Z) (fS hn)) ?_;rw[alB Z hn ah];simp only[go_sem];refine aA (fun E=>by cases E) (fun _=>?_);simp only[go_sem,h9,F,U,O,AE];have ak:=Nat.mod_add_div m.natAbs n.natAbs;have aj:=Nat.mod_lt m.natAbs (show 0<n.natAbs by omega);refine bQ (fun J H'=>∃q r:Nat,J 9=.op i 0 0/\J 10=.op j 0 0/\H' i=some (II (lK (decide (m<0)) m.natAbs))/\H' j=some (II (lK (decide (n<0)) n.natAbs))/\J 11=str (dec q)/\J 12=str (dec r)/\q<dA/\r<dA/\sg (!(decide (m<0) == decide (n<0))) q=m.fdiv n/\sg (decide (n<0)) r=m.fmod n) ?_ fun K hK=>aA (fun E=>?_) (fun E=>?_)
 rotate_left
 ·have E : decide (m < 0) ≠ decide (n < 0) /\ m.natAbs % n.natAbs ≠ 0 := by simp only[Xah,Xau,beq_eq_false_iff_ne,ne_eq,vQ]at E;exact⟨E.1,fun e=>E.2 (by rw[e])⟩
  obtain⟨f1,f2⟩:=SO h0 E.1 E.2;have ab:m.natAbs/n.natAbs+1<dA:=by
   have h2:2<=n.natAbs:=by omega
   have h3:2*(m.natAbs/n.natAbs)<=n.natAbs*(m.natAbs/n.natAbs):=Nat.mul_le_mul_right _ h2;omega
  have X:m.natAbs/n.natAbs<dA:=by omega
  have af:(1:Nat)<dA:=Nat.lt_of_le_of_lt (Nat.le_add_left 1 _) ab;have ac:m.natAbs%n.natAbs<dA:=by omega
  generalize hQ:m.natAbs/n.natAbs=q at *;generalize hR:m.natAbs%n.natAbs=r at *;simp only[go_sem];rw[I5];refine aO (anX (dec q) (dec 1) (fS X) (fS af)) ?_;rw[SS X af,Ge ab];simp only[go_sem];refine aA (fun E=>by cases E) (fun _=>?_);simp only[go_sem,F,O];refine aO (aiR (dec n.natAbs) (dec r) (fS hn) (fS ac)) ?_;rw[Ub hn ac (by omega),Ge (show n.natAbs-r<dA by omega)];simp only[go_sem];refine aA (fun E=>by cases E) (fun _=>?_);simp only[go_sem];refine hK _ _ ⟨q+1,n.natAbs-r,h9,F,U,O,rfl,rfl,ab,by omega,?_,f2.symm⟩;rw[f1];unfold sg;rw[if_pos (by simpa using E.1)]
 ·have E : decide (m < 0) = decide (n < 0) \/ m.natAbs % n.natAbs = 0 := by
   by_cases h1:decide (m<0)=decide (n<0)
   ·exact .inl h1
   ·refine .inr ?_;have h2:(!(decide (m<0) == decide (n<0)))=true:=by simpa using h1
    rw[h2,Xbc,Xbj]at E;exact Au.1 (xU.1 E)
  obtain⟨f1,f2⟩:=abZ h0 E;have X:m.natAbs/n.natAbs<dA:=Nat.lt_of_le_of_lt (Nat.div_le_self _ _) Z;simp only[go_sem];exact hK _ _ ⟨_,_,h9,F,U,O,rfl,rfl,X,by omega,f1.symm,f2.symm⟩
 rintro ρ H ⟨q,r,h9,F,U,O,ai,ag,hq,hr,f1,f2⟩;simp only[go_sem];refine kB ?_;simp only[go_sem,h9,F,ai,U,O];refine⟨_,(X8 _ q (fS hq)).q rfl,?_⟩;simp only[go_sem,F,ag,O];refine⟨_,(X8 _ r (fS hr)).q rfl,?_⟩;simp only[go_sem,f1,f2];exact .refl _
end Nu
namespace Nu
open Go.Proofs.Tryz
open Go.Nu
open Go.RowKit (Below)
def Gb:∀l:List UInt8,Lib.indexByte l 47=if l.any (· == gJ)=true then((l.takeWhile (· != gJ)).length:Int)else -1
 | []=>rfl
 | c::l=>by
  have ih:=Gb l;unfold Lib.indexByte;by_cases h:c=gJ
  all_goals simp_all[gJ]
theorem I1{α:Type}(p:α->Bool):∀l:List α,l.take (l.takeWhile p).length=l.takeWhile p
 | []=>rfl
 | a::l=>by
  rw[List.takeWhile_cons];split
  ·rw[Xag,List.take_succ_cons,I1 p l]
  ·rfl
def Ze{α:Type}(p:α->Bool):∀l:List α,l.drop ((l.takeWhile p).length+1)=(l.dropWhile p).drop 1
 | []=>rfl
 | a::l=>by
  rw[List.takeWhile_cons,List.dropWhile_cons];split
  ·rw[Xag,List.drop_succ_cons,Ze p l]
  ·rfl
def aBF{l:List UInt8}(h:l.any (· == gJ)=true):(l.takeWhile (· != gJ)).length<l.length:=by grind[I1,Gc]
def aqR(s:ByteArray):Int:=if oL s=true then(((bl s).takeWhile (· != gJ)).length:Int)else -1
def ajZ(s:ByteArray):PC prog 219 [str s,str ⟨#[47]⟩] (int (aqR s)):=by
 refine PC.lib (a:=[.string s,.string ⟨#[47]⟩]) (v:=.int .i64 (aqR s)) (fun S w=>rfl) fun w _=>(Tryz.stringslite_Index_one s 47 w).mono fun e w' ⟨A,E⟩=>?_
 rw[E];exact⟨A.trans (by rw[show s.data.toList=bl s from rfl,Gb];rfl),Below.refl _ _⟩
def Td(s:ByteArray):PC prog 148 [str s,str ⟨#[47]⟩] (boo (oL s)):=by
 refine PC.lib (a:=[.string s,.string ⟨#[47]⟩]) (v:=.bool (oL s)) (fun S w=>rfl) fun w _=>(Tryz.strings_Contains_one s 47 w).mono fun e w' ⟨A,E⟩=>?_
 rw[E];refine⟨A.trans ?_,Below.refl _ _⟩;rw[show s.data.toList=bl s from rfl,Gb];unfold oL;simp_all;grind
def PS(s:ByteArray):ByteArray:=⟨(((bl s).dropWhile (· != gJ)).drop 1).toArray⟩
def amI(s:ByteArray)(h:s.size<=1048576):PC prog 197 [str s,str ⟨#[47]⟩] (.tup (if oL s=true then[str (kW s),str (PS s),boo true]else[str s,str emp,boo false])):=by
 refine pcd func197 rfl rfl ?_;simp only[go_sem];refine aO (ajZ s) ?_;simp only[go_sem];have T:=jZ s;apply aA <;> intro E
 ·have A : oL s = true := by
   have E:=of_decide_eq_true E
   grind[aqR]
  have O:=aBF A;rw[if_pos A,show aqR s=(((bl s).takeWhile (· != gJ)).length:Int)from if_pos A];simp only[go_sem];refine kB ?_;simp only[go_sem];have J:s.extract 0 ((bl s).takeWhile (· != gJ)).length=kW s:=oU (by rw[lC,Xby,I1];rfl);have U:s.extract (((bl s).takeWhile (· != gJ)).length+1) s.size=PS s:=oU (by rw[lC,<-T,Xad,Ze];rfl);refine⟨⟨by omega,by omega⟩,?_⟩;have F:IntKind.i64.wrap ((((bl s).takeWhile (· != gJ)).length:Int)+((#[47]:Array UInt8).size:Nat))=((((bl s).takeWhile (· != gJ)).length+1:Nat):Int):=qK (by omega);simp only[F,Xao,J,U];refine⟨⟨by omega,by omega⟩,?_⟩;exact .refl _
 ·have A:¬oL s=true:=fun A=>by simp_all[aqR]
  rw[if_neg A];simp only[go_sem];exact .refl _
def apP{s:ByteArray}(h:oL s=false):kW s=s:=by
 refine oU ?_;unfold kW;rw[oZ];refine A8 fun c A=>?_
 unfold oL at h;rw[Xap]at h;have:=h c A;simpa using this
def aBn(s:ByteArray)(h:s.size<=1048576):PC prog 154 [str s,str ⟨#[47]⟩] (.tup (if oL s=true then[str (kW s),str (PS s),boo true]else[str s,str emp,boo false])):=by
 by_cases A:oL s=true
 ·have:=amI s h;rw[if_pos A]at this |-;refine pcd func154 rfl rfl ?_;simp only[go_sem];refine aO this ?_;simp only[go_sem];exact .refl _
 ·have:=amI s h;rw[if_neg A]at this |-;refine pcd func154 rfl rfl ?_;simp only[go_sem];refine aO this ?_;simp only[go_sem];exact .refl _
def ER(s:ByteArray)(h:s.size<=1048576):PC prog 107 [str s] (.tup [str (kW s),str (kG s)]):=by
 have A:=aBn s h;by_cases E:oL s=true
 ·rw[if_pos E]at A;refine pcd func107 rfl rfl ?_;simp only[go_sem];refine aO A ?_;simp only[go_sem];refine aA (fun F=>by cases F) (fun _=>?_);simp only[go_sem];rw[show kG s=PS s from if_pos E];exact .refl _
 ·rw[if_neg E]at A;refine pcd func107 rfl rfl ?_;simp only[go_sem];refine aO A ?_;simp only[go_sem];refine aA (fun _=>?_) (fun F=>by cases F);simp only[go_sem];rw[show kG s=dec 1 from if_neg E,apP (by grind),<-I5];exact .refl _
def SZ(s:ByteArray):PC prog 147 [str s] (int (iR s).size):=by refine pcd func147 rfl rfl ?_;simp only[go_sem];refine aO (CD s) ?_;simp only[go_sem];exact .refl _
def GG(s:ByteArray):(kW s).size<=s.size:=by grind[jZ,kW,oZ,I1]
def acJ(s:ByteArray):(kG s).size<=max s.size 1:=by grind[kG,jZ,oZ,List.dropWhile_suffix,I5]
theorem Vw:iH (dec 1)=true:=wH 1
def KK{s:ByteArray}(h:iH s=true):iR s=s:=by rw[<-pA h,TP]
theorem afX{s:ByteArray}(h:oL s=false):kG s=dec 1:=if_neg (by grind)
theorem WS{s:ByteArray}(E:(!gT (kW s)||decide (((iR (kW s)).size:Int)>4096)||decide (((iR (kG s)).size:Int)>4096))=true):cO s=false:=by
 unfold cO;rw[Xbz];simp only[ne_eq,Xah,decide_eq_true_eq];rintro⟨⟨⟨⟨h1,A⟩,h3⟩,F⟩,_⟩;rw[h1,KK A]at E
 grind
theorem HH{s:ByteArray}(E:(!gT (kW s)||decide (((iR (kW s)).size:Int)>4096)||decide (((iR (kG s)).size:Int)>4096))=false)(F:iH (kG s)=true):
  (gT (kW s)&&iH (kG s)&&decide ((iR (kW s)).size<=4096)&&decide ((kG s).size<=4096))=true/\gT (kW s)=true/\(iR (kW s)).size<=4096/\(kG s).size<=4096:=by
 simp only[Xam,Xbj,decide_eq_false_iff_not]at E;rw[KK F]at E;obtain⟨⟨h1,A⟩,h3⟩:=E;have A:(iR (kW s)).size<=4096:=by omega
 have h3:(kG s).size<=4096:=by omega
 refine⟨?_,h1,A,h3⟩;rw[h1,F];simp[A,h3]
def wQ(s:ByteArray)(h:s.size<=1048576):PC prog 105 [str s] (boo (cO s)):=by
 have hn:=GG s;have hd:=acJ s;have h1:(1:Nat)<=1048576:=by omega
 have aa:=Qs (kW s);have T:=Qs (kG s);refine pcd func105 rfl rfl ?_;simp only[go_sem];refine aO (ER s h) ?_;simp only[go_sem];refine aO (ajK (kW s) (by omega)) ?_;simp only[go_sem];refine⟨_,fun _=>(SZ (kW s)).q rfl,?_⟩;simp only[go_sem];refine⟨_,fun _=>(SZ (kG s)).q rfl,?_⟩;simp only[go_sem];apply aA <;> intro J
 ·simp only[go_sem]
  grind[cB,WS]
 simp only[go_sem];refine aO (Td s) ?_;simp only[go_sem];apply aA <;> intro hs
 ·simp only[go_sem]
  grind[cB,afX,Vw,cO,HH]
 have h0:oL s=true:=by grind
 simp only[go_sem];refine aO (Fm (kG s) (by omega)) ?_;simp only[go_sem,AE,VK];apply aA <;> intro F
 ·simp only[go_sem];refine cB ?_;unfold cO
  grind
 simp only[Xam,Xbj]at F;obtain⟨⟨⟨A,h3⟩,U⟩,Z⟩:=F;obtain⟨f1,f2,Y,E⟩:=HH J A;simp only[go_sem];refine aO (CD (kW s)) ?_;simp only[go_sem];refine aO (ajO (iR (kW s)) (kG s) (by omega) (by omega)) ?_;simp only[go_sem,VK];refine cB ?_;have X:=GH f2;have v0:kM (kG s)≠0:=fun e=>vQ.1 h3 (by grind[pA])
 have O:kM (kG s)<dA:=(Jb A).1 E;have e:Po (iR (kW s)) (kG s)=(dec (Nat.gcd (kM (iR (kW s))) (kM (kG s))),0):=by unfold Po;rw[if_pos (Qd X A Y E),Ge (Nat.lt_of_le_of_lt (Nat.gcd_le_right _ (by omega)) O)]
 have ev:(nI (kW s)).natAbs=kM (iR (kW s)):=by grind[nI]
 rw[e];unfold cO;rw[f1,h0,h3,U,Z,ev];simp only[beq_self_eq_true,Xbc,Xcl,Xcg,Xbt];rw[Xar,xU,Au,Xay]
def Dq(n:Int)(h0: -9223372036854775808<=n)(h1:n<=9223372036854775807):PC prog 77 [int n] (str (zed n)):=by refine pcd func77 rfl rfl ?_;simp only[go_sem];refine aO (aBE n h0 h1) ?_;simp only[go_sem];exact .refl _
def aaL(s:ByteArray)(h:s.size<=1048576):PC prog 73 [str s] (int (DD s)):=by
 have O:=GG s;refine pcd func73 rfl rfl ?_;simp only[go_sem];refine aO (wQ s h) ?_;simp only[go_sem];apply aA <;> intro E
 ·simp only[go_sem];simp_all[cI,DD]
 ·have A:cO s=true:=by grind
  simp only[go_sem];refine aO (ER s h) ?_;simp only[go_sem];refine aO (awI (kW s) (by omega)) ?_;simp only[go_sem];refine cI ?_;obtain⟨x,rfl,J,F,_⟩:=iJ A;simp_all[DD,Sp,wC,dT,iP]
def Qt(a b:ByteArray):List AV:=if(cO a&&cO b)=true then[str (kW a),str (kG a),str (kW b),str (kG b),int 0]else[str emp,str emp,str emp,str emp,int 3]
def X4(a b:ByteArray)(E:a.size<=1048576)(A:b.size<=1048576):PC prog 112 [str a,str b] (.tup (Qt a b)):=by
 refine pcd func112 rfl rfl ?_;simp only[go_sem];refine aO (wQ a E) ?_;simp only[go_sem];refine⟨_,fun _=>(wQ b A).q rfl,?_⟩;simp only[go_sem];apply aA <;> intro F
 ·simp only[go_sem];rw[show Qt a b=[str emp,str emp,str emp,str emp,int 3]from if_neg (by grind)];exact .refl _
 ·simp only[go_sem];refine aO (ER a E) ?_;simp only[go_sem];refine aO (ER b A) ?_;simp only[go_sem];rw[show Qt a b=_ from if_pos (by grind)];exact .refl _
def ajL(n:Int)(d:Nat)(F:d≠0)(O:n.natAbs<dA)(A:d<dA):PC prog 195 [str (zed n),str (dec d)] (.tup [str (rE (mkRat n d)),int 0]):=by
 have T:=afM (n:=n) F A;have Y:=auZ (n:=n) F;have U:∀{m:Int},m.natAbs<dA->(zed m).size<=1048576:=fun {m} hm=>by grind[zM,iR,jZ,oZ]
 have J:=JC F O A;have Z:qZ (zed n) (dec (Nat.gcd n.natAbs d))=(zed (mkRat n d).num,zed (n.fmod (Nat.gcd n.natAbs d:Nat)),0):=by unfold qZ;rw[<-gH,if_pos (yW O (by omega)),dT,dT,if_neg (by omega),auA F]
 have X:qZ (dec d) (dec (Nat.gcd n.natAbs d))=(dec (mkRat n d).den,zed ((d:Int).fmod (Nat.gcd n.natAbs d:Nat)),0):=by unfold qZ;rw[<-gH,<-gH,if_pos (yW (by rw[Xch];exact A) (by rw[Xch];exact T)),dT,dT,if_neg (by omega),awF F,gH]
 refine pcd func195 rfl rfl ?_;simp only[go_sem];refine aO (CD (zed n)) ?_;rw[vY];simp only[go_sem];refine aO (ajO (dec n.natAbs) (dec d) (fS O) (fS A)) ?_;rw[show Po (dec n.natAbs) (dec d)=(dec (Nat.gcd n.natAbs d),0)by simp_all[Po,BL,dW,Ge]];simp only[go_sem];refine aA (fun E=>by cases E) (fun _=>?_);simp only[go_sem];refine aO (KC (zed n) (dec (Nat.gcd n.natAbs d)) (U O) (fS T)) ?_;rw[Z];simp only[go_sem];refine aA (fun E=>by cases E) (fun _=>?_);simp only[go_sem];refine aO (KC (dec d) (dec (Nat.gcd n.natAbs d)) (fS A) (fS T)) ?_;rw[X];simp only[go_sem];refine aA (fun E=>by cases E) (fun _=>?_);simp only[go_sem,VK];generalize mkRat n d=x at *;apply aA <;> intro E
 ·have h1:x.den=1:=Au.1 (xU.1 E);simp only[go_sem];rw[show rE x=zed x.num from if_pos h1];exact .refl _
 ·have h1:x.den≠1:=fun e=>vQ.1 E (by rw[e])
  simp only[go_sem];have z1:=U J.1;have z2:=fS J.2;have z3:(zed x.num++slB).size=(zed x.num).size+1:=by rw[ByteArray.size_append];rfl
  refine⟨by simp_all;omega,?_⟩;refine⟨by simp_all;omega,?_⟩;rw[show rE x=zed x.num++slB++dec x.den from if_neg h1];exact .refl _
end Nu
namespace Nu
open Go.Proofs.Tryz
open Go.Nu
abbrev Pr:=ByteArray×ByteArray
def Dm(p:Pr):List AV:=[str p.1,str p.2]
def MW(p:Pr):(Dm p).length=2:=(rfl)
def auW(p:Pr):(Dm p).getD 0 .any=str p.1:=(rfl)
def avE(p:Pr):(Dm p).getD 1 .any=str p.2:=(rfl)
def aeO(p:Pr):(Dm p).take 2=Dm p:=(rfl)
attribute [go_sem] MW auW avE aeO
def prA(p:Pr):List AV:=[str (Cf p.1 p.2).1]
def prE:List Pr->Int
 | []=>0
 | p::l=>if(Cf p.1 p.2).2≠0 then(Cf p.1 p.2).2 else prE l
def T0:∀{l:List Pr},(∀p∈l,(Cf p.1 p.2).2=0)->prE l=0
 | [],_=>rfl
 | p::l,h=>by unfold prE;rw[if_neg (by simp[h p (by simp)])];exact T0 fun q A=>h q (by simp[A])
def ajB:∀{l:List Pr} {k:Nat} {p:Pr},l[k]?=some p->(∀q∈l.take k,(Cf q.1 q.2).2=0)->(Cf p.1 p.2).2≠0->prE l=(Cf p.1 p.2).2
 | [],k,p,h,_,_=>by grind
 | a::l,0,p,h,_,h2=>by simp_all[prE]
 | a::l,k+1,p,h,h1,h2=>by unfold prE;rw[if_neg (by grind)];exact ajB (k:=k) (by simpa using h) (fun q A=>h1 q (by simp[A])) h2
def arZ(l:List (List AV)):Row:=⟨9,1,l⟩
def Kf(l:List Pr)(hl:l.length<=1048576)(hs:∀p∈l,p.1.size<=1048576/\p.2.size<=1048576):PC prog 194 [.sl (l.map Dm)] (.tup [.sl (if prE l=0 then l.map prA else[]),int (prE l)]):=by
 refine pcb (fun t=>t == 6||t == 11) func194 rfl rfl ?_;simp only[go_sem];refine⟨⟨⟨by omega,by omega⟩,by omega⟩,?_⟩;refine aJ fun j hj=>?_
 simp only[go_sem];refine⟨fun ρ H=>∃(k j:Nat),k<=l.length/\ρ 12=.sl (l.map Dm)/\ρ 13=int l.length/\ρ 4=.os j/\ρ 14=int k/\H j=some (arZ ((l.take k).map prA))/\∀p∈l.take k,(Cf p.1 p.2).2=0,fun ρ _=>l.length-aU (ρ 14),
  ⟨0,j,Xab _,rfl,by simp only[go_sem],rfl,by simp only[go_sem];rfl,aB _ _ _,by simp⟩,?_⟩
 clear hj j;rintro ρ H ⟨k,j,hk,Y,X,h4,O,Z,hz⟩;simp only[go_sem,X,O];refine aA (fun E=>?_) (fun J=>?_)
 ·have E:=ltB E;obtain⟨p,A⟩:=aI E;have b1:=inB E;have aa:=hs p (Xac A);simp only[go_sem,Y,O,aC A,b1];refine aJ fun i hi=>?_
  have U:j≠i:=aV Z hi;simp only[go_sem,];refine aM (aB _ _ _) (by simp[MW]) ?_;generalize hG:aH (aH _ i _) i _=HG;have Ri:HG i=some (⟨289,2,[Dm p]⟩:Row):=by rw[<-hG,aB];rfl
  have ab:HG j=some (arZ ((l.take k).map prA)):=by rw[<-hG,aD _ _ _ _ U,aD _ _ _ _ U];exact Z
  clear hG hi Z;simp only[go_sem,Ri]
  repeat (refine⟨by first|decide|omega,?_⟩)
  refine aO (aAx p.1 p.2 aa.1 aa.2) ?_;simp only[go_sem,];refine aA (fun F=>?_) (fun F=>?_)
  ·have F:(Cf p.1 p.2).2≠0:=by simpa using F
   simp only[go_sem];have e:prE l=(Cf p.1 p.2).2:=ajB A hz F;rw[e,if_neg F];exact .refl _
  ·have F:(Cf p.1 p.2).2=0:=by simpa using F
   simp only[go_sem,h4];refine bC ab ⟨rfl,rfl⟩ ⟨rfl,trivial⟩ (by simp only[arZ,Xaa,Xav,Xag,List.length_nil];omega) (fun j' ac=>?_);simp only[go_sem,Y,X,O,aW k];refine⟨⟨k+1,j',E,rfl,rfl,?_,?_⟩,by simp only[aN];omega⟩
   ·rw[aB];simp only[arZ,aZ A,Xaw,Xaq,List.map_nil];rfl
   ·intro q T;rw[aZ A]at T;rcases Xat.1 T with T|T
    ·exact hz q T
    ·rw[Xbs.1 T];exact F
 ·have J:=geB hk J;subst J;rw[Xad]at Z hz;simp only[go_sem,h4];have e:prE l=0:=T0 hz;rw[if_pos e,e];exact .tup _ _ (.cons _ _ _ _ (.row _ _ _ Z (ConvE.refl _)) (ConvL.refl _))
def I9{m n:Int}(E:m.natAbs<dA)(A:n.natAbs<dA):Cf (zed m) (zed n)=szZ (m*n):=by unfold Cf;rw[if_pos (yW E A),dT,dT]
def akG{m n:Int}(E:m.natAbs<dA)(A:n.natAbs<dA):JI (zed m) (zed n)=szZ (m+n):=by unfold JI;rw[if_pos (yW E A),dT,dT]
def PI{n:Int}(h:tM n=false):szZ n=(zed n,0):=if_pos (pG.1 h)
def IY{n:Int}(h:tM n=true):szZ n=(emp,4):=if_neg (fun A=>by rw[pG.2 A]at h;cases h)
def jC{m:Int}(A:m.natAbs<dA):(zed m).size<=1048576:=by
 have:=(zM m).2 A;unfold iR at this;split at this
 ·rw[<-jZ,oZ,List.length_drop]at this;rw[<-jZ];omega
 ·omega
def H9{a b c d:Int}(O:a.natAbs<dA)(E:b.natAbs<dA)(F:c.natAbs<dA)(J:d.natAbs<dA):
  PC prog 194 [.sl [[str (zed a),str (zed b)],[str (zed c),str (zed d)]]] (if(tM (a*b)||tM (c*d))=true then .tup [.sl [],int 4]else .tup [.sl [[str (zed (a*b))],[str (zed (c*d))]],int 0]):=by
 have:=Kf [(zed a,zed b),(zed c,zed d)] (by simp) (by simp[jC,O,E,F,J]);simp only[prE,I9 O E,I9 F J,Xaq,List.map_nil,prA,Dm]at this;cases h1:tM (a*b)with
 | true=>rw[IY h1]at this;simpa using this
 | false=>
  rw[PI h1]at this;cases A:tM (c*d)with
  | true=>rw[IY A]at this;simpa using this
  | false=>rw[PI A]at this;simpa using this
def Sj{a b:Int}(E:a.natAbs<dA)(A:b.natAbs<dA):
  PC prog 194 [.sl [[str (zed a),str (zed b)]]] (if tM (a*b)=true then .tup [.sl [],int 4]else .tup [.sl [[str (zed (a*b))]],int 0]):=by
 have:=Kf [(zed a,zed b)] (by simp) (by simp[jC,E,A]);simp only[prE,I9 E A,Xaq,List.map_nil,prA,Dm]at this;cases h1:tM (a*b)with
 | true=>rw[IY h1]at this;simpa using this
 | false=>rw[PI h1]at this;simpa using this
def fv(g:FuncId):AV:=.v (.func (.func g) #[] #[])
def aqP(op:Int->Int->Int)(x y:Rat):ByteArray×Int:=
 if(tM (x.num*y.den)||tM (y.num*x.den)||tM (op (x.num*y.den) (y.num*x.den))||tM (x.den*y.den))=true then(emp,4)else(rE (mkRat (op (x.num*y.den) (y.num*x.den)) (x.den*y.den)),0)
def N3(op:Int->Int->Int)(a b:ByteArray):ByteArray×Int:=if(cO a&&cO b)=true then aqP op (kQ a) (kQ b)else(emp,3)
def aeL(g:FuncId)(op:Int->Int->Int)(aa:aF prog g=true)(hg:∀m n:Int,m.natAbs<dA->n.natAbs<dA->PC prog g [str (zed m),str (zed n)] (.tup [str (szZ (op m n)).1,int (szZ (op m n)).2]))
  (a b:ByteArray) (ha:a.size<=1048576) (A:b.size<=1048576):PC prog 196 [str a,str b,fv g] (.tup [str (N3 op a b).1,int (N3 op a b).2]):=by
 have E:=X4 a b ha A;by_cases J:(cO a&&cO b)=true;rotate_left
 ·rw[show Qt a b=_ from if_neg J]at E;rw[show N3 op a b=(emp,3)from if_neg J];unfold fv;refine pcd func196 rfl rfl ?_;simp only[go_sem];refine aO E ?_;simp only[go_sem];refine aA (fun _=>?_) (fun A=>by cases A);simp only[go_sem];exact .refl _
 rw[show Qt a b=_ from if_pos J]at E;rw[show N3 op a b=_ from if_pos J];simp only[Xah]at J;obtain⟨x,rfl,hx,e1,e2⟩:=iJ J.1;obtain⟨y,rfl,hy,e3,e4⟩:=iJ J.2;rw[e1,e2,e3,e4]at E;rw[iP,iP];have xd:((x.den:Int)).natAbs<dA:=by rw[Xch];exact hx.2
 have yd:((y.den:Int)).natAbs<dA:=by rw[Xch];exact hy.2
 have Y:=H9 hx.1 yd hy.1 xd;have X:=Sj xd yd;rw[gH,gH]at Y X;unfold fv;refine pcd func196 rfl rfl ?_;simp only[go_sem];refine aO E ?_;simp only[go_sem];refine aA (fun A=>by cases A) (fun _=>?_);simp only[go_sem];unfold aqP;cases U:(tM (x.num*y.den)||tM (y.num*x.den))with
 | true=>rw[U,if_pos rfl]at Y;refine aO Y ?_;simp only[go_sem];refine aA (fun _=>?_) (fun A=>by cases A);exact .refl _
 | false=>
  rw[U]at Y;simp only[Xbi,if_false]at Y;refine aO Y ?_;simp only[go_sem];refine aA (fun A=>by cases A) (fun _=>?_);simp only[go_sem];have F:=U;simp only[Xam]at F;have Z:=hg _ _ (pG.1 F.1) (pG.1 F.2);refine mC (by rfl) (by kernel_rfl) ?_;simp only[go_sem,Xag,List.length_nil]
  repeat (refine⟨by first|decide|omega,?_⟩)
  refine⟨_,Z.q rfl,?_⟩;simp only[go_sem];generalize hN:op (x.num*y.den) (y.num*x.den)=N;cases T:tM N with
  | true=>rw[IY T];refine aA (fun _=>?_) (fun A=>by cases A);simp only[go_sem,Bool.true_or];exact .refl _
  | false=>
   rw[PI T];refine aA (fun A=>by cases A) (fun _=>?_);simp only[go_sem];cases O:tM ((x.den:Int)*y.den)with
   | true=>rw[O,if_pos rfl]at X;refine aO X ?_;simp only[go_sem];refine aA (fun _=>?_) (fun A=>by cases A);simp only[go_sem,];exact .refl _
   | false=>
    rw[O]at X;simp only[Xbi,if_false]at X;refine aO X ?_;simp only[go_sem];refine aA (fun A=>by cases A) (fun _=>?_);simp only[go_sem,Xag,List.length_nil]
    repeat (refine⟨by first|decide|omega,?_⟩)
    have hD:x.den*y.den<dA:=by rw[<-IS];exact pG.1 O
    have:=ajL N (x.den*y.den) (Pv x y) (pG.1 T) hD;rw[<-gH,Int.natCast_mul]at this;refine aO this ?_;simp only[go_sem];exact .refl _
def aeR(a b:ByteArray):N3 (·+·) a b=Bt a b:=by unfold N3 Bt aqP nH;simp only[apW]
def CG(a b:ByteArray)(J:a.size<=1048576)(F:b.size<=1048576):PC prog 153 [str a,str b] (.tup [str (Bt a b).1,int (Bt a b).2]):=by have:=aeL 111 (·+·) (by kernel_rfl) (fun m n A E=>by rw[<-akG A E];exact aqQ _ _ (jC A) (jC E)) a b J F;rw[aeR]at this;unfold fv at this;refine pcd func153 rfl rfl ?_;simp only[go_sem];refine aO this ?_;simp only[go_sem];exact .refl _
def ayE(a b:ByteArray)(ha:a.size<=1048576)(F:b.size<=1048576):PC prog 152 [str a,str b] (.tup [str (zO a b).1,int (zO a b).2]):=by
 have A:=X4 a b ha F;by_cases J:(cO a&&cO b)=true;rotate_left
 ·rw[show Qt a b=_ from if_neg J]at A;rw[show zO a b=(emp,3)from if_neg J];refine pcd func152 rfl rfl ?_;simp only[go_sem];refine aO A ?_;simp only[go_sem];refine aA (fun _=>?_) (fun F=>by cases F);simp only[go_sem];exact .refl _
 rw[show Qt a b=_ from if_pos J]at A;rw[show zO a b=_ from if_pos J];simp only[Xah]at J;obtain⟨x,rfl,T,e1,e2⟩:=iJ J.1;obtain⟨y,rfl,U,e3,Z⟩:=iJ J.2;rw[e1,e2,e3,Z]at A;rw[iP,iP];have xd:((x.den:Int)).natAbs<dA:=by rw[Xch];exact T.2
 have X:((y.den:Int)).natAbs<dA:=by rw[Xch];exact U.2
 have O:=H9 T.1 U.1 xd X;rw[gH,gH]at O;refine pcd func152 rfl rfl ?_;simp only[go_sem];refine aO A ?_;simp only[go_sem];refine aA (fun F=>by cases F) (fun _=>?_);simp only[go_sem];unfold Mk;cases E:(tM (x.num*y.num)||tM ((x.den:Int)*y.den))with
 | true=>rw[E,if_pos rfl]at O;refine aO O ?_;simp only[go_sem];refine aA (fun _=>?_) (fun F=>by cases F);exact .refl _
 | false=>
  rw[E]at O;simp only[Xbi,if_false]at O;refine aO O ?_;simp only[go_sem];refine aA (fun F=>by cases F) (fun _=>?_);simp only[go_sem];simp only[Xam]at E;have Y:x.den*y.den<dA:=by rw[<-IS];exact pG.1 E.2
  have:=ajL (x.num*y.num) (x.den*y.den) (Pv x y) (pG.1 E.1) Y;rw[<-gH,Int.natCast_mul]at this;refine mC (by rfl) (by kernel_rfl) ?_;simp only[go_sem,Xag,List.length_nil]
  repeat (refine⟨by first|decide|omega,?_⟩)
  refine⟨_,this.q rfl,?_⟩;simp only[go_sem];rw[<-ahI];exact .refl _
def UA{p q:Int}(F:0<q):(p.fdiv q).natAbs<=p.natAbs:=by
 obtain⟨e,h0,h1⟩:=vX (p:=p) F;generalize p.fdiv q=d at *;generalize p.fmod q=m at *;rcases Int.lt_or_le d 0 with E|E
 ·have A:(d+1)*q<=(d+1)*1:=Int.mul_le_mul_of_nonpos_left (by omega) (by omega);rw[Int.add_mul]at A;omega
 ·have A:d*1<=d*q:=Int.mul_le_mul_of_nonneg_left (by omega) E;omega
def FF{p q:Int}(A:p.natAbs<dA)(E:q.natAbs<dA)(h:0<q):qZ (zed p) (zed q)=(zed (p.fdiv q),zed (p.fmod q),0):=by unfold qZ;rw[if_pos (yW A E),dT,dT,if_neg (by omega)]
def aqZ(i j:Int):apB (zed i) (zed j)=lB i j:=by unfold apB;rw[if_pos ⟨wC _,wC _⟩,dT,dT]
def Xb(i j:Int):lB i j= -1\/lB i j=0\/lB i j=1:=by
 unfold lB;split
 ·exact .inl rfl
 ·split
  ·exact .inr (.inr rfl)
  ·exact .inr (.inl rfl)
def aBf:AV->Nat
 | .v (.string s)=>(nI s).natAbs
 | _=>0
def UH(n:Int):aBf (str (zed n))=n.natAbs:=by show(nI (zed n)).natAbs=_;rw[dT]
def KY(n:Int):(bl (zed n) == [48])=decide (n=0):=by rw[AE,<-show zed ((0:Nat):Int)=dec 0 from gH 0,Xar,xU,alD,decide_eq_true_iff];exact Iff.rfl
def aBa{a b:Int}(E:a=1\/a= -1)(A:b= -1\/b=0\/b=1):IntKind.i64.wrap (a*b)=a*b:=by rcases E with rfl|rfl <;> rcases A with rfl|rfl|rfl <;> rfl
def Tk{a:Int}(A:a=1\/a= -1):IntKind.i64.wrap (0-a)= -a:=by rcases A with rfl|rfl <;> rfl
def xD(a b:ByteArray)(ha:a.size<=1048576)(hb:b.size<=1048576):PC prog 76 [str a,str b] (int (DW a b)):=by
 have A:=X4 a b ha hb;by_cases T:(cO a&&cO b)=true;rotate_left
 ·rw[show Qt a b=_ from if_neg T]at A;rw[show DW a b=0 from if_neg T];refine pcd func76 rfl rfl ?_;simp only[go_sem];refine aO A ?_;simp only[go_sem];refine aA (fun _=>?_) (fun hb=>by cases hb);simp only[go_sem];exact .refl _
 rw[show Qt a b=_ from if_pos T]at A;rw[show DW a b=_ from if_pos T];simp only[Xah]at T;obtain⟨x,rfl,hx,e1,e2⟩:=iJ T.1;obtain⟨y,rfl,hy,e3,e4⟩:=iJ T.2;rw[e1,e2,e3,e4]at A;rw[iP,iP];have xd:((x.den:Int)).natAbs<dA:=by rw[Xch];exact hx.2
 have yd:((y.den:Int)).natAbs<dA:=by rw[Xch];exact hy.2
 have x0:=x.den_nz;have y0:=y.den_nz;rw[<-gH,<-gH]at A;refine pcd func76 rfl rfl ?_;simp only[go_sem];refine aO A ?_;simp only[go_sem];refine aA (fun hb=>by cases hb) (fun _=>?_);simp only[go_sem];refine⟨fun ρ _=>∃(p q r s g:Int),ρ 5=str (zed p)/\ρ 6=str (zed q)/\ρ 7=str (zed r)/\ρ 8=str (zed s)/\ρ 10=int g/\(g=1\/g= -1)/\0<q/\0<s/\p.natAbs<dA/\q.natAbs<dA/\r.natAbs<dA/\s.natAbs<dA/\VP x y=g*Lw p q r s,fun ρ _=>aBf (ρ 6),
  ⟨x.num,x.den,y.num,y.den,1,rfl,rfl,rfl,rfl,rfl,.inl rfl,by omega,by omega,hx.1,xd,hy.1,yd,by rw[Int.one_mul,aqX]⟩,?_⟩
 rintro ρ H ⟨p,q,r,s,g,h5,h6,h7,h8,F,hg,Z,Y,bp,bq,br,bs,E⟩;simp only[go_sem,h5,h6,];refine aO (KC (zed p) (zed q) (jC bp) (jC bq)) ?_;rw[FF bp bq Z];simp only[go_sem,h7,h8];refine aO (KC (zed r) (zed s) (jC br) (jC bs)) ?_;rw[FF br bs Y];simp only[go_sem,];have d1:=UA (p:=p) Z;have d2:=UA (p:=r) Y;refine aO (XT (zed (p.fdiv q)) (zed (r.fdiv s)) (jC (by omega)) (jC (by omega))) ?_;rw[aqZ];simp only[go_sem,];obtain⟨_,m0,m1⟩:=vX (p:=p) Z;obtain⟨_,n0,n1⟩:=vX (p:=r) Y;have c3:=Xb (p.fdiv q) (r.fdiv s);refine aA (fun X=>?_) (fun X=>?_)
 ·have X:lB (p.fdiv q) (r.fdiv s)≠0:=by simpa using X
  simp only[go_sem,F,aBa hg c3];refine cI ?_;rw[E,VD Z Y (fun e=>X (Ao e))]
 have X:p.fdiv q=r.fdiv s:=N9.1 (by simpa using X);have hX:=agP Z Y X;generalize p.fmod q=m at *;generalize r.fmod s=n at *;simp only[go_sem,KY];refine aA (fun U=>?_) (fun U=>?_)
 ·have U:m=0/\n=0:=by simpa using U
  simp only[go_sem];refine cI ?_;rw[E,hX,U.1,U.2,Int.zero_mul,Int.zero_mul,Ao rfl,Int.mul_zero]
 simp only[go_sem,KY];refine aA (fun J=>?_) (fun J=>?_)
 ·have J:m=0:=of_decide_eq_true J;have O:0<n:=by
   rcases Int.lt_or_le 0 n with h|h
   ·exact h
   ·exfalso;have:n=0:=by omega
    rw[J,this]at U;cases U
  simp only[go_sem,F,Tk hg];refine cI ?_;rw[E,hX,J,Int.zero_mul,oA (Int.mul_pos O Z)];omega
 have J:0<m:=by have:=of_decide_eq_false J;omega
 simp only[go_sem,KY];refine aA (fun O=>?_) (fun O=>?_)
 ·have O:n=0:=of_decide_eq_true O;simp only[go_sem,F];refine cI ?_;rw[E,hX,O,Int.zero_mul,nD (Int.mul_pos J Y)];omega
 have O:0<n:=by have:=of_decide_eq_false O;omega
 simp only[go_sem,h6,h8,F,Tk hg];refine⟨⟨q,m,s,n,-g,rfl,rfl,rfl,rfl,rfl,by omega,J,O,bq,by omega,bs,by omega,?_⟩,?_⟩
 ·rw[E,hX,afA];rw[Int.mul_neg,Int.neg_mul]
 ·rw[UH,UH];omega
end Nu
end Go.Proofs.YthephioccidfgaaGreatDoor
section
namespace Go.Sb
def pop:Nat->Nat->Nat
 | 0,_=>0
 | w+1,s=>s%2+pop w (s/2)
end Go.Sb
end
section
namespace Go.Proofs.YthephioccidfgaaGreatDoor.Nu
open Go.Aw Go.Aw.D Go.Proofs Ty Go.Nu
def N8{P:Program}{G:_}{t:TypeId}{a b:ByteArray}{k:AV->Prop}:kE P G .lss t (.v (.string a)) (.v (.string b)) k=k (.v (.bool (Op.bytesLess a.toList b.toList))):=(rfl)
attribute [go_sem ↓] N8
attribute [go_sem] N8
end Go.Proofs.YthephioccidfgaaGreatDoor.Nu
end
section
namespace Go.Nu
open Go Go.Lib
def jC{m:Int}(A:m.natAbs<dA):(zed m).size<=4097:=by
 have:=(zM m).2 A;unfold iR at this;split at this
 ·rw[<-jZ,oZ,List.length_drop]at this;rw[<-jZ];omega
 ·omega
def afU{x:Rat}(h:Cz x):(rE x).size<=8194:=by
 have h1:=jC h.1;have A:=(mK x.den).2 h.2;unfold rE;split
 ·omega
 ·rw[ByteArray.size_append,ByteArray.size_append];have:slB.size=1:=rfl;omega
def BR{s:ByteArray}(h:cO s=true):s.size<=8194:=by obtain⟨x,rfl,A,_⟩:=iJ h;exact afU A
def D0{a b:ByteArray}(h:(Bt a b).2=0):cO (Bt a b).1=true:=by
 unfold Bt at h |-;split at h
 ·rename_i A;rw[if_pos A];obtain⟨e,E⟩:=Xj h;rw[e];exact pX E
 ·cases h
def VW{a b:ByteArray}(h:(zO a b).2=0):cO (zO a b).1=true:=by
 unfold zO at h |-;split at h
 ·rename_i A;rw[if_pos A];obtain⟨e,E⟩:=Uy h;rw[e];exact pX E
 ·cases h
def mV:List (Int×ByteArray)->ByteArray->ByteArray×Int
 | [],t=>(t,0)
 | p :: l, t => if (zO (zed p.1) p.2).2 ≠ 0 then (emp, (zO (zed p.1) p.2).2) else
     if(Bt t (zO (zed p.1) p.2).1).2≠0 then(emp,(Bt t (zO (zed p.1) p.2).1).2)else mV l (Bt t (zO (zed p.1) p.2).1).1
def gW(ns:List Int)(xs:List ByteArray):ByteArray×Int:=
 if ns.length≠xs.length then(emp,2)else if xs.any (fun x=> !cO x)=true then(emp,3)else mV (ns.zip xs) (dec 0)
def Jo:cO (dec 0)=true:=by have:dec 0=rE 0:=(gH 0).symm.trans (if_pos (show(0:Rat).den=1 from rfl)).symm;rw[this];exact pX ⟨Yy,Gh (k:=1) (by decide) (by decide)⟩
end Go.Nu
end
namespace Go.Proofs.YthephioccidfgaaGreatDoor
open Go.Aw Go.Aw.D Go.Proofs Ty
namespace Nu
open Go.Nu
end Nu
namespace Nu
open Go.Proofs.Tryz
open Go.Nu
def QC{α:Type}{l:List α}{k:Nat}{x:α}(h:l[k]?=some x):l.drop k=x::l.drop (k+1):=by obtain⟨A,e⟩:=List.getElem?_eq_some_iff.1 h;rw[List.drop_eq_getElem_cons A,e]
def Ua(ns:List Int)(xs:List ByteArray)(hn:∀n∈ns,-9223372036854775808<=n/\n<=9223372036854775807)(hl:xs.length<=1048576)(hs:∀s∈xs,s.size<=1048576):
  PC prog 106 [.sl (ns.map aQ),.sl (xs.map Go.Aw.D.dZ)] (.tup [str (gW ns xs).1,int (gW ns xs).2]):=by
 refine pcd func106 rfl rfl ?_;simp only[go_sem];refine aA (fun X=>?_) (fun Y=>?_)
 ·have X:ns.length≠xs.length:=neN X;simp only[go_sem];rw[show gW ns xs=(emp,2)from if_pos X];exact .refl _
 have Y:ns.length=xs.length:=eqN Y;have e0:gW ns xs=if xs.any (fun x=> !cO x)=true then(emp,3)else mV (ns.zip xs) (dec 0):=if_neg (by simp[Y])
 rw[e0];simp only[go_sem,Xaa];refine⟨fun ρ H=>∃(k:Nat),k<=xs.length/\ρ 0=.sl (ns.map aQ)/\ρ 1=.sl (xs.map Go.Aw.D.dZ)/\ρ 18=.sl (xs.map Go.Aw.D.dZ)/\ρ 19=int xs.length/\ρ 20=int k/\∀s∈xs.take k,cO s=true,fun ρ _=>xs.length-aU (ρ 20),
  ⟨0,Xab _,rfl,rfl,rfl,by simp only[go_sem],by simp only[go_sem];rfl,by simp⟩,?_⟩
 rintro ρ H ⟨k,hk,h0,h1,Z,U,T,hz⟩;simp only[go_sem,U,T];refine aA (fun A=>?_) (fun J=>?_)
 ·have A:=ltB A;obtain⟨s,E⟩:=aI A;have b1:=inB A;simp only[go_sem,Z,T,aC E,b1];refine aO (wQ s (hs s (Xac E))) ?_;simp only[go_sem,];refine aA (fun O=>?_) (fun O=>?_)
  ·simp only[go_sem];rw[if_pos (ZV E O)];exact .refl _
  ·simp only[go_sem,h0,h1,Z,U,T,aW k];exact⟨⟨k+1,A,rfl,gP E (by simpa using O) hz⟩,by simp only[aN];omega⟩
 have J:=geB hk J;subst J;rw[Xad]at hz;have hR:xs.any (fun s=> !cO s)=false:=Fa fun s hs=>by rw[hz s hs];rfl
 rw[hR];simp only[go_sem,h1,Xaa];refine⟨fun ρ H=>∃(k:Nat) (t:ByteArray),k<=xs.length/\ρ 0=.sl (ns.map aQ)/\ρ 28=.sl (xs.map Go.Aw.D.dZ)/\ρ 29=int xs.length/\ρ 8=str t/\ρ 30=int k/\t.size<=1048576/\mV (ns.zip xs) (dec 0)=mV ((ns.zip xs).drop k) t,fun ρ _=>xs.length-aU (ρ 30),
  ⟨0,dec 0,Xab _,h0,rfl,by simp only[go_sem],by simp only[go_sem];rw[JK],by simp only[go_sem];rfl,by rw[<-JK];decide,rfl⟩,?_⟩
 clear h0 h1 Z U T;rintro ρ H ⟨k,t,hk,h0,ae,ac,h8,ab,ht,ag⟩;rw[ag];have al:(ns.zip xs).length=xs.length:=by rw[List.length_zip];omega
 simp only[go_sem,ac,ab];refine aA (fun A=>?_) (fun J=>?_)
 ·have A:=ltB A;obtain⟨s,E⟩:=aI A;obtain⟨n,aa⟩:=aI (l:=ns) (k:=k) (by omega);have b1:=inB A;have b2:=inB (show k<ns.length by omega);have ah:=hs s (Xac E);have af:=hn n (Xac aa);have aj:(ns.zip xs)[k]?=some (n,s):=by rw[List.getElem?_zip_eq_some];exact⟨aa,E⟩
  have ai:n.natAbs<dA:=Gh (k:=20) (by omega) (by decide);have ak:=Go.Nu.jC ai;rw[QC aj,mV];simp only[go_sem,h0,ae,ab,aC E,aC aa,b1,b2];refine aO (Dq n af.1 af.2) ?_;simp only[go_sem,];refine aO (ayE (zed n) s (by omega) ah) ?_;simp only[go_sem,];refine aA (fun O=>?_) (fun O=>?_)
  ·have O:(zO (zed n) s).2≠0:=by simpa using O
   simp only[go_sem];rw[if_pos O];exact .refl _
  have O:(zO (zed n) s).2=0:=by simpa using O
  have hm:=BR (VW O);rw[if_neg (by simp[O])];generalize (zO (zed n) s).1=m at *;simp only[go_sem,h8];refine aO (CG t m ht (by omega)) ?_;simp only[go_sem,];refine aA (fun F=>?_) (fun F=>?_)
  ·have F:(Bt t m).2≠0:=by simpa using F
   simp only[go_sem];rw[if_pos F];exact .refl _
  have F:(Bt t m).2=0:=by simpa using F
  have ha:=BR (D0 F);rw[if_neg (by simp[F])];simp only[go_sem,h0,ae,ac,ab,aW k];exact⟨⟨k+1,_,A,rfl,rfl,by omega,rfl⟩,by simp only[aN];omega⟩
 ·have J:=geB hk J;subst J;rw[List.drop_of_length_le (by omega)];simp only[go_sem,h8];exact .refl _
end Nu
namespace Nu
open Go.Nu
end Nu
end Go.Proofs.YthephioccidfgaaGreatDoor
