import Derived.Lib.ItoaMem
import Derived.Test.YtmhpdppobocokaaGreatDoorTs05
set_option linter.unusedSimpArgs false
set_option linter.unusedVariables false
set_option linter.defProp false
set_option maxRecDepth 100000
namespace Go.Proofs.YtmhpdppobocokaaGreatDoor
open Go.Aw Go.Aw.D Go.Proofs Ty
namespace Nu
open Go.Proofs.Tryz
open Go.Nu
def DD:∀{l r:List UInt8},l.all isD=true->r.all isD=true->l.length=r.length->Lib.compareBytes l r=fV (dQ l) (dQ r)
 | [],[],_,_,_=>by rw[nV rfl];rfl
 | [],_::_,_,_,h=>by simp at h
 | _::_,[],_,_,h=>by simp at h
 | a::l,b::r,hl,hr,h=>by
  simp only[List.all_cons,Xav]at hl hr;simp only[Xae,Nat.add_right_cancel_iff]at h;have ih:=DD hl.2 hr.2 h;have L:dQ (a::l)=(a.toNat-48)*10^l.length+dQ l:=by have:=tA [a] l;simpa[dQ]using this
  have O:dQ (b::r)=(b.toNat-48)*10^r.length+dQ r:=by have:=tA [b] r;simpa[dQ]using this
  have h1:=AC hl.2;have h2:=AC hr.2;have Z:=lT.1 hl.1;have db:=lT.1 hr.1;rw[Lib.compareBytes,L,O,<-h]at *;have F:a<b↔a.toNat<b.toNat:=UInt8.lt_iff_toNat_lt;have E:b<a↔b.toNat<a.toNat:=UInt8.lt_iff_toNat_lt;split
  ·rename_i u;rw[F]at u;have:(a.toNat-48+1)*10^l.length<=(b.toNat-48)*10^l.length:=Nat.mul_le_mul_right _ (by omega);rw[Nat.add_mul]at this;rw[gG (by omega)]
  ·split
   ·rename_i u;rw[E]at u;have:(b.toNat-48+1)*10^l.length<=(a.toNat-48)*10^l.length:=Nat.mul_le_mul_right _ (by omega);rw[Nat.add_mul]at this;rw[gD (by omega)]
   ·rename_i n1 M;rw[F]at n1;rw[E]at M;have:a.toNat=b.toNat:=by omega
    rw[ih,this];generalize (b.toNat-48)*10^l.length=p;unfold fV;have J:(((p+dQ l:Nat):Int)<((p+dQ r:Nat):Int))↔((dQ l:Nat):Int)<((dQ r:Nat):Int):=by omega
    have c2:(((p+dQ r:Nat):Int)<((p+dQ l:Nat):Int))↔((dQ r:Nat):Int)<((dQ l:Nat):Int):=by omega
    simp only[J,c2]
def AO(m n:Nat):PC prog 169 [str (dec m),str (dec n)] (int (fV m n)):=by
 have J:=Bu m;have F:=Bu n;have u:∀{p q:Nat},(Lib.decDigits p).length<(Lib.decDigits q).length->p<q:=fun {p q} h=>by
  have h1:=(mM (n:=p) (k:=(Lib.decDigits p).length) (oH p)).1 (Xad _);rcases Xbd p q with E|E
  ·exact E
  ·have:=(mM (n:=q) (k:=(Lib.decDigits p).length) (oH p)).2 (by omega);omega
 refine pcd func169 rfl rfl ?_;simp only[go_sem];refine aA (fun h=>?_) (fun h=>?_)
 ·have h:(dec m).size≠(dec n).size:=neN h;simp only[go_sem];refine aA (fun E=>?_) (fun E=>?_)
  ·have E:=ltB E;simp only[go_sem];have:=u (p:=m) (q:=n) (by omega);exact cI (by rw[gG (by omega)])
  ·have E:¬(dec m).size<(dec n).size:=by have:=of_decide_eq_false E;omega
   simp only[go_sem];have:=u (p:=n) (q:=m) (by omega);exact cI (by rw[gD (by omega)])
 ·have h:(dec m).size=(dec n).size:=eqN h;simp only[go_sem];refine aN (UW (dec m) (dec n)) ?_;simp only[go_sem];refine cI ?_;rw[jH,jH,DD (vQ m) (vQ n) (by omega),AP,AP]
def MM(a b:ByteArray)(u:eI a=true)(E:eI b=true):PC prog 169 [str a,str b] (int (fV (eA a) (eA b))):=by
 have:=AO (eA a) (eA b)
 rwa [hJ u,hJ E]at this
def yG{s:ByteArray}(h:eD s=true):eI (dL s)=true:=by unfold eD at h;simp only[Xav]at h;exact h.1
def K0(a b:ByteArray)(ha:a.size<=1048576)(hb:b.size<=1048576):PC prog 96 [str a,str b] (int (OH a b)):=by
 refine pcd func96 rfl rfl ?_;simp only[go_sem];refine aN (wZ a ha) ?_;simp only[go_sem];refine aN (wZ b hb) ?_;simp only[go_sem];refine aA (fun h=>?_) (fun h=>?_)
 ·simp only[go_sem];refine cI ?_;unfold OH;rw[if_neg];rintro⟨h1,E⟩;rw[h1,E]at h;cases h
 have L:eD a=true/\eD b=true:=by simpa using h
 have M:=yG L.1;have O:=yG L.2;have F:∀{s:ByteArray},eD s=true->fN s=true->0<eA (dL s):=fun {s} h1 E=>by
  have u:=h1;unfold eD at u;simp only[E,Xbm,Xav,Xbs,mO]at u;rcases Xbv (eA (dL s))with h0|h0
  ·have:=hJ u.1;rw[h0]at this;exact absurd this.symm u.2
  ·exact h0
 have hv:OH a b=fV (fX a) (fX b):=if_pos L;rw[hv];unfold fX;simp only[go_sem];refine aA (fun E=>?_) (fun E=>?_)
 ·have E:fN a=true/\fN b=true:=by simpa using E
  simp only[go_sem];refine aN (MM _ _ O M) ?_;simp only[go_sem];refine cI ?_;rw[if_pos E.1,if_pos E.2];unfold fV;have Z:(((eA (dL b):Nat):Int)<((eA (dL a):Nat):Int))↔(-((eA (dL a):Nat):Int)< -((eA (dL b):Nat):Int)):=by omega
  have c2:(((eA (dL a):Nat):Int)<((eA (dL b):Nat):Int))↔(-((eA (dL b):Nat):Int)< -((eA (dL a):Nat):Int)):=by omega
  simp only[Z,c2]
 ·simp only[go_sem];refine aA (fun u=>?_) (fun u=>?_)
  ·have J:fN b=false:=by rw[u]at E;simpa using E
   have:=F L.1 u;simp only[go_sem];refine cI ?_;rw[if_pos u,if_neg (by rw[J];simp),gG (by omega)]
  ·simp only[go_sem];refine aA (fun J=>?_) (fun J=>?_)
   ·have:=F L.2 J;simp only[go_sem];refine cI ?_;rw[if_neg (by rw[u];simp),if_pos J,gD (by omega)]
   ·simp only[go_sem];refine aN (MM _ _ M O) ?_;simp only[go_sem];refine cI ?_;rw[if_neg (by rw[u];simp),if_neg (by rw[J];simp)]
def fQ(m:Bool)(n:Nat):List AV:=[boo m,str (dec n)]
def xU(m:Bool)(n:Nat):(fQ m n).length=2:=(rfl)
def Sp(m:Bool)(n:Nat):(fQ m n).getD 0 .any=boo m:=(rfl)
def RL(m:Bool)(n:Nat):(fQ m n).getD 1 .any=str (dec n):=(rfl)
def N8(m:Bool)(n:Nat):(fQ m n).take 2=fQ m n:=(rfl)
attribute [go_sem] xU Sp RL N8
def II{m n:Nat}(u:m<cE)(E:n<cE):Jw (dec m) (dec n)=szN (m+n):=by unfold Jw;rw[if_pos (tL u E),bZ,bZ]
def Iy{m n:Nat}(E:m<cE)(u:n<cE)(h:n<=m):JN (dec m) (dec n)=szN (m-n):=by unfold JN;rw[if_pos (tL E u),bZ,bZ,if_neg (by omega)]
def dE{m:Nat}(u:m<cE):(dec m).size<=1048576:=by have:=(fJ m).2 u;omega
def TM(a b:Bool)(m n:Nat)(hm:m<cE)(hn:n<cE):PC prog 184 [.agg (fQ a m),.agg (fQ b n)] (.tup [str (szZ (sg a m+sg b n)).1,int (szZ (sg a m+sg b n)).2]):=by
 refine pcb (fun t=>t == 2||t == 3) func184 rfl rfl ?_;simp only[go_sem];refine aL fun i hi=>?_
 simp only[go_sem];refine aL fun j hj=>?_
 have F:=aB bJ i (some ⟨284,2,[fQ a m]⟩);have J:i≠j:=aO F hj;have E:=aB (aE bJ i (some ⟨284,2,[fQ a m]⟩)) j (some ⟨284,2,[fQ b n]⟩);have u:(aE (aE bJ i (some ⟨284,2,[fQ a m]⟩)) j (some ⟨284,2,[fQ b n]⟩)) i=some ⟨284,2,[fQ a m]⟩:=by rw[aC _ _ _ _ J];exact F
 generalize aE (aE bJ i _) j _=H1 at *;clear F;simp only[go_sem,u,E];refine aA (fun h=>?_) (fun h=>?_)
 ·have L:a=b:=by simpa using h
  subst L;simp only[go_sem,u,E];refine aN (PE (dec m) (dec n) (dE hm) (dE hn)) ?_;rw[II hm hn];simp only[go_sem,u,E];refine aN (pI a (m+n)) ?_;simp only[go_sem];have e:sg a (m+n)=sg a m+sg a n:=by unfold sg;split <;> omega
  rw[e];exact .refl _
 have L:b= !a:=by cases a <;> cases b <;> simp_all
 subst L;simp only[go_sem,u,E];refine aN (AO m n) ?_;simp only[go_sem,u,E];refine gC (fun O H'=>∃(a' b':Bool) (p q:Nat),p<cE/\q<cE/\q<=p/\sg a' (p-q)=sg a m+sg (!a) n/\O 2=.op i 0 0/\O 3=.op j 0 0/\H' i=some (⟨284,2,[fQ a' p]⟩:Row)/\H' j=some (⟨284,2,[fQ b' q]⟩:Row)) ?_ fun K hK=>aA (fun M=>?_) (fun M=>?_)
 rotate_left
 ·have ac : m < n := by
   rcases Xbd m n with h|h
   ·exact h
   ·exfalso;have M:=of_decide_eq_true M;unfold fV at M;rw[if_neg (by omega)]at M;split at M <;> omega
  simp only[go_sem,u,E];refine aZ u (by simp[xU]) ?_;generalize hP:aE H1 i _=HP;have F:HP i=some (⟨284,2,[fQ (!a) n]⟩:Row):=by rw[<-hP,aB];rfl
  have Z:HP j=some (⟨284,2,[fQ (!a) n]⟩:Row):=by rw[<-hP,aC _ _ _ _ (Ne.symm J)];exact E
  clear hP;simp only[go_sem,F,Z];refine aZ Z (by simp[xU]) ?_;generalize hP:aE HP j _=HQ;have S3:HQ j=some (⟨284,2,[fQ a m]⟩:Row):=by rw[<-hP,aB];rfl
  have S2:HQ i=some (⟨284,2,[fQ (!a) n]⟩:Row):=by rw[<-hP,aC _ _ _ _ J];exact F
  clear hP;simp only[go_sem];refine hK _ _ ⟨!a,a,n,m,hn,hm,by omega,?_,by simp only[go_sem],by simp only[go_sem],S2,S3⟩;unfold sg;cases a <;> simp <;> omega
 ·have ab : n <= m := by
   rcases Xbd m n with h|h
   ·exact absurd (by rw[gG (by omega)];decide) (of_decide_eq_false M)
   ·exact h
  simp only[go_sem];refine hK _ _ ⟨a,!a,m,n,hm,hn,ab,?_,by simp only[go_sem],by simp only[go_sem],u,E⟩;unfold sg;cases a <;> simp <;> omega
 clear u E;rintro ρ H ⟨a',b',p,q,hp,hq,aa,hv,h2,h3,F,E⟩;simp only[go_sem,h2,h3,F,E];refine aN (O6 (dec p) (dec q) (dE hp) (dE hq)) ?_;rw[Iy hp hq aa];simp only[go_sem,h2,h3,F,E];refine aN (pI a' (p-q)) ?_;simp only[go_sem];rw[hv];exact .refl _
def A7(a b:ByteArray):An [a,b]=jG a b:=by unfold An jG O4;simp only[List.any_cons,List.any_nil,Bool.or_false]
def GV(n:Int):zV (zed n)=fQ (decide (n<0)) n.natAbs:=by unfold zV fQ;rw[vB,jL]
def Ko(n:Int):sg (decide (n<0)) n.natAbs=n:=by
 unfold sg;by_cases h:n<0
 ·simp[h];omega
 ·simp[h];omega
def EY{m n:Int}(h:jG (zed m) (zed n)=0):zL [zed m,zed n]=[fQ (decide (m<0)) m.natAbs,fQ (decide (n<0)) n.natAbs]:=by unfold zL;rw[A7,if_pos h];simp only[Xar,Xay,GV]
def vO(a b:ByteArray)(u:a.size<=1048576)(E:b.size<=1048576):PC prog 164 [.sl [[str a],[str b]]] (.tup [.sl (zL [a,b]),int (jG a b)]):=by
 have:=LA [a,b] (by simp) (by simp[u,E])
 rwa [A7]at this
def PX(a b:ByteArray)(F:a.size<=1048576)(E:b.size<=1048576):PC prog 109 [str a,str b] (.tup [str (Hl a b).1,int (Hl a b).2]):=by
 refine pcd func109 rfl rfl ?_;simp only[go_sem];refine aN (vO a b F E) ?_;simp only[go_sem];refine aA (fun h=>?_) (fun h=>?_)
 ·have h:jG a b≠0:=by simpa using h
  simp only[go_sem];rw[show Hl a b=(emp,jG a b)from if_neg h];exact .refl _
 have h:jG a b=0:=by simpa using h
 have e:Hl a b=szZ (fX a+fX b):=if_pos h;rw[e];obtain⟨m,n,rfl,rfl,J,u⟩:=tW h;rw[cG,cG,EY h];simp only[go_sem];refine eZ (by rfl) (by kernel_rfl) ?_;simp only[go_sem,Xae,List.length_nil]
 repeat (refine⟨by first|decide|omega,?_⟩)
 refine⟨_,(TM _ _ _ _ J u).q rfl,?_⟩;simp only[go_sem];rw[Ko,Ko];exact .refl _
def T4(a b:ByteArray)(J:a.size<=1048576)(F:b.size<=1048576):PC prog 145 [str a,str b] (.tup [str (Oj a b).1,int (Oj a b).2]):=by
 refine pcd func145 rfl rfl ?_;simp only[go_sem];refine aN (vO a b J F) ?_;simp only[go_sem];refine aA (fun h=>?_) (fun h=>?_)
 ·have h:jG a b≠0:=by simpa using h
  simp only[go_sem];rw[show Oj a b=(emp,jG a b)from if_neg h];exact .refl _
 have h:jG a b=0:=by simpa using h
 have e:Oj a b=szZ (fX a-fX b):=if_pos h;rw[e];obtain⟨m,n,rfl,rfl,L,E⟩:=tW h;rw[cG,cG,EY h];simp only[go_sem];refine eZ (by rfl) (by kernel_rfl) ?_;simp only[go_sem,Xae,List.length_nil]
 repeat (refine⟨by first|decide|omega,?_⟩)
 have u:sg (!decide (n<0)) n.natAbs= -n:=by
  unfold sg;by_cases h:n<0
  ·simp[h];omega
  ·simp[h];omega
 refine⟨_,(TM _ (!decide (n<0)) _ _ L E).q rfl,?_⟩;simp only[go_sem];rw[Ko,u,Int.sub_eq_add_neg];exact .refl _
def Pn{m n:Nat}(u:m<cE)(E:n<cE):JY (dec m) (dec n)=szN (m*n):=by unfold JY;rw[if_pos (tL u E),bZ,bZ]
def U7(a b:ByteArray)(M:a.size<=1048576)(L:b.size<=1048576):PC prog 250 [str a,str b] (.tup [str (sE a b).1,int (sE a b).2]):=by
 refine pcd func250 rfl rfl ?_;simp only[go_sem];refine aN (vO a b M L) ?_;simp only[go_sem];refine aA (fun h=>?_) (fun h=>?_)
 ·have h:jG a b≠0:=by simpa using h
  simp only[go_sem];rw[show sE a b=(emp,jG a b)from if_neg h];exact .refl _
 have h:jG a b=0:=by simpa using h
 have e:sE a b=szZ (fX a*fX b):=if_pos h;rw[e];obtain⟨m,n,rfl,rfl,F,E⟩:=tW h;rw[cG,cG,EY h];simp only[go_sem];refine eZ (by rfl) (by kernel_rfl) ?_;simp only[go_sem,Xae,List.length_nil]
 repeat (refine⟨by first|decide|omega,?_⟩)
 refine⟨_,(Um (dec m.natAbs) (dec n.natAbs) (dE F) (dE E)).q rfl,?_⟩;rw[Pn F E];simp only[go_sem];refine eZ (by rfl) (by kernel_rfl) ?_;simp only[go_sem,Xae,List.length_nil]
 repeat (refine⟨by first|decide|omega,?_⟩)
 refine⟨_,(pI _ (m.natAbs*n.natAbs)).q rfl,?_⟩;simp only[go_sem];have J:sg (!(decide (m<0) == decide (n<0))) (m.natAbs*n.natAbs)=m*n:=by
  unfold sg;rw[Int.natCast_mul];by_cases h1:m<0 <;> by_cases u:n<0
  ·simp only[h1,u,decide_true,beq_self_eq_true,Xby,Xax,if_false];rw[Xbo (by omega),Xbo (by omega),Int.neg_mul_neg]
  ·simp only[h1,u,decide_true,decide_false];rw[if_pos (show(!(true == false))=true from rfl),Xbo (by omega),Xbp (by omega),Int.neg_mul,Int.neg_neg]
  ·simp only[h1,u,decide_true,decide_false];rw[if_pos (show(!(false == true))=true from rfl),Xbo (a:=n) (by omega),Xbp (by omega),Int.mul_neg,Int.neg_neg]
  ·simp only[h1,u,decide_false,beq_self_eq_true,Xby,Xax,if_false];rw[Xbp (by omega),Xbp (by omega)]
 rw[J];exact .refl _
def Jr{P:Program}{C:gW}{PC:FuncId->List AV->aD->AV->Prop}{mt:Nat->Bool}{ops:Array Oper}{K:Env->aD->Prop}{m:Nat}{ρ:Env}{H:aD}(J:Env->aD->Prop)(h1:∀ρ H,J ρ H->K ρ H)
 (u:∀K':Env->aD->Prop,(∀ρ H,J ρ H->K' ρ H)->rQ P C PC mt ops K' m ρ H):rQ P C PC mt ops K m ρ H:=u K h1
abbrev Na(A:List AV):Row:=⟨284,2,[A]⟩
abbrev zN:Row:=Na [.v (.bool false),.v (.string ByteArray.empty)]
def wV{A:List AV}(h:A.length=2):(⟨284,2,[List.take 2 A++List.drop (List.take 2 A).length [AV.v (.bool false),AV.v (.string ByteArray.empty)]]⟩:Row)=Na A:=by rw[Xba (by omega),h];simp
def GI{m n:Int}(J:n≠0)(E:decide (m<0)≠decide (n<0))(O:m.natAbs%n.natAbs≠0):
  m.fdiv n= -((m.natAbs/n.natAbs+1:Nat):Int)/\m.fmod n=sg (decide (n<0)) (n.natAbs-m.natAbs%n.natAbs):=by
 have e:=Nat.mod_add_div m.natAbs n.natAbs;have L:=Nat.mod_lt m.natAbs (show 0<n.natAbs by omega);generalize m.natAbs/n.natAbs=q at *;generalize m.natAbs%n.natAbs=r at *;have F:(r:Int)+(n.natAbs:Int)*(q:Int)=(m.natAbs:Int):=by rw[<-Int.natCast_mul,<-Int.natCast_add,e]
 unfold sg;rcases Int.lt_or_gt_of_ne J with h|h
 ·have M:¬m<0:=fun u=>E (by simp[h,u])
  rw[Xbo (a:=n) (by omega),Xbp (a:=m) (by omega)]at F;refine(Int.fdiv_fmod_unique' h).2 ⟨?_,?_,?_⟩
  ·rw[if_pos (by simpa using h)];have:(n* -((q+1:Nat):Int))= -n*q-n:=by grind
   rw[this];omega
  ·rw[if_pos (by simpa using h)];omega
  ·rw[if_pos (by simpa using h)];omega
 ·have M : m < 0 := by
   rcases Int.lt_or_le m 0 with u|u
   ·exact u
   ·exact absurd (by simp;omega) E
  rw[Xbp (a:=n) (by omega),Xbo (a:=m) (by omega)]at F;refine(Int.fdiv_fmod_unique h).2 ⟨?_,?_,?_⟩
  ·rw[if_neg (by simp;omega)];have:(n* -((q+1:Nat):Int))= -(n*q)-n:=by grind
   rw[this];omega
  ·rw[if_neg (by simp;omega)];omega
  ·rw[if_neg (by simp;omega)];omega
def Ny{m n:Int}(J:n≠0)(h0:decide (m<0)=decide (n<0)\/m.natAbs%n.natAbs=0):
  m.fdiv n=sg (!(decide (m<0) == decide (n<0))) (m.natAbs/n.natAbs)/\m.fmod n=sg (decide (n<0)) (m.natAbs%n.natAbs):=by
 have e:=Nat.mod_add_div m.natAbs n.natAbs;have L:=Nat.mod_lt m.natAbs (show 0<n.natAbs by omega);generalize m.natAbs/n.natAbs=q at *;generalize m.natAbs%n.natAbs=r at *;have F:(r:Int)+(n.natAbs:Int)*(q:Int)=(m.natAbs:Int):=by rw[<-Int.natCast_mul,<-Int.natCast_add,e]
 unfold sg;rcases Int.lt_or_gt_of_ne J with h|h
 ·rw[Xbo (a:=n) (by omega)]at F;refine(Int.fdiv_fmod_unique' h).2 ?_;by_cases E:m<0
  ·rw[Xbo (a:=m) (by omega)]at F;simp only[h,E,decide_true,beq_self_eq_true,Xby,Xax,if_false,if_true];have:n*(q:Int)= -(-n*q):=by grind
   exact⟨by rw[this];omega,by omega,by omega⟩
  ·rw[Xbp (a:=m) (by omega)]at F;have M:r=0:=by
    rcases h0 with h0|h0
    ·simp[h,E]at h0
    ·exact h0
   simp only[h,E,decide_true,decide_false,show(!(false == true))=true from rfl,if_true];have:n* -(q:Int)= -n*q:=by grind
   exact⟨by rw[this];omega,by omega,by omega⟩
 ·rw[Xbp (a:=n) (by omega)]at F;refine(Int.fdiv_fmod_unique h).2 ?_;have u:¬n<0:=by omega
  by_cases E:m<0
  ·rw[Xbo (a:=m) (by omega)]at F;have M:r=0:=by
    rcases h0 with h0|h0
    ·simp[u,E]at h0
    ·exact h0
   simp only[u,E,decide_true,decide_false,show(!(true == false))=true from rfl,if_true,Xax,if_false];have:n* -(q:Int)= -(n*q):=by grind
   exact⟨by rw[this];omega,by omega,by omega⟩
  ·rw[Xbp (a:=m) (by omega)]at F;simp only[u,E,decide_false,beq_self_eq_true,Xby,Xax,if_false];exact⟨by omega,by omega,by omega⟩
def Ra{m n:Nat}(E:m<cE)(u:n<cE)(h:n≠0):Iq (dec m) (dec n)=(dec (m/n),dec (m%n),0):=by unfold Iq;rw[if_pos (tL E u),bZ,bZ,if_neg h]
def A0(a b:ByteArray)(ha:a.size<=1048576)(E:b.size<=1048576):PC prog 95 [str a,str b] (.tup [str (kE a b).1,str (kE a b).2.1,int (kE a b).2.2]):=by
 refine pcd func95 rfl rfl ?_;simp only[go_sem];refine aN (vO a b ha E) ?_;simp only[go_sem];refine aA (fun h=>?_) (fun h=>?_)
 ·have h:jG a b≠0:=by simpa using h
  simp only[go_sem];rw[show kE a b=(emp,emp,jG a b)from if_neg h];exact .refl _
 have h:jG a b=0:=by simpa using h
 obtain⟨m,n,rfl,rfl,hm,hn⟩:=tW h;have e:kE (zed m) (zed n)=if n=0 then(emp,emp,10)else(zed (m.fdiv n),zed (m.fmod n),0):=by unfold kE;rw[if_pos h,cG,cG]
 rw[e,EY h];simp only[go_sem];obtain⟨A,hA⟩:∃A,fQ (decide (m<0)) m.natAbs=A:=⟨_,rfl⟩;obtain⟨B,hB⟩:∃B,fQ (decide (n<0)) n.natAbs=B:=⟨_,rfl⟩;have Z:A.length=2:=by rw[<-hA];rfl
 have aa:B.length=2:=by rw[<-hB];rfl
 refine Jr (fun M H'=>∃i j,M 9=.op i 0 0/\M 10=.op j 0 0/\H' i=some (Na A)/\H' j=some (Na B)) ?_ fun K hK=>?_
 rotate_left
 ·refine oF [] (.q 0 (.q 1 (.q 2 (.q 3 (.q 4 (.q 5 (.a2 6 (.a1 7 (.a1 8 (.a1 9 .nil))) 7 (.a1 6 (.a1 8 (.a1 9 .nil)))))))))) (by simp) (by kernel_rfl) fun Hp Hr _ hq _ _=>?_
  simp only[go_sem,Xae,List.length_nil,hA,hB]
  repeat (refine⟨by first|decide|omega,?_⟩)
  refine fY ?_ ?_
  ·simp only[go_sem];refine aL fun i hi=>?_
   simp only[go_sem];refine aL fun j hj=>?_
   have R:=aB Hr i (some (zN));have O:=aO R hj;have F:=eY (r':=zN) R hj;have J:=aB (aE Hr i (some (zN))) j (some (zN));simp only[go_sem];refine aZ (r:=zN) F (by simp[Z]) ?_;simp only[go_sem];refine aZ (r:=zN) (by rw[aC _ _ _ _ O.symm];exact J) (by simp[aa]) ?_;simp only[go_sem];refine eK fun _ Hm _ hm=>hK _ _ ⟨i,j,by simp only[go_sem],by simp only[go_sem],?_,?_⟩
   ·rw[hm i (by simp),aC _ _ _ _ O,aB];exact congrArg some (wV Z)
   ·rw[hm j (by simp),aB];exact congrArg some (wV aa)
  ·simp only[go_sem];refine aL fun j hj=>?_
   simp only[go_sem];refine aL fun i hi=>?_
   have R:=aB Hr j (some (zN));have O:=(aO R hi).symm;have J:=eY (r':=zN) R hi;have F:=aB (aE Hr j (some (zN))) i (some (zN));simp only[go_sem];refine aZ (r:=zN) F (by simp[Z]) ?_;simp only[go_sem];refine aZ (r:=zN) (by rw[aC _ _ _ _ O.symm];exact J) (by simp[aa]) ?_;simp only[go_sem];refine eK fun _ Hm _ hm=>hK _ _ ⟨i,j,by simp only[go_sem],by simp only[go_sem],?_,?_⟩
   ·rw[hm i (by simp),aC _ _ _ _ O,aB];exact congrArg some (wV Z)
   ·rw[hm j (by simp),aB];exact congrArg some (wV aa)
 rintro ρ H ⟨i,j,L,u,F,J⟩;subst hA hB;simp only[go_sem,L,u,F,J,oB];refine aA (fun ae=>?_) (fun ae=>?_)
 ·have h0 : n = 0 := by have:=pY.1 (lQ.1 ae);omega
  simp only[go_sem];rw[if_pos h0];exact .refl _
 have h0:n≠0:=fun e=>by subst e;exact mO.1 ae rfl
 have aj:n.natAbs≠0:=by omega
 rw[if_neg h0];simp only[go_sem,L,u,F,J];refine aN (UA (dec m.natAbs) (dec n.natAbs) (dE hm) (dE hn)) ?_;rw[Ra hm hn aj];simp only[go_sem,L,u,F,J];refine aA (fun E=>by cases E) (fun _=>?_);simp only[go_sem,L,u,F,J,oB];have al:=Nat.mod_add_div m.natAbs n.natAbs;have ak:=Nat.mod_lt m.natAbs (show 0<n.natAbs by omega);refine gC (fun M H'=>∃q r:Nat,M 9=.op i 0 0/\M 10=.op j 0 0/\H' i=some (Na (fQ (decide (m<0)) m.natAbs))/\H' j=some (Na (fQ (decide (n<0)) n.natAbs))/\M 11=str (dec q)/\M 12=str (dec r)/\q<cE/\r<cE/\sg (!(decide (m<0) == decide (n<0))) q=m.fdiv n/\sg (decide (n<0)) r=m.fmod n) ?_ fun K hK=>aA (fun E=>?_) (fun E=>?_)
 rotate_left
 ·have E : decide (m < 0) ≠ decide (n < 0) /\ m.natAbs % n.natAbs ≠ 0 := by simp only[Xav,Xbs,beq_eq_false_iff_ne,ne_eq,mO]at E;exact⟨E.1,fun e=>E.2 (by rw[e])⟩
  obtain⟨f1,f2⟩:=GI h0 E.1 E.2;have ac:m.natAbs/n.natAbs+1<cE:=by
   have h2:2<=n.natAbs:=by omega
   have h3:2*(m.natAbs/n.natAbs)<=n.natAbs*(m.natAbs/n.natAbs):=Nat.mul_le_mul_right _ h2;omega
  have ab:m.natAbs/n.natAbs<cE:=by omega
  have af:(1:Nat)<cE:=Nat.lt_of_le_of_lt (Nat.le_add_left 1 _) ac;have ai:m.natAbs%n.natAbs<cE:=by omega
  generalize hQ:m.natAbs/n.natAbs=q at *;generalize hR:m.natAbs%n.natAbs=r at *;simp only[go_sem,L,u];rw[Av];refine aN (PE (dec q) (dec 1) (dE ab) (dE af)) ?_;rw[II ab af,xY ac];simp only[go_sem,L,u,F,J];refine aA (fun E=>by cases E) (fun _=>?_);simp only[go_sem,L,u,F,J];refine aN (O6 (dec n.natAbs) (dec r) (dE hn) (dE ai)) ?_;rw[Iy hn ai (by omega),xY (show n.natAbs-r<cE by omega)];simp only[go_sem,L,u,F,J];refine aA (fun E=>by cases E) (fun _=>?_);simp only[go_sem,L,u];refine hK _ _ ⟨q+1,n.natAbs-r,by simp only[go_sem,L],by simp only[go_sem,u],F,J,by simp only[go_sem],by simp only[go_sem],ac,by omega,?_,f2.symm⟩;rw[f1];unfold sg;rw[if_pos (by simpa using E.1)]
 ·have E : decide (m < 0) = decide (n < 0) \/ m.natAbs % n.natAbs = 0 := by
   by_cases h1:decide (m<0)=decide (n<0)
   ·exact .inl h1
   ·refine .inr ?_;have h2:(!(decide (m<0) == decide (n<0)))=true:=by simpa using h1
    rw[h2,Xbm,Bool.not_eq_false']at E;exact pY.1 (lQ.1 E)
  obtain⟨f1,f2⟩:=Ny h0 E;have ab:m.natAbs/n.natAbs<cE:=Nat.lt_of_le_of_lt (Nat.div_le_self _ _) hm;simp only[go_sem,L,u];exact hK _ _ ⟨_,_,by simp only[go_sem,L],by simp only[go_sem,u],F,J,by simp only[go_sem],by simp only[go_sem],ab,by omega,f1.symm,f2.symm⟩
 clear L u F J;rintro ρ H ⟨q,r,L,u,F,J,ah,ag,hq,hr,f1,f2⟩;simp only[go_sem];refine eZ (by rfl) (by kernel_rfl) ?_;simp only[go_sem,L,u,ah,ag,F,J];refine⟨_,(EB _ q (dE hq)).q rfl,?_⟩;simp only[go_sem,L,u,ah,ag,F,J];refine⟨_,(EB _ r (dE hr)).q rfl,?_⟩;simp only[go_sem,f1,f2];exact .refl _
end Nu
namespace Nu
open Go.Proofs.Tryz
open Go.Nu
open Go.RowKit (Below)
def yN:∀l:List UInt8,Lib.indexByte l 47=if l.any (· == cZ)=true then((l.takeWhile (· != cZ)).length:Int)else -1
 | []=>rfl
 | c::l=>by
  have ih:=yN l;unfold Lib.indexByte;by_cases h:c=cZ
  ·subst h;rfl
  ·have h1:(c == (47:UInt8))=false:=by simpa[cZ]using h
   have u:(c == cZ)=false:=by simpa using h
   have E:(c != cZ)=true:=by simpa using h
   rw[h1,ih,List.any_cons,u,List.takeWhile_cons,E];simp only[Xax,if_false,Bool.false_or,if_true];split
   ·rw[if_neg (by simp)];simp
   ·rfl
def At{α:Type}(p:α->Bool):∀l:List α,l.take (l.takeWhile p).length=l.takeWhile p
 | []=>rfl
 | a::l=>by
  rw[List.takeWhile_cons];split
  ·rw[Xae,List.take_succ_cons,At p l]
  ·rfl
def Mi{α:Type}(p:α->Bool):∀l:List α,l.drop ((l.takeWhile p).length+1)=(l.dropWhile p).drop 1
 | []=>rfl
 | a::l=>by
  rw[List.takeWhile_cons,List.dropWhile_cons];split
  ·rw[Xae,List.drop_succ_cons,Mi p l]
  ·rfl
def Vn{l:List UInt8}(h:l.any (· == cZ)=true):(l.takeWhile (· != cZ)).length<l.length:=by
 rcases Xbd (l.takeWhile (· != cZ)).length l.length with h1|h1
 ·exact h1
 ·exfalso;have F:=At (· != cZ) l;rw[Xba h1]at F;obtain⟨c,E,u⟩:=List.any_eq_true.1 h;rw[F]at E;have:=yM E;simp at this u;exact this u
def Q2(s:ByteArray):Int:=if gZ s=true then(((bl s).takeWhile (· != cZ)).length:Int)else -1
def OT(s:ByteArray):PC prog 236 [str s,str ⟨#[47]⟩] (int (Q2 s)):=by
 refine PC.lib (a:=[.string s,.string ⟨#[47]⟩]) (v:=.int .i64 (Q2 s)) (fun S w=>rfl) fun w _=>(Tryz.stringslite_Index_one s 47 w).mono fun e w' ⟨u,E⟩=>?_
 rw[E];exact⟨u.trans (by rw[show s.data.toList=bl s from rfl,yN];rfl),Below.refl _ _⟩
def F8(s:ByteArray):PC prog 112 [str s,str ⟨#[47]⟩] (boo (gZ s)):=by
 refine PC.lib (a:=[.string s,.string ⟨#[47]⟩]) (v:=.bool (gZ s)) (fun S w=>rfl) fun w _=>(Tryz.strings_Contains_one s 47 w).mono fun e w' ⟨u,E⟩=>?_
 rw[E];refine⟨u.trans ?_,Below.refl _ _⟩;rw[show s.data.toList=bl s from rfl,yN];unfold gZ;cases(bl s).any (· == cZ) <;> simp
def FB(s:ByteArray):ByteArray:=⟨(((bl s).dropWhile (· != cZ)).drop 1).toArray⟩
def Ry(s:ByteArray)(h:s.size<=1048576):PC prog 219 [str s,str ⟨#[47]⟩] (.tup (if gZ s=true then[str (fM s),str (FB s),boo true]else[str s,str emp,boo false])):=by
 refine pcd func219 rfl rfl ?_;simp only[go_sem];refine aN (OT s) ?_;simp only[go_sem];have M:=eE s;refine aA (fun u=>?_) (fun u=>?_)
 ·have E : gZ s = true := by
   have u:=of_decide_eq_true u;unfold Q2 at u;split at u
   ·assumption
   ·omega
  have L:=Vn E;rw[if_pos E,show Q2 s=(((bl s).takeWhile (· != cZ)).length:Int)from if_pos E];simp only[go_sem];refine eZ (by rfl) (by kernel_rfl) ?_;simp only[go_sem];have F:s.extract 0 ((bl s).takeWhile (· != cZ)).length=fM s:=jB (by rw[fP,Xbk,At];exact(gN _).symm);have e2:s.extract (((bl s).takeWhile (· != cZ)).length+1) s.size=FB s:=jB (by rw[fP,<-M,Xai,Mi];exact(gN _).symm);refine⟨⟨by omega,by omega⟩,?_⟩;have J:IntKind.i64.wrap ((((bl s).takeWhile (· != cZ)).length:Int)+((#[47]:Array UInt8).size:Nat))=((((bl s).takeWhile (· != cZ)).length+1:Nat):Int):=nN (by omega);simp only[J,Xbb,F,e2];refine⟨⟨by omega,by omega⟩,?_⟩;exact .refl _
 ·have E : ¬ gZ s = true := fun E => by have u:=of_decide_eq_false u;unfold Q2 at u;rw[if_pos E]at u;omega
  rw[if_neg E];simp only[go_sem];exact .refl _
def Ph{s:ByteArray}(h:gZ s=false):fM s=s:=by
 refine jB ?_;unfold fM;rw[gN];refine rJ fun c u=>?_
 unfold gZ at h;rw[List.any_eq_false]at h;have:=h c u;simpa using this
def Vo(s:ByteArray)(h:s.size<=1048576):PC prog 160 [str s,str ⟨#[47]⟩] (.tup (if gZ s=true then[str (fM s),str (FB s),boo true]else[str s,str emp,boo false])):=by
 by_cases u:gZ s=true
 ·have:=Ry s h;rw[if_pos u]at this |-;refine pcd func160 rfl rfl ?_;simp only[go_sem];refine aN this ?_;simp only[go_sem];exact .refl _
 ·have:=Ry s h;rw[if_neg u]at this |-;refine pcd func160 rfl rfl ?_;simp only[go_sem];refine aN this ?_;simp only[go_sem];exact .refl _
def vZ(s:ByteArray)(h:s.size<=1048576):PC prog 91 [str s] (.tup [str (fM s),str (fA s)]):=by
 have E:=Vo s h;by_cases u:gZ s=true
 ·rw[if_pos u]at E;refine pcd func91 rfl rfl ?_;simp only[go_sem];refine aN E ?_;simp only[go_sem];refine aA (fun F=>by cases F) (fun _=>?_);simp only[go_sem];rw[show fA s=FB s from if_pos u];exact .refl _
 ·rw[if_neg u]at E;refine pcd func91 rfl rfl ?_;simp only[go_sem];refine aN E ?_;simp only[go_sem];refine aA (fun _=>?_) (fun F=>by cases F);simp only[go_sem];rw[show fA s=dec 1 from if_neg u,Ph (by simpa using u),<-Av];exact .refl _
def Im(s:ByteArray):PC prog 156 [str s] (int (dL s).size):=by refine pcd func156 rfl rfl ?_;simp only[go_sem];refine aN (sR s) ?_;simp only[go_sem];exact .refl _
def xH(s:ByteArray):(fM s).size<=s.size:=by rw[<-eE,<-eE,show bl (fM s)=(bl s).takeWhile (· != cZ)from gN _,<-At];simp;omega
def MP(s:ByteArray):(fA s).size<=max s.size 1:=by
 unfold fA;split
 ·rw[<-eE,<-eE,gN,List.length_drop];have:((bl s).dropWhile (· != cZ)).length<=(bl s).length:=(List.dropWhile_suffix _).length_le;omega
 ·rw[<-Av];exact Nat.le_max_right _ _
def Lf:eI (dec 1)=true:=mL 1
def BM{s:ByteArray}(h:eI s=true):dL s=s:=by rw[<-hJ h,Gh]
def Oe{s:ByteArray}(h:gZ s=false):fA s=dec 1:=if_neg (by rw[h];simp)
def Jo{s:ByteArray}(u:(!eD (fM s)||decide (((dL (fM s)).size:Int)>4096)||decide (((dL (fA s)).size:Int)>4096))=true):bP s=false:=by unfold bP;rw[Bool.eq_false_iff];simp only[ne_eq,Xav,decide_eq_true_eq];rintro⟨⟨⟨⟨h1,E⟩,F⟩,J⟩,_⟩;rw[h1,BM E]at u;simp only[Xby,Bool.false_or,Bool.or_eq_true,decide_eq_true_eq]at u;omega
def zR{s:ByteArray}(E:(!eD (fM s)||decide (((dL (fM s)).size:Int)>4096)||decide (((dL (fA s)).size:Int)>4096))=false)(J:eI (fA s)=true):
  (eD (fM s)&&eI (fA s)&&decide ((dL (fM s)).size<=4096)&&decide ((fA s).size<=4096))=true/\eD (fM s)=true/\(dL (fM s)).size<=4096/\(fA s).size<=4096:=by
 simp only[Xbq,Bool.not_eq_false',decide_eq_false_iff_not]at E;rw[BM J]at E;obtain⟨⟨h1,F⟩,u⟩:=E;have F:(dL (fM s)).size<=4096:=by omega
 have u:(fA s).size<=4096:=by omega
 refine⟨?_,h1,F,u⟩;rw[h1,J];simp[F,u]
def sJ(s:ByteArray)(h:s.size<=1048576):PC prog 90 [str s] (boo (bP s)):=by
 have hn:=xH s;have hd:=MP s;have h1:(1:Nat)<=1048576:=by omega
 have aa:=FT (fM s);have Z:=FT (fA s);refine pcd func90 rfl rfl ?_;simp only[go_sem];refine aN (vZ s h) ?_;simp only[go_sem];refine aN (Pm (fM s) (by omega)) ?_;simp only[go_sem];refine⟨_,fun _=>(Im (fM s)).q rfl,?_⟩;simp only[go_sem];refine⟨_,fun _=>(Im (fA s)).q rfl,?_⟩;simp only[go_sem];refine aA (fun F=>?_) (fun F=>?_)
 ·simp only[go_sem];exact cB (Jo F).symm
 simp only[go_sem];refine aN (F8 s) ?_;simp only[go_sem];refine aA (fun J=>?_) (fun J=>?_)
 ·simp only[go_sem];refine cB ?_;have h0:gZ s=false:=by simpa using J
  have E:eI (fA s)=true:=by rw[Oe h0];exact Lf
  unfold bP;rw[(zR F E).1,h0];rfl
 have h0:gZ s=true:=by simpa using J
 simp only[go_sem];refine aN (wQ (fA s) (by omega)) ?_;simp only[go_sem,oB,KC];refine aA (fun u=>?_) (fun u=>?_)
 ·simp only[go_sem];refine cB ?_;unfold bP;rw[h0];simp only[Bool.or_eq_true,Xbs]at u;rcases u with((u|u)|u)|u <;> simp[u]
 simp only[Xbq,Bool.not_eq_false']at u;obtain⟨⟨⟨E,L⟩,h4⟩,h5⟩:=u;obtain⟨f1,O,f3,M⟩:=zR F E;simp only[go_sem];refine aN (sR (fM s)) ?_;simp only[go_sem];refine aN (Q6 (dL (fM s)) (fA s) (by omega) (by omega)) ?_;simp only[go_sem,KC];refine cB ?_;have fd:=yG O;have v0:eA (fA s)≠0:=fun e=>mO.1 L (by rw[<-hJ E,e])
 have v1:eA (fA s)<cE:=(uW E).1 M;have e:FO (dL (fM s)) (fA s)=(dec (Nat.gcd (eA (dL (fM s))) (eA (fA s))),0):=by unfold FO;rw[if_pos (FF fd E f3 M),xY (Nat.lt_of_le_of_lt (Nat.gcd_le_right _ (by omega)) v1)]
 have ev:(fX (fM s)).natAbs=eA (dL (fM s)):=by unfold fX;split <;> omega
 rw[e];unfold bP;rw[f1,h0,L,h4,h5,ev];simp only[beq_self_eq_true,Xbm,Xby,Bool.not_false,Bool.false_or];rw[Xbf,lQ,pY,beq_iff_eq]
def jT(n:Int)(h0: -9223372036854775808<=n)(h1:n<=9223372036854775807):PC prog 84 [int n] (str (zed n)):=by refine pcd func84 rfl rfl ?_;simp only[go_sem];refine aN (Vv n h0 h1) ?_;simp only[go_sem];exact .refl _
def fS(s:ByteArray)(h:s.size<=1048576):PC prog 40 [str s] (int (rO s)):=by
 have J:=xH s;refine pcd func40 rfl rfl ?_;simp only[go_sem];refine aN (sJ s h) ?_;simp only[go_sem];refine aA (fun u=>?_) (fun u=>?_)
 ·simp only[go_sem];exact cI (by unfold rO;rw[if_neg (by simpa using u)])
 ·have E:bP s=true:=by simpa using u
  simp only[go_sem];refine aN (vZ s h) ?_;simp only[go_sem];refine aN (Mk (fM s) (by omega)) ?_;simp only[go_sem];refine cI ?_;obtain⟨x,rfl,L,F,_⟩:=eL E;unfold rO AX;rw[if_pos E,F,if_pos (iY _),cG,iM]
def Bo(a b:ByteArray):List AV:=if(bP a&&bP b)=true then[str (fM a),str (fA a),str (fM b),str (fA b),int 0]else[str emp,str emp,str emp,str emp,int 3]
def EL(a b:ByteArray)(F:a.size<=1048576)(E:b.size<=1048576):PC prog 94 [str a,str b] (.tup (Bo a b)):=by
 refine pcd func94 rfl rfl ?_;simp only[go_sem];refine aN (sJ a F) ?_;simp only[go_sem];refine⟨_,fun _=>(sJ b E).q rfl,?_⟩;simp only[go_sem];refine aA (fun u=>?_) (fun u=>?_)
 ·simp only[go_sem];rw[show Bo a b=[str emp,str emp,str emp,str emp,int 3]from if_neg (by rw[Bool.not_eq_true,<-Xbs,Bool.not_and];exact u)];exact .refl _
 ·simp only[go_sem];refine aN (vZ a F) ?_;simp only[go_sem];refine aN (vZ b E) ?_;simp only[go_sem];rw[show Bo a b=_ from if_pos (by rw[<-Bool.not_eq_false',Bool.not_and];exact u)];exact .refl _
def KV(n:Int)(d:Nat)(J:d≠0)(F:n.natAbs<cE)(u:d<cE):PC prog 206 [str (zed n),str (dec d)] (.tup [str (lI (mkRat n d)),int 0]):=by
 have M:=Ov (n:=n) J u;have aa:=Se (n:=n) J;have O:∀{m:Int},m.natAbs<cE->(zed m).size<=1048576:=fun {m} hm=>by
  have:=(pK m).2 hm;unfold dL at this;split at this
  ·rw[<-eE,gN,List.length_drop]at this;rw[<-eE];omega
  ·omega
 have L:=wJ J F u;have Z:kE (zed n) (dec (Nat.gcd n.natAbs d))=(zed (mkRat n d).num,zed (n.fmod (Nat.gcd n.natAbs d:Nat)),0):=by unfold kE;rw[<-dG,if_pos (mJ F (by rw[Xbh];exact M)),cG,cG,if_neg (by omega),TD J]
 have ed:kE (dec d) (dec (Nat.gcd n.natAbs d))=(dec (mkRat n d).den,zed ((d:Int).fmod (Nat.gcd n.natAbs d:Nat)),0):=by unfold kE;rw[<-dG,<-dG,if_pos (mJ (by rw[Xbh];exact u) (by rw[Xbh];exact M)),cG,cG,if_neg (by omega),Tc J,dG]
 refine pcd func206 rfl rfl ?_;simp only[go_sem];refine aN (sR (zed n)) ?_;rw[jL];simp only[go_sem];refine aN (Q6 (dec n.natAbs) (dec d) (dE F) (dE u)) ?_;rw[show FO (dec n.natAbs) (dec d)=(dec (Nat.gcd n.natAbs d),0)by unfold FO;rw[if_pos (tL F u),bZ,bZ,xY M]];simp only[go_sem];refine aA (fun E=>by cases E) (fun _=>?_);simp only[go_sem];refine aN (A0 (zed n) (dec (Nat.gcd n.natAbs d)) (O F) (dE M)) ?_;rw[Z];simp only[go_sem];refine aA (fun E=>by cases E) (fun _=>?_);simp only[go_sem];refine aN (A0 (dec d) (dec (Nat.gcd n.natAbs d)) (dE u) (dE M)) ?_;rw[ed];simp only[go_sem];refine aA (fun E=>by cases E) (fun _=>?_);simp only[go_sem,KC];generalize mkRat n d=x at *;refine aA (fun E=>?_) (fun E=>?_)
 ·have h1:x.den=1:=pY.1 (lQ.1 E);simp only[go_sem];rw[show lI x=zed x.num from if_pos h1];exact .refl _
 ·have h1:x.den≠1:=fun e=>mO.1 E (by rw[e])
  simp only[go_sem];have z1:=O L.1;have z2:=dE L.2;have z3:(zed x.num++slB).size=(zed x.num).size+1:=by rw[ByteArray.size_append];rfl
  refine⟨by show((zed x.num).size+(1:Nat):Int)<=9223372036854775807;omega,?_⟩;refine⟨by show(((zed x.num).size+1+(dec x.den).size:Nat):Int)<=9223372036854775807;omega,?_⟩;rw[show lI x=zed x.num++slB++dec x.den from if_neg h1];exact .refl _
end Nu
namespace Nu
open Go.Proofs.Tryz
open Go.Nu
abbrev Pr:=ByteArray×ByteArray
def uD(p:Pr):List AV:=[str p.1,str p.2]
def El(p:Pr):(uD p).length=2:=(rfl)
def S5(p:Pr):(uD p).getD 0 .any=str p.1:=(rfl)
def SI(p:Pr):(uD p).getD 1 .any=str p.2:=(rfl)
def Og(p:Pr):(uD p).take 2=uD p:=(rfl)
attribute [go_sem] El S5 SI Og
def prA(p:Pr):List AV:=[str (sE p.1 p.2).1]
def prE:List Pr->Int
 | []=>0
 | p::l=>if(sE p.1 p.2).2≠0 then(sE p.1 p.2).2 else prE l
def Ip:∀{l:List Pr},(∀p∈l,(sE p.1 p.2).2=0)->prE l=0
 | [],_=>rfl
 | p::l,h=>by unfold prE;rw[if_neg (by simp[h p (by simp)])];exact Ip fun q u=>h q (by simp[u])
def Re:∀{l:List Pr} {k:Nat} {p:Pr},l[k]?=some p->(∀q∈l.take k,(sE q.1 q.2).2=0)->(sE p.1 p.2).2≠0->prE l=(sE p.1 p.2).2
 | [],k,p,h,_,_=>by simp at h
 | a::l,0,p,h,_,h2=>by simp at h;subst h;unfold prE;rw[if_pos h2]
 | a::l,k+1,p,h,h1,h2=>by unfold prE;rw[if_neg (by simp[h1 a (by simp)])];exact Re (k:=k) (by simpa using h) (fun q u=>h1 q (by simp[u])) h2
def SF(l:List (List AV)):Row:=⟨9,1,l⟩
def BS(l:List Pr)(hl:l.length<=1048576)(hs:∀p∈l,p.1.size<=1048576/\p.2.size<=1048576):PC prog 205 [.sl (l.map uD)] (.tup [.sl (if prE l=0 then l.map prA else[]),int (prE l)]):=by
 refine pcb (fun t=>t == 6||t == 11) func205 rfl rfl ?_;simp only[go_sem];refine⟨⟨⟨by omega,by omega⟩,by omega⟩,?_⟩;refine aL fun j hj=>?_
 simp only[go_sem];refine⟨fun ρ H=>∃(k j:Nat),k<=l.length/\ρ 12=.sl (l.map uD)/\ρ 13=int l.length/\ρ 4=.os j/\ρ 14=int k/\H j=some (SF ((l.take k).map prA))/\∀p∈l.take k,(sE p.1 p.2).2=0,fun ρ _=>l.length-aW (ρ 14),
  ⟨0,j,Xab _,by simp only[go_sem],by simp only[go_sem,Xaa],by simp only[go_sem],by simp only[go_sem];rfl,aB _ _ _,by simp⟩,?_⟩
 clear hj j;rintro ρ H ⟨k,j,hk,u,E,O,F,Rj,hz⟩;simp only[go_sem,u,E,O,F];refine aA (fun L=>?_) (fun Z=>?_)
 ·have L:=ltB L;obtain⟨p,J⟩:=bG L;have b1:=inB L;have aa:=hs p (Xaf J);simp only[go_sem,u,E,O,F,aJ J,b1];refine aL fun i hi=>?_
  have ab:j≠i:=aO Rj hi;simp only[go_sem,u,E,O,F];refine aZ (aB _ _ _) (by simp[El]) ?_;generalize hG:aE (aE _ i _) i _=HG;have Ri:HG i=some (⟨324,2,[uD p]⟩:Row):=by rw[<-hG,aB];rfl
  have ac:HG j=some (SF ((l.take k).map prA)):=by rw[<-hG,aC _ _ _ _ ab,aC _ _ _ _ ab];exact Rj
  clear hG hi Rj;simp only[go_sem,u,E,O,F,Ri]
  repeat (refine⟨by first|decide|omega,?_⟩)
  refine aN (U7 p.1 p.2 aa.1 aa.2) ?_;simp only[go_sem,u,E,O,F];refine aA (fun M=>?_) (fun M=>?_)
  ·have M:(sE p.1 p.2).2≠0:=by simpa using M
   simp only[go_sem];have e:prE l=(sE p.1 p.2).2:=Re J hz M;rw[e,if_neg M];exact .refl _
  ·have M:(sE p.1 p.2).2=0:=by simpa using M
   simp only[go_sem,u,E,O,F];refine cD ac ⟨rfl,rfl⟩ ⟨rfl,trivial⟩ (by simp only[SF,Xaa,Xaj,Xae,List.length_nil];omega) (fun j' ae=>?_);simp only[go_sem,u,E,O,F,aY k];refine⟨⟨k+1,j',L,rfl,rfl,?_,?_⟩,by simp only[aF];omega⟩
   ·rw[aB];simp only[SF,bK J,Xak,Xar,Xay];rfl
   ·intro q hq;rw[bK J]at hq;rcases Xbj.1 hq with hq|hq
    ·exact hz q hq
    ·rw[Xap.1 hq];exact M
 ·have Z:=geB hk Z;subst Z;rw[Xai]at Rj hz;simp only[go_sem,O,Rj];have e:prE l=0:=Ip hz;rw[if_pos e,e];exact .tup _ _ (.cons _ _ _ _ (.row _ _ _ Rj (ConvE.refl _)) (ConvL.refl _))
def Bk{m n:Int}(u:m.natAbs<cE)(E:n.natAbs<cE):sE (zed m) (zed n)=szZ (m*n):=by unfold sE;rw[if_pos (mJ u E),cG,cG]
def Ps{m n:Int}(u:m.natAbs<cE)(E:n.natAbs<cE):Hl (zed m) (zed n)=szZ (m+n):=by unfold Hl;rw[if_pos (mJ u E),cG,cG]
def P9{m n:Int}(u:m.natAbs<cE)(E:n.natAbs<cE):Oj (zed m) (zed n)=szZ (m-n):=by unfold Oj;rw[if_pos (mJ u E),cG,cG]
def F1{n:Int}(h:gV n=false):szZ n=(zed n,0):=if_pos (fW.1 h)
def Ax{n:Int}(h:gV n=true):szZ n=(emp,4):=if_neg (fun u=>by rw[fW.2 u]at h;cases h)
def cX{m:Int}(u:m.natAbs<cE):(zed m).size<=1048576:=by
 have:=(pK m).2 u;unfold dL at this;split at this
 ·rw[<-eE,gN,List.length_drop]at this;rw[<-eE];omega
 ·omega
def sZ{a b c d:Int}(F:a.natAbs<cE)(u:b.natAbs<cE)(J:c.natAbs<cE)(E:d.natAbs<cE):
  PC prog 205 [.sl [[str (zed a),str (zed b)],[str (zed c),str (zed d)]]] (if(gV (a*b)||gV (c*d))=true then .tup [.sl [],int 4]else .tup [.sl [[str (zed (a*b))],[str (zed (c*d))]],int 0]):=by
 have:=BS [(zed a,zed b),(zed c,zed d)] (by simp) (by simp[cX,F,u,J,E]);simp only[prE,Bk F u,Bk J E,Xar,Xay,prA,uD]at this;cases h1:gV (a*b)with
 | true=>rw[Ax h1]at this;simpa using this
 | false=>
  rw[F1 h1]at this;cases L:gV (c*d)with
  | true=>rw[Ax L]at this;simpa using this
  | false=>rw[F1 L]at this;simpa using this
def Hz{a b:Int}(E:a.natAbs<cE)(u:b.natAbs<cE):
  PC prog 205 [.sl [[str (zed a),str (zed b)]]] (if gV (a*b)=true then .tup [.sl [],int 4]else .tup [.sl [[str (zed (a*b))]],int 0]):=by
 have:=BS [(zed a,zed b)] (by simp) (by simp[cX,E,u]);simp only[prE,Bk E u,Xar,Xay,prA,uD]at this;cases h1:gV (a*b)with
 | true=>rw[Ax h1]at this;simpa using this
 | false=>rw[F1 h1]at this;simpa using this
def fv(g:FuncId):AV:=.v (.func (.func g) #[] #[])
def MN(op:Int->Int->Int)(x y:Rat):ByteArray×Int:=
 if(gV (x.num*y.den)||gV (y.num*x.den)||gV (op (x.num*y.den) (y.num*x.den))||gV (x.den*y.den))=true then(emp,4)else(lI (mkRat (op (x.num*y.den) (y.num*x.den)) (x.den*y.den)),0)
def yV(op:Int->Int->Int)(a b:ByteArray):ByteArray×Int:=if(bP a&&bP b)=true then MN op (fL a) (fL b)else(emp,3)
def Er(g:FuncId)(op:Int->Int->Int)(ab:aG prog g=true)(hg:∀m n:Int,m.natAbs<cE->n.natAbs<cE->PC prog g [str (zed m),str (zed n)] (.tup [str (szZ (op m n)).1,int (szZ (op m n)).2]))
  (a b:ByteArray) (ha:a.size<=1048576) (E:b.size<=1048576):PC prog 144 [str a,str b,fv g] (.tup [str (yV op a b).1,int (yV op a b).2]):=by
 have u:=EL a b ha E;by_cases O:(bP a&&bP b)=true;rotate_left
 ·rw[show Bo a b=_ from if_neg O]at u;rw[show yV op a b=(emp,3)from if_neg O];unfold fv;refine pcd func144 rfl rfl ?_;simp only[go_sem];refine aN u ?_;simp only[go_sem];refine aA (fun _=>?_) (fun E=>by cases E);simp only[go_sem];exact .refl _
 rw[show Bo a b=_ from if_pos O]at u;rw[show yV op a b=_ from if_pos O];simp only[Xav]at O;obtain⟨x,rfl,hx,e1,e2⟩:=eL O.1;obtain⟨y,rfl,hy,e3,e4⟩:=eL O.2;rw[e1,e2,e3,e4]at u;rw[iM,iM];have xd:((x.den:Int)).natAbs<cE:=by rw[Xbh];exact hx.2
 have yd:((y.den:Int)).natAbs<cE:=by rw[Xbh];exact hy.2
 have p2:=sZ hx.1 yd hy.1 xd;have Z:=Hz xd yd;rw[dG,dG]at p2 Z;unfold fv;refine pcd func144 rfl rfl ?_;simp only[go_sem];refine aN u ?_;simp only[go_sem];refine aA (fun E=>by cases E) (fun _=>?_);simp only[go_sem];unfold MN;cases J:(gV (x.num*y.den)||gV (y.num*x.den))with
 | true=>rw[J,if_pos rfl]at p2;refine aN p2 ?_;simp only[go_sem];refine aA (fun _=>?_) (fun E=>by cases E);exact .refl _
 | false=>
  rw[J]at p2;simp only[Xax,if_false]at p2;refine aN p2 ?_;simp only[go_sem];refine aA (fun E=>by cases E) (fun _=>?_);simp only[go_sem];have F:=J;simp only[Xbq]at F;have aa:=hg _ _ (fW.1 F.1) (fW.1 F.2);refine eZ (by rfl) (by kernel_rfl) ?_;simp only[go_sem,Xae,List.length_nil]
  repeat (refine⟨by first|decide|omega,?_⟩)
  refine⟨_,aa.q rfl,?_⟩;simp only[go_sem];generalize hN:op (x.num*y.den) (y.num*x.den)=N;cases M:gV N with
  | true=>rw[Ax M];refine aA (fun _=>?_) (fun E=>by cases E);simp only[go_sem,J,Bool.false_or,Bool.true_or,if_true];exact .refl _
  | false=>
   rw[F1 M];refine aA (fun E=>by cases E) (fun _=>?_);simp only[go_sem];cases L:gV ((x.den:Int)*y.den)with
   | true=>rw[L,if_pos rfl]at Z;refine aN Z ?_;simp only[go_sem];refine aA (fun _=>?_) (fun E=>by cases E);simp only[go_sem,Bool.or_true,if_true];exact .refl _
   | false=>
    rw[L]at Z;simp only[Xax,if_false]at Z;refine aN Z ?_;simp only[go_sem];refine aA (fun E=>by cases E) (fun _=>?_);simp only[go_sem,Xae,List.length_nil]
    repeat (refine⟨by first|decide|omega,?_⟩)
    have hD:x.den*y.den<cE:=by rw[<-Ar];exact fW.1 L
    have:=KV N (x.den*y.den) (EO x y) (fW.1 M) hD;rw[<-dG,Int.natCast_mul]at this;refine aN this ?_;simp only[go_sem];exact .refl _
def No(a b:ByteArray):yV (·+·) a b=Ad a b:=by unfold yV Ad MN GB;simp only[Kl]
def MY(a b:ByteArray):yV (·-·) a b=tG a b:=by
 unfold yV tG MN GB;simp only[Kl,Rat.neg_num,Rat.neg_den,Int.neg_mul,<-Int.sub_eq_add_neg];have:∀n:Int,gV (-n)=gV n:=fun n=>by unfold gV;rw[Int.natAbs_neg]
 simp only[this]
def UV(a b:ByteArray)(J:a.size<=1048576)(F:b.size<=1048576):PC prog 143 [str a,str b] (.tup [str (Ad a b).1,int (Ad a b).2]):=by have:=Er 109 (·+·) (by kernel_rfl) (fun m n E u=>by rw[<-Ps E u];exact PX _ _ (cX E) (cX u)) a b J F;rw[No]at this;unfold fv at this;refine pcd func143 rfl rfl ?_;simp only[go_sem];refine aN this ?_;simp only[go_sem];exact .refl _
def iZ(a b:ByteArray)(J:a.size<=1048576)(F:b.size<=1048576):PC prog 83 [str a,str b] (.tup [str (tG a b).1,int (tG a b).2]):=by have:=Er 145 (·-·) (by kernel_rfl) (fun m n E u=>by rw[<-P9 E u];exact T4 _ _ (cX E) (cX u)) a b J F;rw[MY]at this;unfold fv at this;refine pcd func83 rfl rfl ?_;simp only[go_sem];refine aN this ?_;simp only[go_sem];exact .refl _
def jM(a b:ByteArray)(ha:a.size<=1048576)(F:b.size<=1048576):PC prog 142 [str a,str b] (.tup [str (qO a b).1,int (qO a b).2]):=by
 have u:=EL a b ha F;by_cases J:(bP a&&bP b)=true;rotate_left
 ·rw[show Bo a b=_ from if_neg J]at u;rw[show qO a b=(emp,3)from if_neg J];refine pcd func142 rfl rfl ?_;simp only[go_sem];refine aN u ?_;simp only[go_sem];refine aA (fun _=>?_) (fun F=>by cases F);simp only[go_sem];exact .refl _
 rw[show Bo a b=_ from if_pos J]at u;rw[show qO a b=_ from if_pos J];simp only[Xav]at J;obtain⟨x,rfl,M,e1,e2⟩:=eL J.1;obtain⟨y,rfl,O,e3,Z⟩:=eL J.2;rw[e1,e2,e3,Z]at u;rw[iM,iM];have xd:((x.den:Int)).natAbs<cE:=by rw[Xbh];exact M.2
 have yd:((y.den:Int)).natAbs<cE:=by rw[Xbh];exact O.2
 have L:=sZ M.1 O.1 xd yd;rw[dG,dG]at L;refine pcd func142 rfl rfl ?_;simp only[go_sem];refine aN u ?_;simp only[go_sem];refine aA (fun F=>by cases F) (fun _=>?_);simp only[go_sem];unfold Ei;cases E:(gV (x.num*y.num)||gV ((x.den:Int)*y.den))with
 | true=>rw[E,if_pos rfl]at L;refine aN L ?_;simp only[go_sem];refine aA (fun _=>?_) (fun F=>by cases F);exact .refl _
 | false=>
  rw[E]at L;simp only[Xax,if_false]at L;refine aN L ?_;simp only[go_sem];refine aA (fun F=>by cases F) (fun _=>?_);simp only[go_sem];simp only[Xbq]at E;have hD:x.den*y.den<cE:=by rw[<-Ar];exact fW.1 E.2
  have:=KV (x.num*y.num) (x.den*y.den) (EO x y) (fW.1 E.1) hD;rw[<-dG,Int.natCast_mul]at this;refine eZ (by rfl) (by kernel_rfl) ?_;simp only[go_sem,Xae,List.length_nil]
  repeat (refine⟨by first|decide|omega,?_⟩)
  refine⟨_,this.q rfl,?_⟩;simp only[go_sem];rw[<-Px];exact .refl _
def GL{p q:Int}(F:0<q):(p.fdiv q).natAbs<=p.natAbs:=by
 obtain⟨e,h0,h1⟩:=mX (p:=p) F;generalize p.fdiv q=d at *;generalize p.fmod q=m at *;rcases Int.lt_or_le d 0 with E|E
 ·have u:(d+1)*q<=(d+1)*1:=Int.mul_le_mul_of_nonpos_left (by omega) (by omega);rw[Int.add_mul]at u;omega
 ·have u:d*1<=d*q:=Int.mul_le_mul_of_nonneg_left (by omega) E;omega
def BV{p q:Int}(u:p.natAbs<cE)(E:q.natAbs<cE)(h:0<q):kE (zed p) (zed q)=(zed (p.fdiv q),zed (p.fmod q),0):=by unfold kE;rw[if_pos (mJ u E),cG,cG,if_neg (by omega)]
def PF(i j:Int):OH (zed i) (zed j)=fV i j:=by unfold OH;rw[if_pos ⟨iY _,iY _⟩,cG,cG]
def KX(i j:Int):fV i j= -1\/fV i j=0\/fV i j=1:=by
 unfold fV;split
 ·exact .inl rfl
 ·split
  ·exact .inr (.inr rfl)
  ·exact .inr (.inl rfl)
def Vk:AV->Nat
 | .v (.string s)=>(fX s).natAbs
 | _=>0
def GO(n:Int):Vk (str (zed n))=n.natAbs:=by show(fX (zed n)).natAbs=_;rw[cG]
def A4(n:Int):(bl (zed n) == [48])=decide (n=0):=by rw[oB,<-show zed ((0:Nat):Int)=dec 0 from dG 0,Xbf,lQ,J7,decide_eq_true_iff];exact Iff.rfl
def Vf{a b:Int}(u:a=1\/a= -1)(E:b= -1\/b=0\/b=1):IntKind.i64.wrap (a*b)=a*b:=by rcases u with rfl|rfl <;> rcases E with rfl|rfl|rfl <;> rfl
def TV{a:Int}(u:a=1\/a= -1):IntKind.i64.wrap (0-a)= -a:=by rcases u with rfl|rfl <;> rfl
def dW(a b:ByteArray)(ha:a.size<=1048576)(hb:b.size<=1048576):PC prog 44 [str a,str b] (int (EV a b)):=by
 have E:=EL a b ha hb;by_cases hr:(bP a&&bP b)=true;rotate_left
 ·rw[show Bo a b=_ from if_neg hr]at E;rw[show EV a b=0 from if_neg hr];refine pcd func44 rfl rfl ?_;simp only[go_sem];refine aN E ?_;simp only[go_sem];refine aA (fun _=>?_) (fun hb=>by cases hb);simp only[go_sem];exact .refl _
 rw[show Bo a b=_ from if_pos hr]at E;rw[show EV a b=_ from if_pos hr];simp only[Xav]at hr;obtain⟨x,rfl,hx,e1,e2⟩:=eL hr.1;obtain⟨y,rfl,hy,e3,e4⟩:=eL hr.2;rw[e1,e2,e3,e4]at E;rw[iM,iM];have xd:((x.den:Int)).natAbs<cE:=by rw[Xbh];exact hx.2
 have yd:((y.den:Int)).natAbs<cE:=by rw[Xbh];exact hy.2
 have x0:=x.den_nz;have y0:=y.den_nz;rw[<-dG,<-dG]at E;refine pcd func44 rfl rfl ?_;simp only[go_sem];refine aN E ?_;simp only[go_sem];refine aA (fun hb=>by cases hb) (fun _=>?_);simp only[go_sem];refine⟨fun ρ _=>∃(p q r s g:Int),ρ 5=str (zed p)/\ρ 6=str (zed q)/\ρ 7=str (zed r)/\ρ 8=str (zed s)/\ρ 10=int g/\(g=1\/g= -1)/\0<q/\0<s/\p.natAbs<cE/\q.natAbs<cE/\r.natAbs<cE/\s.natAbs<cE/\NT x y=g*Fz p q r s,fun ρ _=>Vk (ρ 6),
  ⟨x.num,x.den,y.num,y.den,1,by simp only[go_sem],by simp only[go_sem],by simp only[go_sem],by simp only[go_sem],by simp only[go_sem],.inl rfl,by omega,by omega,hx.1,xd,hy.1,yd,by rw[Int.one_mul,UY]⟩,?_⟩
 rintro ρ H ⟨p,q,r,s,g,h5,M,Z,O,u,hg,hq,hs,bp,bq,br,bs,F⟩;simp only[go_sem,h5,M,Z,O,u];refine aN (A0 (zed p) (zed q) (cX bp) (cX bq)) ?_;rw[BV bp bq hq];simp only[go_sem,h5,M,Z,O,u];refine aN (A0 (zed r) (zed s) (cX br) (cX bs)) ?_;rw[BV br bs hs];simp only[go_sem,h5,M,Z,O,u];have d1:=GL (p:=p) hq;have d2:=GL (p:=r) hs;refine aN (K0 (zed (p.fdiv q)) (zed (r.fdiv s)) (cX (by omega)) (cX (by omega))) ?_;rw[PF];simp only[go_sem,h5,M,Z,O,u];obtain⟨_,m0,m1⟩:=mX (p:=p) hq;obtain⟨_,n0,n1⟩:=mX (p:=r) hs;have c3:=KX (p.fdiv q) (r.fdiv s);refine aA (fun hc=>?_) (fun hc=>?_)
 ·have hc:fV (p.fdiv q) (r.fdiv s)≠0:=by simpa using hc
  simp only[go_sem,u,Vf hg c3];refine cI ?_;rw[F,J3 hq hs (fun e=>hc (nV e))]
 have hc:p.fdiv q=r.fdiv s:=D8.1 (by simpa using hc);have hX:=MX hq hs hc;generalize p.fmod q=m at *;generalize r.fmod s=n at *;simp only[go_sem,h5,M,Z,O,u,A4];refine aA (fun hz=>?_) (fun hz=>?_)
 ·have hz:m=0/\n=0:=by simpa using hz
  simp only[go_sem];refine cI ?_;rw[F,hX,hz.1,hz.2,Int.zero_mul,Int.zero_mul,nV rfl,Int.mul_zero]
 simp only[go_sem,h5,M,Z,O,u,A4];refine aA (fun J=>?_) (fun J=>?_)
 ·have J:m=0:=of_decide_eq_true J;have L:0<n:=by
   rcases Int.lt_or_le 0 n with h|h
   ·exact h
   ·exfalso;have:n=0:=by omega
    rw[J,this]at hz;cases hz
  simp only[go_sem,u,TV hg];refine cI ?_;rw[F,hX,J,Int.zero_mul,gG (Int.mul_pos L hq)];omega
 have J:0<m:=by have:=of_decide_eq_false J;omega
 simp only[go_sem,h5,M,Z,O,u,A4];refine aA (fun L=>?_) (fun L=>?_)
 ·have L:n=0:=of_decide_eq_true L;simp only[go_sem,u];refine cI ?_;rw[F,hX,L,Int.zero_mul,gD (Int.mul_pos J hs)];omega
 have L:0<n:=by have:=of_decide_eq_false L;omega
 simp only[go_sem,h5,M,Z,O,u,TV hg];refine⟨⟨q,m,s,n,-g,rfl,rfl,rfl,rfl,rfl,by omega,J,L,bq,by omega,bs,by omega,?_⟩,?_⟩
 ·rw[F,hX,Nh];rw[Int.mul_neg,Int.neg_mul]
 ·rw[GO,GO];omega
end Nu
end Go.Proofs.YtmhpdppobocokaaGreatDoor
section
namespace Go.Nu
open Go Go.Lib
def cX{m:Int}(u:m.natAbs<cE):(zed m).size<=4097:=by
 have:=(pK m).2 u;unfold dL at this;split at this
 ·rw[<-eE,gN,List.length_drop]at this;rw[<-eE];omega
 ·omega
def NM{x:Rat}(h:vM x):(lI x).size<=8194:=by
 have h1:=cX h.1;have u:=(fJ x.den).2 h.2;unfold lI;split
 ·omega
 ·rw[ByteArray.size_append,ByteArray.size_append];have:slB.size=1:=rfl;omega
def eW{s:ByteArray}(h:bP s=true):s.size<=8194:=by obtain⟨x,rfl,u,_⟩:=eL h;exact NM u
def A5{a b:ByteArray}(h:(Ad a b).2=0):bP (Ad a b).1=true:=by
 unfold Ad at h |-;split at h
 ·rename_i E;rw[if_pos E];obtain⟨e,u⟩:=vC h;rw[e];exact jD u
 ·cases h
def A8{a b:ByteArray}(h:(qO a b).2=0):bP (qO a b).1=true:=by
 unfold qO at h |-;split at h
 ·rename_i E;rw[if_pos E];obtain⟨e,u⟩:=Ge h;rw[e];exact jD u
 ·cases h
def qC:List (Int×ByteArray)->ByteArray->ByteArray×Int
 | [],t=>(t,0)
 | p :: l, t => if (qO (zed p.1) p.2).2 ≠ 0 then (emp, (qO (zed p.1) p.2).2) else
     if(Ad t (qO (zed p.1) p.2).1).2≠0 then(emp,(Ad t (qO (zed p.1) p.2).1).2)else qC l (Ad t (qO (zed p.1) p.2).1).1
def gE(ns:List Int)(xs:List ByteArray):ByteArray×Int:=
 if ns.length≠xs.length then(emp,2)else if xs.any (fun x=> !bP x)=true then(emp,3)else qC (ns.zip xs) (dec 0)
def vL:bP (dec 0)=true:=by have:dec 0=lI 0:=(dG 0).symm.trans (if_pos (show(0:Rat).den=1 from rfl)).symm;rw[this];exact jD ⟨SW,sQ (k:=1) (by decide) (by decide)⟩
end Go.Nu
end
section
namespace Go.Sb
def nQ(a s:Nat){x y:Nat}(F:x<2)(J:y<2):(2*a+x) &&& (2*s+y)=2*(a &&& s)+(if x=1/\y=1 then 1 else 0):=by
 apply Nat.eq_of_testBit_eq;intro i;rw[Nat.testBit_and];cases i with
 | zero=>rw[Nat.testBit_zero,Nat.testBit_zero,Nat.testBit_zero];rcases(by omega:x=0\/x=1)with rfl|rfl <;> rcases(by omega:y=0\/y=1)with rfl|rfl <;> simp
 | succ i=>
  rw[Nat.testBit_succ,Nat.testBit_succ,Nat.testBit_succ,<-Nat.testBit_and]
  congr 1
  have h1:(2*a+x)/2=a:=by omega
  have E:(2*s+y)/2=s:=by omega
  have u:(2*(a &&& s)+(if x=1/\y=1 then 1 else 0))/2=a &&& s:=by split <;> omega
  rw[h1,E,u]
def pop:Nat->Nat->Nat
 | 0,_=>0
 | w+1,s=>s%2+pop w (s/2)
def dep:Nat->Nat->Nat->Nat
 | 0,_,_=>0
 | w+1,s,i=>if s%2=1 then 2*dep w (s/2) (i/2)+i%2 else 2*dep w (s/2) i
def lJ:∀w s i,dep w s i<=s
 | 0,s,i=>Nat.zero_le _
 | w+1,s,i=>by have h1:=lJ w (s/2) (i/2);have u:=lJ w (s/2) i;unfold dep;split <;> omega
def FQ:∀w s i,dep w s i &&& s=dep w s i
 | 0,s,i=>Nat.zero_and _
 | w+1,s,i=>by
  have h1:=FQ w (s/2) (i/2);have E:=FQ w (s/2) i;have u:s=2*(s/2)+s%2:=by omega
  unfold dep;split
  ·next h=>
   have:=nQ (dep w (s/2) (i/2)) (s/2) (x:=i%2) (y:=s%2) (by omega) (by omega);rw[<-u,h1]at this;rw[this,h];rcases(by omega:i%2=0\/i%2=1)with e|e <;> rw[e] <;> simp
  ·next h=>
   have:=nQ (dep w (s/2) i) (s/2) (x:=0) (y:=s%2) (by omega) (by omega);rw[<-u,E]at this;simpa using this
def Fp:∀{w s i:Nat},i<2^pop w s->s%2=1->∀w',w=w'+1->i/2<2^pop w' (s/2):=by intro w s i h u w' E;subst E;rw[pop,u,Nat.add_comm,Nat.pow_succ]at h;omega
def BT{w s i:Nat}(h:i<2^pop (w+1) s)(u:¬s%2=1):i<2^pop w (s/2):=by
 have:s%2=0:=by omega
 rw[pop,this,Nat.zero_add]at h;exact h
def mY:∀w s i k,i<k->k<2^pop w s->dep w s i<dep w s k
 | 0,s,i,k,h,hk=>by simp[pop]at hk;omega
 | w+1,s,i,k,h,hk=>by
  unfold dep;split
  ·next E=>
   have u:=Fp hk E w rfl;rcases(by omega:i/2<k/2\/i/2=k/2)with F|J
   ·have:=mY w (s/2) (i/2) (k/2) F u;omega
   ·rw[J];omega
  ·next E=>
   have:=mY w (s/2) i k h (BT hk E);omega
def ID:∀w a s,a &&& s=a->s<2^w->(a+(2^w-1-s)) &&& s=a
 | 0,a,s,ha,hs=>by
  have:s=0:=by simp at hs;omega
  subst this;simp at ha;subst ha;simp
 | w+1,a,s,ha,hs=>by
  have M:a=2*(a/2)+a%2:=by omega
  have L:s=2*(s/2)+s%2:=by omega
  have u:=nQ (a/2) (s/2) (x:=a%2) (y:=s%2) (by omega) (by omega);rw[<-M,<-L,ha]at u;have F:(a/2) &&& (s/2)=a/2:=by split at u <;> omega
  have J:a%2<=s%2:=by split at u <;> omega
  rw[Nat.pow_succ]at hs |-;have ih:=ID w (a/2) (s/2) F (by omega);have E:a+(2^w*2-1-s)=2*(a/2+(2^w-1-s/2))+(a%2+1-s%2):=by omega
  rw[E,L];have:=nQ (a/2+(2^w-1-s/2)) (s/2) (x:=a%2+1-s%2) (y:=s%2) (by omega) (by omega);rw[show(2*(s/2)+s%2)/2=s/2 by omega,show(2*(s/2)+s%2)%2=s%2 by omega,this,ih];split <;> omega
def BU:∀w s i,s<2^w->i+1<2^pop w s->(dep w s i+2^w-s) &&& s=dep w s (i+1)
 | 0,s,i,_,h=>by simp[pop]at h
 | w+1,s,i,hs,h=>by
  have O:s=2*(s/2)+s%2:=by omega
  rw[Nat.pow_succ]at hs |-;by_cases h1:s%2=1
  ·have J:=Fp h h1 w rfl;have F:=lJ w (s/2) (i/2);rcases(by omega:i%2=0\/i%2=1)with e|e
   ·have E:dep (w+1) s i=2*dep w (s/2) (i/2):=by rw[dep,if_pos h1,e,Nat.add_zero]
    have e2:dep (w+1) s (i+1)=2*dep w (s/2) (i/2)+1:=by rw[dep,if_pos h1,show(i+1)/2=i/2 by omega,show(i+1)%2=1 by omega]
    rw[E,e2];have L:=ID w (dep w (s/2) (i/2)) (s/2) (FQ _ _ _) (by omega);have u:2*dep w (s/2) (i/2)+2^w*2-s=2*(dep w (s/2) (i/2)+(2^w-1-s/2))+1:=by omega
    have:=nQ (dep w (s/2) (i/2)+(2^w-1-s/2)) (s/2) (x:=1) (y:=1) (by omega) (by omega);rw[u];rw[show s=2*(s/2)+1 by omega];rw[show(2*(s/2)+1)/2=s/2 by omega,this,L];simp
   ·have ih:=BU w (s/2) (i/2) (by omega) (by omega);have E:dep (w+1) s i=2*dep w (s/2) (i/2)+1:=by rw[dep,if_pos h1,e]
    have e2:dep (w+1) s (i+1)=2*dep w (s/2) (i/2+1):=by rw[dep,if_pos h1,show(i+1)/2=i/2+1 by omega,show(i+1)%2=0 by omega,Nat.add_zero]
    rw[E,e2];have u:2*dep w (s/2) (i/2)+1+2^w*2-s=2*(dep w (s/2) (i/2)+2^w-s/2)+0:=by omega
    have:=nQ (dep w (s/2) (i/2)+2^w-s/2) (s/2) (x:=0) (y:=1) (by omega) (by omega);rw[u];rw[show s=2*(s/2)+1 by omega];rw[show(2*(s/2)+1)/2=s/2 by omega,this,ih];simp
  ·have M:=BT h h1;have ih:=BU w (s/2) i (by omega) M;have F:=lJ w (s/2) i;have E:dep (w+1) s i=2*dep w (s/2) i:=by rw[dep,if_neg h1]
   have e2:dep (w+1) s (i+1)=2*dep w (s/2) (i+1):=by rw[dep,if_neg h1]
   rw[E,e2];have u:2*dep w (s/2) i+2^w*2-s=2*(dep w (s/2) i+2^w-s/2)+0:=by omega
   have:=nQ (dep w (s/2) i+2^w-s/2) (s/2) (x:=0) (y:=0) (by omega) (by omega);rw[u];rw[show s=2*(s/2)+0 by omega];rw[show(2*(s/2)+0)/2=s/2 by omega,this,ih];simp
def Md:∀w s t,s<2^w->t &&& s=t->∃i,i<2^pop w s/\dep w s i=t
 | 0,s,t,hs,ht=>by
  have:s=0:=by simp at hs;omega
  subst this;simp at ht;exact⟨0,by simp[pop],by simp[dep,ht]⟩
 | w+1,s,t,hs,ht=>by
  have L:t=2*(t/2)+t%2:=by omega
  have M:s=2*(s/2)+s%2:=by omega
  have u:=nQ (t/2) (s/2) (x:=t%2) (y:=s%2) (by omega) (by omega);rw[<-L,<-M,ht]at u;have E:(t/2) &&& (s/2)=t/2:=by split at u <;> omega
  have F:t%2<=s%2:=by split at u <;> omega
  rw[Nat.pow_succ]at hs;obtain⟨i,hi,J⟩:=Md w (s/2) (t/2) (by omega) E;by_cases h1:s%2=1
  ·refine⟨2*i+t%2,by rw[pop,h1,Nat.add_comm 1,Nat.pow_succ];omega,?_⟩;rw[dep,if_pos h1,show(2*i+t%2)/2=i by omega,show(2*i+t%2)%2=t%2 by omega,J];omega
  ·refine⟨i,by rw[pop,show s%2=0 by omega,Nat.zero_add];exact hi,?_⟩;rw[dep,if_neg h1,J];omega
def RJ{w s i k:Nat}(hi:i<2^pop w s)(J:k<2^pop w s)(h:dep w s i=dep w s k):i=k:=by
 rcases Nat.lt_trichotomy i k with E|F|u
 ·have:=mY w s i k E J;omega
 ·exact F
 ·have:=mY w s k i u hi;omega
def GF:∀w s,dep w s 0=0
 | 0,_=>rfl
 | w+1,s=>by rw[dep];split <;> simp[GF w]
def LJ{w s:Nat}(u:s<2^w):dep w s (2^pop w s-1)=s:=by
 obtain⟨i,hi,E⟩:=Md w s s u (Nat.and_self s);rcases(by omega:i<2^pop w s-1\/i=2^pop w s-1)with h|h
 ·have:=mY w s i (2^pop w s-1) h (by omega);have:=lJ w s (2^pop w s-1);omega
 ·rw[<-h];exact E
def GS:∀(k n:Nat),pop (k+1) n=pop k n+(n/2^k)%2
 | 0,n=>by simp[pop]
 | k+1,n=>by rw[pop,GS k (n/2),pop,Nat.div_div_eq_div_mul,show 2*2^k=2^(k+1)by rw[Nat.pow_succ,Nat.mul_comm]];omega
def FG:∀k n:Nat,pop k n<=k
 | 0,_=>Nat.le_refl 0
 | k+1,n=>by have:=FG k (n/2);rw[pop];omega
def vT{k n:Nat}(h:n<2^k):pop (k+1) n=pop k n:=by rw[GS,Nat.div_eq_of_lt h];rfl
def nT(s:Nat):List Nat:=(List.range (2^pop 64 s)).map (dep 64 s)
end Go.Sb
end
namespace Go.Proofs.YtmhpdppobocokaaGreatDoor
open Go.Aw Go.Aw.D Go.Proofs Ty
namespace Nu
open Go.Nu
def C9{P:Program}{G:_}{t:TypeId}{a b:ByteArray}{k:AV->Prop}:eX P G .lss t (.v (.string a)) (.v (.string b)) k=k (.v (.bool (Op.bytesLess a.toList b.toList))):=(rfl)
attribute [go_sem ↓] C9
attribute [go_sem] C9
end Nu
namespace Nu
open Go.Proofs.Tryz
open Go.Nu
def qT{α:Type}{l:List α}{k:Nat}{x:α}(h:l[k]?=some x):l.drop k=x::l.drop (k+1):=by obtain⟨u,e⟩:=List.getElem?_eq_some_iff.1 h;rw[List.drop_eq_getElem_cons u,e]
def BX(ns:List Int)(xs:List ByteArray)(hn:∀n∈ns,-9223372036854775808<=n/\n<=9223372036854775807)(hl:xs.length<=1048576)(hs:∀s∈xs,s.size<=1048576):
  PC prog 82 [.sl (ns.map aP),.sl (xs.map Go.Aw.D.cQ)] (.tup [str (gE ns xs).1,int (gE ns xs).2]):=by
 refine pcd func82 rfl rfl ?_;simp only[go_sem];refine aA (fun af=>?_) (fun ag=>?_)
 ·have af:ns.length≠xs.length:=neN af;simp only[go_sem];rw[show gE ns xs=(emp,2)from if_pos af];exact .refl _
 have ag:ns.length=xs.length:=eqN ag;have e0:gE ns xs=if xs.any (fun x=> !bP x)=true then(emp,3)else qC (ns.zip xs) (dec 0):=if_neg (by simp[ag])
 rw[e0];simp only[go_sem,Xaa];refine⟨fun ρ H=>∃(k:Nat),k<=xs.length/\ρ 0=.sl (ns.map aP)/\ρ 1=.sl (xs.map Go.Aw.D.cQ)/\ρ 18=.sl (xs.map Go.Aw.D.cQ)/\ρ 19=int xs.length/\ρ 20=int k/\∀s∈xs.take k,bP s=true,fun ρ _=>xs.length-aW (ρ 20),
  ⟨0,Xab _,by simp only[go_sem],by simp only[go_sem],by simp only[go_sem],by simp only[go_sem,Xaa],by simp only[go_sem];rfl,by simp⟩,?_⟩
 rintro ρ H ⟨k,hk,h0,h1,ac,aa,ab,hz⟩;simp only[go_sem,h0,h1,ac,aa,ab];refine aA (fun u=>?_) (fun O=>?_)
 ·have u:=ltB u;obtain⟨s,F⟩:=bG u;have b1:=inB u;simp only[go_sem,h0,h1,ac,aa,ab,aJ F,b1];refine aN (sJ s (hs s (Xaf F))) ?_;simp only[go_sem,h0,h1,ac,aa,ab];refine aA (fun Z=>?_) (fun Z=>?_)
  ·simp only[go_sem];rw[if_pos (Az F Z)];exact .refl _
  ·simp only[go_sem,h0,h1,ac,aa,ab,aY k];exact⟨⟨k+1,u,rfl,fU F (by simpa using Z) hz⟩,by simp only[aF];omega⟩
 have O:=geB hk O;subst O;rw[Xai]at hz;have hR:xs.any (fun s=> !bP s)=false:=wP fun s hs=>by rw[hz s hs];rfl
 rw[hR];simp only[go_sem,h0,h1,Xaa];refine⟨fun ρ H=>∃(k:Nat) (t:ByteArray),k<=xs.length/\ρ 0=.sl (ns.map aP)/\ρ 28=.sl (xs.map Go.Aw.D.cQ)/\ρ 29=int xs.length/\ρ 8=str t/\ρ 30=int k/\t.size<=1048576/\qC (ns.zip xs) (dec 0)=qC ((ns.zip xs).drop k) t,fun ρ _=>xs.length-aW (ρ 30),
  ⟨0,dec 0,Xab _,by simp only[go_sem,h0],by simp only[go_sem],by simp only[go_sem,Xaa],by simp only[go_sem];rw[tC],by simp only[go_sem];rfl,by rw[<-tC];decide,rfl⟩,?_⟩
 clear h0 h1 ac aa ab;rintro ρ H ⟨k,t,hk,h0,J,M,h8,L,ht,ai⟩;rw[ai];have an:(ns.zip xs).length=xs.length:=by rw[List.length_zip];omega
 simp only[go_sem,h0,J,M,h8,L];refine aA (fun u=>?_) (fun O=>?_)
 ·have u:=ltB u;obtain⟨s,F⟩:=bG u;obtain⟨n,ae⟩:=bG (l:=ns) (k:=k) (by omega);have b1:=inB u;have b2:=inB (show k<ns.length by omega);have al:=hs s (Xaf F);have ah:=hn n (Xaf ae);have aj:(ns.zip xs)[k]?=some (n,s):=by rw[List.getElem?_zip_eq_some];exact⟨ae,F⟩
  have ak:n.natAbs<cE:=sQ (k:=20) (by omega) (by decide);have am:=Go.Nu.cX ak;rw[qT aj,qC];simp only[go_sem,h0,J,M,h8,L,aJ F,aJ ae,b1,b2];refine aN (jT n ah.1 ah.2) ?_;simp only[go_sem,h0,J,M,h8,L];refine aN (jM (zed n) s (by omega) al) ?_;simp only[go_sem,h0,J,M,h8,L];refine aA (fun Z=>?_) (fun Z=>?_)
  ·have Z:(qO (zed n) s).2≠0:=by simpa using Z
   simp only[go_sem];rw[if_pos Z];exact .refl _
  have Z:(qO (zed n) s).2=0:=by simpa using Z
  have hm:=eW (A8 Z);rw[if_neg (by simp[Z])];generalize (qO (zed n) s).1=m at *;simp only[go_sem,h0,J,M,h8,L];refine aN (UV t m ht (by omega)) ?_;simp only[go_sem,h0,J,M,h8,L];refine aA (fun E=>?_) (fun E=>?_)
  ·have E:(Ad t m).2≠0:=by simpa using E
   simp only[go_sem];rw[if_pos E];exact .refl _
  have E:(Ad t m).2=0:=by simpa using E
  have ha:=eW (A5 E);rw[if_neg (by simp[E])];simp only[go_sem,h0,J,M,h8,L,aY k];exact⟨⟨k+1,_,u,rfl,rfl,by omega,rfl⟩,by simp only[aF];omega⟩
 ·have O:=geB hk O;subst O;rw[List.drop_of_length_le (by omega)];simp only[go_sem,h8];exact .refl _
end Nu
namespace Nu
open Go.Nu
end Nu
end Go.Proofs.YtmhpdppobocokaaGreatDoor
