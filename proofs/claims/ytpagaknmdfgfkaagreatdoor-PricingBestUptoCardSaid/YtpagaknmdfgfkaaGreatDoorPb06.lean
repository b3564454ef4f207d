import Derived.Test.YtpagaknmdfgfkaaGreatDoorPb05
set_option linter.unusedSimpArgs false
set_option linter.unusedVariables false
set_option linter.defProp false
set_option maxRecDepth 100000
namespace Go.Proofs.YtpagaknmdfgfkaaGreatDoor
open Go.Aw Go.Aw.D Go.Proofs Ty
namespace Nu
open Go.Proofs.Tryz
open Go.Nu
def Fb:∀{l r:List UInt8},l.all isD=true->r.all isD=true->l.length=r.length->Lib.compareBytes l r=hU (iJ l) (iJ r)
 | [],[],_,_,_=>by rw[qS rfl];rfl
 | [],_::_,_,_,h=>by simp at h
 | _::_,[],_,_,h=>by simp at h
 | a::l,b::r,hl,hr,h=>by
  simp only[List.all_cons,Xai]at hl hr;simp only[Xah,Nat.add_right_cancel_iff]at h;have ih:=Fb hl.2 hr.2 h;have O:iJ (a::l)=(a.toNat-48)*10^l.length+iJ l:=by have:=xN [a] l;simpa[iJ]using this
  have J:iJ (b::r)=(b.toNat-48)*10^r.length+iJ r:=by have:=xN [b] r;simpa[iJ]using this
  have h1:=HB hl.2;have Z:=HB hr.2;have da:=nI.1 hl.1;have db:=nI.1 hr.1;rw[Lib.compareBytes,O,J,<-h]at *;have F:a<b↔a.toNat<b.toNat:=UInt8.lt_iff_toNat_lt;have I:b<a↔b.toNat<a.toNat:=UInt8.lt_iff_toNat_lt;split
  ·rename_i E;rw[F]at E;have:(a.toNat-48+1)*10^l.length<=(b.toNat-48)*10^l.length:=Xcy _ (by omega);rw[Nat.add_mul]at this;rw[jD (by omega)]
  ·split
   ·rename_i E;rw[I]at E;have:(b.toNat-48+1)*10^l.length<=(a.toNat-48)*10^l.length:=Xcy _ (by omega);rw[Nat.add_mul]at this;rw[jF (by omega)]
   ·rename_i V U;rw[F]at V;rw[I]at U;have:a.toNat=b.toNat:=by omega
    rw[ih,this];generalize (b.toNat-48)*10^l.length=p;unfold hU;have X:(((p+iJ l:Nat):Int)<((p+iJ r:Nat):Int))↔((iJ l:Nat):Int)<((iJ r:Nat):Int):=by omega
    have Y:(((p+iJ r:Nat):Int)<((p+iJ l:Nat):Int))↔((iJ r:Nat):Int)<((iJ l:Nat):Int):=by omega
    simp only[X,Y]
def JL(m n:Nat):PC prog 138 [str (dec m),str (dec n)] (int (hU m n)):=by
 have I:=jM m;have J:=jM n;have E:∀{p q:Nat},(Lib.decDigits p).length<(Lib.decDigits q).length->p<q:=fun {p q} h=>by
  have h1:=(lE (n:=p) (k:=(Lib.decDigits p).length) (iR p)).1 (Xaf _);rcases Xav p q with F|F
  ·exact F
  ·have:=(lE (n:=q) (k:=(Lib.decDigits p).length) (iR p)).2 (by omega);omega
 refine pcd func138 rfl rfl ?_;simp only[go_sem];apply aA <;> intro h
 ·have h:(dec m).size≠(dec n).size:=neN h;simp only[go_sem];apply aA <;> intro F
  ·have F:=ltB F;simp only[go_sem];have:=E (p:=m) (q:=n) (by omega);exact cI (by rw[jD (by omega)])
  ·have F:¬(dec m).size<(dec n).size:=by have:=of_decide_eq_false F;omega
   simp only[go_sem];have:=E (p:=n) (q:=m) (by omega);exact cI (by rw[jF (by omega)])
 ·have h:(dec m).size=(dec n).size:=eqN h;simp only[go_sem];refine aG (Ui (dec m) (dec n)) ?_;simp only[go_sem];refine cI ?_;rw[iT,iT,Fb (wY m) (wY n) (by omega),qP,qP]
def D0(a b:ByteArray)(F:eA a=true)(E:eA b=true):PC prog 138 [str a,str b] (int (hU (fG a) (fG b))):=by
 have:=JL (fG a) (fG b)
 rwa [jO F,jO E]at this
def FI{s:ByteArray}(h:fH s=true):eA (eM s)=true:=by unfold fH at h;simp only[Xai]at h;exact h.1
def UG(a b:ByteArray)(X:a.size<=1048576)(V:b.size<=1048576):PC prog 78 [str a,str b] (int (PB a b)):=by
 refine pcd func78 rfl rfl ?_;simp only[go_sem];refine aG (EN a X) ?_;simp only[go_sem];refine aG (EN b V) ?_;simp only[go_sem];apply aA <;> intro h
 ·simp only[go_sem];refine cI ?_;unfold PB;rw[if_neg];rintro⟨h1,E⟩;rw[h1,E]at h;cases h
 have O:fH a=true/\fH b=true:=by simpa using h
 have ra:=FI O.1;have rb:=FI O.2;have I:∀{s:ByteArray},fH s=true->fU s=true->0<fG (eM s):=fun {s} h1 E=>by
  have F:=h1;unfold fH at F;simp only[E,Xbc,Xai,Xay,nY]at F;rcases Xcu (fG (eM s))with h0|h0
  ·have:=jO F.1;rw[h0]at this;exact absurd this.symm F.2
  ·exact h0
 have Z:PB a b=hU (gG a) (gG b):=if_pos O;rw[Z];unfold gG;simp only[go_sem];apply aA <;> intro E
 ·have E:fU a=true/\fU b=true:=by simpa using E
  simp only[go_sem];refine aG (D0 _ _ rb ra) ?_;simp only[go_sem];refine cI ?_;rw[if_pos E.1,if_pos E.2];unfold hU;have Y:(((fG (eM b):Nat):Int)<((fG (eM a):Nat):Int))↔(-((fG (eM a):Nat):Int)< -((fG (eM b):Nat):Int)):=by omega
  have U:(((fG (eM a):Nat):Int)<((fG (eM b):Nat):Int))↔(-((fG (eM b):Nat):Int)< -((fG (eM a):Nat):Int)):=by omega
  simp only[Y,U]
 ·simp only[go_sem];apply aA <;> intro F
  ·have J:fU b=false:=by rw[F]at E;simpa using E
   have:=I O.1 F;simp only[go_sem];refine cI ?_;rw[if_pos F,if_neg (by rw[J];simp),jD (by omega)]
  ·simp only[go_sem];apply aA <;> intro J
   ·have:=I O.2 J;simp only[go_sem];refine cI ?_;rw[if_neg (by rw[F];simp),if_pos J,jF (by omega)]
   ·simp only[go_sem];refine aG (D0 _ _ ra rb) ?_;simp only[go_sem];refine cI ?_;rw[if_neg (by rw[F];simp),if_neg (by rw[J];simp)]
def lT(m:Bool)(n:Nat):List AV:=[boo m,str (dec n)]
def EY(m:Bool)(n:Nat):(lT m n).length=2:=(rfl)
def apX(m:Bool)(n:Nat):(lT m n).getD 0 .any=boo m:=(rfl)
def alP(m:Bool)(n:Nat):(lT m n).getD 1 .any=str (dec n):=(rfl)
def aaJ(m:Bool)(n:Nat):(lT m n).take 2=lT m n:=(rfl)
attribute [go_sem] EY apX alP aaJ
def QB{m n:Nat}(E:m<dA)(F:n<dA):TH (dec m) (dec n)=szN (m+n):=by unfold TH;rw[if_pos (yQ E F),cE,cE]
def SS{m n:Nat}(F:m<dA)(E:n<dA)(h:n<=m):Vn (dec m) (dec n)=szN (m-n):=by unfold Vn;rw[if_pos (yQ F E),cE,cE,if_neg (by omega)]
def dY{m:Nat}(E:m<dA):(dec m).size<=1048576:=by have:=(iX m).2 E;omega
def aqQ(a b:Bool)(m n:Nat)(Z:m<dA)(hn:n<dA):PC prog 193 [.agg (lT a m),.agg (lT b n)] (.tup [str (szZ (sg a m+sg b n)).1,int (szZ (sg a m+sg b n)).2]):=by
 refine pcb (fun t=>t == 2||t == 3) func193 rfl rfl ?_;simp only[go_sem];refine aL fun i hi=>?_
 simp only[go_sem];refine aL fun j hj=>?_
 have I:=aB bQ i (some ⟨194,2,[lT a m]⟩);have J:i≠j:=bE I hj;have F:=aB (aM bQ i (some ⟨194,2,[lT a m]⟩)) j (some ⟨194,2,[lT b n]⟩);have E:(aM (aM bQ i (some ⟨194,2,[lT a m]⟩)) j (some ⟨194,2,[lT b n]⟩)) i=some ⟨194,2,[lT a m]⟩:=by rw[aJ _ _ _ _ J];exact I
 generalize aM (aM bQ i _) j _=H1 at *;simp only[go_sem,E,F];apply aA <;> intro h
 ·have U:a=b:=by simpa using h
  subst U;simp only[go_sem,E,F];refine aG (aeC (dec m) (dec n) (dY Z) (dY hn)) ?_;rw[QB Z hn];simp only[go_sem,E];refine aG (Iz a (m+n)) ?_;simp only[go_sem];have e:sg a (m+n)=sg a m+sg a n:=by unfold sg;split <;> omega
  rw[e];exact .refl _
 have U:b= !a:=by cases a <;> cases b <;> simp_all
 subst U;simp only[go_sem,E,F];refine aG (JL m n) ?_;simp only[go_sem];refine bK (fun X H'=>∃(Y b':Bool) (p q:Nat),p<dA/\q<dA/\q<=p/\sg Y (p-q)=sg a m+sg (!a) n/\X 2=.op i 0 0/\X 3=.op j 0 0/\H' i=some (⟨194,2,[lT Y p]⟩:Row)/\H' j=some (⟨194,2,[lT b' q]⟩:Row)) ?_ fun K hK=>aA (fun O=>?_) (fun O=>?_)
 rotate_left
 ·have ad : m < n := by
   rcases Xav m n with h|h
   ·exact h
   ·exfalso;have O:=of_decide_eq_true O;unfold hU at O;rw[if_neg (by omega)]at O;split at O <;> omega
  simp only[go_sem,E,F];refine aI E (by simp[EY]) ?_;generalize V:aM H1 i _=HP;have I:HP i=some (⟨194,2,[lT (!a) n]⟩:Row):=by rw[<-V,aB];rfl
  have ac:HP j=some (⟨194,2,[lT (!a) n]⟩:Row):=by rw[<-V,aJ _ _ _ _ (Ne.symm J)];exact F
  simp only[go_sem];refine aI ac (by simp[EY]) ?_;generalize V:aM HP j _=HQ;have S3:HQ j=some (⟨194,2,[lT a m]⟩:Row):=by rw[<-V,aB];rfl
  have S2:HQ i=some (⟨194,2,[lT (!a) n]⟩:Row):=by rw[<-V,aJ _ _ _ _ J];exact I
  simp only[go_sem];refine hK _ _ ⟨!a,a,n,m,hn,Z,by omega,?_,rfl,rfl,S2,S3⟩;unfold sg;cases a <;> simp <;> omega
 ·have aa : n <= m := by
   rcases Xav m n with h|h
   ·exact absurd (by rw[jD (by omega)];decide) (of_decide_eq_false O)
   ·exact h
  simp only[go_sem];refine hK _ _ ⟨a,!a,m,n,Z,hn,aa,?_,rfl,rfl,E,F⟩;unfold sg;cases a <;> simp <;> omega
 rintro ρ H ⟨Y,b',p,q,hp,hq,ab,hv,h2,h3,I,F⟩;simp only[go_sem,h2,h3,I,F];refine aG (ahC (dec p) (dec q) (dY hp) (dY hq)) ?_;rw[SS hp hq ab];simp only[go_sem,h2,I];refine aG (Iz Y (p-q)) ?_;simp only[go_sem];rw[hv];exact .refl _
def PP(a b:ByteArray):K0 [a,b]=kL a b:=by unfold K0 kL ahP;simp only[List.any_cons,List.any_nil,Bool.or_false]
def ajN(n:Int):G3 (zed n)=lT (decide (n<0)) n.natAbs:=by unfold G3 lT;rw[sE,jP]
def FJ(n:Int):sg (decide (n<0)) n.natAbs=n:=by
 unfold sg;by_cases h:n<0
 ·simp[h];omega
 ·simp[h];omega
def NH{m n:Int}(h:kL (zed m) (zed n)=0):zL [zed m,zed n]=[lT (decide (m<0)) m.natAbs,lT (decide (n<0)) n.natAbs]:=by unfold zL;rw[PP,if_pos h];simp only[Xbf,Xbv,ajN]
def DM(a b:ByteArray)(F:a.size<=1048576)(E:b.size<=1048576):PC prog 133 [.sl [[str a],[str b]]] (.tup [.sl (zL [a,b]),int (kL a b)]):=by
 have:=anP [a,b] (by simp) (by simp[F,E])
 rwa [PP]at this
def auQ(a b:ByteArray)(J:a.size<=1048576)(F:b.size<=1048576):PC prog 192 [str a,str b] (.tup [str (KK a b).1,int (KK a b).2]):=by
 refine pcd func192 rfl rfl ?_;simp only[go_sem];refine aG (DM a b J F) ?_;simp only[go_sem];apply aA <;> intro h
 ·have h:kL a b≠0:=by simpa using h
  simp only[go_sem];rw[show KK a b=(emp,kL a b)from if_neg h];exact .refl _
 have h:kL a b=0:=by simpa using h
 have e:KK a b=szZ (gG a+gG b):=if_pos h;rw[e];obtain⟨m,n,rfl,rfl,E,I⟩:=qK h;rw[cL,cL,NH h];simp only[go_sem];refine dR ?_;simp only[go_sem,Xah,List.length_nil]
 repeat (refine⟨by first|decide|omega,?_⟩)
 refine⟨_,(aqQ _ _ _ _ E I).q rfl,?_⟩;simp only[go_sem];rw[FJ,FJ];exact .refl _
def aqY(a b:ByteArray)(O:a.size<=1048576)(I:b.size<=1048576):PC prog 131 [str a,str b] (.tup [str (ZV a b).1,int (ZV a b).2]):=by
 refine pcd func131 rfl rfl ?_;simp only[go_sem];refine aG (DM a b O I) ?_;simp only[go_sem];apply aA <;> intro h
 ·have h:kL a b≠0:=by simpa using h
  simp only[go_sem];rw[show ZV a b=(emp,kL a b)from if_neg h];exact .refl _
 have h:kL a b=0:=by simpa using h
 have e:ZV a b=szZ (gG a-gG b):=if_pos h;rw[e];obtain⟨m,n,rfl,rfl,F,J⟩:=qK h;rw[cL,cL,NH h];simp only[go_sem];refine dR ?_;simp only[go_sem,Xah,List.length_nil]
 repeat (refine⟨by first|decide|omega,?_⟩)
 have E:sg (!decide (n<0)) n.natAbs= -n:=by
  unfold sg;by_cases h:n<0
  ·simp[h];omega
  ·simp[h];omega
 refine⟨_,(aqQ _ (!decide (n<0)) _ _ F J).q rfl,?_⟩;simp only[go_sem];rw[FJ,E,Int.sub_eq_add_neg];exact .refl _
def afF{m n:Nat}(E:m<dA)(F:n<dA):TX (dec m) (dec n)=szN (m*n):=by unfold TX;rw[if_pos (yQ E F),cE,cE]
def arQ(a b:ByteArray)(O:a.size<=1048576)(J:b.size<=1048576):PC prog 232 [str a,str b] (.tup [str (xV a b).1,int (xV a b).2]):=by
 refine pcd func232 rfl rfl ?_;simp only[go_sem];refine aG (DM a b O J) ?_;simp only[go_sem];apply aA <;> intro h
 ·have h:kL a b≠0:=by simpa using h
  simp only[go_sem];rw[show xV a b=(emp,kL a b)from if_neg h];exact .refl _
 have h:kL a b=0:=by simpa using h
 have e:xV a b=szZ (gG a*gG b):=if_pos h;rw[e];obtain⟨m,n,rfl,rfl,F,I⟩:=qK h;rw[cL,cL,NH h];simp only[go_sem];refine dR ?_;simp only[go_sem,Xah,List.length_nil]
 repeat (refine⟨by first|decide|omega,?_⟩)
 refine⟨_,(atZ (dec m.natAbs) (dec n.natAbs) (dY F) (dY I)).q rfl,?_⟩;rw[afF F I];simp only[go_sem];refine dR ?_;simp only[go_sem,Xah,List.length_nil]
 repeat (refine⟨by first|decide|omega,?_⟩)
 refine⟨_,(Iz _ (m.natAbs*n.natAbs)).q rfl,?_⟩;simp only[go_sem];have U:sg (!(decide (m<0) == decide (n<0))) (m.natAbs*n.natAbs)=m*n:=by
  unfold sg;rw[Int.natCast_mul];by_cases h1:m<0 <;> by_cases E:n<0
  ·simp only[h1,E,decide_true,beq_self_eq_true,Xcb,Xaz,if_false];rw[Xcn (by omega),Xcn (by omega),Int.neg_mul_neg]
  ·simp only[h1,E,decide_true,decide_false];rw[if_pos (show(!(true == false))=true from rfl),Xcn (by omega),Xco (by omega),Int.neg_mul,Int.neg_neg]
  ·simp only[h1,E,decide_true,decide_false];rw[if_pos (show(!(false == true))=true from rfl),Xcn (a:=n) (by omega),Xco (by omega),Int.mul_neg,Int.neg_neg]
  ·simp only[h1,E,decide_false,beq_self_eq_true,Xcb,Xaz,if_false];rw[Xco (by omega),Xco (by omega)]
 rw[U];exact .refl _
def Dq{P:Program}{C:mL}{PC:FuncId->List AV->aH->AV->Prop}{mt:Nat->Bool}{ops:Array Oper}{K:Env->aH->Prop}{m:Nat}{ρ:Env}{H:aH}(J:Env->aH->Prop)(h1:∀ρ H,J ρ H->K ρ H)
 (E:∀K':Env->aH->Prop,(∀ρ H,J ρ H->K' ρ H)->wA P C PC mt ops K' m ρ H):wA P C PC mt ops K m ρ H:=E K h1
abbrev FL(A:List AV):Row:=⟨194,2,[A]⟩
abbrev zN:Row:=FL [.v (.bool false),.v (.string ByteArray.empty)]
def DU{A:List AV}(h:A.length=2):(⟨194,2,[List.take 2 A++List.drop (List.take 2 A).length [AV.v (.bool false),AV.v (.string ByteArray.empty)]]⟩:Row)=FL A:=by rw[Xan (by omega),h];simp
def Ga{m n:Int}(U:n≠0)(I:decide (m<0)≠decide (n<0))(V:m.natAbs%n.natAbs≠0):
  m.fdiv n= -((m.natAbs/n.natAbs+1:Nat):Int)/\m.fmod n=sg (decide (n<0)) (n.natAbs-m.natAbs%n.natAbs):=by
 have e:=Nat.mod_add_div m.natAbs n.natAbs;have O:=Xbx m.natAbs (show 0<n.natAbs by omega);generalize m.natAbs/n.natAbs=q at *;generalize m.natAbs%n.natAbs=r at *;have F:(r:Int)+(n.natAbs:Int)*(q:Int)=(m.natAbs:Int):=by rw[<-Int.natCast_mul,<-Int.natCast_add,e]
 unfold sg;rcases Int.lt_or_gt_of_ne U with h|h
 ·have J:¬m<0:=fun E=>I (by simp[h,E])
  rw[Xcn (a:=n) (by omega),Xco (a:=m) (by omega)]at F;refine(Int.fdiv_fmod_unique' h).2 ⟨?_,?_,?_⟩
  ·rw[if_pos (by simpa using h)];have:(n* -((q+1:Nat):Int))= -n*q-n:=by grind
   rw[this];omega
  ·rw[if_pos (by simpa using h)];omega
  ·rw[if_pos (by simpa using h)];omega
 ·have J : m < 0 := by
   rcases Xcc m 0 with E|E
   ·exact E
   ·exact absurd (by simp;omega) I
  rw[Xco (a:=n) (by omega),Xcn (a:=m) (by omega)]at F;refine(Int.fdiv_fmod_unique h).2 ⟨?_,?_,?_⟩
  ·rw[if_neg (by simp;omega)];have:(n* -((q+1:Nat):Int))= -(n*q)-n:=by grind
   rw[this];omega
  ·rw[if_neg (by simp;omega)];omega
  ·rw[if_neg (by simp;omega)];omega
def MB{m n:Int}(O:n≠0)(h0:decide (m<0)=decide (n<0)\/m.natAbs%n.natAbs=0):
  m.fdiv n=sg (!(decide (m<0) == decide (n<0))) (m.natAbs/n.natAbs)/\m.fmod n=sg (decide (n<0)) (m.natAbs%n.natAbs):=by
 have e:=Nat.mod_add_div m.natAbs n.natAbs;have J:=Xbx m.natAbs (show 0<n.natAbs by omega);generalize m.natAbs/n.natAbs=q at *;generalize m.natAbs%n.natAbs=r at *;have I:(r:Int)+(n.natAbs:Int)*(q:Int)=(m.natAbs:Int):=by rw[<-Int.natCast_mul,<-Int.natCast_add,e]
 unfold sg;rcases Int.lt_or_gt_of_ne O with h|h
 ·rw[Xcn (a:=n) (by omega)]at I;refine(Int.fdiv_fmod_unique' h).2 ?_;by_cases E:m<0
  ·rw[Xcn (a:=m) (by omega)]at I;simp only[h,E,decide_true,beq_self_eq_true,Xcb,Xaz,if_false,if_true];have:n*(q:Int)= -(-n*q):=by grind
   exact⟨by rw[this];omega,by omega,by omega⟩
  ·rw[Xco (a:=m) (by omega)]at I;have U:r=0:=by
    rcases h0 with h0|h0
    ·simp[h,E]at h0
    ·exact h0
   simp only[h,E,decide_true,decide_false,show(!(false == true))=true from rfl,if_true];have:n* -(q:Int)= -n*q:=by grind
   exact⟨by rw[this];omega,by omega,by omega⟩
 ·rw[Xco (a:=n) (by omega)]at I;refine(Int.fdiv_fmod_unique h).2 ?_;have F:¬n<0:=by omega
  by_cases E:m<0
  ·rw[Xcn (a:=m) (by omega)]at I;have U:r=0:=by
    rcases h0 with h0|h0
    ·simp[F,E]at h0
    ·exact h0
   simp only[F,E,decide_true,decide_false,show(!(true == false))=true from rfl,if_true,Xaz,if_false];have:n* -(q:Int)= -(n*q):=by grind
   exact⟨by rw[this];omega,by omega,by omega⟩
  ·rw[Xco (a:=m) (by omega)]at I;simp only[F,E,decide_false,beq_self_eq_true,Xcb,Xaz,if_false];exact⟨by omega,by omega,by omega⟩
def QD{m n:Nat}(F:m<dA)(E:n<dA)(h:n≠0):ES (dec m) (dec n)=(dec (m/n),dec (m%n),0):=by unfold ES;rw[if_pos (yQ F E),cE,cE,if_neg h]
def Pb(a b:ByteArray)(ha:a.size<=1048576)(E:b.size<=1048576):PC prog 77 [str a,str b] (.tup [str (wL a b).1,str (wL a b).2.1,int (wL a b).2.2]):=by
 refine pcd func77 rfl rfl ?_;simp only[go_sem];refine aG (DM a b ha E) ?_;simp only[go_sem];apply aA <;> intro h
 ·have h:kL a b≠0:=by simpa using h
  simp only[go_sem];rw[show wL a b=(emp,emp,kL a b)from if_neg h];exact .refl _
 have h:kL a b=0:=by simpa using h
 obtain⟨m,n,rfl,rfl,Z,hn⟩:=qK h;have e:wL (zed m) (zed n)=if n=0 then(emp,emp,10)else(zed (m.fdiv n),zed (m.fmod n),0):=by unfold wL;rw[if_pos h,cL,cL]
 rw[e,NH h];simp only[go_sem];obtain⟨A,hA⟩:∃A,lT (decide (m<0)) m.natAbs=A:=⟨_,rfl⟩;obtain⟨B,hB⟩:∃B,lT (decide (n<0)) n.natAbs=B:=⟨_,rfl⟩;have X:A.length=2:=by rw[<-hA];rfl
 have V:B.length=2:=by rw[<-hB];rfl
 refine Dq (fun I H'=>∃i j,I 9=.op i 0 0/\I 10=.op j 0 0/\H' i=some (FL A)/\H' j=some (FL B)) ?_ fun K hK=>?_
 rotate_left
 ·refine HE [] (.q 0 (.q 1 (.q 2 (.q 3 (.q 4 (.q 5 (.a2 6 (.a1 7 (.a1 8 (.a1 9 .nil))) 7 (.a1 6 (.a1 8 (.a1 9 .nil)))))))))) (by simp) (by kernel_rfl) fun Hp Hr _ hq _ _=>?_
  simp only[go_sem,Xah,List.length_nil,hA,hB]
  repeat (refine⟨by first|decide|omega,?_⟩)
  refine yM ?_ ?_
  ·simp only[go_sem];refine aL fun i hi=>?_
   simp only[go_sem];refine aL fun j hj=>?_
   have R:=aB Hr i (some (zN));have O:=bE R hj;have U:=eY (r':=zN) R hj;have J:=aB (aM Hr i (some (zN))) j (some (zN));simp only[go_sem];refine aI (r:=zN) U (by simp[X]) ?_;simp only[go_sem];refine aI (r:=zN) (by rw[aJ _ _ _ _ O.symm];exact J) (by simp[V]) ?_;simp only[go_sem];refine jK fun _ Hm _ Z=>hK _ _ ⟨i,j,rfl,rfl,?_,?_⟩
   ·rw[Z i (by simp),aJ _ _ _ _ O,aB];exact congrArg some (DU X)
   ·rw[Z j (by simp),aB];exact congrArg some (DU V)
  ·simp only[go_sem];refine aL fun j hj=>?_
   simp only[go_sem];refine aL fun i hi=>?_
   have R:=aB Hr j (some (zN));have O:=(bE R hi).symm;have J:=eY (r':=zN) R hi;have U:=aB (aM Hr j (some (zN))) i (some (zN));simp only[go_sem];refine aI (r:=zN) U (by simp[X]) ?_;simp only[go_sem];refine aI (r:=zN) (by rw[aJ _ _ _ _ O.symm];exact J) (by simp[V]) ?_;simp only[go_sem];refine jK fun _ Hm _ Z=>hK _ _ ⟨i,j,rfl,rfl,?_,?_⟩
   ·rw[Z i (by simp),aJ _ _ _ _ O,aB];exact congrArg some (DU X)
   ·rw[Z j (by simp),aB];exact congrArg some (DU V)
 rintro ρ H ⟨i,j,h9,F,U,J⟩;subst hA hB;simp only[go_sem,F,J,oO];apply aA <;> intro ac
 ·have h0 : n = 0 := by have:=sV.1 (lR.1 ac);omega
  simp only[go_sem];rw[if_pos h0];exact .refl _
 have h0:n≠0:=fun e=>by subst e;exact nY.1 ac rfl
 have ag:n.natAbs≠0:=by omega
 rw[if_neg h0];simp only[go_sem,h9,F,U,J];refine aG (atS (dec m.natAbs) (dec n.natAbs) (dY Z) (dY hn)) ?_;rw[QD Z hn ag];simp only[go_sem];refine aA (fun E=>by cases E) (fun _=>?_);simp only[go_sem,h9,F,U,J,oO];have ai:=Nat.mod_add_div m.natAbs n.natAbs;have ah:=Xbx m.natAbs (show 0<n.natAbs by omega);refine bK (fun I H'=>∃q r:Nat,I 9=.op i 0 0/\I 10=.op j 0 0/\H' i=some (FL (lT (decide (m<0)) m.natAbs))/\H' j=some (FL (lT (decide (n<0)) n.natAbs))/\I 11=str (dec q)/\I 12=str (dec r)/\q<dA/\r<dA/\sg (!(decide (m<0) == decide (n<0))) q=m.fdiv n/\sg (decide (n<0)) r=m.fmod n) ?_ fun K hK=>aA (fun E=>?_) (fun E=>?_)
 rotate_left
 ·have E : decide (m < 0) ≠ decide (n < 0) /\ m.natAbs % n.natAbs ≠ 0 := by simp only[Xai,Xay,beq_eq_false_iff_ne,ne_eq,nY]at E;exact⟨E.1,fun e=>E.2 (by rw[e])⟩
  obtain⟨f1,f2⟩:=Ga h0 E.1 E.2;have aa:m.natAbs/n.natAbs+1<dA:=by
   have h2:2<=n.natAbs:=by omega
   have h3:2*(m.natAbs/n.natAbs)<=n.natAbs*(m.natAbs/n.natAbs):=Xcy _ h2;omega
  have Y:m.natAbs/n.natAbs<dA:=by omega
  have ad:(1:Nat)<dA:=Nat.lt_of_le_of_lt (Nat.le_add_left 1 _) aa;have ab:m.natAbs%n.natAbs<dA:=by omega
  generalize hQ:m.natAbs/n.natAbs=q at *;generalize hR:m.natAbs%n.natAbs=r at *;simp only[go_sem];rw[DI];refine aG (aeC (dec q) (dec 1) (dY Y) (dY ad)) ?_;rw[QB Y ad,AD aa];simp only[go_sem];refine aA (fun E=>by cases E) (fun _=>?_);simp only[go_sem,F,J];refine aG (ahC (dec n.natAbs) (dec r) (dY hn) (dY ab)) ?_;rw[SS hn ab (by omega),AD (show n.natAbs-r<dA by omega)];simp only[go_sem];refine aA (fun E=>by cases E) (fun _=>?_);simp only[go_sem];refine hK _ _ ⟨q+1,n.natAbs-r,h9,F,U,J,rfl,rfl,aa,by omega,?_,f2.symm⟩;rw[f1];unfold sg;rw[if_pos (by simpa using E.1)]
 ·have E : decide (m < 0) = decide (n < 0) \/ m.natAbs % n.natAbs = 0 := by
   by_cases h1:decide (m<0)=decide (n<0)
   ·exact .inl h1
   ·refine .inr ?_;have h2:(!(decide (m<0) == decide (n<0)))=true:=by simpa using h1
    rw[h2,Xbc,Xbq]at E;exact sV.1 (lR.1 E)
  obtain⟨f1,f2⟩:=MB h0 E;have Y:m.natAbs/n.natAbs<dA:=Nat.lt_of_le_of_lt (Xcq _ _) Z;simp only[go_sem];exact hK _ _ ⟨_,_,h9,F,U,J,rfl,rfl,Y,by omega,f1.symm,f2.symm⟩
 rintro ρ H ⟨q,r,h9,F,U,J,af,ae,hq,hr,f1,f2⟩;simp only[go_sem];refine dR ?_;simp only[go_sem,h9,F,af,U,J];refine⟨_,(TU _ q (dY hq)).q rfl,?_⟩;simp only[go_sem,F,ae,J];refine⟨_,(TU _ r (dY hr)).q rfl,?_⟩;simp only[go_sem,f1,f2];exact .refl _
end Nu
namespace Nu
open Go.Proofs.Tryz
open Go.Nu
open Go.RowKit (Below)
def Fe:∀l:List UInt8,Lib.indexByte l 47=if l.any (· == eK)=true then((l.takeWhile (· != eK)).length:Int)else -1
 | []=>rfl
 | c::l=>by
  have ih:=Fe l;unfold Lib.indexByte;by_cases h:c=eK
  ·subst h;rfl
  ·have h1:(c == (47:UInt8))=false:=by simpa[eK]using h
   have E:(c == eK)=false:=by simpa using h
   have F:(c != eK)=true:=by simpa using h
   rw[h1,ih,List.any_cons,E,Xca,F];simp only[Xaz,if_false,Xbt,if_true];split
   ·rw[if_neg (by simp)];simp
   ·rfl
def Hz{α:Type}(p:α->Bool):∀l:List α,l.take (l.takeWhile p).length=l.takeWhile p
 | []=>rfl
 | a::l=>by
  rw[Xca];split
  ·rw[Xah,List.take_succ_cons,Hz p l]
  ·rfl
def WM{α:Type}(p:α->Bool):∀l:List α,l.drop ((l.takeWhile p).length+1)=(l.dropWhile p).drop 1
 | []=>rfl
 | a::l=>by
  rw[Xca,List.dropWhile_cons];split
  ·rw[Xah,List.drop_succ_cons,WM p l]
  ·rfl
def avD{l:List UInt8}(h:l.any (· == eK)=true):(l.takeWhile (· != eK)).length<l.length:=by
 rcases Xav (l.takeWhile (· != eK)).length l.length with h1|h1
 ·exact h1
 ·exfalso;have F:=Hz (· != eK) l;rw[Xan h1]at F;obtain⟨c,I,E⟩:=Xao.1 h;rw[F]at I;have:=FH I;simp at this E;exact this E
def abQ(s:ByteArray):Int:=if lO s=true then(((bl s).takeWhile (· != eK)).length:Int)else -1
def ahE(s:ByteArray):PC prog 217 [str s,str ⟨#[47]⟩] (int (abQ s)):=by
 refine PC.lib (a:=[.string s,.string ⟨#[47]⟩]) (v:=.int .i64 (abQ s)) (fun S w=>rfl) fun w _=>(Tryz.stringslite_Index_one s 47 w).mono fun e w' ⟨F,E⟩=>?_
 rw[E];exact⟨F.trans (by rw[show s.data.toList=bl s from rfl,Fe];rfl),Below.refl _ _⟩
def Qr(s:ByteArray):PC prog 96 [str s,str ⟨#[47]⟩] (boo (lO s)):=by
 refine PC.lib (a:=[.string s,.string ⟨#[47]⟩]) (v:=.bool (lO s)) (fun S w=>rfl) fun w _=>(Tryz.strings_Contains_one s 47 w).mono fun e w' ⟨F,E⟩=>?_
 rw[E];refine⟨F.trans ?_,Below.refl _ _⟩;rw[show s.data.toList=bl s from rfl,Fe];unfold lO;cases(bl s).any (· == eK) <;> simp
def ND(s:ByteArray):ByteArray:=⟨(((bl s).dropWhile (· != eK)).drop 1).toArray⟩
def adI(s:ByteArray)(h:s.size<=1048576):PC prog 167 [str s,str ⟨#[47]⟩] (.tup (if lO s=true then[str (gM s),str (ND s),boo true]else[str s,str emp,boo false])):=by
 refine pcd func167 rfl rfl ?_;simp only[go_sem];refine aG (ahE s) ?_;simp only[go_sem];have I:=cV s;apply aA <;> intro E
 ·have F : lO s = true := by
   have E:=of_decide_eq_true E;unfold abQ at E;split at E
   ·assumption
   ·omega
  have V:=avD F;rw[if_pos F,show abQ s=(((bl s).takeWhile (· != eK)).length:Int)from if_pos F];simp only[go_sem];refine dR ?_;simp only[go_sem];have J:s.extract 0 ((bl s).takeWhile (· != eK)).length=gM s:=lD (by rw[gC,Xbw,Hz];exact(kC _).symm);have U:s.extract (((bl s).takeWhile (· != eK)).length+1) s.size=ND s:=lD (by rw[gC,<-I,Xad,WM];exact(kC _).symm);refine⟨⟨by omega,by omega⟩,?_⟩;have O:IntKind.i64.wrap ((((bl s).takeWhile (· != eK)).length:Int)+((#[47]:Array UInt8).size:Nat))=((((bl s).takeWhile (· != eK)).length+1:Nat):Int):=mS (by omega);simp only[O,Xaq,J,U];refine⟨⟨by omega,by omega⟩,?_⟩;exact .refl _
 ·have F : ¬ lO s = true := fun F => by have E:=of_decide_eq_false E;unfold abQ at E;rw[if_pos F]at E;omega
  rw[if_neg F];simp only[go_sem];exact .refl _
def TA{s:ByteArray}(h:lO s=false):gM s=s:=by
 refine lD ?_;unfold gM;rw[kC];refine zV fun c E=>?_
 unfold lO at h;rw[Xbb]at h;have:=h c E;simpa using this
def auR(s:ByteArray)(h:s.size<=1048576):PC prog 100 [str s,str ⟨#[47]⟩] (.tup (if lO s=true then[str (gM s),str (ND s),boo true]else[str s,str emp,boo false])):=by
 by_cases E:lO s=true
 ·have:=adI s h;rw[if_pos E]at this |-;refine pcd func100 rfl rfl ?_;simp only[go_sem];refine aG this ?_;simp only[go_sem];exact .refl _
 ·have:=adI s h;rw[if_neg E]at this |-;refine pcd func100 rfl rfl ?_;simp only[go_sem];refine aG this ?_;simp only[go_sem];exact .refl _
def Hu(s:ByteArray)(h:s.size<=1048576):PC prog 54 [str s] (.tup [str (gM s),str (gK s)]):=by
 have F:=auR s h;by_cases E:lO s=true
 ·rw[if_pos E]at F;refine pcd func54 rfl rfl ?_;simp only[go_sem];refine aG F ?_;simp only[go_sem];refine aA (fun I=>by cases I) (fun _=>?_);simp only[go_sem];rw[show gK s=ND s from if_pos E];exact .refl _
 ·rw[if_neg E]at F;refine pcd func54 rfl rfl ?_;simp only[go_sem];refine aG F ?_;simp only[go_sem];refine aA (fun _=>?_) (fun I=>by cases I);simp only[go_sem];rw[show gK s=dec 1 from if_neg E,TA (by simpa using E),<-DI];exact .refl _
def QU(s:ByteArray):PC prog 95 [str s] (int (eM s).size):=by refine pcd func95 rfl rfl ?_;simp only[go_sem];refine aG (BD s) ?_;simp only[go_sem];exact .refl _
def EZ(s:ByteArray):(gM s).size<=s.size:=by rw[<-cV,<-cV,show bl (gM s)=(bl s).takeWhile (· != eK)from kC _,<-Hz];simp;omega
def Mz(s:ByteArray):(gK s).size<=max s.size 1:=by
 unfold gK;split
 ·rw[<-cV,<-cV,kC,Xbj];have:((bl s).dropWhile (· != eK)).length<=(bl s).length:=(List.dropWhile_suffix _).length_le;omega
 ·rw[<-DI];exact Nat.le_max_right _ _
def Vr:eA (dec 1)=true:=mK 1
def J3{s:ByteArray}(h:eA s=true):eM s=s:=by rw[<-jO h,Q5]
def LN{s:ByteArray}(h:lO s=false):gK s=dec 1:=if_neg (by rw[h];simp)
def JJ{s:ByteArray}(E:(!fH (gM s)||decide (((eM (gM s)).size:Int)>4096)||decide (((eM (gK s)).size:Int)>4096))=true):bZ s=false:=by unfold bZ;rw[Xdb];simp only[ne_eq,Xai,decide_eq_true_eq];rintro⟨⟨⟨⟨h1,F⟩,J⟩,I⟩,_⟩;rw[h1,J3 F]at E;simp only[Xcb,Xbt,Xbu,decide_eq_true_eq]at E;omega
def B1{s:ByteArray}(E:(!fH (gM s)||decide (((eM (gM s)).size:Int)>4096)||decide (((eM (gK s)).size:Int)>4096))=false)(J:eA (gK s)=true):
  (fH (gM s)&&eA (gK s)&&decide ((eM (gM s)).size<=4096)&&decide ((gK s).size<=4096))=true/\fH (gM s)=true/\(eM (gM s)).size<=4096/\(gK s).size<=4096:=by
 simp only[Xag,Xbq,decide_eq_false_iff_not]at E;rw[J3 J]at E;obtain⟨⟨h1,F⟩,I⟩:=E;have F:(eM (gM s)).size<=4096:=by omega
 have I:(gK s).size<=4096:=by omega
 refine⟨?_,h1,F,I⟩;rw[h1,J];simp[F,I]
def BR(s:ByteArray)(h:s.size<=1048576):PC prog 53 [str s] (boo (bZ s)):=by
 have hn:=EZ s;have hd:=Mz s;have h1:(1:Nat)<=1048576:=by omega
 have X:=D8 (gM s);have aa:=D8 (gK s);refine pcd func53 rfl rfl ?_;simp only[go_sem];refine aG (Hu s h) ?_;simp only[go_sem];refine aG (agL (gM s) (by omega)) ?_;simp only[go_sem];refine⟨_,fun _=>(QU (gM s)).q rfl,?_⟩;simp only[go_sem];refine⟨_,fun _=>(QU (gK s)).q rfl,?_⟩;simp only[go_sem];apply aA <;> intro I
 ·simp only[go_sem];exact cB (JJ I).symm
 simp only[go_sem];refine aG (Qr s) ?_;simp only[go_sem];apply aA <;> intro O
 ·simp only[go_sem];refine cB ?_;have h0:lO s=false:=by simpa using O
  have F:eA (gK s)=true:=by rw[LN h0];exact Vr
  unfold bZ;rw[(B1 I F).1,h0];rfl
 have h0:lO s=true:=by simpa using O
 simp only[go_sem];refine aG (Ef (gK s) (by omega)) ?_;simp only[go_sem,oO,Fy];apply aA <;> intro E
 ·simp only[go_sem];refine cB ?_;unfold bZ;rw[h0];simp only[Xbu,Xay]at E;rcases E with((E|E)|E)|E <;> simp[E]
 simp only[Xag,Xbq]at E;obtain⟨⟨⟨F,U⟩,h4⟩,h5⟩:=E;obtain⟨f1,f2,Z,J⟩:=B1 I F;simp only[go_sem];refine aG (BD (gM s)) ?_;simp only[go_sem];refine aG (akT (eM (gM s)) (gK s) (by omega) (by omega)) ?_;simp only[go_sem,Fy];refine cB ?_;have V:=FI f2;have v0:fG (gK s)≠0:=fun e=>nY.1 U (by rw[<-jO F,e])
 have Y:fG (gK s)<dA:=(AF F).1 J;have e:Ba (eM (gM s)) (gK s)=(dec (Nat.gcd (fG (eM (gM s))) (fG (gK s))),0):=by unfold Ba;rw[if_pos (HF V F Z J),AD (Nat.lt_of_le_of_lt (Nat.gcd_le_right _ (by omega)) Y)]
 have ev:(gG (gM s)).natAbs=fG (eM (gM s)):=by unfold gG;split <;> omega
 rw[e];unfold bZ;rw[f1,h0,U,h4,h5,ev];simp only[beq_self_eq_true,Xbc,Xcb,Xda,Xbt];rw[Xap,lR,sV,Xat]
def Eu(n:Int)(h0: -9223372036854775808<=n)(h1:n<=9223372036854775807):PC prog 75 [int n] (str (zed n)):=by refine pcd func75 rfl rfl ?_;simp only[go_sem];refine aG (avL n h0 h1) ?_;simp only[go_sem];exact .refl _
def alY(s:ByteArray)(h:s.size<=1048576):PC prog 26 [str s] (int (Lg s)):=by
 have O:=EZ s;refine pcd func26 rfl rfl ?_;simp only[go_sem];refine aG (BR s h) ?_;simp only[go_sem];apply aA <;> intro E
 ·simp only[go_sem];exact cI (by unfold Lg;rw[if_neg (by simpa using E)])
 ·have F:bZ s=true:=by simpa using E
  simp only[go_sem];refine aG (Hu s h) ?_;simp only[go_sem];refine aG (aoG (gM s) (by omega)) ?_;simp only[go_sem];refine cI ?_;obtain⟨x,rfl,J,I,_⟩:=fM F;unfold Lg Bd;rw[if_pos F,I,if_pos (pY _),cL,fW]
def N7(a b:ByteArray):List AV:=if(bZ a&&bZ b)=true then[str (gM a),str (gK a),str (gM b),str (gK b),int 0]else[str emp,str emp,str emp,str emp,int 3]
def TS(a b:ByteArray)(F:a.size<=1048576)(E:b.size<=1048576):PC prog 76 [str a,str b] (.tup (N7 a b)):=by
 refine pcd func76 rfl rfl ?_;simp only[go_sem];refine aG (BR a F) ?_;simp only[go_sem];refine⟨_,fun _=>(BR b E).q rfl,?_⟩;simp only[go_sem];apply aA <;> intro I
 ·simp only[go_sem];rw[show N7 a b=[str emp,str emp,str emp,str emp,int 3]from if_neg (by rw[Xch,<-Xay,Bool.not_and];exact I)];exact .refl _
 ·simp only[go_sem];refine aG (Hu a F) ?_;simp only[go_sem];refine aG (Hu b E) ?_;simp only[go_sem];rw[show N7 a b=_ from if_pos (by rw[<-Xbq,Bool.not_and];exact I)];exact .refl _
def akI(n:Int)(d:Nat)(I:d≠0)(O:n.natAbs<dA)(E:d<dA):PC prog 191 [str (zed n),str (dec d)] (.tup [str (lM (mkRat n d)),int 0]):=by
 have J:=Lz (n:=n) I E;have Z:=WW (n:=n) I;have V:∀{m:Int},m.natAbs<dA->(zed m).size<=1048576:=fun {m} hm=>by
  have:=(rV m).2 hm;unfold eM at this;split at this
  ·rw[<-cV,kC,Xbj]at this;rw[<-cV];omega
  ·omega
 have U:=DR I O E;have Y:wL (zed n) (dec (Nat.gcd n.natAbs d))=(zed (mkRat n d).num,zed (n.fmod (Nat.gcd n.natAbs d:Nat)),0):=by unfold wL;rw[<-dF,if_pos (rB O (by rw[Xbh];exact J)),cL,cL,if_neg (by omega),Yj I]
 have X:wL (dec d) (dec (Nat.gcd n.natAbs d))=(dec (mkRat n d).den,zed ((d:Int).fmod (Nat.gcd n.natAbs d:Nat)),0):=by unfold wL;rw[<-dF,<-dF,if_pos (rB (by rw[Xbh];exact E) (by rw[Xbh];exact J)),cL,cL,if_neg (by omega),Xo I,dF]
 refine pcd func191 rfl rfl ?_;simp only[go_sem];refine aG (BD (zed n)) ?_;rw[jP];simp only[go_sem];refine aG (akT (dec n.natAbs) (dec d) (dY O) (dY E)) ?_;rw[show Ba (dec n.natAbs) (dec d)=(dec (Nat.gcd n.natAbs d),0)by unfold Ba;rw[if_pos (yQ O E),cE,cE,AD J]];simp only[go_sem];refine aA (fun F=>by cases F) (fun _=>?_);simp only[go_sem];refine aG (Pb (zed n) (dec (Nat.gcd n.natAbs d)) (V O) (dY J)) ?_;rw[Y];simp only[go_sem];refine aA (fun F=>by cases F) (fun _=>?_);simp only[go_sem];refine aG (Pb (dec d) (dec (Nat.gcd n.natAbs d)) (dY E) (dY J)) ?_;rw[X];simp only[go_sem];refine aA (fun F=>by cases F) (fun _=>?_);simp only[go_sem,Fy];generalize mkRat n d=x at *;apply aA <;> intro F
 ·have h1:x.den=1:=sV.1 (lR.1 F);simp only[go_sem];rw[show lM x=zed x.num from if_pos h1];exact .refl _
 ·have h1:x.den≠1:=fun e=>nY.1 F (by rw[e])
  simp only[go_sem];have z1:=V U.1;have z2:=dY U.2;have z3:(zed x.num++slB).size=(zed x.num).size+1:=by rw[ByteArray.size_append];rfl
  refine⟨by show((zed x.num).size+(1:Nat):Int)<=9223372036854775807;omega,?_⟩;refine⟨by show(((zed x.num).size+1+(dec x.den).size:Nat):Int)<=9223372036854775807;omega,?_⟩;rw[show lM x=zed x.num++slB++dec x.den from if_neg h1];exact .refl _
end Nu
namespace Nu
open Go.Proofs.Tryz
open Go.Nu
abbrev Pr:=ByteArray×ByteArray
def C1(p:Pr):List AV:=[str p.1,str p.2]
def Ng(p:Pr):(C1 p).length=2:=(rfl)
def apD(p:Pr):(C1 p).getD 0 .any=str p.1:=(rfl)
def aoT(p:Pr):(C1 p).getD 1 .any=str p.2:=(rfl)
def Yw(p:Pr):(C1 p).take 2=C1 p:=(rfl)
attribute [go_sem] Ng apD aoT Yw
def prA(p:Pr):List AV:=[str (xV p.1 p.2).1]
def prE:List Pr->Int
 | []=>0
 | p::l=>if(xV p.1 p.2).2≠0 then(xV p.1 p.2).2 else prE l
def Q7:∀{l:List Pr},(∀p∈l,(xV p.1 p.2).2=0)->prE l=0
 | [],_=>rfl
 | p::l,h=>by unfold prE;rw[if_neg (by simp[h p (by simp)])];exact Q7 fun q E=>h q (by simp[E])
def ahY:∀{l:List Pr} {k:Nat} {p:Pr},l[k]?=some p->(∀q∈l.take k,(xV q.1 q.2).2=0)->(xV p.1 p.2).2≠0->prE l=(xV p.1 p.2).2
 | [],k,p,h,_,_=>by simp at h
 | a::l,0,p,h,_,h2=>by simp at h;subst h;unfold prE;rw[if_pos h2]
 | a::l,k+1,p,h,h1,h2=>by unfold prE;rw[if_neg (by simp[h1 a (by simp)])];exact ahY (k:=k) (by simpa using h) (fun q E=>h1 q (by simp[E])) h2
def amB(l:List (List AV)):Row:=⟨9,1,l⟩
def Il(l:List Pr)(hl:l.length<=1048576)(hs:∀p∈l,p.1.size<=1048576/\p.2.size<=1048576):PC prog 190 [.sl (l.map C1)] (.tup [.sl (if prE l=0 then l.map prA else[]),int (prE l)]):=by
 refine pcb (fun t=>t == 6||t == 11) func190 rfl rfl ?_;simp only[go_sem];refine⟨⟨⟨by omega,by omega⟩,by omega⟩,?_⟩;refine aL fun j hj=>?_
 simp only[go_sem];refine⟨fun ρ H=>∃(k j:Nat),k<=l.length/\ρ 12=.sl (l.map C1)/\ρ 13=int l.length/\ρ 4=.os j/\ρ 14=int k/\H j=some (amB ((l.take k).map prA))/\∀p∈l.take k,(xV p.1 p.2).2=0,fun ρ _=>l.length-aR (ρ 14),
  ⟨0,j,Xaa _,rfl,by simp only[go_sem],rfl,by simp only[go_sem];rfl,aB _ _ _,by simp⟩,?_⟩
 clear hj j;rintro ρ H ⟨k,j,hk,Y,X,h4,J,Rj,hz⟩;simp only[go_sem,X,J];refine aA (fun E=>?_) (fun O=>?_)
 ·have E:=ltB E;obtain⟨p,F⟩:=aK E;have b1:=inB E;have Z:=hs p (Xac F);simp only[go_sem,Y,J,aD F,b1];refine aL fun i hi=>?_
  have V:j≠i:=bE Rj hi;simp only[go_sem,];refine aI (aB _ _ _) (by simp[Ng]) ?_;generalize hG:aM (aM _ i _) i _=HG;have Ri:HG i=some (⟨238,2,[C1 p]⟩:Row):=by rw[<-hG,aB];rfl
  have aa:HG j=some (amB ((l.take k).map prA)):=by rw[<-hG,aJ _ _ _ _ V,aJ _ _ _ _ V];exact Rj
  clear hG hi Rj;simp only[go_sem,Ri]
  repeat (refine⟨by first|decide|omega,?_⟩)
  refine aG (arQ p.1 p.2 Z.1 Z.2) ?_;simp only[go_sem,];refine aA (fun I=>?_) (fun I=>?_)
  ·have I:(xV p.1 p.2).2≠0:=by simpa using I
   simp only[go_sem];have e:prE l=(xV p.1 p.2).2:=ahY F hz I;rw[e,if_neg I];exact .refl _
  ·have I:(xV p.1 p.2).2=0:=by simpa using I
   simp only[go_sem,h4];refine aZ aa ⟨rfl,rfl⟩ ⟨rfl,trivial⟩ (by simp only[amB,Xab,Xas,Xah,List.length_nil];omega) (fun j' ab=>?_);simp only[go_sem,Y,X,J,aQ k];refine⟨⟨k+1,j',E,rfl,rfl,?_,?_⟩,by simp only[aN];omega⟩
   ·rw[aB];simp only[amB,bA F,Xal,Xbf,Xbv];rfl
   ·intro q U;rw[bA F]at U;rcases Xba.1 U with U|U
    ·exact hz q U
    ·rw[Xaw.1 U];exact I
 ·have O:=geB hk O;subst O;rw[Xad]at Rj hz;simp only[go_sem,h4];have e:prE l=0:=Q7 hz;rw[if_pos e,e];exact .tup _ _ (.cons _ _ _ _ (.row _ _ _ Rj (ConvE.refl _)) (ConvL.refl _))
def tQ{m n:Int}(E:m.natAbs<dA)(F:n.natAbs<dA):xV (zed m) (zed n)=szZ (m*n):=by unfold xV;rw[if_pos (rB E F),cL,cL]
def RH{m n:Int}(E:m.natAbs<dA)(F:n.natAbs<dA):KK (zed m) (zed n)=szZ (m+n):=by unfold KK;rw[if_pos (rB E F),cL,cL]
def abJ{m n:Int}(E:m.natAbs<dA)(F:n.natAbs<dA):ZV (zed m) (zed n)=szZ (m-n):=by unfold ZV;rw[if_pos (rB E F),cL,cL]
def yG{n:Int}(h:nV n=false):szZ n=(zed n,0):=if_pos (iH.1 h)
def tC{n:Int}(h:nV n=true):szZ n=(emp,4):=if_neg (fun E=>by rw[iH.2 E]at h;cases h)
def dT{m:Int}(E:m.natAbs<dA):(zed m).size<=1048576:=by
 have:=(rV m).2 E;unfold eM at this;split at this
 ·rw[<-cV,kC,Xbj]at this;rw[<-cV];omega
 ·omega
def Gk{a b c d:Int}(O:a.natAbs<dA)(J:b.natAbs<dA)(I:c.natAbs<dA)(E:d.natAbs<dA):
  PC prog 190 [.sl [[str (zed a),str (zed b)],[str (zed c),str (zed d)]]] (if(nV (a*b)||nV (c*d))=true then .tup [.sl [],int 4]else .tup [.sl [[str (zed (a*b))],[str (zed (c*d))]],int 0]):=by
 have:=Il [(zed a,zed b),(zed c,zed d)] (by simp) (by simp[dT,O,J,I,E]);simp only[prE,tQ O J,tQ I E,Xbf,Xbv,prA,C1]at this;cases h1:nV (a*b)with
 | true=>rw[tC h1]at this;simpa using this
 | false=>
  rw[yG h1]at this;cases F:nV (c*d)with
  | true=>rw[tC F]at this;simpa using this
  | false=>rw[yG F]at this;simpa using this
def RT{a b:Int}(E:a.natAbs<dA)(F:b.natAbs<dA):
  PC prog 190 [.sl [[str (zed a),str (zed b)]]] (if nV (a*b)=true then .tup [.sl [],int 4]else .tup [.sl [[str (zed (a*b))]],int 0]):=by
 have:=Il [(zed a,zed b)] (by simp) (by simp[dT,E,F]);simp only[prE,tQ E F,Xbf,Xbv,prA,C1]at this;cases h1:nV (a*b)with
 | true=>rw[tC h1]at this;simpa using this
 | false=>rw[yG h1]at this;simpa using this
def fv(g:FuncId):AV:=.v (.func (.func g) #[] #[])
def Wx(op:Int->Int->Int)(x y:Rat):ByteArray×Int:=
 if(nV (x.num*y.den)||nV (y.num*x.den)||nV (op (x.num*y.den) (y.num*x.den))||nV (x.den*y.den))=true then(emp,4)else(lM (mkRat (op (x.num*y.den) (y.num*x.den)) (x.den*y.den)),0)
def GO(op:Int->Int->Int)(a b:ByteArray):ByteArray×Int:=if(bZ a&&bZ b)=true then Wx op (tO a) (tO b)else(emp,3)
def K6(g:FuncId)(op:Int->Int->Int)(aa:aE prog g=true)(hg:∀m n:Int,m.natAbs<dA->n.natAbs<dA->PC prog g [str (zed m),str (zed n)] (.tup [str (szZ (op m n)).1,int (szZ (op m n)).2]))
  (a b:ByteArray) (ha:a.size<=1048576) (E:b.size<=1048576):PC prog 130 [str a,str b,fv g] (.tup [str (GO op a b).1,int (GO op a b).2]):=by
 have F:=TS a b ha E;by_cases O:(bZ a&&bZ b)=true;rotate_left
 ·rw[show N7 a b=_ from if_neg O]at F;rw[show GO op a b=(emp,3)from if_neg O];unfold fv;refine pcd func130 rfl rfl ?_;simp only[go_sem];refine aG F ?_;simp only[go_sem];refine aA (fun _=>?_) (fun E=>by cases E);simp only[go_sem];exact .refl _
 rw[show N7 a b=_ from if_pos O]at F;rw[show GO op a b=_ from if_pos O];simp only[Xai]at O;obtain⟨x,rfl,hx,e1,e2⟩:=fM O.1;obtain⟨y,rfl,hy,e3,e4⟩:=fM O.2;rw[e1,e2,e3,e4]at F;rw[fW,fW];have xd:((x.den:Int)).natAbs<dA:=by rw[Xbh];exact hx.2
 have yd:((y.den:Int)).natAbs<dA:=by rw[Xbh];exact hy.2
 have Y:=Gk hx.1 yd hy.1 xd;have X:=RT xd yd;rw[dF,dF]at Y X;unfold fv;refine pcd func130 rfl rfl ?_;simp only[go_sem];refine aG F ?_;simp only[go_sem];refine aA (fun E=>by cases E) (fun _=>?_);simp only[go_sem];unfold Wx;cases U:(nV (x.num*y.den)||nV (y.num*x.den))with
 | true=>rw[U,if_pos rfl]at Y;refine aG Y ?_;simp only[go_sem];refine aA (fun _=>?_) (fun E=>by cases E);exact .refl _
 | false=>
  rw[U]at Y;simp only[Xaz,if_false]at Y;refine aG Y ?_;simp only[go_sem];refine aA (fun E=>by cases E) (fun _=>?_);simp only[go_sem];have I:=U;simp only[Xag]at I;have Z:=hg _ _ (iH.1 I.1) (iH.1 I.2);refine kI (by rfl) (by kernel_rfl) ?_;simp only[go_sem,Xah,List.length_nil]
  repeat (refine⟨by first|decide|omega,?_⟩)
  refine⟨_,Z.q rfl,?_⟩;simp only[go_sem];generalize hN:op (x.num*y.den) (y.num*x.den)=N;cases J:nV N with
  | true=>rw[tC J];refine aA (fun _=>?_) (fun E=>by cases E);simp only[go_sem,Bool.true_or];exact .refl _
  | false=>
   rw[yG J];refine aA (fun E=>by cases E) (fun _=>?_);simp only[go_sem];cases V:nV ((x.den:Int)*y.den)with
   | true=>rw[V,if_pos rfl]at X;refine aG X ?_;simp only[go_sem];refine aA (fun _=>?_) (fun E=>by cases E);simp only[go_sem,];exact .refl _
   | false=>
    rw[V]at X;simp only[Xaz,if_false]at X;refine aG X ?_;simp only[go_sem];refine aA (fun E=>by cases E) (fun _=>?_);simp only[go_sem,Xah,List.length_nil]
    repeat (refine⟨by first|decide|omega,?_⟩)
    have hD:x.den*y.den<dA:=by rw[<-Cq];exact iH.1 V
    have:=akI N (x.den*y.den) (FB x y) (iH.1 J) hD;rw[<-dF,Int.natCast_mul]at this;refine aG this ?_;simp only[go_sem];exact .refl _
def ZB(a b:ByteArray):GO (·+·) a b=vR a b:=by unfold GO vR Wx yR;simp only[O4]
def YN(a b:ByteArray):GO (·-·) a b=D6 a b:=by
 unfold GO D6 Wx yR;simp only[O4,Rat.neg_num,Rat.neg_den,Int.neg_mul,<-Int.sub_eq_add_neg];have:∀n:Int,nV (-n)=nV n:=fun n=>by unfold nV;rw[Int.natAbs_neg]
 simp only[this]
def Bv(a b:ByteArray)(J:a.size<=1048576)(I:b.size<=1048576):PC prog 129 [str a,str b] (.tup [str (vR a b).1,int (vR a b).2]):=by have:=K6 192 (·+·) (by kernel_rfl) (fun m n E F=>by rw[<-RH E F];exact auQ _ _ (dT E) (dT F)) a b J I;rw[ZB]at this;unfold fv at this;refine pcd func129 rfl rfl ?_;simp only[go_sem];refine aG this ?_;simp only[go_sem];exact .refl _
def BX(a b:ByteArray)(J:a.size<=1048576)(I:b.size<=1048576):PC prog 74 [str a,str b] (.tup [str (D6 a b).1,int (D6 a b).2]):=by have:=K6 131 (·-·) (by kernel_rfl) (fun m n E F=>by rw[<-abJ E F];exact aqY _ _ (dT E) (dT F)) a b J I;rw[YN]at this;unfold fv at this;refine pcd func74 rfl rfl ?_;simp only[go_sem];refine aG this ?_;simp only[go_sem];exact .refl _
def atP(a b:ByteArray)(Y:a.size<=1048576)(I:b.size<=1048576):PC prog 128 [str a,str b] (.tup [str (wK a b).1,int (wK a b).2]):=by
 have E:=TS a b Y I;by_cases J:(bZ a&&bZ b)=true;rotate_left
 ·rw[show N7 a b=_ from if_neg J]at E;rw[show wK a b=(emp,3)from if_neg J];refine pcd func128 rfl rfl ?_;simp only[go_sem];refine aG E ?_;simp only[go_sem];refine aA (fun _=>?_) (fun I=>by cases I);simp only[go_sem];exact .refl _
 rw[show N7 a b=_ from if_pos J]at E;rw[show wK a b=_ from if_pos J];simp only[Xai]at J;obtain⟨x,rfl,U,X,e2⟩:=fM J.1;obtain⟨y,rfl,V,e3,e4⟩:=fM J.2;rw[X,e2,e3,e4]at E;rw[fW,fW];have Z:((x.den:Int)).natAbs<dA:=by rw[Xbh];exact U.2
 have yd:((y.den:Int)).natAbs<dA:=by rw[Xbh];exact V.2
 have O:=Gk U.1 V.1 Z yd;rw[dF,dF]at O;refine pcd func128 rfl rfl ?_;simp only[go_sem];refine aG E ?_;simp only[go_sem];refine aA (fun I=>by cases I) (fun _=>?_);simp only[go_sem];unfold GJ;cases F:(nV (x.num*y.num)||nV ((x.den:Int)*y.den))with
 | true=>rw[F,if_pos rfl]at O;refine aG O ?_;simp only[go_sem];refine aA (fun _=>?_) (fun I=>by cases I);exact .refl _
 | false=>
  rw[F]at O;simp only[Xaz,if_false]at O;refine aG O ?_;simp only[go_sem];refine aA (fun I=>by cases I) (fun _=>?_);simp only[go_sem];simp only[Xag]at F;have hD:x.den*y.den<dA:=by rw[<-Cq];exact iH.1 F.2
  have:=akI (x.num*y.num) (x.den*y.den) (FB x y) (iH.1 F.1) hD;rw[<-dF,Int.natCast_mul]at this;refine kI (by rfl) (by kernel_rfl) ?_;simp only[go_sem,Xah,List.length_nil]
  repeat (refine⟨by first|decide|omega,?_⟩)
  refine⟨_,this.q rfl,?_⟩;simp only[go_sem];rw[<-UZ];exact .refl _
end Nu
end Go.Proofs.YtpagaknmdfgfkaaGreatDoor
section
namespace Go.Nu
open Go Go.Lib
def dT{m:Int}(E:m.natAbs<dA):(zed m).size<=4097:=by
 have:=(rV m).2 E;unfold eM at this;split at this
 ·rw[<-cV,kC,List.length_drop]at this;rw[<-cV];omega
 ·omega
def L0{x:Rat}(h:tZ x):(lM x).size<=8194:=by
 have h1:=dT h.1;have E:=(iX x.den).2 h.2;unfold lM;split
 ·omega
 ·rw[ByteArray.size_append,ByteArray.size_append];have:slB.size=1:=rfl;omega
def oD{s:ByteArray}(h:bZ s=true):s.size<=8194:=by obtain⟨x,rfl,E,_⟩:=fM h;exact L0 E
def Do{a b:ByteArray}(h:(vR a b).2=0):bZ (vR a b).1=true:=by
 unfold vR at h |-;split at h
 ·rename_i E;rw[if_pos E];obtain⟨e,F⟩:=Ix h;rw[e];exact qE F
 ·cases h
def Kc{a b:ByteArray}(h:(wK a b).2=0):bZ (wK a b).1=true:=by
 unfold wK at h |-;split at h
 ·rename_i E;rw[if_pos E];obtain⟨e,F⟩:=Qu h;rw[e];exact qE F
 ·cases h
def sC:List (Int×ByteArray)->ByteArray->ByteArray×Int
 | [],t=>(t,0)
 | p :: l, t => if (wK (zed p.1) p.2).2 ≠ 0 then (emp, (wK (zed p.1) p.2).2) else
     if(vR t (wK (zed p.1) p.2).1).2≠0 then(emp,(vR t (wK (zed p.1) p.2).1).2)else sC l (vR t (wK (zed p.1) p.2).1).1
def lL(ns:List Int)(xs:List ByteArray):ByteArray×Int:=
 if ns.length≠xs.length then(emp,2)else if xs.any (fun x=> !bZ x)=true then(emp,3)else sC (ns.zip xs) (dec 0)
def Vy:bZ (dec 0)=true:=by have:dec 0=lM 0:=(dF 0).symm.trans (if_pos (show(0:Rat).den=1 from rfl)).symm;rw[this];exact qE ⟨alC,Ob (k:=1) (by decide) (by decide)⟩
end Go.Nu
end
section
namespace Go.Proofs.YtpagaknmdfgfkaaGreatDoor.Nu
open Go.Proofs.Tryz
open Go.Aw Go.Aw.D Go.Proofs Ty Go.Nu
def EK{p q:Int}(I:0<q):(p.fdiv q).natAbs<=p.natAbs:=by
 obtain⟨e,h0,h1⟩:=rF (p:=p) I;generalize p.fdiv q=d at *;generalize p.fmod q=m at *;rcases Xcc d 0 with E|E
 ·have F:(d+1)*q<=(d+1)*1:=Int.mul_le_mul_of_nonpos_left (by omega) (by omega);rw[Int.add_mul]at F;omega
 ·have F:d*1<=d*q:=Int.mul_le_mul_of_nonneg_left (by omega) E;omega
def D2{p q:Int}(E:p.natAbs<dA)(F:q.natAbs<dA)(h:0<q):wL (zed p) (zed q)=(zed (p.fdiv q),zed (p.fmod q),0):=by unfold wL;rw[if_pos (rB E F),cL,cL,if_neg (by omega)]
def Qa(i j:Int):PB (zed i) (zed j)=hU i j:=by unfold PB;rw[if_pos ⟨pY _,pY _⟩,cL,cL]
def Iy(i j:Int):hU i j= -1\/hU i j=0\/hU i j=1:=by
 unfold hU;split
 ·exact .inl rfl
 ·split
  ·exact .inr (.inr rfl)
  ·exact .inr (.inl rfl)
def atT:AV->Nat
 | .v (.string s)=>(gG s).natAbs
 | _=>0
def DZ(n:Int):atT (str (zed n))=n.natAbs:=by show(gG (zed n)).natAbs=_;rw[cL]
def zI(n:Int):(bl (zed n) == [48])=decide (n=0):=by rw[oO,<-show zed ((0:Nat):Int)=dec 0 from dF 0,Xap,lR,acD,decide_eq_true_iff];exact Iff.rfl
def aqT{a b:Int}(F:a=1\/a= -1)(E:b= -1\/b=0\/b=1):IntKind.i64.wrap (a*b)=a*b:=by rcases F with rfl|rfl <;> rcases E with rfl|rfl|rfl <;> rfl
def Ib{a:Int}(E:a=1\/a= -1):IntKind.i64.wrap (0-a)= -a:=by rcases E with rfl|rfl <;> rfl
def Ax(a b:ByteArray)(ha:a.size<=1048576)(hb:b.size<=1048576):PC prog 44 [str a,str b] (int (FW a b)):=by
 have E:=TS a b ha hb;by_cases X:(bZ a&&bZ b)=true;rotate_left
 ·rw[show N7 a b=_ from if_neg X]at E;rw[show FW a b=0 from if_neg X];refine pcd func44 rfl rfl ?_;simp only[go_sem];refine aG E ?_;simp only[go_sem];refine aA (fun _=>?_) (fun hb=>by cases hb);simp only[go_sem];exact .refl _
 rw[show N7 a b=_ from if_pos X]at E;rw[show FW a b=_ from if_pos X];simp only[Xai]at X;obtain⟨x,rfl,hx,e1,e2⟩:=fM X.1;obtain⟨y,rfl,hy,e3,e4⟩:=fM X.2;rw[e1,e2,e3,e4]at E;rw[fW,fW];have xd:((x.den:Int)).natAbs<dA:=by rw[Xbh];exact hx.2
 have yd:((y.den:Int)).natAbs<dA:=by rw[Xbh];exact hy.2
 have x0:=x.den_nz;have y0:=y.den_nz;rw[<-dF,<-dF]at E;refine pcd func44 rfl rfl ?_;simp only[go_sem];refine aG E ?_;simp only[go_sem];refine aA (fun hb=>by cases hb) (fun _=>?_);simp only[go_sem];refine⟨fun ρ _=>∃(p q r s g:Int),ρ 5=str (zed p)/\ρ 6=str (zed q)/\ρ 7=str (zed r)/\ρ 8=str (zed s)/\ρ 10=int g/\(g=1\/g= -1)/\0<q/\0<s/\p.natAbs<dA/\q.natAbs<dA/\r.natAbs<dA/\s.natAbs<dA/\Om x y=g*J7 p q r s,fun ρ _=>atT (ρ 6),
  ⟨x.num,x.den,y.num,y.den,1,rfl,rfl,rfl,rfl,rfl,.inl rfl,by omega,by omega,hx.1,xd,hy.1,yd,by rw[Int.one_mul,T2]⟩,?_⟩
 rintro ρ H ⟨p,q,r,s,g,h5,h6,h7,h8,I,hg,Z,Y,bp,bq,br,bs,F⟩;simp only[go_sem,h5,h6,];refine aG (Pb (zed p) (zed q) (dT bp) (dT bq)) ?_;rw[D2 bp bq Z];simp only[go_sem,h7,h8];refine aG (Pb (zed r) (zed s) (dT br) (dT bs)) ?_;rw[D2 br bs Y];simp only[go_sem,];have d1:=EK (p:=p) Z;have d2:=EK (p:=r) Y;refine aG (UG (zed (p.fdiv q)) (zed (r.fdiv s)) (dT (by omega)) (dT (by omega))) ?_;rw[Qa];simp only[go_sem,];obtain⟨_,m0,m1⟩:=rF (p:=p) Z;obtain⟨_,n0,n1⟩:=rF (p:=r) Y;have c3:=Iy (p.fdiv q) (r.fdiv s);refine aA (fun U=>?_) (fun U=>?_)
 ·have U:hU (p.fdiv q) (r.fdiv s)≠0:=by simpa using U
  simp only[go_sem,I,aqT hg c3];refine cI ?_;rw[F,JO Z Y (fun e=>U (qS e))]
 have U:p.fdiv q=r.fdiv s:=Fw.1 (by simpa using U);have hX:=LX Z Y U;generalize p.fmod q=m at *;generalize r.fmod s=n at *;simp only[go_sem,zI];refine aA (fun V=>?_) (fun V=>?_)
 ·have V:m=0/\n=0:=by simpa using V
  simp only[go_sem];refine cI ?_;rw[F,hX,V.1,V.2,Int.zero_mul,Int.zero_mul,qS rfl,Int.mul_zero]
 simp only[go_sem,zI];refine aA (fun J=>?_) (fun J=>?_)
 ·have J:m=0:=of_decide_eq_true J;have O:0<n:=by
   rcases Xcc 0 n with h|h
   ·exact h
   ·exfalso;have:n=0:=by omega
    rw[J,this]at V;cases V
  simp only[go_sem,I,Ib hg];refine cI ?_;rw[F,hX,J,Int.zero_mul,jD (Int.mul_pos O Z)];omega
 have J:0<m:=by have:=of_decide_eq_false J;omega
 simp only[go_sem,zI];refine aA (fun O=>?_) (fun O=>?_)
 ·have O:n=0:=of_decide_eq_true O;simp only[go_sem,I];refine cI ?_;rw[F,hX,O,Int.zero_mul,jF (Int.mul_pos J Y)];omega
 have O:0<n:=by have:=of_decide_eq_false O;omega
 simp only[go_sem,h6,h8,I,Ib hg];refine⟨⟨q,m,s,n,-g,rfl,rfl,rfl,rfl,rfl,by omega,J,O,bq,by omega,bs,by omega,?_⟩,?_⟩
 ·rw[F,hX,Ls];rw[Int.mul_neg,Int.neg_mul]
 ·rw[DZ,DZ];omega
def Nm{P:Program}{G:_}{t:TypeId}{a b:ByteArray}{k:AV->Prop}:iS P G .lss t (.v (.string a)) (.v (.string b)) k=k (.v (.bool (Op.bytesLess a.toList b.toList))):=(rfl)
attribute [go_sem ↓] Nm
attribute [go_sem] Nm
def auO(s:ByteArray):s.toList=bl s:=ByteArray.toList_eq s
def QN:∀{l r:List UInt8},l.length=r.length->Op.bytesLess l r=decide (Lib.compareBytes l r= -1)
 | [],[],_=>rfl
 | [],_::_,h=>by simp at h
 | _::_,[],h=>by simp at h
 | a::l,b::r,h=>by
  simp only[Xah,Nat.add_right_cancel_iff]at h;have ih:=QN h;rw[Op.bytesLess,Lib.compareBytes,ih];by_cases h1:a<b
  ·simp[h1]
  ·by_cases E:b<a
   ·have : (a == b) = false := by rw[beq_eq_false_iff_ne];rintro rfl;exact absurd E h1
    simp[h1,E,this]
   ·have : a = b := by rw[UInt8.lt_iff_toNat_lt]at h1 E;exact UInt8.toNat_inj.1 (by omega)
    subst this;simp
def adT{m n:Nat}(h:(dec m).size=(dec n).size):Op.bytesLess (bl (dec m)) (bl (dec n))=decide (m<n):=by
 have F:=jM m;have E:=jM n;rw[iT,iT,QN (by omega),Fb (wY m) (wY n) (by omega),qP,qP,decide_eq_decide];unfold hU;split
 ·simp;omega
 ·split <;> simp <;> omega
def BZ(s:ByteArray)(h:s.size<=4611686018427387904):PC prog 205 [str s] (boo (eA s)):=by
 have X:=cV s;refine pcd func205 rfl rfl ?_;simp only[go_sem];refine⟨fun h=>⟨by omega,by have:=of_decide_eq_true h.2;omega⟩,?_⟩;have O:((s.size:Int) == 0||decide ((s.size:Int)>1)&&((bl s).getD 0 0).toNat == (48:Int))= !(bl s != []&&((bl s).length == 1||(bl s).getD 0 0 != 48)):=by
  rw[<-X];cases bl s with
  | nil=>rfl
  | cons c r=>
   have Z:(((c.toNat:Nat):Int) == 48)=(c == 48):=by rw[Xap,Xat,Xat,<-UInt8.toNat_inj];exact Int.ofNat_inj (n:=48)
   simp only[List.getD_cons_zero,Z];cases r with
   | nil=>simp
   | cons c2 r=>
    have h0:(((c::c2::r).length:Int) == 0)=false:=by simp;omega
    have h1:decide (((c::c2::r).length:Int)>1)=true:=by simp;omega
    rw[h0,h1,show((c::c2::r) != [])=true from rfl,show((c::c2::r).length == 1)=false from rfl];cases h:(c == 48) <;> simp[bne,h]
 rw[O];refine aA (fun J=>?_) (fun J=>?_)
 ·simp only[go_sem];refine cB ?_;unfold eA fA;rw[Xay]at J;rw[J];rfl
 rw[Xbq]at J;simp only[go_sem];refine⟨fun ρ _=>∃k:Nat,k<=(bl s).length/\ρ 0=str s/\ρ 3=int k/\∀c∈(bl s).take k,isD c=true,fun ρ _=>(bl s).length-aR (ρ 3),⟨0,Xaa _,rfl,rfl,by simp⟩,?_⟩;rintro ρ H ⟨k,Y,h0,V,U⟩;simp only[go_sem,h0,V];refine aA (fun F=>?_) (fun E=>?_)
 ·have F:k<(bl s).length:=by have:=ltB F;omega
  obtain⟨c,O⟩:=aK F;have hi:=tD O;simp only[go_sem,h0,V,hi,NK];refine⟨⟨by omega,by omega⟩,fun _=>⟨by omega,by omega⟩,aA (fun I=>?_) (fun I=>?_)⟩
  ·simp only[go_sem];refine cB ?_;unfold eA fA;rw[Ul O (by simpa using I),Bool.and_false]
  ·simp only[go_sem,h0,V,aQ k];exact⟨⟨k+1,F,rfl,gR O (by simpa using I) U⟩,by simp only[aN];omega⟩
 ·have E:k=(bl s).length:=by rw[<-X]at E;exact geB Y E
  subst E;rw[Xad]at U;simp only[go_sem];refine cB ?_;unfold eA fA;rw[J,OU U];rfl
def acS(a b:ByteArray):Int:=if(eA a&&eA b)=true then hU (fG a) (fG b)else 0
def TQ(a b:ByteArray)(ha:a.size<=1048576)(J:b.size<=1048576):PC prog 289 [str a,str b] (int (acS a b)):=by
 refine pcd func289 rfl rfl ?_;simp only[go_sem];refine aG (BZ a (by omega)) ?_;simp only[go_sem];refine⟨_,fun _=>(BZ b (by omega)).q rfl,?_⟩;simp only[go_sem];refine aA (fun F=>?_) (fun F=>?_)
 ·simp only[go_sem];refine cI ?_;unfold acS;split
  ·rename_i O;simp only[Xai]at O;rw[O.1,O.2]at F;have:a=b:=lR.1 (by simpa[eqB]using F);rw[this,qS rfl]
  ·rfl
 have F:eA a=true/\eA b=true/\eqB a b=false:=by simp only[Xag,Xbq]at F;exact⟨F.1.1,F.1.2,F.2⟩
 obtain⟨h1,I,U⟩:=F;rw[show acS a b=hU (fG a) (fG b)from if_pos (by rw[h1,I];rfl)];rw[<-jO h1,<-jO I,nY]at *;generalize fG a=m at *;generalize fG b=n at *;have Y:m≠n:=fun e=>U (by rw[e])
 have Z:=jM m;have hn:=jM n;have E:∀{p q:Nat},(Lib.decDigits p).length<(Lib.decDigits q).length->p<q:=fun {p q} h=>by
  have h1:=(lE (n:=p) (k:=(Lib.decDigits p).length) (iR p)).1 (Xaf _);rcases Xav p q with I|I
  ·exact I
  ·have:=(lE (n:=q) (k:=(Lib.decDigits p).length) (iR p)).2 (by omega);omega
 simp only[go_sem,auO];have V:(decide (((dec m).size:Int)<(dec n).size)||((dec m).size:Int) == (dec n).size&&Op.bytesLess (bl (dec m)) (bl (dec n)))=decide (m<n):=by
  by_cases h1:(dec m).size=(dec n).size
  ·rw[adT h1,h1];simp
  ·rcases Xav (dec m).size (dec n).size with I|I
   ·have:=E (p:=m) (q:=n) (by omega);simp[this];omega
   ·have:=E (p:=n) (q:=m) (by omega);have U:¬m<n:=by omega
    have X:(((dec m).size:Int) == (dec n).size)=false:=by simp;omega
    rw[X];simp[U];omega
 rw[V];refine aA (fun J=>?_) (fun J=>?_)
 ·have:=of_decide_eq_true J;simp only[go_sem];exact cI (by rw[cE,cE,jD (by omega)])
 ·have:=of_decide_eq_false J;simp only[go_sem];exact cI (by rw[cE,cE,jF (by omega)])
def Qs(a b:ByteArray)(U:a.size<=1048576)(O:b.size<=1048576):PC prog 247 [str a,str b] (int (kB a b)):=by
 refine pcd func247 rfl rfl ?_;simp only[go_sem];refine aG (BZ a (by omega)) ?_;simp only[go_sem];refine⟨_,fun _=>(BZ b (by omega)).q rfl,?_⟩;simp only[go_sem];unfold kB;refine aA (fun F=>?_) (fun F=>?_)
 ·simp only[go_sem];exact cI (by rw[if_pos F])
 ·simp only[go_sem];have I:decide ((a.size:Int)>4096)=decide (a.size>4096):=by rw[decide_eq_decide];omega
  have J:decide ((b.size:Int)>4096)=decide (b.size>4096):=by rw[decide_eq_decide];omega
  rw[if_neg (by rw[F];simp),I,J];refine aA (fun E=>?_) (fun E=>?_)
  ·simp only[go_sem];exact cI (by rw[if_pos E])
  ·simp only[go_sem];exact cI (by rw[if_neg (by rw[E];simp)])
def Ed(d:Nat)(F:d<10):PC prog 291 [int d] (str (dec d)):=by
 refine pcd func291 rfl rfl ?_;simp only[go_sem];have I:IntKind.i64.wrap ((d:Int)+1)=((d+1:Nat):Int):=mS (by omega);rw[I];refine⟨⟨by omega,by omega,by show((d+1:Nat):Int)<=10;omega⟩,?_⟩;refine cS (lD ?_);rw[gC,iT,Lib.decDigits_one F];have E:∀e:Fin 10,(List.take (e.val+1) (bl ⟨#[48,49,50,51,52,53,54,55,56,57]⟩)).drop e.val=[UInt8.ofNat (48+e.val)]:=by decide
 exact E ⟨d,F⟩
def awA{l:List UInt8}{i:Nat}(h:i<l.length):(dl l).getD i 0=(l.getD (l.length-1-i) 0).toNat-48:=by
 have E:l.length-1-i<l.length:=by omega
 simp only[dl,List.getD,List.getElem?_reverse (show i<(l.map fun c=>c.toNat-48).length by simpa using h),Xab,List.getElem?_map,List.getElem?_eq_getElem E,Option.map_some,Xbo]
def Si(s:ByteArray)(O:(bl s).all isD=true)(i:Nat)(h:s.size<=1048576)(hi:i<=1048576):PC prog 332 [str s,int i] (int ((dl (bl s)).getD i 0:Nat)):=by
 have J:=cV s;refine pcd func332 rfl rfl ?_;simp only[go_sem];refine aA (fun F=>?_) (fun F=>?_)
 ·simp only[go_sem];refine cI ?_;have:=of_decide_eq_true F;have V:(dl (bl s)).getD i 0=0:=by simp only[List.getD,List.getElem?_eq_none (show(dl (bl s)).length<=i by rw[JW];omega),Option.getD_none]
  rw[V];rfl
 have F:i<s.size:=by have:=of_decide_eq_false F;omega
 have U:IntKind.i64.wrap (IntKind.i64.wrap ((s.size:Int)-1)-(i:Int))=((s.size-1-i:Nat):Int):=by rw[show IntKind.i64.wrap ((s.size:Int)-1)=(s.size:Int)-1 from aW (by omega),aW (by omega)];omega
 obtain⟨c,E⟩:=aK (l:=bl s) (k:=s.size-1-i) (by omega);have I:=nI.1 (Xaj.1 O c (Xac E));simp only[go_sem,U,Xaq,tD E,u8w I.1 (by omega)];refine⟨by omega,?_⟩;refine cI ?_;rw[awA (by omega),J,tD E,aW (by omega)]
def OK(s:ByteArray)(h:s.size<=1048576)(h0:bl s≠[])(Z:(bl s).all isD=true):PC prog 288 [str s] (str (dec (fG s))):=by
 refine pcd func288 rfl rfl ?_;simp only[go_sem];refine⟨fun ρ _=>∃t:ByteArray,ρ 0=str t/\bl t≠[]/\(bl t).all isD=true/\fG t=fG s/\t.size<=1048576,fun ρ _=>match ρ 0 with| .v (.string t)=>t.size|_=>0,⟨s,rfl,h0,Z,rfl,h⟩,?_⟩;rintro ρ H ⟨t,X,I,O,J,aa⟩;simp only[go_sem,X];have E:=cV t;refine⟨fun h=>⟨by omega,by have:=of_decide_eq_true h;omega⟩,aA (fun F=>?_) (fun F=>?_)⟩
 ·have F : t.size > 1 /\ ((bl t).getD 0 0).toNat = 48 := by simp only[Xai,decide_eq_true_eq,Xat]at F;omega
  simp only[go_sem,X];have V:bl (t.extract 1 t.size)=(bl t).drop 1:=by rw[gC,<-E,Xad]
  have e2:(t.extract 1 t.size).size=t.size-1:=by rw[<-cV,V,Xbj,E]
  refine⟨⟨by omega,by omega⟩,?_⟩;refine⟨⟨t.extract 1 t.size,rfl,?_,?_,?_,by omega⟩,by show(t.extract 1 t.size).size<t.size;omega⟩
  ·intro e;have:=congrArg List.length e;rw[cV,e2]at this;simp at this;omega
  ·rw[V,Xaj];intro c hc;exact Xaj.1 O c (List.mem_of_mem_drop hc)
  ·rw[<-J];unfold fG;rw[V];cases U:bl t with
   | nil=>exact absurd U I
   | cons c r=>
    rw[U]at F;have:=xN [c] r;rw[List.drop_one,List.tail_cons,show c::r=[c]++r from rfl,this];have Y:c.toNat=48:=by simpa using F.2
    simp[iJ,Y]
 ·simp only[go_sem,X];refine cS ?_;have hR:eA t=true:=by
   unfold eA fA;rw[O,Xbm];have:(bl t != [])=true:=by simpa using I
   rw[this,Xbc,Xbu,Xat,bne_iff_ne];by_cases h1:t.size>1
   ·refine .inr fun e=>?_
    rw[e]at F;simp[]at F;omega
   ·have:=List.length_pos_iff.2 I;exact .inl (by omega)
  rw[<-J,jO hR]
def RM{p q:Nat}(h:p<=q):(dec p).size<=(dec q).size:=by
 rw[jM,jM];rcases Xav (Lib.decDigits q).length (Lib.decDigits p).length with h1|h1
 ·exfalso;have E:=(lE (n:=q) (k:=(Lib.decDigits q).length) (iR q)).1 (Xaf _);have:=(lE (n:=p) (k:=(Lib.decDigits q).length) (iR q)).2 (by omega);omega
 ·exact h1
def acY{d:Nat}(E:d<10)(o:List Nat):Lib.decDigits d++txt o=txt (o++[d]):=by rw[Lib.decDigits_one E];simp[txt]
def Cm(n:Nat):(bl (dec n)).all isD=true:=by rw[iT];exact wY n
def aeI(n:Nat):ofL 10 (dl (bl (dec n)))=n:=by rw[Vo,iT,qP]
def amC(m n:Nat)(h:n<=m)(hm:(dec m).size<=1048576):PC prog 290 [str (dec m),str (dec n)] (str (dec (m-n))):=by
 have ac:=RM h;have dm:=Cm m;have dn:=Cm n;have vm:=aeI m;have vn:=aeI n;have lm:=Vz dm;have ln:=Vz dn;have zm:=cV (dec m);have zn:=cV (dec n);have ae:0<(dec m).size:=by rw[jM];exact iR m
 have xl:(dl (bl (dec m))).length=(dec m).size:=by rw[JW];omega
 have yl:(dl (bl (dec n))).length=(dec n).size:=by rw[JW];omega
 refine pcd func290 rfl rfl ?_;simp only[go_sem];refine⟨fun ρ _=>∃(i c:Nat) (t:ByteArray) (o:List Nat),i<=(dec m).size/\ρ 0=str (dec m)/\ρ 1=str (dec n)/\ρ 5=str t/\ρ 6=int c/\ρ 7=int i/\bl t=txt o/\Lim 10 o/\o.length=i/\c<=1/\ofL 10 o+ofL 10 ((dl (bl (dec n))).take i)=ofL 10 ((dl (bl (dec m))).take i)+10^i*c,fun ρ _=>(dec m).size-aR (ρ 7),
  ⟨0,0,emp,[],Xaa _,rfl,rfl,rfl,rfl,rfl,rfl,by simp[Lim],rfl,by omega,by simp[ofL]⟩,?_⟩
 rintro ρ H ⟨i,c,t,o,hi,h0,h1,V,h6,O,J,Z,U,hc,hv⟩;have ht:t.size=i:=by rw[<-cV,J];simp[txt,U]
 simp only[go_sem,h0,O];refine jQ hi (fun ad=>?_) (fun ab=>?_)
 ·have Y:(dl (bl (dec m))).getD i 0<10:=lm.getD (by omega) i;have X:(dl (bl (dec n))).getD i 0<10:=ln.getD (by omega) i;have af:=Gy (b:=10) Y X hc;have F:=Ag (b:=10) Y X hc;have aa:=Dr (b:=10) (x:=dl (bl (dec m))) (y:=dl (bl (dec n))) (c':=if(dl (bl (dec m))).getD i 0<(dl (bl (dec n))).getD i 0+c then 1 else 0) (d:=if(dl (bl (dec m))).getD i 0<(dl (bl (dec n))).getD i 0+c then(dl (bl (dec m))).getD i 0+10-((dl (bl (dec n))).getD i 0+c)else(dl (bl (dec m))).getD i 0-((dl (bl (dec n))).getD i 0+c)) U hv F.1;simp only[go_sem,h0,O];refine aG (Si (dec m) dm i (by omega) (by omega)) ?_;simp only[go_sem,h1,O];refine aG (Si (dec n) dn i (by omega) (by omega)) ?_;generalize (dl (bl (dec m))).getD i 0=a at *;generalize (dl (bl (dec n))).getD i 0=yi at *;have e1:IntKind.i64.wrap (IntKind.i64.wrap ((a:Int)-(yi:Int))-(c:Int))=(a:Int)-yi-c:=by rw[show IntKind.i64.wrap ((a:Int)-(yi:Int))=(a:Int)-yi from aW (by omega),aW (by omega)]
  simp only[go_sem,h6,e1];refine bK (fun E H'=>E 0=str (dec m)/\E 1=str (dec n)/\E 5=str t/\E 7=int i/\E 8=int (if a<yi+c then a+10-(yi+c)else a-(yi+c):Nat)/\E 6=int (if a<yi+c then 1 else 0:Nat)) ?_ fun K hK=>aA (fun I=>?_) (fun I=>?_)
  rotate_left
  ·have I:a<yi+c:=by simp at I;omega
   have e2:IntKind.i64.wrap ((a:Int)-yi-c+10)=((a+10-(yi+c):Nat):Int):=by rw[aW (by omega)];omega
   simp only[go_sem,e2];exact hK _ _ ⟨h0,h1,V,O,by simp only[go_sem,if_pos I],by simp only[go_sem,if_pos I];rfl⟩
  ·have I:¬a<yi+c:=by simp at I;omega
   simp only[go_sem,];refine hK _ _ ⟨h0,h1,V,O,?_,by simp only[go_sem,if_neg I];rfl⟩;simp only[go_sem,if_neg I]
   congr 2
   omega
  rintro ρ H ⟨h0,h1,V,O,h8,h6⟩;simp only[go_sem,h8];generalize (if a<yi+c then a+10-(yi+c)else a-(yi+c))=d at *;refine aG (Ed d F.2) ?_;have ag:(dec d).size=1:=by rw[jM,Bu];exact F.2
  simp only[go_sem,h0,h1,V,h6,O,aQ i];refine⟨by show(((dec d).size+t.size:Nat):Int)<=9223372036854775807;omega,?_⟩;exact⟨⟨i+1,_,_,_,ad,rfl,rfl,rfl,by rw[mV,iT,J,acY F.2],Z.snoc F.2,by simp[U],by split <;> omega,aa⟩,by simp only[aN];omega⟩
 ·simp only[go_sem,V];obtain⟨_,hV⟩:=E5 (b:=10) (y:=dl (bl (dec n))) (by decide) Z lm (by omega) (by omega) (by omega) hc (by rw[xl,<-ab];exact hv);refine aG (OK t (by omega) (fun e=>by rw[<-cV,e]at ht;simp at ht;omega) (by rw[J];exact aoM Z)) ?_;simp only[go_sem];refine cS ?_;unfold fG;rw[J,ajR Z,hV,vm,vn]
def akX{s:ByteArray}{k:Nat}{c:UInt8}(h:(bl s)[k]?=some c):bl (s.extract k (k+1))=[c]:=by rw[gC,bA h,List.drop_append_of_le_length (by simp;have:=(List.getElem?_eq_some_iff.1 h).1;omega)];simp
def akG(m n:Nat):acS (dec m) (dec n)=hU m n:=by unfold acS;rw[mK,mK,cE,cE];rfl
def NU{m n:Nat}:decide (hU m n>=0)=decide (n<=m):=by
 unfold hU;rw[decide_eq_decide];split
 ·simp;omega
 ·split <;> simp <;> omega
def ahB(r:Nat){c:UInt8}(F:isD c=true)(s:ByteArray)(E:bl s=[c]):(bl (dec r++s)).all isD=true/\bl (dec r++s)≠[]/\fG (dec r++s)=10*r+(c.toNat-48):=by
 refine⟨?_,?_,?_⟩
 ·rw[mV,E,List.all_append,Cm];simp[F]
 ·rw[mV,E];simp
 ·unfold fG;rw[mV,E,oP,iT,qP]
def acH{K M R:Nat}(F:M=10^K)(E:R<10*M):(dec R).size<=K+1:=by subst F;rw[jM];exact(lE (k:=K+1) (by omega)).2 (by rw[Xbk,Nat.mul_comm];exact E)
def atC:∃K,K=4096/\dA=10^K:=⟨akS,rfl,by unfold dA;rfl⟩
def aoR{R:Nat}(E:R<10*dA):(dec R).size<=4097:=by obtain⟨K,F,e⟩:=atC;have:=acH e E;omega
def arX:AV->Nat
 | .v (.string s)=>fG s
 | _=>0
def EI(n:Nat):arX (str (dec n))=n:=by show fG (dec n)=n;exact cE n
def asY(a b:ByteArray)(ha:a.size<=1048576)(hb:b.size<=1048576):PC prog 248 [str a,str b] (.tup [str (ES a b).1,str (ES a b).2.1,int (ES a b).2.2]):=by
 refine pcd func248 rfl rfl ?_;simp only[go_sem];refine aG (Qs a b ha hb) ?_;simp only[go_sem];apply aA <;> intro h
 ·have h:kB a b≠0:=by simpa using h
  simp only[go_sem];rw[show ES a b=(emp,emp,kB a b)from if_neg h];exact .refl _
 have h:kB a b=0:=by simpa using h
 obtain⟨m,n,rfl,rfl,hm,hn⟩:=sR h;rw[show ES (dec m) (dec n)=if n=0 then(emp,emp,10)else(dec (m/n),dec (m%n),0)by unfold ES;rw[if_pos h,cE,cE]];simp only[go_sem,oO];apply aA <;> intro h0
 ·have h0:n=0:=sV.1 (lR.1 h0);simp only[go_sem];rw[if_pos h0];exact .refl _
 have h0:n≠0:=fun e=>nY.1 h0 (by rw[e])
 rw[if_neg h0];have zm:=cV (dec m);have dm:=Cm m;have ag:0<(dec m).size:=by rw[jM];exact iR m
 simp only[go_sem];refine⟨fun ρ _=>∃(k r:Nat) (q:ByteArray),k<=(dec m).size/\ρ 0=str (dec m)/\ρ 1=str (dec n)/\ρ 8=str q/\ρ 9=str (dec r)/\ρ 10=int k/\q.size=k/\(bl q).all isD=true/\r<n/\iJ ((bl (dec m)).take k)=iJ (bl q)*n+r,fun ρ _=>(dec m).size-aR (ρ 10),
  ⟨0,0,emp,Xaa _,rfl,rfl,by simp only[go_sem];rfl,by simp only[go_sem];rw[wF],by simp only[go_sem];rfl,rfl,rfl,by omega,by simp[iJ,atX]⟩,?_⟩
 rintro ρ H ⟨k,r,q,hk,F,h1,h8,U,I,hq,Y,hr,V⟩;simp only[go_sem,F,I];refine jQ hk (fun ad=>?_) (fun O=>?_)
 ·obtain⟨c,hc⟩:=aK (l:=bl (dec m)) (k:=k) (by omega);have X:=Xaj.1 dm c (Xac hc);have aa:=akX hc;obtain⟨d1,d2,d3⟩:=ahB r X _ aa;have aj:=nI.1 X;have ak:=dY (Nat.lt_trans hr hn);have ah:((dec m).extract k (k+1)).size=1:=by rw[<-cV,aa];rfl
  simp only[go_sem,F,U,I,aQ k,Xaq];refine⟨⟨by omega,by omega,by omega⟩,by show(((dec r).size+((dec m).extract k (k+1)).size:Nat):Int)<=9223372036854775807;omega,?_⟩;have ae:=(iX r).2 (Nat.lt_trans hr hn);refine aG (OK _ (by rw[ByteArray.size_append];omega) d2 d1) ?_;rw[d3];generalize hR:10*r+(c.toNat-48)=R;have ai:R<10*n:=by omega
  have am:=aoR (show R<10*dA by omega);simp only[go_sem,];refine⟨fun ρ _=>∃(d r':Nat),ρ 0=str (dec m)/\ρ 1=str (dec n)/\ρ 8=str q/\ρ 10=int k/\ρ 9=str (dec r')/\ρ 11=int d/\d*n+r'=R,fun ρ _=>arX (ρ 9),
   ⟨0,R,F,h1,h8,I,rfl,by simp only[go_sem];rfl,by omega⟩,?_⟩
  rintro ρ H ⟨d,r',F,h1,h8,I,U,Z,hd⟩;have af:=RM (show r'<=R by omega);simp only[go_sem,h1,U,];refine aG (TQ (dec r') (dec n) (by omega) (dY hn)) ?_;rw[akG];simp only[go_sem,NU];have E:d<10:=by
   rcases Xav d 10 with h|h
   ·exact h
   ·have:=Xcy n h;omega
  have e0:∀{x y:Nat},decide ((y:Int)<=(x:Int))=decide (y<=x):=fun {x y}=>by rw[decide_eq_decide];omega
  refine aA (fun O=>?_) (fun J=>?_)
  ·have O:n<=r':=by have:=of_decide_eq_true O;omega
   simp only[go_sem,h1,U,];refine aG (amC r' n O (by omega)) ?_;simp only[go_sem,F,h1,h8,I,Z,aQ d];refine⟨⟨d+1,r'-n,rfl,rfl,by rw[Nat.add_mul];omega⟩,?_⟩;rw[EI,EI];omega
  ·have J:r'<n:=by have:=of_decide_eq_false J;omega
   simp only[go_sem,h8,Z];refine aG (Ed d E) ?_;have al:(dec d).size=1:=by rw[jM,Bu];exact E
   simp only[go_sem,F,h1,U,I,aQ k];refine⟨by show((q.size+(dec d).size:Nat):Int)<=9223372036854775807;omega,?_⟩;refine⟨⟨k+1,r',_,ad,rfl,rfl,rfl,by rw[ByteArray.size_append];omega,?_,J,?_⟩,by simp only[aN];omega⟩
   ·rw[mV,List.all_append,Y,Cm];rfl
   ·rw[bA hc,oP,V,mV,iT,Lib.decDigits_one E,oP,oF E,show 48+d-48=d by omega,Nat.add_mul,Nat.mul_assoc];omega
 ·simp only[go_sem,h8];refine aG (OK q (by omega) (fun e=>by rw[<-cV,e]at hq;simp at hq;omega) Y) ?_;simp only[go_sem,U];rw[O,Xan (by omega),iT,qP]at V;have V:m=fG q*n+r:=V;have ac:m/n=fG q:=by rw[V,Xcm,Nat.add_mul_div_right _ _ (by omega),Nat.div_eq_of_lt hr,Xce]
  have ab:m%n=r:=by rw[V,Xcm,Nat.add_mul_mod_self_right,Xbl hr]
  rw[ac,ab];exact .refl _
def afO(a b:ByteArray)(V:a.size<=1048576)(F:b.size<=1048576):PC prog 208 [str a,str b] (.tup [str (Ba a b).1,int (Ba a b).2]):=by
 refine pcd func208 rfl rfl ?_;simp only[go_sem];refine aG (Qs a b V F) ?_;simp only[go_sem];apply aA <;> intro h
 ·have h:kB a b≠0:=by simpa using h
  simp only[go_sem];rw[show Ba a b=(emp,kB a b)from if_neg h];exact .refl _
 have h:kB a b=0:=by simpa using h
 obtain⟨m,n,rfl,rfl,X,Y⟩:=sR h;rw[show Ba (dec m) (dec n)=szN (Nat.gcd m n)by unfold Ba;rw[if_pos h,cE,cE]];simp only[go_sem];refine⟨fun ρ _=>∃(x y:Nat),ρ 0=str (dec x)/\ρ 1=str (dec y)/\x<dA/\y<dA/\Nat.gcd m n=Nat.gcd x y,fun ρ _=>arX (ρ 1),⟨m,n,rfl,rfl,X,Y,rfl⟩,?_⟩;rintro ρ H ⟨x,y,h0,h1,I,O,U⟩;simp only[go_sem,h1,oO];apply aA <;> intro F
 ·have E : y ≠ 0 := fun e => by rw[e,show eqB (dec 0) (dec 0)=true from lR.2 rfl]at F;cases F
  simp only[go_sem,h0,h1];refine aG (asY (dec x) (dec y) (dY I) (dY O)) ?_;rw[QD I O E];simp only[go_sem,h1];have J:=Xbx x (show 0<y by omega);refine⟨⟨y,x%y,rfl,rfl,O,by omega,?_⟩,by rw[EI,EI];exact J⟩;rw[U,Nat.gcd_comm x y,Nat.gcd_rec y x,Nat.gcd_comm]
 ·have E : y = 0 := by
   have:eqB (dec y) (dec 0)=true:=by simpa using F
   exact sV.1 (lR.1 this)
  simp only[go_sem,h0];rw[U,E,Nat.gcd_zero_right,AD I];exact .refl _
def Vw(c d:UInt8):(((c.toNat:Nat):Int) == ((d.toNat:Nat):Int))=(c == d):=by rw[Xap,Xat,Xat,Int.ofNat_inj,UInt8.toNat_inj]
def zH(s:ByteArray):(decide ((s.size:Int)>0)&&(((bl s).getD 0 0).toNat:Int) == 45)=fU s:=by
 rw[<-cV];unfold fU;cases bl s with
 | nil=>rfl
 | cons c r=>rw[show decide ((((c::r).length:Nat):Int)>0)=true by simp];simp only[List.getD_cons_zero,List.head?_cons,Xbc];rw[show(some c == some (45:UInt8))=(c == 45)from rfl];exact Vw c 45
def stN(s:ByteArray):Nat:=if fU s=true then 1 else 0
def xL(s:ByteArray):bl (eM s)=(bl s).drop (stN s):=by
 unfold eM stN;split
 ·exact kC _
 ·rw[Xbw]
def NN(s:ByteArray):stN s<=(bl s).length:=by
 unfold stN;split
 ·rename_i h;unfold fU at h;cases E:bl s with
  | nil=>rw[E]at h;cases h
  | cons c r=>simp
 ·omega
def NP{s:ByteArray}{c:UInt8}(h1:(bl s)[stN s]?=some c)(J:((bl s).drop (stN s)).all isD=true):fH s=((c != 48)||bl s == [48]):=by
 obtain⟨U,X⟩:=List.getElem?_eq_some_iff.1 h1;have I:bl (eM s)=c::(bl s).drop (stN s+1):=by rw[xL,Xci U,X]
 have Y:eqB (eM s) (dec 0)=(c::(bl s).drop (stN s+1) == [48]):=by rw[<-oO,I]
 have J:(c::(bl s).drop (stN s+1)).all isD=true:=by rw[<-I,xL];exact J
 unfold fH eA fA;rw[Y,I];rw[J,Xbm,show((c::(bl s).drop (stN s+1)) != [])=true from rfl,Xbc,List.getD_cons_zero];by_cases E:fU s=true
 ·have Z : (bl s == [48]) = false := by
   unfold fU at E;cases O:bl s with
   | nil=>rw[O]at E;cases E
   | cons x r=>
    rw[O]at E;have:x=45:=by simpa using E
    subst this;rfl
  rw[E,Z];cases hr:(bl s).drop (stN s+1)with
  | nil=>cases F:(c == 48) <;> simp[bne,F] <;> simpa using F
  | cons y r=>cases F:(c == 48) <;> simp[bne,F]
 ·have V:eM s=s:=if_neg E;have E:fU s=false:=by simpa using E
  rw[V]at I;rw[E,Bool.false_and,Xda,Xbm,show(bl s == [48])=(c::(bl s).drop (stN s+1) == [48])by rw[<-I]];cases hr:(bl s).drop (stN s+1)with
  | nil=>cases F:(c == 48) <;> simp[bne,F]
  | cons y r=>cases F:(c == 48) <;> simp[bne,F]
def zJ(s:ByteArray)(h:s.size<=1048576):PC prog 159 [str s] (boo (fH s)):=by
 have hs:=cV s;have ab:=NN s;refine pcd func159 rfl rfl ?_;simp only[go_sem];refine⟨fun h=>⟨by omega,by have:=of_decide_eq_true h;omega⟩,?_⟩;rw[zH];refine bK (fun Y H'=>Y 0=str s/\Y 3=int (stN s:Nat)) ?_ fun K hK=>aA (fun J=>?_) (fun J=>?_)
 rotate_left
 ·simp only[go_sem];exact hK _ _ ⟨rfl,by simp only[go_sem];rw[show stN s=1 from if_pos J];rfl⟩
 ·simp only[go_sem];exact hK _ _ ⟨rfl,by simp only[go_sem];rw[show stN s=0 from if_neg (by rw[J];simp)];rfl⟩
 rintro ρ H ⟨h0,U⟩;simp only[go_sem,h0,U];apply aA <;> intro J
 ·simp only[go_sem];refine cB ?_;have he:s.size=stN s:=by rw[Xat]at J;omega
  unfold fH eA fA;rw[xL,Xcf (by omega)];rfl
 have aa:stN s<(bl s).length:=by rw[beq_eq_false_iff_ne]at J;omega
 simp only[go_sem,U];refine⟨fun ρ _=>∃k:Nat,stN s<=k/\k<=(bl s).length/\ρ 0=str s/\ρ 3=int (stN s:Nat)/\ρ 4=int k/\∀c∈((bl s).take k).drop (stN s),isD c=true,fun ρ _=>(bl s).length-aR (ρ 4),⟨stN s,Xaf _,by omega,h0,U,rfl,by rw[Xcf (by simp;omega)];simp⟩,?_⟩;rintro ρ H ⟨k,ac,hk,h0,U,Z,hz⟩;simp only[go_sem,h0,Z];refine aA (fun E=>?_) (fun F=>?_)
 ·have E:k<(bl s).length:=by have:=ltB E;omega
  obtain⟨c,O⟩:=aK E;have hi:=tD O;simp only[go_sem,h0,Z,hi,NK];have X:((bl s).take (k+1)).drop (stN s)=((bl s).take k).drop (stN s)++[c]:=by rw[bA O,List.drop_append_of_le_length (by rw[Xas];omega)]
  refine⟨⟨by omega,by omega⟩,fun _=>⟨by omega,by omega⟩,aA (fun I=>?_) (fun I=>?_)⟩
  ·simp only[go_sem];refine cB ?_;unfold fH eA fA;rw[xL];rw[Ul (k:=k-stN s) (c:=c) (by rw[List.getElem?_drop,show stN s+(k-stN s)=k by omega];exact O) (by simpa using I)];simp
  ·simp only[go_sem,h0,U,Z,aQ k];refine⟨⟨k+1,by omega,E,rfl,?_⟩,msr E⟩;rw[X];intro x V;rcases Xba.1 V with V|V
   ·exact hz x V
   ·rw[Xaw.1 V];simpa using I
 ·have F:k=(bl s).length:=by rw[<-hs]at F;exact geB hk F
  subst F;rw[Xad]at hz;obtain⟨c,O⟩:=aK aa;simp only[go_sem,h0,U,tD O];refine⟨⟨by omega,by omega⟩,?_⟩;refine cB ?_;rw[NP O (OU hz)]
  congr 1
  rw[bne,bne,<-Vw c 48];rfl
def Fp(s:ByteArray)(h:s.size<=1048576):PC prog 214 [str s] (int (eM s).size):=by
 have I:=cV s;refine pcd func214 rfl rfl ?_;simp only[go_sem];refine⟨fun h=>⟨by omega,by have:=of_decide_eq_true h;omega⟩,?_⟩;rw[zH];have J:(eM s).size=s.size-stN s:=by rw[<-cV,xL,Xbj,I]
 have F:=NN s;apply aA <;> intro E
 ·have:stN s=1:=if_pos E;simp only[go_sem];refine cI ?_;rw[aW (by omega)];omega
 ·have:stN s=0:=if_neg (by rw[E];simp);simp only[go_sem];exact cI (by omega)
def EO(a b:ByteArray)(U:a.size<=1048576)(J:b.size<=1048576):PC prog 154 [str a,str b] (int (kL a b)):=by
 refine pcd func154 rfl rfl ?_;simp only[go_sem];refine aG (zJ a (by omega)) ?_;simp only[go_sem];refine⟨_,fun _=>(zJ b (by omega)).q rfl,?_⟩;simp only[go_sem];unfold kL;apply aA <;> intro F
 ·simp only[go_sem];exact cI (by rw[if_pos F])
 ·simp only[go_sem];refine aG (Fp a U) ?_;simp only[go_sem];refine⟨_,fun _=>(Fp b J).q rfl,?_⟩;simp only[go_sem];have I:decide (((eM a).size:Int)>4096)=decide ((eM a).size>4096):=by rw[decide_eq_decide];omega
  have O:decide (((eM b).size:Int)>4096)=decide ((eM b).size>4096):=by rw[decide_eq_decide];omega
  rw[if_neg (by rw[F];simp),I,O];apply aA <;> intro E
  ·simp only[go_sem];exact cI (by rw[if_pos E])
  ·simp only[go_sem];exact cI (by rw[if_neg (by rw[E];simp)])
def acC{n:Int}(h:(!decide (n.natAbs<dA))=true):szZ n=(emp,4):=if_neg (fun E=>by rw[decide_eq_true E]at h;cases h)
def MM(n:Int)(h:(zed n).size<=1048576):PC prog 249 [str (zed n)] (.tup [str (szZ n).1,int (szZ n).2]):=by
 refine pcd func249 rfl rfl ?_;simp only[go_sem];refine aG (Fp (zed n) h) ?_;simp only[go_sem];have F:decide (((eM (zed n)).size:Int)>4096)= !decide (n.natAbs<dA):=by rw[<-decide_not,decide_eq_decide];have:=rV n;omega
 rw[F];apply aA <;> intro E
 ·simp only[go_sem];rw[acC E];exact .refl _
 ·simp only[go_sem];rw[show szZ n=(zed n,0)from if_pos (by simpa using E)];exact .refl _
def amH(l:List Nat)(h:l.length<=4611686018427387904):PC prog 111 [.sl (l.map gB)] (.sl ((oS l).map gB)):=by
 refine pcd func111 rfl rfl ?_;simp only[go_sem];refine⟨fun ρ _=>∃k:Nat,k<=l.length/\ρ 0=.sl (l.map gB)/\ρ 3=int k/\oS (l.take k)=oS l,fun ρ _=>aR (ρ 3),⟨l.length,Xaf _,rfl,rfl,by rw[Xad]⟩,?_⟩;rintro ρ H ⟨k,hk,h0,F,J⟩;cases k with
 | zero=>
  have U:oS l=[]:=by rw[<-J];rfl
  have X:(IntKind.i64.wrap (((0:Nat):Int)-1)).toNat=0:=rfl;rw[U];cases l with
  | nil=>simp only[go_sem,h0,F,X,Xbv,List.getD_nil,show decide (((0:Nat):Int)>0)=false from rfl];refine aA (fun I=>by cases I) (fun _=>?_);simp only[go_sem,h0,F];exact⟨⟨by omega,by omega⟩,.refl _⟩
  | cons x l=>simp only[go_sem,h0,F,X,Xbf,List.getD_cons_zero,show decide (((0:Nat):Int)>0)=false from rfl];refine aA (fun I=>by cases I) (fun _=>?_);simp only[go_sem,h0,F];exact⟨⟨by omega,by omega⟩,.refl _⟩
 | succ k=>
 have Y:IntKind.i64.wrap (((k+1:Nat):Int)-1)=(k:Int):=by rw[aW (by omega)];omega
 obtain⟨x,V⟩:=aK (show k<l.length by omega);have O:l.take (k+1)=l.take k++[x]:=bA V;have Z:=inB (show k<l.length by omega);simp only[go_sem,h0,F,Y,aD V,Z,show decide (((k+1:Nat):Int)>0)=true from decide_eq_true (by omega)];apply aA <;> intro I
 ·have E:x=0:=by simpa using I
  simp only[go_sem,h0,F,Y];refine⟨⟨k,by omega,rfl,?_⟩,?_⟩
  ·rw[O,yO,if_pos E]at J;exact J
  ·simp only[aN];omega
 ·have E:x≠0:=by simpa using I
  simp only[go_sem,h0,F];rw[O,yO,if_neg E]at J;rw[<-List.map_take,O,J];exact⟨⟨by omega,by omega⟩,.refl _⟩
def tG(l:List Nat)(i:Nat)(hi:i<=4611686018427387904)(h:l.length<=4611686018427387904):PC prog 215 [.sl (l.map gB),int i] (int (l.getD i 0:Nat)):=by
 refine pcd func215 rfl rfl ?_;simp only[go_sem];apply aA <;> intro E
 ·have E:i<l.length:=by simpa using E
  obtain⟨x,F⟩:=aK E;have I:=inB E;simp only[go_sem,aD F,I];exact cI (by simp[List.getD,F])
 ·have E:l.length<=i:=by simpa using E
  simp only[go_sem];exact cI (by simp[List.getD,List.getElem?_eq_none E])
abbrev dg(n:Nat):AV:=.sl ((aY 10 n).map gB)
def JY{l:List Nat}(F:Lim 10 l)(h:l.length<=4611686018427387904){n:Nat}(E:ofL 10 l=n):PC prog 111 [.sl (l.map gB)] (dg n):=by
 have:=amH l h
 rwa [NB (by decide) F E]at this
def upN:AV->Nat
 | .v (.int _ n)=>(n+1).toNat
 | _=>0
def El(k:IntKind)(n:Int):upN (.v (.int k n))=(n+1).toNat:=(rfl)
def amQ(c:UInt8)(l:List UInt8):dl (c::l)=dl l++[c.toNat-48]:=by simp[dl]
def aqJ{k:Nat}(h:k<=4611686018427387904):IntKind.i64.wrap ((k:Int)-1-1)=(k:Int)-1-1:=aW (by omega)
def rL(n:Int)(h:(zed n).size<=1048576):PC prog 155 [str (zed n)] (.tup [boo (decide (n<0)),dg n.natAbs]):=by
 have hs:=cV (zed n);have hr:eA (eM (zed n))=true:=by rw[jP];exact mK _
 have J:=xL (zed n);have aj:=NN (zed n);have I:((bl (zed n)).drop (stN (zed n))).all isD=true:=by rw[<-J,jP];exact Cm _
 have ai:stN (zed n)<(bl (zed n)).length:=by
  have h1:0<(bl (eM (zed n))).length:=by rw[jP,iT];exact iR _
  rw[J,Xbj]at h1;omega
 have hm:(((((bl (zed n)).getD 0 0).toNat:Nat):Int) == 45)=fU (zed n):=by rw[<-zH,show decide (((zed n).size:Int)>0)=true by simp;omega,Xbc]
 refine pcb (fun t=>t == 4) func155 rfl rfl ?_;simp only[go_sem];refine aL fun j hj=>?_
 simp only[go_sem,hm];refine⟨⟨by omega,by omega⟩,?_⟩;refine⟨fun ρ H=>∃(k j:Nat),k<=(bl (zed n)).length/\ρ 0=str (zed n)/\ρ 5=boo (fU (zed n))/\ρ 4=.os j/\ρ 6=int ((k:Int)-1)/\H j=some (bY (dl ((bl (zed n)).drop (max k (stN (zed n)))))),fun ρ _=>upN (ρ 6),
  ⟨(bl (zed n)).length,j,Xaf _,rfl,rfl,rfl,by simp only[go_sem];rw[hs,aW (by omega)],?_⟩,?_⟩
 ·rw[aB,Xcf (by omega)];rfl
 clear hj j;rintro ρ H ⟨k,j,hk,h0,h5,h4,X,Rj⟩;simp only[go_sem,X];refine aA (fun F=>?_) (fun ag=>?_)
 ·have F:0<k:=by have:=of_decide_eq_true F;omega
  obtain⟨c,O⟩:=aK (l:=bl (zed n)) (k:=k-1) (by omega);have ei:((k:Int)-1).toNat=k-1:=by omega
  have ab:(bl (zed n)).drop (k-1)=c::(bl (zed n)).drop k:=by obtain⟨ac,e⟩:=List.getElem?_eq_some_iff.1 O;rw[Xci ac,e,show k-1+1=k by omega]
  simp only[go_sem,h0,X,ei,tD O];refine⟨⟨by omega,by omega⟩,?_⟩;by_cases Z:k-1<stN (zed n)
  ·have E : fU (zed n) = true := by
    unfold stN at Z;split at Z
    ·assumption
    ·omega
   have aa:stN (zed n)=1:=if_pos E;have ae:k=1:=by omega
   subst ae;have V:c=45:=by
    unfold fU at E;cases U:bl (zed n)with
    | nil=>rw[U]at E;cases E
    | cons x r=>
     rw[U]at E O;have h1:x=45:=by simpa using E
     have h2:x=c:=by simpa using O
     rw[<-h2,h1]
   subst V;refine aA (fun U=>by cases U) (fun _=>?_);simp only[go_sem,h0,h5,h4,X];refine⟨⟨0,j,by omega,rfl,rfl,?_⟩,?_⟩
   ·rw[Rj,aa];rfl
   ·simp only[El];decide
  ·have ad : isD c = true := Xaj.1 I c (by refine Xac (i:=k-1-stN (zed n)) ?_;rw[List.getElem?_drop,show stN (zed n)+(k-1-stN (zed n))=k-1 by omega];exact O);have af:=nI.1 ad;refine aA (fun _=>?_) (fun U=>?_);rotate_left
   ·exfalso;have:c.toNat=45:=by have:((c.toNat:Int) != 45)=false:=U;rw[bne_eq_false_iff_eq]at this;omega
    omega
   simp only[go_sem,h0,h4,X,ei,tD O];refine⟨⟨by omega,by omega⟩,?_⟩;have ah:IntKind.i64.wrap (IntKind.u8.wrap ((c.toNat:Int)-48))=((c.toNat-48:Nat):Int):=by rw[u8w af.1 (by omega),aW (by omega)]
   rw[ah];refine aZ Rj ⟨rfl,rfl⟩ ⟨rfl,trivial⟩ (by simp only[bY,Xab,JW,Xbj,Xah,List.length_nil];omega) (fun j' ak=>?_);simp only[go_sem,h0,h5,X,aqJ (show k<=4611686018427387904 by omega)];refine⟨⟨k-1,j',by omega,rfl,?_,?_⟩,?_⟩
   ·rw[show(k:Int)-1-1=((k-1:Nat):Int)-1 by omega]
   ·rw[show max k (stN (zed n))=k by omega,show max (k-1) (stN (zed n))=k-1 by omega,ab,amQ];exact rI
   ·simp only[El];omega
 ·have F:k=0:=by have:=of_decide_eq_false ag;omega
  subst F;simp only[go_sem,h5,h4];rw[Nat.max_eq_right (by omega)]at Rj;have Y:=Vz I;refine PC.useF [j] (.cons _ _ _ _ (.row _ _ _ (by simp only[Xaw,if_true];exact Rj) (ConvE.refl _)) .nil) (JY (n:=n.natAbs) Y (by rw[JW,Xbj];omega) (by rw[Vo,<-J,jP,iT,qP])) ?_;simp only[go_sem,sE];exact .refl _
def L4(l:List UInt8):Row:=⟨5,1,l.map fun c=>[.v (.int .u8 (c.toNat:Nat))]⟩
def afU(l:List UInt8):tX (l.map fun c=>[.v (.int .u8 (c.toNat:Nat))])=some (l.map fun c=>((c.toNat:Nat):Int)):=by
 induction l with
 | nil=>rfl
 | cons c l ih=>simp only[Xbf,tX,ih,Option.map_some]
def ZT(l:List UInt8):bl (strOfNums (l.map fun c=>((c.toNat:Nat):Int)))=l:=by
 rw[strOfNums,kC,List.map_map]
 conv=>rhs;rw[<-List.map_id l]
 refine List.map_congr_left fun c _=>?_
 simp
def XK(m:Bool)(l:List Nat)(hl:Lim 10 l)(h:l.length<=1048576):PC prog 63 [boo m,.sl (l.map gB)] (str (zed (sg m (ofL 10 l)))):=by
 have ae:=JY hl (by omega) rfl;have I:=cP (b:=10) (by decide) (ofL 10 l);have ag:(aY 10 (ofL 10 l)).length<=l.length:=iO (by decide) (kP (by decide) hl);have af:=cU (b:=10) (by decide) (ofL 10 l);refine pcb (fun t=>t == 5||t == 32) func63 rfl rfl ?_;simp only[go_sem];refine aG ae ?_;generalize ofL 10 l=n at *;simp only[go_sem,Xab];refine aA (fun F=>?_) (fun F=>?_)
 ·have h0 : n = 0 := by
   have:(aY 10 n).length=0:=by rw[Xat]at F;omega
   exact(qD (by decide)).1 (Xcg.1 this)
  simp only[go_sem];refine cS ?_;rw[h0,wF];unfold sg;split <;> exact(dF 0).symm
 have h0:n≠0:=fun e=>by rw[e,dZ]at F;cases F
 simp only[go_sem];refine aL fun j hj=>?_
 simp only[go_sem];refine bK (fun U H'=>∃j,U 1=dg n/\U 5=.os j/\H' j=some (L4 (if m=true then[45]else[]))) ?_ fun K hK=>aA (fun F=>?_) (fun F=>?_)
 rotate_left
 ·simp only[go_sem];refine aZ (aB _ _ _) ⟨rfl,rfl⟩ ⟨rfl,trivial⟩ (by simp) (fun X ac=>?_);simp only[go_sem];exact hK _ _ ⟨X,rfl,rfl,by rw[aB,if_pos F];rfl⟩
 ·simp only[go_sem];exact hK _ _ ⟨j,rfl,rfl,by rw[aB,if_neg (by rw[F];simp)];rfl⟩
 clear hj j;rintro ρ H ⟨j,h1,O,J⟩;simp only[go_sem,h1,Xab];refine⟨fun ρ H=>∃(k j:Nat),k<=(aY 10 n).length/\ρ 1=dg n/\ρ 5=.os j/\ρ 6=int ((k:Int)-1)/\H j=some (L4 ((if m=true then[45]else[])++txt ((aY 10 n).drop k))),fun ρ _=>upN (ρ 6),
  ⟨(aY 10 n).length,j,Xaf _,h1,O,by simp only[go_sem,];rw[aW (by omega)],by rw[Xcl];simpa[txt]using J⟩,?_⟩
 clear h1 O J j;rintro ρ H ⟨k,j,hk,h1,O,h6,J⟩;simp only[go_sem,h6];refine aA (fun E=>?_) (fun ad=>?_)
 ·have E:0<k:=by have:=of_decide_eq_true E;omega
  obtain⟨x,V⟩:=aK (l:=aY 10 n) (k:=k-1) (by omega);have ei:((k:Int)-1).toNat=k-1:=by omega
  have ab:x<10:=I x (Xac V);have Y:(aY 10 n).drop (k-1)=x::(aY 10 n).drop k:=by obtain⟨Z,e⟩:=List.getElem?_eq_some_iff.1 V;rw[Xci Z,e,show k-1+1=k by omega]
  have b1:0<=(k:Int)-1/\(k:Int)-1<((aY 10 n).length:Nat):=by omega
  simp only[go_sem,h1,O,h6,ei,aD V,b1,Xab];have ew:IntKind.u8.wrap (IntKind.i64.wrap (48+(x:Int)))=(((UInt8.ofNat (48+x)).toNat:Nat):Int):=by rw[oF ab,show IntKind.i64.wrap (48+(x:Int))=48+(x:Int)from aW (by omega),show IntKind.u8.wrap (48+(x:Int))=(48+(x:Int))%256 from rfl];omega
  rw[ew];have aa:∀(p q:List UInt8),(L4 (p++q)).es.length=p.length+q.length:=fun p q=>by simp[L4]
  refine aZ J ⟨rfl,rfl⟩ ⟨rfl,trivial⟩ ?_ (fun X ac=>?_)
  ·rw[aa];have h2:(if m=true then[45]else[]:List UInt8).length<=1:=by split <;> simp
   simp only[txt,List.length_reverse,Xab,Xbj,Xah,List.length_nil];omega
  simp only[go_sem,h1,h6,aqJ (show k<=4611686018427387904 by omega)];refine⟨⟨k-1,X,by omega,rfl,?_,?_⟩,?_⟩
  ·rw[show(k:Int)-1-1=((k-1:Nat):Int)-1 by omega]
  ·rw[aB,Y];simp only[L4,txt,Xbf,List.reverse_cons,Xal,Xbv,Xax]
  ·simp only[El];omega
 ·have E:k=0:=by have:=of_decide_eq_false ad;omega
  subst E;simp only[go_sem];refine Cf O J fun Hr _ _=>?_
  simp only[go_sem,L4,afU];refine cS (lD ?_);rw[ZT,F3 h0];unfold sg;cases m with
  | true=>rw[if_pos rfl,if_pos rfl,EH (by omega),kC];rfl
  | false=>rw[if_neg (by simp),if_neg (by simp),dF,iT];rfl
def Xy{l:List Nat}(h:Lim 10 l)(k:Nat):ofL 10 (l.take k)<10^k:=by have h1:=kP (b:=10) (by decide) (h.take k);have E:10^(l.take k).length<=10^k:=Xau (by decide) (by rw[Xas];omega);omega
def adH{x y:List Nat}(E:Lim 10 x)(F:Lim 10 y)(k:Nat):hU (ofL 10 (x.take (k+1))) (ofL 10 (y.take (k+1)))=if x.getD k 0<y.getD k 0 then -1 else if y.getD k 0<x.getD k 0 then 1 else hU (ofL 10 (x.take k)) (ofL 10 (y.take k)):=by
 have h1:=Xy E k;have O:=Xy F k;rw[uW,uW];generalize ofL 10 (x.take k)=p at *;generalize ofL 10 (y.take k)=q at *;generalize x.getD k 0=a at *;generalize y.getD k 0=b at *;generalize 10^k=T at *;split
 ·rename_i h;have:T*(a+1)<=T*b:=Nat.mul_le_mul_left _ h;rw[Nat.mul_add]at this;rw[jD (by omega)]
 ·split
  ·rename_i h;have:T*(b+1)<=T*a:=Nat.mul_le_mul_left _ h;rw[Nat.mul_add]at this;rw[jF (by omega)]
  ·have:a=b:=by omega
   subst this;unfold hU;have I:(((p+T*a:Nat):Int)<((q+T*a:Nat):Int))↔((p:Int)<(q:Int)):=by omega
   have J:(((q+T*a:Nat):Int)<((p+T*a:Nat):Int))↔((q:Int)<(p:Int)):=by omega
   simp only[I,J]
def zR(m n:Nat)(hm:(aY 10 m).length<=1048576)(hn:(aY 10 n).length<=1048576):PC prog 160 [dg m,dg n] (int (hU m n)):=by
 have om:=cU (b:=10) (by decide) m;have on:=cU (b:=10) (by decide) n;have Z:=cP (b:=10) (by decide) m;have Y:=cP (b:=10) (by decide) n;simp only[dg];generalize aY 10 m=x at *;generalize aY 10 n=y at *;have O:eV (x.length:Int) (y.length:Int)=((max x.length y.length:Nat):Int):=by unfold eV;split <;> omega
 refine pcd func160 rfl rfl ?_;simp only[go_sem];simp only[O];refine⟨fun ρ _=>∃k:Nat,k<=max x.length y.length/\ρ 0=.sl (x.map gB)/\ρ 1=.sl (y.map gB)/\ρ 5=int ((k:Int)-1)/\hU m n=hU (ofL 10 (x.take k)) (ofL 10 (y.take k)),fun ρ _=>upN (ρ 5),
  ⟨max x.length y.length,Xaf _,rfl,rfl,by simp only[go_sem];rw[aW (by omega)],by rw[Xan (by omega),Xan (by omega),om,on]⟩,?_⟩
 rintro ρ H ⟨k,hk,h0,h1,J,U⟩;simp only[go_sem,J];refine aA (fun I=>?_) (fun V=>?_)
 ·obtain⟨i,rfl⟩:∃i,k=i+1:=⟨k-1,by have:=of_decide_eq_true I;omega⟩;have X:((i+1:Nat):Int)-1=(i:Int):=by omega
  rw[X]at J;rw[adH Z Y i]at U;simp only[go_sem,h0,J,X];refine aG (tG x i (by omega) (by omega)) ?_;simp only[go_sem,h1,J];refine aG (tG y i (by omega) (by omega)) ?_;simp only[go_sem,];refine aA (fun F=>?_) (fun F=>?_)
  ·have F:=ltB F;simp only[go_sem];exact cI (by rw[U,if_pos F])
  have F:¬x.getD i 0<y.getD i 0:=by simpa using F
  simp only[go_sem,h0,J];refine aG (tG x i (by omega) (by omega)) ?_;simp only[go_sem,h1,J];refine aG (tG y i (by omega) (by omega)) ?_;simp only[go_sem,];refine aA (fun E=>?_) (fun E=>?_)
  ·have E:y.getD i 0<x.getD i 0:=by simpa using E
   simp only[go_sem];exact cI (by rw[U,if_neg F,if_pos E])
  have E:¬y.getD i 0<x.getD i 0:=by simpa using E
  simp only[go_sem,h0,h1,J,show IntKind.i64.wrap ((i:Int)-1)=(i:Int)-1 from aW (by omega)];exact⟨⟨i,by omega,rfl,by rw[U,if_neg F,if_neg E]⟩,by simp only[El];omega⟩
 ·have I:k=0:=by have:=of_decide_eq_false V;omega
  subst I;simp only[go_sem];exact cI (by rw[U];rfl)
def XC(m n:Nat)(hm:(aY 10 m).length<=1048576)(hn:(aY 10 n).length<=1048576):PC prog 157 [dg m,dg n] (dg (m+n)):=by
 have om:=cU (b:=10) (by decide) m;have on:=cU (b:=10) (by decide) n;have lm:=cP (b:=10) (by decide) m;have ln:=cP (b:=10) (by decide) n;have J:∀l:List Nat,Lim 10 l->l.length<=4611686018427387904->ofL 10 l=m+n->PC prog 111 [.sl (l.map gB)] (dg (m+n)):=fun l h1 h2 h3=>JY h1 h2 h3
 simp only[dg]at J |-;generalize aY 10 m=x at *;generalize aY 10 n=y at *;generalize aY 10 (m+n)=z at *;refine pcb (fun t=>t == 5) func157 rfl rfl ?_;simp only[go_sem];refine aL fun j hj=>?_
 simp only[go_sem];refine⟨fun ρ H=>∃(i c j:Nat) (o:List Nat),i<=max x.length y.length+1/\ρ 0=.sl (x.map gB)/\ρ 1=.sl (y.map gB)/\ρ 5=.os j/\ρ 6=int c/\ρ 7=int i/\H j=some (bY o)/\Lim 10 o/\o.length=i/\c<=1/\(i=max x.length y.length+1->c=0)/\ofL 10 o+10^i*c=ofL 10 (x.take i)+ofL 10 (y.take i),fun ρ _=>max x.length y.length+1-aR (ρ 7),
  ⟨0,0,j,[],by omega,rfl,rfl,rfl,by simp only[go_sem];rfl,by simp only[go_sem];rfl,Cy,by simp[Lim],rfl,by omega,by omega,by simp[ofL]⟩,?_⟩
 clear hj j;rintro ρ H ⟨i,c,j,o,hi,h0,h1,h5,h6,O,Rj,ho,I,hc,X,hv⟩;simp only[go_sem,h0,h1,h6,O];refine aA (fun E=>?_) (fun E=>?_)
 ·have E:i<x.length\/i<y.length\/0<c:=by simpa[or_assoc]using E
  have Z:i<max x.length y.length+1:=by
   rcases Xav i (max x.length y.length+1)with h|h
   ·exact h
   ·have:=X (by omega);omega
  have U:=RK (b:=10) (by decide) (x:=x) (y:=y) I hv;have aa:x.getD i 0<10:=lm.getD (by decide) i;have ab:y.getD i 0<10:=ln.getD (by decide) i;have F:i+1=max x.length y.length+1->(x.getD i 0+y.getD i 0+c)/10=0:=fun e=>by
   have V:x.getD i 0=0:=by simp only[List.getD,List.getElem?_eq_none (show x.length<=i by omega),Option.getD_none]
   have Y:y.getD i 0=0:=by simp only[List.getD,List.getElem?_eq_none (show y.length<=i by omega),Option.getD_none]
   rw[V,Y];omega
  simp only[go_sem,h0,O];refine aG (tG x i (by omega) (by omega)) ?_;simp only[go_sem,h1,O];refine aG (tG y i (by omega) (by omega)) ?_;generalize x.getD i 0=a at *;generalize y.getD i 0=b at *;have V:IntKind.i64.wrap (IntKind.i64.wrap ((a:Int)+(b:Int))+(c:Int))=((a+b+c:Nat):Int):=by rw[show IntKind.i64.wrap ((a:Int)+(b:Int))=(a:Int)+b from aW (by omega),aW (by omega)];omega
  simp only[go_sem,h5,h6,V];have Y:(((a+b+c:Nat):Int)).tmod 10=(((a+b+c)%10:Nat):Int):=rfl;have e3:(((a+b+c:Nat):Int)).tdiv 10=(((a+b+c)/10:Nat):Int):=rfl;rw[Y];refine⟨by decide,aZ Rj ⟨rfl,rfl⟩ ⟨rfl,trivial⟩ (by simp only[bY,Xab,Xah,List.length_nil];omega) (fun j' ac=>?_)⟩;simp only[go_sem,h0,h1,O,e3,aQ i];rw[show IntKind.i64.wrap (((a+b+c)/10:Nat):Int)=(((a+b+c)/10:Nat):Int)from aW (by omega)];exact⟨by decide,⟨i+1,_,j',_,Z,rfl,rfl,rfl,rI,ho.snoc (Xbx _ (by decide)),by simp[I],by omega,F,U⟩,by simp only[aN];omega⟩
 ·have E : x.length <= i /\ y.length <= i /\ c = 0 := by simp at E;omega
  simp only[go_sem,h5];rw[E.2.2,Nat.mul_zero,Nat.add_zero,Xan E.1,Xan E.2.1,om,on]at hv;refine PC.useF [j] (.cons _ _ _ _ (.row _ _ _ (by simp only[Xaw,if_true];exact Rj) (ConvE.refl _)) .nil) (J o ho (by omega) hv) ?_;simp only[go_sem];exact .refl _
def Ej(m n:Nat)(hm:(aY 10 m).length<=1048576)(ad:n<=m):PC prog 158 [dg m,dg n] (dg (m-n)):=by
 have om:=cU (b:=10) (by decide) m;have on:=cU (b:=10) (by decide) n;have lm:=cP (b:=10) (by decide) m;have ln:=cP (b:=10) (by decide) n;have ae:=cR (b:=10) (by decide) ad;have Z:∀l:List Nat,Lim 10 l->l.length<=4611686018427387904->ofL 10 l=m-n->PC prog 111 [.sl (l.map gB)] (dg (m-n)):=fun l h1 h2 h3=>JY h1 h2 h3
 simp only[dg]at Z |-;generalize aY 10 m=x at *;generalize aY 10 n=y at *;generalize aY 10 (m-n)=z at *;refine pcb (fun t=>t == 5) func158 rfl rfl ?_;simp only[go_sem];refine aL fun j hj=>?_
 simp only[go_sem];refine⟨fun ρ H=>∃(i j c:Nat) (o:List Nat),i<=x.length/\ρ 0=.sl (x.map gB)/\ρ 1=.sl (y.map gB)/\ρ 5=.os j/\ρ 6=int c/\ρ 7=int i/\H j=some (bY o)/\Lim 10 o/\o.length=i/\c<=1/\ofL 10 o+ofL 10 (y.take i)=ofL 10 (x.take i)+10^i*c,fun ρ _=>x.length-aR (ρ 7),
  ⟨0,j,0,[],Xaa _,rfl,rfl,rfl,by simp only[go_sem];rfl,by simp only[go_sem];rfl,Cy,by simp[Lim],rfl,by omega,by simp[ofL]⟩,?_⟩
 clear hj j;rintro ρ H ⟨i,j,c,o,hi,h0,h1,X,h6,J,V,ho,U,hc,hv⟩;simp only[go_sem,h0,J,Xab];refine aA (fun F=>?_) (fun O=>?_)
 ·have F:=ltB F;obtain⟨a,ha⟩:=aK F;have ab:x.getD i 0=a:=by simp[List.getD,ha]
  have b1:=inB F;have af:a<10:=lm a (Xac ha);have ac:y.getD i 0<10:=ln.getD (by decide) i;simp only[go_sem,];refine kI (by rfl) (by kernel_rfl) ?_;simp only[go_sem,h0,h1,J,aD ha,b1,Xab];refine⟨_,(tG y i (by omega) (by omega)).q rfl,?_⟩;have Y:=Ag (b:=10) af ac hc;have aa:=Dr (b:=10) (x:=x) (y:=y) (c':=if a<y.getD i 0+c then 1 else 0) (d:=if a<y.getD i 0+c then a+10-(y.getD i 0+c)else a-(y.getD i 0+c)) U hv (by rw[ab];exact Y.1);generalize y.getD i 0=yi at *;have e1:IntKind.i64.wrap (IntKind.i64.wrap ((a:Int)-(yi:Int))-(c:Int))=(a:Int)-yi-c:=by rw[show IntKind.i64.wrap ((a:Int)-(yi:Int))=(a:Int)-yi from aW (by omega),aW (by omega)]
  simp only[go_sem,h6,e1];refine bK (fun E H'=>E 0=.sl (x.map gB)/\E 1=.sl (y.map gB)/\E 5=.os j/\E 7=int i/\H' j=some (bY o)/\E 8=int (if a<yi+c then a+10-(yi+c)else a-(yi+c):Nat)/\E 6=int (if a<yi+c then 1 else 0:Nat)) ?_ fun K hK=>aA (fun I=>?_) (fun I=>?_)
  rotate_left
  ·have I:a<yi+c:=by simp at I;omega
   have e2:IntKind.i64.wrap ((a:Int)-yi-c+10)=((a+10-(yi+c):Nat):Int):=by rw[aW (by omega)];omega
   simp only[go_sem,e2];exact hK _ _ ⟨h0,h1,X,J,V,by simp only[go_sem,if_pos I],by simp only[go_sem,if_pos I];rfl⟩
  ·have I:¬a<yi+c:=by simp at I;omega
   simp only[go_sem,];refine hK _ _ ⟨h0,h1,X,J,V,?_,by simp only[go_sem,if_neg I];rfl⟩;simp only[go_sem,if_neg I]
   congr 2
   omega
  clear h0 h1 X h6 J V;rintro ρ H ⟨h0,h1,X,J,V,h8,h6⟩;simp only[go_sem,X,h8];refine aZ V ⟨rfl,rfl⟩ ⟨rfl,trivial⟩ (by simp only[bY,Xab,Xah,List.length_nil];omega) (fun j' ag=>?_);simp only[go_sem,h0,h1,h6,J,aQ i];exact⟨⟨i+1,j',_,_,F,rfl,rfl,rfl,rI,ho.snoc Y.2,by simp[U],by split <;> omega,aa⟩,by simp only[aN];omega⟩
 ·have O:=geB hi O;subst O;simp only[go_sem,X];obtain⟨_,hV⟩:=E5 (b:=10) (by decide) ho lm U ae (by omega) hc hv;refine PC.useF [j] (.cons _ _ _ _ (.row _ _ _ (by simp only[Xaw,if_true];exact V) (ConvE.refl _)) .nil) (Z o ho (by omega) (hV.trans (by rw[om,on]))) ?_;simp only[go_sem];exact .refl _
def agJ(m n:Nat)(hm:(aY 10 m).length<=1048576)(hn:(aY 10 n).length<=1048576):PC prog 250 [dg m,dg n] (dg (m*n)):=by
 have om:=cU (b:=10) (by decide) m;have on:=cU (b:=10) (by decide) n;have lm:=cP (b:=10) (by decide) m;have ln:=cP (b:=10) (by decide) n;have ac:∀l:List Nat,Lim 10 l->l.length<=4611686018427387904->ofL 10 l=m*n->PC prog 111 [.sl (l.map gB)] (dg (m*n)):=fun l h1 h2 h3=>JY h1 h2 h3
 simp only[dg]at ac |-;generalize aY 10 m=x at *;generalize aY 10 n=y at *;generalize aY 10 (m*n)=z at *;have ew:IntKind.i64.wrap ((x.length:Int)+(y.length:Int))=((x.length+y.length:Nat):Int):=by rw[aW (by omega)];omega
 refine pcb (fun t=>t == 15) func250 rfl rfl ?_;simp only[go_sem];simp only[ew];refine⟨by omega,aL fun j hj=>?_⟩;simp only[go_sem];refine⟨fun ρ H=>∃(i:Nat) (out:List Nat),i<=x.length/\ρ 0=.sl (x.map gB)/\ρ 1=.sl (y.map gB)/\ρ 5=.os j/\ρ 6=int i/\H j=some (bY out)/\Lim 10 out/\out.length=x.length+y.length/\ofL 10 out=ofL 10 (x.take i)*ofL 10 y,fun ρ _=>x.length-aR (ρ 6),
  ⟨0,List.replicate (x.length+y.length) 0,Xaa _,rfl,rfl,rfl,by simp only[go_sem];rfl,?_,Lim.zeros (by decide) _,by simp,by simp[ofL,Lb]⟩,?_⟩
 ·rw[aB];simp only[bY,List.map_replicate];rfl
 rintro ρ H ⟨i,out,hi,h0,h1,Z,V,X,ho,ag,hv⟩;simp only[go_sem,h0,V,Xab];refine aA (fun F=>?_) (fun U=>?_)
 ·have F:=ltB F;obtain⟨E,O⟩:=aK F;have b1:=inB F;have ar:E<10:=lm E (Xac O);have ah:out[i+y.length]?=some 0:=by refine X8 (b:=10) (by decide) (q:=i+y.length) ?_ (Xaf _) (by omega);rw[hv,Nat.pow_add];have h1:=kP (b:=10) (by decide) (lm.take i);rw[Xas,Xcr hi]at h1;exact Nat.mul_lt_mul'' h1 (kP (b:=10) (by decide) ln)
  simp only[go_sem,];refine⟨fun ρ H=>∃(k c:Nat) (o:List Nat),k<=y.length+1/\ρ 0=.sl (x.map gB)/\ρ 1=.sl (y.map gB)/\ρ 5=.os j/\ρ 6=int i/\ρ 7=int c/\ρ 8=int k/\H j=some (bY o)/\Lim 10 o/\o.length=x.length+y.length/\c<10/\(k<=y.length->ofL 10 o+10^(i+k)*c=ofL 10 out+10^i*(E*ofL 10 (y.take k))/\o[i+y.length]?=some 0)/\(k=y.length+1->c=0/\ofL 10 o=ofL 10 out+10^i*(E*ofL 10 y)),fun ρ _=>y.length+1-aR (ρ 8),
   ⟨0,0,out,Xaa _,h0,h1,Z,V,by simp only[go_sem];rfl,by simp only[go_sem];rfl,X,ho,ag,by omega,fun _=>⟨by simp[ofL],ah⟩,by omega⟩,?_⟩
  rintro ρ H ⟨k,c,o,hk,h0,h1,Z,V,h7,h8,X,hO,ad,hc,hV,hZ⟩;simp only[go_sem,h1,h7,h8,Xab];refine aA (fun Y=>?_) (fun Y=>?_)
  ·have Y:k<y.length\/0<c:=by simpa using Y
   have af:k<=y.length:=by
    rcases Xav y.length k with h|h
    ·have:=(hZ (by omega)).1;omega
    ·exact h
   obtain⟨hV,hz⟩:=hV af;obtain⟨v,I⟩:=aK (show i+k<o.length by omega);have ap:v<10:=hO v (Xac I);have b3:0<=((i+k:Nat):Int)/\((i+k:Nat):Int)<((bY o).es.length:Nat):=by simp only[bY,Xab];omega
   have ei:IntKind.i64.wrap ((i:Int)+(k:Int))=((i+k:Nat):Int):=by rw[aW (by omega)];omega
   have ai:(bY o).es.getD (i+k) []=gB v:=aD I;have aq:y.getD k 0<10:=ln.getD (by decide) k;have ao:E*y.getD k 0<=9*9:=Nat.mul_le_mul (by omega) (by omega);have e1:IntKind.i64.wrap (IntKind.i64.wrap ((v:Int)+IntKind.i64.wrap ((E:Int)*((y.getD k 0:Nat):Int)))+(c:Int))=((v+E*y.getD k 0+c:Nat):Int):=by rw[show(E:Int)*((y.getD k 0:Nat):Int)=((E*y.getD k 0:Nat):Int)from(Int.natCast_mul E _).symm];generalize E*y.getD k 0=p at *;rw[show IntKind.i64.wrap (p:Int)=(p:Int)from aW (by omega),show IntKind.i64.wrap ((v:Int)+(p:Int))=(v:Int)+p from aW (by omega),aW (by omega)];omega
   have hq:(v+E*y.getD k 0+c)/10<10:=by omega
   have e2:IntKind.i64.wrap ((((v+E*y.getD k 0+c:Nat):Int)).tdiv 10)=(((v+E*y.getD k 0+c)/10:Nat):Int):=by generalize v+E*y.getD k 0+c=p at *;rw[Xbz (by omega),aW (by omega)];omega
   have e3:(((v+E*y.getD k 0+c:Nat):Int)).tmod 10=(((v+E*y.getD k 0+c)%10:Nat):Int):=rfl;simp only[go_sem,];refine kI (by rfl) (by kernel_rfl) ?_;simp only[go_sem,h0,h1,Z,V,h8,ei,X,b3,ai,aD O,b1,Xab];have J:i+k<(bY o).es.length:=by simp only[bY,Xab];omega
   refine⟨rfl,⟨J,Nat.zero_lt_one⟩,_,(tG y k (by omega) (by omega)).q rfl,?_⟩;simp only[go_sem,Z,V,h7,h8,e1,ei,X,b3,e3];refine⟨by decide,rfl,dS so3 X ⟨J,rfl,Xaf 1⟩ ?_⟩;generalize hP:aM H j _=HP;have aj:HP j=some (bY (o.set (i+k) ((v+E*y.getD k 0+c)%10))):=by rw[<-hP,aB];exact congrArg some (CL (q:=(v+E*y.getD k 0+c)%10) I)
   simp only[go_sem,h0,h1,Z,V,h8,e2,aQ k];refine⟨by decide,⟨k+1,_,_,by omega,rfl,rfl,aj,hO.set (Xbx _ (by decide)),by simp[ad],hq,fun al=>?_,fun al=>?_⟩,by simp only[aN];omega⟩
   ·obtain⟨yk,aa⟩:=aK (show k<y.length by omega);have am:y.getD k 0=yk:=by simp[List.getD,aa]
    rw[am];exact⟨Tj (b:=10) (by decide) I aa hV,by rw[List.getElem?_set_ne (by omega)];exact hz⟩
   ·have ae:k=y.length:=by omega
    subst ae;have an:v=0:=by rw[I]at hz;exact Option.some.inj hz
    have ak:y.getD y.length 0=0:=by simp[List.getD]
    rw[an,ak,Nat.mul_zero,Xce,Xbl hc];exact⟨by omega,WF (b:=10) hz hV⟩
  ·have Y : y.length <= k /\ c = 0 := by simp at Y;omega
   have ab:ofL 10 o=ofL 10 out+10^i*(E*ofL 10 y):=by
    rcases Xav y.length k with h|h
    ·exact(hZ (by omega)).2
    ·have h1:=(hV h).1;rw[Y.2,Nat.mul_zero,Nat.add_zero,Xan Y.1]at h1;exact h1
   simp only[go_sem,h0,h1,Z,V,aQ i];refine⟨⟨i+1,o,F,rfl,X,hO,ad,?_⟩,by simp only[aN];omega⟩;rw[ab,hv,lJ 10 O,Nat.add_mul,Nat.mul_assoc]
 ·have U:=geB hi U;subst U;rw[Xad]at hv;simp only[go_sem,Z];refine PC.useF [j] (.cons _ _ _ _ (.row _ _ _ (by simp only[Xaw,if_true];exact X) (ConvE.refl _)) .nil) (ac out ho (by omega) (by rw[hv,om,on])) ?_;simp only[go_sem];exact .refl _
def afZ:AV->Nat
 | .sl es=>ofL 10 (es.map fun e=>match e with|[.v (.int _ z)]=>z.toNat|_=>0)
 | _=>0
def Ww(n:Nat):afZ (dg n)=n:=by
 unfold afZ dg;simp only[List.map_map];have:(aY 10 n).map ((fun e=>match e with|[.v (.int _ z)]=>z.toNat|_=>0) ∘ gB)=aY 10 n:=by
  conv=>rhs;rw[<-List.map_id (aY 10 n)]
  exact List.map_congr_left fun x _=>rfl
 rw[this,cU (by decide)]
def Z5(m n:Nat)(hm:(aY 10 m).length<=1048570)(hn:0<n)(az:(aY 10 n).length<=1048570):PC prog 156 [dg m,dg n] (.tup [dg (m/n),dg (m%n)]):=by
 have om:=cU (b:=10) (by decide) m;have lm:=cP (b:=10) (by decide) m;rw[show dg m=.sl ((aY 10 m).map gB)from rfl];generalize aY 10 m=x at *;refine pcb (fun t=>t == 12||t == 24) func156 rfl rfl ?_;simp only[go_sem];refine⟨by omega,aL fun j hj=>?_⟩;simp only[go_sem,Xab];refine⟨fun ρ H=>∃(k r:Nat) (F:List Nat),k<=x.length/\ρ 0=.sl (x.map gB)/\ρ 1=dg n/\ρ 6=.os j/\ρ 7=dg r/\ρ 8=int ((k:Int)-1)/\H j=some (bY F)/\Lim 10 F/\F.length=x.length/\r<n/\(∀i,i<k->F[i]?=some 0)/\ofL 10 (x.drop k)=ofL 10 (F.drop k)*n+r,fun ρ _=>upN (ρ 8),
  ⟨x.length,0,List.replicate x.length 0,Xaf _,rfl,rfl,rfl,by simp only[go_sem,dg,dZ,Xbv],by simp only[go_sem];rw[aW (by omega)],?_,Lim.zeros (by decide) _,by simp,hn,?_,?_⟩,?_⟩
 ·rw[aB];simp only[bY,List.map_replicate];rfl
 ·intro i hi;simp[hi]
 ·rw[Xcl,Xcf (by simp)];simp[ofL]
 rintro ρ H ⟨k,r,F,hk,h0,h1,X,Y,O,U,af,am,hr,hz,hv⟩;simp only[go_sem,O];refine aA (fun ak=>?_) (fun au=>?_)
 ·obtain⟨i,rfl⟩:∃i,k=i+1:=⟨k-1,by have:=of_decide_eq_true ak;omega⟩;have ei:((i+1:Nat):Int)-1=(i:Int):=by omega
  rw[ei]at O;obtain⟨a,ha⟩:=aK (show i<x.length by omega);have aa:a<10:=lm a (Xac ha);have b1:=inB (show i<x.length by omega);have a5:(aY 10 r).length<=(aY 10 n).length:=cR (by decide) (by omega);have aj:=cU (b:=10) (by decide) r;have V:=cP (b:=10) (by decide) r;simp only[go_sem,h0,O,ei,aD ha,b1,Xab];obtain⟨hV,hQ,a6⟩:=SX (b:=10) (a:=n) (by decide) ha aa hr (show i<F.length by omega) hv;have Z:ofL 10 (a::aY 10 r)=a+10*r:=by rw[ofL,aj]
  have ad:Lim 10 (a::aY 10 r):=fun y hy=>by
   rcases Xbg.1 hy with rfl|hy
   ·exact aa
   ·exact V y hy
  have a0:(aY 10 (a+10*r)).length<=1048575:=by refine Xam (iO (b:=10) (k:=(aY 10 r).length+1) (by decide) ?_) (by omega);have h1:=kP (b:=10) (by decide) ad;rw[Z]at h1;simpa using h1
  generalize a4:a+10*r=R at *;refine aL fun j2 ae=>?_
  simp only[go_sem,Y];have ac:=eY (r':=⟨3,1,[[int (a:Int)]]⟩) U ae;refine aZ (aB _ _ _) ⟨rfl,rfl⟩ (avN _) (by simp;omega) (fun i2 ab=>?_);have aw:=dK ac (bE U ae).symm ab (r':=⟨3,1,[[int (a:Int)]]++(aY 10 r).map gB⟩);have ah:j≠i2:=bE ac ab;simp only[go_sem,];refine PC.useF [i2] (.cons _ _ _ _ (.row _ _ _ (by simp only[Xaw,if_true];exact aB _ _ _) (ConvE.refl _)) .nil) (JY ad (by simp;omega) Z) ?_;generalize aq:(fun k=>if k∈[i2]then none else _)=HN;have ax:HN j=some (bY F):=by rw[<-aq];simp only[Xaw,if_neg ah];exact aw
  simp only[go_sem,];refine⟨fun ρ H=>∃(d r':Nat),ρ 0=.sl (x.map gB)/\ρ 1=dg n/\ρ 6=.os j/\ρ 7=dg r'/\ρ 8=int i/\H j=some (bY (F.set i d))/\d*n+r'=R,fun ρ _=>afZ (ρ 7),
   ⟨0,R,h0,h1,X,rfl,O,?_,by omega⟩,?_⟩
  ·rw[ax];have h2:=hz i (by omega);obtain⟨h3,h4⟩:=List.getElem?_eq_some_iff.1 h2
   congr 2
   rw[<-h4];exact(List.set_getElem_self h3).symm
  rintro ρ H ⟨d,r',h0,h1,X,Y,O,U,hd⟩;have ay:=cR (b:=10) (by decide) (show r'<=R by omega);simp only[go_sem,h1,Y];refine aG (zR r' n (by omega) (by omega)) ?_;simp only[go_sem,NU];have ag:d<10:=by
   rcases Xav d 10 with h|h
   ·exact h
   ·have:=Xcy n h;omega
  refine aA (fun I=>?_) (fun E=>?_)
  ·have I:n<=r':=by have:=of_decide_eq_true I;omega
   have hg:(F.set i d)[i]?=some d:=List.getElem?_set_self (by omega);have ao:(bY (F.set i d)).es.getD i []=gB d:=aD hg;have b3:0<=(i:Int)/\(i:Int)<((bY (F.set i d)).es.length:Nat):=by simp only[bY,Xab,List.length_set];omega
   have J:i<(bY (F.set i d)).es.length:=by simp only[bY,Xab,List.length_set];omega
   simp only[go_sem,h1,Y];refine aG (Ej r' n (by omega) I) ?_;simp only[go_sem,X,O,U,b3,ao,aQ d];refine⟨rfl,⟨J,Nat.zero_lt_one⟩,rfl,dS so3 U ⟨J,rfl,Xaf 1⟩ ?_⟩;generalize hP:aM H j _=HP;have av:HP j=some (bY (F.set i (d+1))):=by rw[<-hP,aB];refine(congrArg some (CL (q:=d+1) hg)).trans ?_;rw[List.set_set]
   simp only[go_sem,h0,h1,X,O];refine⟨⟨d+1,r'-n,rfl,av,by rw[Nat.add_mul];omega⟩,?_⟩;show afZ (dg (r'-n))<afZ (dg r');rw[Ww,Ww];omega
  ·have E:r'<n:=by have:=of_decide_eq_false E;omega
   have ar:R/n=d:=by rw[<-hd,Xcm,Nat.add_mul_div_right _ _ hn,Nat.div_eq_of_lt E,Xce]
   have ai:R%n=r':=by rw[<-hd,Xcm,Nat.add_mul_mod_self_right,Xbl E]
   rw[ar,ai]at hV;simp only[go_sem,h0,h1,X,Y,O,show IntKind.i64.wrap ((i:Int)-1)=(i:Int)-1 from aW (by omega)];refine⟨⟨i,r',F.set i d,by omega,rfl,rfl,U,af.set ag,by simp[am],E,fun q hq=>?_,hV⟩,by simp only[El];omega⟩;rw[List.getElem?_set_ne (by omega)];exact hz q (by omega)
 ·have ap:k=0:=by have:=of_decide_eq_false au;omega
  subst ap;rw[Xbw,Xbw,om]at hv;have an:m/n=ofL 10 F:=by rw[hv,Xcm,Nat.add_mul_div_right _ _ hn,Nat.div_eq_of_lt hr,Xce]
  have al:m%n=r:=by rw[hv,Xcm,Nat.add_mul_mod_self_right,Xbl hr]
  simp only[go_sem,X];refine PC.useF [j] (.cons _ _ _ _ (.row _ _ _ (by simp only[Xaw,if_true];exact U) (ConvE.refl _)) .nil) (JY af (by omega) an.symm) ?_;simp only[go_sem,Y,al];exact .refl _
def F0(m:Nat):(aY 10 m).length<=(dec m).size:=by
 by_cases h:m=0
 ·rw[h,dZ];simp
 ·have:=congrArg List.length (F3 h);rw[jM,<-this];simp[txt]
def sG{m:Nat}(h:m<dA):(aY 10 m).length<=4096:=by have h1:=F0 m;have E:=(iX m).2 h;omega
def Ak(m:Bool)(n:Nat)(h:(aY 10 n).length<=1048576):PC prog 63 [boo m,dg n] (str (zed (sg m n))):=by
 have:=XK m (aY 10 n) (cP (by decide) n) h
 rwa [cU (by decide)]at this
def anK(s:ByteArray)(h:s.size<=1048576):PC prog 252 [str s] (int (Bd s)):=by
 have U:=cV s;refine pcd func252 rfl rfl ?_;simp only[go_sem];refine aG (zJ s h) ?_;simp only[go_sem,oO];refine aA (fun F=>?_) (fun F=>?_)
 ·simp only[go_sem];refine cI ?_;unfold Bd;split
  ·rename_i E;rw[E]at F;have:s=dec 0:=lR.1 (by simpa using F);rw[this,<-show zed ((0:Nat):Int)=dec 0 from dF 0,cL];rfl
  ·rfl
 have E:fH s=true/\eqB s (dec 0)=false:=by simp only[Xag,Xbq]at F;exact F
 obtain⟨E,h0⟩:=E;have X:0<s.size:=by
  rcases Xcu s.size with h|h
  ·exfalso;rw[<-U,Xcg]at h;have J:=xL s;rw[h,List.drop_nil]at J;unfold fH eA fA at E;rw[J]at E;cases E
  ·exact h
 simp only[go_sem];have I:=zH s;rw[show decide ((s.size:Int)>0)=true by simp;omega,Xbc]at I;rw[I];have O:zed (gG s)=s:=vO E;have V:fU s=decide (gG s<0):=by rw[<-O,sE,cL]
 have Y:gG s≠0:=fun e=>nY.1 h0 (by rw[<-O,e];exact dF 0)
 refine⟨⟨by omega,by omega⟩,?_⟩;rw[V];refine aA (fun F=>?_) (fun F=>?_)
 ·have:=of_decide_eq_true F;simp only[go_sem];exact cI (by unfold Bd;rw[if_pos E,Int.sign_eq_neg_one_of_neg this])
 ·have:=of_decide_eq_false F;simp only[go_sem];exact cI (by unfold Bd;rw[if_pos E,Int.sign_eq_one_of_pos (by omega)])
def YL{s:ByteArray}:kL s s=0->∃n:Int,s=zed n/\n.natAbs<dA:=fun h=>by obtain⟨m,n,e,_,E,_⟩:=qK h;exact⟨m,e,E⟩
def akM(s:ByteArray)(h:s.size<=1048576):PC prog 207 [str s] (.tup (if kL s s=0 then[str (dec (gG s).natAbs),int 0]else[str emp,int (kL s s)])):=by
 have E:=EO s s h h;by_cases F:kL s s=0
 ·rw[if_pos F];rw[F]at E;obtain⟨n,rfl,J⟩:=YL F;have O:=sG J;refine pcd func207 rfl rfl ?_;simp only[go_sem];refine aG E ?_;simp only[go_sem];refine aA (fun I=>by cases I) (fun _=>?_);simp only[go_sem];refine aG (rL n h) ?_;simp only[go_sem];refine aG (Ak false n.natAbs (by omega)) ?_;simp only[go_sem];rw[cL,show sg false n.natAbs=((n.natAbs:Nat):Int)from rfl,dF];exact .refl _
 ·rw[if_neg F];refine pcd func207 rfl rfl ?_;simp only[go_sem];refine aG E ?_;simp only[go_sem];refine aA (fun _=>?_) (fun I=>absurd (by simpa using I) F);simp only[go_sem];exact .refl _
def atQ(a b:Bool)(m n:Nat)(J:(aY 10 m).length<=1048570)(O:(aY 10 n).length<=1048570)(I:(aY 10 (m+n)).length<=1048576):PC prog 251 [boo a,dg m,boo b,dg n] (str (zed (sg a m+sg b n))):=by
 refine pcd func251 rfl rfl ?_;simp only[go_sem];refine aA (fun h=>?_) (fun h=>?_)
 ·have E:a=b:=by simpa using h
  subst E;simp only[go_sem];refine aG (XC m n (by omega) (by omega)) ?_;simp only[go_sem];refine aG (Ak a (m+n) I) ?_;simp only[go_sem];rw[show sg a (m+n)=sg a m+sg a n by unfold sg;split <;> omega];exact .refl _
 have E:b= !a:=by cases a <;> cases b <;> simp_all
 subst E;simp only[go_sem];refine aG (zR m n (by omega) (by omega)) ?_;simp only[go_sem,NU];refine aA (fun F=>?_) (fun F=>?_)
 ·have F:n<=m:=by have:=of_decide_eq_true F;omega
  simp only[go_sem];refine aG (Ej m n (by omega) F) ?_;simp only[go_sem];have:=cR (b:=10) (by decide) (show m-n<=m by omega);refine aG (Ak a (m-n) (by omega)) ?_;simp only[go_sem];rw[show sg a (m-n)=sg a m+sg (!a) n by unfold sg;cases a <;> simp <;> omega];exact .refl _
 ·have F:m<n:=by have:=of_decide_eq_false F;omega
  simp only[go_sem];refine aG (Ej n m (by omega) (by omega)) ?_;simp only[go_sem];have:=cR (b:=10) (by decide) (show n-m<=n by omega);refine aG (Ak (!a) (n-m) (by omega)) ?_;simp only[go_sem];rw[show sg (!a) (n-m)=sg a m+sg (!a) n by unfold sg;cases a <;> simp <;> omega];exact .refl _
def SU(a b:ByteArray)(ha:a.size<=1048570)(hb:b.size<=1048570):PC prog 91 [str a,str b] (int (PB a b)):=by
 refine pcd func91 rfl rfl ?_;simp only[go_sem];refine aG (zJ a (by omega)) ?_;simp only[go_sem];refine⟨_,fun _=>(zJ b (by omega)).q rfl,?_⟩;simp only[go_sem];apply aA <;> intro U
 ·simp only[go_sem];refine cI ?_;unfold PB;rw[if_neg];rintro⟨h1,E⟩;rw[h1,E]at U;cases U
 have O:fH a=true/\fH b=true:=by simpa using U
 rw[show PB a b=hU (gG a) (gG b)from if_pos O];have V:=vO O.1;have J:=vO O.2;have la:(aY 10 (gG a).natAbs).length<=1048570:=by have h1:=F0 (gG a).natAbs;have E:=D8 (zed (gG a));rw[jP,V]at E;omega
 have lb:(aY 10 (gG b).natAbs).length<=1048570:=by have h1:=F0 (gG b).natAbs;have E:=D8 (zed (gG b));rw[jP,J]at E;omega
 have Y:=rL (gG a) (by rw[V];omega);have X:=rL (gG b) (by rw[J];omega);rw[V]at Y;rw[J]at X;generalize gG a=m at *;generalize gG b=n at *;simp only[go_sem];refine aG Y ?_;simp only[go_sem];refine aG X ?_;simp only[go_sem];apply aA <;> intro E
 ·have E:m<0/\n<0:=by simpa using E
  simp only[go_sem];refine aG (zR n.natAbs m.natAbs (by omega) (by omega)) ?_;simp only[go_sem];refine cI ?_;unfold hU;have Z:((n.natAbs:Nat):Int)<((m.natAbs:Nat):Int)↔m<n:=by omega
  have c2:((m.natAbs:Nat):Int)<((n.natAbs:Nat):Int)↔n<m:=by omega
  simp only[Z,c2]
 ·simp only[go_sem];apply aA <;> intro I
  ·have I:m<0:=of_decide_eq_true I;have F:¬n<0:=fun h=>by simp[I,h]at E
   simp only[go_sem];exact cI (by rw[jD (by omega)])
  ·have I:¬m<0:=of_decide_eq_false I;simp only[go_sem];apply aA <;> intro F
   ·have F:n<0:=of_decide_eq_true F;simp only[go_sem];exact cI (by rw[jF (by omega)])
   ·have F:¬n<0:=of_decide_eq_false F;simp only[go_sem];refine aG (zR m.natAbs n.natAbs (by omega) (by omega)) ?_;simp only[go_sem];exact cI (by rw[show((m.natAbs:Nat):Int)=m by omega,show((n.natAbs:Nat):Int)=n by omega])
def XO{n:Int}{k:Nat}(h:(aY 10 n.natAbs).length<=k):(zed n).size<=k+2:=by
 have h1:(eM (zed n)).size=(dec n.natAbs).size:=by rw[jP]
 have E:(dec n.natAbs).size<=k+1:=by
  rw[jM];by_cases h0:n.natAbs=0
  ·rw[h0,Lib.decDigits_one (by omega)];simp
  ·have:=congrArg List.length (F3 h0);rw[<-this];simp[txt];omega
 unfold eM at h1;split at h1
 ·rw[<-cV,kC,Xbj]at h1;rw[<-cV];omega
 ·omega
def XA(m n:Nat):(aY 10 (m+n)).length<=max (aY 10 m).length (aY 10 n).length+1:=by refine iO (by decide) ?_;have h1:=kP (b:=10) (by decide) (cP (b:=10) (by decide) m);have E:=kP (b:=10) (by decide) (cP (b:=10) (by decide) n);rw[cU (by decide)]at h1 E;have I:10^(aY 10 m).length<=10^max (aY 10 m).length (aY 10 n).length:=Xau (by decide) (by omega);have F:10^(aY 10 n).length<=10^max (aY 10 m).length (aY 10 n).length:=Xau (by decide) (by omega);rw[Xbk];omega
def alL(m n:Nat):(aY 10 (m*n)).length<=(aY 10 m).length+(aY 10 n).length:=by refine iO (by decide) ?_;have h1:=kP (b:=10) (by decide) (cP (b:=10) (by decide) m);have E:=kP (b:=10) (by decide) (cP (b:=10) (by decide) n);rw[cU (by decide)]at h1 E;rw[Nat.pow_add];exact Nat.mul_lt_mul'' h1 E
def aqX(a b:ByteArray)(O:a.size<=1048576)(F:b.size<=1048576):PC prog 211 [str a,str b] (.tup [str (KK a b).1,int (KK a b).2]):=by
 refine pcd func211 rfl rfl ?_;simp only[go_sem];refine aG (EO a b O F) ?_;simp only[go_sem];apply aA <;> intro h
 ·have h:kL a b≠0:=by simpa using h
  simp only[go_sem];rw[show KK a b=(emp,kL a b)from if_neg h];exact .refl _
 have h:kL a b=0:=by simpa using h
 rw[show KK a b=szZ (gG a+gG b)from if_pos h];obtain⟨m,n,rfl,rfl,E,J⟩:=qK h;have V:=sG E;have U:=sG J;have Y:=XA m.natAbs n.natAbs;have I:=cR (b:=10) (by decide) (show(m+n).natAbs<=m.natAbs+n.natAbs by omega);have X:=XO (n:=m+n) (Xaf _);rw[cL,cL];simp only[go_sem];refine aG (rL m (by omega)) ?_;simp only[go_sem];refine aG (rL n (by omega)) ?_;simp only[go_sem];refine aG (atQ _ _ m.natAbs n.natAbs (by omega) (by omega) (by omega)) ?_;rw[FJ,FJ];simp only[go_sem];refine aG (MM (m+n) (by omega)) ?_;simp only[go_sem];exact .refl _
def HH(a b:ByteArray)(U:a.size<=1048576)(J:b.size<=1048576):PC prog 210 [str a,str b] (.tup [str (xV a b).1,int (xV a b).2]):=by
 refine pcd func210 rfl rfl ?_;simp only[go_sem];refine aG (EO a b U J) ?_;simp only[go_sem];apply aA <;> intro h
 ·have h:kL a b≠0:=by simpa using h
  simp only[go_sem];rw[show xV a b=(emp,kL a b)from if_neg h];exact .refl _
 have h:kL a b=0:=by simpa using h
 rw[show xV a b=szZ (gG a*gG b)from if_pos h];obtain⟨m,n,rfl,rfl,I,O⟩:=qK h;have X:=sG I;have V:=sG O;have Z:=alL m.natAbs n.natAbs;have Y:=XO (n:=m*n) (k:=8192) (by rw[Int.natAbs_mul];omega);have F:sg (decide (m<0) != decide (n<0)) (m.natAbs*n.natAbs)=m*n:=by
  unfold sg;rcases Xcc m 0 with h1|h1 <;> rcases Xcc n 0 with E|E
  ·have e:m*n=(m.natAbs:Int)*n.natAbs:=by rw[show(m.natAbs:Int)= -m by omega,show(n.natAbs:Int)= -n by omega,Int.neg_mul_neg]
   rw[if_neg (by simp[h1,E]),e,Int.natCast_mul]
  ·have e:m*n= -((m.natAbs:Int)*n.natAbs):=by rw[show(m.natAbs:Int)= -m by omega,show(n.natAbs:Int)=n by omega,Int.neg_mul,Int.neg_neg]
   rw[if_pos (by simp[h1];omega),e,Int.natCast_mul]
  ·have e:m*n= -((m.natAbs:Int)*n.natAbs):=by rw[show(m.natAbs:Int)=m by omega,show(n.natAbs:Int)= -n by omega,Int.mul_neg,Int.neg_neg]
   rw[if_pos (by simp[E];omega),e,Int.natCast_mul]
  ·have e:m*n=(m.natAbs:Int)*n.natAbs:=by rw[show(m.natAbs:Int)=m by omega,show(n.natAbs:Int)=n by omega]
   rw[if_neg (by simp;omega),e,Int.natCast_mul]
 rw[cL,cL];simp only[go_sem];refine aG (rL m (by omega)) ?_;simp only[go_sem];refine aG (rL n (by omega)) ?_;simp only[go_sem];refine aG (agJ m.natAbs n.natAbs (by omega) (by omega)) ?_;simp only[go_sem];refine aG (Ak _ (m.natAbs*n.natAbs) (by omega)) ?_;rw[show sg (!(decide (m<0) == decide (n<0))) (m.natAbs*n.natAbs)=m*n from F];simp only[go_sem];refine aG (MM (m*n) (by omega)) ?_;simp only[go_sem];exact .refl _
def arH:dg 1=.sl [[int 1]]:=by
 have:aY 10 1=[1]:=by rw[oK (by decide) (by decide),show 1/10=0 from rfl,dZ]
 simp only[dg,this];rfl
def OO(a b:ByteArray)(ha:a.size<=1048576)(E:b.size<=1048576):PC prog 90 [str a,str b] (.tup [str (wL a b).1,str (wL a b).2.1,int (wL a b).2.2]):=by
 refine pcd func90 rfl rfl ?_;simp only[go_sem];refine aG (EO a b ha E) ?_;simp only[go_sem];apply aA <;> intro h
 ·have h:kL a b≠0:=by simpa using h
  simp only[go_sem];rw[show wL a b=(emp,emp,kL a b)from if_neg h];exact .refl _
 have h:kL a b=0:=by simpa using h
 obtain⟨m,n,rfl,rfl,hm,hn⟩:=qK h;have lm:=sG hm;have ln:=sG hn;have e:wL (zed m) (zed n)=if n=0 then(emp,emp,10)else(zed (m.fdiv n),zed (m.fmod n),0):=by unfold wL;rw[if_pos h,cL,cL]
 rw[e];simp only[go_sem];refine aG (rL m (by omega)) ?_;simp only[go_sem];refine aG (rL n (by omega)) ?_;simp only[go_sem,Xab];apply aA <;> intro I
 ·have h0 : n = 0 := by
   have:(aY 10 n.natAbs).length=0:=by rw[Xat]at I;omega
   have:=(qD (b:=10) (by decide)).1 (Xcg.1 this);omega
  simp only[go_sem];rw[if_pos h0];exact .refl _
 have h0:n≠0:=fun e=>by rw[e,show(0:Int).natAbs=0 from rfl,dZ]at I;cases I
 have O:0<n.natAbs:=by omega
 rw[if_neg h0];simp only[go_sem];refine aG (Z5 m.natAbs n.natAbs (by omega) O (by omega)) ?_;simp only[go_sem,Xab];have V:=Xbx m.natAbs O;have lq:=cR (b:=10) (by decide) (Xcq m.natAbs n.natAbs);have lr:=cR (b:=10) (by decide) (Nat.le_of_lt V);have hz:decide (((aY 10 (m.natAbs%n.natAbs)).length:Int)>0)= !decide (m.natAbs%n.natAbs=0):=by
  rw[<-decide_not,decide_eq_decide];have:=qD (b:=10) (n:=m.natAbs%n.natAbs) (by decide);have Z:=Xcg (l:=aY 10 (m.natAbs%n.natAbs));constructor
  ·intro Y h4;rw[h4,dZ]at Y;simp at Y
  ·intro Y;have:(aY 10 (m.natAbs%n.natAbs)).length≠0:=fun e=>Y (this.1 (Z.1 e))
   omega
 rw[hz];refine bK (fun F H'=>∃q r:Nat,F 8=boo (decide (m<0))/\F 10=boo (decide (n<0))/\F 12=dg q/\F 13=dg r/\(aY 10 q).length<=5000/\(aY 10 r).length<=5000/\sg (!(decide (m<0) == decide (n<0))) q=m.fdiv n/\sg (decide (n<0)) r=m.fmod n) ?_ fun K hK=>aA (fun E=>?_) (fun E=>?_)
 rotate_left
 ·have E : decide (m < 0) ≠ decide (n < 0) /\ m.natAbs % n.natAbs ≠ 0 := by simp only[Xai,Xay,beq_eq_false_iff_ne,ne_eq,decide_eq_false_iff_not]at E;exact E
  obtain⟨X,J⟩:=Ga h0 E.1 E.2;have la:=XA (m.natAbs/n.natAbs) 1;have l1:(aY 10 1).length=1:=by rw[oK (by decide) (by decide),show 1/10=0 from rfl,dZ];rfl
  have l2:=cR (b:=10) (by decide) (show n.natAbs-m.natAbs%n.natAbs<=n.natAbs by omega);have hp:=XC (m.natAbs/n.natAbs) 1 (by omega) (by omega);rw[arH]at hp;simp only[go_sem];refine aG hp ?_;simp only[go_sem];refine aG (Ej n.natAbs (m.natAbs%n.natAbs) (by omega) (by omega)) ?_;simp only[go_sem];refine hK _ _ ⟨m.natAbs/n.natAbs+1,n.natAbs-m.natAbs%n.natAbs,rfl,rfl,rfl,rfl,by omega,by omega,?_,J.symm⟩;rw[X];unfold sg;rw[if_pos (by simpa using E.1)]
 ·have E : decide (m < 0) = decide (n < 0) \/ m.natAbs % n.natAbs = 0 := by
   by_cases h1:decide (m<0)=decide (n<0)
   ·exact .inl h1
   ·refine .inr ?_;have Z:(!(decide (m<0) == decide (n<0)))=true:=by simpa using h1
    rw[Z,Xbc,Xbq]at E;exact of_decide_eq_true E
  obtain⟨X,J⟩:=MB h0 E;simp only[go_sem];exact hK _ _ ⟨_,_,rfl,rfl,rfl,rfl,by omega,by omega,X.symm,J.symm⟩
 rintro ρ H ⟨q,r,h8,U,aa,ab,hq,hr,X,J⟩;simp only[go_sem,h8,U,aa];refine aG (Ak _ q (by omega)) ?_;simp only[go_sem,U,ab];refine aG (Ak _ r (by omega)) ?_;simp only[go_sem,X,J];exact .refl _
def aiP(z:Int):z.tmod 10=if z<0 then -((z.natAbs%10:Nat):Int)else((z.natAbs%10:Nat):Int):=by
 rcases Xcc z 0 with h|h
 ·rw[if_pos h];obtain⟨N,rfl⟩:∃N:Nat,z= -(N:Int):=⟨z.natAbs,by omega⟩;rw[Int.neg_tmod,Int.natAbs_neg,Xbh];rfl
 ·rw[if_neg (by omega)]
  conv=>lhs;rw[show z=((z.natAbs:Nat):Int)by omega]
  rfl
def Im(z:Int):z.tdiv 10=if z<0 then -((z.natAbs/10:Nat):Int)else((z.natAbs/10:Nat):Int):=by
 rcases Xcc z 0 with h|h
 ·rw[if_pos h];obtain⟨N,rfl⟩:∃N:Nat,z= -(N:Int):=⟨z.natAbs,by omega⟩;rw[Int.neg_tdiv,Int.natAbs_neg,Xbh];rfl
 ·rw[if_neg (by omega)]
  conv=>lhs;rw[show z=((z.natAbs:Nat):Int)by omega]
  rfl
def avR:AV->Nat
 | .v (.int _ z)=>z.natAbs
 | _=>0
def QK(k:IntKind)(z:Int):avR (.v (.int k z))=z.natAbs:=(rfl)
def awF(n:Int)(h0: -9223372036854775808<=n)(h1:n<=9223372036854775807):PC prog 35 [int n] (str (zed n)):=by
 refine pcb (fun t=>t == 3) func35 rfl rfl ?_;simp only[go_sem];refine aL fun j hj=>?_
 simp only[go_sem];refine⟨fun ρ H=>∃(z:Int) (j:Nat) (o:List Nat),ρ 0=int z/\ρ 3=.os j/\ρ 4=boo (decide (n<0))/\H j=some (bY o)/\Lim 10 o/\o.length+(aY 10 z.natAbs).length=(aY 10 n.natAbs).length/\(z<0->n<0)/\(0<z->0<n)/\ -9223372036854775808<=z/\z<=9223372036854775807/\ofL 10 o+10^o.length*z.natAbs=n.natAbs,fun ρ _=>avR (ρ 0),
  ⟨n,j,[],rfl,rfl,rfl,Cy,by simp[Lim],by simp,id,id,h0,h1,by simp[ofL]⟩,?_⟩
 have ag:(aY 10 n.natAbs).length<=20:=iO (by decide) (by omega);rintro ρ H ⟨z,j,o,I,U,V,O,ho,ad,af,ac,b0,b1,hv⟩;simp only[go_sem,I,];apply aA <;> intro F
 ·have hz:z≠0:=by simpa using F
  have ae:z.natAbs≠0:=by omega
  have em:(z.tmod 10).natAbs=z.natAbs%10:=by rw[aiP];split <;> omega
  have Z:(z.tdiv 10).natAbs=z.natAbs/10:=by rw[Im];split <;> omega
  have ab:z.tdiv 10<0->z<0:=fun h=>by rw[Im]at h;split at h <;> omega
  have aa:0<z.tdiv 10->0<z:=fun h=>by rw[Im]at h;split at h <;> omega
  have X:ofL 10 (o++[z.natAbs%10])+10^(o++[z.natAbs%10]).length*(z.natAbs/10)=n.natAbs:=by
   rw[<-hv,vT,Xae,Xah,List.length_nil,Xbk];have e:=Nat.mod_add_div z.natAbs 10;have e2:10^o.length*(z.natAbs%10+10*(z.natAbs/10))=10^o.length*z.natAbs:=by rw[e]
   grind
  have J:z.natAbs%10<10:=Xbx _ (by decide);have Y:(o++[z.natAbs%10]).length+(aY 10 (z.natAbs/10)).length=(aY 10 n.natAbs).length:=by rw[<-ad,oK (n:=z.natAbs) (by decide) ae];simp;omega
  have ew:IntKind.i64.wrap (z.tdiv 10)=z.tdiv 10:=aW (by omega);simp only[go_sem,I,];refine⟨by decide,?_⟩;refine bK (fun E H'=>E 0=int z/\E 3=.os j/\E 4=boo (decide (n<0))/\E 5=int (z.natAbs%10:Nat)/\H' j=some (bY o)) ?_ fun K hK=>aA (fun F=>?_) (fun F=>?_)
  rotate_left
  ·have F:=of_decide_eq_true F;have e1:IntKind.i64.wrap (0-z.tmod 10)=((z.natAbs%10:Nat):Int):=by rw[aW (by omega)];omega
   simp only[go_sem,e1];exact hK _ _ ⟨I,U,V,rfl,O⟩
  ·have F:=of_decide_eq_false F;have e1:z.tmod 10=((z.natAbs%10:Nat):Int):=by omega
   simp only[go_sem];exact hK _ _ ⟨I,U,V,by simp only[go_sem];rw[e1],O⟩
  rintro ρ H ⟨I,U,V,e5,O⟩;simp only[go_sem,U,e5];refine aZ O ⟨rfl,rfl⟩ ⟨rfl,trivial⟩ (by simp only[bY,Xab,Xah,List.length_nil];omega) (fun j' ah=>?_);simp only[go_sem,I,V,ew];refine⟨by decide,⟨z.tdiv 10,j',_,rfl,rfl,rI,ho.snoc J,?_,fun h=>af (ab h),fun h=>ac (aa h),by omega,by omega,?_⟩,?_⟩
  ·rw[Z];exact Y
  ·rw[Z];exact X
  ·rw[QK,QK,Z];omega
 ·have hz:z=0:=by simpa using F
  subst hz;simp only[go_sem,U,V];rw[show(0:Int).natAbs=0 from rfl,Nat.mul_zero,Nat.add_zero]at hv;have ht:=XK (decide (n<0)) o ho (by omega);rw[hv,FJ]at ht;refine PC.useF [j] (.cons _ _ _ _ (.refl _) (.cons _ _ _ _ (.row _ _ _ (by simp only[Xaw,if_true];exact O) (ConvE.refl _)) .nil)) ht ?_;simp only[go_sem];exact .refl _
def MX(s:ByteArray)(h:s.size<=1048576):PC prog 206 [str s] (int (eM s).size):=by
 have I:=cV s;refine pcd func206 rfl rfl ?_;simp only[go_sem];refine⟨fun h=>⟨by omega,by have:=of_decide_eq_true h;omega⟩,?_⟩;rw[zH];have J:(eM s).size=s.size-stN s:=by rw[<-cV,xL,Xbj,I]
 have F:=NN s;refine aA (fun E=>?_) (fun E=>?_)
 ·have:stN s=1:=if_pos E;simp only[go_sem];refine cI ?_;rw[aW (by omega)];omega
 ·have:stN s=0:=if_neg (by rw[E];simp);simp only[go_sem];exact cI (by omega)
def auX{l:List UInt8}{k:Nat}{c:UInt8}(I:∀x∈l.take k,(x != eK)=true)(F:l[k]?=some c)(h:c=eK):l.any (· == eK)=true/\l.takeWhile (· != eK)=l.take k/\(l.dropWhile (· != eK)).drop 1=l.drop (k+1):=by
 obtain⟨J,e⟩:=List.getElem?_eq_some_iff.1 F;have E:l=l.take k++eK::l.drop (k+1):=by
  conv=>lhs;rw[<-Xcs k l]
  rw[Xci J,e,h]
 refine⟨Xao.2 ⟨c,Xac F,by simp[h]⟩,?_,?_⟩
 ·conv=>lhs;rw[E]
  exact MG I
 ·conv=>lhs;rw[E]
  rw[L2 I];rfl
def Sc(s:ByteArray)(h:s.size<=1048576):PC prog 153 [str s] (.tup [str (gM s),str (gK s),boo (lO s)]):=by
 have X:=cV s;refine pcd func153 rfl rfl ?_;simp only[go_sem];refine⟨fun ρ _=>∃k:Nat,k<=(bl s).length/\ρ 0=str s/\ρ 5=int k/\∀c∈(bl s).take k,(c != eK)=true,fun ρ _=>(bl s).length-aR (ρ 5),⟨0,Xaa _,rfl,rfl,by simp⟩,?_⟩;rintro ρ H ⟨k,Y,h0,O,U⟩;simp only[go_sem,h0,O];refine aA (fun I=>?_) (fun F=>?_)
 ·have I:k<(bl s).length:=by have:=ltB I;omega
  obtain⟨c,V⟩:=aK I;simp only[go_sem,h0,O,tD V];refine⟨⟨by omega,by omega⟩,?_⟩;rw[show(((c.toNat:Nat):Int) == 47)=(c == eK)from Vw c eK];refine aA (fun J=>?_) (fun J=>?_)
  ·have J:c=eK:=by simpa using J
   obtain⟨t1,t2,t3⟩:=auX U V J;have Z:s.extract 0 k=gM s:=lD (by rw[gC,Xbw,<-t2];exact(kC _).symm);have E:lO s=true:=t1;have e2:s.extract (k+1) s.size=gK s:=lD (by rw[gC,<-X,Xad,<-t3];unfold gK;rw[if_pos E];exact(kC _).symm);simp only[go_sem];refine kI (by rfl) (by kernel_rfl) ?_;simp only[go_sem,h0,O,aQ k,Xaq,Z,e2];rw[E];exact⟨⟨by omega,by omega⟩,⟨by omega,by omega⟩,.refl _⟩
  ·have J:c≠eK:=by simpa using J
   simp only[go_sem,h0,O,aQ k];exact⟨⟨k+1,I,rfl,gR V (by simpa using J) U⟩,by simp only[aN];omega⟩
 ·have F:k=(bl s).length:=by rw[<-X]at F;exact geB Y F
  subst F;rw[Xad]at U;have E:lO s=false:=qA U;simp only[go_sem,h0];rw[E,LN E,TA E,<-DI];exact .refl _
def CR(n:Int)(h0: -9223372036854775808<=n)(h1:n<=9223372036854775807):PC prog 14 [int n] (str (zed n)):=by refine pcd func14 rfl rfl ?_;simp only[go_sem];refine aG (awF n h0 h1) ?_;simp only[go_sem];exact .refl _
def qZ(s:ByteArray)(h:s.size<=1048576):PC prog 147 [str s] (boo (bZ s)):=by
 have hn:=EZ s;have hd:=Mz s;have h1:(1:Nat)<=1048576:=by omega
 refine pcd func147 rfl rfl ?_;simp only[go_sem];refine aG (Sc s h) ?_;simp only[go_sem];refine aG (zJ (gM s) (by omega)) ?_;simp only[go_sem];refine⟨_,fun _=>(BZ (gK s) (by omega)).q rfl,?_⟩;simp only[go_sem];refine⟨_,fun _=>(MX (gM s) (by omega)).q rfl,?_⟩;simp only[go_sem];refine⟨_,fun _=>(MX (gK s) (by omega)).q rfl,?_⟩;simp only[go_sem];refine aA (fun I=>?_) (fun I=>?_)
 ·simp only[go_sem];refine cB ?_;by_cases E:eA (gK s)=true
  ·refine(JJ ?_).symm;rw[E]at I;simpa using I
  ·unfold bZ;rw[show eA (gK s)=false by simpa using E];simp
 have E:eA (gK s)=true:=by simp only[Xag,Xbq]at I;exact I.1.1.2
 have J:(!fH (gM s)||decide (((eM (gM s)).size:Int)>4096)||decide (((eM (gK s)).size:Int)>4096))=false:=by rw[E]at I;simpa using I
 obtain⟨Z,Y,f3,U⟩:=B1 J E;simp only[go_sem];refine aA (fun O=>?_) (fun O=>?_)
 ·simp only[go_sem];refine cB ?_;have h0:lO s=false:=by simpa using O
  unfold bZ;rw[Z,h0];rfl
 have h0:lO s=true:=by simpa using O
 simp only[go_sem,oO,Fy];refine aA (fun F=>?_) (fun F=>?_)
 ·simp only[go_sem];refine cB ?_;unfold bZ;rw[h0];simp only[Xbu]at F;rcases F with(F|F)|F <;> simp[F]
 simp only[Xag]at F;obtain⟨⟨h5,h3⟩,h4⟩:=F;have v0:fG (gK s)≠0:=fun e=>nY.1 h3 (by rw[<-jO E,e])
 have v1:fG (gK s)<dA:=(AF E).1 U;have hE:kL (gM s) (gM s)=0:=by unfold kL;rw[Y];simp;omega
 have ha:=akM (gM s) (by omega);rw[if_pos hE]at ha;have V:(gG (gM s)).natAbs<dA:=by have:=rV (gG (gM s));rw[vO Y]at this;exact this.1 f3
 have aa:=jO E;have X:=afO (dec (gG (gM s)).natAbs) (gK s) (dY V) (by omega);have e:Ba (dec (gG (gM s)).natAbs) (gK s)=(dec (Nat.gcd (gG (gM s)).natAbs (fG (gK s))),0):=by unfold Ba;rw[if_pos (HF (mK _) E ((iX _).2 V) U),cE,AD (Nat.lt_of_le_of_lt (Nat.gcd_le_right _ (by omega)) v1)]
 rw[e]at X;simp only[go_sem];refine aG ha ?_;simp only[go_sem];refine aG X ?_;simp only[go_sem,Fy];refine cB ?_;unfold bZ;rw[Z,h0,h3,h4,h5];simp only[beq_self_eq_true,Xbc,Xcb,Xda,Xbt];rw[Xap,lR,sV,Xat]
def Qt(s:ByteArray)(h:s.size<=1048576):PC prog 89 [str s] (.tup (if bZ s=true then[str (gM s),str (gK s),int 0]else[str emp,str emp,int 3])):=by
 by_cases E:bZ s=true
 ·rw[if_pos E];refine pcd func89 rfl rfl ?_;simp only[go_sem];refine aG (qZ s h) ?_;simp only[go_sem,E];refine aA (fun F=>by cases F) (fun _=>?_);simp only[go_sem];refine aG (Sc s h) ?_;simp only[go_sem];exact .refl _
 ·rw[if_neg E];have E:bZ s=false:=by simpa using E
  refine pcd func89 rfl rfl ?_;simp only[go_sem];refine aG (qZ s h) ?_;simp only[go_sem,E];refine aA (fun _=>?_) (fun F=>by cases F);simp only[go_sem];exact .refl _
end Go.Proofs.YtpagaknmdfgfkaaGreatDoor.Nu
end
