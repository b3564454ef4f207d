import Derived.Test.YtpagaknmdfgfkaaGreatDoorPn05
set_option linter.unusedSimpArgs false
set_option linter.unusedVariables false
set_option linter.defProp false
set_option maxRecDepth 100000
namespace Go.Proofs.YtpagaknmdfgfkaaGreatDoor
open Go.Aw Go.Aw.D Go.Proofs Ty
namespace Nu
open Go.Proofs.Tryz
open Go.Nu
theorem FS:∀{l r:List UInt8},l.all isD=true->r.all isD=true->l.length=r.length->Lib.compareBytes l r=hY (jY l) (jY r)
 | [],[],_,_,_=>by rfl
 | [],_::_,_,_,h=>by grind
 | _::_,[],_,_,h=>by grind
 | a::l,b::r,hl,hr,h=>by
  simp only[List.all_cons,Xak]at hl hr;simp only[Xai,Nat.add_right_cancel_iff]at h;have ih:=FS hl.2 hr.2 h;have O:jY (a::l)=(a.toNat-48)*10^l.length+jY l:=by
   have:=wY [a] l
   grind[jY]
  have J:jY (b::r)=(b.toNat-48)*10^r.length+jY r:=by
   have:=wY [b] r
   grind[jY]
  have h1:=HK hl.2;have T:=HK hr.2;have Y:=nC.1 hl.1;have X:=nC.1 hr.1;rw[Lib.compareBytes,O,J,<-h]at *;have I:a<b↔a.toNat<b.toNat:=UInt8.lt_iff_toNat_lt;have F:b<a↔b.toNat<a.toNat:=UInt8.lt_iff_toNat_lt;split
  ·rename_i E;rw[I]at E;have:(a.toNat-48+1)*10^l.length<=(b.toNat-48)*10^l.length:=Xcx _ (by omega)
   grind[kH]
  ·split
   ·rename_i E;rw[F]at E;have:(b.toNat-48+1)*10^l.length<=(a.toNat-48)*10^l.length:=Xcx _ (by omega)
    grind[kD]
   grind[hY]
def IB(m n:Nat):PC prog 138 [str (dec m),str (dec n)] (int (hY m n)):=by
 have J:=jE m;have I:=jE n;have E:∀{p q:Nat},(Lib.decDigits p).length<(Lib.decDigits q).length->p<q:=fun {p q} h=>by
  have h1:=(lF (n:=p) (k:=(Lib.decDigits p).length) (kX p)).1 (Xaf _)
  grind[Xay,lF]
 refine pcd func138 rfl rfl ?_;simp only[go_sem];apply aA <;> intro h
 ·have h:(dec m).size≠(dec n).size:=neN h;simp only[go_sem];apply aA <;> intro F
  ·have F:=ltB F;simp only[go_sem]
   grind[cI,kH]
  ·have F:¬(dec m).size<(dec n).size:=by grind
   simp only[go_sem];have:=E (p:=n) (q:=m) (by omega)
   grind[cI,kD]
 ·have h:(dec m).size=(dec n).size:=eqN h;simp only[go_sem];refine aH (VO (dec m) (dec n)) ?_;simp only[go_sem]
  grind[cI,jL,FS,AU,tY]
def Cp(a b:ByteArray)(F:eA a=true)(E:eA b=true):PC prog 138 [str a,str b] (int (hY (gL a) (gL b))):=by
 have:=IB (gL a) (gL b)
 rwa [kB F,kB E]at this
def FI{s:ByteArray}(h:fC s=true):eA (fT s)=true:=by simp_all[fC]
def UW(a b:ByteArray)(ha:a.size<=1048576)(Y:b.size<=1048576):PC prog 78 [str a,str b] (int (Tq a b)):=by
 refine pcd func78 rfl rfl ?_;simp only[go_sem];refine aH (EE a ha) ?_;simp only[go_sem];refine aH (EE b Y) ?_;simp only[go_sem];apply aA <;> intro h
 ·simp only[go_sem];refine cI ?_;unfold Tq
  grind
 have I:fC a=true/\fC b=true:=by grind
 have X:=FI I.1;have T:=FI I.2;have E:∀{s:ByteArray},fC s=true->fY s=true->0<gL (fT s):=fun {s} h1 J=>by
  have F:=h1;unfold fC at F;simp only[J,Xaz,Xak,Xax,nX]at F
  grind[kB]
 have Z:Tq a b=hY (gN a) (gN b):=if_pos I;rw[Z];unfold gN;simp only[go_sem];apply aA <;> intro J
 ·have J:fY a=true/\fY b=true:=by grind
  simp only[go_sem];refine aH (Cp _ _ T X) ?_;simp only[go_sem];simp_all[cI,hY]
 ·simp only[go_sem];apply aA <;> intro F
  ·have O:fY b=false:=by grind
   have:=E I.1 F;simp only[go_sem];refine cI ?_;rw[if_pos F,if_neg (by grind),kH (by omega)]
  ·simp only[go_sem];apply aA <;> intro O
   ·have:=E I.2 O;simp only[go_sem];refine cI ?_;rw[if_neg (by grind),if_pos O,kD (by omega)]
   ·simp only[go_sem];refine aH (Cp _ _ X T) ?_;simp only[go_sem];simp_all[cI]
def lY(m:Bool)(n:Nat):List AV:=[boo m,str (dec n)]
def FC(m:Bool)(n:Nat):(lY m n).length=2:=(rfl)
def aoX(m:Bool)(n:Nat):(lY m n).getD 0 .any=boo m:=(rfl)
def apN(m:Bool)(n:Nat):(lY m n).getD 1 .any=str (dec n):=(rfl)
def Zk(m:Bool)(n:Nat):(lY m n).take 2=lY m n:=(rfl)
attribute [go_sem] FC aoX apN Zk
def Q8{m n:Nat}(E:m<cY)(F:n<cY):Ut (dec m) (dec n)=szN (m+n):=by simp_all[Ut,zE,cX]
def TX{m n:Nat}(F:m<cY)(E:n<cY)(h:n<=m):Uz (dec m) (dec n)=szN (m-n):=by simp_all[Uz,zE,cX,if_neg]
def dX{m:Nat}(E:m<cY):(dec m).size<=1048576:=by grind[jZ]
def arG(a b:Bool)(m n:Nat)(Z:m<cY)(Y:n<cY):PC prog 193 [.agg (lY a m),.agg (lY b n)] (.tup [str (szZ (sg a m+sg b n)).1,int (szZ (sg a m+sg b n)).2]):=by
 refine pcb (fun t=>t == 2||t == 3) func193 rfl rfl ?_;simp only[go_sem];refine aN fun i hi=>?_
 simp only[go_sem];refine aN fun j hj=>?_
 have O:=aB bQ i (some ⟨194,2,[lY a m]⟩);have J:i≠j:=bE O hj;have F:=aB (aM bQ i (some ⟨194,2,[lY a m]⟩)) j (some ⟨194,2,[lY b n]⟩);have E:(aM (aM bQ i (some ⟨194,2,[lY a m]⟩)) j (some ⟨194,2,[lY b n]⟩)) i=some ⟨194,2,[lY a m]⟩:=by rw[aJ _ _ _ _ J];exact O
 generalize aM (aM bQ i _) j _=H1 at *;simp only[go_sem,E,F];apply aA <;> intro h
 ·have I:a=b:=by grind
  subst I;simp only[go_sem,E,F];refine aH (ahI (dec m) (dec n) (dX Z) (dX Y)) ?_;rw[Q8 Z Y];simp only[go_sem,E];refine aH (Jp a (m+n)) ?_;simp only[go_sem];have e:sg a (m+n)=sg a m+sg a n:=by grind[sg]
  rw[e];exact .refl _
 have I:b= !a:=by cases a <;> cases b <;> simp_all
 subst I;simp only[go_sem,E,F];refine aH (IB m n) ?_;simp only[go_sem];refine bN (fun T H'=>∃(a' b':Bool) (p q:Nat),p<cY/\q<cY/\q<=p/\sg a' (p-q)=sg a m+sg (!a) n/\T 2=.op i 0 0/\T 3=.op j 0 0/\H' i=some (⟨194,2,[lY a' p]⟩:Row)/\H' j=some (⟨194,2,[lY b' q]⟩:Row)) ?_ fun K hK=>aA (fun hb=>?_) (fun hb=>?_)
 rotate_left
 ·have ad : m < n := by
   rcases Xay m n with h|h
   ·exact h
   ·exfalso;have hb:=of_decide_eq_true hb;unfold hY at hb;omega
  simp only[go_sem,E,F];refine aI E (by simp[FC]) ?_;generalize X:aM H1 i _=HP;have O:HP i=some (⟨194,2,[lY (!a) n]⟩:Row):=by rw[<-X,aB];rfl
  have ac:HP j=some (⟨194,2,[lY (!a) n]⟩:Row):=by rw[<-X,aJ _ _ _ _ (Ne.symm J)];exact F
  simp only[go_sem];refine aI ac (by simp[FC]) ?_;generalize X:aM HP j _=HQ;have S3:HQ j=some (⟨194,2,[lY a m]⟩:Row):=by rw[<-X,aB];rfl
  have S2:HQ i=some (⟨194,2,[lY (!a) n]⟩:Row):=by rw[<-X,aJ _ _ _ _ J];exact O
  simp only[go_sem];refine hK _ _ ⟨!a,a,n,m,Y,Z,by omega,?_,rfl,rfl,S2,S3⟩
  grind[sg]
 ·have aa:n<=m:=by grind[kH]
  simp only[go_sem];refine hK _ _ ⟨a,!a,m,n,Z,Y,aa,?_,rfl,rfl,E,F⟩
  grind[sg]
 rintro ρ H ⟨a',b',p,q,hp,hq,ab,hv,h2,h3,O,F⟩;simp only[go_sem,h2,h3,O,F];refine aH (afX (dec p) (dec q) (dX hp) (dX hq)) ?_;rw[TX hp hq ab];simp only[go_sem,h2,O];refine aH (Jp a' (p-q)) ?_;simp only[go_sem];rw[hv];exact .refl _
def PU(a b:ByteArray):Lc [a,b]=kJ a b:=by simp[Lc,kJ,acN]
def aiC(n:Int):Hu (zed n)=lY (decide (n<0)) n.natAbs:=by grind[Hu,lY,rT,kR]
def Fc(n:Int):sg (decide (n<0)) n.natAbs=n:=by grind[sg]
def Oe{m n:Int}(h:kJ (zed m) (zed n)=0):zL [zed m,zed n]=[lY (decide (m<0)) m.natAbs,lY (decide (n<0)) n.natAbs]:=by simp_all[zL,PU,aiC]
def DP(a b:ByteArray)(F:a.size<=1048576)(E:b.size<=1048576):PC prog 133 [.sl [[str a],[str b]]] (.tup [.sl (zL [a,b]),int (kJ a b)]):=by
 have:=aqO [a,b] (by simp) (by grind)
 rwa [PU]at this
def asU(a b:ByteArray)(J:a.size<=1048576)(E:b.size<=1048576):PC prog 192 [str a,str b] (.tup [str (KV a b).1,int (KV a b).2]):=by
 refine pcd func192 rfl rfl ?_;simp only[go_sem];refine aH (DP a b J E) ?_;simp only[go_sem];apply aA <;> intro h
 ·have h:kJ a b≠0:=by grind
  simp only[go_sem];rw[show KV a b=(emp,kJ a b)from if_neg h];exact .refl _
 have h:kJ a b=0:=by grind
 have e:KV a b=szZ (gN a+gN b):=if_pos h;rw[e];obtain⟨m,n,rfl,rfl,F,I⟩:=qD h;rw[cG,cG,Oe h];simp only[go_sem];refine dK ?_;simp only[go_sem,Xai,List.length_nil]
 repeat (refine⟨by first|decide|omega,?_⟩)
 refine⟨_,(arG _ _ _ _ F I).q rfl,?_⟩;simp only[go_sem];rw[Fc,Fc];exact .refl _
def avS(a b:ByteArray)(J:a.size<=1048576)(F:b.size<=1048576):PC prog 131 [str a,str b] (.tup [str (Y8 a b).1,int (Y8 a b).2]):=by
 refine pcd func131 rfl rfl ?_;simp only[go_sem];refine aH (DP a b J F) ?_;simp only[go_sem];apply aA <;> intro h
 ·have h:kJ a b≠0:=by simpa using h
  simp only[go_sem];rw[show Y8 a b=(emp,kJ a b)from if_neg h];exact .refl _
 have h:kJ a b=0:=by simpa using h
 have e:Y8 a b=szZ (gN a-gN b):=if_pos h;rw[e];obtain⟨m,n,rfl,rfl,O,I⟩:=qD h;rw[cG,cG,Oe h];simp only[go_sem];refine dK ?_;simp only[go_sem,Xai,List.length_nil]
 repeat (refine⟨by first|decide|omega,?_⟩)
 have E:sg (!decide (n<0)) n.natAbs= -n:=by
  unfold sg;by_cases h:n<0
  ·simp[h];omega
  ·simp[h];omega
 refine⟨_,(arG _ (!decide (n<0)) _ _ O I).q rfl,?_⟩;simp only[go_sem];rw[Fc,E,Int.sub_eq_add_neg];exact .refl _
def acW{m n:Nat}(E:m<cY)(F:n<cY):VD (dec m) (dec n)=szN (m*n):=by unfold VD;rw[if_pos (zE E F),cX,cX]
def atH(a b:ByteArray)(O:a.size<=1048576)(I:b.size<=1048576):PC prog 232 [str a,str b] (.tup [str (xW a b).1,int (xW a b).2]):=by
 refine pcd func232 rfl rfl ?_;simp only[go_sem];refine aH (DP a b O I) ?_;simp only[go_sem];apply aA <;> intro h
 ·have h:kJ a b≠0:=by grind
  simp only[go_sem];rw[show xW a b=(emp,kJ a b)from if_neg h];exact .refl _
 have h:kJ a b=0:=by grind
 have e:xW a b=szZ (gN a*gN b):=if_pos h;rw[e];obtain⟨m,n,rfl,rfl,F,E⟩:=qD h;rw[cG,cG,Oe h];simp only[go_sem];refine dK ?_;simp only[go_sem,Xai,List.length_nil]
 repeat (refine⟨by first|decide|omega,?_⟩)
 refine⟨_,(auE (dec m.natAbs) (dec n.natAbs) (dX F) (dX E)).q rfl,?_⟩;rw[acW F E];simp only[go_sem];refine dK ?_;simp only[go_sem,Xai,List.length_nil]
 repeat (refine⟨by first|decide|omega,?_⟩)
 refine⟨_,(Jp _ (m.natAbs*n.natAbs)).q rfl,?_⟩;simp only[go_sem];have J:sg (!(decide (m<0) == decide (n<0))) (m.natAbs*n.natAbs)=m*n:=by
  unfold sg
  grind
 rw[J];exact .refl _
def DC{P:Program}{C:mN}{PC:FuncId->List AV->aG->AV->Prop}{mt:Nat->Bool}{ops:Array Oper}{K:Env->aG->Prop}{m:Nat}{ρ:Env}{H:aG}(J:Env->aG->Prop)(h1:∀ρ H,J ρ H->K ρ H)
 (E:∀K':Env->aG->Prop,(∀ρ H,J ρ H->K' ρ H)->vV P C PC mt ops K' m ρ H):vV P C PC mt ops K m ρ H:=E K h1
abbrev Ft(A:List AV):Row:=⟨194,2,[A]⟩
abbrev zN:Row:=Ft [.v (.bool false),.v (.string ByteArray.empty)]
def El{A:List AV}(h:A.length=2):(⟨194,2,[List.take 2 A++List.drop (List.take 2 A).length [AV.v (.bool false),AV.v (.string ByteArray.empty)]]⟩:Row)=Ft A:=by rw[Xan (by omega),h];simp
def G7{m n:Int}(J:n≠0)(F:decide (m<0)≠decide (n<0))(T:m.natAbs%n.natAbs≠0):
  m.fdiv n= -((m.natAbs/n.natAbs+1:Nat):Int)/\m.fmod n=sg (decide (n<0)) (n.natAbs-m.natAbs%n.natAbs):=by
 have e:=Nat.mod_add_div m.natAbs n.natAbs;have I:=Xby m.natAbs (show 0<n.natAbs by omega);generalize m.natAbs/n.natAbs=q at *;generalize m.natAbs%n.natAbs=r at *;have E:(r:Int)+(n.natAbs:Int)*(q:Int)=(m.natAbs:Int):=by omega
 unfold sg;rcases Int.lt_or_gt_of_ne J with h|h
 ·have O:¬m<0:=fun X=>F (by grind)
  rw[Int.ofNat_natAbs_of_nonpos (a:=n) (by omega),Int.natAbs_of_nonneg (a:=m) (by omega)]at E;refine(Int.fdiv_fmod_unique' h).2 ⟨?_,?_,?_⟩
  all_goals grind
 ·have O:m<0:=by grind
  rw[Int.natAbs_of_nonneg (a:=n) (by omega),Int.ofNat_natAbs_of_nonpos (a:=m) (by omega)]at E;refine(Int.fdiv_fmod_unique h).2 ⟨?_,?_,?_⟩
  all_goals grind
def Mq{m n:Int}(F:n≠0)(h0:decide (m<0)=decide (n<0)\/m.natAbs%n.natAbs=0):
  m.fdiv n=sg (!(decide (m<0) == decide (n<0))) (m.natAbs/n.natAbs)/\m.fmod n=sg (decide (n<0)) (m.natAbs%n.natAbs):=by
 have e:=Nat.mod_add_div m.natAbs n.natAbs;have I:=Xby m.natAbs (show 0<n.natAbs by omega);generalize m.natAbs/n.natAbs=q at *;generalize m.natAbs%n.natAbs=r at *;have E:(r:Int)+(n.natAbs:Int)*(q:Int)=(m.natAbs:Int):=by omega
 unfold sg;rcases Int.lt_or_gt_of_ne F with h|h
 ·rw[Int.ofNat_natAbs_of_nonpos (a:=n) (by omega)]at E;refine(Int.fdiv_fmod_unique' h).2 ?_
  grind
 ·rw[Int.natAbs_of_nonneg (a:=n) (by omega)]at E;refine(Int.fdiv_fmod_unique h).2 ?_
  grind
def Tr{m n:Nat}(F:m<cY)(E:n<cY)(h:n≠0):ER (dec m) (dec n)=(dec (m/n),dec (m%n),0):=by simp_all[ER,zE,cX]
def Pf(a b:ByteArray)(ha:a.size<=1048576)(E:b.size<=1048576):PC prog 77 [str a,str b] (.tup [str (wQ a b).1,str (wQ a b).2.1,int (wQ a b).2.2]):=by
 refine pcd func77 rfl rfl ?_;simp only[go_sem];refine aH (DP a b ha E) ?_;simp only[go_sem];apply aA <;> intro h
 ·have h:kJ a b≠0:=by simpa using h
  simp only[go_sem];rw[show wQ a b=(emp,emp,kJ a b)from if_neg h];exact .refl _
 have h:kJ a b=0:=by simpa using h
 obtain⟨m,n,rfl,rfl,Z,hn⟩:=qD h;have e:wQ (zed m) (zed n)=if n=0 then(emp,emp,10)else(zed (m.fdiv n),zed (m.fmod n),0):=by unfold wQ;rw[if_pos h,cG,cG]
 rw[e,Oe h];simp only[go_sem];obtain⟨A,hA⟩:∃A,lY (decide (m<0)) m.natAbs=A:=⟨_,rfl⟩;obtain⟨B,hB⟩:∃B,lY (decide (n<0)) n.natAbs=B:=⟨_,rfl⟩;have aa:A.length=2:=by rw[<-hA];rfl
 have X:B.length=2:=by rw[<-hB];rfl
 refine DC (fun I H'=>∃i j,I 9=.op i 0 0/\I 10=.op j 0 0/\H' i=some (Ft A)/\H' j=some (Ft B)) ?_ fun K hK=>?_
 rotate_left
 ·refine Co [] (.q 0 (.q 1 (.q 2 (.q 3 (.q 4 (.q 5 (.a2 6 (.a1 7 (.a1 8 (.a1 9 .nil))) 7 (.a1 6 (.a1 8 (.a1 9 .nil)))))))))) (by simp) (by kernel_rfl) fun Hp Hr _ hq _ _=>?_
  simp only[go_sem,Xai,List.length_nil,hA,hB]
  repeat (refine⟨by first|decide|omega,?_⟩)
  refine tL ?_ ?_
  ·simp only[go_sem];refine aN fun i hi=>?_
   simp only[go_sem];refine aN fun j hj=>?_
   have R:=aB Hr i (some (zN));have O:=bE R hj;have T:=eT (r':=zN) R hj;have J:=aB (aM Hr i (some (zN))) j (some (zN));simp only[go_sem];refine aI (r:=zN) T (by simp[aa]) ?_;simp only[go_sem];refine aI (r:=zN) (by rw[aJ _ _ _ _ O.symm];exact J) (by simp[X]) ?_;simp only[go_sem];refine gJ fun _ Hm _ Z=>hK _ _ ⟨i,j,rfl,rfl,?_,?_⟩
   ·rw[Z i (by simp),aJ _ _ _ _ O,aB];exact congrArg some (El aa)
   ·rw[Z j (by simp),aB];exact congrArg some (El X)
  ·simp only[go_sem];refine aN fun j hj=>?_
   simp only[go_sem];refine aN fun i hi=>?_
   have R:=aB Hr j (some (zN));have O:=(bE R hi).symm;have J:=eT (r':=zN) R hi;have T:=aB (aM Hr j (some (zN))) i (some (zN));simp only[go_sem];refine aI (r:=zN) T (by simp[aa]) ?_;simp only[go_sem];refine aI (r:=zN) (by rw[aJ _ _ _ _ O.symm];exact J) (by simp[X]) ?_;simp only[go_sem];refine gJ fun _ Hm _ Z=>hK _ _ ⟨i,j,rfl,rfl,?_,?_⟩
   ·rw[Z i (by simp),aJ _ _ _ _ O,aB];exact congrArg some (El aa)
   ·rw[Z j (by simp),aB];exact congrArg some (El X)
 rintro ρ H ⟨i,j,h9,F,T,J⟩;subst hA hB;simp only[go_sem,F,J,oD];apply aA <;> intro ac
 ·have h0 : n = 0 := by have:=sC.1 (lP.1 ac);omega
  simp only[go_sem];rw[if_pos h0];exact .refl _
 have h0:n≠0:=fun e=>by subst e;exact nX.1 ac rfl
 have ah:n.natAbs≠0:=by omega
 rw[if_neg h0];simp only[go_sem,h9,F,T,J];refine aH (atJ (dec m.natAbs) (dec n.natAbs) (dX Z) (dX hn)) ?_;rw[Tr Z hn ah];simp only[go_sem];refine aA (fun E=>by cases E) (fun _=>?_);simp only[go_sem,h9,F,T,J,oD];have aj:=Nat.mod_add_div m.natAbs n.natAbs;have ai:=Xby m.natAbs (show 0<n.natAbs by omega);refine bN (fun I H'=>∃q r:Nat,I 9=.op i 0 0/\I 10=.op j 0 0/\H' i=some (Ft (lY (decide (m<0)) m.natAbs))/\H' j=some (Ft (lY (decide (n<0)) n.natAbs))/\I 11=str (dec q)/\I 12=str (dec r)/\q<cY/\r<cY/\sg (!(decide (m<0) == decide (n<0))) q=m.fdiv n/\sg (decide (n<0)) r=m.fmod n) ?_ fun K hK=>aA (fun E=>?_) (fun E=>?_)
 rotate_left
 ·have E : decide (m < 0) ≠ decide (n < 0) /\ m.natAbs % n.natAbs ≠ 0 := by simp only[Xak,Xax,beq_eq_false_iff_ne,ne_eq,nX]at E;exact⟨E.1,fun e=>E.2 (by rw[e])⟩
  obtain⟨f1,f2⟩:=G7 h0 E.1 E.2;have ab:m.natAbs/n.natAbs+1<cY:=by
   have h2:2<=n.natAbs:=by omega
   have h3:2*(m.natAbs/n.natAbs)<=n.natAbs*(m.natAbs/n.natAbs):=Xcx _ h2;omega
  have Y:m.natAbs/n.natAbs<cY:=by omega
  have ad:(1:Nat)<cY:=Nat.lt_of_le_of_lt (Nat.le_add_left 1 _) ab;have ae:m.natAbs%n.natAbs<cY:=by omega
  generalize hQ:m.natAbs/n.natAbs=q at *;generalize hR:m.natAbs%n.natAbs=r at *;simp only[go_sem];rw[EX];refine aH (ahI (dec q) (dec 1) (dX Y) (dX ad)) ?_;rw[Q8 Y ad,Ah ab];simp only[go_sem];refine aA (fun E=>by cases E) (fun _=>?_);simp only[go_sem,F,J];refine aH (afX (dec n.natAbs) (dec r) (dX hn) (dX ae)) ?_;rw[TX hn ae (by omega),Ah (show n.natAbs-r<cY by omega)];simp only[go_sem];refine aA (fun E=>by cases E) (fun _=>?_);simp only[go_sem];refine hK _ _ ⟨q+1,n.natAbs-r,h9,F,T,J,rfl,rfl,ab,by omega,?_,f2.symm⟩;rw[f1];unfold sg;rw[if_pos (by simpa using E.1)]
 ·have E : decide (m < 0) = decide (n < 0) \/ m.natAbs % n.natAbs = 0 := by
   by_cases h1:decide (m<0)=decide (n<0)
   ·exact .inl h1
   ·refine .inr ?_;have h2:(!(decide (m<0) == decide (n<0)))=true:=by simpa using h1
    rw[h2,Xaz,Xbw]at E;exact sC.1 (lP.1 E)
  obtain⟨f1,f2⟩:=Mq h0 E;have Y:m.natAbs/n.natAbs<cY:=Nat.lt_of_le_of_lt (Xcp _ _) Z;simp only[go_sem];exact hK _ _ ⟨_,_,h9,F,T,J,rfl,rfl,Y,by omega,f1.symm,f2.symm⟩
 rintro ρ H ⟨q,r,h9,F,T,J,af,ag,hq,hr,f1,f2⟩;simp only[go_sem];refine dK ?_;simp only[go_sem,h9,F,af,T,J];refine⟨_,(WN _ q (dX hq)).q rfl,?_⟩;simp only[go_sem,F,ag,J];refine⟨_,(WN _ r (dX hr)).q rfl,?_⟩;simp only[go_sem,f1,f2];exact .refl _
end Nu
namespace Nu
open Go.Proofs.Tryz
open Go.Nu
open Go.RowKit (Below)
def Ff:∀l:List UInt8,Lib.indexByte l 47=if l.any (· == fG)=true then((l.takeWhile (· != fG)).length:Int)else -1
 | []=>rfl
 | c::l=>by
  have ih:=Ff l;unfold Lib.indexByte;by_cases h:c=fG
  all_goals simp_all[fG]
theorem Ia{α:Type}(p:α->Bool):∀l:List α,l.take (l.takeWhile p).length=l.takeWhile p
 | []=>rfl
 | a::l=>by
  rw[List.takeWhile_cons];split
  ·rw[Xai,List.take_succ_cons,Ia p l]
  ·rfl
def XM{α:Type}(p:α->Bool):∀l:List α,l.drop ((l.takeWhile p).length+1)=(l.dropWhile p).drop 1
 | []=>rfl
 | a::l=>by
  rw[List.takeWhile_cons,List.dropWhile_cons];split
  ·rw[Xai,List.drop_succ_cons,XM p l]
  ·rfl
def axB{l:List UInt8}(h:l.any (· == fG)=true):(l.takeWhile (· != fG)).length<l.length:=by grind[Ia,FM]
def afY(s:ByteArray):Int:=if lV s=true then(((bl s).takeWhile (· != fG)).length:Int)else -1
def akM(s:ByteArray):PC prog 217 [str s,str ⟨#[47]⟩] (int (afY s)):=by
 refine PC.lib (a:=[.string s,.string ⟨#[47]⟩]) (v:=.int .i64 (afY s)) (fun S w=>rfl) fun w _=>(Tryz.stringslite_Index_one s 47 w).mono fun e w' ⟨F,E⟩=>?_
 rw[E];exact⟨F.trans (by rw[show s.data.toList=bl s from rfl,Ff];rfl),Below.refl _ _⟩
def Qc(s:ByteArray):PC prog 96 [str s,str ⟨#[47]⟩] (boo (lV s)):=by
 refine PC.lib (a:=[.string s,.string ⟨#[47]⟩]) (v:=.bool (lV s)) (fun S w=>rfl) fun w _=>(Tryz.strings_Contains_one s 47 w).mono fun e w' ⟨F,E⟩=>?_
 rw[E];refine⟨F.trans ?_,Below.refl _ _⟩;rw[show s.data.toList=bl s from rfl,Ff];unfold lV;simp_all;grind
def NM(s:ByteArray):ByteArray:=⟨(((bl s).dropWhile (· != fG)).drop 1).toArray⟩
def adB(s:ByteArray)(h:s.size<=1048576):PC prog 167 [str s,str ⟨#[47]⟩] (.tup (if lV s=true then[str (gX s),str (NM s),boo true]else[str s,str emp,boo false])):=by
 refine pcd func167 rfl rfl ?_;simp only[go_sem];refine aH (akM s) ?_;simp only[go_sem];have X:=dF s;apply aA <;> intro F
 ·have E : lV s = true := by
   have F:=of_decide_eq_true F
   grind[afY]
  have O:=axB E;rw[if_pos E,show afY s=(((bl s).takeWhile (· != fG)).length:Int)from if_pos E];simp only[go_sem];refine dK ?_;simp only[go_sem];have J:s.extract 0 ((bl s).takeWhile (· != fG)).length=gX s:=lB (by rw[gD,Xbx,Ia];rfl);have T:s.extract (((bl s).takeWhile (· != fG)).length+1) s.size=NM s:=lB (by rw[gD,<-X,Xad,XM];rfl);refine⟨⟨by omega,by omega⟩,?_⟩;have I:IntKind.i64.wrap ((((bl s).takeWhile (· != fG)).length:Int)+((#[47]:Array UInt8).size:Nat))=((((bl s).takeWhile (· != fG)).length+1:Nat):Int):=mC (by omega);simp only[I,Xao,J,T];refine⟨⟨by omega,by omega⟩,?_⟩;exact .refl _
 ·have E:¬lV s=true:=fun E=>by simp_all[afY]
  rw[if_neg E];simp only[go_sem];exact .refl _
def Qu{s:ByteArray}(h:lV s=false):gX s=s:=by grind[lB,gX,lU,Ar,lV]
def awE(s:ByteArray)(h:s.size<=1048576):PC prog 100 [str s,str ⟨#[47]⟩] (.tup (if lV s=true then[str (gX s),str (NM s),boo true]else[str s,str emp,boo false])):=by
 by_cases E:lV s=true
 ·have:=adB s h;rw[if_pos E]at this |-;refine pcd func100 rfl rfl ?_;simp only[go_sem];refine aH this ?_;simp only[go_sem];exact .refl _
 ·have:=adB s h;rw[if_neg E]at this |-;refine pcd func100 rfl rfl ?_;simp only[go_sem];refine aH this ?_;simp only[go_sem];exact .refl _
def Ie(s:ByteArray)(h:s.size<=1048576):PC prog 54 [str s] (.tup [str (gX s),str (gQ s)]):=by
 have F:=awE s h;by_cases E:lV s=true
 ·rw[if_pos E]at F;refine pcd func54 rfl rfl ?_;simp only[go_sem];refine aH F ?_;simp only[go_sem];refine aA (fun I=>by cases I) (fun _=>?_);simp only[go_sem];rw[show gQ s=NM s from if_pos E];exact .refl _
 ·rw[if_neg E]at F;refine pcd func54 rfl rfl ?_;simp only[go_sem];refine aH F ?_;simp only[go_sem];refine aA (fun _=>?_) (fun I=>by cases I);simp only[go_sem];rw[show gQ s=dec 1 from if_neg E,Qu (by grind),<-EX];exact .refl _
def PI(s:ByteArray):PC prog 95 [str s] (int (fT s).size):=by refine pcd func95 rfl rfl ?_;simp only[go_sem];refine aH (Cd s) ?_;simp only[go_sem];exact .refl _
def FQ(s:ByteArray):(gX s).size<=s.size:=by grind[dF,gX,lU,Ia]
def Lu(s:ByteArray):(gQ s).size<=max s.size 1:=by grind[gQ,dF,lU,List.dropWhile_suffix,EX]
theorem V8:eA (dec 1)=true:=mI 1
theorem Jb{s:ByteArray}(h:eA s=true):fT s=s:=by rw[<-kB h,SG]
theorem Mo{s:ByteArray}(h:lV s=false):gQ s=dec 1:=if_neg (by grind)
theorem JS{s:ByteArray}(E:(!fC (gX s)||decide (((fT (gX s)).size:Int)>4096)||decide (((fT (gQ s)).size:Int)>4096))=true):bV s=false:=by
 unfold bV;rw[Xcz];simp only[ne_eq,Xak,decide_eq_true_eq];rintro⟨⟨⟨⟨h1,F⟩,I⟩,J⟩,_⟩;rw[h1,Jb F]at E
 grind
theorem BM{s:ByteArray}(E:(!fC (gX s)||decide (((fT (gX s)).size:Int)>4096)||decide (((fT (gQ s)).size:Int)>4096))=false)(F:eA (gQ s)=true):
 (fC (gX s)&&eA (gQ s)&&decide ((fT (gX s)).size<=4096)&&decide ((gQ s).size<=4096))=true/\fC (gX s)=true/\(fT (gX s)).size<=4096/\(gQ s).size<=4096:=by grind[Jb]
def B1(s:ByteArray)(h:s.size<=1048576):PC prog 53 [str s] (boo (bV s)):=by
 have hn:=FQ s;have hd:=Lu s;have h1:(1:Nat)<=1048576:=by omega
 have ab:=DR (gX s);have aa:=DR (gQ s);refine pcd func53 rfl rfl ?_;simp only[go_sem];refine aH (Ie s h) ?_;simp only[go_sem];refine aH (afK (gX s) (by omega)) ?_;simp only[go_sem];refine⟨_,fun _=>(PI (gX s)).q rfl,?_⟩;simp only[go_sem];refine⟨_,fun _=>(PI (gQ s)).q rfl,?_⟩;simp only[go_sem];apply aA <;> intro Z
 ·simp only[go_sem]
  grind[cB,JS]
 simp only[go_sem];refine aH (Qc s) ?_;simp only[go_sem];apply aA <;> intro hs
 ·simp only[go_sem]
  grind[cB,Mo,V8,bV,BM]
 have h0:lV s=true:=by grind
 simp only[go_sem];refine aH (DZ (gQ s) (by omega)) ?_;simp only[go_sem,oD,Fm];apply aA <;> intro J
 ·simp only[go_sem];refine cB ?_;unfold bV
  grind
 simp only[Xag,Xbw]at J;obtain⟨⟨⟨E,F⟩,Y⟩,O⟩:=J;obtain⟨f1,X,f3,I⟩:=BM Z E;simp only[go_sem];refine aH (Cd (gX s)) ?_;simp only[go_sem];refine aH (alL (fT (gX s)) (gQ s) (by omega) (by omega)) ?_;simp only[go_sem,Fm];refine cB ?_;have fd:=FI X;have v0:gL (gQ s)≠0:=fun e=>nX.1 F (by grind[kB])
 have T:gL (gQ s)<cY:=(DG E).1 I;have e:Bd (fT (gX s)) (gQ s)=(dec (Nat.gcd (gL (fT (gX s))) (gL (gQ s))),0):=by unfold Bd;rw[if_pos (HW fd E f3 I),Ah (Nat.lt_of_le_of_lt (Nat.gcd_le_right _ (by omega)) T)]
 have ev:(gN (gX s)).natAbs=gL (fT (gX s)):=by grind[gN]
 rw[e];unfold bV;rw[f1,h0,F,Y,O,ev];simp only[beq_self_eq_true,Xaz,Xct,Xcy,Xca];rw[Xar,lP,sC,Xav]
def Et(n:Int)(h0: -9223372036854775808<=n)(h1:n<=9223372036854775807):PC prog 75 [int n] (str (zed n)):=by refine pcd func75 rfl rfl ?_;simp only[go_sem];refine aH (awP n h0 h1) ?_;simp only[go_sem];exact .refl _
def anQ(s:ByteArray)(h:s.size<=1048576):PC prog 26 [str s] (int (C5 s)):=by
 have O:=FQ s;refine pcd func26 rfl rfl ?_;simp only[go_sem];refine aH (B1 s h) ?_;simp only[go_sem];apply aA <;> intro F
 ·simp only[go_sem];simp_all[cI,C5]
 ·have E:bV s=true:=by grind
  simp only[go_sem];refine aH (Ie s h) ?_;simp only[go_sem];refine aH (anW (gX s) (by omega)) ?_;simp only[go_sem];refine cI ?_;obtain⟨x,rfl,J,I,_⟩:=fF E;simp_all[C5,BI,sR,cG,fN]
def PA(a b:ByteArray):List AV:=if(bV a&&bV b)=true then[str (gX a),str (gQ a),str (gX b),str (gQ b),int 0]else[str emp,str emp,str emp,str emp,int 3]
def WP(a b:ByteArray)(F:a.size<=1048576)(E:b.size<=1048576):PC prog 76 [str a,str b] (.tup (PA a b)):=by
 refine pcd func76 rfl rfl ?_;simp only[go_sem];refine aH (B1 a F) ?_;simp only[go_sem];refine⟨_,fun _=>(B1 b E).q rfl,?_⟩;simp only[go_sem];apply aA <;> intro I
 ·simp only[go_sem];rw[show PA a b=[str emp,str emp,str emp,str emp,int 3]from if_neg (by grind)];exact .refl _
 ·simp only[go_sem];refine aH (Ie a F) ?_;simp only[go_sem];refine aH (Ie b E) ?_;simp only[go_sem];rw[show PA a b=_ from if_pos (by grind)];exact .refl _
def akO(n:Int)(d:Nat)(I:d≠0)(O:n.natAbs<cY)(E:d<cY):PC prog 191 [str (zed n),str (dec d)] (.tup [str (lO (mkRat n d)),int 0]):=by
 have X:=MD (n:=n) I E;have aa:=Xu (n:=n) I;have T:∀{m:Int},m.natAbs<cY->(zed m).size<=1048576:=fun {m} hm=>by grind[rW,fT,dF,lU]
 have J:=DY I O E;have Z:wQ (zed n) (dec (Nat.gcd n.natAbs d))=(zed (mkRat n d).num,zed (n.fmod (Nat.gcd n.natAbs d:Nat)),0):=by unfold wQ;rw[<-dJ,if_pos (rF O (by omega)),cG,cG,if_neg (by omega),Yj I]
 have Y:wQ (dec d) (dec (Nat.gcd n.natAbs d))=(dec (mkRat n d).den,zed ((d:Int).fmod (Nat.gcd n.natAbs d:Nat)),0):=by unfold wQ;rw[<-dJ,<-dJ,if_pos (rF (by omega) (by omega)),cG,cG,if_neg (by omega),X4 I,dJ]
 refine pcd func191 rfl rfl ?_;simp only[go_sem];refine aH (Cd (zed n)) ?_;rw[kR];simp only[go_sem];refine aH (alL (dec n.natAbs) (dec d) (dX O) (dX E)) ?_;rw[show Bd (dec n.natAbs) (dec d)=(dec (Nat.gcd n.natAbs d),0)by simp_all[Bd,zE,cX,Ah]];simp only[go_sem];refine aA (fun F=>by cases F) (fun _=>?_);simp only[go_sem];refine aH (Pf (zed n) (dec (Nat.gcd n.natAbs d)) (T O) (dX X)) ?_;rw[Z];simp only[go_sem];refine aA (fun F=>by cases F) (fun _=>?_);simp only[go_sem];refine aH (Pf (dec d) (dec (Nat.gcd n.natAbs d)) (dX E) (dX X)) ?_;rw[Y];simp only[go_sem];refine aA (fun F=>by cases F) (fun _=>?_);simp only[go_sem,Fm];generalize mkRat n d=x at *;apply aA <;> intro F
 ·have h1:x.den=1:=sC.1 (lP.1 F);simp only[go_sem];rw[show lO x=zed x.num from if_pos h1];exact .refl _
 ·have h1:x.den≠1:=fun e=>nX.1 F (by rw[e])
  simp only[go_sem];have z1:=T J.1;have z2:=dX J.2;have z3:(zed x.num++slB).size=(zed x.num).size+1:=by rw[ByteArray.size_append];rfl
  refine⟨by simp_all;omega,?_⟩;refine⟨by simp_all;omega,?_⟩;rw[show lO x=zed x.num++slB++dec x.den from if_neg h1];exact .refl _
end Nu
namespace Nu
open Go.Proofs.Tryz
open Go.Nu
abbrev Pr:=ByteArray×ByteArray
def Dg(p:Pr):List AV:=[str p.1,str p.2]
def M9(p:Pr):(Dg p).length=2:=(rfl)
def amS(p:Pr):(Dg p).getD 0 .any=str p.1:=(rfl)
def amB(p:Pr):(Dg p).getD 1 .any=str p.2:=(rfl)
def acG(p:Pr):(Dg p).take 2=Dg p:=(rfl)
attribute [go_sem] M9 amS amB acG
def prA(p:Pr):List AV:=[str (xW p.1 p.2).1]
def prE:List Pr->Int
 | []=>0
 | p::l=>if(xW p.1 p.2).2≠0 then(xW p.1 p.2).2 else prE l
def Qw:∀{l:List Pr},(∀p∈l,(xW p.1 p.2).2=0)->prE l=0
 | [],_=>rfl
 | p::l,h=>by unfold prE;rw[if_neg (by simp[h p (by simp)])];exact Qw fun q E=>h q (by simp[E])
def acX:∀{l:List Pr} {k:Nat} {p:Pr},l[k]?=some p->(∀q∈l.take k,(xW q.1 q.2).2=0)->(xW p.1 p.2).2≠0->prE l=(xW p.1 p.2).2
 | [],k,p,h,_,_=>by grind
 | a::l,0,p,h,_,h2=>by simp_all[prE]
 | a::l,k+1,p,h,h1,h2=>by unfold prE;rw[if_neg (by grind)];exact acX (k:=k) (by simpa using h) (fun q E=>h1 q (by simp[E])) h2
def aqK(l:List (List AV)):Row:=⟨9,1,l⟩
def JO(l:List Pr)(hl:l.length<=1048576)(hs:∀p∈l,p.1.size<=1048576/\p.2.size<=1048576):PC prog 190 [.sl (l.map Dg)] (.tup [.sl (if prE l=0 then l.map prA else[]),int (prE l)]):=by
 refine pcb (fun t=>t == 6||t == 11) func190 rfl rfl ?_;simp only[go_sem];refine⟨⟨⟨by omega,by omega⟩,by omega⟩,?_⟩;refine aN fun j hj=>?_
 simp only[go_sem];refine⟨fun ρ H=>∃(k j:Nat),k<=l.length/\ρ 12=.sl (l.map Dg)/\ρ 13=int l.length/\ρ 4=.os j/\ρ 14=int k/\H j=some (aqK ((l.take k).map prA))/\∀p∈l.take k,(xW p.1 p.2).2=0,fun ρ _=>l.length-aR (ρ 14),
  ⟨0,j,Xaa _,rfl,by simp only[go_sem],rfl,by simp only[go_sem];rfl,aB _ _ _,by simp⟩,?_⟩
 clear hj j;rintro ρ H ⟨k,j,hk,aa,ab,h4,O,X,hz⟩;simp only[go_sem,ab,O];refine aA (fun F=>?_) (fun J=>?_)
 ·have F:=ltB F;obtain⟨p,E⟩:=aK F;have b1:=inB F;have Y:=hs p (Xac E);simp only[go_sem,aa,O,aC E,b1];refine aN fun i hi=>?_
  have Z:j≠i:=bE X hi;simp only[go_sem,];refine aI (aB _ _ _) (by simp[M9]) ?_;generalize hG:aM (aM _ i _) i _=HG;have Ri:HG i=some (⟨238,2,[Dg p]⟩:Row):=by rw[<-hG,aB];rfl
  have ac:HG j=some (aqK ((l.take k).map prA)):=by rw[<-hG,aJ _ _ _ _ Z,aJ _ _ _ _ Z];exact X
  clear hG hi X;simp only[go_sem,Ri]
  repeat (refine⟨by first|decide|omega,?_⟩)
  refine aH (atH p.1 p.2 Y.1 Y.2) ?_;simp only[go_sem,];refine aA (fun I=>?_) (fun I=>?_)
  ·have I:(xW p.1 p.2).2≠0:=by simpa using I
   simp only[go_sem];have e:prE l=(xW p.1 p.2).2:=acX E hz I;rw[e,if_neg I];exact .refl _
  ·have I:(xW p.1 p.2).2=0:=by simpa using I
   simp only[go_sem,h4];refine aY ac ⟨rfl,rfl⟩ ⟨rfl,trivial⟩ (by simp only[aqK,Xab,Xap,Xai,List.length_nil];omega) (fun j' ad=>?_);simp only[go_sem,aa,ab,O,aQ k];refine⟨⟨k+1,j',F,rfl,rfl,?_,?_⟩,by simp only[aL];omega⟩
   ·rw[aB];simp only[aqK,bA E,Xam,Xba,Xbz];rfl
   ·intro q T;rw[bA E]at T;rcases Xbb.1 T with T|T
    ·exact hz q T
    ·rw[Xaw.1 T];exact I
 ·have J:=geB hk J;subst J;rw[Xad]at X hz;simp only[go_sem,h4];have e:prE l=0:=Qw hz;rw[if_pos e,e];exact .tup _ _ (.cons _ _ _ _ (.row _ _ _ X (ConvE.refl _)) (ConvL.refl _))
def uA{m n:Int}(E:m.natAbs<cY)(F:n.natAbs<cY):xW (zed m) (zed n)=szZ (m*n):=by unfold xW;rw[if_pos (rF E F),cG,cG]
def TM{m n:Int}(E:m.natAbs<cY)(F:n.natAbs<cY):KV (zed m) (zed n)=szZ (m+n):=by unfold KV;rw[if_pos (rF E F),cG,cG]
def adZ{m n:Int}(E:m.natAbs<cY)(F:n.natAbs<cY):Y8 (zed m) (zed n)=szZ (m-n):=by unfold Y8;rw[if_pos (rF E F),cG,cG]
def xS{n:Int}(h:nQ n=false):szZ n=(zed n,0):=if_pos (iK.1 h)
def tE{n:Int}(h:nQ n=true):szZ n=(emp,4):=if_neg (fun E=>by rw[iK.2 E]at h;cases h)
def dR{m:Int}(E:m.natAbs<cY):(zed m).size<=1048576:=by
 have:=(rW m).2 E;unfold fT at this;split at this
 ·rw[<-dF,lU,Xbr]at this;rw[<-dF];omega
 ·omega
def Gm{a b c d:Int}(J:a.natAbs<cY)(E:b.natAbs<cY)(O:c.natAbs<cY)(I:d.natAbs<cY):
  PC prog 190 [.sl [[str (zed a),str (zed b)],[str (zed c),str (zed d)]]] (if(nQ (a*b)||nQ (c*d))=true then .tup [.sl [],int 4]else .tup [.sl [[str (zed (a*b))],[str (zed (c*d))]],int 0]):=by
 have:=JO [(zed a,zed b),(zed c,zed d)] (by simp) (by simp[dR,J,E,O,I]);simp only[prE,uA J E,uA O I,Xba,Xbz,prA,Dg]at this;cases h1:nQ (a*b)with
 | true=>rw[tE h1]at this;simpa using this
 | false=>
  rw[xS h1]at this;cases F:nQ (c*d)with
  | true=>rw[tE F]at this;simpa using this
  | false=>rw[xS F]at this;simpa using this
def Qg{a b:Int}(F:a.natAbs<cY)(E:b.natAbs<cY):
  PC prog 190 [.sl [[str (zed a),str (zed b)]]] (if nQ (a*b)=true then .tup [.sl [],int 4]else .tup [.sl [[str (zed (a*b))]],int 0]):=by
 have:=JO [(zed a,zed b)] (by simp) (by simp[dR,F,E]);simp only[prE,uA F E,Xba,Xbz,prA,Dg]at this;cases h1:nQ (a*b)with
 | true=>rw[tE h1]at this;simpa using this
 | false=>rw[xS h1]at this;simpa using this
def fv(g:FuncId):AV:=.v (.func (.func g) #[] #[])
def YW(op:Int->Int->Int)(x y:Rat):ByteArray×Int:=
 if(nQ (x.num*y.den)||nQ (y.num*x.den)||nQ (op (x.num*y.den) (y.num*x.den))||nQ (x.den*y.den))=true then(emp,4)else(lO (mkRat (op (x.num*y.den) (y.num*x.den)) (x.den*y.den)),0)
def G2(op:Int->Int->Int)(a b:ByteArray):ByteArray×Int:=if(bV a&&bV b)=true then YW op (oK a) (oK b)else(emp,3)
def MK(g:FuncId)(op:Int->Int->Int)(ab:aE prog g=true)(hg:∀m n:Int,m.natAbs<cY->n.natAbs<cY->PC prog g [str (zed m),str (zed n)] (.tup [str (szZ (op m n)).1,int (szZ (op m n)).2]))
  (a b:ByteArray) (ha:a.size<=1048576) (F:b.size<=1048576):PC prog 130 [str a,str b,fv g] (.tup [str (G2 op a b).1,int (G2 op a b).2]):=by
 have E:=WP a b ha F;by_cases T:(bV a&&bV b)=true;rotate_left
 ·rw[show PA a b=_ from if_neg T]at E;rw[show G2 op a b=(emp,3)from if_neg T];unfold fv;refine pcd func130 rfl rfl ?_;simp only[go_sem];refine aH E ?_;simp only[go_sem];refine aA (fun _=>?_) (fun F=>by cases F);simp only[go_sem];exact .refl _
 rw[show PA a b=_ from if_pos T]at E;rw[show G2 op a b=_ from if_pos T];simp only[Xak]at T;obtain⟨x,rfl,hx,e1,e2⟩:=fF T.1;obtain⟨y,rfl,hy,e3,e4⟩:=fF T.2;rw[e1,e2,e3,e4]at E;rw[fN,fN];have xd:((x.den:Int)).natAbs<cY:=by rw[Xbo];exact hx.2
 have yd:((y.den:Int)).natAbs<cY:=by rw[Xbo];exact hy.2
 have Y:=Gm hx.1 yd hy.1 xd;have Z:=Qg xd yd;rw[dJ,dJ]at Y Z;unfold fv;refine pcd func130 rfl rfl ?_;simp only[go_sem];refine aH E ?_;simp only[go_sem];refine aA (fun F=>by cases F) (fun _=>?_);simp only[go_sem];unfold YW;cases X:(nQ (x.num*y.den)||nQ (y.num*x.den))with
 | true=>rw[X,if_pos rfl]at Y;refine aH Y ?_;simp only[go_sem];refine aA (fun _=>?_) (fun F=>by cases F);exact .refl _
 | false=>
  rw[X]at Y;simp only[Xbg,if_false]at Y;refine aH Y ?_;simp only[go_sem];refine aA (fun F=>by cases F) (fun _=>?_);simp only[go_sem];have I:=X;simp only[Xag]at I;have aa:=hg _ _ (iK.1 I.1) (iK.1 I.2);refine jK (by rfl) (by kernel_rfl) ?_;simp only[go_sem,Xai,List.length_nil]
  repeat (refine⟨by first|decide|omega,?_⟩)
  refine⟨_,aa.q rfl,?_⟩;simp only[go_sem];generalize hN:op (x.num*y.den) (y.num*x.den)=N;cases O:nQ N with
  | true=>rw[tE O];refine aA (fun _=>?_) (fun F=>by cases F);simp only[go_sem,Bool.true_or];exact .refl _
  | false=>
   rw[xS O];refine aA (fun F=>by cases F) (fun _=>?_);simp only[go_sem];cases J:nQ ((x.den:Int)*y.den)with
   | true=>rw[J,if_pos rfl]at Z;refine aH Z ?_;simp only[go_sem];refine aA (fun _=>?_) (fun F=>by cases F);simp only[go_sem,];exact .refl _
   | false=>
    rw[J]at Z;simp only[Xbg,if_false]at Z;refine aH Z ?_;simp only[go_sem];refine aA (fun F=>by cases F) (fun _=>?_);simp only[go_sem,Xai,List.length_nil]
    repeat (refine⟨by first|decide|omega,?_⟩)
    have hD:x.den*y.den<cY:=by rw[<-CN];exact iK.1 J
    have:=akO N (x.den*y.den) (F7 x y) (iK.1 O) hD;rw[<-dJ,Int.natCast_mul]at this;refine aH this ?_;simp only[go_sem];exact .refl _
def ZB(a b:ByteArray):G2 (·+·) a b=wO a b:=by unfold G2 wO YW yQ;simp only[PG]
def abF(a b:ByteArray):G2 (·-·) a b=DT a b:=by
 unfold G2 DT YW yQ;simp only[PG,Rat.neg_num,Rat.neg_den,Int.neg_mul,<-Int.sub_eq_add_neg];have:∀n:Int,nQ (-n)=nQ n:=fun n=>by unfold nQ;rw[Int.natAbs_neg]
 simp only[this]
def BO(a b:ByteArray)(J:a.size<=1048576)(I:b.size<=1048576):PC prog 129 [str a,str b] (.tup [str (wO a b).1,int (wO a b).2]):=by have:=MK 192 (·+·) (by kernel_rfl) (fun m n F E=>by rw[<-TM F E];exact asU _ _ (dR F) (dR E)) a b J I;rw[ZB]at this;unfold fv at this;refine pcd func129 rfl rfl ?_;simp only[go_sem];refine aH this ?_;simp only[go_sem];exact .refl _
def B6(a b:ByteArray)(J:a.size<=1048576)(I:b.size<=1048576):PC prog 74 [str a,str b] (.tup [str (DT a b).1,int (DT a b).2]):=by have:=MK 131 (·-·) (by kernel_rfl) (fun m n F E=>by rw[<-adZ F E];exact avS _ _ (dR F) (dR E)) a b J I;rw[abF]at this;unfold fv at this;refine pcd func74 rfl rfl ?_;simp only[go_sem];refine aH this ?_;simp only[go_sem];exact .refl _
def atV(a b:ByteArray)(ha:a.size<=1048576)(I:b.size<=1048576):PC prog 128 [str a,str b] (.tup [str (wN a b).1,int (wN a b).2]):=by
 have E:=WP a b ha I;by_cases J:(bV a&&bV b)=true;rotate_left
 ·rw[show PA a b=_ from if_neg J]at E;rw[show wN a b=(emp,3)from if_neg J];refine pcd func128 rfl rfl ?_;simp only[go_sem];refine aH E ?_;simp only[go_sem];refine aA (fun _=>?_) (fun I=>by cases I);simp only[go_sem];exact .refl _
 rw[show PA a b=_ from if_pos J]at E;rw[show wN a b=_ from if_pos J];simp only[Xak]at J;obtain⟨x,rfl,T,Y,e2⟩:=fF J.1;obtain⟨y,rfl,X,e3,e4⟩:=fF J.2;rw[Y,e2,e3,e4]at E;rw[fN,fN];have xd:((x.den:Int)).natAbs<cY:=by rw[Xbo];exact T.2
 have yd:((y.den:Int)).natAbs<cY:=by rw[Xbo];exact X.2
 have O:=Gm T.1 X.1 xd yd;rw[dJ,dJ]at O;refine pcd func128 rfl rfl ?_;simp only[go_sem];refine aH E ?_;simp only[go_sem];refine aA (fun I=>by cases I) (fun _=>?_);simp only[go_sem];unfold Hi;cases F:(nQ (x.num*y.num)||nQ ((x.den:Int)*y.den))with
 | true=>rw[F,if_pos rfl]at O;refine aH O ?_;simp only[go_sem];refine aA (fun _=>?_) (fun I=>by cases I);exact .refl _
 | false=>
  rw[F]at O;simp only[Xbg,if_false]at O;refine aH O ?_;simp only[go_sem];refine aA (fun I=>by cases I) (fun _=>?_);simp only[go_sem];simp only[Xag]at F;have Z:x.den*y.den<cY:=by rw[<-CN];exact iK.1 F.2
  have:=akO (x.num*y.num) (x.den*y.den) (F7 x y) (iK.1 F.1) Z;rw[<-dJ,Int.natCast_mul]at this;refine jK (by rfl) (by kernel_rfl) ?_;simp only[go_sem,Xai,List.length_nil]
  repeat (refine⟨by first|decide|omega,?_⟩)
  refine⟨_,this.q rfl,?_⟩;simp only[go_sem];rw[<-WG];exact .refl _
end Nu
end Go.Proofs.YtpagaknmdfgfkaaGreatDoor
section
namespace Go.Nu
open Go Go.Lib
def dR{m:Int}(E:m.natAbs<cY):(zed m).size<=4097:=by
 have:=(rW m).2 E;unfold fT at this;split at this
 ·rw[<-dF,lU,List.length_drop]at this;rw[<-dF];omega
 ·omega
def Ng{x:Rat}(h:uD x):(lO x).size<=8194:=by
 have h1:=dR h.1;have E:=(jZ x.den).2 h.2;unfold lO;split
 ·omega
 ·rw[ByteArray.size_append,ByteArray.size_append];have:slB.size=1:=rfl;omega
def nS{s:ByteArray}(h:bV s=true):s.size<=8194:=by obtain⟨x,rfl,E,_⟩:=fF h;exact Ng E
def DL{a b:ByteArray}(h:(wO a b).2=0):bV (wO a b).1=true:=by
 unfold wO at h |-;split at h
 ·rename_i F;rw[if_pos F];obtain⟨e,E⟩:=IC h;rw[e];exact qF E
 ·cases h
def JW{a b:ByteArray}(h:(wN a b).2=0):bV (wN a b).1=true:=by
 unfold wN at h |-;split at h
 ·rename_i F;rw[if_pos F];obtain⟨e,E⟩:=QN h;rw[e];exact qF E
 ·cases h
def sZ:List (Int×ByteArray)->ByteArray->ByteArray×Int
 | [],t=>(t,0)
 | p :: l, t => if (wN (zed p.1) p.2).2 ≠ 0 then (emp, (wN (zed p.1) p.2).2) else
     if(wO t (wN (zed p.1) p.2).1).2≠0 then(emp,(wO t (wN (zed p.1) p.2).1).2)else sZ l (wO t (wN (zed p.1) p.2).1).1
def lE(ns:List Int)(xs:List ByteArray):ByteArray×Int:=
 if ns.length≠xs.length then(emp,2)else if xs.any (fun x=> !bV x)=true then(emp,3)else sZ (ns.zip xs) (dec 0)
def Ki:bV (dec 0)=true:=by have:dec 0=lO 0:=(dJ 0).symm.trans (if_pos (show(0:Rat).den=1 from rfl)).symm;rw[this];exact qF ⟨aqL,O4 (k:=1) (by decide) (by decide)⟩
end Go.Nu
end
section
namespace Go.Proofs.YtpagaknmdfgfkaaGreatDoor.Nu
open Go.Proofs.Tryz
open Go.Aw Go.Aw.D Go.Proofs Ty Go.Nu
def D1{p q:Int}(I:0<q):(p.fdiv q).natAbs<=p.natAbs:=by
 obtain⟨e,h0,h1⟩:=qN (p:=p) I;generalize p.fdiv q=d at *;generalize p.fmod q=m at *;rcases Xcf d 0 with E|E
 ·have F:(d+1)*q<=(d+1)*1:=Int.mul_le_mul_of_nonpos_left (by omega) (by omega);rw[Int.add_mul]at F;omega
 ·have F:d*1<=d*q:=Int.mul_le_mul_of_nonneg_left (by omega) E;omega
def DO{p q:Int}(E:p.natAbs<cY)(F:q.natAbs<cY)(h:0<q):wQ (zed p) (zed q)=(zed (p.fdiv q),zed (p.fmod q),0):=by unfold wQ;rw[if_pos (rF E F),cG,cG,if_neg (by omega)]
def Sm(i j:Int):Tq (zed i) (zed j)=hY i j:=by unfold Tq;rw[if_pos ⟨sR _,sR _⟩,cG,cG]
def Jo(i j:Int):hY i j= -1\/hY i j=0\/hY i j=1:=by
 unfold hY;split
 ·exact .inl rfl
 ·split
  ·exact .inr (.inr rfl)
  ·exact .inr (.inl rfl)
def avT:AV->Nat
 | .v (.string s)=>(gN s).natAbs
 | _=>0
def DV(n:Int):avT (str (zed n))=n.natAbs:=by show(gN (zed n)).natAbs=_;rw[cG]
def zA(n:Int):(bl (zed n) == [48])=decide (n=0):=by rw[oD,<-show zed ((0:Nat):Int)=dec 0 from dJ 0,Xar,lP,adR,decide_eq_true_iff];exact Iff.rfl
def arJ{a b:Int}(F:a=1\/a= -1)(E:b= -1\/b=0\/b=1):IntKind.i64.wrap (a*b)=a*b:=by rcases F with rfl|rfl <;> rcases E with rfl|rfl|rfl <;> rfl
def I8{a:Int}(E:a=1\/a= -1):IntKind.i64.wrap (0-a)= -a:=by rcases E with rfl|rfl <;> rfl
def Ae(a b:ByteArray)(ha:a.size<=1048576)(hb:b.size<=1048576):PC prog 44 [str a,str b] (int (Hz a b)):=by
 have E:=WP a b ha hb;by_cases Y:(bV a&&bV b)=true;rotate_left
 ·rw[show PA a b=_ from if_neg Y]at E;rw[show Hz a b=0 from if_neg Y];refine pcd func44 rfl rfl ?_;simp only[go_sem];refine aH E ?_;simp only[go_sem];refine aA (fun _=>?_) (fun hb=>by cases hb);simp only[go_sem];exact .refl _
 rw[show PA a b=_ from if_pos Y]at E;rw[show Hz a b=_ from if_pos Y];simp only[Xak]at Y;obtain⟨x,rfl,hx,e1,e2⟩:=fF Y.1;obtain⟨y,rfl,hy,e3,e4⟩:=fF Y.2;rw[e1,e2,e3,e4]at E;rw[fN,fN];have xd:((x.den:Int)).natAbs<cY:=by rw[Xbo];exact hx.2
 have yd:((y.den:Int)).natAbs<cY:=by rw[Xbo];exact hy.2
 have x0:=x.den_nz;have y0:=y.den_nz;rw[<-dJ,<-dJ]at E;refine pcd func44 rfl rfl ?_;simp only[go_sem];refine aH E ?_;simp only[go_sem];refine aA (fun hb=>by cases hb) (fun _=>?_);simp only[go_sem];refine⟨fun ρ _=>∃(p q r s g:Int),ρ 5=str (zed p)/\ρ 6=str (zed q)/\ρ 7=str (zed r)/\ρ 8=str (zed s)/\ρ 10=int g/\(g=1\/g= -1)/\0<q/\0<s/\p.natAbs<cY/\q.natAbs<cY/\r.natAbs<cY/\s.natAbs<cY/\PE x y=g*J7 p q r s,fun ρ _=>avT (ρ 6),
  ⟨x.num,x.den,y.num,y.den,1,rfl,rfl,rfl,rfl,rfl,.inl rfl,by omega,by omega,hx.1,xd,hy.1,yd,by rw[Int.one_mul,Wb]⟩,?_⟩
 rintro ρ H ⟨p,q,r,s,g,h5,h6,h7,h8,J,hg,hq,Z,bp,bq,br,bs,F⟩;simp only[go_sem,h5,h6,];refine aH (Pf (zed p) (zed q) (dR bp) (dR bq)) ?_;rw[DO bp bq hq];simp only[go_sem,h7,h8];refine aH (Pf (zed r) (zed s) (dR br) (dR bs)) ?_;rw[DO br bs Z];simp only[go_sem,];have d1:=D1 (p:=p) hq;have d2:=D1 (p:=r) Z;refine aH (UW (zed (p.fdiv q)) (zed (r.fdiv s)) (dR (by omega)) (dR (by omega))) ?_;rw[Sm];simp only[go_sem,];obtain⟨_,m0,m1⟩:=qN (p:=p) hq;obtain⟨_,n0,n1⟩:=qN (p:=r) Z;have c3:=Jo (p.fdiv q) (r.fdiv s);refine aA (fun X=>?_) (fun X=>?_)
 ·have X:hY (p.fdiv q) (r.fdiv s)≠0:=by simpa using X
  simp only[go_sem,J,arJ hg c3];refine cI ?_;rw[F,Ip hq Z (fun e=>X (tH e))]
 have X:p.fdiv q=r.fdiv s:=Gf.1 (by simpa using X);have hX:=LK hq Z X;generalize p.fmod q=m at *;generalize r.fmod s=n at *;simp only[go_sem,zA];refine aA (fun T=>?_) (fun T=>?_)
 ·have T:m=0/\n=0:=by simpa using T
  simp only[go_sem];refine cI ?_;rw[F,hX,T.1,T.2,Int.zero_mul,Int.zero_mul,tH rfl,Int.mul_zero]
 simp only[go_sem,zA];refine aA (fun O=>?_) (fun O=>?_)
 ·have O:m=0:=of_decide_eq_true O;have I:0<n:=by
   rcases Xcf 0 n with h|h
   ·exact h
   ·exfalso;have:n=0:=by omega
    rw[O,this]at T;cases T
  simp only[go_sem,J,I8 hg];refine cI ?_;rw[F,hX,O,Int.zero_mul,kH (Int.mul_pos I hq)];omega
 have O:0<m:=by have:=of_decide_eq_false O;omega
 simp only[go_sem,zA];refine aA (fun I=>?_) (fun I=>?_)
 ·have I:n=0:=of_decide_eq_true I;simp only[go_sem,J];refine cI ?_;rw[F,hX,I,Int.zero_mul,kD (Int.mul_pos O Z)];omega
 have I:0<n:=by have:=of_decide_eq_false I;omega
 simp only[go_sem,h6,h8,J,I8 hg];refine⟨⟨q,m,s,n,-g,rfl,rfl,rfl,rfl,rfl,by omega,O,I,bq,by omega,bs,by omega,?_⟩,?_⟩
 ·rw[F,hX,MB];rw[Int.mul_neg,Int.neg_mul]
 ·rw[DV,DV];omega
def LN{P:Program}{G:_}{t:TypeId}{a b:ByteArray}{k:AV->Prop}:jU P G .lss t (.v (.string a)) (.v (.string b)) k=k (.v (.bool (Op.bytesLess a.toList b.toList))):=(rfl)
attribute [go_sem ↓] LN
attribute [go_sem] LN
def avO(s:ByteArray):s.toList=bl s:=ByteArray.toList_eq s
def TS:∀{l r:List UInt8},l.length=r.length->Op.bytesLess l r=decide (Lib.compareBytes l r= -1)
 | [],[],_=>rfl
 | [],_::_,h=>by simp at h
 | _::_,[],h=>by simp at h
 | a::l,b::r,h=>by
  simp only[Xai,Nat.add_right_cancel_iff]at h;have ih:=TS h;rw[Op.bytesLess,Lib.compareBytes,ih];by_cases h1:a<b
  ·simp[h1]
  ·by_cases E:b<a
   ·have : (a == b) = false := by rw[beq_eq_false_iff_ne];rintro rfl;exact absurd E h1
    simp[h1,E,this]
   ·have : a = b := by rw[UInt8.lt_iff_toNat_lt]at h1 E;exact UInt8.toNat_inj.1 (by omega)
    subst this;simp
def ajJ{m n:Nat}(h:(dec m).size=(dec n).size):Op.bytesLess (bl (dec m)) (bl (dec n))=decide (m<n):=by
 have F:=jE m;have E:=jE n;rw[jL,jL,TS (by omega),FS (AU m) (AU n) (by omega),tY,tY,decide_eq_decide];unfold hY;split
 ·simp;omega
 ·split <;> simp <;> omega
def BW(s:ByteArray)(h:s.size<=4611686018427387904):PC prog 205 [str s] (boo (eA s)):=by
 have Y:=dF s;refine pcd func205 rfl rfl ?_;simp only[go_sem];refine⟨fun h=>⟨by omega,by have:=of_decide_eq_true h.2;omega⟩,?_⟩;have J:((s.size:Int) == 0||decide ((s.size:Int)>1)&&((bl s).getD 0 0).toNat == (48:Int))= !(bl s != []&&((bl s).length == 1||(bl s).getD 0 0 != 48)):=by
  rw[<-Y];cases bl s with
  | nil=>rfl
  | cons c r=>
   have Z:(((c.toNat:Nat):Int) == 48)=(c == 48):=by rw[Xar,Xav,Xav,<-UInt8.toNat_inj];exact Int.ofNat_inj (n:=48)
   simp only[List.getD_cons_zero,Z];cases r with
   | nil=>simp
   | cons c2 r=>
    have h0:(((c::c2::r).length:Int) == 0)=false:=by simp;omega
    have h1:decide (((c::c2::r).length:Int)>1)=true:=by simp;omega
    rw[h0,h1,show((c::c2::r) != [])=true from rfl,show((c::c2::r).length == 1)=false from rfl];cases h:(c == 48) <;> simp[bne,h]
 rw[J];refine aA (fun O=>?_) (fun O=>?_)
 ·simp only[go_sem];refine cB ?_;unfold eA eZ;rw[Xax]at O;rw[O];rfl
 rw[Xbw]at O;simp only[go_sem];refine⟨fun ρ _=>∃k:Nat,k<=(bl s).length/\ρ 0=str s/\ρ 3=int k/\∀c∈(bl s).take k,isD c=true,fun ρ _=>(bl s).length-aR (ρ 3),⟨0,Xaa _,rfl,rfl,by simp⟩,?_⟩;rintro ρ H ⟨k,hk,h0,X,T⟩;simp only[go_sem,h0,X];refine aA (fun F=>?_) (fun E=>?_)
 ·have F:k<(bl s).length:=by have:=ltB F;omega
  obtain⟨c,J⟩:=aK F;have hi:=tG J;simp only[go_sem,h0,X,hi,O9];refine⟨⟨by omega,by omega⟩,fun _=>⟨by omega,by omega⟩,aA (fun I=>?_) (fun I=>?_)⟩
  ·simp only[go_sem];refine cB ?_;unfold eA eZ;rw[VT J (by simpa using I),Bool.and_false]
  ·simp only[go_sem,h0,X,aQ k];exact⟨⟨k+1,F,rfl,gS J (by simpa using I) T⟩,by simp only[aL];omega⟩
 ·have E:k=(bl s).length:=by rw[<-Y]at E;exact geB hk E
  subst E;rw[Xad]at T;simp only[go_sem];refine cB ?_;unfold eA eZ;rw[O,OV T];rfl
def ahG(a b:ByteArray):Int:=if(eA a&&eA b)=true then hY (gL a) (gL b)else 0
def US(a b:ByteArray)(ha:a.size<=1048576)(J:b.size<=1048576):PC prog 289 [str a,str b] (int (ahG a b)):=by
 refine pcd func289 rfl rfl ?_;simp only[go_sem];refine aH (BW a (by omega)) ?_;simp only[go_sem];refine⟨_,fun _=>(BW b (by omega)).q rfl,?_⟩;simp only[go_sem];refine aA (fun F=>?_) (fun F=>?_)
 ·simp only[go_sem];refine cI ?_;unfold ahG;split
  ·rename_i T;simp only[Xak]at T;rw[T.1,T.2]at F;have:a=b:=lP.1 (by simpa[eqB]using F);rw[this,tH rfl]
  ·rfl
 have F:eA a=true/\eA b=true/\eqB a b=false:=by simp only[Xag,Xbw]at F;exact⟨F.1.1,F.1.2,F.2⟩
 obtain⟨h1,I,O⟩:=F;rw[show ahG a b=hY (gL a) (gL b)from if_pos (by rw[h1,I];rfl)];rw[<-kB h1,<-kB I,nX]at *;generalize gL a=m at *;generalize gL b=n at *;have X:m≠n:=fun e=>O (by rw[e])
 have hm:=jE m;have hn:=jE n;have E:∀{p q:Nat},(Lib.decDigits p).length<(Lib.decDigits q).length->p<q:=fun {p q} h=>by
  have h1:=(lF (n:=p) (k:=(Lib.decDigits p).length) (kX p)).1 (Xaf _);rcases Xay p q with I|I
  ·exact I
  ·have:=(lF (n:=q) (k:=(Lib.decDigits p).length) (kX p)).2 (by omega);omega
 simp only[go_sem,avO];have Y:(decide (((dec m).size:Int)<(dec n).size)||((dec m).size:Int) == (dec n).size&&Op.bytesLess (bl (dec m)) (bl (dec n)))=decide (m<n):=by
  by_cases h1:(dec m).size=(dec n).size
  ·rw[ajJ h1,h1];simp
  ·rcases Xay (dec m).size (dec n).size with I|I
   ·have:=E (p:=m) (q:=n) (by omega);simp[this];omega
   ·have:=E (p:=n) (q:=m) (by omega);have O:¬m<n:=by omega
    have Z:(((dec m).size:Int) == (dec n).size)=false:=by simp;omega
    rw[Z];simp[O];omega
 rw[Y];refine aA (fun J=>?_) (fun J=>?_)
 ·have:=of_decide_eq_true J;simp only[go_sem];exact cI (by rw[cX,cX,kH (by omega)])
 ·have:=of_decide_eq_false J;simp only[go_sem];exact cI (by rw[cX,cX,kD (by omega)])
def RY(a b:ByteArray)(T:a.size<=1048576)(O:b.size<=1048576):PC prog 247 [str a,str b] (int (jT a b)):=by
 refine pcd func247 rfl rfl ?_;simp only[go_sem];refine aH (BW a (by omega)) ?_;simp only[go_sem];refine⟨_,fun _=>(BW b (by omega)).q rfl,?_⟩;simp only[go_sem];unfold jT;refine aA (fun F=>?_) (fun F=>?_)
 ·simp only[go_sem];exact cI (by rw[if_pos F])
 ·simp only[go_sem];have I:decide ((a.size:Int)>4096)=decide (a.size>4096):=by rw[decide_eq_decide];omega
  have J:decide ((b.size:Int)>4096)=decide (b.size>4096):=by rw[decide_eq_decide];omega
  rw[if_neg (by rw[F];simp),I,J];refine aA (fun E=>?_) (fun E=>?_)
  ·simp only[go_sem];exact cI (by rw[if_pos E])
  ·simp only[go_sem];exact cI (by rw[if_neg (by rw[E];simp)])
def E9(d:Nat)(F:d<10):PC prog 291 [int d] (str (dec d)):=by
 refine pcd func291 rfl rfl ?_;simp only[go_sem];have I:IntKind.i64.wrap ((d:Int)+1)=((d+1:Nat):Int):=mC (by omega);rw[I];refine⟨⟨by omega,by omega,by show((d+1:Nat):Int)<=10;omega⟩,?_⟩;refine cS (lB ?_);rw[gD,jL,Lib.decDigits_one F];have E:∀e:Fin 10,(List.take (e.val+1) (bl ⟨#[48,49,50,51,52,53,54,55,56,57]⟩)).drop e.val=[UInt8.ofNat (48+e.val)]:=by decide
 exact E ⟨d,F⟩
def axI{l:List UInt8}{i:Nat}(h:i<l.length):(dl l).getD i 0=(l.getD (l.length-1-i) 0).toNat-48:=by
 have E:l.length-1-i<l.length:=by omega
 simp only[dl,List.getD,List.getElem?_reverse (show i<(l.map fun c=>c.toNat-48).length by simpa using h),Xab,List.getElem?_map,List.getElem?_eq_getElem E,Option.map_some,Xbl]
def Se(s:ByteArray)(T:(bl s).all isD=true)(i:Nat)(h:s.size<=1048576)(Y:i<=1048576):PC prog 332 [str s,int i] (int ((dl (bl s)).getD i 0:Nat)):=by
 have I:=dF s;refine pcd func332 rfl rfl ?_;simp only[go_sem];refine aA (fun F=>?_) (fun F=>?_)
 ·simp only[go_sem];refine cI ?_;have:=of_decide_eq_true F;have X:(dl (bl s)).getD i 0=0:=by simp only[List.getD,List.getElem?_eq_none (show(dl (bl s)).length<=i by rw[JV];omega),Option.getD_none]
  rw[X];rfl
 have F:i<s.size:=by have:=of_decide_eq_false F;omega
 have O:IntKind.i64.wrap (IntKind.i64.wrap ((s.size:Int)-1)-(i:Int))=((s.size-1-i:Nat):Int):=by rw[show IntKind.i64.wrap ((s.size:Int)-1)=(s.size:Int)-1 from aU (by omega),aU (by omega)];omega
 obtain⟨c,E⟩:=aK (l:=bl s) (k:=s.size-1-i) (by omega);have J:=nC.1 (Xaj.1 T c (Xac E));simp only[go_sem,O,Xao,tG E,u8w J.1 (by omega)];refine⟨by omega,?_⟩;refine cI ?_;rw[axI (by omega),I,tG E,aU (by omega)]
def Oo(s:ByteArray)(h:s.size<=1048576)(h0:bl s≠[])(hd:(bl s).all isD=true):PC prog 288 [str s] (str (dec (gL s))):=by
 refine pcd func288 rfl rfl ?_;simp only[go_sem];refine⟨fun ρ _=>∃t:ByteArray,ρ 0=str t/\bl t≠[]/\(bl t).all isD=true/\gL t=gL s/\t.size<=1048576,fun ρ _=>match ρ 0 with| .v (.string t)=>t.size|_=>0,⟨s,rfl,h0,hd,rfl,h⟩,?_⟩;rintro ρ H ⟨t,X,F,J,T,aa⟩;simp only[go_sem,X];have E:=dF t;refine⟨fun h=>⟨by omega,by have:=of_decide_eq_true h;omega⟩,aA (fun I=>?_) (fun I=>?_)⟩
 ·have I : t.size > 1 /\ ((bl t).getD 0 0).toNat = 48 := by simp only[Xak,decide_eq_true_eq,Xav]at I;omega
  simp only[go_sem,X];have Y:bl (t.extract 1 t.size)=(bl t).drop 1:=by rw[gD,<-E,Xad]
  have e2:(t.extract 1 t.size).size=t.size-1:=by rw[<-dF,Y,Xbr,E]
  refine⟨⟨by omega,by omega⟩,?_⟩;refine⟨⟨t.extract 1 t.size,rfl,?_,?_,?_,by omega⟩,by show(t.extract 1 t.size).size<t.size;omega⟩
  ·intro e;have:=congrArg List.length e;rw[dF,e2]at this;simp at this;omega
  ·rw[Y,Xaj];intro c hc;exact Xaj.1 J c (List.mem_of_mem_drop hc)
  ·rw[<-T];unfold gL;rw[Y];cases O:bl t with
   | nil=>exact absurd O F
   | cons c r=>
    rw[O]at I;have:=wY [c] r;rw[List.drop_one,List.tail_cons,show c::r=[c]++r from rfl,this];have Z:c.toNat=48:=by simpa using I.2
    simp[jY,Z]
 ·simp only[go_sem,X];refine cS ?_;have hR:eA t=true:=by
   unfold eA eZ;rw[J,Xbh];have:(bl t != [])=true:=by simpa using F
   rw[this,Xaz,Xcm,Xav,bne_iff_ne];by_cases h1:t.size>1
   ·refine .inr fun e=>?_
    rw[e]at I;simp[]at I;omega
   ·have:=List.length_pos_iff.2 F;exact .inl (by omega)
  rw[<-T,kB hR]
def Tv{p q:Nat}(h:p<=q):(dec p).size<=(dec q).size:=by
 rw[jE,jE];rcases Xay (Lib.decDigits q).length (Lib.decDigits p).length with h1|h1
 ·exfalso;have E:=(lF (n:=q) (k:=(Lib.decDigits q).length) (kX q)).1 (Xaf _);have:=(lF (n:=p) (k:=(Lib.decDigits q).length) (kX q)).2 (by omega);omega
 ·exact h1
def ajI{d:Nat}(E:d<10)(o:List Nat):Lib.decDigits d++txt o=txt (o++[d]):=by rw[Lib.decDigits_one E];simp[txt]
def Ck(n:Nat):(bl (dec n)).all isD=true:=by rw[jL];exact AU n
def aeU(n:Nat):ofL 10 (dl (bl (dec n)))=n:=by rw[Wq,jL,tY]
def alX(m n:Nat)(h:n<=m)(hm:(dec m).size<=1048576):PC prog 290 [str (dec m),str (dec n)] (str (dec (m-n))):=by
 have aa:=Tv h;have dm:=Ck m;have dn:=Ck n;have vm:=aeU m;have vn:=aeU n;have lm:=Wy dm;have ln:=Wy dn;have zm:=dF (dec m);have zn:=dF (dec n);have ae:0<(dec m).size:=by rw[jE];exact kX m
 have xl:(dl (bl (dec m))).length=(dec m).size:=by rw[JV];omega
 have yl:(dl (bl (dec n))).length=(dec n).size:=by rw[JV];omega
 refine pcd func290 rfl rfl ?_;simp only[go_sem];refine⟨fun ρ _=>∃(i c:Nat) (t:ByteArray) (o:List Nat),i<=(dec m).size/\ρ 0=str (dec m)/\ρ 1=str (dec n)/\ρ 5=str t/\ρ 6=int c/\ρ 7=int i/\bl t=txt o/\Lim 10 o/\o.length=i/\c<=1/\ofL 10 o+ofL 10 ((dl (bl (dec n))).take i)=ofL 10 ((dl (bl (dec m))).take i)+10^i*c,fun ρ _=>(dec m).size-aR (ρ 7),
  ⟨0,0,emp,[],Xaa _,rfl,rfl,rfl,rfl,rfl,rfl,by simp[Lim],rfl,by omega,by simp[ofL]⟩,?_⟩
 rintro ρ H ⟨i,c,t,o,hi,h0,h1,X,h6,T,J,ho,O,hc,hv⟩;have ht:t.size=i:=by rw[<-dF,J];simp[txt,O]
 simp only[go_sem,h0,T];refine jC hi (fun ad=>?_) (fun ab=>?_)
 ·have Y:(dl (bl (dec m))).getD i 0<10:=lm.getD (by omega) i;have Z:(dl (bl (dec n))).getD i 0<10:=ln.getD (by omega) i;have af:=GC (b:=10) Y Z hc;have F:=zT (b:=10) Y Z hc;have ac:=Dm (b:=10) (x:=dl (bl (dec m))) (y:=dl (bl (dec n))) (c':=if(dl (bl (dec m))).getD i 0<(dl (bl (dec n))).getD i 0+c then 1 else 0) (d:=if(dl (bl (dec m))).getD i 0<(dl (bl (dec n))).getD i 0+c then(dl (bl (dec m))).getD i 0+10-((dl (bl (dec n))).getD i 0+c)else(dl (bl (dec m))).getD i 0-((dl (bl (dec n))).getD i 0+c)) O hv F.1;simp only[go_sem,h0,T];refine aH (Se (dec m) dm i (by omega) (by omega)) ?_;simp only[go_sem,h1,T];refine aH (Se (dec n) dn i (by omega) (by omega)) ?_;generalize (dl (bl (dec m))).getD i 0=a at *;generalize (dl (bl (dec n))).getD i 0=yi at *;have e1:IntKind.i64.wrap (IntKind.i64.wrap ((a:Int)-(yi:Int))-(c:Int))=(a:Int)-yi-c:=by rw[show IntKind.i64.wrap ((a:Int)-(yi:Int))=(a:Int)-yi from aU (by omega),aU (by omega)]
  simp only[go_sem,h6,e1];refine bN (fun E H'=>E 0=str (dec m)/\E 1=str (dec n)/\E 5=str t/\E 7=int i/\E 8=int (if a<yi+c then a+10-(yi+c)else a-(yi+c):Nat)/\E 6=int (if a<yi+c then 1 else 0:Nat)) ?_ fun K hK=>aA (fun I=>?_) (fun I=>?_)
  rotate_left
  ·have I:a<yi+c:=by simp at I;omega
   have e2:IntKind.i64.wrap ((a:Int)-yi-c+10)=((a+10-(yi+c):Nat):Int):=by rw[aU (by omega)];omega
   simp only[go_sem,e2];exact hK _ _ ⟨h0,h1,X,T,by simp only[go_sem,if_pos I],by simp only[go_sem,if_pos I];rfl⟩
  ·have I:¬a<yi+c:=by simp at I;omega
   simp only[go_sem,];refine hK _ _ ⟨h0,h1,X,T,?_,by simp only[go_sem,if_neg I];rfl⟩;simp only[go_sem,if_neg I]
   congr 2
   omega
  rintro ρ H ⟨h0,h1,X,T,h8,h6⟩;simp only[go_sem,h8];generalize (if a<yi+c then a+10-(yi+c)else a-(yi+c))=d at *;refine aH (E9 d F.2) ?_;have ag:(dec d).size=1:=by rw[jE,BH];exact F.2
  simp only[go_sem,h0,h1,X,h6,T,aQ i];refine⟨by show(((dec d).size+t.size:Nat):Int)<=9223372036854775807;omega,?_⟩;exact⟨⟨i+1,_,_,_,ad,rfl,rfl,rfl,by rw[mT,jL,J,ajI F.2],ho.snoc F.2,by simp[O],by split <;> omega,ac⟩,by simp only[aL];omega⟩
 ·simp only[go_sem,X];obtain⟨_,hV⟩:=Fx (b:=10) (y:=dl (bl (dec n))) (by decide) ho lm (by omega) (by omega) (by omega) hc (by rw[xl,<-ab];exact hv);refine aH (Oo t (by omega) (fun e=>by rw[<-dF,e]at ht;simp at ht;omega) (by rw[J];exact apO ho)) ?_;simp only[go_sem];refine cS ?_;unfold gL;rw[J,ahS ho,hV,vm,vn]
def aqQ{s:ByteArray}{k:Nat}{c:UInt8}(h:(bl s)[k]?=some c):bl (s.extract k (k+1))=[c]:=by rw[gD,bA h,List.drop_append_of_le_length (by simp;have:=(List.getElem?_eq_some_iff.1 h).1;omega)];simp
def ahU(m n:Nat):ahG (dec m) (dec n)=hY m n:=by unfold ahG;rw[mI,mI,cX,cX];rfl
def OI{m n:Nat}:decide (hY m n>=0)=decide (n<=m):=by
 unfold hY;rw[decide_eq_decide];split
 ·simp;omega
 ·split <;> simp <;> omega
def aiD(r:Nat){c:UInt8}(F:isD c=true)(s:ByteArray)(E:bl s=[c]):(bl (dec r++s)).all isD=true/\bl (dec r++s)≠[]/\gL (dec r++s)=10*r+(c.toNat-48):=by
 refine⟨?_,?_,?_⟩
 ·rw[mT,E,List.all_append,Ck];simp[F]
 ·rw[mT,E];simp
 ·unfold gL;rw[mT,E,qI,jL,tY]
def agT{K M R:Nat}(F:M=10^K)(E:R<10*M):(dec R).size<=K+1:=by subst F;rw[jE];exact(lF (k:=K+1) (by omega)).2 (by rw[Xbj,Nat.mul_comm];exact E)
def atD:∃K,K=4096/\cY=10^K:=⟨akS,rfl,by unfold cY;rfl⟩
def aqC{R:Nat}(E:R<10*cY):(dec R).size<=4097:=by obtain⟨K,F,e⟩:=atD;have:=agT e E;omega
def atR:AV->Nat
 | .v (.string s)=>gL s
 | _=>0
def EQ(n:Nat):atR (str (dec n))=n:=by show gL (dec n)=n;exact cX n
def avC(a b:ByteArray)(ha:a.size<=1048576)(hb:b.size<=1048576):PC prog 248 [str a,str b] (.tup [str (ER a b).1,str (ER a b).2.1,int (ER a b).2.2]):=by
 refine pcd func248 rfl rfl ?_;simp only[go_sem];refine aH (RY a b ha hb) ?_;simp only[go_sem];apply aA <;> intro h
 ·have h:jT a b≠0:=by simpa using h
  simp only[go_sem];rw[show ER a b=(emp,emp,jT a b)from if_neg h];exact .refl _
 have h:jT a b=0:=by simpa using h
 obtain⟨m,n,rfl,rfl,hm,hn⟩:=sO h;rw[show ER (dec m) (dec n)=if n=0 then(emp,emp,10)else(dec (m/n),dec (m%n),0)by unfold ER;rw[if_pos h,cX,cX]];simp only[go_sem,oD];apply aA <;> intro h0
 ·have h0:n=0:=sC.1 (lP.1 h0);simp only[go_sem];rw[if_pos h0];exact .refl _
 have h0:n≠0:=fun e=>nX.1 h0 (by rw[e])
 rw[if_neg h0];have zm:=dF (dec m);have dm:=Ck m;have ag:0<(dec m).size:=by rw[jE];exact kX m
 simp only[go_sem];refine⟨fun ρ _=>∃(k r:Nat) (q:ByteArray),k<=(dec m).size/\ρ 0=str (dec m)/\ρ 1=str (dec n)/\ρ 8=str q/\ρ 9=str (dec r)/\ρ 10=int k/\q.size=k/\(bl q).all isD=true/\r<n/\jY ((bl (dec m)).take k)=jY (bl q)*n+r,fun ρ _=>(dec m).size-aR (ρ 10),
  ⟨0,0,emp,Xaa _,rfl,rfl,by simp only[go_sem];rfl,by simp only[go_sem];rw[tS],by simp only[go_sem];rfl,rfl,rfl,by omega,by simp[jY,atP]⟩,?_⟩
 rintro ρ H ⟨k,r,q,hk,F,h1,Y,T,I,hq,ab,hr,X⟩;simp only[go_sem,F,I];refine jC hk (fun ae=>?_) (fun J=>?_)
 ·obtain⟨c,hc⟩:=aK (l:=bl (dec m)) (k:=k) (by omega);have aa:=Xaj.1 dm c (Xac hc);have ac:=aqQ hc;obtain⟨d1,d2,d3⟩:=aiD r aa _ ac;have ak:=nC.1 aa;have an:=dX (Nat.lt_trans hr hn);have am:((dec m).extract k (k+1)).size=1:=by rw[<-dF,ac];rfl
  simp only[go_sem,F,T,I,aQ k,Xao];refine⟨⟨by omega,by omega,by omega⟩,by show(((dec r).size+((dec m).extract k (k+1)).size:Nat):Int)<=9223372036854775807;omega,?_⟩;have ai:=(jZ r).2 (Nat.lt_trans hr hn);refine aH (Oo _ (by rw[ByteArray.size_append];omega) d2 d1) ?_;rw[d3];generalize hR:10*r+(c.toNat-48)=R;have aj:R<10*n:=by omega
  have al:=aqC (show R<10*cY by omega);simp only[go_sem,];refine⟨fun ρ _=>∃(d r':Nat),ρ 0=str (dec m)/\ρ 1=str (dec n)/\ρ 8=str q/\ρ 10=int k/\ρ 9=str (dec r')/\ρ 11=int d/\d*n+r'=R,fun ρ _=>atR (ρ 9),
   ⟨0,R,F,h1,Y,I,rfl,by simp only[go_sem];rfl,by omega⟩,?_⟩
  rintro ρ H ⟨d,r',F,h1,Y,I,T,Z,hd⟩;have ah:=Tv (show r'<=R by omega);simp only[go_sem,h1,T,];refine aH (US (dec r') (dec n) (by omega) (dX hn)) ?_;rw[ahU];simp only[go_sem,OI];have E:d<10:=by
   rcases Xay d 10 with h|h
   ·exact h
   ·have:=Xcx n h;omega
  have e0:∀{x y:Nat},decide ((y:Int)<=(x:Int))=decide (y<=x):=fun {x y}=>by rw[decide_eq_decide];omega
  refine aA (fun J=>?_) (fun O=>?_)
  ·have J:n<=r':=by have:=of_decide_eq_true J;omega
   simp only[go_sem,h1,T,];refine aH (alX r' n J (by omega)) ?_;simp only[go_sem,F,h1,Y,I,Z,aQ d];refine⟨⟨d+1,r'-n,rfl,rfl,by rw[Nat.add_mul];omega⟩,?_⟩;rw[EQ,EQ];omega
  ·have O:r'<n:=by have:=of_decide_eq_false O;omega
   simp only[go_sem,Y,Z];refine aH (E9 d E) ?_;have ao:(dec d).size=1:=by rw[jE,BH];exact E
   simp only[go_sem,F,h1,T,I,aQ k];refine⟨by show((q.size+(dec d).size:Nat):Int)<=9223372036854775807;omega,?_⟩;refine⟨⟨k+1,r',_,ae,rfl,rfl,rfl,by rw[ByteArray.size_append];omega,?_,O,?_⟩,by simp only[aL];omega⟩
   ·rw[mT,List.all_append,ab,Ck];rfl
   ·rw[bA hc,qI,X,mT,jL,Lib.decDigits_one E,qI,qA E,show 48+d-48=d by omega,Nat.add_mul,Nat.mul_assoc];omega
 ·simp only[go_sem,Y];refine aH (Oo q (by omega) (fun e=>by rw[<-dF,e]at hq;simp at hq;omega) ab) ?_;simp only[go_sem,T];rw[J,Xan (by omega),jL,tY]at X;have X:m=gL q*n+r:=X;have af:m/n=gL q:=by rw[X,Xcl,Nat.add_mul_div_right _ _ (by omega),Nat.div_eq_of_lt hr,Xcg]
  have ad:m%n=r:=by rw[X,Xcl,Nat.add_mul_mod_self_right,Xbk hr]
  rw[af,ad];exact .refl _
def adD(a b:ByteArray)(Z:a.size<=1048576)(F:b.size<=1048576):PC prog 208 [str a,str b] (.tup [str (Bd a b).1,int (Bd a b).2]):=by
 refine pcd func208 rfl rfl ?_;simp only[go_sem];refine aH (RY a b Z F) ?_;simp only[go_sem];apply aA <;> intro h
 ·have h:jT a b≠0:=by simpa using h
  simp only[go_sem];rw[show Bd a b=(emp,jT a b)from if_neg h];exact .refl _
 have h:jT a b=0:=by simpa using h
 obtain⟨m,n,rfl,rfl,X,Y⟩:=sO h;rw[show Bd (dec m) (dec n)=szN (Nat.gcd m n)by unfold Bd;rw[if_pos h,cX,cX]];simp only[go_sem];refine⟨fun ρ _=>∃(x y:Nat),ρ 0=str (dec x)/\ρ 1=str (dec y)/\x<cY/\y<cY/\Nat.gcd m n=Nat.gcd x y,fun ρ _=>atR (ρ 1),⟨m,n,rfl,rfl,X,Y,rfl⟩,?_⟩;rintro ρ H ⟨x,y,h0,h1,I,O,T⟩;simp only[go_sem,h1,oD];apply aA <;> intro F
 ·have E : y ≠ 0 := fun e => by rw[e,show eqB (dec 0) (dec 0)=true from lP.2 rfl]at F;cases F
  simp only[go_sem,h0,h1];refine aH (avC (dec x) (dec y) (dX I) (dX O)) ?_;rw[Tr I O E];simp only[go_sem,h1];have J:=Xby x (show 0<y by omega);refine⟨⟨y,x%y,rfl,rfl,O,by omega,?_⟩,by rw[EQ,EQ];exact J⟩;rw[T,Nat.gcd_comm x y,Nat.gcd_rec y x,Nat.gcd_comm]
 ·have E : y = 0 := by
   have:eqB (dec y) (dec 0)=true:=by simpa using F
   exact sC.1 (lP.1 this)
  simp only[go_sem,h0];rw[T,E,Nat.gcd_zero_right,Ah I];exact .refl _
def UT(c d:UInt8):(((c.toNat:Nat):Int) == ((d.toNat:Nat):Int))=(c == d):=by rw[Xar,Xav,Xav,Int.ofNat_inj,UInt8.toNat_inj]
def yX(s:ByteArray):(decide ((s.size:Int)>0)&&(((bl s).getD 0 0).toNat:Int) == 45)=fY s:=by
 rw[<-dF];unfold fY;cases bl s with
 | nil=>rfl
 | cons c r=>rw[show decide ((((c::r).length:Nat):Int)>0)=true by simp];simp only[List.getD_cons_zero,List.head?_cons,Xaz];rw[show(some c == some (45:UInt8))=(c == 45)from rfl];exact UT c 45
def stN(s:ByteArray):Nat:=if fY s=true then 1 else 0
def wX(s:ByteArray):bl (fT s)=(bl s).drop (stN s):=by
 unfold fT stN;split
 ·exact lU _
 ·rw[Xbx]
def Pw(s:ByteArray):stN s<=(bl s).length:=by
 unfold stN;split
 ·rename_i h;unfold fY at h;cases E:bl s with
  | nil=>rw[E]at h;cases h
  | cons c r=>simp
 ·omega
def Of{s:ByteArray}{c:UInt8}(h1:(bl s)[stN s]?=some c)(J:((bl s).drop (stN s)).all isD=true):fC s=((c != 48)||bl s == [48]):=by
 obtain⟨Y,hc⟩:=List.getElem?_eq_some_iff.1 h1;have I:bl (fT s)=c::(bl s).drop (stN s+1):=by rw[wX,Xck Y,hc]
 have T:eqB (fT s) (dec 0)=(c::(bl s).drop (stN s+1) == [48]):=by rw[<-oD,I]
 have J:(c::(bl s).drop (stN s+1)).all isD=true:=by rw[<-I,wX];exact J
 unfold fC eA eZ;rw[T,I];rw[J,Xbh,show((c::(bl s).drop (stN s+1)) != [])=true from rfl,Xaz,List.getD_cons_zero];by_cases E:fY s=true
 ·have e2 : (bl s == [48]) = false := by
   unfold fY at E;cases O:bl s with
   | nil=>rw[O]at E;cases E
   | cons x r=>
    rw[O]at E;have:x=45:=by simpa using E
    subst this;rfl
  rw[E,e2];cases X:(bl s).drop (stN s+1)with
  | nil=>cases F:(c == 48) <;> simp[bne,F] <;> simpa using F
  | cons y r=>cases F:(c == 48) <;> simp[bne,F]
 ·have Z:fT s=s:=if_neg E;have E:fY s=false:=by simpa using E
  rw[Z]at I;rw[E,Bool.false_and,Xcy,Xbh,show(bl s == [48])=(c::(bl s).drop (stN s+1) == [48])by rw[<-I]];cases X:(bl s).drop (stN s+1)with
  | nil=>cases F:(c == 48) <;> simp[bne,F]
  | cons y r=>cases F:(c == 48) <;> simp[bne,F]
def yS(s:ByteArray)(h:s.size<=1048576):PC prog 159 [str s] (boo (fC s)):=by
 have hs:=dF s;have ac:=Pw s;refine pcd func159 rfl rfl ?_;simp only[go_sem];refine⟨fun h=>⟨by omega,by have:=of_decide_eq_true h;omega⟩,?_⟩;rw[yX];refine bN (fun Y H'=>Y 0=str s/\Y 3=int (stN s:Nat)) ?_ fun K hK=>aA (fun T=>?_) (fun T=>?_)
 rotate_left
 ·simp only[go_sem];exact hK _ _ ⟨rfl,by simp only[go_sem];rw[show stN s=1 from if_pos T];rfl⟩
 ·simp only[go_sem];exact hK _ _ ⟨rfl,by simp only[go_sem];rw[show stN s=0 from if_neg (by rw[T];simp)];rfl⟩
 rintro ρ H ⟨h0,J⟩;simp only[go_sem,h0,J];apply aA <;> intro T
 ·simp only[go_sem];refine cB ?_;have he:s.size=stN s:=by rw[Xav]at T;omega
  unfold fC eA eZ;rw[wX,Xcc (by omega)];rfl
 have aa:stN s<(bl s).length:=by rw[beq_eq_false_iff_ne]at T;omega
 simp only[go_sem,J];refine⟨fun ρ _=>∃k:Nat,stN s<=k/\k<=(bl s).length/\ρ 0=str s/\ρ 3=int (stN s:Nat)/\ρ 4=int k/\∀c∈((bl s).take k).drop (stN s),isD c=true,fun ρ _=>(bl s).length-aR (ρ 4),⟨stN s,Xaf _,by omega,h0,J,rfl,by rw[Xcc (by simp;omega)];simp⟩,?_⟩;rintro ρ H ⟨k,ab,hk,h0,J,h4,hz⟩;simp only[go_sem,h0,h4];refine aA (fun E=>?_) (fun F=>?_)
 ·have E:k<(bl s).length:=by have:=ltB E;omega
  obtain⟨c,O⟩:=aK E;have hi:=tG O;simp only[go_sem,h0,h4,hi,O9];have Z:((bl s).take (k+1)).drop (stN s)=((bl s).take k).drop (stN s)++[c]:=by rw[bA O,List.drop_append_of_le_length (by rw[Xap];omega)]
  refine⟨⟨by omega,by omega⟩,fun _=>⟨by omega,by omega⟩,aA (fun I=>?_) (fun I=>?_)⟩
  ·simp only[go_sem];refine cB ?_;unfold fC eA eZ;rw[wX];rw[VT (k:=k-stN s) (c:=c) (by rw[List.getElem?_drop,show stN s+(k-stN s)=k by omega];exact O) (by simpa using I)];simp
  ·simp only[go_sem,h0,J,h4,aQ k];refine⟨⟨k+1,by omega,E,rfl,?_⟩,msr E⟩;rw[Z];intro x X;rcases Xbb.1 X with X|X
   ·exact hz x X
   ·rw[Xaw.1 X];simpa using I
 ·have F:k=(bl s).length:=by rw[<-hs]at F;exact geB hk F
  subst F;rw[Xad]at hz;obtain⟨c,O⟩:=aK aa;simp only[go_sem,h0,J,tG O];refine⟨⟨by omega,by omega⟩,?_⟩;refine cB ?_;rw[Of O (OV hz)]
  congr 1
  rw[bne,bne,<-UT c 48];rfl
def F9(s:ByteArray)(h:s.size<=1048576):PC prog 214 [str s] (int (fT s).size):=by
 have F:=dF s;refine pcd func214 rfl rfl ?_;simp only[go_sem];refine⟨fun h=>⟨by omega,by have:=of_decide_eq_true h;omega⟩,?_⟩;rw[yX];have J:(fT s).size=s.size-stN s:=by rw[<-dF,wX,Xbr,F]
 have I:=Pw s;apply aA <;> intro E
 ·have:stN s=1:=if_pos E;simp only[go_sem];refine cI ?_;rw[aU (by omega)];omega
 ·have:stN s=0:=if_neg (by rw[E];simp);simp only[go_sem];exact cI (by omega)
def E3(a b:ByteArray)(O:a.size<=1048576)(I:b.size<=1048576):PC prog 154 [str a,str b] (int (kJ a b)):=by
 refine pcd func154 rfl rfl ?_;simp only[go_sem];refine aH (yS a (by omega)) ?_;simp only[go_sem];refine⟨_,fun _=>(yS b (by omega)).q rfl,?_⟩;simp only[go_sem];unfold kJ;apply aA <;> intro F
 ·simp only[go_sem];exact cI (by rw[if_pos F])
 ·simp only[go_sem];refine aH (F9 a O) ?_;simp only[go_sem];refine⟨_,fun _=>(F9 b I).q rfl,?_⟩;simp only[go_sem];have J:decide (((fT a).size:Int)>4096)=decide ((fT a).size>4096):=by rw[decide_eq_decide];omega
  have T:decide (((fT b).size:Int)>4096)=decide ((fT b).size>4096):=by rw[decide_eq_decide];omega
  rw[if_neg (by rw[F];simp),J,T];apply aA <;> intro E
  ·simp only[go_sem];exact cI (by rw[if_pos E])
  ·simp only[go_sem];exact cI (by rw[if_neg (by rw[E];simp)])
def aeZ{n:Int}(h:(!decide (n.natAbs<cY))=true):szZ n=(emp,4):=if_neg (fun E=>by rw[decide_eq_true E]at h;cases h)
def Me(n:Int)(h:(zed n).size<=1048576):PC prog 249 [str (zed n)] (.tup [str (szZ n).1,int (szZ n).2]):=by
 refine pcd func249 rfl rfl ?_;simp only[go_sem];refine aH (F9 (zed n) h) ?_;simp only[go_sem];have F:decide (((fT (zed n)).size:Int)>4096)= !decide (n.natAbs<cY):=by rw[<-decide_not,decide_eq_decide];have:=rW n;omega
 rw[F];apply aA <;> intro E
 ·simp only[go_sem];rw[aeZ E];exact .refl _
 ·simp only[go_sem];rw[show szZ n=(zed n,0)from if_pos (by simpa using E)];exact .refl _
def aoP(l:List Nat)(h:l.length<=4611686018427387904):PC prog 111 [.sl (l.map gC)] (.sl ((oT l).map gC)):=by
 refine pcd func111 rfl rfl ?_;simp only[go_sem];refine⟨fun ρ _=>∃k:Nat,k<=l.length/\ρ 0=.sl (l.map gC)/\ρ 3=int k/\oT (l.take k)=oT l,fun ρ _=>aR (ρ 3),⟨l.length,Xaf _,rfl,rfl,by rw[Xad]⟩,?_⟩;rintro ρ H ⟨k,hk,h0,E,J⟩;cases k with
 | zero=>
  have T:oT l=[]:=by rw[<-J];rfl
  have X:(IntKind.i64.wrap (((0:Nat):Int)-1)).toNat=0:=rfl;rw[T];cases l with
  | nil=>simp only[go_sem,h0,E,X,Xbz,List.getD_nil,show decide (((0:Nat):Int)>0)=false from rfl];refine aA (fun I=>by cases I) (fun _=>?_);simp only[go_sem,h0,E];exact⟨⟨by omega,by omega⟩,.refl _⟩
  | cons x l=>simp only[go_sem,h0,E,X,Xba,List.getD_cons_zero,show decide (((0:Nat):Int)>0)=false from rfl];refine aA (fun I=>by cases I) (fun _=>?_);simp only[go_sem,h0,E];exact⟨⟨by omega,by omega⟩,.refl _⟩
 | succ k=>
 have Z:IntKind.i64.wrap (((k+1:Nat):Int)-1)=(k:Int):=by rw[aU (by omega)];omega
 obtain⟨x,Y⟩:=aK (show k<l.length by omega);have O:l.take (k+1)=l.take k++[x]:=bA Y;have b2:=inB (show k<l.length by omega);simp only[go_sem,h0,E,Z,aC Y,b2,show decide (((k+1:Nat):Int)>0)=true from decide_eq_true (by omega)];apply aA <;> intro I
 ·have F:x=0:=by simpa using I
  simp only[go_sem,h0,E,Z];refine⟨⟨k,by omega,rfl,?_⟩,?_⟩
  ·rw[O,zH,if_pos F]at J;exact J
  ·simp only[aL];omega
 ·have F:x≠0:=by simpa using I
  simp only[go_sem,h0,E];rw[O,zH,if_neg F]at J;rw[<-List.map_take,O,J];exact⟨⟨by omega,by omega⟩,.refl _⟩
def tN(l:List Nat)(i:Nat)(J:i<=4611686018427387904)(h:l.length<=4611686018427387904):PC prog 215 [.sl (l.map gC),int i] (int (l.getD i 0:Nat)):=by
 refine pcd func215 rfl rfl ?_;simp only[go_sem];apply aA <;> intro E
 ·have E:i<l.length:=by simpa using E
  obtain⟨x,F⟩:=aK E;have I:=inB E;simp only[go_sem,aC F,I];exact cI (by simp[List.getD,F])
 ·have E:l.length<=i:=by simpa using E
  simp only[go_sem];exact cI (by simp[List.getD,List.getElem?_eq_none E])
abbrev dg(n:Nat):AV:=.sl ((aZ 10 n).map gC)
def Jv{l:List Nat}(F:Lim 10 l)(h:l.length<=4611686018427387904){n:Nat}(E:ofL 10 l=n):PC prog 111 [.sl (l.map gC)] (dg n):=by
 have:=aoP l h
 rwa [NR (by decide) F E]at this
def upN:AV->Nat
 | .v (.int _ n)=>(n+1).toNat
 | _=>0
def DQ(k:IntKind)(n:Int):upN (.v (.int k n))=(n+1).toNat:=(rfl)
def apW(c:UInt8)(l:List UInt8):dl (c::l)=dl l++[c.toNat-48]:=by simp[dl]
def arK{k:Nat}(h:k<=4611686018427387904):IntKind.i64.wrap ((k:Int)-1-1)=(k:Int)-1-1:=aU (by omega)
def qX(n:Int)(h:(zed n).size<=1048576):PC prog 155 [str (zed n)] (.tup [boo (decide (n<0)),dg n.natAbs]):=by
 have hs:=dF (zed n);have hr:eA (fT (zed n))=true:=by rw[kR];exact mI _
 have J:=wX (zed n);have aj:=Pw (zed n);have I:((bl (zed n)).drop (stN (zed n))).all isD=true:=by rw[<-J,kR];exact Ck _
 have ai:stN (zed n)<(bl (zed n)).length:=by
  have h1:0<(bl (fT (zed n))).length:=by rw[kR,jL];exact kX _
  rw[J,Xbr]at h1;omega
 have hm:(((((bl (zed n)).getD 0 0).toNat:Nat):Int) == 45)=fY (zed n):=by rw[<-yX,show decide (((zed n).size:Int)>0)=true by simp;omega,Xaz]
 refine pcb (fun t=>t == 4) func155 rfl rfl ?_;simp only[go_sem];refine aN fun j hj=>?_
 simp only[go_sem,hm];refine⟨⟨by omega,by omega⟩,?_⟩;refine⟨fun ρ H=>∃(k j:Nat),k<=(bl (zed n)).length/\ρ 0=str (zed n)/\ρ 5=boo (fY (zed n))/\ρ 4=.os j/\ρ 6=int ((k:Int)-1)/\H j=some (bY (dl ((bl (zed n)).drop (max k (stN (zed n)))))),fun ρ _=>upN (ρ 6),
  ⟨(bl (zed n)).length,j,Xaf _,rfl,rfl,rfl,by simp only[go_sem];rw[hs,aU (by omega)],?_⟩,?_⟩
 ·rw[aB,Xcc (by omega)];rfl
 clear hj j;rintro ρ H ⟨k,j,hk,h0,h5,h4,h6,Rj⟩;simp only[go_sem,h6];refine aA (fun F=>?_) (fun ad=>?_)
 ·have F:0<k:=by have:=of_decide_eq_true F;omega
  obtain⟨c,O⟩:=aK (l:=bl (zed n)) (k:=k-1) (by omega);have ei:((k:Int)-1).toNat=k-1:=by omega
  have ah:(bl (zed n)).drop (k-1)=c::(bl (zed n)).drop k:=by obtain⟨ag,e⟩:=List.getElem?_eq_some_iff.1 O;rw[Xck ag,e,show k-1+1=k by omega]
  simp only[go_sem,h0,h6,ei,tG O];refine⟨⟨by omega,by omega⟩,?_⟩;by_cases Y:k-1<stN (zed n)
  ·have E : fY (zed n) = true := by
    unfold stN at Y;split at Y
    ·assumption
    ·omega
   have aa:stN (zed n)=1:=if_pos E;have ae:k=1:=by omega
   subst ae;have Z:c=45:=by
    unfold fY at E;cases T:bl (zed n)with
    | nil=>rw[T]at E;cases E
    | cons x r=>
     rw[T]at E O;have h1:x=45:=by simpa using E
     have h2:x=c:=by simpa using O
     rw[<-h2,h1]
   subst Z;refine aA (fun T=>by cases T) (fun _=>?_);simp only[go_sem,h0,h5,h4,h6];refine⟨⟨0,j,by omega,rfl,rfl,?_⟩,?_⟩
   ·rw[Rj,aa];rfl
   ·simp only[DQ];decide
  ·have ab : isD c = true := Xaj.1 I c (by refine Xac (i:=k-1-stN (zed n)) ?_;rw[List.getElem?_drop,show stN (zed n)+(k-1-stN (zed n))=k-1 by omega];exact O);have ac:=nC.1 ab;refine aA (fun _=>?_) (fun T=>?_);rotate_left
   ·exfalso;have:c.toNat=45:=by have:((c.toNat:Int) != 45)=false:=T;rw[bne_eq_false_iff_eq]at this;omega
    omega
   simp only[go_sem,h0,h4,h6,ei,tG O];refine⟨⟨by omega,by omega⟩,?_⟩;have af:IntKind.i64.wrap (IntKind.u8.wrap ((c.toNat:Int)-48))=((c.toNat-48:Nat):Int):=by rw[u8w ac.1 (by omega),aU (by omega)]
   rw[af];refine aY Rj ⟨rfl,rfl⟩ ⟨rfl,trivial⟩ (by simp only[bY,Xab,JV,Xbr,Xai,List.length_nil];omega) (fun j' ak=>?_);simp only[go_sem,h0,h5,h6,arK (show k<=4611686018427387904 by omega)];refine⟨⟨k-1,j',by omega,rfl,?_,?_⟩,?_⟩
   ·rw[show(k:Int)-1-1=((k-1:Nat):Int)-1 by omega]
   ·rw[show max k (stN (zed n))=k by omega,show max (k-1) (stN (zed n))=k-1 by omega,ah,apW];exact rM
   ·simp only[DQ];omega
 ·have F:k=0:=by have:=of_decide_eq_false ad;omega
  subst F;simp only[go_sem,h5,h4];rw[Nat.max_eq_right (by omega)]at Rj;have X:=Wy I;refine PC.useF [j] (.cons _ _ _ _ (.row _ _ _ (by simp only[Xaw,if_true];exact Rj) (ConvE.refl _)) .nil) (Jv (n:=n.natAbs) X (by rw[JV,Xbr];omega) (by rw[Wq,<-J,kR,jL,tY])) ?_;simp only[go_sem,rT];exact .refl _
def LI(l:List UInt8):Row:=⟨5,1,l.map fun c=>[.v (.int .u8 (c.toNat:Nat))]⟩
def alN(l:List UInt8):vM (l.map fun c=>[.v (.int .u8 (c.toNat:Nat))])=some (l.map fun c=>((c.toNat:Nat):Int)):=by
 induction l with
 | nil=>rfl
 | cons c l ih=>simp only[Xba,vM,ih,Option.map_some]
def abV(l:List UInt8):bl (strOfNums (l.map fun c=>((c.toNat:Nat):Int)))=l:=by
 rw[strOfNums,lU,List.map_map]
 conv=>rhs;rw[<-List.map_id l]
 refine List.map_congr_left fun c _=>?_
 simp
def W8(m:Bool)(l:List Nat)(hl:Lim 10 l)(h:l.length<=1048576):PC prog 63 [boo m,.sl (l.map gC)] (str (zed (sg m (ofL 10 l)))):=by
 have Z:=Jv hl (by omega) rfl;have O:=cK (b:=10) (by decide) (ofL 10 l);have ah:(aZ 10 (ofL 10 l)).length<=l.length:=iQ (by decide) (kM (by decide) hl);have ag:=cR (b:=10) (by decide) (ofL 10 l);refine pcb (fun t=>t == 5||t == 32) func63 rfl rfl ?_;simp only[go_sem];refine aH Z ?_;generalize ofL 10 l=n at *;simp only[go_sem,Xab];refine aA (fun F=>?_) (fun F=>?_)
 ·have h0 : n = 0 := by
   have:(aZ 10 n).length=0:=by rw[Xav]at F;omega
   exact(qL (by decide)).1 (Xbp.1 this)
  simp only[go_sem];refine cS ?_;rw[h0,tS];unfold sg;split <;> exact(dJ 0).symm
 have h0:n≠0:=fun e=>by rw[e,eG]at F;cases F
 simp only[go_sem];refine aN fun j hj=>?_
 simp only[go_sem];refine bN (fun J H'=>∃j,J 1=dg n/\J 5=.os j/\H' j=some (LI (if m=true then[45]else[]))) ?_ fun K hK=>aA (fun F=>?_) (fun F=>?_)
 rotate_left
 ·simp only[go_sem];refine aY (aB _ _ _) ⟨rfl,rfl⟩ ⟨rfl,trivial⟩ (by simp) (fun Y ae=>?_);simp only[go_sem];exact hK _ _ ⟨Y,rfl,rfl,by rw[aB,if_pos F];rfl⟩
 ·simp only[go_sem];exact hK _ _ ⟨j,rfl,rfl,by rw[aB,if_neg (by rw[F];simp)];rfl⟩
 clear hj j;rintro ρ H ⟨j,h1,I,T⟩;simp only[go_sem,h1,Xab];refine⟨fun ρ H=>∃(k j:Nat),k<=(aZ 10 n).length/\ρ 1=dg n/\ρ 5=.os j/\ρ 6=int ((k:Int)-1)/\H j=some (LI ((if m=true then[45]else[])++txt ((aZ 10 n).drop k))),fun ρ _=>upN (ρ 6),
  ⟨(aZ 10 n).length,j,Xaf _,h1,I,by simp only[go_sem,];rw[aU (by omega)],by rw[Xcj];simpa[txt]using T⟩,?_⟩
 clear h1 I T j;rintro ρ H ⟨k,j,hk,h1,I,h6,T⟩;simp only[go_sem,h6];refine aA (fun E=>?_) (fun aa=>?_)
 ·have E:0<k:=by have:=of_decide_eq_true E;omega
  obtain⟨x,X⟩:=aK (l:=aZ 10 n) (k:=k-1) (by omega);have ei:((k:Int)-1).toNat=k-1:=by omega
  have ac:x<10:=O x (Xac X);have ad:(aZ 10 n).drop (k-1)=x::(aZ 10 n).drop k:=by obtain⟨ab,e⟩:=List.getElem?_eq_some_iff.1 X;rw[Xck ab,e,show k-1+1=k by omega]
  have b1:0<=(k:Int)-1/\(k:Int)-1<((aZ 10 n).length:Nat):=by omega
  simp only[go_sem,h1,I,h6,ei,aC X,b1,Xab];have ew:IntKind.u8.wrap (IntKind.i64.wrap (48+(x:Int)))=(((UInt8.ofNat (48+x)).toNat:Nat):Int):=by rw[qA ac,show IntKind.i64.wrap (48+(x:Int))=48+(x:Int)from aU (by omega),show IntKind.u8.wrap (48+(x:Int))=(48+(x:Int))%256 from rfl];omega
  rw[ew];have af:∀(p q:List UInt8),(LI (p++q)).es.length=p.length+q.length:=fun p q=>by simp[LI]
  refine aY T ⟨rfl,rfl⟩ ⟨rfl,trivial⟩ ?_ (fun Y ae=>?_)
  ·rw[af];have h2:(if m=true then[45]else[]:List UInt8).length<=1:=by split <;> simp
   simp only[txt,List.length_reverse,Xab,Xbr,Xai,List.length_nil];omega
  simp only[go_sem,h1,h6,arK (show k<=4611686018427387904 by omega)];refine⟨⟨k-1,Y,by omega,rfl,?_,?_⟩,?_⟩
  ·rw[show(k:Int)-1-1=((k-1:Nat):Int)-1 by omega]
  ·rw[aB,ad];simp only[LI,txt,Xba,List.reverse_cons,Xam,Xbz,Xaq]
  ·simp only[DQ];omega
 ·have E:k=0:=by have:=of_decide_eq_false aa;omega
  subst E;simp only[go_sem];refine Cg I T fun Hr _ _=>?_
  simp only[go_sem,LI,alN];refine cS (lB ?_);rw[abV,Gj h0];unfold sg;cases m with
  | true=>rw[if_pos rfl,if_pos rfl,Ek (by omega),lU];rfl
  | false=>rw[if_neg (by simp),if_neg (by simp),dJ,jL];rfl
def Yl{l:List Nat}(h:Lim 10 l)(k:Nat):ofL 10 (l.take k)<10^k:=by have h1:=kM (b:=10) (by decide) (h.take k);have E:10^(l.take k).length<=10^k:=Xau (by decide) (by rw[Xap];omega);omega
def adJ{x y:List Nat}(F:Lim 10 x)(J:Lim 10 y)(k:Nat):hY (ofL 10 (x.take (k+1))) (ofL 10 (y.take (k+1)))=if x.getD k 0<y.getD k 0 then -1 else if y.getD k 0<x.getD k 0 then 1 else hY (ofL 10 (x.take k)) (ofL 10 (y.take k)):=by
 have h1:=Yl F k;have O:=Yl J k;rw[vC,vC];generalize ofL 10 (x.take k)=p at *;generalize ofL 10 (y.take k)=q at *;generalize x.getD k 0=a at *;generalize y.getD k 0=b at *;generalize 10^k=T at *;split
 ·rename_i h;have:T*(a+1)<=T*b:=Nat.mul_le_mul_left _ h;rw[Nat.mul_add]at this;rw[kH (by omega)]
 ·split
  ·rename_i h;have:T*(b+1)<=T*a:=Nat.mul_le_mul_left _ h;rw[Nat.mul_add]at this;rw[kD (by omega)]
  ·have:a=b:=by omega
   subst this;unfold hY;have E:(((p+T*a:Nat):Int)<((q+T*a:Nat):Int))↔((p:Int)<(q:Int)):=by omega
   have I:(((q+T*a:Nat):Int)<((p+T*a:Nat):Int))↔((q:Int)<(p:Int)):=by omega
   simp only[E,I]
def Aj(m n:Nat)(hm:(aZ 10 m).length<=1048576)(hn:(aZ 10 n).length<=1048576):PC prog 160 [dg m,dg n] (int (hY m n)):=by
 have om:=cR (b:=10) (by decide) m;have on:=cR (b:=10) (by decide) n;have Z:=cK (b:=10) (by decide) m;have ln:=cK (b:=10) (by decide) n;simp only[dg];generalize aZ 10 m=x at *;generalize aZ 10 n=y at *;have O:eN (x.length:Int) (y.length:Int)=((max x.length y.length:Nat):Int):=by unfold eN;split <;> omega
 refine pcd func160 rfl rfl ?_;simp only[go_sem];simp only[O];refine⟨fun ρ _=>∃k:Nat,k<=max x.length y.length/\ρ 0=.sl (x.map gC)/\ρ 1=.sl (y.map gC)/\ρ 5=int ((k:Int)-1)/\hY m n=hY (ofL 10 (x.take k)) (ofL 10 (y.take k)),fun ρ _=>upN (ρ 5),
  ⟨max x.length y.length,Xaf _,rfl,rfl,by simp only[go_sem];rw[aU (by omega)],by rw[Xan (by omega),Xan (by omega),om,on]⟩,?_⟩
 rintro ρ H ⟨k,hk,h0,h1,I,T⟩;simp only[go_sem,I];refine aA (fun J=>?_) (fun X=>?_)
 ·obtain⟨i,rfl⟩:∃i,k=i+1:=⟨k-1,by have:=of_decide_eq_true J;omega⟩;have Y:((i+1:Nat):Int)-1=(i:Int):=by omega
  rw[Y]at I;rw[adJ Z ln i]at T;simp only[go_sem,h0,I,Y];refine aH (tN x i (by omega) (by omega)) ?_;simp only[go_sem,h1,I];refine aH (tN y i (by omega) (by omega)) ?_;simp only[go_sem,];refine aA (fun F=>?_) (fun F=>?_)
  ·have F:=ltB F;simp only[go_sem];exact cI (by rw[T,if_pos F])
  have F:¬x.getD i 0<y.getD i 0:=by simpa using F
  simp only[go_sem,h0,I];refine aH (tN x i (by omega) (by omega)) ?_;simp only[go_sem,h1,I];refine aH (tN y i (by omega) (by omega)) ?_;simp only[go_sem,];refine aA (fun E=>?_) (fun E=>?_)
  ·have E:y.getD i 0<x.getD i 0:=by simpa using E
   simp only[go_sem];exact cI (by rw[T,if_neg F,if_pos E])
  have E:¬y.getD i 0<x.getD i 0:=by simpa using E
  simp only[go_sem,h0,h1,I,show IntKind.i64.wrap ((i:Int)-1)=(i:Int)-1 from aU (by omega)];exact⟨⟨i,by omega,rfl,by rw[T,if_neg F,if_neg E]⟩,by simp only[DQ];omega⟩
 ·have J:k=0:=by have:=of_decide_eq_false X;omega
  subst J;simp only[go_sem];exact cI (by rw[T];rfl)
def XH(m n:Nat)(hm:(aZ 10 m).length<=1048576)(hn:(aZ 10 n).length<=1048576):PC prog 157 [dg m,dg n] (dg (m+n)):=by
 have om:=cR (b:=10) (by decide) m;have on:=cR (b:=10) (by decide) n;have lm:=cK (b:=10) (by decide) m;have ln:=cK (b:=10) (by decide) n;have I:∀l:List Nat,Lim 10 l->l.length<=4611686018427387904->ofL 10 l=m+n->PC prog 111 [.sl (l.map gC)] (dg (m+n)):=fun l h1 h2 h3=>Jv h1 h2 h3
 simp only[dg]at I |-;generalize aZ 10 m=x at *;generalize aZ 10 n=y at *;generalize aZ 10 (m+n)=z at *;refine pcb (fun t=>t == 5) func157 rfl rfl ?_;simp only[go_sem];refine aN fun j hj=>?_
 simp only[go_sem];refine⟨fun ρ H=>∃(i c j:Nat) (o:List Nat),i<=max x.length y.length+1/\ρ 0=.sl (x.map gC)/\ρ 1=.sl (y.map gC)/\ρ 5=.os j/\ρ 6=int c/\ρ 7=int i/\H j=some (bY o)/\Lim 10 o/\o.length=i/\c<=1/\(i=max x.length y.length+1->c=0)/\ofL 10 o+10^i*c=ofL 10 (x.take i)+ofL 10 (y.take i),fun ρ _=>max x.length y.length+1-aR (ρ 7),
  ⟨0,0,j,[],by omega,rfl,rfl,rfl,by simp only[go_sem];rfl,by simp only[go_sem];rfl,CL,by simp[Lim],rfl,by omega,by omega,by simp[ofL]⟩,?_⟩
 clear hj j;rintro ρ H ⟨i,c,j,o,hi,h0,h1,h5,h6,O,Rj,ho,F,hc,aa,hv⟩;simp only[go_sem,h0,h1,h6,O];refine aA (fun E=>?_) (fun E=>?_)
 ·have E:i<x.length\/i<y.length\/0<c:=by simpa[or_assoc]using E
  have X:i<max x.length y.length+1:=by
   rcases Xay i (max x.length y.length+1)with h|h
   ·exact h
   ·have:=aa (by omega);omega
  have T:=RX (b:=10) (by decide) (x:=x) (y:=y) F hv;have ac:x.getD i 0<10:=lm.getD (by decide) i;have ab:y.getD i 0<10:=ln.getD (by decide) i;have J:i+1=max x.length y.length+1->(x.getD i 0+y.getD i 0+c)/10=0:=fun e=>by
   have Z:x.getD i 0=0:=by simp only[List.getD,List.getElem?_eq_none (show x.length<=i by omega),Option.getD_none]
   have Y:y.getD i 0=0:=by simp only[List.getD,List.getElem?_eq_none (show y.length<=i by omega),Option.getD_none]
   rw[Z,Y];omega
  simp only[go_sem,h0,O];refine aH (tN x i (by omega) (by omega)) ?_;simp only[go_sem,h1,O];refine aH (tN y i (by omega) (by omega)) ?_;generalize x.getD i 0=a at *;generalize y.getD i 0=b at *;have Z:IntKind.i64.wrap (IntKind.i64.wrap ((a:Int)+(b:Int))+(c:Int))=((a+b+c:Nat):Int):=by rw[show IntKind.i64.wrap ((a:Int)+(b:Int))=(a:Int)+b from aU (by omega),aU (by omega)];omega
  simp only[go_sem,h5,h6,Z];have Y:(((a+b+c:Nat):Int)).tmod 10=(((a+b+c)%10:Nat):Int):=rfl;have e3:(((a+b+c:Nat):Int)).tdiv 10=(((a+b+c)/10:Nat):Int):=rfl;rw[Y];refine⟨by decide,aY Rj ⟨rfl,rfl⟩ ⟨rfl,trivial⟩ (by simp only[bY,Xab,Xai,List.length_nil];omega) (fun j' ad=>?_)⟩;simp only[go_sem,h0,h1,O,e3,aQ i];rw[show IntKind.i64.wrap (((a+b+c)/10:Nat):Int)=(((a+b+c)/10:Nat):Int)from aU (by omega)];exact⟨by decide,⟨i+1,_,j',_,X,rfl,rfl,rfl,rM,ho.snoc (Xby _ (by decide)),by simp[F],by omega,J,T⟩,by simp only[aL];omega⟩
 ·have E : x.length <= i /\ y.length <= i /\ c = 0 := by simp at E;omega
  simp only[go_sem,h5];rw[E.2.2,Nat.mul_zero,Nat.add_zero,Xan E.1,Xan E.2.1,om,on]at hv;refine PC.useF [j] (.cons _ _ _ _ (.row _ _ _ (by simp only[Xaw,if_true];exact Rj) (ConvE.refl _)) .nil) (I o ho (by omega) hv) ?_;simp only[go_sem];exact .refl _
def Eo(m n:Nat)(hm:(aZ 10 m).length<=1048576)(ac:n<=m):PC prog 158 [dg m,dg n] (dg (m-n)):=by
 have om:=cR (b:=10) (by decide) m;have on:=cR (b:=10) (by decide) n;have lm:=cK (b:=10) (by decide) m;have ln:=cK (b:=10) (by decide) n;have ab:=cQ (b:=10) (by decide) ac;have aa:∀l:List Nat,Lim 10 l->l.length<=4611686018427387904->ofL 10 l=m-n->PC prog 111 [.sl (l.map gC)] (dg (m-n)):=fun l h1 h2 h3=>Jv h1 h2 h3
 simp only[dg]at aa |-;generalize aZ 10 m=x at *;generalize aZ 10 n=y at *;generalize aZ 10 (m-n)=z at *;refine pcb (fun t=>t == 5) func158 rfl rfl ?_;simp only[go_sem];refine aN fun j hj=>?_
 simp only[go_sem];refine⟨fun ρ H=>∃(i j c:Nat) (o:List Nat),i<=x.length/\ρ 0=.sl (x.map gC)/\ρ 1=.sl (y.map gC)/\ρ 5=.os j/\ρ 6=int c/\ρ 7=int i/\H j=some (bY o)/\Lim 10 o/\o.length=i/\c<=1/\ofL 10 o+ofL 10 (y.take i)=ofL 10 (x.take i)+10^i*c,fun ρ _=>x.length-aR (ρ 7),
  ⟨0,j,0,[],Xaa _,rfl,rfl,rfl,by simp only[go_sem];rfl,by simp only[go_sem];rfl,CL,by simp[Lim],rfl,by omega,by simp[ofL]⟩,?_⟩
 clear hj j;rintro ρ H ⟨i,j,c,o,hi,h0,h1,X,h6,T,Y,ho,J,hc,hv⟩;simp only[go_sem,h0,T,Xab];refine aA (fun F=>?_) (fun O=>?_)
 ·have F:=ltB F;obtain⟨a,ha⟩:=aK F;have ag:x.getD i 0=a:=by simp[List.getD,ha]
  have b1:=inB F;have ae:a<10:=lm a (Xac ha);have af:y.getD i 0<10:=ln.getD (by decide) i;simp only[go_sem,];refine jK (by rfl) (by kernel_rfl) ?_;simp only[go_sem,h0,h1,T,aC ha,b1,Xab];refine⟨_,(tN y i (by omega) (by omega)).q rfl,?_⟩;have Z:=zT (b:=10) ae af hc;have ad:=Dm (b:=10) (x:=x) (y:=y) (c':=if a<y.getD i 0+c then 1 else 0) (d:=if a<y.getD i 0+c then a+10-(y.getD i 0+c)else a-(y.getD i 0+c)) J hv (by rw[ag];exact Z.1);generalize y.getD i 0=yi at *;have e1:IntKind.i64.wrap (IntKind.i64.wrap ((a:Int)-(yi:Int))-(c:Int))=(a:Int)-yi-c:=by rw[show IntKind.i64.wrap ((a:Int)-(yi:Int))=(a:Int)-yi from aU (by omega),aU (by omega)]
  simp only[go_sem,h6,e1];refine bN (fun E H'=>E 0=.sl (x.map gC)/\E 1=.sl (y.map gC)/\E 5=.os j/\E 7=int i/\H' j=some (bY o)/\E 8=int (if a<yi+c then a+10-(yi+c)else a-(yi+c):Nat)/\E 6=int (if a<yi+c then 1 else 0:Nat)) ?_ fun K hK=>aA (fun I=>?_) (fun I=>?_)
  rotate_left
  ·have I:a<yi+c:=by simp at I;omega
   have e2:IntKind.i64.wrap ((a:Int)-yi-c+10)=((a+10-(yi+c):Nat):Int):=by rw[aU (by omega)];omega
   simp only[go_sem,e2];exact hK _ _ ⟨h0,h1,X,T,Y,by simp only[go_sem,if_pos I],by simp only[go_sem,if_pos I];rfl⟩
  ·have I:¬a<yi+c:=by simp at I;omega
   simp only[go_sem,];refine hK _ _ ⟨h0,h1,X,T,Y,?_,by simp only[go_sem,if_neg I];rfl⟩;simp only[go_sem,if_neg I]
   congr 2
   omega
  clear h0 h1 X h6 T Y;rintro ρ H ⟨h0,h1,X,T,Y,h8,h6⟩;simp only[go_sem,X,h8];refine aY Y ⟨rfl,rfl⟩ ⟨rfl,trivial⟩ (by simp only[bY,Xab,Xai,List.length_nil];omega) (fun j' ah=>?_);simp only[go_sem,h0,h1,h6,T,aQ i];exact⟨⟨i+1,j',_,_,F,rfl,rfl,rfl,rM,ho.snoc Z.2,by simp[J],by split <;> omega,ad⟩,by simp only[aL];omega⟩
 ·have O:=geB hi O;subst O;simp only[go_sem,X];obtain⟨_,hV⟩:=Fx (b:=10) (by decide) ho lm J ab (by omega) hc hv;refine PC.useF [j] (.cons _ _ _ _ (.row _ _ _ (by simp only[Xaw,if_true];exact Y) (ConvE.refl _)) .nil) (aa o ho (by omega) (hV.trans (by rw[om,on]))) ?_;simp only[go_sem];exact .refl _
def ajF(m n:Nat)(hm:(aZ 10 m).length<=1048576)(hn:(aZ 10 n).length<=1048576):PC prog 250 [dg m,dg n] (dg (m*n)):=by
 have om:=cR (b:=10) (by decide) m;have on:=cR (b:=10) (by decide) n;have lm:=cK (b:=10) (by decide) m;have ln:=cK (b:=10) (by decide) n;have ad:∀l:List Nat,Lim 10 l->l.length<=4611686018427387904->ofL 10 l=m*n->PC prog 111 [.sl (l.map gC)] (dg (m*n)):=fun l h1 h2 h3=>Jv h1 h2 h3
 simp only[dg]at ad |-;generalize aZ 10 m=x at *;generalize aZ 10 n=y at *;generalize aZ 10 (m*n)=z at *;have ew:IntKind.i64.wrap ((x.length:Int)+(y.length:Int))=((x.length+y.length:Nat):Int):=by rw[aU (by omega)];omega
 refine pcb (fun t=>t == 15) func250 rfl rfl ?_;simp only[go_sem];simp only[ew];refine⟨by omega,aN fun j hj=>?_⟩;simp only[go_sem];refine⟨fun ρ H=>∃(i:Nat) (out:List Nat),i<=x.length/\ρ 0=.sl (x.map gC)/\ρ 1=.sl (y.map gC)/\ρ 5=.os j/\ρ 6=int i/\H j=some (bY out)/\Lim 10 out/\out.length=x.length+y.length/\ofL 10 out=ofL 10 (x.take i)*ofL 10 y,fun ρ _=>x.length-aR (ρ 6),
  ⟨0,List.replicate (x.length+y.length) 0,Xaa _,rfl,rfl,rfl,by simp only[go_sem];rfl,?_,Lim.zeros (by decide) _,by simp,by simp[ofL,Mi]⟩,?_⟩
 ·rw[aB];simp only[bY,List.map_replicate];rfl
 rintro ρ H ⟨i,out,hi,h0,h1,O,Y,Z,ho,af,hv⟩;simp only[go_sem,h0,Y,Xab];refine aA (fun I=>?_) (fun T=>?_)
 ·have I:=ltB I;obtain⟨E,aa⟩:=aK I;have b1:=inB I;have aq:E<10:=lm E (Xac aa);have ah:out[i+y.length]?=some 0:=by refine Xr (b:=10) (by decide) (q:=i+y.length) ?_ (Xaf _) (by omega);rw[hv,Nat.pow_add];have h1:=kM (b:=10) (by decide) (lm.take i);rw[Xap,Xcr hi]at h1;exact Nat.mul_lt_mul'' h1 (kM (b:=10) (by decide) ln)
  simp only[go_sem,];refine⟨fun ρ H=>∃(k c:Nat) (o:List Nat),k<=y.length+1/\ρ 0=.sl (x.map gC)/\ρ 1=.sl (y.map gC)/\ρ 5=.os j/\ρ 6=int i/\ρ 7=int c/\ρ 8=int k/\H j=some (bY o)/\Lim 10 o/\o.length=x.length+y.length/\c<10/\(k<=y.length->ofL 10 o+10^(i+k)*c=ofL 10 out+10^i*(E*ofL 10 (y.take k))/\o[i+y.length]?=some 0)/\(k=y.length+1->c=0/\ofL 10 o=ofL 10 out+10^i*(E*ofL 10 y)),fun ρ _=>y.length+1-aR (ρ 8),
   ⟨0,0,out,Xaa _,h0,h1,O,Y,by simp only[go_sem];rfl,by simp only[go_sem];rfl,Z,ho,af,by omega,fun _=>⟨by simp[ofL],ah⟩,by omega⟩,?_⟩
  rintro ρ H ⟨k,c,o,hk,h0,h1,O,Y,h7,h8,Z,hO,ac,hc,hV,hZ⟩;simp only[go_sem,h1,h7,h8,Xab];refine aA (fun X=>?_) (fun X=>?_)
  ·have X:k<y.length\/0<c:=by simpa using X
   have ag:k<=y.length:=by
    rcases Xay y.length k with h|h
    ·have:=(hZ (by omega)).1;omega
    ·exact h
   obtain⟨hV,hz⟩:=hV ag;obtain⟨v,F⟩:=aK (show i+k<o.length by omega);have ar:v<10:=hO v (Xac F);have b3:0<=((i+k:Nat):Int)/\((i+k:Nat):Int)<((bY o).es.length:Nat):=by simp only[bY,Xab];omega
   have ei:IntKind.i64.wrap ((i:Int)+(k:Int))=((i+k:Nat):Int):=by rw[aU (by omega)];omega
   have ak:(bY o).es.getD (i+k) []=gC v:=aC F;have au:y.getD k 0<10:=ln.getD (by decide) k;have ap:E*y.getD k 0<=9*9:=Nat.mul_le_mul (by omega) (by omega);have e1:IntKind.i64.wrap (IntKind.i64.wrap ((v:Int)+IntKind.i64.wrap ((E:Int)*((y.getD k 0:Nat):Int)))+(c:Int))=((v+E*y.getD k 0+c:Nat):Int):=by rw[show(E:Int)*((y.getD k 0:Nat):Int)=((E*y.getD k 0:Nat):Int)from(Int.natCast_mul E _).symm];generalize E*y.getD k 0=p at *;rw[show IntKind.i64.wrap (p:Int)=(p:Int)from aU (by omega),show IntKind.i64.wrap ((v:Int)+(p:Int))=(v:Int)+p from aU (by omega),aU (by omega)];omega
   have hq:(v+E*y.getD k 0+c)/10<10:=by omega
   have e2:IntKind.i64.wrap ((((v+E*y.getD k 0+c:Nat):Int)).tdiv 10)=(((v+E*y.getD k 0+c)/10:Nat):Int):=by generalize v+E*y.getD k 0+c=p at *;rw[Xce (by omega),aU (by omega)];omega
   have e3:(((v+E*y.getD k 0+c:Nat):Int)).tmod 10=(((v+E*y.getD k 0+c)%10:Nat):Int):=rfl;simp only[go_sem,];refine jK (by rfl) (by kernel_rfl) ?_;simp only[go_sem,h0,h1,O,Y,h8,ei,Z,b3,ak,aC aa,b1,Xab];have J:i+k<(bY o).es.length:=by simp only[bY,Xab];omega
   refine⟨rfl,⟨J,Nat.zero_lt_one⟩,_,(tN y k (by omega) (by omega)).q rfl,?_⟩;simp only[go_sem,O,Y,h7,h8,e1,ei,Z,b3,e3];refine⟨by decide,rfl,dP so3 Z ⟨J,rfl,Xaf 1⟩ ?_⟩;generalize hP:aM H j _=HP;have ai:HP j=some (bY (o.set (i+k) ((v+E*y.getD k 0+c)%10))):=by rw[<-hP,aB];exact congrArg some (CO (q:=(v+E*y.getD k 0+c)%10) F)
   simp only[go_sem,h0,h1,O,Y,h8,e2,aQ k];refine⟨by decide,⟨k+1,_,_,by omega,rfl,rfl,ai,hO.set (Xby _ (by decide)),by simp[ac],hq,fun an=>?_,fun an=>?_⟩,by simp only[aL];omega⟩
   ·obtain⟨yk,ab⟩:=aK (show k<y.length by omega);have am:y.getD k 0=yk:=by simp[List.getD,ab]
    rw[am];exact⟨QT (b:=10) (by decide) F ab hV,by rw[List.getElem?_set_ne (by omega)];exact hz⟩
   ·have aj:k=y.length:=by omega
    subst aj;have al:v=0:=by rw[F]at hz;exact Option.some.inj hz
    have ao:y.getD y.length 0=0:=by simp[List.getD]
    rw[al,ao,Nat.mul_zero,Xcg,Xbk hc];exact⟨by omega,YN (b:=10) hz hV⟩
  ·have X : y.length <= k /\ c = 0 := by simp at X;omega
   have ae:ofL 10 o=ofL 10 out+10^i*(E*ofL 10 y):=by
    rcases Xay y.length k with h|h
    ·exact(hZ (by omega)).2
    ·have h1:=(hV h).1;rw[X.2,Nat.mul_zero,Nat.add_zero,Xan X.1]at h1;exact h1
   simp only[go_sem,h0,h1,O,Y,aQ i];refine⟨⟨i+1,o,I,rfl,Z,hO,ac,?_⟩,by simp only[aL];omega⟩;rw[ae,hv,lJ 10 aa,Nat.add_mul,Nat.mul_assoc]
 ·have T:=geB hi T;subst T;rw[Xad]at hv;simp only[go_sem,O];refine PC.useF [j] (.cons _ _ _ _ (.row _ _ _ (by simp only[Xaw,if_true];exact Z) (ConvE.refl _)) .nil) (ad out ho (by omega) (by rw[hv,om,on])) ?_;simp only[go_sem];exact .refl _
def aeE:AV->Nat
 | .sl es=>ofL 10 (es.map fun e=>match e with|[.v (.int _ z)]=>z.toNat|_=>0)
 | _=>0
def XA(n:Nat):aeE (dg n)=n:=by
 unfold aeE dg;simp only[List.map_map];have:(aZ 10 n).map ((fun e=>match e with|[.v (.int _ z)]=>z.toNat|_=>0) ∘ gC)=aZ 10 n:=by
  conv=>rhs;rw[<-List.map_id (aZ 10 n)]
  exact List.map_congr_left fun x _=>rfl
 rw[this,cR (by decide)]
def Z6(m n:Nat)(hm:(aZ 10 m).length<=1048570)(hn:0<n)(a0:(aZ 10 n).length<=1048570):PC prog 156 [dg m,dg n] (.tup [dg (m/n),dg (m%n)]):=by
 have om:=cR (b:=10) (by decide) m;have lm:=cK (b:=10) (by decide) m;rw[show dg m=.sl ((aZ 10 m).map gC)from rfl];generalize aZ 10 m=x at *;refine pcb (fun t=>t == 12||t == 24) func156 rfl rfl ?_;simp only[go_sem];refine⟨by omega,aN fun j hj=>?_⟩;simp only[go_sem,Xab];refine⟨fun ρ H=>∃(k r:Nat) (F:List Nat),k<=x.length/\ρ 0=.sl (x.map gC)/\ρ 1=dg n/\ρ 6=.os j/\ρ 7=dg r/\ρ 8=int ((k:Int)-1)/\H j=some (bY F)/\Lim 10 F/\F.length=x.length/\r<n/\(∀i,i<k->F[i]?=some 0)/\ofL 10 (x.drop k)=ofL 10 (F.drop k)*n+r,fun ρ _=>upN (ρ 8),
  ⟨x.length,0,List.replicate x.length 0,Xaf _,rfl,rfl,rfl,by simp only[go_sem,dg,eG,Xbz],by simp only[go_sem];rw[aU (by omega)],?_,Lim.zeros (by decide) _,by simp,hn,?_,?_⟩,?_⟩
 ·rw[aB];simp only[bY,List.map_replicate];rfl
 ·intro i hi;simp[hi]
 ·rw[Xcj,Xcc (by simp)];simp[ofL]
 rintro ρ H ⟨k,r,F,hk,h0,h1,Z,Y,J,X,ac,au,hr,hz,hv⟩;simp only[go_sem,J];refine aA (fun ai=>?_) (fun ar=>?_)
 ·obtain⟨i,rfl⟩:∃i,k=i+1:=⟨k-1,by have:=of_decide_eq_true ai;omega⟩;have ei:((i+1:Nat):Int)-1=(i:Int):=by omega
  rw[ei]at J;obtain⟨a,ha⟩:=aK (show i<x.length by omega);have ab:a<10:=lm a (Xac ha);have b1:=inB (show i<x.length by omega);have a4:(aZ 10 r).length<=(aZ 10 n).length:=cQ (by decide) (by omega);have av:=cR (b:=10) (by decide) r;have T:=cK (b:=10) (by decide) r;simp only[go_sem,h0,J,ei,aC ha,b1,Xab];obtain⟨hV,hQ,a6⟩:=Tn (b:=10) (a:=n) (by decide) ha ab hr (show i<F.length by omega) hv;have af:ofL 10 (a::aZ 10 r)=a+10*r:=by rw[ofL,av]
  have ag:Lim 10 (a::aZ 10 r):=fun y hy=>by
   rcases Xbc.1 hy with rfl|hy
   ·exact ab
   ·exact T y hy
  have a7:(aZ 10 (a+10*r)).length<=1048575:=by refine Xal (iQ (b:=10) (k:=(aZ 10 r).length+1) (by decide) ?_) (by omega);have h1:=kM (b:=10) (by decide) ag;rw[af]at h1;simpa using h1
  generalize a5:a+10*r=R at *;refine aN fun j2 ad=>?_
  simp only[go_sem,Y];have aa:=eT (r':=⟨3,1,[[int (a:Int)]]⟩) X ad;refine aY (aB _ _ _) ⟨rfl,rfl⟩ (axL _) (by simp;omega) (fun i2 ae=>?_);have al:=dL aa (bE X ad).symm ae (r':=⟨3,1,[[int (a:Int)]]++(aZ 10 r).map gC⟩);have ax:j≠i2:=bE aa ae;simp only[go_sem,];refine PC.useF [i2] (.cons _ _ _ _ (.row _ _ _ (by simp only[Xaw,if_true];exact aB _ _ _) (ConvE.refl _)) .nil) (Jv ag (by simp;omega) af) ?_;generalize am:(fun k=>if k∈[i2]then none else _)=HN;have ay:HN j=some (bY F):=by rw[<-am];simp only[Xaw,if_neg ax];exact al
  simp only[go_sem,];refine⟨fun ρ H=>∃(d r':Nat),ρ 0=.sl (x.map gC)/\ρ 1=dg n/\ρ 6=.os j/\ρ 7=dg r'/\ρ 8=int i/\H j=some (bY (F.set i d))/\d*n+r'=R,fun ρ _=>aeE (ρ 7),
   ⟨0,R,h0,h1,Z,rfl,J,?_,by omega⟩,?_⟩
  ·rw[ay];have h2:=hz i (by omega);obtain⟨h3,h4⟩:=List.getElem?_eq_some_iff.1 h2
   congr 2
   rw[<-h4];exact(List.set_getElem_self h3).symm
  rintro ρ H ⟨d,r',h0,h1,Z,Y,J,X,hd⟩;have az:=cQ (b:=10) (by decide) (show r'<=R by omega);simp only[go_sem,h1,Y];refine aH (Aj r' n (by omega) (by omega)) ?_;simp only[go_sem,OI];have ah:d<10:=by
   rcases Xay d 10 with h|h
   ·exact h
   ·have:=Xcx n h;omega
  refine aA (fun I=>?_) (fun E=>?_)
  ·have I:n<=r':=by have:=of_decide_eq_true I;omega
   have hg:(F.set i d)[i]?=some d:=List.getElem?_set_self (by omega);have ap:(bY (F.set i d)).es.getD i []=gC d:=aC hg;have b3:0<=(i:Int)/\(i:Int)<((bY (F.set i d)).es.length:Nat):=by simp only[bY,Xab,Xcb];omega
   have O:i<(bY (F.set i d)).es.length:=by simp only[bY,Xab,Xcb];omega
   simp only[go_sem,h1,Y];refine aH (Eo r' n (by omega) I) ?_;simp only[go_sem,Z,J,X,b3,ap,aQ d];refine⟨rfl,⟨O,Nat.zero_lt_one⟩,rfl,dP so3 X ⟨O,rfl,Xaf 1⟩ ?_⟩;generalize hP:aM H j _=HP;have aj:HP j=some (bY (F.set i (d+1))):=by rw[<-hP,aB];refine(congrArg some (CO (q:=d+1) hg)).trans ?_;rw[List.set_set]
   simp only[go_sem,h0,h1,Z,J];refine⟨⟨d+1,r'-n,rfl,aj,by rw[Nat.add_mul];omega⟩,?_⟩;show aeE (dg (r'-n))<aeE (dg r');rw[XA,XA];omega
  ·have E:r'<n:=by have:=of_decide_eq_false E;omega
   have ao:R/n=d:=by rw[<-hd,Xcl,Nat.add_mul_div_right _ _ hn,Nat.div_eq_of_lt E,Xcg]
   have ak:R%n=r':=by rw[<-hd,Xcl,Nat.add_mul_mod_self_right,Xbk E]
   rw[ao,ak]at hV;simp only[go_sem,h0,h1,Z,Y,J,show IntKind.i64.wrap ((i:Int)-1)=(i:Int)-1 from aU (by omega)];refine⟨⟨i,r',F.set i d,by omega,rfl,rfl,X,ac.set ah,by simp[au],E,fun q hq=>?_,hV⟩,by simp only[DQ];omega⟩;rw[List.getElem?_set_ne (by omega)];exact hz q (by omega)
 ·have an:k=0:=by have:=of_decide_eq_false ar;omega
  subst an;rw[Xbx,Xbx,om]at hv;have aw:m/n=ofL 10 F:=by rw[hv,Xcl,Nat.add_mul_div_right _ _ hn,Nat.div_eq_of_lt hr,Xcg]
  have aq:m%n=r:=by rw[hv,Xcl,Nat.add_mul_mod_self_right,Xbk hr]
  simp only[go_sem,Z];refine PC.useF [j] (.cons _ _ _ _ (.row _ _ _ (by simp only[Xaw,if_true];exact X) (ConvE.refl _)) .nil) (Jv ac (by omega) aw.symm) ?_;simp only[go_sem,Y,aq];exact .refl _
def Fs(m:Nat):(aZ 10 m).length<=(dec m).size:=by
 by_cases h:m=0
 ·rw[h,eG];simp
 ·have:=congrArg List.length (Gj h);rw[jE,<-this];simp[txt]
def sP{m:Nat}(h:m<cY):(aZ 10 m).length<=4096:=by have h1:=Fs m;have E:=(jZ m).2 h;omega
def zU(m:Bool)(n:Nat)(h:(aZ 10 n).length<=1048576):PC prog 63 [boo m,dg n] (str (zed (sg m n))):=by
 have:=W8 m (aZ 10 n) (cK (by decide) n) h
 rwa [cR (by decide)]at this
def apE(s:ByteArray)(h:s.size<=1048576):PC prog 252 [str s] (int (BI s)):=by
 have T:=dF s;refine pcd func252 rfl rfl ?_;simp only[go_sem];refine aH (yS s h) ?_;simp only[go_sem,oD];refine aA (fun F=>?_) (fun F=>?_)
 ·simp only[go_sem];refine cI ?_;unfold BI;split
  ·rename_i E;rw[E]at F;have:s=dec 0:=lP.1 (by simpa using F);rw[this,<-show zed ((0:Nat):Int)=dec 0 from dJ 0,cG];rfl
  ·rfl
 have E:fC s=true/\eqB s (dec 0)=false:=by simp only[Xag,Xbw]at F;exact F
 obtain⟨E,h0⟩:=E;have Z:0<s.size:=by
  rcases Nat.eq_zero_or_pos s.size with h|h
  ·exfalso;rw[<-T,Xbp]at h;have J:=wX s;rw[h,List.drop_nil]at J;unfold fC eA eZ at E;rw[J]at E;cases E
  ·exact h
 simp only[go_sem];have O:=yX s;rw[show decide ((s.size:Int)>0)=true by simp;omega,Xaz]at O;rw[O];have I:zed (gN s)=s:=vX E;have X:fY s=decide (gN s<0):=by rw[<-I,rT,cG]
 have Y:gN s≠0:=fun e=>nX.1 h0 (by rw[<-I,e];exact dJ 0)
 refine⟨⟨by omega,by omega⟩,?_⟩;rw[X];refine aA (fun F=>?_) (fun F=>?_)
 ·have:=of_decide_eq_true F;simp only[go_sem];exact cI (by unfold BI;rw[if_pos E,Int.sign_eq_neg_one_of_neg this])
 ·have:=of_decide_eq_false F;simp only[go_sem];exact cI (by unfold BI;rw[if_pos E,Int.sign_eq_one_of_pos (by omega)])
def ZX{s:ByteArray}:kJ s s=0->∃n:Int,s=zed n/\n.natAbs<cY:=fun h=>by obtain⟨m,n,e,_,E,_⟩:=qD h;exact⟨m,e,E⟩
def ahE(s:ByteArray)(h:s.size<=1048576):PC prog 207 [str s] (.tup (if kJ s s=0 then[str (dec (gN s).natAbs),int 0]else[str emp,int (kJ s s)])):=by
 have E:=E3 s s h h;by_cases F:kJ s s=0
 ·rw[if_pos F];rw[F]at E;obtain⟨n,rfl,J⟩:=ZX F;have O:=sP J;refine pcd func207 rfl rfl ?_;simp only[go_sem];refine aH E ?_;simp only[go_sem];refine aA (fun I=>by cases I) (fun _=>?_);simp only[go_sem];refine aH (qX n h) ?_;simp only[go_sem];refine aH (zU false n.natAbs (by omega)) ?_;simp only[go_sem];rw[cG,show sg false n.natAbs=((n.natAbs:Nat):Int)from rfl,dJ];exact .refl _
 ·rw[if_neg F];refine pcd func207 rfl rfl ?_;simp only[go_sem];refine aH E ?_;simp only[go_sem];refine aA (fun _=>?_) (fun I=>absurd (by simpa using I) F);simp only[go_sem];exact .refl _
def auS(a b:Bool)(m n:Nat)(O:(aZ 10 m).length<=1048570)(J:(aZ 10 n).length<=1048570)(I:(aZ 10 (m+n)).length<=1048576):PC prog 251 [boo a,dg m,boo b,dg n] (str (zed (sg a m+sg b n))):=by
 refine pcd func251 rfl rfl ?_;simp only[go_sem];refine aA (fun h=>?_) (fun h=>?_)
 ·have E:a=b:=by simpa using h
  subst E;simp only[go_sem];refine aH (XH m n (by omega) (by omega)) ?_;simp only[go_sem];refine aH (zU a (m+n) I) ?_;simp only[go_sem];rw[show sg a (m+n)=sg a m+sg a n by unfold sg;split <;> omega];exact .refl _
 have E:b= !a:=by cases a <;> cases b <;> simp_all
 subst E;simp only[go_sem];refine aH (Aj m n (by omega) (by omega)) ?_;simp only[go_sem,OI];refine aA (fun F=>?_) (fun F=>?_)
 ·have F:n<=m:=by have:=of_decide_eq_true F;omega
  simp only[go_sem];refine aH (Eo m n (by omega) F) ?_;simp only[go_sem];have:=cQ (b:=10) (by decide) (show m-n<=m by omega);refine aH (zU a (m-n) (by omega)) ?_;simp only[go_sem];rw[show sg a (m-n)=sg a m+sg (!a) n by unfold sg;cases a <;> simp <;> omega];exact .refl _
 ·have F:m<n:=by have:=of_decide_eq_false F;omega
  simp only[go_sem];refine aH (Eo n m (by omega) (by omega)) ?_;simp only[go_sem];have:=cQ (b:=10) (by decide) (show n-m<=n by omega);refine aH (zU (!a) (n-m) (by omega)) ?_;simp only[go_sem];rw[show sg (!a) (n-m)=sg a m+sg (!a) n by unfold sg;cases a <;> simp <;> omega];exact .refl _
def Q9(a b:ByteArray)(ha:a.size<=1048570)(hb:b.size<=1048570):PC prog 91 [str a,str b] (int (Tq a b)):=by
 refine pcd func91 rfl rfl ?_;simp only[go_sem];refine aH (yS a (by omega)) ?_;simp only[go_sem];refine⟨_,fun _=>(yS b (by omega)).q rfl,?_⟩;simp only[go_sem];apply aA <;> intro T
 ·simp only[go_sem];refine cI ?_;unfold Tq;rw[if_neg];rintro⟨h1,E⟩;rw[h1,E]at T;cases T
 have O:fC a=true/\fC b=true:=by simpa using T
 rw[show Tq a b=hY (gN a) (gN b)from if_pos O];have J:=vX O.1;have X:=vX O.2;have la:(aZ 10 (gN a).natAbs).length<=1048570:=by have h1:=Fs (gN a).natAbs;have E:=DR (zed (gN a));rw[kR,J]at E;omega
 have lb:(aZ 10 (gN b).natAbs).length<=1048570:=by have h1:=Fs (gN b).natAbs;have E:=DR (zed (gN b));rw[kR,X]at E;omega
 have Y:=qX (gN a) (by rw[J];omega);have Z:=qX (gN b) (by rw[X];omega);rw[J]at Y;rw[X]at Z;generalize gN a=m at *;generalize gN b=n at *;simp only[go_sem];refine aH Y ?_;simp only[go_sem];refine aH Z ?_;simp only[go_sem];apply aA <;> intro E
 ·have E:m<0/\n<0:=by simpa using E
  simp only[go_sem];refine aH (Aj n.natAbs m.natAbs (by omega) (by omega)) ?_;simp only[go_sem];refine cI ?_;unfold hY;have c1:((n.natAbs:Nat):Int)<((m.natAbs:Nat):Int)↔m<n:=by omega
  have c2:((m.natAbs:Nat):Int)<((n.natAbs:Nat):Int)↔n<m:=by omega
  simp only[c1,c2]
 ·simp only[go_sem];apply aA <;> intro F
  ·have F:m<0:=of_decide_eq_true F;have I:¬n<0:=fun h=>by simp[F,h]at E
   simp only[go_sem];exact cI (by rw[kH (by omega)])
  ·have F:¬m<0:=of_decide_eq_false F;simp only[go_sem];apply aA <;> intro I
   ·have I:n<0:=of_decide_eq_true I;simp only[go_sem];exact cI (by rw[kD (by omega)])
   ·have I:¬n<0:=of_decide_eq_false I;simp only[go_sem];refine aH (Aj m.natAbs n.natAbs (by omega) (by omega)) ?_;simp only[go_sem];exact cI (by rw[show((m.natAbs:Nat):Int)=m by omega,show((n.natAbs:Nat):Int)=n by omega])
def YG{n:Int}{k:Nat}(h:(aZ 10 n.natAbs).length<=k):(zed n).size<=k+2:=by
 have h1:(fT (zed n)).size=(dec n.natAbs).size:=by rw[kR]
 have E:(dec n.natAbs).size<=k+1:=by
  rw[jE];by_cases h0:n.natAbs=0
  ·rw[h0,Lib.decDigits_one (by omega)];simp
  ·have:=congrArg List.length (Gj h0);rw[<-this];simp[txt];omega
 unfold fT at h1;split at h1
 ·rw[<-dF,lU,Xbr]at h1;rw[<-dF];omega
 ·omega
def Xp(m n:Nat):(aZ 10 (m+n)).length<=max (aZ 10 m).length (aZ 10 n).length+1:=by refine iQ (by decide) ?_;have h1:=kM (b:=10) (by decide) (cK (b:=10) (by decide) m);have E:=kM (b:=10) (by decide) (cK (b:=10) (by decide) n);rw[cR (by decide)]at h1 E;have F:10^(aZ 10 m).length<=10^max (aZ 10 m).length (aZ 10 n).length:=Xau (by decide) (by omega);have I:10^(aZ 10 n).length<=10^max (aZ 10 m).length (aZ 10 n).length:=Xau (by decide) (by omega);rw[Xbj];omega
def anR(m n:Nat):(aZ 10 (m*n)).length<=(aZ 10 m).length+(aZ 10 n).length:=by refine iQ (by decide) ?_;have h1:=kM (b:=10) (by decide) (cK (b:=10) (by decide) m);have E:=kM (b:=10) (by decide) (cK (b:=10) (by decide) n);rw[cR (by decide)]at h1 E;rw[Nat.pow_add];exact Nat.mul_lt_mul'' h1 E
def auM(a b:ByteArray)(I:a.size<=1048576)(E:b.size<=1048576):PC prog 211 [str a,str b] (.tup [str (KV a b).1,int (KV a b).2]):=by
 refine pcd func211 rfl rfl ?_;simp only[go_sem];refine aH (E3 a b I E) ?_;simp only[go_sem];apply aA <;> intro h
 ·have h:kJ a b≠0:=by simpa using h
  simp only[go_sem];rw[show KV a b=(emp,kJ a b)from if_neg h];exact .refl _
 have h:kJ a b=0:=by simpa using h
 rw[show KV a b=szZ (gN a+gN b)from if_pos h];obtain⟨m,n,rfl,rfl,J,F⟩:=qD h;have Z:=sP J;have Y:=sP F;have X:=Xp m.natAbs n.natAbs;have O:=cQ (b:=10) (by decide) (show(m+n).natAbs<=m.natAbs+n.natAbs by omega);have T:=YG (n:=m+n) (Xaf _);rw[cG,cG];simp only[go_sem];refine aH (qX m (by omega)) ?_;simp only[go_sem];refine aH (qX n (by omega)) ?_;simp only[go_sem];refine aH (auS _ _ m.natAbs n.natAbs (by omega) (by omega) (by omega)) ?_;rw[Fc,Fc];simp only[go_sem];refine aH (Me (m+n) (by omega)) ?_;simp only[go_sem];exact .refl _
def IU(a b:ByteArray)(O:a.size<=1048576)(I:b.size<=1048576):PC prog 210 [str a,str b] (.tup [str (xW a b).1,int (xW a b).2]):=by
 refine pcd func210 rfl rfl ?_;simp only[go_sem];refine aH (E3 a b O I) ?_;simp only[go_sem];apply aA <;> intro h
 ·have h:kJ a b≠0:=by simpa using h
  simp only[go_sem];rw[show xW a b=(emp,kJ a b)from if_neg h];exact .refl _
 have h:kJ a b=0:=by simpa using h
 rw[show xW a b=szZ (gN a*gN b)from if_pos h];obtain⟨m,n,rfl,rfl,T,J⟩:=qD h;have lm:=sP T;have Z:=sP J;have Y:=anR m.natAbs n.natAbs;have X:=YG (n:=m*n) (k:=8192) (by rw[Int.natAbs_mul];omega);have E:sg (decide (m<0) != decide (n<0)) (m.natAbs*n.natAbs)=m*n:=by
  unfold sg;rcases Xcf m 0 with h1|h1 <;> rcases Xcf n 0 with F|F
  ·have e:m*n=(m.natAbs:Int)*n.natAbs:=by rw[show(m.natAbs:Int)= -m by omega,show(n.natAbs:Int)= -n by omega,Int.neg_mul_neg]
   rw[if_neg (by simp[h1,F]),e,Int.natCast_mul]
  ·have e:m*n= -((m.natAbs:Int)*n.natAbs):=by rw[show(m.natAbs:Int)= -m by omega,show(n.natAbs:Int)=n by omega,Int.neg_mul,Int.neg_neg]
   rw[if_pos (by simp[h1];omega),e,Int.natCast_mul]
  ·have e:m*n= -((m.natAbs:Int)*n.natAbs):=by rw[show(m.natAbs:Int)=m by omega,show(n.natAbs:Int)= -n by omega,Int.mul_neg,Int.neg_neg]
   rw[if_pos (by simp[F];omega),e,Int.natCast_mul]
  ·have e:m*n=(m.natAbs:Int)*n.natAbs:=by rw[show(m.natAbs:Int)=m by omega,show(n.natAbs:Int)=n by omega]
   rw[if_neg (by simp;omega),e,Int.natCast_mul]
 rw[cG,cG];simp only[go_sem];refine aH (qX m (by omega)) ?_;simp only[go_sem];refine aH (qX n (by omega)) ?_;simp only[go_sem];refine aH (ajF m.natAbs n.natAbs (by omega) (by omega)) ?_;simp only[go_sem];refine aH (zU _ (m.natAbs*n.natAbs) (by omega)) ?_;rw[show sg (!(decide (m<0) == decide (n<0))) (m.natAbs*n.natAbs)=m*n from E];simp only[go_sem];refine aH (Me (m*n) (by omega)) ?_;simp only[go_sem];exact .refl _
def auH:dg 1=.sl [[int 1]]:=by
 have:aZ 10 1=[1]:=by rw[oE (by decide) (by decide),show 1/10=0 from rfl,eG]
 simp only[dg,this];rfl
def Pq(a b:ByteArray)(ha:a.size<=1048576)(E:b.size<=1048576):PC prog 90 [str a,str b] (.tup [str (wQ a b).1,str (wQ a b).2.1,int (wQ a b).2.2]):=by
 refine pcd func90 rfl rfl ?_;simp only[go_sem];refine aH (E3 a b ha E) ?_;simp only[go_sem];apply aA <;> intro h
 ·have h:kJ a b≠0:=by simpa using h
  simp only[go_sem];rw[show wQ a b=(emp,emp,kJ a b)from if_neg h];exact .refl _
 have h:kJ a b=0:=by simpa using h
 obtain⟨m,n,rfl,rfl,hm,hn⟩:=qD h;have lm:=sP hm;have ln:=sP hn;have e:wQ (zed m) (zed n)=if n=0 then(emp,emp,10)else(zed (m.fdiv n),zed (m.fmod n),0):=by unfold wQ;rw[if_pos h,cG,cG]
 rw[e];simp only[go_sem];refine aH (qX m (by omega)) ?_;simp only[go_sem];refine aH (qX n (by omega)) ?_;simp only[go_sem,Xab];apply aA <;> intro I
 ·have h0 : n = 0 := by
   have:(aZ 10 n.natAbs).length=0:=by rw[Xav]at I;omega
   have:=(qL (b:=10) (by decide)).1 (Xbp.1 this);omega
  simp only[go_sem];rw[if_pos h0];exact .refl _
 have h0:n≠0:=fun e=>by rw[e,show(0:Int).natAbs=0 from rfl,eG]at I;cases I
 have O:0<n.natAbs:=by omega
 rw[if_neg h0];simp only[go_sem];refine aH (Z6 m.natAbs n.natAbs (by omega) O (by omega)) ?_;simp only[go_sem,Xab];have Y:=Xby m.natAbs O;have lq:=cQ (b:=10) (by decide) (Xcp m.natAbs n.natAbs);have lr:=cQ (b:=10) (by decide) (Nat.le_of_lt Y);have hz:decide (((aZ 10 (m.natAbs%n.natAbs)).length:Int)>0)= !decide (m.natAbs%n.natAbs=0):=by
  rw[<-decide_not,decide_eq_decide];have:=qL (b:=10) (n:=m.natAbs%n.natAbs) (by decide);have h2:=Xbp (l:=aZ 10 (m.natAbs%n.natAbs));constructor
  ·intro Z h4;rw[h4,eG]at Z;simp at Z
  ·intro Z;have:(aZ 10 (m.natAbs%n.natAbs)).length≠0:=fun e=>Z (this.1 (h2.1 e))
   omega
 rw[hz];refine bN (fun F H'=>∃q r:Nat,F 8=boo (decide (m<0))/\F 10=boo (decide (n<0))/\F 12=dg q/\F 13=dg r/\(aZ 10 q).length<=5000/\(aZ 10 r).length<=5000/\sg (!(decide (m<0) == decide (n<0))) q=m.fdiv n/\sg (decide (n<0)) r=m.fmod n) ?_ fun K hK=>aA (fun E=>?_) (fun E=>?_)
 rotate_left
 ·have E : decide (m < 0) ≠ decide (n < 0) /\ m.natAbs % n.natAbs ≠ 0 := by simp only[Xak,Xax,beq_eq_false_iff_ne,ne_eq,decide_eq_false_iff_not]at E;exact E
  obtain⟨J,X⟩:=G7 h0 E.1 E.2;have la:=Xp (m.natAbs/n.natAbs) 1;have l1:(aZ 10 1).length=1:=by rw[oE (by decide) (by decide),show 1/10=0 from rfl,eG];rfl
  have l2:=cQ (b:=10) (by decide) (show n.natAbs-m.natAbs%n.natAbs<=n.natAbs by omega);have hp:=XH (m.natAbs/n.natAbs) 1 (by omega) (by omega);rw[auH]at hp;simp only[go_sem];refine aH hp ?_;simp only[go_sem];refine aH (Eo n.natAbs (m.natAbs%n.natAbs) (by omega) (by omega)) ?_;simp only[go_sem];refine hK _ _ ⟨m.natAbs/n.natAbs+1,n.natAbs-m.natAbs%n.natAbs,rfl,rfl,rfl,rfl,by omega,by omega,?_,X.symm⟩;rw[J];unfold sg;rw[if_pos (by simpa using E.1)]
 ·have E : decide (m < 0) = decide (n < 0) \/ m.natAbs % n.natAbs = 0 := by
   by_cases h1:decide (m<0)=decide (n<0)
   ·exact .inl h1
   ·refine .inr ?_;have h2:(!(decide (m<0) == decide (n<0)))=true:=by simpa using h1
    rw[h2,Xaz,Xbw]at E;exact of_decide_eq_true E
  obtain⟨J,X⟩:=Mq h0 E;simp only[go_sem];exact hK _ _ ⟨_,_,rfl,rfl,rfl,rfl,by omega,by omega,J.symm,X.symm⟩
 rintro ρ H ⟨q,r,h8,T,aa,ab,hq,hr,J,X⟩;simp only[go_sem,h8,T,aa];refine aH (zU _ q (by omega)) ?_;simp only[go_sem,T,ab];refine aH (zU _ r (by omega)) ?_;simp only[go_sem,J,X];exact .refl _
def agP(z:Int):z.tmod 10=if z<0 then -((z.natAbs%10:Nat):Int)else((z.natAbs%10:Nat):Int):=by
 rcases Xcf z 0 with h|h
 ·rw[if_pos h];obtain⟨N,rfl⟩:∃N:Nat,z= -(N:Int):=⟨z.natAbs,by omega⟩;rw[Int.neg_tmod,Int.natAbs_neg,Xbo];rfl
 ·rw[if_neg (by omega)]
  conv=>lhs;rw[show z=((z.natAbs:Nat):Int)by omega]
  rfl
def Kc(z:Int):z.tdiv 10=if z<0 then -((z.natAbs/10:Nat):Int)else((z.natAbs/10:Nat):Int):=by
 rcases Xcf z 0 with h|h
 ·rw[if_pos h];obtain⟨N,rfl⟩:∃N:Nat,z= -(N:Int):=⟨z.natAbs,by omega⟩;rw[Int.neg_tdiv,Int.natAbs_neg,Xbo];rfl
 ·rw[if_neg (by omega)]
  conv=>lhs;rw[show z=((z.natAbs:Nat):Int)by omega]
  rfl
def axH:AV->Nat
 | .v (.int _ z)=>z.natAbs
 | _=>0
def Qv(k:IntKind)(z:Int):axH (.v (.int k z))=z.natAbs:=(rfl)
def awU(n:Int)(h0: -9223372036854775808<=n)(h1:n<=9223372036854775807):PC prog 35 [int n] (str (zed n)):=by
 refine pcb (fun t=>t == 3) func35 rfl rfl ?_;simp only[go_sem];refine aN fun j hj=>?_
 simp only[go_sem];refine⟨fun ρ H=>∃(z:Int) (j:Nat) (o:List Nat),ρ 0=int z/\ρ 3=.os j/\ρ 4=boo (decide (n<0))/\H j=some (bY o)/\Lim 10 o/\o.length+(aZ 10 z.natAbs).length=(aZ 10 n.natAbs).length/\(z<0->n<0)/\(0<z->0<n)/\ -9223372036854775808<=z/\z<=9223372036854775807/\ofL 10 o+10^o.length*z.natAbs=n.natAbs,fun ρ _=>axH (ρ 0),
  ⟨n,j,[],rfl,rfl,rfl,CL,by simp[Lim],by simp,id,id,h0,h1,by simp[ofL]⟩,?_⟩
 have ag:(aZ 10 n.natAbs).length<=20:=iQ (by decide) (by omega);rintro ρ H ⟨z,j,o,I,X,T,O,ho,Z,ab,ae,b0,b1,hv⟩;simp only[go_sem,I,];apply aA <;> intro F
 ·have hz:z≠0:=by simpa using F
  have aa:z.natAbs≠0:=by omega
  have em:(z.tmod 10).natAbs=z.natAbs%10:=by rw[agP];split <;> omega
  have ed:(z.tdiv 10).natAbs=z.natAbs/10:=by rw[Kc];split <;> omega
  have Y:z.tdiv 10<0->z<0:=fun h=>by rw[Kc]at h;split at h <;> omega
  have ad:0<z.tdiv 10->0<z:=fun h=>by rw[Kc]at h;split at h <;> omega
  have ac:ofL 10 (o++[z.natAbs%10])+10^(o++[z.natAbs%10]).length*(z.natAbs/10)=n.natAbs:=by
   rw[<-hv,vT,Xae,Xai,List.length_nil,Xbj];have e:=Nat.mod_add_div z.natAbs 10;have e2:10^o.length*(z.natAbs%10+10*(z.natAbs/10))=10^o.length*z.natAbs:=by rw[e]
   grind
  have J:z.natAbs%10<10:=Xby _ (by decide);have af:(o++[z.natAbs%10]).length+(aZ 10 (z.natAbs/10)).length=(aZ 10 n.natAbs).length:=by rw[<-Z,oE (n:=z.natAbs) (by decide) aa];simp;omega
  have ew:IntKind.i64.wrap (z.tdiv 10)=z.tdiv 10:=aU (by omega);simp only[go_sem,I,];refine⟨by decide,?_⟩;refine bN (fun E H'=>E 0=int z/\E 3=.os j/\E 4=boo (decide (n<0))/\E 5=int (z.natAbs%10:Nat)/\H' j=some (bY o)) ?_ fun K hK=>aA (fun F=>?_) (fun F=>?_)
  rotate_left
  ·have F:=of_decide_eq_true F;have e1:IntKind.i64.wrap (0-z.tmod 10)=((z.natAbs%10:Nat):Int):=by rw[aU (by omega)];omega
   simp only[go_sem,e1];exact hK _ _ ⟨I,X,T,rfl,O⟩
  ·have F:=of_decide_eq_false F;have e1:z.tmod 10=((z.natAbs%10:Nat):Int):=by omega
   simp only[go_sem];exact hK _ _ ⟨I,X,T,by simp only[go_sem];rw[e1],O⟩
  rintro ρ H ⟨I,X,T,e5,O⟩;simp only[go_sem,X,e5];refine aY O ⟨rfl,rfl⟩ ⟨rfl,trivial⟩ (by simp only[bY,Xab,Xai,List.length_nil];omega) (fun j' ah=>?_);simp only[go_sem,I,T,ew];refine⟨by decide,⟨z.tdiv 10,j',_,rfl,rfl,rM,ho.snoc J,?_,fun h=>ab (Y h),fun h=>ae (ad h),by omega,by omega,?_⟩,?_⟩
  ·rw[ed];exact af
  ·rw[ed];exact ac
  ·rw[Qv,Qv,ed];omega
 ·have hz:z=0:=by simpa using F
  subst hz;simp only[go_sem,X,T];rw[show(0:Int).natAbs=0 from rfl,Nat.mul_zero,Nat.add_zero]at hv;have ht:=W8 (decide (n<0)) o ho (by omega);rw[hv,Fc]at ht;refine PC.useF [j] (.cons _ _ _ _ (.refl _) (.cons _ _ _ _ (.row _ _ _ (by simp only[Xaw,if_true];exact O) (ConvE.refl _)) .nil)) ht ?_;simp only[go_sem];exact .refl _
def L7(s:ByteArray)(h:s.size<=1048576):PC prog 206 [str s] (int (fT s).size):=by
 have F:=dF s;refine pcd func206 rfl rfl ?_;simp only[go_sem];refine⟨fun h=>⟨by omega,by have:=of_decide_eq_true h;omega⟩,?_⟩;rw[yX];have J:(fT s).size=s.size-stN s:=by rw[<-dF,wX,Xbr,F]
 have I:=Pw s;refine aA (fun E=>?_) (fun E=>?_)
 ·have:stN s=1:=if_pos E;simp only[go_sem];refine cI ?_;rw[aU (by omega)];omega
 ·have:stN s=0:=if_neg (by rw[E];simp);simp only[go_sem];exact cI (by omega)
def axO{l:List UInt8}{k:Nat}{c:UInt8}(E:∀x∈l.take k,(x != fG)=true)(I:l[k]?=some c)(h:c=fG):l.any (· == fG)=true/\l.takeWhile (· != fG)=l.take k/\(l.dropWhile (· != fG)).drop 1=l.drop (k+1):=by
 obtain⟨J,e⟩:=List.getElem?_eq_some_iff.1 I;have F:l=l.take k++fG::l.drop (k+1):=by
  conv=>lhs;rw[<-Xci k l]
  rw[Xck J,e,h]
 refine⟨Xas.2 ⟨c,Xac I,by simp[h]⟩,?_,?_⟩
 ·conv=>lhs;rw[F]
  exact M6 E
 ·conv=>lhs;rw[F]
  rw[LE E];rfl
def PS(s:ByteArray)(h:s.size<=1048576):PC prog 153 [str s] (.tup [str (gX s),str (gQ s),boo (lV s)]):=by
 have Y:=dF s;refine pcd func153 rfl rfl ?_;simp only[go_sem];refine⟨fun ρ _=>∃k:Nat,k<=(bl s).length/\ρ 0=str s/\ρ 5=int k/\∀c∈(bl s).take k,(c != fG)=true,fun ρ _=>(bl s).length-aR (ρ 5),⟨0,Xaa _,rfl,rfl,by simp⟩,?_⟩;rintro ρ H ⟨k,hk,h0,O,T⟩;simp only[go_sem,h0,O];refine aA (fun I=>?_) (fun F=>?_)
 ·have I:k<(bl s).length:=by have:=ltB I;omega
  obtain⟨c,X⟩:=aK I;simp only[go_sem,h0,O,tG X];refine⟨⟨by omega,by omega⟩,?_⟩;rw[show(((c.toNat:Nat):Int) == 47)=(c == fG)from UT c fG];refine aA (fun J=>?_) (fun J=>?_)
  ·have J:c=fG:=by simpa using J
   obtain⟨t1,t2,t3⟩:=axO T X J;have Z:s.extract 0 k=gX s:=lB (by rw[gD,Xbx,<-t2];exact(lU _).symm);have E:lV s=true:=t1;have e2:s.extract (k+1) s.size=gQ s:=lB (by rw[gD,<-Y,Xad,<-t3];unfold gQ;rw[if_pos E];exact(lU _).symm);simp only[go_sem];refine jK (by rfl) (by kernel_rfl) ?_;simp only[go_sem,h0,O,aQ k,Xao,Z,e2];rw[E];exact⟨⟨by omega,by omega⟩,⟨by omega,by omega⟩,.refl _⟩
  ·have J:c≠fG:=by simpa using J
   simp only[go_sem,h0,O,aQ k];exact⟨⟨k+1,I,rfl,gS X (by simpa using J) T⟩,by simp only[aL];omega⟩
 ·have F:k=(bl s).length:=by rw[<-Y]at F;exact geB hk F
  subst F;rw[Xad]at T;have E:lV s=false:=rZ T;simp only[go_sem,h0];rw[E,Mo E,Qu E,<-EX];exact .refl _
def Dd(n:Int)(h0: -9223372036854775808<=n)(h1:n<=9223372036854775807):PC prog 14 [int n] (str (zed n)):=by refine pcd func14 rfl rfl ?_;simp only[go_sem];refine aH (awU n h0 h1) ?_;simp only[go_sem];exact .refl _
def rH(s:ByteArray)(h:s.size<=1048576):PC prog 147 [str s] (boo (bV s)):=by
 have hn:=FQ s;have hd:=Lu s;have h1:(1:Nat)<=1048576:=by omega
 refine pcd func147 rfl rfl ?_;simp only[go_sem];refine aH (PS s h) ?_;simp only[go_sem];refine aH (yS (gX s) (by omega)) ?_;simp only[go_sem];refine⟨_,fun _=>(BW (gQ s) (by omega)).q rfl,?_⟩;simp only[go_sem];refine⟨_,fun _=>(L7 (gX s) (by omega)).q rfl,?_⟩;simp only[go_sem];refine⟨_,fun _=>(L7 (gQ s) (by omega)).q rfl,?_⟩;simp only[go_sem];refine aA (fun I=>?_) (fun I=>?_)
 ·simp only[go_sem];refine cB ?_;by_cases E:eA (gQ s)=true
  ·refine(JS ?_).symm;rw[E]at I;simpa using I
  ·unfold bV;rw[show eA (gQ s)=false by simpa using E];simp
 have E:eA (gQ s)=true:=by simp only[Xag,Xbw]at I;exact I.1.1.2
 have J:(!fC (gX s)||decide (((fT (gX s)).size:Int)>4096)||decide (((fT (gQ s)).size:Int)>4096))=false:=by rw[E]at I;simpa using I
 obtain⟨f1,Y,f3,X⟩:=BM J E;simp only[go_sem];refine aA (fun O=>?_) (fun O=>?_)
 ·simp only[go_sem];refine cB ?_;have h0:lV s=false:=by simpa using O
  unfold bV;rw[f1,h0];rfl
 have h0:lV s=true:=by simpa using O
 simp only[go_sem,oD,Fm];refine aA (fun F=>?_) (fun F=>?_)
 ·simp only[go_sem];refine cB ?_;unfold bV;rw[h0];simp only[Xcm]at F;rcases F with(F|F)|F <;> simp[F]
 simp only[Xag]at F;obtain⟨⟨h5,T⟩,h4⟩:=F;have v0:gL (gQ s)≠0:=fun e=>nX.1 T (by rw[<-kB E,e])
 have v1:gL (gQ s)<cY:=(DG E).1 X;have hE:kJ (gX s) (gX s)=0:=by unfold kJ;rw[Y];simp;omega
 have ha:=ahE (gX s) (by omega);rw[if_pos hE]at ha;have Z:(gN (gX s)).natAbs<cY:=by have:=rW (gN (gX s));rw[vX Y]at this;exact this.1 f3
 have aa:=kB E;have hg:=adD (dec (gN (gX s)).natAbs) (gQ s) (dX Z) (by omega);have e:Bd (dec (gN (gX s)).natAbs) (gQ s)=(dec (Nat.gcd (gN (gX s)).natAbs (gL (gQ s))),0):=by unfold Bd;rw[if_pos (HW (mI _) E ((jZ _).2 Z) X),cX,Ah (Nat.lt_of_le_of_lt (Nat.gcd_le_right _ (by omega)) v1)]
 rw[e]at hg;simp only[go_sem];refine aH ha ?_;simp only[go_sem];refine aH hg ?_;simp only[go_sem,Fm];refine cB ?_;unfold bV;rw[f1,h0,T,h4,h5];simp only[beq_self_eq_true,Xaz,Xct,Xcy,Xca];rw[Xar,lP,sC,Xav]
def Ru(s:ByteArray)(h:s.size<=1048576):PC prog 89 [str s] (.tup (if bV s=true then[str (gX s),str (gQ s),int 0]else[str emp,str emp,int 3])):=by
 by_cases E:bV s=true
 ·rw[if_pos E];refine pcd func89 rfl rfl ?_;simp only[go_sem];refine aH (rH s h) ?_;simp only[go_sem,E];refine aA (fun F=>by cases F) (fun _=>?_);simp only[go_sem];refine aH (PS s h) ?_;simp only[go_sem];exact .refl _
 ·rw[if_neg E];have E:bV s=false:=by simpa using E
  refine pcd func89 rfl rfl ?_;simp only[go_sem];refine aH (rH s h) ?_;simp only[go_sem,E];refine aA (fun _=>?_) (fun F=>by cases F);simp only[go_sem];exact .refl _
def Av{α:Type}{l:List α}{k:Nat}{x:α}(h:l[k]?=some x):l.drop k=x::l.drop (k+1):=by obtain⟨E,e⟩:=List.getElem?_eq_some_iff.1 h;rw[Xck E,e]
def agZ(ns:List Int)(xs:List ByteArray)(hn:∀n∈ns,-9223372036854775808<=n/\n<=9223372036854775807)(hl:xs.length<=1048576)(hs:∀s∈xs,s.size<=1048576):
  PC prog 73 [.sl (ns.map bC),.sl (xs.map Go.Aw.D.fJ)] (.tup [str (lE ns xs).1,int (lE ns xs).2]):=by
 refine pcd func73 rfl rfl ?_;simp only[go_sem];refine aA (fun Z=>?_) (fun ab=>?_)
 ·have Z:ns.length≠xs.length:=neN Z;simp only[go_sem];rw[show lE ns xs=(emp,2)from if_pos Z];exact .refl _
 have ab:ns.length=xs.length:=eqN ab;have e0:lE ns xs=if xs.any (fun x=> !bV x)=true then(emp,3)else sZ (ns.zip xs) (dec 0):=if_neg (by simp[ab])
 rw[e0];simp only[go_sem,Xab];refine⟨fun ρ H=>∃(k:Nat),k<=xs.length/\ρ 0=.sl (ns.map bC)/\ρ 1=.sl (xs.map Go.Aw.D.fJ)/\ρ 18=.sl (xs.map Go.Aw.D.fJ)/\ρ 19=int xs.length/\ρ 20=int k/\∀s∈xs.take k,bV s=true,fun ρ _=>xs.length-aR (ρ 20),
  ⟨0,Xaa _,rfl,rfl,rfl,by simp only[go_sem],by simp only[go_sem];rfl,by simp⟩,?_⟩
 rintro ρ H ⟨k,hk,h0,h1,ac,Y,T,hz⟩;simp only[go_sem,Y,T];refine aA (fun E=>?_) (fun J=>?_)
 ·have E:=ltB E;obtain⟨s,I⟩:=aK E;have b1:=inB E;simp only[go_sem,ac,T,aC I,b1];refine aH (B1 s (hs s (Xac I))) ?_;simp only[go_sem,];refine aA (fun O=>?_) (fun O=>?_)
  ·simp only[go_sem];rw[if_pos (CQ I O)];exact .refl _
  ·simp only[go_sem,h0,h1,ac,Y,T,aQ k];exact⟨⟨k+1,E,rfl,gS I (by simpa using O) hz⟩,by simp only[aL];omega⟩
 have J:=geB hk J;subst J;rw[Xad]at hz;have hR:xs.any (fun s=> !bV s)=false:=wK fun s hs=>by rw[hz s hs];rfl
 rw[hR];simp only[go_sem,h1,Xab];refine⟨fun ρ H=>∃(k:Nat) (t:ByteArray),k<=xs.length/\ρ 0=.sl (ns.map bC)/\ρ 28=.sl (xs.map Go.Aw.D.fJ)/\ρ 29=int xs.length/\ρ 8=str t/\ρ 30=int k/\t.size<=1048576/\sZ (ns.zip xs) (dec 0)=sZ ((ns.zip xs).drop k) t,fun ρ _=>xs.length-aR (ρ 30),
  ⟨0,dec 0,Xaa _,h0,rfl,by simp only[go_sem],by simp only[go_sem];rw[tS],by simp only[go_sem];rfl,by rw[<-tS];decide,rfl⟩,?_⟩
 clear h0 h1 ac Y T;rintro ρ H ⟨k,t,hk,h0,af,ad,h8,X,ht,ae⟩;rw[ae];have al:(ns.zip xs).length=xs.length:=by rw[List.length_zip];omega
 simp only[go_sem,ad,X];refine aA (fun E=>?_) (fun J=>?_)
 ·have E:=ltB E;obtain⟨s,I⟩:=aK E;obtain⟨n,aa⟩:=aK (l:=ns) (k:=k) (by omega);have b1:=inB E;have b2:=inB (show k<ns.length by omega);have ai:=hs s (Xac I);have ag:=hn n (Xac aa);have aj:(ns.zip xs)[k]?=some (n,s):=by rw[List.getElem?_zip_eq_some];exact⟨aa,I⟩
  have ah:n.natAbs<cY:=O4 (k:=20) (by omega) (by decide);have ak:=Go.Nu.dR ah;rw[Av aj,sZ];simp only[go_sem,h0,af,X,aC I,aC aa,b1,b2];refine aH (Et n ag.1 ag.2) ?_;simp only[go_sem,];refine aH (atV (zed n) s (by omega) ai) ?_;simp only[go_sem,];refine aA (fun O=>?_) (fun O=>?_)
  ·have O:(wN (zed n) s).2≠0:=by simpa using O
   simp only[go_sem];rw[if_pos O];exact .refl _
  have O:(wN (zed n) s).2=0:=by simpa using O
  have hm:=nS (JW O);rw[if_neg (by simp[O])];generalize (wN (zed n) s).1=m at *;simp only[go_sem,h8];refine aH (BO t m ht (by omega)) ?_;simp only[go_sem,];refine aA (fun F=>?_) (fun F=>?_)
  ·have F:(wO t m).2≠0:=by simpa using F
   simp only[go_sem];rw[if_pos F];exact .refl _
  have F:(wO t m).2=0:=by simpa using F
  have ha:=nS (DL F);rw[if_neg (by simp[F])];simp only[go_sem,h0,af,ad,X,aQ k];exact⟨⟨k+1,_,E,rfl,rfl,by omega,rfl⟩,by simp only[aL];omega⟩
 ·have J:=geB hk J;subst J;rw[Xcc (by omega)];simp only[go_sem,h8];exact .refl _
end Go.Proofs.YtpagaknmdfgfkaaGreatDoor.Nu
end
