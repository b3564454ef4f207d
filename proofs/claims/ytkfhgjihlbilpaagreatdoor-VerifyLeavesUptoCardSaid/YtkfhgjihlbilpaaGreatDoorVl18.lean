import Derived.Test.YtkfhgjihlbilpaaGreatDoorVl13
import Derived.Test.YtkfhgjihlbilpaaGreatDoorVl17
set_option linter.unusedSimpArgs false
set_option linter.unusedVariables false
set_option linter.defProp false
set_option maxRecDepth 100000
namespace Go.Proofs.YtkfhgjihlbilpaaGreatDoor
namespace Nu
open Go.Proofs.Tryz
open Go.Aw Go.Aw.D Go.Proofs Ty Go.Nu
def agF(k:Int)(s:ByteArray):Bool:= !bZ s||k == 1&&decide (yY s>0)||k == 3&&decide (yY s<0)
def Jz(p:PLin)(v:List ByteArray):Bool:=if v.length≠p.rows.length then false else !((p.rows.zip v).any fun q=>agF q.1.kind q.2)
def Mp(p:PLin)(v:List ByteArray)(hp:LinB p)(hv:VarB v):PC prog 52 [.agg (fJ p),.sl (v.map Go.Aw.D.dK)] (boo (Jz p v)):=by
 have ab:=hv.len;have aa:=hp.rows;unfold Jz;refine pcd func52 rfl rfl ?_;simp only[go_sem];apply aA <;> intro h1
 ·rw[if_pos (by grind)];simp only[go_sem];exact .refl _
 have hl:v.length=p.rows.length:=by grind
 rw[if_neg (by omega)];simp only[go_sem];refine⟨fun ρ H=>∃(k:Nat),k<=v.length/\ρ 1=.sl (v.map Go.Aw.D.dK)/\ρ 2=.rp (fJ p) 0/\ρ 5=int k/\(∀q∈(p.rows.zip v).take k,agF q.1.kind q.2=false),fun ρ _=>v.length-aT (ρ 5),⟨0,Xaa _,by rfl,by rfl,(by rfl),by simp⟩,?_⟩;rintro ρ H ⟨k,hk,T,Y,E,Z⟩;simp only[go_sem,T,E];refine aA (fun A=>?_) (fun J=>?_)
 ·have A:=ltB (by omega);obtain⟨s,X⟩:=aK A;obtain⟨r,hr⟩:=aK (show k<p.rows.length by omega);have U:=inB A;have b2:=inB (show k<p.rows.length by omega);have I:=hv.size s (Xab X);have F:(p.rows.zip v)[k]?=some (r,s):=by grind
  simp only[go_sem,T,E,aC X,U];refine aL (Zi s I) ?_;simp only[go_sem,T,E,aC X,U];refine aL (uO s I) ?_;simp only[go_sem,Y,E,U,aC hr,b2];have O:agF r.kind s=(!bZ s||r.kind == 1&&decide (yY s>0)||r.kind == 3&&decide (yY s<0)):=rfl;apply aA <;> intro hb
  ·rw[show((p.rows.zip v).any fun q=>agF q.1.kind q.2)=true from Xaj.2 ⟨(r,s),Xab F,O.trans hb⟩];simp only[go_sem];exact .refl _
  ·simp only[go_sem,T,Y,E,aQ k];exact⟨⟨k+1,A,rfl,dW (p:=fun q:PRow×ByteArray=>agF q.1.kind q.2=false) F (O.trans hb) Z⟩,by grind[aJ]⟩
 have J:=geB hk (by omega);subst J;rw[Xai (by grind)]at Z;rw[show((p.rows.zip v).any fun q=>agF q.1.kind q.2)=false from Xba.2 fun q hq=>by grind];simp only[go_sem,];exact .refl _
def EG(p:PLin)(i:Nat):List Int:=p.rows.map fun r=>r.θ.getD i 0
def LH(p:PLin)(i:Nat)(h1:p.rows.length<=1048576)(h2:i<=1048576)(h3:∀r∈p.rows,r.θ.length<=1048576):PC prog 117 [.agg (fJ p),int (i:Nat)] (.sl ((EG p i).map aP)):=by
 refine pcb (fun t=>t == 5) func117 rfl rfl ?_;simp only[go_sem];refine eJ fun j U T (R:U j=some (gV [])) N=>?_
 clear N T;simp only[go_sem];refine⟨fun ρ H=>∃(k:Nat) (j:Nat),k<=p.rows.length/\ρ 1=int (i:Nat)/\ρ 2=.rp (fJ p) 0/\ρ 6=int k/\ρ 5=.os j/\H j=some (gV ((p.rows.take k).map fun r=>r.θ.getD i 0)),fun ρ _=>p.rows.length-aT (ρ 6),⟨0,j,Xaa _,by rfl,by rfl,(by rfl),by rfl,R⟩,?_⟩;rintro ρ H ⟨k,j,hk,J,E,I,O,R⟩;simp only[go_sem,E,I];refine aA (fun A=>?_) (fun F=>?_)
 ·have A:=ltB (by omega);obtain⟨r,Y⟩:=aK A;have b1:=inB A;have aa:=h3 r (Xab Y);have hs:(p.rows.take (k+1)).map (fun r=>r.θ.getD i 0)=(p.rows.take k).map (fun r=>r.θ.getD i 0)++[r.θ.getD i 0]:=by simp_all[aY]
  have ab:((p.rows.take k).map fun r=>r.θ.getD i 0).length<=k:=by grind
  generalize hP:(p.rows.take k).map (fun r=>r.θ.getD i 0)=P at *;simp only[go_sem,J,E,I,aC Y,b1,Xac];apply aA <;> intro hb
  ·have Z:i<r.θ.length:=by grind
   obtain⟨n,hn⟩:=aK Z;have b2:=inB Z;simp only[go_sem,J,E,I,O,aC Y,b1,aC hn,b2];refine aU R ⟨rfl,rfl⟩ ⟨rfl,trivial⟩ (by grind) (fun j' X=>?_);simp only[go_sem,J,E,I,aQ k];refine⟨⟨k+1,j',A,rfl,rfl,?_⟩,by grind[aJ]⟩;rw[hs,List.getD,hn];exact eK rfl
  ·have Z:¬i<r.θ.length:=by grind
   simp only[go_sem,O];refine aU R ⟨rfl,rfl⟩ ⟨rfl,trivial⟩ (by grind) (fun j' X=>?_);simp only[go_sem,J,E,I,aQ k];refine⟨⟨k+1,j',A,rfl,rfl,?_⟩,by grind[aJ]⟩;rw[hs,List.getD,List.getElem?_eq_none (by omega)];exact eK rfl
 have F:=geB hk (by omega);subst F;rw[Xad]at R;simp only[go_sem,O];exact .row _ _ _ R (ConvE.refl _)
def LZ(p:PLin)(h1:p.rows.length<=1048576):PC prog 55 [.agg (fJ p)] (.sl ((p.rows.map (·.right)).map aP)):=by
 refine pcb (fun t=>t == 3) func55 rfl rfl ?_;simp only[go_sem];refine eJ fun j J F (R:J j=some (gV [])) N=>?_
 clear N F;simp only[go_sem];refine⟨fun ρ H=>∃(k:Nat) (j:Nat),k<=p.rows.length/\ρ 1=.rp (fJ p) 0/\ρ 4=int k/\ρ 3=.os j/\H j=some (gV ((p.rows.take k).map (·.right))),fun ρ _=>p.rows.length-aT (ρ 4),⟨0,j,Xaa _,by rfl,(by rfl),by rfl,R⟩,?_⟩;rintro ρ H ⟨k,j,hk,I,O,T,R⟩;simp only[go_sem,I,O];refine aA (fun A=>?_) (fun E=>?_)
 ·have A:=ltB (by omega);obtain⟨r,Z⟩:=aK A;have X:=inB A;have U:(p.rows.take (k+1)).map (·.right)=(p.rows.take k).map (·.right)++[r.right]:=by simp_all[aY]
  have aa:((p.rows.take k).map (·.right)).length<=k:=by grind
  generalize hP:(p.rows.take k).map (·.right)=P at *;simp only[go_sem,I,O,T,aC Z,X];refine aU R ⟨rfl,rfl⟩ ⟨rfl,trivial⟩ (by grind) (fun j' Y=>?_);simp only[go_sem,I,O,aQ k];refine⟨⟨k+1,j',A,rfl,rfl,?_⟩,by grind[aJ]⟩;rw[U];exact eK rfl
 have E:=geB hk (by omega);subst E;rw[Xad]at R;simp only[go_sem,T];exact .row _ _ _ R (ConvE.refl _)
def Lf(p:PLin)(v:List ByteArray)(i:Nat):Bool:=(eV (EG p i) v).2 != 0||decide (zX (eV (EG p i) v).1 (zed (p.cost.getD i 0))>0)
def XT(p:PLin)(v:List ByteArray):Bool:= !((List.range p.cost.length).any (Lf p v))
def ahY(p:PLin)(v:List ByteArray)(Z:LinB p)(aa:∀r∈p.rows,r.θ.length<=1048576)(hc:∀n∈p.cost,rK n)(hv:VarB v):PC prog 53 [.agg (fJ p),.sl (v.map Go.Aw.D.dK),boo true] (boo (XT p v)):=by
 have ab:=Z.cost;unfold XT;refine pcd func53 rfl rfl ?_;simp only[go_sem];refine⟨fun ρ H=>∃(k:Nat),k<=p.cost.length/\ρ 1=.sl (v.map Go.Aw.D.dK)/\ρ 2=boo true/\ρ 3=.rp (fJ p) 0/\ρ 7=int k/\(∀q∈(List.range p.cost.length).take k,Lf p v q=false),fun ρ _=>p.cost.length-aT (ρ 7),⟨0,Xaa _,by rfl,by rfl,by rfl,(by rfl),by simp⟩,?_⟩;rintro ρ H ⟨k,hk,e1,e2,U,O,hz⟩;simp only[go_sem,U,O];refine aA (fun A=>?_) (fun I=>?_)
 ·have A:=ltB (by omega);obtain⟨n,hn⟩:=aK A;have b1:=inB A;have E:=hc n (Xab hn);have J:(List.range p.cost.length)[k]?=some k:=List.getElem?_range A;have X:=EX (ns:=EG p k) (xs:=v);have ac:=Bq E.1 E.2;have Y:Lf p v k=((eV (EG p k) v).2 != 0||decide (zX (eV (EG p k) v).1 (zed n)>0)):=by grind[Lf]
  have F:=Fq (EG p k) v (fun m hm=>by
   unfold EG at hm;obtain⟨r,hr,rfl⟩:=Xao.1 hm;by_cases ae:k<r.θ.length
   ·have:=Z.θ r hr (r.θ.getD k 0) (by grind);exact this
   grind) hv.len hv.size
  generalize eV (EG p k) v=T at *;obtain⟨t,e⟩:=T;simp only at Y X F;simp only[go_sem,];refine aL (B9 0 (by decide) (by decide)) ?_;simp only[go_sem,e2,];refine aA (fun _=>?_) (fun hb=>by cases hb);simp only[go_sem,U,O,aC hn,b1];refine aL (B9 n E.1 E.2) ?_;simp only[go_sem,U,O];refine aL (LH p k Z.rows (by omega) aa) ?_;simp only[go_sem,e1,];refine aL F ?_;simp only[go_sem,];refine⟨_,fun _=>(kR t (zed n) (by omega) (by omega)).q rfl,?_⟩;simp only[go_sem,];apply aA <;> intro hb
  ·rw[show(List.range p.cost.length).any (Lf p v)=true from Xaj.2 ⟨k,Xab J,by grind⟩];simp only[go_sem];exact .refl _
  ·simp only[go_sem,e1,e2,U,O,aQ k];exact⟨⟨k+1,A,rfl,dW (p:=fun q=>Lf p v q=false) J (by grind) hz⟩,by grind[aJ]⟩
 have I:=geB hk (by omega);subst I;rw[Xai (by simp)]at hz;rw[show(List.range p.cost.length).any (Lf p v)=false from Xba.2 fun q hq=>by grind];simp only[go_sem,];exact .refl _
def nJ(p:PLin)(v:List ByteArray):ByteArray×Bool:=if(!Jz p v|| !XT p v)=true then(emp,false)else((eV (p.rows.map (·.right)) v).1,(eV (p.rows.map (·.right)) v).2 == 0)
def XQ(p:PLin)(v:List ByteArray)(E:LinB p)(F:∀r∈p.rows,r.θ.length<=1048576)(J:∀n∈p.cost,rK n)(A:VarB v):PC prog 19 [.agg (fJ p),.sl (v.map Go.Aw.D.dK)] (.tup [str (nJ p v).1,boo (nJ p v).2]):=by
 unfold nJ;refine pcd func19 rfl rfl ?_;simp only[go_sem];refine aL (Mp p v E A) ?_;simp only[go_sem];refine⟨_,fun _=>(ahY p v E F J A).q rfl,?_⟩;simp only[go_sem];apply aA <;> intro O
 ·rw[if_pos O];simp only[go_sem];exact .refl _
 rw[if_neg (by grind)];simp only[go_sem];refine aL (LZ p E.rows) ?_;simp only[go_sem];refine aL (Fq (p.rows.map (·.right)) v (fun n T=>by obtain⟨r,I,rfl⟩:=Xao.1 T;exact E.right r I) A.len A.size) ?_;simp only[go_sem];exact .refl _
def anM(p:PLin)(v:List ByteArray)(U:LinB p)(X:∀r∈p.rows,r.θ.length<=1048576)(hv:VarB v):PC prog 53 [.agg (fJ p),.sl (v.map Go.Aw.D.dK),boo false] (boo (Cn p v fun _=>0)):=by
 have aa:=U.cost;unfold Cn;refine pcd func53 rfl rfl ?_;simp only[go_sem];refine⟨fun ρ H=>∃(k:Nat),k<=p.cost.length/\ρ 1=.sl (v.map Go.Aw.D.dK)/\ρ 2=boo false/\ρ 3=.rp (fJ p) 0/\ρ 7=int k/\(∀q∈(List.range p.cost.length).take k,C2 p v (fun _=>0) q=false),fun ρ _=>p.cost.length-aT (ρ 7),⟨0,Xaa _,by rfl,by rfl,by rfl,(by rfl),by simp⟩,?_⟩;rintro ρ H ⟨k,hk,e1,e2,Y,O,hz⟩;simp only[go_sem,Y,O];refine aA (fun A=>?_) (fun F=>?_)
 ·have A:=ltB (by omega);have I:(List.range p.cost.length)[k]?=some k:=List.getElem?_range A;have Z:=EX (ns:=EG p k) (xs:=v);have J:C2 p v (fun _=>0) k=((eV (EG p k) v).2 != 0||decide (zX (eV (EG p k) v).1 (zed 0)>0)):=rfl;have E:=Fq (EG p k) v (fun m hm=>by
   unfold EG at hm;obtain⟨r,hr,rfl⟩:=Xao.1 hm;by_cases ab:k<r.θ.length
   ·have:=U.θ r hr (r.θ.getD k 0) (by grind);exact this
   grind) hv.len hv.size
  generalize eV (EG p k) v=T at *;obtain⟨t,e⟩:=T;simp only at J Z E;simp only[go_sem,];refine aL (B9 0 (by decide) (by decide)) ?_;simp only[go_sem,e2,];refine aA (fun hb=>by cases hb) (fun _=>?_);simp only[go_sem,Y,O];refine aL (LH p k U.rows (by omega) X) ?_;simp only[go_sem,e1,];refine aL E ?_;simp only[go_sem,];refine⟨_,fun _=>(kR t (zed 0) (by omega) (by decide +kernel)).q rfl,?_⟩;simp only[go_sem,];apply aA <;> intro hb
  ·rw[show(List.range p.cost.length).any (C2 p v fun _=>0)=true from Xaj.2 ⟨k,Xab I,by grind⟩];simp only[go_sem];exact .refl _
  ·simp only[go_sem,e1,e2,Y,O,aQ k];exact⟨⟨k+1,A,rfl,dW (p:=fun q=>C2 p v (fun _=>0) q=false) I (by grind) hz⟩,by grind[aJ]⟩
 have F:=geB hk (by omega);subst F;rw[Xai (by simp)]at hz;rw[show(List.range p.cost.length).any (C2 p v fun _=>0)=false from Xba.2 fun q hq=>by grind];simp only[go_sem,];exact .refl _
def Iz(p:PLin)(v:List ByteArray):Jz p v=BB p v:=by rfl
def SB(p:PLin)(v:List ByteArray):(nJ p v).2=(pE p v).2/\((pE p v).2=true->(nJ p v).1=(pE p v).1):=by
 unfold nJ pE;rw[Iz];show((if(!BB p v|| !Cn p v fun i=>p.cost.getD i 0)=true then(emp,false)else((eV (nH p) v).1,(eV (nH p) v).2 == 0)).2=_/\(_->(if(!BB p v|| !Cn p v fun i=>p.cost.getD i 0)=true then(emp,false)else((eV (nH p) v).1,(eV (nH p) v).2 == 0)).1=_))
 grind
def TF(p:PLin)(v:List ByteArray)(E:LinB p)(I:∀r∈p.rows,r.θ.length<=1048576)(A:VarB v):PC prog 18 [.agg (fJ p),.sl (v.map Go.Aw.D.dK)] (boo (Cs p v)):=by
 have J:=Mp p v E A;rw[Iz]at J;have X:=uI (ns:=nH p) (xs:=v);have F:=Fq (nH p) v (fun m T=>by obtain⟨r,O,rfl⟩:=Xao.1 T;exact E.right r O) A.len A.size;unfold Cs;refine pcd func18 rfl rfl ?_;simp only[go_sem];refine aL J ?_;simp only[go_sem];refine⟨_,fun _=>(anM p v E I A).q rfl,?_⟩;simp only[go_sem];apply aA <;> intro U
 ·rw[if_pos U];simp only[go_sem];exact .refl _
 rw[if_neg (by grind)];simp only[go_sem];refine aL (LZ p E.rows) ?_;simp only[go_sem];refine aL F ?_;simp only[go_sem];refine⟨_,fun _=>(Zi _ (by omega)).q rfl,?_⟩;simp only[go_sem];exact .refl _
end Nu
namespace Nu
open Go.Aw Go.Aw.D Go.Proofs Ty Go.Nu
def Y7{m n:Int}:((zed m).toList == (zed n).toList)=decide (m=n):=by grind[mQ,azH,cV]
def anE{x:Rat}(F:vG x):AF (qU x)=(zed x.ceil,0)/\x.ceil.natAbs<cN:=by
 have U:bZ (qU x)=true:=rA F;obtain⟨y,e0,_,Z,e2⟩:=fH U;have O:x=y:=alB.1 e0;subst O;have hd:=x.den_pos;have aa:=F.2;have hn:=F.1;have hb:1000000<cN:=ET (k:=7) (by decide) (by decide);have e3:dec x.den=zed (x.den:Int):=(dH x.den).symm;have A:nE (zed x.num) (zed (x.den:Int))=(zed (x.num/(x.den:Int)),zed (x.num%(x.den:Int)),0):=by grind[AR]
 have I:(⟨#[48]⟩:ByteArray)=zed 0:=by decide +kernel
 have E:(⟨#[49]⟩:ByteArray)=zed 1:=by decide +kernel
 unfold AF eY;rw[if_pos U,Z,e2,e3];simp only[A];rw[I,E,Y7];unfold Rat.ceil;by_cases h1:x.den=1
 ·grind
 ·rw[if_neg h1];have X:¬x.num%(x.den:Int)=0:=fun h=>by
   have J:x.den∣x.num.natAbs:=by have:=Int.natAbs_dvd_natAbs.2 (Int.dvd_of_emod_eq_zero h);simp_all
   have:=Nat.Coprime.eq_one_of_dvd x.reduced.symm J;omega
  have Y:(x.num/(x.den:Int)+1).natAbs<cN:=by
   have h2:(2:Int)<=(x.den:Int):=by omega
   have h3:=Int.mul_ediv_add_emod x.num (x.den:Int);have h4:=Int.emod_nonneg x.num (show(x.den:Int)≠0 by omega);have h5:=Int.emod_lt_of_pos x.num (show(0:Int)<x.den by omega);generalize x.num/(x.den:Int)=q at *;generalize x.num%(x.den:Int)=r at *;have h6:0<=q->2*q<=(x.den:Int)*q:=fun h=>Int.mul_le_mul_of_nonneg_right h2 h
   have h7:q+1<=0->(x.den:Int)*q+x.den<=q+1:=fun h=>by
    have:=Int.mul_le_mul_of_nonpos_right (show(1:Int)<=x.den by omega) h
    grind
   omega
  have T:(x.num/(x.den:Int)).natAbs<cN:=by grind[Int.natAbs_ediv_le_natAbs]
  refine⟨?_,Y⟩;simp[X];unfold Fg;rw[if_pos (sC T (by omega)),cV,cV];simp_all[szZ]
def anV{s:ByteArray}(h:bZ s=true){n:Int}(h0:n.natAbs<cN)(h1:(n-1).natAbs<cN):OW s n=(zX s (zed (n-1)) == 1):=by
 obtain⟨x,rfl,E,_,_⟩:=fH h;obtain⟨F,A⟩:=anE E;unfold OW;rw[F,auE A h0];unfold zX;rw[rA E,Pe h1,Bool.and_self,if_pos rfl,gY,Zm];have I:n<=x.ceil↔((n-1:Int):Rat)<x:=by rw[<-Rat.lt_ceil_iff];omega
 unfold iH VC
 grind
end Nu
namespace Rx
open Go.Aw Go.Aw.D Go.Proofs Ty
open Sq
open Go.Nu
def Dis:List Visit->Prop
 | []=>True
 | v::l=>¬v∈l/\Dis l
def V7:∀(l U:List Visit),Dis l->(∀v∈l,v∈U)->l.length<=U.length
 | [],U,_,_=>Xaa _
 | v::l,U,hd,hs=>by
  obtain⟨a,b,rfl⟩:=List.append_of_mem (hs v (by simp));have:=V7 l (a++b) hd.2 fun u A=>by
   have:=hs u (by grind);rcases List.mem_append.1 this with h|h
   ·grind
   ·rcases List.mem_cons.1 h with rfl|h
    ·exact absurd A hd.1
    grind
  grind
def rM(f:Visit->Rat):List Visit->Rat
 | []=>0
 | v::l=>f v+rM f l
def OR(f:Visit->Rat)(v:Visit)(l:List Visit):rM f (v::l)=f v+rM f l:=rfl
theorem Se(f:Visit->Rat):∀a b:List Visit,rM f (a++b)=rM f a+rM f b
 | [],b=>(Rat.zero_add _).symm
 | v::a,b=>by rw[List.cons_append,OR,OR,Se f a b,Rat.add_assoc]
def aaN(f:Visit->Rat):∀(l U:List Visit),Dis l->(∀v∈l,v∈U)->l.length=U.length->rM f l=rM f U/\∀v∈U,v∈l
 | [],U,_,_,h=>by grind
 | v::l,U,hd,hs,h=>by
  obtain⟨a,b,rfl⟩:=List.append_of_mem (hs v (by simp));have A:∀u∈l,u∈a++b:=fun u E=>by
   have:=hs u (by grind);rcases List.mem_append.1 this with h|h
   ·grind
   ·rcases List.mem_cons.1 h with rfl|h
    ·exact absurd E hd.1
    grind
  obtain⟨h1,F⟩:=aaN f l (a++b) hd.2 A (by grind)
  grind[Se,rM]
def aBd{l:List Visit}(h:∀j v,l[j]?=some v->¬v∈l.take j):Dis l:=by
 suffices ∀(b a:List Visit),(∀j v,(a++b)[j]?=some v->¬v∈(a++b).take j)->Dis b from this l [] (by grind)
 intro b;induction b with
 | nil=>intro a _;trivial
 | cons v b ih=>
  intro a h;refine⟨fun A=>?_,ih (a++[v]) (by grind)⟩;obtain⟨c,d,rfl⟩:=List.append_of_mem A;have:=h (a.length+1+c.length) v (by
   rw[show a++v::(c++v::d)=(a++v::c)++v::d by simp,List.getElem?_append_right (by grind)]
   grind)
  refine this ?_;rw[show a++v::(c++v::d)=(a++v::c)++v::d by simp,List.take_append_of_le_length (by grind),Xai (by grind)];simp
theorem Lx{v u:Visit}:yS v u=true↔u=v:=by unfold yS;obtain⟨a,b⟩:=v;obtain⟨c,d⟩:=u;simp
theorem avY{l:List Visit}{v:Visit}(h:¬v∈l):cD l v= -1:=by
 unfold cD;refine mF (fun y A=>?_) 0;rw[Bool.eq_false_iff]
 grind[Lx]
theorem aoO{l:List Visit}{v:Visit}{j:Nat}(h:l[j]?=some v)(E:¬v∈l.take j):cD l v=j:=by
 unfold cD;rw[nS (k:=j) (fun y A=>?_) h (Lx.2 rfl) 0]
 ·omega
 ·rw[Bool.eq_false_iff]
  grind[Lx]
theorem Ln{v:Visit}:∀{l:List Visit},v∈l->∃j,l[j]?=some v/\¬v∈l.take j
 | u::l,h=>by
  by_cases e:v=u
  ·subst e;exact⟨0,rfl,by simp⟩
  ·have h : v ∈ l := by
    rcases List.mem_cons.1 h with h|h
    ·exact absurd h e
    ·exact h
   obtain⟨j,h1,E⟩:=Ln h;refine⟨j+1,h1,fun A=>?_⟩;rw[List.take_succ_cons]at A;rcases List.mem_cons.1 A with A|A
   ·exact e A
   ·exact E A
theorem ZJ{l:List Visit}{v:Visit}(h:cD l v>=0):v∈l:=by grind[avY]
structure SeqB(x:Instance)(l:List Visit):Prop where
 ne:l≠[]
 vis:∀v∈l,Vis x v
 twice:∀j v,l[j]?=some v->¬v∈l.take j
 pair:∀i,i<x.y5.length->IE (gA x i)=true->∀d,(⟨(i:Nat),d⟩:Visit)∈l->(⟨(i:Nat),false⟩:Visit)∈l/\(⟨(i:Nat),true⟩:Visit)∈l/\cD l ⟨(i:Nat),false⟩<cD l ⟨(i:Nat),true⟩
def II{O:Order}{i:Nat}(h:IE O=true):iE O (i:Nat)=[⟨(i:Nat),false⟩,⟨(i:Nat),true⟩]:=by simp_all[IE,iE]
def agE{x:Instance}{l:List Visit}(h:sZ x l=0):SeqB x l:=by
 unfold sZ at h;split at h
 ·cases h
 next Y=>
 split at h
 ·cases h
 next c2=>
 split at h
 ·cases h
 next Z=>
 split at h
 ·cases h
 next J=>
 clear h;simp only[Bool.or_eq_true,not_or,Xau,Xaj,not_exists,not_and,Bool.not_eq_true]at Y c2 Z;have J:l.all (yI x.y5 l)=true:=by grind
 rw[Xap]at J;have X:∀j v,l[j]?=some v->¬v∈l.take j:=fun j v hj T=>by
  have O:=(List.getElem?_eq_some_iff.1 hj).1;have:=Z j (Xan.2 O)
  grind[rZ,Ln,aoO]
 have F:∀v∈l,∃i:Nat,v.order=(i:Nat)/\i<x.y5.length:=fun v E=>by have:=Y.2 v E;simp only[cH,Xam,decide_eq_false_iff_not]at this;exact⟨v.order.toNat,by omega,by omega⟩
 refine⟨fun e=>Y.1 (by grind),fun v E=>?_,X,fun i I hb d E=>?_⟩
 ·obtain⟨i,e,I⟩:=F v E;have A:=J v E;unfold yI at A;rw[Xak]at A;have T:v∈gD x.y5 v.order:=by have:=A.1;unfold inV at this;exact ZJ (of_decide_eq_true this)
  rw[e,DG I]at T;obtain⟨d,e2,U⟩:=axK T;refine⟨i,d,e2,I,U,?_⟩
  grind[yK,jN]
 ·have A:=J _ E;unfold yI at A;rw[Xak]at A;have hq:=A.2;rw[DG I,II hb]at hq;simp only[sW,Xak,decide_eq_true_eq,Xbk]at hq
  grind[ZJ]
section
variable{x:Instance}{l:List Visit}{i j:Nat}{d:Bool}
end
end Rx
namespace Rx
open Go.Aw Go.Aw.D Go.Proofs Ty
open Sq
open Go.Nu
section
variable{x:Instance}{k:Nat}{near:List Int}{l:List Visit}{j c i:Nat}{d:Bool}
end
end Rx
namespace Rx
open Go.Aw Go.Aw.D Go.Proofs Ty
open Sq
open Go.Nu
section
variable{x:Instance}{k:Nat}{near:List Int}{du:Option (List ByteArray)}{dl:List ByteArray}{M:Nat}{p:Part}{q:RP}{l:List Visit}{r:Route}{i j:Nat}{d:Bool}
end
end Rx
namespace Rx
open Go.Aw Go.Aw.D Go.Proofs Ty
open Sq
open Go.Nu
section
variable{x:Instance}{k:Nat}{near:List Int}{du:Option (List ByteArray)}{dl:List ByteArray}{M:Nat}{p:Part}{q:RP}{l:List Visit}{r:Route}{i j:Nat}{d:Bool}
end
end Rx
namespace Rx
open Go.Aw Go.Aw.D Go.Proofs Ty
open Sq
open Go.Nu
section
variable{x:Instance}{k:Nat}{near:List Int}{du:Option (List ByteArray)}{dl:List ByteArray}{M:Nat}{p:Part}{q:RP}{l:List Visit}{r:Route}{i j:Nat}{d:Bool}
def ajW{set:Int}(A:i<=62)(h:Iv x set i=false):dI set (i:Int)=true/\Qu x i=false:=by grind[Iv,vE,auU,dI]
def anB{set:Int}{E:List Visit}{v:Visit}(I:x.y5.length<=60)(h:v∈qA x set E):∃i,i<x.y5.length/\dI set ((i:Nat):Int)=true/\v∈gD x.y5 (i:Nat):=by
 unfold qA Al at h;obtain⟨i,A,h⟩:=List.mem_flatMap.1 h;have A:=Xan.1 A;unfold CK at h;split at h
 ·cases h
 next F=>
 exact⟨i,A,(ajW (by omega) (by simpa using F)).1,(List.mem_filter.1 h).1⟩
def acZ(f:Int->List Visit):∀M:List Int,(M.flatMap f).length=(M.map fun i=>(f i).length).sum
 | []=>rfl
 | i::M=>by simp
def WF(h:xY x=[])(F:i<x.y5.length):(gA x i).pick.place>=0\/(gA x i).drop.place>=0:=by
 unfold xY at h;simp only[Xbf,List.map_eq_nil_iff]at h;obtain⟨⟨⟨_,_⟩,E⟩,_⟩:=h;unfold uA at E;rw[Xbf]at E;have h:=List.flatMap_eq_nil_iff.1 E.2 i (Xan.2 F);unfold iN at h;rw[List.map_eq_nil_iff,LO (List.getElem?_eq_getElem F)]at h;unfold mM at h;simp only[Xbi,Xbf]at h;have e:x.y5[i]=gA x i:=by grind[gA]
 rw[e]at h;obtain⟨⟨⟨⟨⟨_,I⟩,J⟩,_⟩,_⟩,_⟩:=h;have A:=iL I;have O:=iL J;simp only[Xam]at A;have a1:=nB.1 (yF A.1);have a2:=nB.1 (yF A.2)
 grind
end
end Rx
namespace Rx
open Go.Aw Go.Aw.D Go.Proofs Ty
open Sq
open Go.Nu
theorem Hj(u v:Visit):Ef u v=0↔QI u v=true:=by
 obtain⟨a,b⟩:=u;obtain⟨c,d⟩:=v;unfold Ef QI or2 iH M2
 grind
def WD(u v:Visit)(h:QI u v=false):HC u v=decide (Ef u v<0):=by
 have h0:¬Ef u v=0:=fun e=>by grind[Hj]
 obtain⟨a,b⟩:=u;obtain⟨c,d⟩:=v;unfold Ef or2 iH M2 at *;unfold HC
 grind
def OL:∀a b:List Visit,Aa a b=decide (TP a b<0)
 | [],[]=>rfl
 | [],_::_=>rfl
 | _::_,[]=>rfl
 | u::l,v::m=>by
  show(if(!QI u v)=true then HC u v else Aa l m)=decide (or2 (Ef u v) (TP l m)<0);cases h:QI u v with
  | true=>simp_all[OL,or2,Hj]
  | false=>
   have h0:¬Ef u v=0:=fun e=>by grind[Hj]
   simp_all[WD,or2]
def axZ(x:Instance){s i:Nat}(A:i<=62):Iv x (s:Int) i=(!uQ (s:Int) i||Qu x i):=by
 unfold Iv;rw[decide_eq_false (show ¬((i:Int)>62)by omega),Xbl,vE A,auU,HU (by omega) (by omega),Xal,Nat.testBit_eq_decide_div_mod_eq]
 grind
theorem W9{x:Instance}(F:Acc x){i:Int}(h0:0<=i)(h1:i<(x.y5.length:Int)):gD x.y5 i=pM x i:=by
 obtain⟨o,A⟩:=aK (show i.toNat<x.y5.length by omega);have E:=F.order o (Xab A);have I:cH i x.y5.length=false:=by grind[cH]
 unfold gD pM;rw[if_neg (by grind),A];exact IA E.pick E.drop
theorem aAz{x:Instance}(E:Acc x)(l:List Visit)(v:Visit):aiW x l v=uD x v.order l:=by
 unfold aiW uD;rw[List.not_any_eq_all_not];refine N0 fun q F=>?_
 have A:=E.beforeB q F;have e:(decide (q.a<0)||decide (q.a>=(x.y5.length:Int)))=false:=by
  have:=A.a
  grind
 unfold Hi;rw[e,Xbl,W9 E A.a.1 A.a.2]
 grind[jP,wA]
theorem RE{x:Instance}{i:Int}{v:Visit}(h:v∈pM x i):v.order=i:=by grind[pM,dL]
def F6(l:List Visit)(v:Visit):(!decide (cD l v>=0))=decide (cD l v<0):=by grind
def aAi(l:List Visit)(v:Visit):wA l v=decide (cD l v>=0):=by simp[F6,wA]
def aAw(l:List Visit):∀V:List Visit,V.length<=2->V.Nodup->V.filter (fun v=>(!decide (cD l v>=0))&&Eh V l v)=EA l V V.length
 | [],_,_=>rfl
 | [a],_,_=>by
  have A:Eh [a] l a=true:=by grind[Eh,List.takeWhile_cons,eqV]
  rw[List.filter_cons,A,Xbk,F6];show _=Dt l [a] 0++[]
  grind[Dt]
 | [a,b],_,hn=>by
  have F:a≠b:=by grind
  have T:∀u:Visit,eqV u u=true:=fun u=>by grind[eqV]
  have E:eqV a b=false:=by
   unfold eqV;obtain⟨o,d⟩:=a;obtain⟨J,O⟩:=b
   grind
  have A:Eh [a,b] l a=true:=by grind[Eh,List.takeWhile_cons]
  have I:Eh [a,b] l b=wA l a:=by unfold Eh;simp_all
  rw[List.filter_cons,List.filter_cons,A,I,Xbk,F6,F6,aAi];show _=Dt l [a,b] 0++(Dt l [a,b] 1++[])
  grind[Dt]
 | _::_::_::_,h,_=>by grind
def Vs(x:Instance)(i:Int):(pM x i).Nodup:=by grind[pM,dL]
def DK{x:Instance}(F:Acc x)(O:x.y5.length<=62)(s:Nat)(l:List Visit):zS x (s:Int) l=qA x (s:Int) l:=by
 unfold zS uP qA Al;rw[List.flatMap_def,List.flatMap_def]
 congr 1
 refine List.map_congr_left fun i A=>?_
 have A:=Xan.1 A;unfold AL CK LR;rw[axZ x (show i<=62 by omega)];cases h1:(!uQ (s:Int) (i:Nat)||Qu x i)with
 | true=>rfl
 | false=>
  rw[Xbl,if_neg (by simp:¬false=true),W9 F (by omega) (by omega)];have E:(pM x (i:Nat)).filter (tC x l)=(pM x (i:Nat)).filter fun v=>((!decide (cD l v>=0))&&Eh (pM x (i:Nat)) l v)&&uD x (i:Nat) l:=
   List.filter_congr fun v I=>by grind[RE,tC,aAz,W9]
  rw[E];cases J:uD x (i:Nat) l<;>simp_all[aAw,D0,Vs]
end Rx
namespace Rx
open Go.Aw Go.Aw.D Go.Proofs Ty
open Sq
open Go.Nu
structure Cx(x:Instance)(s:Nat):Prop where
 ck:xY x=[]
 n8:x.y5.length<=8
 pos:0<s
 top:s<2^x.y5.length
section
variable{x:Instance}{s:Nat}{l:List Visit}
def MB(x:Instance)(s:Nat):List Visit:=(Sq.dA (s:Int)).flatMap fun i=>gD x.y5 i
theorem J3:(MB x s).length=kF x (s:Int):=by unfold MB;rw[acZ];rfl
theorem nQ{a:Int}:a∈Sq.dA (s:Int)↔∃i:Nat,a=(i:Nat)/\i<63/\s.testBit i=true:=by grind[Sq.dA,Sq.rL,jW,Xal]
theorem GQ(h:Cx x s){i:Nat}(A:s.testBit i=true):i<x.y5.length:=by
 false_or_by_contra
 rename_i E;rw[Xca (Xax h.top (Xah (by decide) (by omega)))]at A;cases A
theorem FQ{i:Nat}(E:i<x.y5.length){v:Visit}(A:v∈gD x.y5 (i:Nat)):v.order=(i:Nat):=by grind[DG,iE]
theorem F8(h:Cx x s){v:Visit}:v∈MB x s↔∃i:Nat,i<x.y5.length/\s.testBit i=true/\v∈gD x.y5 (i:Nat):=by
 unfold MB;rw[List.mem_flatMap];constructor
 ·rintro⟨a,F,E⟩;obtain⟨i,rfl,_,A⟩:=nQ.1 F;exact⟨i,GQ h A,A,E⟩
 ·rintro⟨i,I,A,E⟩;have:=h.n8
  grind[nQ]
def Xs(h:Cx x s)(A:Sq.kX x (s:Int) l):∀v∈l,v∈MB x s:=fun v E=>by
 obtain⟨a,b,e⟩:=List.append_of_mem E;have:=h.n8;obtain⟨i,F,J,I⟩:=anB (by omega) (A a v b e)
 grind[jW,Xal,F8]
theorem UK(h:Cx x s)(A:Sq.kX x (s:Int) l):∀v∈l,∃i:Nat,v.order=(i:Nat)/\i<x.y5.length/\s.testBit i=true:=fun v E=>by
 obtain⟨i,F,J,I⟩:=(F8 h).1 (Xs h A v E)
 grind[FQ]
def asB{p:List Visit}{v:Visit}(h:v∈qA x (s:Int) p):¬v∈p:=by
 unfold qA Al at h;obtain⟨i,A,h⟩:=List.mem_flatMap.1 h;unfold CK at h;split at h
 ·cases h
 have h:=(List.mem_filter.1 h).2;unfold tC at h;simp only[Xak,Xbp,decide_eq_false_iff_not]at h
 grind[Ln,aoO]
def aqL(A:Sq.kX x (s:Int) l):Dis l:=aBd fun j v F E=>by
 have e:l=l.take j++v::l.drop (j+1):=by grind[uW,Xbt]
 exact asB (A _ _ _ e) E
def HV(h:Cx x s)(A:Sq.kX x (s:Int) l):l.length<=kF x (s:Int):=by rw[<-J3];exact V7 l _ (aqL A) (Xs h A)
def aeO(h:Cx x s)(A:Sq.kX x (s:Int) l)(F:l.length=kF x (s:Int)):qA x (s:Int) l=[]:=by
 cases e:qA x (s:Int) l with
 | nil=>rfl
 | cons v r=>
  have E:=HV h (A.snoc (v:=v) (by grind))
  grind
def aoB(h:Cx x s)(A:Sq.kX x (s:Int) l)(E:l.length=kF x (s:Int)):∀v∈MB x s,v∈l:=
 (aaN (fun _=>0) l _ (aqL A) (Xs h A) (by rw[J3,E])).2
theorem DH{i:Int}:kC l i=true↔∃v∈l,v.order=i:=by grind[kC]
def Lz(h:Cx x s)(E:Sq.kX x (s:Int) l):(cY l).1=(s:Int)↔∀i:Nat,i<x.y5.length->kC l (i:Nat)=s.testBit i:=by
 have X:=h.n8;have T:=UK h E;have e:(cY l).1=((xE l:Nat):Int):=by
  rw[<-Kg];unfold lN;rw[if_pos]
  grind[okV]
 have A:∀i:Nat,(xE l).testBit i=kC l (i:Nat):=fun i=>by
  rw[Fh];unfold kC
  grind
 rw[e];constructor
 ·intro F i I;rw[<-A i,show xE l=s by exact_mod_cast F]
 ·intro F;have:xE l=s:=Nat.eq_of_testBit_eq fun i=>by
   by_cases I:i<x.y5.length
   ·grind
   ·have h1:s.testBit i=false:=by grind[GQ]
    rw[h1,A];cases O:kC l (i:Nat)with
    | false=>rfl
    | true=>
     obtain⟨v,J,U⟩:=DH.1 O
     grind
  rw[this]
def TS(h:Cx x s)(A:Sq.kX x (s:Int) l)(J:l.length=kF x (s:Int)):(cY l).1=(s:Int):=by
 refine(Lz h A).2 fun i E=>?_
 cases O:s.testBit i with
 | true=>
  have T:=WF h.ck E;have F:∃v,v∈gD x.y5 (i:Nat):=by rw[DG E];unfold iE;simp_all;grind
  obtain⟨v,I⟩:=F;exact DH.2 ⟨v,aoB h A J v ((F8 h).2 ⟨i,E,O,I⟩),FQ E I⟩
 | false=>grind[DH,UK]
def Ze:∀{a b:List Visit},Dis a->Dis b->(∀v∈a,¬v∈b)->Dis (a++b)
 | [],b,_,hb,_=>hb
 | v::a,b,ha,hb,hd=>by
  refine⟨fun A=>?_,Ze ha.2 hb fun u E=>hd u (List.mem_cons_of_mem _ E)⟩;rcases List.mem_append.1 A with A|A
  ·exact ha.1 A
  ·exact hd v List.mem_cons_self A
def atQ{i:Nat}(A:i<x.y5.length):Dis (gD x.y5 (i:Nat)):=by grind[DG,iE,Dis]
def TD:∀M:List Nat,M.Nodup->(∀i∈M,i<x.y5.length)->Dis (M.flatMap fun i=>gD x.y5 (i:Nat))
 | [],_,_=>trivial
 | i::M,hn,hM=>by
  obtain⟨h1,F⟩:=List.nodup_cons.1 hn;rw[List.flatMap_cons];refine Ze (atQ (hM i (by simp))) (TD M F fun k I=>hM k (by grind)) fun v A E=>?_
  obtain⟨k,I,J⟩:=List.mem_flatMap.1 E;have O:=FQ (hM i (by simp)) A
  grind[FQ]
def akK(h:Cx x s):Dis (MB x s):=by
 have e:MB x s=((List.range 63).filter fun i=>dI (s:Int) (i:Nat)).flatMap fun i=>gD x.y5 (i:Nat):=by grind[MB,Sq.dA,Sq.rL,List.flatMap_map]
 rw[e];refine TD _ (List.nodup_range.filter _) fun i E=>?_
 obtain⟨h1,A⟩:=List.mem_filter.1 E;have h1:=Xan.1 h1;rw[jW (by omega) (by omega),Xal]at A;exact GQ h A
def axQ(h:Cx x s)(F:Sq.kX x (s:Int) l)(U:SeqB x l)(Y:(cY l).1=(s:Int)):l.length=kF x (s:Int):=by
 have h1:=HV h F;have hb:=(Lz h F).1 Y;have h2:(MB x s).length<=l.length:=V7 _ l (akK h) fun v hv=>by
  obtain⟨i,T,J,E⟩:=(F8 h).1 hv;obtain⟨u,X,Z⟩:=DH.1 ((hb i T).trans J);obtain⟨a,d,I,ha,O,_⟩:=U.vis u X;have e:a=i:=by grind
  subst e;rw[DG T]at E;by_cases A:IE (gA x a)=true
  ·obtain⟨m1,m2,_⟩:=U.pair a T A d (I▸X);rw[II A]at E
   grind
  ·have A:IE (gA x a)=false:=by grind
   have aa:v=u:=by rw[I];unfold IE at A;unfold iE at E;unfold stR at O;cases d<;>grind
   grind
 grind[J3]
end
end Rx
namespace Rx
open Go.Aw Go.Aw.D Go.Proofs Ty
open Sq
open Go.Nu
abbrev rtQ(k:Nat)(l:List Visit):Route:=⟨(k:Nat),0,[],l⟩
def aAL{x:Instance}(h:Acc x){k:Nat}{t:VType}(ht:x.types[k]?=some t){l:List Visit}(A:(mK x (rtQ k l)).2=0):
  cC x (rtQ k l)=true/\∃c m,c.length=l.length+1/\mR x t (rtQ k l) c 0 (iK t (rtQ k l))=.ok m:=by
 unfold mK at A;by_cases X:(!cC x (rtQ k l)||decide (((rtQ k l).o5.length:Int)>((rtQ k l).y7.length:Int)+1))=true
 ·grind
 rw[if_neg X]at A;have E:x.types[(rtQ k l).type.toNat]?=some t:=by grind
 rw[E]at A;have T:cC x (rtQ k l)=true:=by grind
 refine⟨T,?_⟩;obtain⟨Y,_⟩:=h.χ T E
 change (FS x t (rtQ k l)).2=0 at A
 have U:=axE x t (rtQ k l) (l.length+1) (Xae _);have e:FS x t (rtQ k l)=match dpP x t (rtQ k l) (gQ x l) (l.length+1)with
  | []=>(JD (Ec x t (gQ x l) (dE (rtQ k l)) 0 (iK t (rtQ k l))),Ji (Ec x t (gQ x l) (dE (rtQ k l)) 0 (iK t (rtQ k l))))
  | l0::ls=>((ls.foldl Sq.oF l0).x8,0):=rfl
 change dpP x t (rtQ k l) (gQ x l) (l.length+1)=_ at U
 rw[e,U]at A;cases F:dpL x t (rtQ k l) (l.length+1)with
 | nil=>
  exfalso;rw[F]at A
  change Ji (Ec x t (gQ x l) (dE (rtQ k l)) 0 (iK t (rtQ k l)))=0 at A
  have I:=oL (r:=rtQ k l) (by simp);have J:=ZP x t (rtQ k l) (dE (rtQ k l)) 0 (iK t (rtQ k l)) (by omega)
  change Ec x t (gQ x l) _ _ _=_ at J
  rw[J]at A;obtain⟨e,O⟩:=(VY Y).1 F (dE (rtQ k l)) I ((vZ (by simp)).2 (by simp));rw[O]at A;exact Gq _ _ _ _ O A
 | cons l0 ls=>
  obtain⟨bs,h1,_,Z⟩:=Cq (x:=x) (t:=t) (r:=rtQ k l) (l.length+1) l0 (by grind)
  grind
def RV{x:Instance}{t:VType}{r:Route}:∀(a b:List Bool) (k:Nat) (l m:Lab),mR x t r (a++b) k l=.ok m->∃A,mR x t r a k l=.ok A
 | [],b,k,l,m,_=>⟨l,rfl⟩
 | c::a,b,k,l,m,h=>by
  rw[List.cons_append]at h;unfold mR at h |-;cases e:iB x t r k l c with
  | error e'=>rw[e]at h;cases h
  | ok l'=>rw[e]at h;exact RV a b (k+1) l' m h
theorem arP{s u:Sta}(h:FK s u=true):u=s:=by unfold FK at h;obtain⟨a,b⟩:=s;simp_all
theorem Hk{l:List Sta}{s u:Sta}(h:u∈l):u∈yQ l s:=by grind[yQ]
theorem agJ(l:List Sta)(s:Sta):s∈yQ l s:=by grind[yQ,arP]
theorem Ys{t:VType}{l:List Sta}{d dr:Int}{u:Sta}(h:u∈l):u∈nX t l d dr:=Hk (Hk h)
def Lp(t:VType)(l:List Sta)(m:Lab)(b:Bool):(⟨kQ t m b,pI m b⟩:Sta)∈nX t l m.ready m.since:=by grind[nX,kQ,pI,Hk,agJ]
def akF{n:Network}{t:VType}{src:Int}{st:Stop}{out:List Sta}{a u:Sta}(h:u∈out):u∈Gc n t src st out a:=by grind[Gc,Ys]
def NM{n:Network}{t:VType}{src:Int}{st:Stop}{u:Sta}:∀(l out:List Sta),u∈out->u∈l.foldl (Gc n t src st) out
 | [],out,h=>h
 | a::l,out,h=>NM l _ (akF h)
def N7{n:Network}{t:VType}{src:Int}{st:Stop}{u a:Sta}(A:∀out,u∈Gc n t src st out a):∀(l out:List Sta),a∈l->u∈l.foldl (Gc n t src st) out
 | b::l,out,h=>by
  rcases List.mem_cons.1 h with rfl|h
  ·exact NM l _ (A out)
  ·exact N7 A l _ h
def amA(x:Instance)(t:VType)(a:Int×List Sta)(v:Visit):Int×List Sta:=((fF x v).1.place,zU x.τ t a.1 (fF x v).1 a.2)
def stF(x:Instance)(t:VType)(l:List Visit):Int×List Sta:=l.foldl (amA x t) (t.src,nX t [] t.start 0)
def Ls(x:Instance)(t:VType)(l:List Visit)(v:Visit):stF x t (l++[v])=amA x t (stF x t l) v:=by grind[stF]
theorem KV{x:Instance}{v:Visit}(h:(bM x v).2=true):fF x v=((bM x v).1,0):=by simp_all[fF]
def arN{x:Instance}{t:VType}{k:Nat}{l:List Visit}(h:∀v∈l,(bM x v).2=true):∀j,j<=l.length->(stF x t (l.take j)).1=jQ x t (rtQ k l) j
 | 0,_=>rfl
 | j+1,hj=>by
  obtain⟨v,A⟩:=aK (show j<l.length by omega);rw[aY A,Ls];show(fF x v).1.place=_;rw[KV (h v (Xab A))];show(bM x v).1.place=(match (rtQ k l).y7[j]? with|some v=>(bM x v).1.place|none=>0)
  grind
def aqW{x:Instance}{t:VType}{k:Nat}{l:List Visit}{c:List Bool}(h0:0<=t.start)(I:∀v∈l,(bM x v).2=true)(Y:c.length=l.length+1):
  ∀j,j<=l.length->∀m,mR x t (rtQ k l) (c.take j) 0 (iK t (rtQ k l))=.ok m->∀b,(⟨kQ t m b,pI m b⟩:Sta)∈(stF x t (l.take j)).2
 | 0,_,m,A,b=>by
  have A:iK t (rtQ k l)=m:=by
   have A:(Except.ok (iK t (rtQ k l)):Except Int Lab)=.ok m:=A
   grind
  subst A;have e:iK t (rtQ k l)=⟨t.start,0,bA⟩:=by simp_all[iK,fX,if_neg]
  have:=Lp t [] ⟨t.start,0,bA⟩ b;rw[e];exact this
 | j+1,hj,m,A,b=>by
  obtain⟨v,O⟩:=aK (show j<l.length by omega);obtain⟨q,Z⟩:=aK (show j<c.length by omega);rw[aY Z]at A;have F:(c.take j).length=j:=by grind
  rw[rG,F]at A;cases U:mR x t (rtQ k l) (c.take j) 0 (iK t (rtQ k l))with
  | error e=>grind
  | ok m'=>
   rw[U]at A;have A:iB x t (rtQ k l) (0+j) m' q=.ok m:=A;rw[Xby]at A;unfold iB at A;rw[show(rtQ k l).y7[j]?=some v from O]at A;obtain⟨X,g2,g3,rfl⟩:=Lt (k:=0) A;have ih:=aqW h0 I Y j (by omega) m' U q;have E:=KV (I v (Xab O));have J:=arN (t:=t) (k:=k) I j (by omega);rw[aY O,Ls];unfold amA zU;rw[E,J];refine N7 (fun out=>?_) _ _ ih;have T:gI x.τ t.o6 (jQ x t (rtQ k l) j) (bM x v).1.place (kQ t m' q)=goL x t (jQ x t (rtQ k l) j) (bM x v).1.place m' q:=rfl;unfold Gc;simp only[T];have c1:((goL x t (jQ x t (rtQ k l) j) (bM x v).1.place m' q).2.2 != 0||decide (W (W (pI m' q+(goL x t (jQ x t (rtQ k l) j) (bM x v).1.place m' q).1)-kQ t m' q)>t.υ))=false:=by
    rw[X];have:¬pU x t (jQ x t (rtQ k l) j) (bM x v).1.place m' q>t.υ:=by omega
    grind[pU]
   have c2:Rx.oE (bM x v).1 (goL x t (jQ x t (rtQ k l) j) (bM x v).1.place m' q).1=(W (fX (goL x t (jQ x t (rtQ k l) j) (bM x v).1.place m' q).1 (bM x v).1.start+(bM x v).1.ζ),0):=by simp_all[Rx.oE]
   rw[if_neg (by grind),c2,if_neg (by simp)];exact Lp t out ⟨W (fX (goL x t (jQ x t (rtQ k l) j) (bM x v).1.place m' q).1 (bM x v).1.start+(bM x v).1.ζ),pU x t (jQ x t (rtQ k l) j) (bM x v).1.place m' q,nZ x t (jQ x t (rtQ k l) j) (bM x v).1 j m' q⟩ b
def aaE{x:Instance}(h:Acc x){k:Nat}{t:VType}(I:x.types[k]?=some t){l:List Visit}(U:(mK x (rtQ k l)).2=0):(∀v∈l,(bM x v).2=true)/\∀j,j<=l.length->(stF x t (l.take j)).2≠[]:=by
 obtain⟨Y,c,m,J,F⟩:=aAL h I U;have E:∀v∈l,(bM x v).2=true:=by simp_all[cC]
 refine⟨E,fun j O X=>?_⟩;rw[<-Xbt j c]at F;obtain⟨T,A⟩:=RV _ _ _ _ _ F;have h0:=(h.type t (Xab I)).start.1;have:=aqW (k:=k) h0 E J j O T A false
 grind
end Rx
namespace Rx
open Go.Aw Go.Aw.D Go.Proofs Ty
open Sq
open Go.Nu
section
variable{x:Instance}{s:Nat}{l:List Visit}
structure SeqF(x:Instance)(l:List Visit):Prop where
 off:(l.any fun v=>yK x v.order)=false
 apart:(x.apart.any fun q=>kC l q.a&&kC l q.b)=false
 before:(x.before.any fun q=> !Mq l q.a q.b)=false
def awZ(h:sZ x l=0):SeqF x l:=by
 unfold sZ at h;split at h
 ·cases h
 split at h
 ·cases h
 next A=>
 split at h
 ·cases h
 split at h
 ·cases h
 split at h
 ·cases h
 next E=>
 split at h
 ·cases h
 next F=>
 exact⟨by grind,by grind,by grind⟩
def Js(l:List Visit)(i:Nat):Nat:=l.findIdx fun v=>v.order == (i:Int)
def abO{i:Nat}(h:kC l (i:Nat)=true):Js l i<l.length/\Sq.gA l (Js l i)=(i:Int):=by
 obtain⟨v,E,I⟩:=DH.1 h;have A:Js l i<l.length:=List.findIdx_lt_length_of_exists ⟨v,E,by grind⟩;refine⟨A,?_⟩;have F:(l[Js l i]'(A)).order=(i:Int):=by have:=List.findIdx_getElem (xs:=l) (p:=fun v:Visit=>v.order == (i:Int)) (w:=A);exact Xau.1 this
 grind[Sq.gA]
theorem atL(x:Instance)(i:Int):RU x i=yK x i:=by rfl
def YC(U:Acc x)(J:SeqF x l){q:Pair}(E:q∈x.before){a b:Nat}(T:q.a=(a:Nat))(Y:q.b=(b:Nat))(I:kC l (b:Nat)=true):kC l (a:Nat)=true/\Js l a<Js l b:=by
 have A:=(U.beforeB q E).ne;have h1:Mq l q.a q.b=true:=by
  have:=Xba.1 J.before q E
  grind
 rw[Lh A,T,Y,I]at h1;simp only[Xcc,Xbl,Xak,Xbp]at h1;refine⟨h1.1,?_⟩;obtain⟨Z,O⟩:=abO h1.1;obtain⟨q1,X⟩:=abO I
 false_or_by_contra
 rename_i hc;have F:Js l a≠Js l b:=fun e=>by grind
 have:If l (a:Nat) (b:Nat)=true:=Ow.2 ⟨Js l a,Js l b,by omega,Z,O,X⟩
 grind
def ChI(s:Nat)(l:List Visit)(M:List Nat):Prop:=∀(i u:Nat),M[i]?=some u->∀j,u.testBit j=true->s.testBit i=true->s.testBit j=true/\Js l j<Js l i
def anP(h:Cx x s)(hx:Acc x)(hf:SeqF x l)(hb:∀i:Nat,i<x.y5.length->kC l (i:Nat)=s.testBit i){M:List Nat}(O:ChI s l M){q:Pair}(hq:q∈x.before):ChI s l (CE M q):=by
 unfold CE;split
 ·exact O
 next hc=>
 have T:=hx.beforeB q hq;obtain⟨a,ha⟩:=Int.eq_ofNat_of_zero_le T.a.1;obtain⟨b,F⟩:=Int.eq_ofNat_of_zero_le T.b.1;have Y:a<x.y5.length:=by have:=T.a.2;omega
 have U:b<x.y5.length:=by have:=T.b.2;omega
 simp only[Bool.or_eq_true,decide_eq_true_eq,not_or]at hc;rw[ha,F]at hc |-;rw[Xal,Xal];obtain⟨ua,I⟩:=aK (l:=M) (k:=a) (by omega);obtain⟨ub,J⟩:=aK (l:=M) (k:=b) (by omega);rw[aoR I,aoR J];intro i u E j A X;by_cases e:i=b
 ·subst e;rw[List.getElem?_set_self (by omega)]at E;have E:=Option.some.inj E;subst E;have hB:kC l (i:Nat)=true:=(hb i U).trans X;obtain⟨hA,aa⟩:=YC hx hf hq ha F hB;have Z:s.testBit a=true:=(hb a Y).symm.trans hA;rw[Nat.testBit_or,Nat.testBit_or,Bool.or_eq_true,Bool.or_eq_true]at A;rcases A with(A|A)|A
  ·exact O i ub J j A X
  ·obtain⟨h1,h2⟩:=O a ua I j A Z
   grind
  grind
 ·rw[List.getElem?_set_ne (by omega)]at E;exact O i u E j A X
def T7(h:Cx x s)(E:Acc x)(A:SeqF x l)(F:∀i:Nat,i<x.y5.length->kC l (i:Nat)=s.testBit i):∀(L:List Pair) (M:List Nat),(∀q∈L,q∈x.before)->ChI s l M->ChI s l (L.foldl CE M)
 | [],M,_,hM=>hM
 | q::L,M,hL,hM=>T7 h E A F L _ (fun p I=>hL p (by grind)) (anP h E A F hM (hL q (by simp)))
def acE(h:Cx x s)(E:Acc x)(A:SeqF x l)(F:∀i:Nat,i<x.y5.length->kC l (i:Nat)=s.testBit i):∀(f:Nat) (M:List Nat),ChI s l M->ChI s l (Tr x.before f M)
 | 0,M,hM=>hM
 | f+1,M,hM=>by
  unfold Tr;split
  ·exact hM
  ·exact acE h E A F f _ (T7 h E A F x.before M (fun q I=>I) hM)
def Yu(h:Cx x s)(E:Acc x)(A:SeqF x l)(F:∀i:Nat,i<x.y5.length->kC l (i:Nat)=s.testBit i):ChI s l (vX x.y5.length x.before):=by
 unfold vX;refine acE h E A F _ _ fun i u I j J=>?_
 grind
def WT(h:Cx x s)(T:Acc x)(U:Sq.kX x (s:Int) l)(X:sZ x l=0)(ho:(cY l).1=(s:Int)):Aj x (s:Int)=0:=by
 have I:=awZ X;have hb:=(Lz h U).1 ho;have hn:=h.n8;have O:∀{a:Int},0<=a->a<(x.y5.length:Int)->dI (s:Int) a=kC l a:=fun {a} h0 h1=>by grind[Int.eq_ofNat_of_zero_le,jW,Xal]
 unfold Aj;rw[if_neg (by omega)];rw[if_neg (by
  rw[Dd fun a J=>?_];simp
  grind[nQ,GQ])]
 rw[if_neg (by
  rw[Dd fun a J=>?_];simp;obtain⟨i,rfl,_,A⟩:=nQ.1 J;have hi:=GQ h A;obtain⟨v,hv,aa⟩:=DH.1 ((hb i hi).trans A);have:=Xba.1 I.off v hv
  grind[atL])]
 rw[if_neg (by
  rw[Dd fun q F=>?_];simp;have E:=T.apartB q F;rw[O E.a.1 E.a.2,O E.b.1 E.b.2];have:=Xba.1 I.apart q F
  grind)]
 rw[if_neg (by
  rw[Dd fun q F=>?_];simp;have E:=T.beforeB q F;rw[O E.a.1 E.a.2,O E.b.1 E.b.2];have h1:=Xba.1 I.before q F
  grind[Lh])]
 rw[if_neg];rw[Dd fun a J=>?_]
 ·simp
 obtain⟨i,rfl,Z,A⟩:=nQ.1 J;have hi:=GQ h A;have hL:=Jd x.y5.length x.before;obtain⟨u,Y⟩:=aK (l:=vX x.y5.length x.before) (k:=i) (by omega);rw[Xal,aoR Y,jW (by omega) (by omega),Xal];cases e:u.testBit i with
 | false=>rfl
 | true=>have:=(Yu h T I hb i u Y i e A).2;omega
end
end Rx
namespace Rx
open Go.Aw Go.Aw.D Go.Proofs Ty
open Sq
open Go.Nu
def qM(x:Instance)(r:Route):Int×Int:=if((qS x r).2.2 != 0)=true then(0,(qS x r).2.2)else gT (qS x r).2.1
def WZ{x:Instance}(A:Acc x)(r:Route):qM x r=fT x r:=by unfold qM fT;rw[A.eval r]
def sE(x:Instance)(b:Column×Bool)(l:List Visit):Column×Bool:=
 if((cY l).1 != b.1.set||(qS x ⟨b.1.type,0,[],l⟩).2.2 != 0)=true then b
 else if((qM x ⟨b.1.type,0,[],l⟩).2 != 0||(b.2&& !vL ⟨b.1.type,b.1.set,(qM x ⟨b.1.type,0,[],l⟩).1,⟨b.1.type,0,[],l⟩⟩ b.1))=true then b
 else(⟨b.1.type,b.1.set,(qM x ⟨b.1.type,0,[],l⟩).1,⟨b.1.type,0,[],l⟩⟩,true)
def fC(x:Instance):Nat->Column×Bool->List Visit->Column×Bool
 | 0,b,_=>b
 | f+1,b,l=>if((zS x b.1.set l).length:Int)=0 then sE x b l else(zS x b.1.set l).foldl (fun b v=>fC x f b (l++[v])) b
def agU(x:Instance)(b:Column×Bool)(l:List Visit):(sE x b l).1.type=b.1.type/\(sE x b l).1.set=b.1.set:=by grind[sE]
def N1{α:Type}{g:Column×Bool->α->Column×Bool}(A:∀b v,(g b v).1.type=b.1.type/\(g b v).1.set=b.1.set):∀(vs:List α) (b:Column×Bool),(vs.foldl g b).1.type=b.1.type/\(vs.foldl g b).1.set=b.1.set
 | [],b=>⟨rfl,rfl⟩
 | v::vs,b=>by obtain⟨h1,I⟩:=N1 A vs (g b v);obtain⟨E,F⟩:=A b v;exact⟨h1.trans E,I.trans F⟩
def zC(x:Instance):∀(f:Nat) (b:Column×Bool) (l:List Visit),(fC x f b l).1.type=b.1.type/\(fC x f b l).1.set=b.1.set
 | 0,b,l=>⟨rfl,rfl⟩
 | f+1,b,l=>by
  unfold fC;split
  ·exact agU x b l
  ·exact N1 (fun b v=>zC x f b _) _ b
def BG{x:Instance}{r:Route}(A:(fK x r).2.2=0):sZ x r.y7=0/\(mK x r).2=0:=by
 unfold fK at A
 grind
section
variable{x:Instance}{s k:Nat}{t:VType}
def HL(x:Instance)(s k:Nat)(l:List Visit):Prop:=∀L,l <+: L->Sq.kX x (s:Int) L->¬((cY L).1=(s:Int)/\(fK x (rtQ k L)).2.2=0)
def HL.more{l:List Visit}(h:HL x s k l)(v:Visit):HL x s k (l++[v]):=fun L A E=>h L ((List.prefix_append l [v]).trans A) E
def acW(E:Acc x){b:Column×Bool}(A:b.1.type=(k:Int)/\b.1.set=(s:Int)){l:List Visit}(h:¬((cY l).1=(s:Int)/\(fK x (rtQ k l)).2.2=0)):sE x b l=b:=by
 unfold sE;rw[if_pos];rw[A.1,A.2,<-E.eval]
 grind
def Zr{α:Type}{g:Column×Bool->α->Column×Bool}{b:Column×Bool}:∀vs:List α,(∀v∈vs,g b v=b)->vs.foldl g b=b
 | [],_=>rfl
 | v::vs,h=>by rw[List.foldl_cons,h v (by simp)];exact Zr vs fun u A=>h u (by simp[A])
theorem D1(A:Acc x)(E:x.y5.length<=62):∀(f:Nat) (b:Column×Bool) (l:List Visit),b.1.type=(k:Int)/\b.1.set=(s:Int)->Sq.kX x (s:Int) l->HL x s k l->fC x f b l=b
 | 0,_,_,_,_,_=>rfl
 | f+1,b,l,hb,hst,h=>by
  unfold fC;rw[hb.2,DK A E];split
  ·exact acW A hb (h l (List.prefix_refl l) hst)
  ·exact Zr _ fun v F=>D1 A E f b _ hb (hst.snoc F) (h.more v)
theorem atP(F:Acc x)(I:x.types[k]?=some t){l:List Visit}(h:(stF x t l).2=[]):HL x s k l:=fun L A J E=>by
 obtain⟨r,rfl⟩:=A;have:=(aaE F I (BG E.2).2).2 l.length (by simp)
 grind
def agQ(I:Acc x)(J:x.types[k]?=some t){l:List Visit}{v:Visit}(A:v∈l)(h:(bM x v).2=false):HL x s k l:=fun L E O F=>by
 have:=(aaE I J (BG F.2).2).1 v (E.subset A)
 grind
structure RelS(sr:Sr)(b:Column×Bool):Prop where
 f:b.2=sr.found
 best:b.2=true->sr.best=b.1
theorem agT(X:Acc x)(h:Cx x s){sr:Sr}{b:Column×Bool}(T:RelS sr b)(h1:sr.x=x)(h2:sr.kind=k)(h3:sr.set=(s:Int))(Y:b.1.type=(k:Int)/\b.1.set=(s:Int)){l:List Visit}(O:Sq.kX x (s:Int) l)(hl:l.length=kF x (s:Int)):
   RelS (Na sr l) (sE x b l):=by
 have ho:=TS h O hl;have Z:fT sr.x (nO sr l)=fT x ⟨(k:Int),0,[],l⟩:=by grind[nO]
 have eC:∀p,LG sr l p=⟨(k:Int),(s:Int),p,⟨(k:Int),0,[],l⟩⟩:=fun p=>by grind[LG,nO]
 have e0:((s:Int) != (s:Int))=false:=by simp
 have eL : sE x b l = if ((fK x ⟨(k : Int), 0, [], l⟩).2.2 != 0) = true then b
     else if((fT x ⟨(k:Int),0,[],l⟩).2 != 0||(b.2&& !vL ⟨(k:Int),(s:Int),(fT x ⟨(k:Int),0,[],l⟩).1,⟨(k:Int),0,[],l⟩⟩ b.1))=true then b
     else(⟨(k:Int),(s:Int),(fT x ⟨(k:Int),0,[],l⟩).1,⟨(k:Int),0,[],l⟩⟩,true):=by
   unfold sE;rw[Y.1,Y.2,ho,WZ X,<-X.eval,e0,Xbl]
 have J:(fK x ⟨(k:Int),0,[],l⟩).2.2≠0->(fT x ⟨(k:Int),0,[],l⟩).2≠0:=fun F=>by
   unfold fT
   grind
 rw[eL];unfold Na;rw[Z,eC];generalize (fK x ⟨(k:Int),0,[],l⟩).2.2=E at *;generalize fT x ⟨(k:Int),0,[],l⟩=P at *;by_cases hp:P.2=0
 . have F:E=0:=Decidable.byContradiction fun F=>J F hp
   have e1:(P.2 != 0)=false:=by grind
   rw[if_pos (show(P.2 == 0)=true by grind),if_neg (show ¬(E != 0)=true by grind),e1,Xbl];cases A:b.2 with
   | false=>
     have I:sr.found=false:=T.f.symm.trans A;rw[Bool.false_and,if_neg (show ¬false=true by simp)];refine⟨rfl,fun _=>?_⟩
     grind[zI]
   | true=>
     have I:sr.found=true:=T.f.symm.trans A;have U:=T.best A;rw[Xay];cases aa:vL ⟨(k:Int),(s:Int),P.1,⟨(k:Int),0,[],l⟩⟩ b.1 with
     | true=>
       rw[if_neg (show ¬(!true)=true by simp)];refine⟨rfl,fun _=>?_⟩
       grind[zI]
     | false=>
       rw[if_pos (show(!false)=true by simp)];refine⟨A,fun _=>?_⟩
       grind[zI]
 grind
def OC(T:Acc x)(h:Cx x s)(ht:x.types[k]?=some t):∀(f g:Nat) (sr:Sr) (b:Column×Bool) (l:List Visit),RelS sr b->sr.x=x->sr.kind=k->sr.set=(s:Int)->sr.total=kF x (s:Int)->b.1.type=(k:Int)/\b.1.set=(s:Int) ->
   Sq.kX x (s:Int) l->kF x (s:Int)-l.length<f->kF x (s:Int)-l.length<g->RelS (oX t f sr l (stF x t l).1 (stF x t l).2) (fC x g b l)
 | 0,g,sr,b,l,U,h1,X,J,O,A,hst,hf,hg=>by omega
 | f+1,0,sr,b,l,U,h1,X,J,O,A,hst,hf,hg=>by omega
 | f+1,g+1,sr,b,l,U,h1,X,J,O,A,hst,hf,hg=>by
   have hn:=h.n8;have ac:=HV h hst;unfold oX fC;rw[A.2,DK T (by omega),O];by_cases hl:l.length=kF x (s:Int)
   . rw[if_pos (by grind),aeO h hst hl,if_pos (show(([]:List Visit).length:Int)=0 from rfl)]
     grind[agT]
   rw[if_neg (by grind),h1,J];by_cases hN:((qA x (s:Int) l).length:Int)=0
   . rw[if_pos hN];have hN:qA x (s:Int) l=[]:=List.length_eq_zero_iff.1 (by omega);rw[hN];have:sE x b l=b:=acW T A fun hc=>hl (axQ h hst (agE (BG hc.2).1) hc.1)
     grind
   rw[if_neg hN];have af : ∀ (vs : List Visit) (sr : Sr) (b : Column × Bool), (∀ v ∈ vs, v ∈ qA x (s : Int) l) -> RelS sr b -> sr.x = x -> sr.kind = k -> sr.set = (s : Int) -> sr.total = kF x (s : Int) -> b.1.type = (k : Int) /\ b.1.set = (s : Int) ->
       RelS (vs.foldl (wU t (oX t f) l (stF x t l).1 (stF x t l).2) sr) (vs.foldl (fun b v=>fC x g b (l++[v])) b):=by
     intro vs;induction vs with
     | nil=>grind
     | cons v vs ih=>
       intro sr b hv U h1 X J O A;have aa:=hv v (by simp);have E:=hst.snoc aa;have ae:(l++[v]).length=l.length+1:=by simp
       rw[List.foldl_cons,List.foldl_cons];have hk:=zC x g b (l++[v]);have F:RelS (wU t (oX t f) l (stF x t l).1 (stF x t l).2 sr v) (fC x g b (l++[v])):=by
         unfold wU;rw[h1];have Z:=Ls x t l v;by_cases Y:((fF x v).2 != 0)=true
         . rw[if_pos Y];have ab:(bM x v).2=false:=by grind[KV]
           rw[D1 T (by omega) g b _ A E (agQ T ht (v:=v) (by simp) ab)];exact U
         rw[if_neg Y];by_cases I:(zU x.τ t (stF x t l).1 (fF x v).1 (stF x t l).2).length=0
         . rw[if_pos I];have hd:(stF x t (l++[v])).2=[]:=by rw[Z];exact List.length_eq_zero_iff.1 I
           grind[D1,atP]
         rw[if_neg I];have:=OC T h ht f g sr b (l++[v]) U h1 X J O A E (by omega) (by omega);rw[Z]at this;exact this
       have hB:SameB sr (wU t (oX t f) l (stF x t l).1 (stF x t l).2 sr v):=by
         unfold wU;split
         . exact .refl sr
         . split
           . exact .refl sr
           grind[tI]
       exact ih _ _ (fun u hu=>hv u (by grind)) F (hB.x.trans h1) (hB.kind.trans X) (hB.set.trans J) (hB.total.trans O) ⟨hk.1.trans A.1,hk.2.trans A.2⟩
   grind
def Xo(x:Instance)(k s:Nat):Column×Int:=
 if(fC x 17 (⟨(k:Int),(s:Int),0,⟨0,0,[],[]⟩⟩,false) []).2=true then((fC x 17 (⟨(k:Int),(s:Int),0,⟨0,0,[],[]⟩⟩,false) []).1,0)else(eF,24)
def afK(A:Acc x)(h:Cx x s)(Y:k<x.types.length):Xo x k s=rX x (k:Nat) (s:Nat):=by
 obtain⟨t,O⟩:=aK Y;have U:=h.n8;have hT:=Au (x:=x) (set:=(s:Int)) (n:=x.y5.length) (by omega) (by exact_mod_cast h.top) (by omega);have J:Mu x (k:Nat) (s:Nat)=false:=by
  unfold Mu;have e1:shV .shr .i64 (s:Int) (x.y5.length:Nat)=0:=by rw[RD U,Nat.div_eq_of_lt h.top];rfl
  have hp:=h.pos
  grind
 unfold Xo rX;rw[if_neg (show ¬Mu x (k:Nat) (s:Nat)=true by grind)];by_cases T:Aj x (s:Int)=0
 ·rw[if_neg (show ¬(Aj x (s:Int) != 0)=true by grind),Xal,O];show _=(if(Gr x k (s:Int) t).found=true then((Gr x k (s:Int) t).best,0)else(eF,24):Column×Int);have E:=OC A h O 17 17 ⟨x,k,(s:Int),kF x (s:Int),eF,false⟩ (⟨(k:Int),(s:Int),0,⟨0,0,[],[]⟩⟩,false) [] ⟨rfl,fun h=>by cases h⟩ rfl rfl rfl rfl ⟨rfl,rfl⟩ Sq.kX.nil (by omega) (by omega)
  change RelS (Gr x k (s:Int) t) _ at E
  have Z:=E.f;have F:=E.best
  grind
 ·rw[if_pos (show(Aj x (s:Int) != 0)=true by grind)];rw[D1 A (by omega) 17 _ [] ⟨rfl,rfl⟩ Sq.kX.nil (fun L _ X I=>T (WT h A X (BG I.2).1 I.1))];rfl
end
end Rx
namespace Rx
open Go.Proofs.Tryz
open Go.Aw Go.Aw.D Go.Proofs Ty
open Sq
open Go.Proofs.YtkfhgjihlbilpaaGreatDoor.Nu (ltB geB)
open Mv (bS bU aS)
def ahC(s:Sq.Score):PC prog 50 [.agg (Sq.bD s)] (.tup [int (gT s).1,int (gT s).2]):=Nu.KA ⟨s.cost,s.moved,s.other,s.work⟩
def aiX(x:Instance)(r:Route)(U:InsB x)(T:r.y7.length<=1048576):PC prog 168 [.agg (aD x),.agg (bJ r)] (.tup [int (qM x r).1,int (qM x r).2]):=by
 have O:=Sv x r U T;unfold qM;generalize qS x r=E at *;refine pcd func168 rfl rfl ?_;simp only[go_sem];refine aL O ?_;simp only[go_sem];refine aH fun Z h6=>?_
 simp only[go_sem];refine aH fun J I=>?_
 simp only[go_sem];refine aG (fA (aB _ _ _) I) (by simp[Sq.bT]) ?_;simp only[go_sem];have A:=aV (aB _ _ _) I;refine aG (rC (aB _ _ _) A.symm) (by simp[Sq.bD]) ?_;generalize F:aI _ J _=HG;have Y:HG J=some (⟨125,4,[Sq.bD E.2.1]⟩:Row):=by rw[<-F,aB];rfl
 clear F;simp only[go_sem];apply aA <;> intro X
 ·rw[if_pos X];simp only[go_sem];exact .refl _
 rw[if_neg (by grind)];simp only[go_sem,Y];refine aL (ahC E.2.1) ?_;simp only[go_sem];exact .refl _
def Wr(a b:Column)(E:a.χ.y7.length<=1048576)(A:b.χ.y7.length<=1048576):PC prog 169 [.agg (bC a),.agg (bC b)] (boo (vL a b)):=by
 refine pcd func169 rfl rfl ?_;simp only[go_sem];unfold vL;apply aA <;> intro A
 ·rw[if_pos A];simp only[go_sem];exact .refl _
 ·rw[if_neg (by grind)];simp only[go_sem];refine aL (akB a.χ.y7 b.χ.y7 E ‹_›) ?_;simp only[go_sem];rw[OL];exact .refl _
def Ax(s:Nat):Nat->Nat
 | 0=>s
 | k+1=>Ax s k/2
theorem Kr(s:Nat):∀k,Ax s k=s/2^k
 | 0=>by simp[Ax]
 | k+1=>by show Ax s k/2=_;rw[Kr s k,Nat.div_div_eq_div_mul,Xbo]
def Y2(x:Instance)(s:Nat)(h0:0<s)(h1:s<2^x.y5.length)(Y:x.y5.length<=8):PC prog 104 [.agg (aD x),int (s:Nat)] (boo true):=by
 have h8:2^x.y5.length<=256:=Xaf (Xah (by decide) Y) (by decide);refine pcd func104 rfl rfl ?_;simp only[go_sem];refine⟨fun ρ H=>∃k:Nat,k<=x.y5.length/\ρ 1=int (s:Nat)/\ρ 2=.rp (aD x) 0/\ρ 5=int (Ax s k:Nat)/\ρ 6=int (k:Nat),fun ρ _=>x.y5.length-aT (ρ 6),⟨0,Xaa _,rfl,rfl,by rfl,(by rfl)⟩,?_⟩;rintro ρ H ⟨k,hk,J,I,A,T⟩;simp only[go_sem,I,T,Xac];refine aA (fun E=>?_) (fun F=>?_)
 ·simp only[Xak,decide_eq_true_eq]at E;have hq:(Ax s k:Int).tdiv 2=((Ax s (k+1):Nat):Int):=by rfl
  have hb:=Kr s k;have aa:Ax s k<=s:=by simp_all[Xbv]
  have O:Ax s (k+1)<=Ax s k:=Xbv _ _;have Z:IntKind.i64.wrap ((Ax s k:Int).tdiv 2)=((Ax s (k+1):Nat):Int):=by grind[aW]
  simp only[go_sem,J,I,A,T,Z,aQ k]
  grind[aJ]
 ·have F:x.y5.length<=k:=by grind
  have U:k=x.y5.length:=by omega
  have X:Ax s k=0:=by grind[Kr,Nat.div_eq_of_lt]
  rw[X]at A;simp only[go_sem,J,A]
  grind[bU]
structure SeaC(x:Instance)(s k:Nat):Prop where
 cx:Cx x s
 acc:Acc x
 ins:InsB x
def Kj{x:Instance}{s kk:Nat}(h:SeaC x s kk):∀(f:Nat) (b:Column×Bool) (l:List Visit),b.1.set=(s:Int)->b.1.χ.y7.length<=16->Sq.kX x (s:Int) l->(fC x f b l).1.χ.y7.length<=16
 | 0,b,l,_,A,_=>A
 | f+1,b,l,F,A,hst=>by
  have T:=h.cx.n8;have U:=Au (x:=x) (set:=(s:Int)) (n:=x.y5.length) (by omega) (by exact_mod_cast h.cx.top) (by omega);have J:=HV h.cx hst;unfold fC;split
  ·unfold sE;split
   ·exact A
   ·split
    ·exact A
    ·show l.length<=16;omega
  ·rw[F,DK h.acc (by omega)];have I:∀(vs:List Visit) (b:Column×Bool),(∀v∈vs,v∈qA x (s:Int) l)->b.1.set=(s:Int)->b.1.χ.y7.length<=16->(vs.foldl (fun b v=>fC x f b (l++[v])) b).1.χ.y7.length<=16:=by
    intro vs;induction vs with
    | nil=>intro b _ _ A;exact A
    | cons v vs ih=>intro b E F A;exact ih _ (fun u O=>E u (by simp[O])) ((zC x f b _).2.trans F) (Kj h f b _ F A (hst.snoc (E v (by simp))))
   exact I _ b (fun v A=>A) F A
def K5{x:Instance}{s kk:Nat}(h:SeaC x s kk):∀(f:Nat) (b:Column×Bool) (l:List Visit),b.1.type=(kk:Int)/\b.1.set=(s:Int)->b.1.χ.y7.length<=16->Sq.kX x (s:Int) l->kF x (s:Int)-l.length<f ->
  PC prog 105 [.agg (aD x),.agg (bC b.1),boo b.2,.sl (l.map aN)] (.tup [.agg (bC (fC x f b l).1),boo (fC x f b l).2])
 | 0,b,l,hb,hv,hst,hf=>by omega
 | f+1,b,l,hb,hv,hst,hf=>by
  have IH:=K5 h f;have hn:=h.cx.n8;have hT:=Au (x:=x) (set:=(s:Int)) (n:=x.y5.length) (by omega) (by exact_mod_cast h.cx.top) (by omega);have bf:=HV h.cx hst;have hN:=asC x (s:Int) l (by omega) h.ins.before (by omega);have eW:fC x (f+1) b l=if((zS x b.1.set l).length:Int)=0 then sE x b l else(zS x b.1.set l).foldl (fun b v=>fC x f b (l++[v])) b:=rfl
  have a6:∀v∈zS x (s:Int) l,Sq.kX x (s:Int) (l++[v])/\l.length+1<=kF x (s:Int):=fun v hv=>by
   rw[DK h.acc (by omega)]at hv;have h2:=hst.snoc hv;have h3:=HV h.cx h2
   grind
  have a9:=Bh x (s:Int) l x.y5.length
  change (zS x (s:Int) l).length<=_ at a9
  rw[hb.2]at eW;generalize fC x (f+1) b l=RW at *;have be:l.length<=16:=by omega
  have hO:=K7 ⟨b.1.type,0,[],l⟩ (by grind);have a7:=afR x ⟨b.1.type,0,[],l⟩ h.ins (by grind);have a5:=aiX x ⟨b.1.type,0,[],l⟩ h.ins (by grind);refine pcb (fun t=>t == 5||t == 80) func105 rfl rfl ?_;simp only[go_sem];refine eJ fun j5 a0 bd (A:a0 j5=some (dZ [b.1])) N=>?_
  simp only[go_sem];refine eJ fun J ay bg (E:ay J=some (dZ [eF])) N=>?_
  replace A:=N A;obtain⟨X,A⟩:=A;simp only[go_sem,A];simp only[go_sem,hb.2];refine aL hN ?_;generalize zS x (s:Int) l=vs at *;simp only[go_sem,Xac];refine aA (fun hc=>?_) (fun hc=>?_)
  ·have hc:(vs.length:Int)=0:=by grind
   rw[if_pos hc]at eW;subst eW;have O:sE x b l=if((cY l).1 != b.1.set||(qS x ⟨b.1.type,0,[],l⟩).2.2 != 0)=true then b
    else if((qM x ⟨b.1.type,0,[],l⟩).2 != 0||(b.2&& !vL ⟨b.1.type,b.1.set,(qM x ⟨b.1.type,0,[],l⟩).1,⟨b.1.type,0,[],l⟩⟩ b.1))=true then b
    else(⟨b.1.type,b.1.set,(qM x ⟨b.1.type,0,[],l⟩).1,⟨b.1.type,0,[],l⟩⟩,true):=rfl
   generalize sE x b l=LW at *;simp only[go_sem,A];refine aH fun aa ak=>?_
   simp only[go_sem,];refine bW ak (by simp[dB]) fun am (I:am aa=some (dZ [b.1])) N=>?_
   replace A:=N A;obtain⟨ai,A⟩:=A;replace E:=N E;obtain⟨an,E⟩:=E;simp only[go_sem,A];refine aG I (by simp[]) ?_;generalize F:aI _ aa _=HP;replace A:=kpA F (by omega) A;replace E:=kpA F (by omega) E;replace I:HP aa=some (dZ [⟨b.1.type,b.1.set,b.1.o8,⟨b.1.type,0,[],l⟩⟩]):=upS F;simp only[go_sem,I,];refine aL hO ?_;simp only[go_sem,A,I];refine⟨_,fun _=>a7.q rfl,?_⟩;simp only[go_sem,];refine aA (fun hd=>?_) (fun hd=>?_)
   ·rw[if_pos hd]at O;simp only[go_sem,A];refine aG E (by simp[dB]) ?_;generalize F:aI _ J _=HP;replace E:HP J=some (dZ [b.1]):=upS F;simp only[go_sem,E];rw[O];exact .refl _
   rw[if_neg (by grind)]at O;simp only[go_sem,I];refine aL a5 ?_;generalize qM x ⟨b.1.type,0,[],l⟩=pr at *;simp only[go_sem,];refine bP so3 I (by simp[]) ?_;generalize F:aI _ aa _=HP;replace A:=kpA F (by omega) A;replace E:=kpA F (by omega) E;replace I:HP aa=some (dZ [⟨b.1.type,b.1.set,pr.1,⟨b.1.type,0,[],l⟩⟩]):=upS F;simp only[go_sem,I,A];refine⟨_,fun _=>(Wr ⟨b.1.type,b.1.set,pr.1,⟨b.1.type,0,[],l⟩⟩ b.1 (by grind) (by omega)).q rfl,?_⟩;simp only[go_sem,];refine aA (fun hd=>?_) (fun hd=>?_)
   ·rw[if_pos hd]at O;simp only[go_sem,A];refine aG E (by simp[dB]) ?_;generalize F:aI _ J _=HP;replace E:HP J=some (dZ [b.1]):=upS F;simp only[go_sem,E];rw[O];exact .refl _
   rw[if_neg (by grind)]at O;simp only[go_sem,I];refine aG E (by simp[dB]) ?_;generalize F:aI _ J _=HP;replace E:HP J=some (dZ [⟨b.1.type,b.1.set,pr.1,⟨b.1.type,0,[],l⟩⟩]):=upS F;simp only[go_sem,E];rw[O];exact .refl _
  ·have hc:¬(vs.length:Int)=0:=by grind
   rw[if_neg hc]at eW;subst eW;simp only[go_sem];refine⟨fun ρ H=>∃(k:Nat) (c:Column×Bool),k<=vs.length/\ρ 3=.sl (l.map aN)/\ρ 4=.rp (aD x) 0/\ρ 5=.op j5 0 0/\ρ 8=.op J 0 0/\ρ 10=.sl (vs.map aN)/\ρ 16=int k/\ρ 2=boo c.2/\c=(vs.take k).foldl (fun b v=>fC x f b (l++[v])) b/\(c.1.type=(kk:Int)/\c.1.set=(s:Int))/\c.1.χ.y7.length<=16/\H j5=some (dZ [c.1])/\H J=some (dZ [eF]),fun ρ _=>vs.length-aT (ρ 16),⟨0,b,Xaa _,rfl,rfl,rfl,rfl,rfl,(by rfl),rfl,rfl,hb,hv,A,E⟩,?_⟩;rintro ρ H ⟨k,c,hk,e3,e4,e5,e8,aq,ah,e2,ar,ab,ax,A,E⟩;simp only[go_sem,aq,ah];refine aA (fun ae=>?_) (fun aw=>?_)
   ·have ae:=ltB (by omega);obtain⟨v,aj⟩:=aK ae;have b1:=inB ae;obtain⟨az,bh⟩:=a6 v (Xab aj);have ac:=nL (f:=fun b v=>fC x f b (l++[v])) (b:=b) aj;rw[<-ar]at ac;have ac:(vs.take (k+1)).foldl (fun b v=>fC x f b (l++[v])) b=fC x f c (l++[v]):=ac;have hI:=IH c (l++[v]) ab ax az (by simp_all;omega);have au:=zC x f c (l++[v]);have a4:(fC x f c (l++[v])).1.χ.y7.length<=16:=Kj h f c _ ab.2 ax az;generalize fC x f c (l++[v])=S at *;simp only[go_sem,];refine eJ fun av ao ba (bc:ao av=some (Qv [])) N=>?_
    replace A:=N A;obtain⟨al,A⟩:=A;replace E:=N E;obtain⟨ap,E⟩:=E;simp only[go_sem,e3,];refine aU bc ⟨rfl,rfl⟩ (BM (fun v=>dG v) _) (by grind) (fun j2 af=>?_);have Z:j5≠j2:=aV A af;have U:J≠j2:=aV E af;generalize F:aI (aI _ av none) j2 _=HP;replace A:=kpB F Z (by omega) A;replace E:=kpB F U (by omega) E;have R2:HP j2=some (Qv l):=upS F;simp only[go_sem,aq,ah,aC aj,b1,];refine aU R2 ⟨rfl,rfl⟩ (by simp only[go_sem]) (by grind) (fun j3 ag=>?_);have T:j5≠j3:=aV A ag;have Y:J≠j3:=aV E ag;generalize F:aI (aI _ j2 none) j3 _=HP;replace A:=kpB F T (by omega) A;replace E:=kpB F Y (by omega) E;have R3:HP j3=some (Qv (l++[v])):=by rw[<-F,aB];simp
    simp only[go_sem,e4,e5,e2,A];refine PC.useF [j3] (.cons _ _ _ _ (.refl _) (.cons _ _ _ _ (.refl _) (.cons _ _ _ _ (.refl _) (.cons _ _ _ _ (.row _ _ _ (by simp only[Xbc,if_true];exact R3) (ConvE.refl _)) .nil)))) hI ?_;rw[aA1];have bb:j5≠j3:=fun e=>by omega
    have a8:J≠j3:=fun e=>by omega
    replace A:aI HP j3 none j5=some (dZ [c.1]):=(aF _ _ _ _ bb).trans A;replace E:aI HP j3 none J=some (dZ [eF]):=(aF _ _ _ _ a8).trans E;have bi:J≠j5:=X.symm;generalize aI HP j3 none=H3 at *;simp only[go_sem,e5,];refine aG A (by simp[dB]) ?_;generalize F:aI _ j5 _=HP;replace E:=kpA F (by omega) E;replace A:HP j5=some (dZ [S.1]):=upS F;simp only[go_sem,e3,e4,e5,e8,aq,ah,A,E];simp only[go_sem,aQ k];exact⟨⟨k+1,S,ae,rfl,rfl,ac.symm,⟨au.1.trans ab.1,au.2.trans ab.2⟩,a4,rfl⟩,by simp only[aJ];omega⟩
   have aw:=geB hk (by omega);subst aw;rw[Xad]at ar;simp only[go_sem,e5,e8,e2,A];refine aG E (by simp[dB]) ?_;generalize F:aI _ J _=HP;replace E:HP J=some (dZ [c.1]):=upS F;simp only[go_sem,e8,E];rw[<-ar];exact .refl _
def aqU{x:Instance}{s kk:Nat}(h:SeaC x s kk)(Z:kk<x.types.length):PC prog 42 [.agg (aD x),int (kk:Nat),int (s:Nat)] (.tup [.agg (bC (rX x (kk:Nat) (s:Nat)).1),int (rX x (kk:Nat) (s:Nat)).2]):=by
 have hn:=h.cx.n8;have hT:=Au (x:=x) (set:=(s:Int)) (n:=x.y5.length) (by omega) (by exact_mod_cast h.cx.top) (by omega);have U:=Y2 x s h.cx.pos h.cx.top h.cx.n8;have Y:=K5 h 17 (⟨(kk:Int),(s:Int),0,⟨0,0,[],[]⟩⟩,false) [] ⟨rfl,rfl⟩ (Xaa _) Sq.kX.nil (by omega);rw[<-afK h.acc h.cx Z];unfold Xo;generalize fC x 17 (⟨(kk:Int),(s:Int),0,⟨0,0,[],[]⟩⟩,false) []=S at *;refine pcd func42 rfl rfl ?_;simp only[go_sem];refine eJ fun E J T (A:J E=some (dZ [eF])) N=>?_
 simp only[go_sem];refine⟨boo true,fun _=>U.q rfl,?_⟩;simp only[go_sem];apply aA <;> intro hb
 ·exfalso
  grind
 simp only[go_sem];refine aL Y ?_;simp only[go_sem];refine aH fun i8 F=>?_
 simp only[go_sem];refine bW F (by simp[dB]) fun I (X:I i8=some (dZ [S.1])) N=>?_
 replace A:=(N A).2;simp only[go_sem];apply aA <;> intro hb
 ·rw[if_neg (by grind)];simp only[go_sem];refine aG A (by simp) ?_;generalize O:aI _ E _=HP;replace A:HP E=some (dZ [eF]):=upS O;simp only[go_sem,A];exact .refl _
 ·rw[if_pos (by grind)];simp only[go_sem,X];refine aG A (by simp[dB]) ?_;generalize O:aI _ E _=HP;replace A:HP E=some (dZ [S.1]):=upS O;simp only[go_sem,A];exact .refl _
def axW(x:Instance)(ag:xY x=[])(X:Acc x)(aa:InsB x)(hn:x.y5.length<=8)(ht:x.types.length<=1000):PC prog 16 [.agg (aD x)] (.tup [.sl ((oJ x).map bC),int 0]):=by
 have h8:2^x.y5.length<=256:=Xaf (Xah (by decide) hn) (by decide);have hp:0<2^x.y5.length:=Nat.two_pow_pos _;refine pcb (fun t=>t == 6) func16 rfl rfl ?_;simp only[go_sem];refine⟨fun ρ H=>∃k:Nat,k<=x.y5.length/\ρ 1=.rp (aD x) 0/\ρ 4=int (2^k:Nat)/\ρ 5=int (k:Nat)/\H=bN,fun ρ _=>x.y5.length-aT (ρ 5),⟨0,Xaa _,rfl,by rfl,(by rfl),rfl⟩,?_⟩;rintro ρ H ⟨k,hk,F,J,e5,rfl⟩;simp only[go_sem,F,e5,Xac];refine aA (fun E=>?_) (fun T=>?_)
 ·simp only[Xak,decide_eq_true_eq]at E;have ao:0<2^k:=Nat.two_pow_pos _;have aj:2^k<=2^x.y5.length:=Xah (by decide) (by omega);have hw:IntKind.i64.wrap (((2^k:Nat):Int)*2)=((2^(k+1):Nat):Int):=by grind[aW]
  simp only[go_sem,F,J,e5,hw,aQ k]
  grind[aJ]
 have af:k=x.y5.length:=by grind
 subst af;simp only[go_sem];refine eJ fun j ac ai (R:ac j=some (dZ [])) N=>?_
 simp only[go_sem];refine⟨fun ρ H=>∃(k:Nat) (j:Nat),k<=x.types.length/\ρ 1=.rp (aD x) 0/\ρ 4=int (2^x.y5.length:Nat)/\ρ 7=int k/\ρ 6=.os j/\H j=some (dZ (Et x k)),fun ρ _=>x.types.length-aT (ρ 7),⟨0,j,Xaa _,by simp only[go_sem,F,],J,(by rfl),rfl,R⟩,?_⟩;rintro ρ H ⟨k,j,hk,F,J,O,U,R⟩;simp only[go_sem,F,O];refine aA (fun E=>?_) (fun T=>?_)
 ·have E:=ltB (by omega);have hs:=E5 x k;have ap:=AN x k;have an:k*2^x.y5.length<=256000:=Xaf (Nat.mul_le_mul (show k<=1000 by omega) h8) (by decide);generalize am:Et x k=A at *;simp only[go_sem];refine⟨fun ρ H=>∃m j:Nat,m<=2^x.y5.length-1/\ρ 1=.rp (aD x) 0/\ρ 4=int (2^x.y5.length:Nat)/\ρ 7=int (k:Nat)/\ρ 8=int (m+1:Nat)/\ρ 6=.os j/\H j=some (dZ (A++tS x k m)),fun ρ _=>2^x.y5.length-aT (ρ 8),⟨0,j,Xaa _,by simp only[go_sem,F,],by simp only[go_sem,J,],O,(by rfl),U,by grind[tS]⟩,?_⟩;rintro ρ H ⟨m,j,hm,F,J,O,e8,U,R⟩;simp only[go_sem,J,e8];refine aA (fun aq=>?_) (fun al=>?_)
  ·have ab:m+1<2^x.y5.length:=by grind
   have I:=Do x k m;have ak:=Bz x k m;have hB:=aqU (x:=x) (s:=m+1) (kk:=k) ⟨⟨ag,hn,by omega,ab⟩,X,aa⟩ E;have ae:IB x k (m+1)=if((rX x (k:Nat) ((m+1:Nat):Int)).2 == 0)=true then[(rX x (k:Nat) ((m+1:Nat):Int)).1]else[]:=rfl
   rw[ae]at I;generalize rX x (k:Nat) ((m+1:Nat):Int)=B at *;generalize tS x k m=KM at *;simp only[go_sem,F,O,e8];refine aL hB ?_;simp only[go_sem];refine aH fun i9 Z=>?_
   simp only[go_sem];refine bW Z (by simp[dB]) fun Y (R9:Y i9=some (dZ [B.1])) N=>?_
   replace R:=(N R).2;simp only[go_sem];apply aA <;> intro hc
   ·rw[if_pos hc]at I;simp only[go_sem,U,R9];refine aU R ⟨rfl,rfl⟩ (by simp only[go_sem]) (by grind) (fun j2 ar=>?_);simp only[go_sem,F,J,O,e8,mT (show m+1<=4611686018427387904 by omega)];refine⟨⟨m+1,j2,by omega,rfl,rfl,?_⟩,by grind[aJ]⟩;rw[I,<-Xaw,aB];simp
   ·rw[if_neg (by grind),Xat]at I;simp only[go_sem,F,J,U,O,e8,mT (show m+1<=4611686018427387904 by omega)]
    grind[aJ]
  ·have ah:m=2^x.y5.length-1:=by grind
   subst ah;simp only[go_sem,F,J,U,O,aQ k];refine⟨⟨k+1,j,E,rfl,rfl,?_⟩,msr E⟩
   grind
 have T:=geB hk (by omega);subst T;simp only[go_sem,U];exact .tup _ _ (.cons _ _ _ _ (.row _ _ _ R (ConvE.refl _)) (ConvL.refl _))
end Rx
namespace Nu
open Go.Proofs.Tryz
open Go.Aw Go.Aw.D Go.Proofs Ty Go.Nu
open Dec (kE fB dJ cX pJ mS)
open Sq (EvalB BestQ oJ rT dZ fT InsB)
open Ps (PrOk JA)
def alZ(x:Instance)(d:Nat)(cs:List Cut)(h:LoadsOk x d)(O:x.types≠[])(hl:cs.length<=1048576)(Z:∀q∈cs,q.set<9223372036854775808):
  PC prog 15 [.agg (aD x),.sl (cs.map dD)] (int (if cs.length>24 then 27 else if(cs.any fun k=>jS x d k != 0)=true then 27 else 0)):=by
 refine pcd func15 rfl rfl ?_;simp only[go_sem];apply aA <;> intro Y
 ·rw[if_pos (by grind)];simp only[go_sem];exact .refl _
 rw[if_neg (by grind)];simp only[go_sem];refine⟨fun ρ H=>∃(k:Nat),k<=cs.length/\ρ 1=.sl (cs.map dD)/\ρ 2=.rp (aD x) 0/\ρ 5=int k/\(∀q∈cs.take k,jS x d q=0),fun ρ _=>cs.length-aT (ρ 5),⟨0,Xaa _,by rfl,by rfl,(by rfl),by simp⟩,?_⟩;rintro ρ H ⟨k,hk,J,T,I,X⟩;simp only[go_sem,J,I];refine aA (fun A=>?_) (fun E=>?_)
 ·have A:=ltB (by omega);obtain⟨q,F⟩:=aK A;have U:=inB A;simp only[go_sem,U];refine dC ?_;simp only[go_sem,J,T,I,aC F,U,Xac];refine⟨_,(Nt x d q h O (Z q (Xab F))).q rfl,?_⟩;simp only[go_sem];apply aA <;> intro Y
  ·rw[if_pos (Xaj.2 ⟨q,Xab F,Y⟩)];simp only[go_sem];exact .refl _
  simp only[go_sem,J,T,I,aQ k];exact⟨⟨k+1,A,rfl,dW (p:=fun q=>jS x d q=0) F (by grind) X⟩,by grind[aJ]⟩
 have E:=geB hk (by omega);subst E;rw[Xad]at X;rw[if_neg (by grind)];simp only[go_sem];exact .refl _
def Vu(x:Instance)(ds:List Decision)(n:TNode)(o8:Int)(U:Acc x)(af:xY x=[])(h3:x.y5.length<=3)(F:LeafB x n ds o8)(ah:∀d∈ds,pJ d)(am:0<=o8)(ai:o8<=100000000000000000):
  PC prog 8 [.agg (aD x),.sl (ds.map aO),.agg (bY n),int o8] (int (CW x (mO x.types).toNat ds n o8)):=by
 obtain⟨X,T⟩:=Li U;have aj:=U.types;have h:=JA U (by omega);generalize ak:(mO x.types).toNat=d at *;have Z:∀q∈n.y8,q.set<9223372036854775808:=fun q I=>by have:=(F.y8 q I).2;omega
 have hC:=alZ x d n.y8 X T F.cl Z;have hM:MIn x n.y8 ds:=⟨by omega,by omega,F.cl,F.dl⟩;have ag:(oJ x).length<=1048576:=by have h8:2^x.y5.length<=256:=Xaf (Xah (by decide) h.n8) (by decide);exact Xaf (Sq.AN x _) (Xaf (Nat.mul_le_mul h.ty h8) (by decide))
 have hB:=aiB x d (oJ x) n.y8 ds X T hM ag (fun c hc=>by have:=(Ps.JH h.n8 hc).b.1;grind[rK]) (fun q I=>(F.y8 q I).2) ah;have Y:RightB x n.y8 ds:=⟨F.types,fun q I=>(F.y8 q I).1,F.dsn⟩;have hL:(gB x d (oJ x) n.y8 ds).2=0->LinB (gB x d (oJ x) n.y8 ds).1/\(∀r∈(gB x d (oJ x) n.y8 ds).1.rows,r.θ.length<=1048576)/\∀m∈(gB x d (oJ x) n.y8 ds).1.cost,rK m:=fun e=>⟨Pm e Y,fun r hr=>by obtain⟨_,_,h2,_,_,h5,_⟩:=Kt e Y;grind,fun m hm=>by
  obtain⟨i,hi⟩:=List.getElem?_of_mem hm;have:=KN (fun c hc=>(Ps.JH h.n8 hc).o8) e i
  grind⟩
 obtain⟨L,A⟩:∃L,L=CW x d ds n o8:=⟨_,rfl⟩;rw[<-A];unfold CW at A;refine pcd func8 rfl rfl ?_;simp only[go_sem];apply aA <;> intro E
 ·rw[if_pos E]at A;subst A;simp only[go_sem];exact .refl _
 rw[if_neg (by grind)]at A;simp only[go_sem];refine aL (Dec.aaL x ds F.dl) ?_;simp only[go_sem];apply aA <;> intro E
 ·rw[if_pos E]at A;subst A;simp only[go_sem];exact .refl _
 rw[if_neg (by grind)]at A;simp only[go_sem];refine aL hC ?_;have A:L=if((if n.y8.length>24 then(27:Int)else if(n.y8.any fun k=>jS x d k != 0)=true then 27 else 0) != 0)=true then(if n.y8.length>24 then(27:Int)else if(n.y8.any fun k=>jS x d k != 0)=true then 27 else 0)else if((gB x d (oJ x) n.y8 ds).2 != 0)=true then(gB x d (oJ x) n.y8 ds).2 else PV (gB x d (oJ x) n.y8 ds).1 n o8:=by grind
 generalize (if n.y8.length>24 then(27:Int)else if(n.y8.any fun k=>jS x d k != 0)=true then 27 else 0)=e at *;simp only[go_sem];apply aA <;> intro E
 ·rw[if_pos E]at A;subst A;simp only[go_sem];exact .refl _
 rw[if_neg (by grind)]at A;simp only[go_sem];refine aL (Rx.axW x af U U.insB h.n8 h.ty) ?_;simp only[go_sem];refine aL hB ?_;generalize gB x d (oJ x) n.y8 ds=p at *;simp only[go_sem];refine aH fun i hi=>?_
 simp only[go_sem];refine aG (aB _ _ _) (by simp[yV]) ?_;simp only[go_sem];apply aA <;> intro E
 ·rw[if_pos E]at A;subst A;simp only[go_sem];exact .refl _
 rw[if_neg (by grind)]at A;obtain⟨hp,J,ae⟩:=hL (by grind);unfold PV at A;simp only[go_sem];apply aA <;> intro E
 ·rw[if_pos E]at A;simp only[go_sem,aB];refine aL (TF p.1 n.ψ hp J F.ψ) ?_;simp only[go_sem];apply aA <;> intro E
  ·rw[if_pos E]at A;subst A;simp only[go_sem];exact .refl _
  ·rw[if_neg (by grind)]at A;subst A;simp only[go_sem];exact .refl _
 rw[if_neg (by grind)]at A;obtain⟨O,ab⟩:=SB p.1 n.ψ;simp only[go_sem,aB];refine aL (XQ p.1 n.ψ hp J ae F.ψ) ?_;have aa:(nJ p.1 n.ψ).1.size<=1048576:=by
  unfold nJ;split
  ·exact Xaa _
  grind[uI]
 have ac:(nJ p.1 n.ψ).2=true->bZ (nJ p.1 n.ψ).1=true:=fun h=>by
  unfold nJ at h |-;split at h
  all_goals simp_all[IM]
 have al:(nJ p.1 n.ψ).2=true->OW (nJ p.1 n.ψ).1 o8=(zX (nJ p.1 n.ψ).1 (zed (o8-1)) == 1):=fun h=>by have E:1000000000000000000<cN:=ET (k:=19) (by decide) (by decide);exact anV (ac h) (by omega) (by omega)
 rw[<-O]at ab;rw[<-O]at A;generalize nJ p.1 n.ψ=M at *;have hw:IntKind.i64.wrap (o8-1)=o8-1:=aW (by omega);simp only[go_sem,hw];refine⟨_,fun _=>(B9 (o8-1) (by omega) (by omega)).q rfl,?_⟩;simp only[go_sem];refine⟨_,fun _=>(kR M.1 (zed (o8-1)) aa (Xaf (Bq (by omega) (by omega)) (by decide))).q rfl,?_⟩;simp only[go_sem];have hE:(!M.2|| !OW (pE p.1 n.ψ).1 o8)=(!M.2||zX M.1 (zed (o8-1)) != 1):=by grind
 rw[hE]at A;apply aA <;> intro E
 ·rw[if_pos E]at A;subst A;simp only[go_sem];exact .refl _
 ·rw[if_neg (fun h=>Bool.noConfusion (E.symm.trans h))]at A;subst A;simp only[go_sem];exact .refl _
end Nu
namespace Vy
open Go.Proofs.Tryz
open Go.Aw Go.Aw.D Go.Proofs Ty
open Go.Proofs.YtkfhgjihlbilpaaGreatDoor.Nu (ltB geB cB LeafB VarB CW WX Vu oA Ge)
open Go.Proofs.YtkfhgjihlbilpaaGreatDoor.Nu.Ps (PrOk JA)
def auY(x:Instance){d:Nat}(h:PrOk x d)(ds:List Decision)(n:TNode)(o8:Int)(A:LeafB x n ds o8):PC prog 7 [.agg (aD x),.sl (ds.map aO),.agg (bY n),int o8] (int (CW x d ds n o8)):=by
 refine pcb (fun t=>t == 11) func7 rfl rfl ?_;simp only[go_sem];refine⟨by simp,aH fun j J=>?_⟩;simp only[go_sem];refine WX x h false ds n o8 A (H:=aI bN j (some (oA x false))) (aB _ _ _) fun I E F=>?_
 simp only[go_sem];exact .refl _
def L9(x:Instance)(ds:List Decision)(n:TNode)(o8:Int)(Z:DN 1048576 x)(hI:InB x)(F:bL wP 1048576 ds)(X:Wj 1048576 n):PC prog 3 [.agg (aD x),.sl (ds.map aO),.agg (bY n),int o8] (boo true):=by
 have J:=Ge;refine pcd func3 rfl rfl ?_;simp only[go_sem];refine aL (FL x hI) ?_;simp only[go_sem,Xac];refine⟨_,fun _=>(aBE n).q rfl,?_⟩;simp only[go_sem];refine aA (fun E=>?_) (fun E=>?_)
 ·simp only[go_sem];refine aL J ?_;simp only[go_sem];exact .refl _
 simp only[Xam,Xbw,decide_eq_false_iff_not]at E;obtain⟨⟨⟨⟨c1,c2⟩,Y⟩,c4⟩,c5⟩:=E;obtain⟨U,h3,h2⟩:=adK c1;have I:xY x=[]:=by simp_all[PO]
 have hl:=F.1;have hlf:n.y8.length<=30/\n.ψ.length<=30/\∀s∈n.ψ,s.size<=60:=by
  unfold Te at Y
  grind
 have O:LeafB x n ds o8:=⟨fun t ht=>(Z.2.1.2 t ht).2.1,fun q T=>⟨(X.2.2.1.2 q T).2.2,(X.2.2.1.2 q T).2.1.2⟩,fun d A=>(F.2 d A).2.2.2,by omega,by omega,⟨by omega,fun s hs=>by grind⟩,⟨by omega,by omega⟩⟩;have hO:=auY x (JA U (by omega)) ds n o8 O;have hR:=Vu x ds n o8 U I h3 O (fun d A=>F.2 d A) (by omega) (by omega);generalize CW x (mO x.types).toNat ds n o8=w at *;simp only[go_sem];refine jD (by rfl) (by kernel_rfl) ?_;simp only[go_sem];refine⟨_,hO.q rfl,?_⟩;simp only[go_sem];refine⟨_,hR.q rfl,?_⟩;simp only[go_sem];refine⟨_,fun _=>J.q rfl,?_⟩;simp only[go_sem]
 grind[cB]
end Vy
section
open Go.Aw Go.Aw.D
theorem inB_of{x:Instance}(h:DN 1048576 x):InB x:=by obtain⟨⟨I,F⟩,A,E,O,T⟩:=h;exact⟨I.1,I.2,F.1,fun a U=>⟨(F.2 a U).2.2.2.2.1.1,(F.2 a U).2.2.2.2.2.1⟩,A.1,fun t J=>⟨(A.2 t J).1,(A.2 t J).2.2.2.2.1.1⟩,E.1,fun t J=>⟨(E.2 t J).1,(E.2 t J).2.1.1⟩,O.1,T.1⟩
theorem verifyLeaves_holds:Rows.VerifyLeavesUptoCardSaid:=verifyLeaves.card fun x ds n E A I F _=>Vy.L9 x ds n E A (inB_of A) I F
#print axioms verifyLeaves_holds
end
end Go.Proofs.YtkfhgjihlbilpaaGreatDoor
