import Derived.Lib.LaidIn
import Derived.MakeChecks
import Derived.Stop.LaidErr
import Derived.Test.YtgncgpcpbadfnaaGreatDoorVc15
set_option linter.unusedSimpArgs false
set_option linter.unusedVariables false
set_option linter.defProp false
set_option maxRecDepth 100000
namespace Go.Proofs.YtgncgpcpbadfnaaGreatDoor
open Go.Aw Go.Aw.D Go.Proofs Ty
namespace Dec
open Go.Proofs.Tryz
open Sq (nF EZ GE gF okV)
def orN(rs:List Int):Int:=rs.foldl (pP .or .i64) 0
def iA{α A:Type}{f:A->α->A}{b:A}{l:List α}{k:Nat}{x:α}(h:l[k]?=some x):(l.take (k+1)).foldl f b=f ((l.take k).foldl f b) x:=by rw[bE h,List.foldl_append];rfl
def ZJ{l:List Int}{k:Nat}{x:Int}(h:l[k]?=some x):orN (l.take (k+1))=pP .or .i64 (orN (l.take k)) x:=iA h
def xJ(us:List Int)(a:Int):Int:=if(decide (a>=0)&&decide (a<(us.length:Int)))=true then us.getD a.toNat 0 else 0
def Nr(d:Decision)(served:Bool)(n:Int):Bool:=if d.kind=5 then served else if d.kind=3 then decide (n<=d.n)else if d.kind=4 then decide (n>=d.n)else true
def zZ(d:Decision)(rs us:List Int):Bool:=rs.all (cL d)&&Nr d (dH (orN rs) d.a) (xJ us d.a)
def aeE(d:Decision)(F us:List Int)(hl:F.length<=1048576):PC prog 32 [.agg (aO d),.sl (F.map aQ),.sl (us.map aQ)] (boo (zZ d F us)):=by
 refine pcd func32 rfl rfl ?_;simp only[go_sem];refine⟨fun ρ _=>∃k:Nat,k<=F.length/\ρ 2=.sl (us.map aQ)/\ρ 3=.rp (aO d) 0/\ρ 11=.sl (F.map aQ)/\ρ 12=int F.length/\ρ 13=int k/\ρ 7=int (orN (F.take k))/\∀r∈F.take k,cL d r=true,fun ρ _=>F.length-aT (ρ 13),⟨0,Xab _,rfl,rfl,rfl,rfl,rfl,rfl,by simp⟩,?_⟩;rintro ρ H ⟨k,hk,T,O,U,M,J,I,hz⟩;simp only[go_sem,T,O,U,M,J,I];refine aA (fun E=>?_) (fun X=>?_)
 ·have E:=bA E;obtain⟨r,Y⟩:=aM E;have b1:=inB E;simp only[go_sem,T,O,U,M,J,I,aC Y,b1];refine aP (OI d r) ?_;simp only[go_sem,T,O,U,M,J,I];refine aA (fun A=>?_) (fun A=>?_)
  ·simp only[go_sem];exact cK (by unfold zZ;rw[qO Y (by simpa using A)];rfl)
  ·simp only[go_sem,T,O,U,M,J,I,aV k];exact⟨⟨k+1,E,rfl,by rw[ZJ Y],mG Y (by simpa using A) hz⟩,by simp only[aF];omega⟩
 ·have X:=bB hk X;subst X;have Z:zZ d F us=Nr d (dH (orN F) d.a) (xJ us d.a):=by unfold zZ;rw[uM hz];rfl
  rw[Xae]at I;rw[Z];simp only[go_sem,T,O,I];refine aA (fun A=>?_) (fun A=>?_)
  ·have Y:=A;simp only[Xam,decide_eq_true_eq]at Y;obtain⟨u,hu⟩:=aM (show d.a.toNat<us.length by omega);have e:xJ us d.a=u:=by unfold xJ;rw[if_pos A];simp[List.getD,hu]
   simp only[go_sem,T,O,I,aC hu];refine⟨⟨by omega,by omega⟩,?_⟩;rw[e]
   repeat' (first|(refine aP (sW _ _) ?_)|(refine⟨_,fun _=>PC.q (sW _ _) rfl,?_⟩)|(refine⟨_,PC.q (sW _ _) rfl,?_⟩)|(refine aA (fun A=>?_) (fun A=>?_))|(simp only[go_sem,T,O,I]))
   all_goals (refine cK ?_;unfold Nr;simp_all)
  ·have e:xJ us d.a=0:=by unfold xJ;rw[if_neg (by rw[A];simp)]
   simp only[go_sem,T,O,I];rw[e]
   repeat' (first|(refine aP (sW _ _) ?_)|(refine⟨_,fun _=>PC.q (sW _ _) rfl,?_⟩)|(refine⟨_,PC.q (sW _ _) rfl,?_⟩)|(refine aA (fun A=>?_) (fun A=>?_))|(simp only[go_sem,T,O,I]))
   all_goals (refine cK ?_;unfold Nr;simp_all)
abbrev eL(l:List Int):Row:=⟨3,1,l.map aQ⟩
def oC(l:List Route):List Int:=l.map fun r=>(gF r.visits).1
def EU(us:List Int)(t:Int):List Int:=if(decide (t>=0)&&decide (t<(us.length:Int)))=true then us.set t.toNat (IntKind.i64.wrap (us.getD t.toNat 0+1))else us
def oD(n:Nat)(l:List Route):List Int:=l.foldl (fun us r=>EU us r.type) (List.replicate n 0)
def GP(us:List Int)(t:Int):(EU us t).length=us.length:=by unfold EU;split <;> simp
def Ux(n:Nat)(l:List Route):(oD n l).length=n:=by
 suffices ∀(l:List Route) (us:List Int),(l.foldl (fun us r=>EU us r.type) us).length=us.length from by have:=this l (List.replicate n 0);simpa[oD]using this
 intro l;induction l with
 | nil=>intro us;rfl
 | cons r l ih=>intro us;rw[List.foldl_cons,ih,GP]
def FV{n:Nat}{l:List Route}{k:Nat}{r:Route}(h:l[k]?=some r):oD n (l.take (k+1))=EU (oD n (l.take k)) r.type:=iA h
def lZ(x:Instance)(l:List Decision)(p:Plan):Bool:=l.all fun d=>zZ d (oC p.routes) (oD x.types.length p.routes)
def Tc(x:Instance)(l:List Decision)(p:Plan)(hx:x.types.length<=1048576)(hl:l.length<=1048576)(hp:p.routes.length<=1048576)(hv:∀r∈p.routes,r.visits.length<=1048576):
  PC prog 13 [.agg (aE x),.sl (l.map aO),.agg (gA p)] (boo (lZ x l p)):=by
 refine pcb (fun t=>t == 7) func13 rfl rfl ?_;simp only[go_sem];refine aJ fun Z I=>?_
 simp only[go_sem];refine⟨by omega,?_⟩;refine aJ fun U T=>?_
 have af:Z≠U:=aR (aB _ _ _) T;simp only[go_sem];refine⟨fun ρ H=>∃k:Nat,k<=p.routes.length/\ρ 1=.sl (l.map aO)/\ρ 20=.sl (p.routes.map bI)/\ρ 21=int p.routes.length/\ρ 22=int k/\∃Z U,Z≠U/\ρ 7=.os Z/\ρ 8=.os U/\H Z=some (eL (oC (p.routes.take k)))/\H U=some (eL (oD x.types.length (p.routes.take k))),fun ρ _=>p.routes.length-aT (ρ 22),⟨0,Xab _,rfl,rfl,rfl,rfl,Z,U,af,rfl,rfl,?_,?_⟩,?_⟩
 ·rw[aD _ _ _ _ af,aB];rfl
 ·rw[aB];simp[oD,aQ]
 clear I T af;rintro ρ H ⟨k,hk,h1,A,F,E,Z,U,af,M,O,Y,H8⟩;simp only[go_sem,h1,A,F,E,M,O];refine aA (fun J=>?_) (fun X=>?_)
 ·have J:=bA J;obtain⟨r,hr⟩:=aM J;have b1:=inB J;simp only[go_sem,h1,A,F,E,M,O,aC hr,b1];refine aJ fun j hj=>?_
  have I:Z≠j:=aR Y hj;have T:U≠j:=aR H8 hj;simp only[go_sem,h1,A,F,E,M,O,aC hr,b1];refine aN (aB _ _ _) (by simp[gU]) ?_;simp only[go_sem,h1,A,F,E,M,O,aC hr,b1];refine aP (Sq.DK r (hv r (Xac hr))) ?_;simp only[go_sem,h1,A,F,E,M,O,aC hr,b1];refine aX (r:=eL (oC (p.routes.take k))) (by rw[aD _ _ _ _ I,aD _ _ _ _ I];exact Y) ⟨rfl,rfl⟩ (by simp only[go_sem]) (by simp only[oC,Xaa,Xal,Xad,List.length_nil];omega) (fun j' ag=>?_);generalize hA:aI (aI H j _) j _=HA at ag |-;have A7:HA Z=some (eL (oC (p.routes.take k))):=by rw[<-hA,aD _ _ _ _ I,aD _ _ _ _ I];exact Y
  have A8:HA U=some (eL (oD x.types.length (p.routes.take k))):=by rw[<-hA,aD _ _ _ _ T,aD _ _ _ _ T];exact H8
  have Aj:HA j=some ⟨65,4,[bI r]⟩:=by rw[<-hA,aB]
  clear hA;have e8:U≠j':=aR A8 ag;have ej:j≠j':=aR Aj ag;generalize hB:aI (aI HA Z none) j' _=HB;have B7:HB j'=some (eL (oC (p.routes.take (k+1)))):=by rw[<-hB,aB,bE hr];simp[oC,aQ]
  have B8:HB U=some (eL (oD x.types.length (p.routes.take k))):=by rw[<-hB,aD _ _ _ _ e8,aD _ _ _ _ af.symm];exact A8
  have Bj:HB j=some ⟨65,4,[bI r]⟩:=by rw[<-hB,aD _ _ _ _ ej,aD _ _ _ _ I.symm];exact Aj
  clear hB A7 A8 Aj;simp only[go_sem,h1,A,F,E,M,O,B7,B8,Bj];refine lK (fun ac H'=>ac 1=.sl (l.map aO)/\ac 20=.sl (p.routes.map bI)/\ac 21=int p.routes.length/\ac 22=int k/\ac 7=.os j'/\ac 8=.os U/\H' j'=some (eL (oC (p.routes.take (k+1))))/\H' U=some (eL (oD x.types.length (p.routes.take (k+1))))) ?_ fun K hK _ _=>aA (fun hb=>?_) (fun hb=>?_)
  ·clear h1 A F E M O Y H8 B7 B8 Bj;rintro ρ H ⟨h1,A,F,E,M,O,Y,H8⟩;simp only[go_sem,h1,A,F,E,M,O,aV k];exact⟨⟨k+1,J,rfl,_,_,e8.symm,rfl,rfl,Y,H8⟩,by simp only[aF];omega⟩
  ·have ah:=hb;simp only[Xam,decide_eq_true_eq,TR]at ah;obtain⟨u,hu⟩:=aM (show r.type.toNat<(oD x.types.length (p.routes.take k)).length by omega);simp only[go_sem,h1,A,F,E,M,O,B7,B8,Bj,aC hu];refine⟨⟨by omega,by omega⟩,by omega,⟨by omega,by omega⟩,?_⟩;refine bU so3 B8 (by simp;omega) ?_;simp only[go_sem];refine hK _ _ ⟨by simp only[go_sem,h1],by simp only[go_sem,A],by simp only[go_sem,F],by simp only[go_sem,E],by simp only[go_sem,M],by simp only[go_sem,O],?_,?_⟩
   ·rw[aD _ _ _ _ e8.symm];exact B7
   ·rw[aB,FV hr];unfold EU;rw[if_pos (by simpa using ah)];simp[aQ,List.getD,hu,List.map_set,lV]
  ·simp only[go_sem];refine hK _ _ ⟨by simp only[go_sem,h1],by simp only[go_sem,A],by simp only[go_sem,F],by simp only[go_sem,E],by simp only[go_sem,M],by simp only[go_sem,O],B7,?_⟩;rw[B8,FV hr];unfold EU;rw[if_neg (by rw[hb];simp)]
 ·have X:=bB hk X;subst X;rw[Xae]at Y H8;simp only[go_sem,h1,A,F,E,M,O];refine⟨fun ρ H=>∃k:Nat,k<=l.length/\ρ 7=.os Z/\ρ 8=.os U/\ρ 53=.sl (l.map aO)/\ρ 54=int l.length/\ρ 55=int k/\H Z=some (eL (oC p.routes))/\H U=some (eL (oD x.types.length p.routes))/\∀d∈l.take k,zZ d (oC p.routes) (oD x.types.length p.routes)=true,fun ρ _=>l.length-aT (ρ 55),⟨0,Xab _,by simp only[go_sem,M],by simp only[go_sem,O],rfl,rfl,rfl,Y,H8,by simp⟩,?_⟩;clear h1 A F E M O Y H8 hk;rintro ρ H ⟨k,hk,M,O,ae,aa,ab,Y,H8,hz⟩;simp only[go_sem,M,O,ae,aa,ab];refine aA (fun J=>?_) (fun X=>?_)
  ·have J:=bA J;obtain⟨d,hd⟩:=aM J;have b1:=inB J;simp only[go_sem,M,O,ae,aa,ab,aC hd,b1];refine aJ fun j hj=>?_
   have I:Z≠j:=aR Y hj;have T:U≠j:=aR H8 hj;simp only[go_sem,M,O,ae,aa,ab,aC hd,b1];refine aN (aB _ _ _) (by simp[gK]) ?_;simp only[go_sem,M,O,ae,aa,ab,aC hd,b1];refine dD.use ⟨[.agg (aO d),.sl ((oC p.routes).map aQ),.sl ((oD x.types.length p.routes).map aQ)],.cons _ _ _ _ (.refl _) (.cons _ _ _ _ (.row _ _ _ (by rw[aD _ _ _ _ I,aD _ _ _ _ I];exact Y) (ConvE.refl _)) (.cons _ _ _ _ (.row _ _ _ (by rw[aD _ _ _ _ T,aD _ _ _ _ T];exact H8) (ConvE.refl _)) .nil)),aeE d _ _ (by simpa[oC]using hp),rfl⟩ ?_;simp only[go_sem,M,O,ae,aa,ab];refine aA (fun hb=>?_) (fun hb=>?_)
   ·simp only[go_sem];exact cK (qO hd (by simpa using hb)).symm
   ·simp only[go_sem,M,O,ae,aa,ab,aV k];exact⟨⟨k+1,J,rfl,by rw[aD _ _ _ _ I,aD _ _ _ _ I];exact Y,by rw[aD _ _ _ _ T,aD _ _ _ _ T];exact H8,mG hd (by simpa using hb) hz⟩,by simp only[aF];omega⟩
  ·have X:=bB hk X;subst X;simp only[go_sem];exact cK (uM hz).symm
def Ft(s:Nat)(i:Int):kS (s:Int) i=s.testBit i.toNat:=by
 rw[Nat.testBit_eq_decide_div_mod_eq];unfold kS;have:((s:Int)/2^i.toNat)=((s/2^i.toNat:Nat):Int):=by
  have A:((2:Int)^i.toNat)=((2^i.toNat:Nat):Int):=by norm_cast
  rw[A];rfl
 rw[this];generalize s/2^i.toNat=m;rw[Xap];simp only[Xba,decide_eq_true_eq];omega
def pC(r:Route):Prop:=∀v∈r.visits,0<=v.order/\v.order<=61
def UZ{r:Route}(h:pC r):nF r.visits<2^62:=EZ _ fun v A=>by have:=h v A;omega
def zY(l:List Route)(t:Int):Nat:=l.countP fun r=>r.type == t
def agB(l:List Route):Nat:=l.foldl (fun s r=>s ||| nF r.visits) 0
def Gf{x:Instance}{d:Decision}(h:dC x d=0):
  ((d.kind=1\/d.kind=2)/\(0<=d.a/\d.a<(x.orders.length:Int))/\(0<=d.b/\d.b<(x.orders.length:Int))/\d.a≠d.b) \/
  ((d.kind=5\/d.kind=6)/\(0<=d.a/\d.a<(x.orders.length:Int))) \/
  ((d.kind=3\/d.kind=4)/\(0<=d.a/\d.a<(x.types.length:Int))/\0<=d.n/\d.n<=10):=by
 unfold dC at h;split at h
 ·rename_i E;split at h
  ·rename_i A;left;simp only[yP,Xam,decide_eq_true_eq,bne_iff_ne,ne_eq]at A;exact⟨E,⟨A.1.1.1,A.1.1.2⟩,⟨A.1.2.1,A.1.2.2⟩,A.2⟩
  ·simp at h
 ·split at h
  ·rename_i E;split at h
   ·rename_i A;right;left;simp only[yP,Xam,decide_eq_true_eq]at A;exact⟨E,A.1,A.2⟩
   ·simp at h
  ·split at h
   ·rename_i E;split at h
    ·rename_i A;right;right;simp only[Xam,decide_eq_true_eq]at A;exact⟨E,⟨A.1.1.1,A.1.1.2⟩,A.1.2,A.2⟩
    ·simp at h
   ·simp at h
def Ja{s i:Int}(h:0<=i/\i<=62):dH s i=kS s i:=by
 unfold dH kS;have h1:decide (i>=0)=true:=by simpa using h.1
 have A:decide (i<=62)=true:=by simpa using h.2
 rw[h1,A];rfl
def Dj{α:Type}{p q:α->Bool}{l:List α}(h:∀x∈l,p x=q x):l.all p=l.all q:=by rw[Xap,Xaj,Xaj];exact⟨fun E x A=>(h x A)▸E x A,fun E x A=>(h x A).symm▸E x A⟩
def iM(r:Route)(i:Int):Bool:=r.visits.any fun v=>v.order == i
def KG{r:Route}(h:pC r){i:Int}(E:0<=i):kS (nF r.visits:Nat) i=iM r i:=by
 rw[Ft,GE];unfold iM;rw[Xap,Xao,Xao];constructor
 ·rintro⟨v,A,e⟩;refine⟨v,A,?_⟩;have:=h v A;simp only[Xba]at e |-;omega
 ·rintro⟨v,A,e⟩;refine⟨v,A,?_⟩;simp only[Xba]at e |-;omega
def zP{r:Route}(h:pC r){i:Int}(A:0<=i/\i<=62):dH (nF r.visits:Nat) i=iM r i:=(Ja A).trans (KG h A.1)
def SV{l:List Route}(h:∀r∈l,pC r):oC l=l.map fun r=>((nF r.visits:Nat):Int):=by
 unfold oC;refine List.map_congr_left fun r E=>?_
 unfold gF;rw[if_pos];rw[Xaj];intro v A;have:=h r E v A;simp[okV];omega
def aeJ{l:List Route}(h:∀r∈l,pC r):orN (l.map fun r=>((nF r.visits:Nat):Int))=(agB l:Nat):=by
 suffices ∀(l:List Route) (s:Nat),s<2^62->(∀r∈l,pC r)->(l.map fun r=>((nF r.visits:Nat):Int)).foldl (pP .or .i64) (s:Int)=((l.foldl (fun s r=>s ||| nF r.visits) s:Nat):Int)from this l 0 (by decide) h
 intro l;induction l with
 | nil=>intro s _ _;rfl
 | cons r l ih=>intro s F A;have h1:=UZ (A r (by simp));rw[Xaw,List.foldl_cons,List.foldl_cons,yX (by omega) (by omega)];exact ih _ (Xbx F h1) fun r E=>A r (by simp[E])
def Z7(l:List Route)(i:Nat):(agB l).testBit i=l.any fun r=>(nF r.visits).testBit i:=by
 suffices ∀(l:List Route) (s:Nat),(l.foldl (fun s r=>s ||| nF r.visits) s).testBit i=(s.testBit i||l.any fun r=>(nF r.visits).testBit i)from by have:=this l 0;simpa[agB]using this
 intro l;induction l with
 | nil=>intro s;simp
 | cons r l ih=>intro s;rw[List.foldl_cons,ih,Nat.testBit_or,List.any_cons,Bool.or_assoc]
def Wq{α:Type}{p q:α->Bool}{l:List α}(h:∀x∈l,p x=q x):l.any p=l.any q:=by rw[Xap,Xao,Xao];exact⟨fun⟨x,A,E⟩=>⟨x,A,(h x A)▸E⟩,fun⟨x,A,E⟩=>⟨x,A,(h x A).symm▸E⟩⟩
def ahR{l:List Route}(h:∀r∈l,pC r){i:Int}(A:0<=i/\i<=62):dH (orN (oC l)) i=l.any fun r=>iM r i:=by
 rw[SV h,aeJ h,Ja A,Ft,Z7];refine Wq fun r E=>?_
 rw[<-KG (h r E) A.1,Ft]
def aaO(n:Nat)(l:List Route)(O:l.length<=1048576){a:Int}(M:0<=a/\a<(n:Int)):xJ (oD n l) a=(zY l a:Nat):=by
 have I:=Ux n l;have e:xJ (oD n l) a=(oD n l).getD a.toNat 0:=by unfold xJ;rw[if_pos];simp;omega
 rw[e]
 suffices ∀(l:List Route) (us:List Int) (c:Nat),us.length=n->us.getD a.toNat 0=(c:Int)->c+l.length<=4000000->(l.foldl (fun us r=>EU us r.type) us).getD a.toNat 0=((c+zY l a:Nat):Int)from by have:=this l (List.replicate n 0) 0 (by simp) (by simp[List.getD,List.getElem?_replicate];split <;> rfl) (by omega);rw[Nat.zero_add]at this;exact this
 intro l;induction l with
 | nil=>intro us c h1 A _;simpa[zY]using A
 | cons r l ih=>
  intro us c h1 A J;rw[List.foldl_cons];have E:zY (r::l) a=zY l a+(if r.type == a then 1 else 0):=by simp[zY,List.countP_cons]
  rw[E];simp only[Xad]at J;by_cases e:r.type=a
  ·have F : (EU us r.type).getD a.toNat 0 = ((c + 1 : Nat) : Int) := by
    unfold EU;rw[e,if_pos (by simp;omega),A];have:a.toNat<us.length:=by omega
    simp[List.getD,this];rw[bG (by omega)]
   rw[ih _ (c+1) (by rw[GP];exact h1) F (by omega)];simp[e];omega
  ·have F : (EU us r.type).getD a.toNat 0 = (c : Int) := by
    unfold EU;split
    ·rename_i E;simp only[Xam,decide_eq_true_eq]at E;have:r.type.toNat≠a.toNat:=by omega
     simpa[List.getD,List.getElem?_set,this]using A
    ·exact A
   rw[ih _ c (by rw[GP];exact h1) F (by omega)];simp[e]
def nW(d:Decision)(p:Plan):Bool:=
 if d.kind=1 then p.routes.all fun r=>iM r d.a == iM r d.b
 else if d.kind=2 then p.routes.all fun r=> !iM r d.a|| !iM r d.b
 else if d.kind=5 then p.routes.any fun r=>iM r d.a
 else if d.kind=6 then p.routes.all fun r=> !iM r d.a
 else if d.kind=3 then decide ((zY p.routes d.a:Int)<=d.n)
 else decide ((zY p.routes d.a:Int)>=d.n)
def Em{x:Instance}{d:Decision}{p:Plan}(X:x.orders.length<=62)(h:dC x d=0)(F:∀r∈p.routes,pC r)(O:p.routes.length<=1048576):zZ d (oC p.routes) (oD x.types.length p.routes)=nW d p:=by
 have I:(oC p.routes).all (cL d)=p.routes.all fun r=>cL d (nF r.visits:Nat):=by rw[SV F,List.all_map];rfl
 have T:(p.routes.all fun _=>true)=true:=by simp
 unfold zZ;rw[I];unfold nW Nr cL;rcases Gf h with⟨A,J,U,_⟩|⟨A,J⟩|⟨A,J,_⟩
 ·rcases A with A|A
  ·simp only[A];simp;refine Dj fun r E=>?_
   rw[zP (i:=d.a) (F r E) (by omega),zP (i:=d.b) (F r E) (by omega)]
  ·simp only[A];simp;refine Dj fun r E=>?_
   rw[zP (i:=d.a) (F r E) (by omega),zP (i:=d.b) (F r E) (by omega)]
 ·rcases A with A|A
  ·simp only[A];simp;rw[T,Xbf];exact ahR (i:=d.a) F (by omega)
  ·simp only[A];simp;refine Dj fun r E=>?_
   rw[zP (i:=d.a) (F r E) (by omega)]
 ·have M:=aaO x.types.length p.routes O J;rcases A with A|A
  ·simp only[A,M];simp
  ·simp only[A,M];simp
def Tk{x:Instance}{d:Decision}{p:Plan}(ho:x.orders.length<=62)(h:dC x d=0)(h2:dC x (mQ d)=0)(hs:∀r∈p.routes,pC r)(hl:p.routes.length<=1048576)
   (sg:∀(i j:Nat) (r s:Route),p.routes[i]?=some r->p.routes[j]?=some s->∀o:Int,0<=o->o<(x.orders.length:Int)->iM r o=true->iM s o=true->i=j):lZ x [mQ d] p=true\/lZ x [d] p=true:=by
 have hd:lZ x [d] p=nW d p:=by simp only[lZ,List.all_cons,List.all_nil,Bool.and_true];exact Em ho h hs hl
 have J:lZ x [mQ d] p=nW (mQ d) p:=by simp only[lZ,List.all_cons,List.all_nil,Bool.and_true];exact Em ho h2 hs hl
 rw[hd,J,<-Xbm];clear hd J;obtain⟨k,a,b,n⟩:=d
 -- a plan in which a and b are not always A has them never A
 have A:∀{a b:Int},0<=a/\a<(x.orders.length:Int)->0<=b/\b<(x.orders.length:Int)->(p.routes.all fun r=>iM r a == iM r b)=false->(p.routes.all fun r=> !iM r a|| !iM r b)=true:=by
   intro a b I X T;rw[List.all_eq_false]at T;obtain⟨r,hr,F⟩:=T;obtain⟨i,hi⟩:=List.mem_iff_getElem?.1 hr;rw[Xaj];intro s ac;obtain⟨j,U⟩:=List.mem_iff_getElem?.1 ac;cases Z:iM s a with
   | false=>rfl
   | true=>
     cases Y:iM s b with
     | false=>rfl
     | true=>
       exfalso;have e:i=j:=by
         cases aa:iM r a with
         | true=>exact sg i j r s hi U a I.1 I.2 aa Z
         | false=>
           cases ab:iM r b with
           | true=>exact sg i j r s hi U b X.1 X.2 ab Y
           | false=>rw[aa,ab]at F;simp at F
       subst e;rw[hi]at U;injection U with U;subst U;rw[Z,Y]at F;simp at F
 rcases Gf h with⟨E,I,X,F⟩|⟨E,I⟩|⟨E,I,h1,h2⟩
 . simp only at E I X F;rcases E with E|E <;> subst E
   . have M:nW (mQ ⟨1,a,b,n⟩) p=p.routes.all fun r=> !iM r a|| !iM r b:=rfl
     have O:nW ⟨1,a,b,n⟩ p=p.routes.all fun r=>iM r a == iM r b:=rfl
     rw[M,O];cases T:p.routes.all fun r=>iM r a == iM r b with
     | true=>rw[Bool.or_true]
     | false=>rw[A I X T];rfl
   . have M:nW ⟨2,a,b,n⟩ p=p.routes.all fun r=> !iM r a|| !iM r b:=rfl
     have O:nW (mQ ⟨2,a,b,n⟩) p=p.routes.all fun r=>iM r a == iM r b:=rfl
     rw[M,O];cases T:p.routes.all fun r=>iM r a == iM r b with
     | true=>rfl
     | false=>rw[A I X T];rfl
 . simp only at E I;have nn:(p.routes.all fun r=> !iM r a)= !(p.routes.any fun r=>iM r a):=(List.not_any_eq_all_not ..).symm;rcases E with E|E <;> subst E
   . have M:nW ⟨5,a,b,n⟩ p=p.routes.any fun r=>iM r a:=rfl
     have O:nW (mQ ⟨5,a,b,n⟩) p=p.routes.all fun r=> !iM r a:=rfl
     rw[M,O,nn];cases p.routes.any fun r=>iM r a <;> rfl
   . have M:nW (mQ ⟨6,a,b,n⟩) p=p.routes.any fun r=>iM r a:=rfl
     have O:nW ⟨6,a,b,n⟩ p=p.routes.all fun r=> !iM r a:=rfl
     rw[M,O,nn];cases p.routes.any fun r=>iM r a <;> rfl
 . simp only at E I h1 h2;rcases E with E|E <;> subst E
   . simp only[mQ,nW];simp;rw[bG (by omega)];omega
   . simp only[mQ,nW];simp;rw[bG (by omega)];omega
end Dec
namespace Ve
open Go.Ve Dec
open Go.Proofs.YtgncgpcpbadfnaaGreatDoor.Nu
def UE{l:List TNode}(E:pV l=true)(F:nV TNode.leaf TNode.yes TNode.no l=true)(A:l≠[]){k:Nat}{d:List Decision}(h:EL l k d):d.length<l.length:=by obtain⟨V,I⟩:=E9 E F _ [] [0] (Xag _) (BInv.start A);obtain⟨M,h1,J⟩:=I.short h;rw[wJ F E h h1];exact J
end Ve
end Go.Proofs.YtgncgpcpbadfnaaGreatDoor
section
namespace Go.Aw.D
open Go.Aw Go.RowKit Go.Proofs Go.Proofs.YtgncgpcpbadfnaaGreatDoor Go.WideShapes Go.ChangeShapes
def Kb:List (String×DataW Unit):=[("math/bits.deBruijn32tab",Go.Proofs.YtgncgpcpbadfnaaGreatDoor.Rows.laid_math_bits_deBruijn32tab),("math/bits.deBruijn64tab",Go.Proofs.YtgncgpcpbadfnaaGreatDoor.Rows.laid_math_bits_deBruijn64tab),("internal/strconv.uint64pow10",Go.Proofs.YtgncgpcpbadfnaaGreatDoor.Rows.laid_internal_strconv_uint64pow10)]
theorem X5:(Go.Proofs.YtgncgpcpbadfnaaGreatDoor.Rows.laid_math_bits_deBruijn64tab:DataW Unit)=Lib.tabData .u8 (Lib.deBruijn64tab.map fun z:Nat=>(z:Int)):=by kernel_rfl
theorem ZZ:(Go.Proofs.YtgncgpcpbadfnaaGreatDoor.Rows.laid_internal_strconv_uint64pow10:DataW Unit)=Lib.tabData .u64 Lib.pow10Tab:=by kernel_rfl
theorem VD{W:World}(h:laidMetH Tryz.prog Kb W):J9 W:=by
 have h0:laidMet Tryz.prog Kb W:=(Go.MakeChecks.laidMetH_plain Tryz.prog Kb W (by kernel_rfl))▸h;have h1:=laidMet.tail h0;have E:=laidMet.tail h1;rw[X5]at h1;rw[ZZ]at E;have b:=Lib.tabIs_of_head (g:=3) (by kernel_rfl) (by kernel_rfl) (t:=369) (e:=5) (n:=64) Tryz.underlying369 Tryz.underlying5 (by kernel_rfl) (by kernel_rfl) h1;have p:=Lib.tabIs_of_head (g:=1) (by kernel_rfl) (by kernel_rfl) (t:=359) (e:=340) (n:=20) Tryz.underlying359 Tryz.underlying340 (by kernel_rfl) (by kernel_rfl) E;unfold Lib.TabIs World.var? at b p;rw[show Tryz.prog.globalNamed "math/bits.deBruijn64tab" = some 3 by kernel_rfl]at b;rw[show Tryz.prog.globalNamed "internal/strconv.uint64pow10" = some 1 by kernel_rfl]at p;intro t A;simp only[VV,List.mem_cons,List.not_mem_nil,or_false]at A;rcases A with rfl|rfl
 . exact p
 . have:QG=((Lib.deBruijn64tab.map fun z:Nat=>(z:Int)).map fun z=>Value.int .u8 z).toArray:=by simp[QG]
   rw[this];exact b
end Go.Aw.D
end
