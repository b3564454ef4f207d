import Derived.Test.YtgncgpcpbadfnaaGreatDoorVc17
import Derived.Test.YtgncgpcpbadfnaaGreatDoorVc21
set_option linter.unusedSimpArgs false
set_option linter.unusedVariables false
set_option linter.defProp false
set_option maxRecDepth 100000
namespace Go.Proofs.YtgncgpcpbadfnaaGreatDoor
namespace Sq
open Go.Proofs.Tryz
open Go.Aw Go.Aw.D Go.Proofs Ty
open Go.Proofs.YtgncgpcpbadfnaaGreatDoor.Nu (ltB geB)
open Dec (aS)
abbrev uU(l:List Int):Row:=⟨3,1,l.map aQ⟩
def oF(r:Route)(i:Nat):Int:=(gF r.visits).1/2^i%2
def xU(l:List Route)(i:Nat):Int:=(l.map fun r=>oF r i).sum
def oZ(n:Nat)(l:List Route):List Int:=(List.range n).map fun i=>xU l i
def rT(n:Nat)(l:List Route)(r:Route)(m:Nat):List Int:=(List.range n).map fun i=>xU l i+if i<m then oF r i else 0
def ZK(l:List Route)(r:Route)(i:Nat):xU (l++[r]) i=xU l i+oF r i:=by simp[xU]
def Pj(n:Nat)(l:List Route)(r:Route):rT n l r 0=oZ n l:=by simp[rT,oZ]
def Qo(n:Nat)(l:List Route)(r:Route):rT n l r n=oZ n (l++[r]):=by
 unfold rT oZ;refine List.map_congr_left fun i A=>?_
 rw[if_pos (Xav.1 A),ZK]
def Lc(r:Route)(i:Nat):0<=oF r i/\oF r i<=1:=by unfold oF;omega
def SR(l:List Route)(i:Nat):0<=xU l i/\xU l i<=l.length:=by
 induction l with
 | nil=>simp[xU]
 | cons r l ih=>have:=Lc r i;unfold xU at ih |-;rw[Xaw,List.sum_cons,Xad];omega
def CT{n:Nat}{l:List Route}{r:Route}{m i:Nat}(h:i<n):(rT n l r m)[i]?=some (xU l i+if i<m then oF r i else 0):=by unfold rT;rw[List.getElem?_map,List.getElem?_range h];rfl
def Vr{n:Nat}{l:List Route}{r:Route}{m:Nat}(h:m<n):(rT n l r m).set m (xU l m+oF r m)=rT n l r (m+1):=by
 refine List.ext_getElem? fun i=>?_
 have E:(rT n l r m).length=n:=by simp[rT]
 by_cases A:i<n
 ·rw[CT A,List.getElem?_set];by_cases e:m=i
  ·subst e;simp[E,h]
  ·rw[if_neg e,CT A];by_cases F:i<m
   ·rw[if_pos F,if_pos (by omega)]
   ·rw[if_neg F,if_neg (by omega)]
 ·rw[List.getElem?_eq_none (by rw[Xbe,E];omega),List.getElem?_eq_none (by simp[rT];omega)]
def abO(l:List Visit):0<=(gF l).1/\(gF l).1<9223372036854775808:=by
 unfold gF;split
 ·rename_i h;rw[Xaj]at h;have:=EZ (m:=63) l fun v A=>by have:=h v A;unfold okV at this;simp at this;omega
  have e:(2:Nat)^63=9223372036854775808:=by decide
  simp only;omega
 ·exact⟨by decide,by decide⟩
def fP(n:Nat)(l:List Int):List Int:=(List.range n).map fun i:Nat=>(l.countP (fun u=>u == (i:Int)):Int)
def On{n:Nat}{l:List Int}{u:Int}{i:Nat}(J:u=(i:Int))(F:i<n):(fP n l).set i ((l.countP (fun w=>w == (i:Int)):Int)+1)=fP n (l++[u]):=by
 subst J;refine List.ext_getElem? fun m=>?_
 have E:(fP n l).length=n:=by simp[fP]
 by_cases I:m<n
 ·have e:∀l',(fP n l')[m]?=some (l'.countP (fun u=>u == (m:Int)):Int):=fun l'=>by unfold fP;rw[List.getElem?_map,List.getElem?_range I];rfl
  rw[e,List.getElem?_set,List.countP_append];by_cases A:i=m
  ·subst A;simp[E,F]
  ·rw[if_neg A,e];simp[show ¬((i:Int)=(m:Int))by omega]
 ·rw[List.getElem?_eq_none (by rw[Xbe,E];omega),List.getElem?_eq_none (by simp[fP];omega)]
def Gm(n:Nat):(some ⟨3,1,List.replicate n [int 0]⟩:Option Row)=some (uU (oZ n [])):=by
 have:oZ n []=List.replicate n 0:=by unfold oZ;rw[List.eq_replicate_iff];simp[xU]
 rw[this];simp[aQ]
def CR(n:Nat):(some ⟨3,1,List.replicate n [int 0]⟩:Option Row)=some (uU (fP n [])):=by
 have:fP n []=List.replicate n 0:=by unfold fP;rw[List.eq_replicate_iff];simp
 rw[this];simp[aQ]
def WX(x:Instance)(p:Plan)(hx:x.orders.length<=62)(hp:PlanB p):PC prog 25 [.agg (aE x),.agg (gA p)]
  (.tup [.sl ((if(p.unserved.any fun u=>cD u x.orders.length)=true then[]else oZ x.orders.length p.routes).map aQ),.sl ((if(p.unserved.any fun u=>cD u x.orders.length)=true then[]else fP x.orders.length p.unserved).map aQ),boo !(p.unserved.any fun u=>cD u x.orders.length)]):=by
 have bi:=hp.routes;have bg:=hp.unserved;refine pcd func25 rfl rfl ?_;simp only[go_sem];refine lL [] (.q 0 (.q 1 (.q 2 (.q 4 (.q 5 (.q 6 (.a2 3 (.q 8 (.a1 7 (.q 9 .nil))) 7 (.a1 3 (.q 8 (.q 9 .nil))))))))))
  (fun ah H'=>ah 2=.rp (aE x) 0/\ah 3=.rp (gA p) 0/\∃j4 j5,ah 4=.os j4/\ah 5=.os j5/\j4≠j5/\H' j4=some (uU (oZ x.orders.length []))/\H' j5=some (uU (fP x.orders.length []))) (by simp) (by kernel_rfl) (fun K' ar Hp Hr bb hr _ be=>?_) ?_
 ·simp only[go_sem];refine jN ?_ ?_
  ·simp only[go_sem];refine⟨by omega,aJ fun ja az=>?_⟩;simp only[go_sem];refine⟨by omega,aJ fun jb ay=>?_⟩;have ne:=aR (aB _ _ _) ay;simp only[go_sem];refine dX fun _ Hm _ h2=>ar _ _ ⟨by simp only[go_sem],by simp only[go_sem],ja,jb,by simp only[go_sem],by simp only[go_sem],ne,?_,?_⟩
   ·rw[h2 ja (by simp),aD _ _ _ _ ne,aB,Gm]
   ·rw[h2 jb (by simp),aB,CR]
  ·simp only[go_sem];refine⟨by omega,aJ fun jb ay=>?_⟩;simp only[go_sem];refine⟨by omega,aJ fun ja az=>?_⟩;have ne:=aR (aB _ _ _) az;simp only[go_sem];refine dX fun _ Hm _ h2=>ar _ _ ⟨by simp only[go_sem],by simp only[go_sem],ja,jb,by simp only[go_sem],by simp only[go_sem],ne.symm,?_,?_⟩
   ·rw[h2 ja (by simp),aB,Gm]
   ·rw[h2 jb (by simp),aD _ _ _ _ ne,aB,CR]
 ·rintro ρ H ⟨J,O,j4,j5,M,I,au,U,X⟩;simp only[go_sem,J,O,M,I];refine⟨fun ρ H=>∃(k:Nat),k<=p.routes.length/\ρ 2=.rp (aE x) 0/\ρ 3=.rp (gA p) 0/\ρ 23=.sl (p.routes.map bI)/\ρ 4=.os j4/\ρ 5=.os j5/\ρ 24=int (p.routes.length:Nat)/\ρ 25=int k/\H j4=some (uU (oZ x.orders.length (p.routes.take k)))/\H j5=some (uU (fP x.orders.length [])),fun ρ _=>p.routes.length-aT (ρ 25),⟨0,Xab _,by simp only[go_sem,J,O,M,I],by simp only[go_sem,J,O,M,I],by simp only[go_sem,J,O,M,I],by simp only[go_sem,J,O,M,I],by simp only[go_sem,J,O,M,I],by simp only[go_sem,Xaa,J,O,M,I],(by simp only[go_sem,J,O,M,I];rfl),U,X⟩,?_⟩;rintro ρ H ⟨k,hk,J,O,F,M,I,A,E,U,X⟩;simp only[go_sem,J,O,F,M,I,A,E];refine aA (fun T=>?_) (fun Y=>?_)
  ·have T:=ltB (by simpa using T);obtain⟨r,hr⟩:=aM T;have b1:=inB T;have hs:=bE hr;have bc:(p.routes.take k).length<=k:=by rw[Xal];omega
   have a8:=fun i=>SR (p.routes.take k) i
   rw[<-Pj x.orders.length (p.routes.take k) r]at U;generalize p.routes.take k=PR at *;simp only[go_sem,J,O,F,M,I,A,E,aC hr,b1];refine aJ fun i8 am=>?_
   simp only[go_sem,J,O,F,M,I,A,E,aC hr,b1,U,X];refine bP am (by simp[gU]) fun av (R8:av i8=some (⟨65,4,[bI r]⟩)) N=>?_
   replace U:=N U;obtain⟨aq,U⟩:=U;replace X:=N X;obtain⟨ap,X⟩:=X;clear N am;simp only[go_sem,J,O,F,M,I,A,E,aC hr,b1,R8,U,X];refine aP (DK r (hp.visits r (Xac hr))) ?_;have a6:=abO r.visits;have ax:∀i,oF r i=(gF r.visits).1/2^i%2:=fun i=>rfl
   generalize (gF r.visits)=OV at *;obtain⟨s,e⟩:=OV;simp only at a6 ax;simp only[go_sem,J,O,F,M,I,A,E,U];have aj:∀m,(rT x.orders.length PR r m).length=x.orders.length:=fun m=>by simp[rT]
   refine⟨fun ρ H=>∃m:Nat,m<=x.orders.length/\ρ 2=.rp (aE x) 0/\ρ 3=.rp (gA p) 0/\ρ 4=.os j4/\ρ 5=.os j5/\ρ 9=int s/\ρ 23=.sl (p.routes.map bI)/\ρ 24=int p.routes.length/\ρ 25=int (k:Nat)/\ρ 35=int x.orders.length/\ρ 36=int (m:Nat)/\H j4=some (uU (rT x.orders.length PR r m))/\H j5=some (uU (fP x.orders.length [])),fun ρ _=>x.orders.length-aT (ρ 36),⟨0,Xab _,by simp only[go_sem,J,O,F,M,I,A,E],by simp only[go_sem,J,O,F,M,I,A,E],by simp only[go_sem,J,O,F,M,I,A,E],by simp only[go_sem,J,O,F,M,I,A,E],by simp only[go_sem,J,O,F,M,I,A,E],by simp only[go_sem,J,O,F,M,I,A,E],by simp only[go_sem,J,O,F,M,I,A,E],by simp only[go_sem,J,O,F,M,I,A,E],(by simp only[go_sem,J,O,F,M,I,A,E,Xaa,aj]),(by simp only[go_sem,J,O,F,M,I,A,E];rfl),U,X⟩,?_⟩;clear J O M I F A E U X;rintro ρ H ⟨m,hm,J,O,M,I,e9,F,A,E,ai,al,U,X⟩;simp only[go_sem,J,O,M,I,e9,F,A,E,ai,al];refine NZ hm (fun af=>?_) (fun a7=>?_)
   ·have ao:=CT (l:=PR) (r:=r) (m:=m) af;rw[if_neg (Nat.lt_irrefl m),Int.add_zero]at ao;have b3:=inB (show m<(rT x.orders.length PR r m).length by rw[aj];exact af);have bh:=a8 m;have bd:=Lc r m;have Z:=Vr (l:=PR) (r:=r) af;have a0:pP .and .i64 (shV .shr .i64 s (m:Int)) 1=oF r m:=by rw[wW (by omega),ax];exact aiU _
    simp only[go_sem,J,O,M,I,e9,F,A,E,ai,al];refine CN [(0,true),(1,true),(4,true),(5,true),(6,true),(7,true),(2,false),(3,false),(8,false),(9,false),(10,false)] (by kernel_rfl) ?_;simp only[go_sem,J,O,M,I,e9,F,A,E,ai,al,U,aC ao,b3,Xaa,aj];refine⟨by omega,by omega,by omega,?_⟩;rw[a0,bG (by omega)];refine bU so3 U (by simp[aj];omega) ?_;simp only[go_sem,J,O,M,I,e9,F,A,E,ai,al,aV m];refine⟨⟨m+1,af,rfl,?_,?_⟩,msr af⟩
    ·rw[<-Z];simp[aQ,List.map_set,List.getD,ao]
    ·rw[aD _ _ _ _ au.symm];exact X
   ·subst a7;rw[Qo,<-hs]at U;simp only[go_sem,J,O,M,I,F,A,E,aV k];exact⟨⟨k+1,T,rfl,U,X⟩,msr T⟩
  have Y:=geB hk (by simpa using Y);subst Y;rw[Xae]at U;clear F A E;have ba:∀l:List Int,(fP x.orders.length l).length=x.orders.length:=fun l=>by simp[fP]
  simp only[go_sem,J,O,M,I];refine⟨fun ρ H=>∃(k:Nat),k<=p.unserved.length/\ρ 2=.rp (aE x) 0/\ρ 52=.sl (p.unserved.map aQ)/\ρ 4=.os j4/\ρ 5=.os j5/\ρ 53=int (p.unserved.length:Nat)/\ρ 54=int k/\H j4=some (uU (oZ x.orders.length p.routes))/\H j5=some (uU (fP x.orders.length (p.unserved.take k)))/\(∀u∈p.unserved.take k,cD u x.orders.length=false),fun ρ _=>p.unserved.length-aT (ρ 54),⟨0,Xab _,by simp only[go_sem,J,O,M,I],by simp only[go_sem,J,O,M,I],by simp only[go_sem,J,O,M,I],by simp only[go_sem,J,O,M,I],by simp only[go_sem,Xaa,J,O,M,I],(by simp only[go_sem,J,O,M,I];rfl),U,X,by simp⟩,?_⟩;rintro ρ H ⟨k,hk,J,ac,M,I,ag,ae,U,X,hz⟩;simp only[go_sem,J,ac,M,I,ag,ae];refine aA (fun T=>?_) (fun Y=>?_)
  ·have T:=ltB (by simpa using T);obtain⟨u,hu⟩:=aM T;have b1:=inB T;have hs:=bE hu;have a5:∀i:Nat,(p.unserved.take k).countP (fun w=>w == (i:Int))<=k:=fun i=>Xai List.countP_le_length (by rw[Xal];omega)
   have Z:∀i:Nat,u=(i:Int)->i<x.orders.length->(fP x.orders.length (p.unserved.take k)).set i (((p.unserved.take k).countP (fun w=>w == (i:Int)):Int)+1)=fP x.orders.length (p.unserved.take (k+1)):=fun i h1 h2=>by rw[hs];exact On h1 h2
   have aw:∀i:Nat,i<x.orders.length->(fP x.orders.length (p.unserved.take k))[i]?=some ((p.unserved.take k).countP (fun w=>w == (i:Int)):Int):=fun i hi=>by unfold fP;rw[List.getElem?_map,List.getElem?_range hi];rfl
   have ab:=ba (p.unserved.take k);have a9:cD u x.orders.length=false->∀w∈p.unserved.take (k+1),cD w x.orders.length=false:=fun h=>aS hu h hz
   generalize p.unserved.take k=PU at *;simp only[go_sem,J,ac,M,I,ag,ae,aC hu,b1,Xaa];refine aA (fun hb=>?_) (fun hb=>?_)
   ·have aa:(p.unserved.any fun u=>cD u x.orders.length)=true:=Xao.2 ⟨u,Xac hu,hb⟩;rw[if_pos aa,if_pos aa,aa];simp only[go_sem];exact .refl _
   ·have a4:cD u x.orders.length=false:=hb;simp only[cD,Xah,decide_eq_false_iff_not]at hb;obtain⟨i,hi⟩:=Int.eq_ofNat_of_zero_le (show 0<=u by omega);have ak:i<x.orders.length:=by omega
    have hg:=aw i ak;have bf:=a5 i;have b3:=inB (show i<(fP x.orders.length PU).length by rw[ab];exact ak);subst hi;simp only[go_sem,J,ac,M,I,ag,ae,X,aC hg,b3,Xaa];refine⟨by rw[ab];exact ak,?_⟩;rw[bG (by omega)];refine bU so3 X (by simp[ab];omega) ?_;simp only[go_sem,J,ac,M,I,ag,ae,aV k];refine⟨⟨k+1,T,rfl,?_,?_,a9 a4⟩,msr T⟩
    ·rw[aD _ _ _ _ au];exact U
    ·rw[<-Z i rfl ak];simp[aQ,List.map_set,List.getD,hg]
  have Y:=geB hk (by simpa using Y);subst Y;rw[Xae]at X hz;have an:(p.unserved.any fun u=>cD u x.orders.length)=false:=Xax.2 fun u hu=>by rw[hz u hu];simp
  rw[an,if_neg (by simp),if_neg (by simp)];simp only[go_sem,J,ac,M,I,ag,ae];exact .tup _ _ (.cons _ _ _ _ (.row _ _ _ U (ConvE.refl _)) (.cons _ _ _ _ (.row _ _ _ X (ConvE.refl _)) (.cons _ _ _ _ (.refl _) .nil)))
def vF(x:Instance)(p:Plan):Bool:=(List.range x.types.length).any fun i=>decide ((p.routes.countP (fun r=>r.type == (i:Int)):Int)>(x.types[i]?.map (·.count)).getD 0)
def Wr(x:Instance)(p:Plan)(hx:x.types.length<=1000)(hp:PlanB p)(ht:∀r∈p.routes,0<=r.type/\r.type<(x.types.length:Int)):PC prog 28 [.agg (aE x),.agg (gA p)] (boo (vF x p)):=by
 have ao:=hp.routes;refine pcd func28 rfl rfl ?_;simp only[go_sem];refine⟨by omega,aJ fun j hj=>?_⟩;simp only[go_sem];have E:aI bS j (some ⟨3,1,List.replicate x.types.length [int 0]⟩) j=some (uU (fP x.types.length ([].map (·.type:Route->Int)))):=by rw[aB];exact CR _
 refine⟨fun ρ H=>∃(k:Nat),k<=p.routes.length/\ρ 2=.rp (aE x) 0/\ρ 15=.sl (p.routes.map bI)/\ρ 5=.os j/\ρ 16=int (p.routes.length:Nat)/\ρ 17=int k/\H j=some (uU (fP x.types.length ((p.routes.take k).map (·.type)))),fun ρ _=>p.routes.length-aT (ρ 17),⟨0,Xab _,by simp only[go_sem],by simp only[go_sem],by simp only[go_sem],by simp only[go_sem,Xaa],(by simp only[go_sem];rfl),E⟩,?_⟩;rintro ρ H ⟨k,hk,I,M,e5,T,O,E⟩;simp only[go_sem,I,M,e5,T,O];refine aA (fun A=>?_) (fun J=>?_)
 ·have A:=ltB (by simpa using A);obtain⟨r,hr⟩:=aM A;have b1:=inB A;have hs:(p.routes.take (k+1)).map (·.type)=(p.routes.take k).map (·.type)++[r.type]:=by rw[bE hr,Xan];rfl
  have ak:((p.routes.take k).map (·.type)).length<=k:=by rw[Xaa,Xal];omega
  obtain⟨h0,h1⟩:=ht r (Xac hr);obtain⟨i,hi⟩:=Int.eq_ofNat_of_zero_le h0;have ab:i<x.types.length:=by omega
  generalize an:(p.routes.take k).map (·.type)=PU at *;have F:(fP x.types.length PU).length=x.types.length:=by simp[fP]
  have hg:(fP x.types.length PU)[i]?=some (PU.countP (fun w=>w == (i:Int)):Int):=by unfold fP;rw[List.getElem?_map,List.getElem?_range ab];rfl
  have am:PU.countP (fun w=>w == (i:Int))<=k:=Xai List.countP_le_length ak;have ac:=On (l:=PU) hi ab;have b3:=inB (show i<(fP x.types.length PU).length by rw[F];exact ab);simp only[go_sem,I,M,e5,T,O,aC hr,b1];refine aJ fun i7 aa=>?_
  simp only[go_sem,I,M,e5,T,O,aC hr,b1,E];refine bP aa (by simp[gU]) fun ag (R7:ag i7=some (⟨65,4,[bI r]⟩)) N=>?_
  replace E:=N E;obtain⟨ai,E⟩:=E;clear N aa;simp only[go_sem,I,M,e5,T,O,aC hr,b1,R7,E];simp only[go_sem,I,M,e5,T,O,R7,E,hi,aC hg,b3,Xaa];refine⟨by omega,?_⟩;rw[bG (by omega)];refine bU so3 E (by simp[F];omega) ?_;simp only[go_sem,I,M,e5,T,O,aV k];refine⟨⟨k+1,A,rfl,?_⟩,msr A⟩;rw[hs,<-ac];simp[aQ,List.map_set,List.getD,hg]
 have J:=geB hk (by simpa using J);subst J;rw[Xae]at E;have F:(fP x.types.length (p.routes.map (·.type))).length=x.types.length:=by simp[fP]
 have ae:∀i c,(fP x.types.length (p.routes.map (·.type)))[i]?=some c->i<x.types.length/\c=(p.routes.countP (fun r=>r.type == (i:Int)):Int):=fun i c h=>by
  have hi:i<x.types.length:=by have:=(List.getElem?_eq_some_iff.1 h).1;rw[F]at this;exact this
  unfold fP at h;rw[List.getElem?_map,List.getElem?_range hi]at h;injection h with h;refine⟨hi,h.symm.trans ?_⟩;show((List.countP _ (List.map _ p.routes):Nat):Int)=_;rw[List.countP_map];rfl
 generalize fP x.types.length (p.routes.map (·.type))=U at *;simp only[go_sem,I,M,e5,T,O,E];refine⟨fun ρ H=>∃(k:Nat),k<=x.types.length/\ρ 2=.rp (aE x) 0/\ρ 29=.os j/\ρ 30=int (x.types.length:Nat)/\ρ 31=int k/\H j=some (uU U)/\(∀i∈(List.range x.types.length).take k,decide ((p.routes.countP (fun r=>r.type == ((i:Nat):Int)):Int)>(x.types[i]?.map (·.count)).getD 0)=false),fun ρ _=>x.types.length-aT (ρ 31),⟨0,Xab _,by simp only[go_sem,I,E,F],by simp only[go_sem,I,E,F],by simp only[go_sem,Xaa,I,E,F],(by simp only[go_sem,I,E,F];rfl),E,by simp⟩,?_⟩;rintro ρ H ⟨k,hk,I,Z,Y,X,E,hz⟩;simp only[go_sem,I,Z,Y,X,E];refine aA (fun A=>?_) (fun J=>?_)
 ·have A:=ltB (by simpa using A);obtain⟨t,af⟩:=aM A;obtain⟨c,hc⟩:=aM (show k<U.length by omega);have b1:=inB A;have b2:=inB (show k<U.length by omega);obtain⟨_,al⟩:=ae k c hc;have ah:(List.range x.types.length)[k]?=some k:=List.getElem?_range A;simp only[go_sem,I,Z,Y,X,E,aC af,aC hc,b1,b2,Xaa];have aj:decide ((p.routes.countP (fun r=>r.type == (k:Int)):Int)>(x.types[k]?.map (·.count)).getD 0)=decide (c>t.count):=by rw[af,al];rfl
  refine⟨by omega,aA (fun hb=>?_) (fun hb=>?_)⟩
  ·rw[show vF x p=true from Xao.2 ⟨k,Xac ah,aj.trans hb⟩];simp only[go_sem];exact .refl _
  ·simp only[go_sem,I,Z,Y,X,aV k];exact⟨⟨k+1,A,rfl,E,aS ah (aj.trans hb) hz⟩,msr A⟩
 have J:=geB hk (by simpa using J);subst J;rw[Xaq (by rw[Xas];exact Xag _)]at hz;rw[show vF x p=false from Xax.2 fun i hi=>by rw[hz i hi];simp];simp only[go_sem,I,Z,Y,X];exact .refl _
end Sq
namespace Sq
open Go.Proofs.Tryz
open Go.Aw Go.Aw.D Go.Proofs Ty
open Go.Proofs.YtgncgpcpbadfnaaGreatDoor.Nu (ltB geB)
def EH(x:Instance)(p:Nat->Order->Bool):Bool:=(List.range x.orders.length).any fun i=>(x.orders[i]?.map (p i)).getD false
def WZ(x:Instance)(fn:AV)(g:Nat)(cap:List AV)(p:Nat->Order->Bool)(hl:x.orders.length<=1048576)
  (X:HT fn=some (g,[],cap)) (hw:∀(G:Option Bool) (k:AV->Prop),bR G fn k=k fn) (U:aG prog g=true) (Z:∀i o,x.orders[i]?=some o->PC prog g (int (i:Nat)::.agg (aW o)::cap) (boo (p i o))):
  PC prog 26 [fn,.rp (aE x) 0] (boo (EH x p)):=by
 have hA:EH x p=(List.range x.orders.length).any fun i=>(x.orders[i]?.map (p i)).getD false:=rfl
 generalize EH x p=R at *;subst hA;refine pcd func26 rfl rfl ?_;simp only[go_sem];refine⟨fun ρ _=>∃k:Nat,k<=x.orders.length/\ρ 0=fn/\ρ 7=.sl (x.orders.map aW)/\ρ 8=int x.orders.length/\ρ 9=int k/\∀q∈(List.range x.orders.length).take k,(x.orders[q]?.map (p q)).getD false=false,fun ρ _=>x.orders.length-aT (ρ 9),⟨0,Xab _,by simp only[go_sem],by simp only[go_sem],by simp only[go_sem,Xaa],rfl,by simp⟩,?_⟩;rintro ρ H ⟨k,hk,h0,O,J,M,Y⟩;simp only[go_sem,h0,O,J,M];refine aA (fun F=>?_) (fun F=>?_)
 ·have A:=ltB F;obtain⟨o,T⟩:=aM A;have b1:=inB A;simp only[go_sem,h0,O,J,M,aC T,b1,Xaa];refine aJ fun i hi=>?_
  simp only[go_sem,h0];refine aN (aB _ _ _) (by simp[kF]) ?_;simp only[go_sem,h0,hw,X,U,aB];refine aP (Z k o T) ?_;simp only[go_sem,h0,O,J,M];have I:(List.range x.orders.length)[k]?=some k:=List.getElem?_range A;refine aA (fun F=>?_) (fun F=>?_)
  ·simp only[go_sem];have:((List.range x.orders.length).any fun i=>(x.orders[i]?.map (p i)).getD false)=true:=Xao.2 ⟨k,Xac I,by rw[T];exact F⟩;rw[this];exact .refl _
  ·simp only[go_sem,h0,O,J,M,aV k];refine⟨⟨k+1,A,rfl,?_⟩,by simp only[aF];omega⟩;rw[bE I];intro q E;rcases Xat.1 E with E|E
   ·exact Y q E
   ·simp at E;subst E;rw[T];exact F
 ·have:=geB hk F;subst this;simp only[go_sem];have:((List.range x.orders.length).any fun i=>(x.orders[i]?.map (p i)).getD false)=false:=by rw[Xax];intro q E;rw[Y q (by rw[Xaq (by simp)];exact E)];simp
  rw[this];exact .refl _
def Ge(o:Order)(i:Nat)(A us:List Int)(h1:i<A.length)(F:i<us.length):PC prog 27 [int i,.agg (aW o),.rp [.sl (A.map aQ)] 0,.rp [.sl (us.map aQ)] 0] (boo (decide (W (A.getD i 0+us.getD i 0)>1))):=by
 refine pcd func27 rfl rfl ?_;simp only[go_sem];obtain⟨r,E⟩:=aM h1;obtain⟨u,I⟩:=aM F;have M:=inB h1;have J:=inB F;refine dF (by rfl) (by kernel_rfl) ?_;simp only[go_sem,aC E,aC I,M,J,Xaa];rw[List.getD_eq_getElem?_getD,List.getD_eq_getElem?_getD,E,I]
 repeat' (first|exact .refl _|(refine⟨by omega,?_⟩))
def agZ(o:Order)(i:Nat)(us:List Int)(A:i<us.length):PC prog 29 [int i,.agg (aW o),.rp [.sl (us.map aQ)] 0] (boo (o.off&&decide (us.getD i 0>0))):=by
 refine pcd func29 rfl rfl ?_;simp only[go_sem];obtain⟨u,E⟩:=aM A;have F:=inB A;simp only[go_sem,aC E,F,Xaa];rw[List.getD_eq_getElem?_getD,E]
 repeat' (first|exact .refl _|(refine⟨fun _=>by omega,?_⟩))
def agO(o:Order)(i:Nat)(A us:List Int)(h1:i<A.length)(F:i<us.length):PC prog 30 [int i,.agg (aW o),.rp [.sl (A.map aQ)] 0,.rp [.sl (us.map aQ)] 0] (boo (!o.off&&(W (A.getD i 0+us.getD i 0) == 0||(decide (us.getD i 0>0)&&o.penalty == -1)))):=by refine pcd func30 rfl rfl ?_;simp only[go_sem];obtain⟨r,E⟩:=aM h1;obtain⟨u,I⟩:=aM F;have M:=inB h1;have J:=inB F;refine dF (by rfl) (by kernel_rfl) ?_;simp only[go_sem,aC E,aC I,M,J,Xaa];rw[List.getD_eq_getElem?_getD,List.getD_eq_getElem?_getD,E,I];exact .refl _
def vH:List Int->Int
 | []=>0
 | e::r=>if(e != 0)=true then e else vH r
def Ol:∀{l:List Int} {k:Nat} {e:Int},(∀d∈l.take k,d=0)->l[k]?=some e->(e != 0)=true->vH l=e
 | [],k,e,_,h,_=>by simp at h
 | a::l,0,e,_,h,he=>by
  have:a=e:=by simpa using h
  subst this;rw[vH,if_pos he]
 | a::l,k+1,e,h0,h,he=>by have E:a=0:=h0 a (by simp);rw[vH,if_neg (by rw[E];simp)];exact Ol (k:=k) (fun d A=>h0 d (by simp[A])) (by simpa using h) he
def JA:∀{l:List Int},(∀d∈l,d=0)->vH l=0
 | [],_=>rfl
 | a::l,h=>by rw[vH,if_neg (by rw[h a (by simp)];simp)];exact JA fun d A=>h d (by simp[A])
def Wj(r u:List Int)(i:Nat)(_:Order):Bool:=decide (W (r.getD i 0+u.getD i 0)>1)
def Io(u:List Int)(i:Nat)(o:Order):Bool:=o.off&&decide (u.getD i 0>0)
def IN(r u:List Int)(i:Nat)(o:Order):Bool:= !o.off&&(W (r.getD i 0+u.getD i 0) == 0||(decide (u.getD i 0>0)&&o.penalty == -1))
def jW(x:Instance)(p:Plan):Int:=
 if(vH (p.routes.map fun r=>(dR x r).2.2) != 0)=true then vH (p.routes.map fun r=>(dR x r).2.2)
 else if(p.unserved.any fun u=>cD u x.orders.length)=true then 2
 else if EH x (Wj (oZ x.orders.length p.routes) (fP x.orders.length p.unserved))=true then 6
 else if vF x p=true then 22
 else if EH x (Io (fP x.orders.length p.unserved))=true then 9
 else if EH x (IN (oZ x.orders.length p.routes) (fP x.orders.length p.unserved))=true then 23
 else 0
def Fb(x:Instance)(p:Plan)(hx:EvalB x)(hn:x.orders.length<=62)(ac:x.types.length<=1000)(hp:PlanB p)(hv:∀r∈p.routes,r.visits.length<=1048575)(ht:vH (p.routes.map fun r=>(dR x r).2.2)=0->∀r∈p.routes,0<=r.type/\r.type<(x.types.length:Int)):
  PC prog 11 [.agg (aE x),.agg (gA p)] (int (jW x p)):=by
 obtain⟨R,hC⟩:∃R,R=jW x p:=⟨_,rfl⟩;rw[<-hC];unfold jW at hC;refine pcd func11 rfl rfl ?_;simp only[go_sem];refine⟨fun ρ _=>∃k:Nat,k<=p.routes.length/\ρ 2=.rp (aE x) 0/\ρ 3=.rp (gA p) 0/\ρ 13=.sl (p.routes.map bI)/\ρ 14=int p.routes.length/\ρ 15=int k/\∀d∈(p.routes.map fun r=>(dR x r).2.2).take k,d=0,fun ρ _=>p.routes.length-aT (ρ 15),⟨0,Xab _,by simp only[go_sem],by simp only[go_sem],by simp only[go_sem],by simp only[go_sem,Xaa],rfl,by simp⟩,?_⟩;rintro ρ H ⟨k,hk,E,I,U,O,J,hz⟩;simp only[go_sem,E,I,U,O,J];refine aA (fun A=>?_) (fun A=>?_)
 ·have X:=ltB A;obtain⟨r,hr⟩:=aM X;have b1:=inB X;have aa:(p.routes.map fun r=>(dR x r).2.2)[k]?=some (dR x r).2.2:=by rw[List.getElem?_map,hr];rfl
  simp only[go_sem,E,I,U,O,J,aC hr,b1,Xaa];refine aJ fun i hi=>?_
  simp only[go_sem,E];refine aN (aB _ _ _) (by simp[gU]) ?_;simp only[go_sem,E,aB];refine aP (aeD x r hx (hv r (Xac hr))) ?_;simp only[go_sem,E];refine aA (fun A=>?_) (fun A=>?_)
  ·simp only[go_sem];have e:=Ol hz aa A;rw[hC,e,if_pos A];exact .refl _
  ·simp only[go_sem,E,I,U,O,J,mX (show k<=4611686018427387904 by have:=hp.routes;omega)];refine⟨⟨k+1,X,rfl,?_⟩,by simp only[aF];omega⟩;rw[bE aa];intro d hd;rcases Xat.1 hd with hd|hd
   ·exact hz d hd
   ·simp at hd;subst hd;simpa using A
 have ab:=geB hk A;subst ab;have he:vH (p.routes.map fun r=>(dR x r).2.2)=0:=JA (by rw[Xaq (by simp)]at hz;exact hz);rw[he,if_neg (by simp)]at hC;simp only[go_sem,E,I];refine aP (WX x p hn hp) ?_;simp only[go_sem,E,I];by_cases F:(p.unserved.any fun u=>cD u x.orders.length)=true
 ·rw[if_pos F]at hC;rw[F];simp only[if_true,List.map_nil];refine aJ fun i8 h8=>?_
  simp only[go_sem];refine aJ fun i9 T=>?_
  simp only[go_sem];refine bU ⟨_,rfl,rfl⟩ (r:=⟨32,1,[[.sl []]]⟩) (by rw[aD _ _ _ _ (aR (aB _ _ _) T)];exact aB _ _ _) (by simp) ?_;simp only[go_sem];refine bU ⟨_,rfl,rfl⟩ (r:=⟨32,1,[[.sl []]]⟩) (by rw[aD _ _ _ _ (Ne.symm (aR (aB _ _ _) T))];exact aB _ _ _) (by simp) ?_;simp only[go_sem];refine aA (fun A=>?_) (fun A=>by cases A);simp only[go_sem];rw[hC];exact .refl _
 rw[if_neg F]at hC;have Y:(p.unserved.any fun u=>cD u x.orders.length)=false:=by simpa using F
 rw[Y];simp only[Xaz,if_false];refine aJ fun i8 h8=>?_
 simp only[go_sem];refine aJ fun i9 T=>?_
 simp only[go_sem];refine bU ⟨_,rfl,rfl⟩ (r:=⟨32,1,[[.sl []]]⟩) (by rw[aD _ _ _ _ (aR (aB _ _ _) T)];exact aB _ _ _) (by simp) ?_;simp only[go_sem];refine bU ⟨_,rfl,rfl⟩ (r:=⟨32,1,[[.sl []]]⟩) (by rw[aD _ _ _ _ (Ne.symm (aR (aB _ _ _) T))];exact aB _ _ _) (by simp) ?_;simp only[go_sem];refine aA (fun A=>by cases A) (fun A=>?_);have ae:=aR (show aI H i8 (some ⟨32,1,[[.sl []]]⟩) i8=_ from aB _ _ _) T;generalize hP:aI (aI _ i8 _) i9 _=G;have R9:G i9=some ⟨32,1,[[.sl ((fP x.orders.length p.unserved).map aQ)]]⟩:=by rw[<-hP,aB]
 have R8:G i8=some ⟨32,1,[[.sl ((oZ x.orders.length p.routes).map aQ)]]⟩:=by rw[<-hP,aD _ _ _ _ ae,aB]
 clear hP h8 T;simp only[go_sem,E,I];have lr:(oZ x.orders.length p.routes).length=x.orders.length:=by simp[oZ]
 have lu:(fP x.orders.length p.unserved).length=x.orders.length:=by simp[fP]
 have M:x.orders.length<=1048576:=by omega
 have A2:=WZ x (.fn 27 [.rp [.sl ((oZ x.orders.length p.routes).map aQ)] 0,.rp [.sl ((fP x.orders.length p.unserved).map aQ)] 0]) 27 _ (Wj (oZ x.orders.length p.routes) (fP x.orders.length p.unserved)) M rfl (fun _ _=>rfl) (by kernel_rfl) (fun i o Z=>Ge o i _ _ (by rw[lr];exact(List.getElem?_eq_some_iff.1 Z).1) (by rw[lu];exact(List.getElem?_eq_some_iff.1 Z).1));have A3:=WZ x (.fn 29 [.rp [.sl ((fP x.orders.length p.unserved).map aQ)] 0]) 29 _ (Io (fP x.orders.length p.unserved)) M rfl (fun _ _=>rfl) (by kernel_rfl) (fun i o Z=>agZ o i _ (by rw[lu];exact(List.getElem?_eq_some_iff.1 Z).1));have A4:=WZ x (.fn 30 [.rp [.sl ((oZ x.orders.length p.routes).map aQ)] 0,.rp [.sl ((fP x.orders.length p.unserved).map aQ)] 0]) 30 _ (IN (oZ x.orders.length p.routes) (fP x.orders.length p.unserved)) M rfl (fun _ _=>rfl) (by kernel_rfl) (fun i o Z=>agO o i _ _ (by rw[lr];exact(List.getElem?_eq_some_iff.1 Z).1) (by rw[lu];exact(List.getElem?_eq_some_iff.1 Z).1));have C8:Conv G (.op i8 0 0) (.rp [.sl ((oZ x.orders.length p.routes).map aQ)] 0):=.ptr _ _ _ _ _ R8 (Nat.zero_lt_succ 0) (ConvL.refl _);have C9:Conv G (.op i9 0 0) (.rp [.sl ((fP x.orders.length p.unserved).map aQ)] 0):=.ptr _ _ _ _ _ R9 (Nat.zero_lt_succ 0) (ConvL.refl _);refine xP.use ⟨_,.cons _ _ _ _ (.fn _ _ _ (.cons _ _ _ _ C8 (.cons _ _ _ _ C9 .nil))) (ConvL.refl _),A2,rfl⟩ ?_;simp only[go_sem,E,I];refine aA (fun A=>?_) (fun A=>?_)
 ·rw[if_pos A]at hC;simp only[go_sem];rw[hC];exact .refl _
 rw[if_neg (by rw[A];simp)]at hC;simp only[go_sem,E,I];refine aP (Wr x p ac hp (ht he)) ?_;simp only[go_sem,E,I];refine aA (fun A=>?_) (fun A=>?_)
 ·rw[if_pos A]at hC;simp only[go_sem];rw[hC];exact .refl _
 rw[if_neg (by rw[A];simp)]at hC;simp only[go_sem,E,I];refine xP.use ⟨_,.cons _ _ _ _ (.fn _ _ _ (.cons _ _ _ _ C9 .nil)) (ConvL.refl _),A3,rfl⟩ ?_;simp only[go_sem,E,I];refine aA (fun A=>?_) (fun A=>?_)
 ·rw[if_pos A]at hC;simp only[go_sem];rw[hC];exact .refl _
 rw[if_neg (by rw[A];simp)]at hC;simp only[go_sem,E,I];refine xP.use ⟨_,.cons _ _ _ _ (.fn _ _ _ (.cons _ _ _ _ C8 (.cons _ _ _ _ C9 .nil))) (ConvL.refl _),A4,rfl⟩ ?_;simp only[go_sem,E,I];refine aA (fun A=>?_) (fun A=>?_)
 ·rw[if_pos A]at hC;simp only[go_sem];rw[hC];exact .refl _
 rw[if_neg (by rw[A];simp)]at hC;simp only[go_sem];rw[hC];exact .refl _
end Sq
namespace Sq
open Go.Proofs.Tryz
open Go.Aw Go.Aw.D Go.Proofs Ty
def aaP(s:Score):PC prog 88 [.agg (bD s)] (.agg (bD s)):=by
 refine pcd func88 rfl rfl ?_;simp only[go_sem];refine aJ fun j A=>?_
 simp only[go_sem]
 repeat' (first|(refine⟨by decide,?_⟩)|(simp only[go_sem]))
 refine aN (aB _ _ _) (by simp) ?_;simp only[go_sem];exact .refl _
def Xp(a b:Score)(k:Nat):List AV:=[int (if 0<k then W (a.cost+b.cost)else a.cost),int (if 1<k then W (a.moved+b.moved)else a.moved),int (if 2<k then W (a.other+b.other)else a.other),int (if 3<k then W (a.work+b.work)else a.work)]
abbrev Cv(l:List AV):Row:=⟨134,4,[l]⟩
def ZO(a b:Score):PC prog 48 [.agg (bD a),.agg (bD b)] (.agg (bD (uV a b))):=by
 refine pcd func48 rfl rfl ?_;simp only[go_sem];refine aJ fun U h4=>?_
 generalize hP:aI bS U _=G;have J:G U=some ⟨83,4,[[int 0,int 0,int 0,int 0]]⟩:=by rw[<-hP];exact aB _ _ _
 clear hP h4;simp only[go_sem];refine lL [] (.q 0 (.q 1 (.q 2 (.q 3 (.a2 4 (.a1 5 (.a1 6 (.a1 7 .nil))) 5 (.a1 4 (.a1 6 (.a1 7 .nil)))))))) (fun X H'=>∃i5 i6:Nat,i5≠i6/\U≠i5/\X 4=.op U 0 0/\X 5=.op i5 0 0/\X 6=.op i6 0 0/\H' U=some ⟨83,4,[[int 0,int 0,int 0,int 0]]⟩/\H' i5=some (Cv (bD a))/\H' i6=some (Cv (bD b))) (by simp) (by kernel_rfl) (fun K' aa Hp Hr _ hr _ _=>?_) ?_
 ·obtain rfl:Hr=G:=funext fun k=>hr k (by simp)
  simp only[go_sem];refine⟨_,(yD a).q rfl,?_⟩;simp only[go_sem];refine⟨_,(yD b).q rfl,?_⟩;simp only[go_sem];refine jN ?_ ?_
  all_goals
   simp only[go_sem];refine aJ fun x hx=>?_
   have T:=aR J hx;simp only[go_sem];refine aJ fun y hy=>?_
   have Z:=aR (hY J hx) hy;have O:x≠y:=fun e=>by subst e;rw[aB]at hy;cases hy
   simp only[go_sem]
  ·refine aN (r:=⟨134,4,[[int 0,int 0,int 0,int 0]]⟩) (by rw[aD _ _ _ _ O];exact aB _ _ _) (by simp[cC]) ?_;simp only[go_sem];refine aN (r:=⟨134,4,[[int 0,int 0,int 0,int 0]]⟩) (by rw[aD _ _ _ _ (Ne.symm O)];exact aB _ _ _) (by simp[cC]) ?_;simp only[go_sem];refine dX fun _ Hm _ hm=>?_
   obtain rfl:Hm=_:=funext fun k=>hm k (by simp)
   refine aa _ _ ⟨x,y,O,T,by simp only[go_sem],by simp only[go_sem],by simp only[go_sem],?_,?_,aB _ _ _⟩
   ·rw[aD _ _ _ _ Z,aD _ _ _ _ T,aD _ _ _ _ Z,aD _ _ _ _ T];exact J
   ·rw[aD _ _ _ _ O];exact aB _ _ _
  ·refine aN (r:=⟨134,4,[[int 0,int 0,int 0,int 0]]⟩) (aB _ _ _) (by simp[cC]) ?_;simp only[go_sem];refine aN (r:=⟨134,4,[[int 0,int 0,int 0,int 0]]⟩) (by rw[aD _ _ _ _ O,aD _ _ _ _ O];exact aB _ _ _) (by simp[cC]) ?_;simp only[go_sem];refine dX fun _ Hm _ hm=>?_
   obtain rfl:Hm=_:=funext fun k=>hm k (by simp)
   refine aa _ _ ⟨y,x,Ne.symm O,Z,by simp only[go_sem],by simp only[go_sem],by simp only[go_sem],?_,?_,aB _ _ _⟩
   ·rw[aD _ _ _ _ T,aD _ _ _ _ Z,aD _ _ _ _ Z,aD _ _ _ _ T];exact J
   ·rw[aD _ _ _ _ (Ne.symm O)];exact aB _ _ _
 ·rintro ρ H ⟨i5,i6,T,Z,A,F,I,J,M,Y⟩;simp only[go_sem,A,F,I];refine⟨fun ρ H=>∃k:Nat,k<=4/\ρ 4=.op U 0 0/\ρ 5=.op i5 0 0/\ρ 6=.op i6 0 0/\ρ 12=int k/\H U=some ⟨83,4,[[int 0,int 0,int 0,int 0]]⟩/\H i5=some (Cv (Xp a b k))/\H i6=some (Cv (bD b)),fun ρ _=>4-aT (ρ 12),⟨0,by omega,by simp only[go_sem,A],by simp only[go_sem,F],by simp only[go_sem,I],rfl,J,M,Y⟩,?_⟩;clear A F I J M Y;rintro ρ H ⟨k,hk,A,F,I,E,J,M,Y⟩;simp only[go_sem,A,F,I,E];refine aA (fun hb=>?_) (fun hb=>?_)
  ·have ab:k<4:=by simp at hb;omega
   obtain rfl|rfl|rfl|rfl:k=0\/k=1\/k=2\/k=3:=by omega
   all_goals
    simp only[go_sem,A,F,I,E];refine Av [] (.q 0 (.q 1 (.q 3 (.q 4 (.a2 2 (.a1 5 (.q 6 (.q 7 (.a1 8 .nil)))) 5 (.a1 2 (.q 6 (.q 7 (.a1 8 .nil))))))))) (by simp) (by kernel_rfl) fun Hp Hr _ hr _ _=>?_
    obtain rfl:Hr=H:=funext fun k=>hr k (by simp)
    simp only[go_sem,A,F,I,E,M,Y,Xp,bD];refine⟨by decide,by decide,?_⟩;refine jN ?_ ?_
    all_goals
     simp only[go_sem,A,F,I,E,M,Y,Xp,bD]
     repeat' (first|(refine⟨by decide,?_⟩)|(simp only[go_sem,A,F,I,E,M,Y,Xp,bD]))
     refine bU so3 M (by simp[Xp]) ?_;simp only[go_sem];refine dX fun _ Hm _ hm=>?_
     obtain rfl:Hm=_:=funext fun k=>hm k (by simp)
     simp only[go_sem,A,F,I,E];refine⟨⟨_,ab,rfl,?_,?_,?_⟩,by decide⟩
     ·rw[aD _ _ _ _ Z];exact J
     ·rfl
     ·rw[aD _ _ _ _ (Ne.symm T)];exact Y
  ·have h4:k=4:=by simp at hb;omega
   subst h4;simp only[go_sem,A,F,I,M];refine aP (aaP (uV a b)) ?_;simp only[go_sem,A];refine aN J (by simp[cC]) ?_;simp only[go_sem,A,aB];exact .refl _
end Sq
namespace Sq
open Go.Proofs.Tryz
open Go.Aw Go.Aw.D Go.Proofs Ty
open Go.Proofs.YtgncgpcpbadfnaaGreatDoor.Nu (ltB geB)
abbrev jE(s:Score):Row:=⟨83,4,[bD s]⟩
def wR(x:Instance)(l:List Route):Score:=(l.map fun r=>(dR x r).2.1).foldl uV bJ
def GH(x:Instance)(s:Score)(l:List Int):Score:=(l.map fun u=>(cE x u).1).foldl uV s
def Qg(x:Instance)(u:Int):PC prog 49 [.agg (aE x),int u] (.tup [.agg (bD (cE x u).1),int (cE x u).2]):=by
 have h:=Nu.DY x u;have I:Go.Aw.D.bD (Nu.cE x u).1=bD (cE x u).1/\(Nu.cE x u).2=(cE x u).2:=by
  unfold Nu.cE cE;by_cases E:cD u x.orders.length=true
  ·have A:Nu.cD u x.orders.length=true:=E;rw[if_pos E,if_pos A];exact⟨rfl,rfl⟩
  ·have A:¬Nu.cD u x.orders.length=true:=E;rw[if_neg E,if_neg A];cases x.orders[u.toNat]? with
   | none=>exact⟨rfl,rfl⟩
   | some o=>
    show Go.Aw.D.bD (Nu.eT o).1=bD (eT o).1/\(Nu.eT o).2=(eT o).2;unfold Nu.eT eT;by_cases h1:o.off=true
    ·rw[if_pos h1,if_pos h1];exact⟨rfl,rfl⟩
    ·rw[if_neg h1,if_neg h1];by_cases F:(o.penalty == -1)=true
     ·rw[if_pos F,if_pos F];exact⟨rfl,rfl⟩
     ·rw[if_neg F,if_neg F];exact⟨rfl,rfl⟩
 rw[I.1,I.2]at h;exact h
def aaW(x:Instance)(p:Plan)(hx:EvalB x)(hn:x.orders.length<=62)(ax:x.types.length<=1000)(hp:PlanB p)(hv:∀r∈p.routes,r.visits.length<=1048575)(ht:vH (p.routes.map fun r=>(dR x r).2.2)=0->∀r∈p.routes,0<=r.type/\r.type<(x.types.length:Int))
  (h0:jW x p=0) (ay:∀r∈p.routes,(dR x r).2.2=0) (au:∀u∈p.unserved,(cE x u).2=0):PC prog 22 [.agg (aE x),.agg (gA p)] (.tup [.agg (bD (GH x (wR x p.routes) p.unserved)),int 0]):=by
 have a0:=hp.routes;have az:=hp.unserved;refine pcd func22 rfl rfl ?_;simp only[go_sem];refine eQ fun i4 ar an (O:ar i4=some (jE bJ)) N=>?_
 clear N an;simp only[go_sem,O];refine aP (Fb x p hx hn ax hp hv ht) ?_;rw[h0];simp only[go_sem];refine aA (fun hb=>by cases hb) (fun hb=>?_);simp only[go_sem];refine eQ fun i7 am aq (T:am i7=some (jE bJ)) N=>?_
 replace O:=N O;obtain⟨aa,O⟩:=O;clear N aq;simp only[go_sem,T,O];refine⟨fun ρ H=>∃(k:Nat),k<=p.routes.length/\ρ 2=.rp (aE x) 0/\ρ 3=.rp (gA p) 0/\ρ 4=.op i4 0 0/\ρ 7=.op i7 0 0/\ρ 25=.sl (p.routes.map bI)/\ρ 26=int (p.routes.length:Nat)/\ρ 27=int k/\H i4=some (jE bJ)/\H i7=some (jE (wR x (p.routes.take k))),fun ρ _=>p.routes.length-aT (ρ 27),⟨0,Xab _,by simp only[go_sem],by simp only[go_sem],by simp only[go_sem],by simp only[go_sem],by simp only[go_sem],by simp only[go_sem,Xaa],(by simp only[go_sem];rfl),O,T⟩,?_⟩;rintro ρ H ⟨k,hk,J,e3,M,I,A,E,F,O,T⟩;simp only[go_sem,J,e3,M,I,A,E,F];refine aA (fun U=>?_) (fun ab=>?_)
 ·have U:=ltB (by simpa using U);obtain⟨r,hr⟩:=aM U;have b1:=inB U;have he:=ay r (Xac hr);simp only[go_sem,J,e3,M,I,A,E,F,aC hr,b1,Xaa];refine aJ fun i9 ae=>?_
  simp only[go_sem,J,e3,M,I,A,E,F,O,T];refine bP ae (by simp[gU]) fun ap (R9:ap i9=some (⟨65,4,[bI r]⟩)) N=>?_
  replace O:=N O;obtain⟨al,O⟩:=O;replace T:=N T;obtain⟨ak,T⟩:=T;clear N ae;simp only[go_sem,J,e3,M,I,A,E,F,R9,O,T];refine aP (BO x r hx (hv r (Xac hr))) ?_;rw[he];simp only[go_sem,J,e3,M,I,A,E,F];refine aJ fun ah ai=>?_
  have n4:=aR O ai;have n7:=aR T ai;simp only[go_sem,J,e3,M,I,A,E,F];refine aJ fun i11 ac=>?_
  have m4:i4≠i11:=fun e=>by rw[<-e,aD _ _ _ _ n4,O]at ac;cases ac
  have m7:i7≠i11:=fun e=>by rw[<-e,aD _ _ _ _ n7,T]at ac;cases ac
  have ao:ah≠i11:=fun e=>by rw[<-e,aB]at ac;cases ac
  simp only[go_sem,J,e3,M,I,A,E,F];refine aN (by rw[aD _ _ _ _ ao];exact aB _ _ _) (by simp[eK]) ?_;simp only[go_sem,J,e3,M,I,A,E,F];refine aN (by rw[aD _ _ _ _ (Ne.symm ao)];exact aB _ _ _) (by simp[cC]) ?_;generalize hP:aI (aI (aI (aI _ ah _) i11 _) ah _) i11 _=HP;replace O:HP i4=some (jE bJ):=by rw[<-hP,aD _ _ _ _ m4,aD _ _ _ _ n4,aD _ _ _ _ m4,aD _ _ _ _ n4];exact O
  replace T:HP i7=some (jE (wR x (p.routes.take k))):=by rw[<-hP,aD _ _ _ _ m7,aD _ _ _ _ n7,aD _ _ _ _ m7,aD _ _ _ _ n7];exact T
  have aw:HP i11=some (jE (dR x r).2.1):=by rw[<-hP];exact aB _ _ _
  clear hP ai ac;simp only[go_sem,J,e3,M,I,A,E,F];refine aA (fun hb=>by cases hb) (fun hb=>?_);simp only[go_sem,J,e3,M,I,A,E,F,T,aw];refine aP (ZO _ _) ?_;simp only[go_sem,J,e3,M,I,A,E,F];refine aN T (by simp[cC]) ?_;generalize hQ:aI HP i7 _=HQ;have aj:i4≠i7:=by first|exact aa|exact ne_i7_i4.symm
  replace O:HQ i4=some (jE bJ):=by rw[<-hQ,aD _ _ _ _ aj];exact O
  replace T:HQ i7=some (jE (uV (wR x (p.routes.take k)) (dR x r).2.1)):=by rw[<-hQ,aB];rfl
  clear hQ;simp only[go_sem,J,e3,M,I,A,E,F,aV k];refine⟨⟨k+1,U,rfl,O,?_⟩,by simp only[aF];omega⟩;rw[bE hr];unfold wR;rw[Xan,List.foldl_append];exact T
 have ab:=geB hk (by simpa using ab);subst ab;rw[Xae]at T;simp only[go_sem,J,e3,M,I,A,E,F];generalize wR x p.routes=S0 at *;refine⟨fun ρ H=>∃(k:Nat),k<=p.unserved.length/\ρ 2=.rp (aE x) 0/\ρ 4=.op i4 0 0/\ρ 7=.op i7 0 0/\ρ 47=.sl (p.unserved.map aQ)/\ρ 48=int (p.unserved.length:Nat)/\ρ 49=int k/\H i4=some (jE bJ)/\H i7=some (jE (GH x S0 (p.unserved.take k))),fun ρ _=>p.unserved.length-aT (ρ 49),⟨0,Xab _,by simp only[go_sem,J,e3,M,I,A,E,F],by simp only[go_sem,J,e3,M,I,A,E,F],by simp only[go_sem,J,e3,M,I,A,E,F],by simp only[go_sem,J,e3,M,I,A,E,F],by simp only[go_sem,Xaa,J,e3,M,I,A,E,F],(by simp only[go_sem,J,e3,M,I,A,E,F];rfl),O,T⟩,?_⟩;rintro ρ H ⟨k,hk,J,M,I,Z,Y,X,O,T⟩;simp only[go_sem,J,M,I,Z,Y,X];refine aA (fun U=>?_) (fun ab=>?_)
 ·have U:=ltB (by simpa using U);obtain⟨u,hu⟩:=aM U;have b1:=inB U;have he:=au u (Xac hu);simp only[go_sem,J,M,I,Z,Y,X,aC hu,b1,Xaa];have hU:=Qg x u;rw[he]at hU;refine aP hU ?_;simp only[go_sem,J,M,I,Z,Y,X];refine aJ fun af ag=>?_
  have m4:=aR O ag;have m7:=aR T ag;simp only[go_sem,J,M,I,Z,Y,X];refine aN (aB _ _ _) (by simp[cC]) ?_;generalize hP:aI (aI _ af _) af _=HP;replace O:HP i4=some (jE bJ):=by rw[<-hP,aD _ _ _ _ m4,aD _ _ _ _ m4];exact O
  replace T:HP i7=some (jE (GH x S0 (p.unserved.take k))):=by rw[<-hP,aD _ _ _ _ m7,aD _ _ _ _ m7];exact T
  have av:HP af=some (jE (cE x u).1):=by rw[<-hP];exact aB _ _ _
  clear hP ag;simp only[go_sem,J,M,I,Z,Y,X];refine aA (fun hb=>by cases hb) (fun hb=>?_);simp only[go_sem,J,M,I,Z,Y,X,T,av];refine aP (ZO _ _) ?_;simp only[go_sem,J,M,I,Z,Y,X];refine aN T (by simp[cC]) ?_;generalize hQ:aI HP i7 _=HQ;have aj:i4≠i7:=by first|exact aa|exact ne_i7_i4.symm
  replace O:HQ i4=some (jE bJ):=by rw[<-hQ,aD _ _ _ _ aj];exact O
  replace T:HQ i7=some (jE (uV (GH x S0 (p.unserved.take k)) (cE x u).1)):=by rw[<-hQ,aB];rfl
  clear hQ;simp only[go_sem,J,M,I,Z,Y,X,aV k];refine⟨⟨k+1,U,rfl,O,?_⟩,by simp only[aF];omega⟩;rw[bE hu];unfold GH;rw[Xan,List.foldl_append];exact T
 have ab:=geB hk (by simpa using ab);subst ab;rw[Xae]at T;simp only[go_sem,J,M,I,Z,Y,X,T];refine aN O (by simp[cC]) ?_;simp only[go_sem,J,M,I,Z,Y,X,aB];exact .refl _
end Sq
namespace Sq
open Go.Proofs.Tryz
open Go.Aw Go.Aw.D Go.Proofs Ty
def adI(x:Instance)(p:Plan)(M:EvalB x)(X:x.orders.length<=62)(E:x.types.length<=1000)(U:PlanB p)(T:∀r∈p.routes,r.visits.length<=1048575)(O:vH (p.routes.map fun r=>(dR x r).2.2)=0->∀r∈p.routes,0<=r.type/\r.type<(x.types.length:Int))
  (h0:jW x p=0) (F:∀r∈p.routes,(dR x r).2.2=0) (A:∀u∈p.unserved,(cE x u).2=0):PC prog 10 [.agg (aE x),.agg (gA p)] (.tup [int (gV (GH x (wR x p.routes) p.unserved)).1,int (gV (GH x (wR x p.routes) p.unserved)).2]):=by
 have J:=aaW x p M X E U T O h0 F A;generalize GH x (wR x p.routes) p.unserved=S at *;refine pcd func10 rfl rfl ?_;simp only[go_sem];refine aP J ?_;simp only[go_sem];refine aJ fun i Y=>?_
 simp only[go_sem];refine aN (aB _ _ _) (by simp[cC]) ?_;simp only[go_sem];refine aA (fun I=>by cases I) (fun I=>?_);simp only[go_sem,aB];refine aP (Ah S) ?_;simp only[go_sem];exact .refl _
end Sq
namespace Nu
open Go.Proofs.Tryz
open Go.Aw Go.Aw.D Go.Proofs Ty Go.Nu
open Dec (jH dC cL kS mQ)
open Sq (EvalB qS jW dR GH wR cE vH PlanB)
open Ps (PrOk)
open Go.Proofs.YtgncgpcpbadfnaaGreatDoor.Ve (qG PathsOf yM)
def lvW(x:Instance)(d:Nat)(no:Bool)(price:Int):List TNode->List (List Decision)->Int
 | n::l,ds::D=>if n.leaf=false then lvW x d no price l D else if(no&&n.kind == 1)=true then 28 else if(MP x d ds n price != 0)=true then MP x d ds n price else lvW x d no price l D
 | _,_=>0
def sT(x:Instance)(n:TNode):Bool:= !n.leaf&&jH x [n.choice,mQ n.choice] != 0
def pB(x:Instance)(p:Plan):Int×Int:=Sq.gV (GH x (wR x p.routes) p.unserved)
def mN(x:Instance)(d:Nat)(p:Proof)(b:Bool)(D:List (List Decision)):Int:=
 if b=false then 29
 else if(p.nodes.any (sT x))=true then 29
 else if(!p.noPlan&&jW x p.plan != 0)=true then jW x p.plan
 else if(!p.noPlan&&(pB x p.plan).2 != 0)=true then(pB x p.plan).2
 else lvW x d p.noPlan (if p.noPlan=true then 0 else(pB x p.plan).1) p.nodes D
structure PlanW(x:Instance)(p:Plan):Prop where
 b:PlanB p
 visits:∀r∈p.routes,r.visits.length<=1048575
 type:vH (p.routes.map fun r=>(dR x r).2.2)=0->∀r∈p.routes,0<=r.type/\r.type<(x.types.length:Int)
 ev:jW x p=0->∀r∈p.routes,(dR x r).2.2=0
 un:jW x p=0->∀u∈p.unserved,(Sq.cE x u).2=0
def Aa(x:Instance)(d:Nat)(p:Proof)(h:PrOk x d)(b:Bool)(ar:b=true↔qG p.nodes)(D:List (List Decision))(hD:b=true->PathsOf p.nodes D)(hl:p.nodes.length<=1048576)(hp:p.noPlan=false->PlanW x p.plan)
  (hL:∀n ds,n∈p.nodes->ds∈D->LeafB x n ds (if p.noPlan=true then 0 else(pB x p.plan).1)):PC prog 8 [.agg (aE x),.agg (dI p)] (int (mN x d p b D)):=by
 obtain⟨R,O⟩:∃R,R=mN x d p b D:=⟨_,rfl⟩;rw[<-O];unfold mN at O;refine pcb (fun t=>t == 65) func8 rfl rfl ?_;simp only[go_sem];refine aP (Ve.Zv p.nodes b ar hl) ?_;simp only[go_sem];refine aA (fun J=>?_) (fun J=>?_)
 ·rw[if_pos (by simpa using J)]at O;subst O;simp only[go_sem];exact .refl _
 have au:b=true:=by simpa using J
 subst au;rw[if_neg (by decide)]at O;have ht:=ar.1 rfl;have hP:=hD rfl;simp only[go_sem,Xaa];refine⟨fun ρ H=>∃(k:Nat),k<=p.nodes.length/\ρ 2=.rp (aE x) 0/\ρ 3=.rp (dI p) 0/\ρ 21=.sl (p.nodes.map bO)/\ρ 22=int (p.nodes.length:Nat)/\ρ 23=int k/\(∀n∈p.nodes.take k,sT x n=false),fun ρ _=>p.nodes.length-aT (ρ 23),⟨0,Xab _,by simp only[go_sem],by simp only[go_sem],by simp only[go_sem],by simp only[go_sem,Xaa],(by simp only[go_sem];rfl),by simp⟩,?_⟩;rintro ρ H ⟨k,hk,T,I,F,E,A,Z⟩;simp only[go_sem,T,I,F,E,A];refine aA (fun M=>?_) (fun ab=>?_)
 ·have M:=ltB (by simpa using M);obtain⟨n,hn⟩:=aM M;have b1:=inB M;simp only[go_sem,T,I,F,E,A,aC hn,b1,Xaa];refine aJ fun i6 ag=>?_
  simp only[go_sem,T,I,F,E,A];refine bP ag (by simp[gT]) fun an (R6:an i6=some (⟨60,10,[bO n]⟩)) N=>?_
  clear N ag;simp only[go_sem,T,I,F,E,A,R6];refine gW [i6] [(0,true),(1,true),(2,true),(3,true),(4,true),(5,true),(6,true),(7,true),(8,true),(9,true),(10,false),(11,true),(12,true),(13,true)] (by simp[R6]) (by kernel_rfl) fun Hp Hr hp hr _ aw=>?_
  have aq:=(hp i6 (by simp)).trans R6;simp only[go_sem,T,I,F,E,A,aq];refine⟨_,fun _=>(Dec.ZG n.choice).q rfl,?_⟩;simp only[go_sem];refine⟨_,fun _=>(Dec.X8 x [n.choice,mQ n.choice] (by simp)).q rfl,?_⟩;simp only[go_sem];refine nC hr ?_;simp only[go_sem];refine aA (fun aj=>?_) (fun aj=>?_)
  ·rw[if_pos (Xao.2 ⟨n,Xac hn,aj⟩)]at O;subst O;simp only[go_sem];exact .refl _
  simp only[go_sem,T,I,F,E,A,aV k];exact⟨⟨k+1,M,rfl,fG (p:=fun n=>sT x n=false) hn aj Z⟩,by simp only[aF];omega⟩
 have ab:=geB hk (by simpa using ab);subst ab;rw[Xae]at Z;rw[if_neg (by simp only[Xao,not_exists,not_and];intro q hq;simp[Z q hq])]at O;simp only[go_sem,T,I,F,E,A];generalize ae:(if p.noPlan=true then(0:Int)else(pB x p.plan).1)=pr at *;refine bN (fun ai H'=>ai 2=.rp (aE x) 0/\ai 3=.rp (dI p) 0/\ai 7=int pr/\R=lvW x d p.noPlan pr p.nodes D) ?_ fun K hK=>aA (fun J=>?_) (fun J=>?_)
 rotate_left
 ·have ac:p.noPlan=false:=by simpa using J
  have hW:=hp ac;rw[ac]at O ae;simp only[Bool.not_false,Xbf]at O;rw[if_neg (by decide)]at ae;simp only[go_sem,T,I,F,E,A];refine aP (Sq.Fb x p.plan h.ev (Xai h.n8 (by decide)) h.ty hW.b hW.visits hW.type) ?_;simp only[go_sem,T,I,F,E,A];refine aA (fun J=>?_) (fun J=>?_)
  ·rw[if_pos J]at O;subst O;simp only[go_sem];exact .refl _
  rw[if_neg (by rw[J];simp)]at O;have h0:jW x p.plan=0:=by simpa using J
  simp only[go_sem,T,I,F,E,A];refine aP (Sq.adI x p.plan h.ev (Xai h.n8 (by decide)) h.ty hW.b hW.visits hW.type h0 (hW.ev h0) (hW.un h0)) ?_;simp only[go_sem,T,I,F,E,A];refine aA (fun J=>?_) (fun J=>?_)
  ·rw[if_pos (show((pB x p.plan).2 != 0)=true from J)]at O;subst O;simp only[go_sem];exact .refl _
  rw[if_neg (show ¬((pB x p.plan).2 != 0)=true from fun h=>Bool.noConfusion (J.symm.trans h))]at O;simp only[go_sem,T,I,F,E,A];refine hK _ _ ⟨by simp only[go_sem,T,I,F,E,A],by simp only[go_sem,T,I,F,E,A],?_,by rw[ac];exact O⟩;simp only[go_sem,T,I,F,E,A];exact congrArg int ae
 ·have ac:p.noPlan=true:=by simpa using J
  rw[ac]at O ae;rw[if_pos rfl]at ae;rw[if_neg (by simp),if_neg (by simp)]at O;simp only[go_sem,T,I,F,E,A];exact hK _ _ ⟨by simp only[go_sem,T,I,F,E,A],by simp only[go_sem,T,I,F,E,A],by simp only[go_sem,T,I,F,E,A];rw[<-ae],by rw[ac];exact O⟩
 clear T I F E A O;rintro ρ H ⟨T,I,e7,O⟩;simp only[go_sem,T];refine⟨by simp,aJ fun j hj=>?_⟩;have R0:=aB H j (some (lU x false));generalize hG:aI H j _=G;replace R0:G j=some (lU x false):=hG▸R0;clear hG hj;simp only[go_sem,I];refine aP (Go.Proofs.YtgncgpcpbadfnaaGreatDoor.Ve.Uj p.nodes D ht hP) ?_;simp only[go_sem,Xaa];refine⟨fun ρ H=>∃(k:Nat),k<=D.length/\ρ 3=.rp (dI p) 0/\ρ 7=int pr/\ρ 11=.op j 0 0/\ρ 68=.sl (D.map yM)/\ρ 69=int (D.length:Nat)/\ρ 70=int k/\(∃b,H j=some (lU x b))/\R=lvW x d p.noPlan pr (p.nodes.drop k) (D.drop k),fun ρ _=>D.length-aT (ρ 70),⟨0,Xab _,by simp only[go_sem,I,e7],by simp only[go_sem,I,e7],by simp only[go_sem,I,e7],by simp only[go_sem,I,e7],by simp only[go_sem,Xaa,I,e7],(by simp only[go_sem,I,e7];rfl),⟨false,R0⟩,O⟩,?_⟩;rintro ρ H ⟨k,hk,I,e7,aa,Y,U,X,Rj,Z⟩;simp only[go_sem,I,e7,aa,Y,U,X];refine aA (fun M=>?_) (fun ab=>?_)
 ·have M:=ltB (by simpa using M);obtain⟨b,Rj⟩:=Rj;obtain⟨ds,ak⟩:=aM M;have ap:k<p.nodes.length:=by rw[<-hP.len];exact M
  obtain⟨n,hn⟩:=aM ap;have b1:=inB M;have b2:=inB ap;rw[Sq.Cu hn,Sq.Cu ak,lvW]at Z;simp only[go_sem,I,e7,aa,Y,U,X,aC hn,aC ak,b1,b2,Xaa,yM];refine aJ fun av af=>?_
  simp only[go_sem,I,e7,aa,Y,U,X,Rj];refine bP af (by simp[gT]) fun al (ah:al av=some (⟨60,10,[bO n]⟩)) N=>?_
  replace Rj:=N Rj;obtain⟨am,Rj⟩:=Rj;clear N af;simp only[go_sem,I,e7,aa,Y,U,X,ah,Rj];have ao:k<=4611686018427387904:=by omega
  refine aA (fun J=>?_) (fun J=>?_)
  ·rw[if_pos (by simpa using J)]at Z;simp only[go_sem,I,e7,aa,Y,U,X,mX ao];exact⟨⟨k+1,M,rfl,⟨b,Rj⟩,Z⟩,by simp only[aF];omega⟩
  have hlf:n.leaf=true:=by simpa using J
  rw[if_neg (by rw[hlf];decide)]at Z;simp only[go_sem,I,e7,aa,Y,U,X,ah];refine aA (fun J=>?_) (fun J=>?_)
  ·rw[if_pos J]at Z;subst Z;simp only[go_sem];exact .refl _
  rw[if_neg (fun h=>Bool.noConfusion (J.symm.trans h))]at Z;simp only[go_sem,I,e7,aa,Y,U,X,ah];refine aiN x h b ds n pr (hL n ds (Xac hn) (Xac ak)) Rj fun H2 b' R2=>?_
  simp only[go_sem];refine aA (fun J=>?_) (fun J=>?_)
  ·rw[if_pos J]at Z;subst Z;simp only[go_sem];exact .refl _
  rw[if_neg (fun h=>Bool.noConfusion (J.symm.trans h))]at Z;simp only[go_sem,I,e7,aa,Y,U,X,mX ao];exact⟨⟨k+1,M,rfl,⟨b',R2⟩,Z⟩,by simp only[aF];omega⟩
 have ab:=geB hk (by simpa using ab);subst ab;rw[Xbp,hP.len,Xbp]at Z;simp only[go_sem];rw[Z];exact .refl _
end Nu
namespace Vy
open Go.Aw Go.Aw.D Go.Proofs Ty
open Go.Proofs.YtgncgpcpbadfnaaGreatDoor.Nu (sT)
open Dec (jH jJ pD mQ lZ iM pC Tk oC)
open Sq (jW dR sL vH Wj Io IN EH oZ fP xU oF gF nF okV W vF)
open Go.Proofs.YtgncgpcpbadfnaaGreatDoor.Ve (qG PathsOf yM eD EL)
def Dn:∀{l:List Int},vH l=0->∀e∈l,e=0
 | [],_,e,A=>by cases A
 | a::l,h,e,A=>by
  unfold vH at h;split at h
  ·next h1=>subst h;simp at h1
  ·next h1=>
   rcases List.mem_cons.1 A with rfl|A
   ·simpa using h1
   ·exact Dn h e A
structure PlanA(x:Instance)(p:Plan):Prop where
 ev:∀r∈p.routes,(dR x r).2.2=0
 un:∀u∈p.unserved,cD u x.orders.length=false
 two:EH x (Wj (oZ x.orders.length p.routes) (fP x.orders.length p.unserved))=false
 crowd:vF x p=false
 gone:EH x (Io (fP x.orders.length p.unserved))=false
 miss:EH x (IN (oZ x.orders.length p.routes) (fP x.orders.length p.unserved))=false
def FN{x:Instance}{p:Plan}(h:jW x p=0):PlanA x p:=by
 unfold jW at h;split at h
 ·next h1=>rw[h]at h1;simp at h1
 next h1=>
 have h0:vH (p.routes.map fun r=>(dR x r).2.2)=0:=by simpa using h1
 repeat (split at h;· cases h)
 next h2 h3 h4 h5 h6=>
 exact⟨fun r A=>Dn h0 _ (Xay.2 ⟨r,A,rfl⟩),fun u E=>by simpa using(Xax.1 (by simpa using h2)) u E,by simpa using h3,by simpa using h4,by simpa using h5,by simpa using h6⟩
def WI{x:Instance}{r:Route}(h:(dR x r).2.2=0):(0<=r.type/\r.type<(x.types.length:Int))/\∀v∈r.visits,0<=v.order/\v.order<(x.orders.length:Int):=by
 unfold dR at h;split at h
 ·cases h
 next h1=>
 split at h
 ·next A=>rw[show sL x r.visits=0 from h]at A;simp at A
 next A=>
 have A:sL x r.visits=0:=by simpa using A
 refine⟨by simp[cD]at h1;omega,fun v F=>?_⟩;unfold sL at A;split at A
 ·cases A
 next E=>
 simp only[Xbm,not_or,Bool.not_eq_true,Xax]at E;have:=E.2 v F;simp[cD]at this;omega
def WG{x:Instance}{f:Nat->Order->Bool}(h:EH x f=false){i:Nat}{o:Order}(A:x.orders[i]?=some o):f i o=false:=by have:=Xax.1 h i (Xav.2 (List.getElem?_eq_some_iff.1 A).1);rw[A]at this;simpa using this
def SS{r:Route}(h:pC r)(i:Nat):oF r i=if iM r (i:Nat)=true then 1 else 0:=by
 have F:r.visits.all okV=true:=Xaj.2 fun v E=>by have:=h v E;simp[okV];omega
 have e:(gF r.visits).1=((nF r.visits:Nat):Int):=by unfold gF;rw[if_pos F]
 unfold oF;rw[e,<-Dec.KG h (Int.natCast_nonneg i)];unfold Dec.kS;rw[Xbd];generalize ((nF r.visits:Nat):Int)/2^i=q;by_cases A:q%2=1
 ·rw[if_pos (by simpa using A)];exact A
 ·rw[if_neg (by simpa using A)];omega
def sum_one{α:Type}(f:α->Int):∀(l:List α),(∀a∈l,0<=f a)->0<=(l.map f).sum/\∀(i:Nat) (a:α),l[i]?=some a->f a<=(l.map f).sum
 | [],_=>⟨Xbw _,fun i a h=>by simp at h⟩
 | b::l,h=>by
  obtain⟨h1,E⟩:=sum_one f l fun a F=>h a (by simp[F])
  have I:=h b (by simp);simp only[Xaw,List.sum_cons];refine⟨by omega,fun i a A=>?_⟩;cases i with
  | zero=>simp at A;subst A;omega
  | succ i=>have:=E i a (by simpa using A);omega
def F0{α:Type}(f:α->Int):∀(l:List α),(∀a∈l,0<=f a)->∀(i j:Nat) (a b:α),i<j->l[i]?=some a->l[j]?=some b->f a+f b<=(l.map f).sum
 | [],_,i,j,a,b,_,hi,_=>by simp at hi
 | c::l,h,i,j,a,b,hij,hi,A=>by
  obtain⟨h1,F⟩:=sum_one f l fun a E=>h a (by simp[E])
  have I:=h c (by simp);simp only[Xaw,List.sum_cons];cases j with
  | zero=>omega
  | succ j=>
   have A:l[j]?=some b:=by simpa using A
   cases i with
   | zero=>simp at hi;subst hi;have:=F j b A;omega
   | succ i=>have:=F0 f l (fun a E=>h a (by simp[E])) i j a b (by omega) (by simpa using hi) A;omega
def PlanA.single{x:Instance}{p:Plan}(h:PlanA x p)(hn:x.orders.length<=62)(hl:p.routes.length<=1048576)(hu:p.unserved.length<=1048576)(i j:Nat)(r s:Route)(M:p.routes[i]?=some r)(T:p.routes[j]?=some s)(o:Int)(h0:0<=o)(h1:o<(x.orders.length:Int))(I:iM r o=true)(hs:iM s o=true):i=j:=by
 obtain⟨k,rfl⟩:=Int.eq_ofNat_of_zero_le h0;have U:k<x.orders.length:=by omega
 obtain⟨od,X⟩:=aM U;have F:=WG h.two X;have A:∀r∈p.routes,pC r:=fun r I v hv=>by have:=(WI (h.ev r I)).2 v hv;omega
 have e1:(oZ x.orders.length p.routes).getD k 0=xU p.routes k:=by unfold oZ;simp[List.getD,U]
 have e2:(fP x.orders.length p.unserved).getD k 0=(p.unserved.countP (fun u=>u == (k:Int)):Int):=by unfold fP;simp[List.getD,U]
 have Z:=Sq.SR p.routes k;have aa:=List.countP_le_length (p:=fun u=>u == (k:Int)) (l:=p.unserved);have J:xU p.routes k<=1:=by unfold Wj at F;rw[e1,e2]at F;simp only[decide_eq_false_iff_not]at F;have:W (xU p.routes k+(p.unserved.countP (fun u=>u == (k:Int)):Int))=xU p.routes k+(p.unserved.countP (fun u=>u == (k:Int)):Int):=bG (by omega);rw[this]at F;omega
 have E:∀r∈p.routes,0<=oF r k:=fun r _=>(Sq.Lc r k).1
 have b1:oF r k=1:=by rw[SS (A r (Xac M)),if_pos I]
 have b2:oF s k=1:=by rw[SS (A s (Xac T)),if_pos hs]
 unfold xU at J;rcases Nat.lt_trichotomy i j with O|he|Y
 ·have:=F0 (fun r=>oF r k) p.routes E i j r s O M T;rw[b1,b2]at this;omega
 ·exact he
 ·have:=F0 (fun r=>oF r k) p.routes E j i s r Y T M;rw[b1,b2]at this;omega
def aeB{x:Instance}{c e:Decision}(h:jH x [c,e]=0):Dec.dC x c=0/\Dec.dC x e=0:=by unfold jH at h;rw[if_neg (by simp)]at h;exact⟨pD h _ (by simp),pD h _ (by simp)⟩
def Jv:∀{l:List TNode} {D:List (List Decision)} {i:Nat} {a:TNode} {d:List Decision},l[i]?=some a->D[i]?=some d->a.leaf=true->d∈eD l D
 | [],_,_,_,_,h,_,_=>by simp at h
 | _::_,[],_,_,_,_,h,_=>by simp at h
 | b::l,e::D,0,a,d,h1,h2,h3=>by simp at h1 h2;subst h1;subst h2;unfold eD;rw[if_pos h3];exact List.mem_cons_self
 | b::l,e::D,i+1,a,d,h1,h2,h3=>by
  have:=Jv (l:=l) (D:=D) (i:=i) (by simpa using h1) (by simpa using h2) h3;unfold eD;split
  ·exact List.mem_cons_of_mem _ this
  ·exact this
def agJ{x:Instance}{l:List TNode}{D:List (List Decision)}{q:Plan}(ht:qG l)(hP:PathsOf l D)(hb:∀n∈l,sT x n=false)(h:PlanA x q)(hn:x.orders.length<=62)(hl:q.routes.length<=1048576)(hu:q.unserved.length<=1048576):∃d∈eD l D,lZ x d q=true:=by
 have M:∀r∈q.routes,pC r:=fun r A v hv=>by have:=(WI (h.ev r A)).2 v hv;omega
 obtain⟨Y,_,A,hc,_⟩:=ht;have I:l≠[]:=by rintro rfl;simp at Y
 have aa:∀m:Nat,(∃d∈eD l D,lZ x d q=true)\/∃(i:Nat) (d:List Decision),EL l i d/\lZ x d q=true/\d.length=m:=by
  intro m;induction m with
  | zero=>exact .inr ⟨0,[],.root,rfl,rfl⟩
  | succ m ih=>
   rcases ih with ih|⟨i,d,E,X,T⟩
   ·exact .inl ih
   have hi:=Go.Ve.Y2 A E I;obtain⟨a,J⟩:=aM hi;cases F:a.leaf with
   | true=>left;obtain⟨e,he⟩:=aM (show i<D.length by rw[hP.len];exact hi);have:e=d:=Go.Ve.wJ hc A (hP.way i e he) E;subst this;exact⟨e,Jv J he F,X⟩
   | false=>
    right;have Z:=hb a (Xac J);unfold sT at Z;rw[F]at Z;obtain⟨k1,k2⟩:=aeB (show jH x [a.choice,mQ a.choice]=0 by simpa using Z);obtain⟨y,n,hy,O⟩:=Ve.vJ A J F;rcases Tk hn k1 k2 M hl (h.single hn hl hu)with U|U
    ·exact⟨n,d++[mQ a.choice],.no E J F O,by unfold lZ at *;rw[List.all_append,X];exact U,by simp[T]⟩
    ·exact⟨y,d++[a.choice],.yes E J F hy,by unfold lZ at *;rw[List.all_append,X];exact U,by simp[T]⟩
 rcases aa l.length with h|⟨i,d,E,_,T⟩
 ·exact h
 ·have:=Ve.UE A hc I E;omega
end Vy
namespace Nu.Ps
open Go.Aw Go.Aw.D Go.Proofs Ty Go.Nu Go.So
open Dec (jH dC cL kS)
open Sq (EvalB BestQ qS pK lP gO)
end Nu.Ps
namespace Nu.Ps
open Go.Aw Go.Aw.D Go.Proofs Ty Go.Nu Go.So
open Dec (jH dC cL kS)
open Sq (EvalB BestQ qS pK lP gO lO)
def E2{x:Instance}(h:Acc x)(T:x.orders.length<=8):PrOk x (jP x.types).toNat:=by
 obtain⟨A,E⟩:=RN h;have h1:=h.arcs;have Z:=h.types;have Y:=h.apart;have U:=h.before;refine⟨⟨⟨by omega,fun a F=>(h.arc a F).travel,fun a F=>by have:=(h.arc a F).slow;omega⟩,?_,by omega,by omega⟩,T,by omega,A,E⟩;obtain⟨t,r,I⟩:=List.exists_cons_of_ne_nil E;have J:lO x=(t.cap.length:Nat):=by unfold lO;rw[I];rfl
 have X:=(A.cap t (by rw[I];exact List.mem_cons_self)).1;have M:=A.dims;exact⟨by rw[J];omega,fun o O=>by rw[J,(A.load o O).1];omega,by omega⟩
def aiS(a:Ask3):Bool:=(((((decide ((a.x.orders.length:Int)>3)||decide ((a.x.types.length:Int)>3))||decide ((a.cuts.length:Int)>8))||decide ((a.d.length:Int)>8))||decide ((a.dual.length:Int)>40))||decide (((Dv a.x).length:Int)>0))
def PW(a:Ask3):Bool:= !aiS a&&a.dual.all fun s=> !decide ((s.size:Int)>60)
end Nu.Ps
namespace Vy
open Go.Aw Go.Aw.D Go.Proofs Ty
open Go.Proofs.YtgncgpcpbadfnaaGreatDoor.Nu (LeafB PlanW)
open Sq (jW dR vH Wj Io IN EH oZ fP cE PlanB W)
def PlanA.unserved{x:Instance}{p:Plan}(h:PlanA x p)(u:Int)(M:u∈p.unserved):(cE x u).2=0:=by
 have J:=h.un u M;have h0:0<=u/\u<(x.orders.length:Int):=by simp[cD]at J;omega
 obtain⟨i,rfl⟩:=Int.eq_ofNat_of_zero_le h0.1;have I:i<x.orders.length:=by omega
 obtain⟨o,F⟩:=aM I;have A:=WG h.gone F;have E:=WG h.miss F;have e:(fP x.orders.length p.unserved).getD i 0=(p.unserved.countP (fun u=>u == (i:Int)):Int):=by unfold fP;simp[List.getD,I]
 have O:0<p.unserved.countP (fun u=>u == (i:Int)):=List.countP_pos_iff.2 ⟨_,M,by simp⟩;unfold Io at A;unfold IN at E;rw[e]at A E;rw[decide_eq_true (show(p.unserved.countP (fun u=>u == (i:Int)):Int)>0 by omega),Bool.and_true]at A;rw[decide_eq_true (show(p.unserved.countP (fun u=>u == (i:Int)):Int)>0 by omega),A]at E;simp only[Bool.not_false,Xbf,Xah]at E;unfold cE;rw[if_neg (by rw[show cD (i:Int) x.orders.length=false from J];decide),Xbd,F];show(Sq.eT o).2=0;unfold Sq.eT;rw[if_neg (by rw[A];decide),if_neg (by rw[E.2];decide)]
def Fy{x:Instance}{p:Plan}(h1:p.routes.length<=1048576)(F:p.unserved.length<=1048576)(E:∀r∈p.routes,r.visits.length<=1048575):PlanW x p where
 b:=⟨h1,fun r A=>by have:=E r A;omega,F⟩
 visits:=E
 type:=fun h r A=>(WI (Dn h _ (Xay.2 ⟨r,A,rfl⟩))).1
 ev:=fun h=>(FN h).ev
 un:=fun h=>(FN h).unserved
def Vl{x:Instance}{p:Plan}:Nu.nE (Nu.pB x p).1:=by
 unfold Nu.pB Sq.gV Nu.nE;split
 ·decide
 ·split
  ·decide
  ·exact Rx.zE _
end Vy
namespace Nu
open Go.Proofs.Tryz
open Go.Aw Go.Aw.D Go.Proofs Ty Go.Nu
open Dec (jH dC cL kS mQ)
open Sq (EvalB qS jW dR GH wR vH PlanB)
open Ps (PrOk)
open Go.Proofs.YtgncgpcpbadfnaaGreatDoor.Ve (qG PathsOf yM eD EL)
def vxO:Order:=⟨⟨#[111]⟩,[1],⟨-1,0,0,0⟩,⟨1,0,40,0⟩,0,-1,1,-1,-1,false⟩
def vxT:VType:=⟨⟨#[118]⟩,1,0,0,[1],0,0,0,60,100,0,20,1,0⟩
def vxN:Network:=⟨[⟨#[65]⟩,⟨#[66]⟩],[⟨0,1,0,20,[⟨0,10⟩],[]⟩,⟨1,0,0,20,[⟨0,10⟩],[]⟩]⟩
def vxX(c:Int):Instance:=⟨vxN,[vxT],[{ vxO with drop:=⟨1,0,c,0⟩ }],[],[]⟩
def vxL(k:Int)(d:List ByteArray):TNode:=⟨true,k,[],d,⟨0,0,0,0⟩,0,0⟩
def vxP(s:ByteArray):Proof:=⟨false,⟨[⟨0,0,[],[⟨0,true⟩]⟩],[]⟩,[vxL 1 [s,⟨#[48]⟩]]⟩
def s60:ByteArray:=⟨#[49,48,48,54,54,51,50,57,54,48]⟩
def s59:ByteArray:=⟨#[49,48,48,54,54,51,50,57,53,57]⟩
def vxQ:Proof:=⟨true,⟨[],[]⟩,[vxL 2 [⟨#[49]⟩,⟨#[48]⟩]]⟩
def vx_1:mN (vxX 40) 1 (vxP s60) true [[]]=0:=by decide +kernel
def vx_2:mN (vxX 40) 1 (vxP s59) true [[]]=26:=by decide +kernel
def vx_3:mN (vxX 5) 1 vxQ true [[]]=0:=by decide +kernel
abbrev NU(p a t:List (List AV))(o:AV):Row:=⟨30,6,[[.sl p,.sl a,.sl t,o,.sl [],.sl []]]⟩
abbrev QO(r n:List (List AV)):Row:=⟨37,4,[[boo false,.sl r,.sl [],.sl n]]⟩
abbrev XG(l:List Order):Row:=⟨81,16,l.map aW⟩
def Xh{H:aH}{K:AV->aH->Prop}(hK:∀j H',H' j=some (XG [vxO])->K (.tup [.agg [.sl (vxN.places.map Go.Aw.D.dL),.sl (vxN.arcs.map eA),.sl [aZ vxT],.os j,.sl [],.sl []],.agg (dI (vxP s60))]) H'):bF prog 21 [] H K:=by
 refine bF.body (c:=f21.body.getD .skip) (fun t=>t == 24) mixed func21 rfl (by kernel_rfl) ?_;unfold f21;simp only[Xbh];simp only[go_sem];refine eQ fun i0 aj am (F:aj i0=some (NU [] [] [] (.sl []))) N=>?_
 clear N am;simp only[go_sem,F];refine eQ fun i1 ai ao (I:ai i1=some (QO [] [])) N=>?_
 replace F:=N F;obtain⟨Y,F⟩:=F;clear N ao;simp only[go_sem,I,F];refine aJ fun i2 ag=>?_
 simp only[go_sem,F,I];refine bP ag (by simp) fun al (O:al i2=some (NU (vxN.places.map Go.Aw.D.dL) [] [] (.sl []))) N=>?_
 replace F:=N F;obtain⟨A,F⟩:=F;replace I:=N I;obtain⟨E,I⟩:=I;clear N ag;simp only[go_sem,O,F,I];refine bU ⟨_,rfl,rfl⟩ O (by simp) ?_;generalize X:aI _ i2 _=HP;replace F:=kpA X (by first|exact A|exact ne_i2_i0.symm) F;replace I:=kpA X (by first|exact E|exact ne_i2_i1.symm) I;replace O:HP i2=some (NU (vxN.places.map Go.Aw.D.dL) (vxN.arcs.map eA) [] (.sl [])):=upS X;clear X;simp only[go_sem,O,F,I];refine bU ⟨_,rfl,rfl⟩ O (by simp) ?_;generalize X:aI _ i2 _=HP;replace F:=kpA X (by first|exact A|exact ne_i2_i0.symm) F;replace I:=kpA X (by first|exact E|exact ne_i2_i1.symm) I;replace O:HP i2=some (NU (vxN.places.map Go.Aw.D.dL) (vxN.arcs.map eA) [aZ vxT] (.sl [])):=upS X;clear X;simp only[go_sem,O,F,I];refine eQ fun j ar aq (Z:ar j=some (XG [vxO])) N=>?_
 replace F:=N F;obtain⟨ab,F⟩:=F;replace I:=N I;obtain⟨ac,I⟩:=I;replace O:=N O;obtain⟨T,O⟩:=O;clear N aq;simp only[go_sem,Z,F,I,O];refine bU ⟨_,rfl,rfl⟩ O (by simp) ?_;generalize X:aI _ i2 _=HP;replace F:=kpA X (by first|exact A|exact ne_i2_i0.symm) F;replace I:=kpA X (by first|exact E|exact ne_i2_i1.symm) I;replace Z:=kpA X (by first|exact ne_j_i2|exact T.symm) Z;replace O:HP i2=some (NU (vxN.places.map Go.Aw.D.dL) (vxN.arcs.map eA) [aZ vxT] (.os j)):=upS X;clear X;simp only[go_sem,O,F,I,Z];refine aJ fun i3 ah=>?_
 simp only[go_sem,F,I,O,Z];refine bP ah (by simp) fun an (R3:an i3=some (QO [bI ⟨0,0,[],[⟨0,true⟩]⟩] [])) N=>?_
 replace F:=N F;obtain⟨M,F⟩:=F;replace I:=N I;obtain⟨J,I⟩:=I;replace O:=N O;obtain⟨aa,O⟩:=O;replace Z:=N Z;obtain⟨U,Z⟩:=Z;clear N ah;simp only[go_sem,R3,F,I,O,Z];refine bU ⟨_,rfl,rfl⟩ R3 (by simp) ?_;generalize X:aI _ i3 _=HP;replace F:=kpA X (by first|exact M|exact ne_i3_i0.symm) F;replace I:=kpA X (by first|exact J|exact ne_i3_i1.symm) I;replace O:=kpA X (by first|exact aa|exact ne_i3_i2.symm) O;replace Z:=kpA X (by first|exact U|exact ne_i3_j.symm) Z;replace R3:HP i3=some (QO [bI ⟨0,0,[],[⟨0,true⟩]⟩] [bO (vxL 1 [s60,⟨#[48]⟩])]):=upS X;clear X;simp only[go_sem,R3,F,I,O,Z];refine gW [i2,i3] [(0,true),(1,true),(2,false),(3,false)] (by simp[O,R3]) (by kernel_rfl) fun Hp Hr hp hr _ au=>?_
 have ap:=(hp i2 (by simp)).trans O;have ak:=(hp i3 (by simp)).trans R3;have ae:=(hr i0 (by simp[A,M])).trans F;have af:=(hr i1 (by simp[E,J])).trans I;simp only[go_sem,ap,ak,ae,af];refine aN ae (by simp) ?_;simp only[go_sem];refine aN ((aD _ _ _ _ Y.symm).trans af) (by simp) ?_;simp only[go_sem];refine dX fun _ Hm _ h2=>?_
 have M0:Hm i0=some (NU (vxN.places.map Go.Aw.D.dL) (vxN.arcs.map eA) [aZ vxT] (.os j)):=by rw[h2 i0 (by simp[A,M]),aD _ _ _ _ Y,aB]
 have M1:Hm i1=some (QO [bI ⟨0,0,[],[⟨0,true⟩]⟩] [bO (vxL 1 [s60,⟨#[48]⟩])]):=by rw[h2 i1 (by simp[E,J]),aB]
 have Mj:Hm j=some (XG [vxO]):=by rw[h2 j (by simp[T.symm,U]),aD _ _ _ _ ac.symm,aD _ _ _ _ ab.symm,hr j (by simp[T.symm,U])];exact Z
 simp only[go_sem,M0,M1];exact hK j Hm Mj
def Yw(c:Int):LoadsOk (vxX c) 1 where
 dims:=by decide
 orders:=by simp[vxX]
 types:=by simp[vxX]
 load:=by intro o E;simp[vxX]at E;subst E;simp[vxO]
 cap:=by intro t A;simp[vxX]at A;subst A;simp[vxT]
def afT:Sq.NetOk vxN where
 arcs:=by decide
 travel:=by intro a A;simp[vxN]at A;rcases A with rfl|rfl <;> decide +kernel
 slow:=by intro a A;simp[vxN]at A;rcases A with rfl|rfl <;> decide
def afF(c:Int):PrOk (vxX c) 1 where
 ev:=⟨afT,⟨by simp[vxX,vxT,Sq.lO],by intro o A;simp[vxX]at A;subst A;rfl,by simp[vxX]⟩,by simp[vxX],by simp[vxX]⟩
 n8:=by simp[vxX]
 ty:=by simp[vxX]
 lo:=Yw c
 ne:=by simp[vxX]
def Ox{n:TNode}(h:n.leaf=true):qG [n]:=⟨by simp,by simp,by simp[Ve.pV,Go.Ve.kZ,h],by simp[Go.Ve.nV,Go.Ve.cnt,Go.Ve.nD,h],fun k A=>⟨[],by
 obtain rfl:k=0:=by simp at A;omega
 exact .root⟩⟩
def IA(n:TNode):PathsOf [n] [[]]:=⟨rfl,fun k d h=>by
 cases k with
 | zero=>cases h;exact .root
 | succ k=>simp at h,fun d A=>by simp at A;subst A;simp⟩
def TZ(c:Int)(k F:Int)(d:List ByteArray)(I:VarB d)(J:nE F):LeafB (vxX c) (vxL k d) [] F where
 types:=by intro t E;simp[vxX]at E;subst E;exact⟨by decide,by decide⟩
 cuts:=by intro q A;cases A
 dsn:=by intro q A;cases A
 dl:=by simp
 cl:=by simp[vxL]
 dual:=I
 price:=J
def Y6:PlanW (vxX 40) (vxP s60).plan where
 b:=⟨by decide,by decide,by decide⟩
 visits:=by decide
 type:=fun _=>by decide
 ev:=fun _=>by decide +kernel
 un:=fun _=>by decide +kernel
def afK(s:ByteArray)(I:s.size<=1048576):PC prog 8 [.agg (aE (vxX 40)),.agg (dI (vxP s))] (int (mN (vxX 40) 1 (vxP s) true [[]])):=
 Aa (vxX 40) 1 (vxP s) (afF 40) true ⟨fun _=>Ox rfl,fun _=>rfl⟩ [[]] (fun _=>IA _) (by simp[vxP]) (fun _=>Y6) fun n ds F A=>by
  simp[vxP]at F;simp at A;subst F;subst A;refine TZ 40 1 _ _ ⟨by simp,fun t E=>?_⟩ (show nE (pB (vxX 40) (vxP s60).plan).1 from⟨by decide +kernel,by decide +kernel⟩);simp at E;rcases E with rfl|rfl
  ·exact I
  ·decide
def ajD:PC prog 8 [.agg (aE (vxX 5)),.agg (dI vxQ)] (int 0):=by
 have h:=Aa (vxX 5) 1 vxQ (afF 5) true ⟨fun _=>Ox rfl,fun _=>rfl⟩ [[]] (fun _=>IA _) (by simp[vxQ]) (fun h=>by cases h) fun n ds E A=>by simp[vxQ]at E;simp at A;subst E;subst A;refine TZ 5 2 _ _ ⟨by simp,by decide⟩ ⟨by decide,by decide⟩
 rw[vx_3]at h;exact h
def vxC:Decision:=⟨5,0,0,0⟩
def vxA:Proof:=⟨false,⟨[],[]⟩,[⟨false,0,[],[],vxC,2,1⟩,vxL 0 [],vxL 0 []]⟩
def vxB:Proof:=⟨false,⟨[],[]⟩,[⟨false,0,[],[],⟨0,0,0,0⟩,1,1⟩,vxL 0 []]⟩
def Te:∀k,k<3->EL vxA.nodes k (([[],[mQ vxC],[vxC]]:List (List Decision)).getD k [])
 | 0,_=>.root
 | 1,_=>.no (d:=[]) .root (rfl:vxA.nodes[0]?=some _) rfl rfl
 | 2,_=>.yes (d:=[]) .root (rfl:vxA.nodes[0]?=some _) rfl rfl
def UP:PC prog 12 [.agg (dI vxA)] (.tup [.sl ([[mQ vxC],[vxC]].map yM),int 0]):=
 Go.Proofs.YtgncgpcpbadfnaaGreatDoor.Ve.KU vxA true ⟨fun _=>⟨by decide,by decide,by decide,by decide,fun k A=>⟨_,Te k A⟩⟩,fun _=>rfl⟩ [[],[mQ vxC],[vxC]] (fun _=>⟨rfl,fun k d h=>by have A:k<3:=(List.getElem?_eq_some_iff.1 h).1;have:=Te k A;rw[List.getD,h]at this;exact this,by decide⟩) (by decide)
def Un:PC prog 12 [.agg (dI vxB)] (.tup [.sl [],int 29]):=
 Go.Proofs.YtgncgpcpbadfnaaGreatDoor.Ve.KU vxB false ⟨fun h=>(by cases h),fun h=>absurd h.2.2.2.1 (by decide)⟩ [] (fun h=>(by cases h)) (by decide)
def Ld{H:aH}{j:Nat}(c:Int)(A:H j=some (XG (vxX c).orders))(p:AV):ConvL H [.agg [.sl (vxN.places.map Go.Aw.D.dL),.sl (vxN.arcs.map eA),.sl [aZ vxT],.os j,.sl [],.sl []],p] [.agg (aE (vxX c)),p]:=
 .cons _ _ _ _ (.agg _ _ (.cons _ _ _ _ (.refl _) (.cons _ _ _ _ (.refl _) (.cons _ _ _ _ (.refl _) (.cons _ _ _ _ (.row _ _ _ A (ConvE.refl _)) (ConvL.refl _)))))) (ConvL.refl _)
def BW:PC prog 9 [] (boo true):=by
 have h1:=afK s60 (by decide);rw[vx_1]at h1;have h2:=afK s59 (by decide);rw[vx_2]at h2;have h3:=ajD;have h4:PC prog 12 [.agg (dI vxA)] (.tup [.sl [[.sl [[int 6,int 0,int 0,int 0]]],[.sl [[int 5,int 0,int 0,int 0]]]],int 0]):=UP;have h5:=Un;refine pcd func9 rfl rfl ?_;simp only[go_sem];refine Xh fun j H E=>?_
 simp only[go_sem];refine eQ fun i1 U Y (I:U i1=some (NU [] [] [] (.sl []))) N=>?_
 replace E:=N E;obtain⟨M,E⟩:=E;clear N Y;simp only[go_sem,I,E];refine eQ fun T Z X (O:Z T=some (QO [] [])) N=>?_
 replace I:=N I;obtain⟨A,I⟩:=I;replace E:=N E;obtain⟨F,E⟩:=E;clear N X;simp only[go_sem,O,I,E];refine aN I (by simp) ?_;generalize J:aI _ i1 _=HP;replace O:=kpA J (by first|exact ne_i2_i1|exact A.symm) O;replace E:=kpA J (by first|exact M|exact ne_i1_j.symm) E;replace I:HP i1=some (NU (vxN.places.map Go.Aw.D.dL) (vxN.arcs.map eA) [aZ vxT] (.os j)):=upS J;clear J;simp only[go_sem,I,O,E];refine aN O (by simp[Ca]) ?_;generalize J:aI _ T _=HP;replace I:=kpA J (by first|exact A|exact ne_i2_i1.symm) I;replace E:=kpA J (by first|exact F|exact ne_i2_j.symm) E;replace O:HP T=some (QO [bI ⟨0,0,[],[⟨0,true⟩]⟩] [bO (vxL 1 [s60,⟨#[48]⟩])]):=upS J;clear J;simp only[go_sem,O,I,E];refine dD.use ⟨_,Ld 40 E _,h1,rfl⟩ ?_;simp only[go_sem];refine bU ⟨_,rfl,rfl⟩ O (by simp) ?_;generalize J:aI _ T _=HP;replace I:=kpA J (by first|exact A|exact ne_i2_i1.symm) I;replace E:=kpA J (by first|exact F|exact ne_i2_j.symm) E;replace O:HP T=some (QO [bI ⟨0,0,[],[⟨0,true⟩]⟩] [bO (vxL 1 [s59,⟨#[48]⟩])]):=upS J;clear J;simp only[go_sem,O,I,E];refine dD.use ⟨_,Ld 40 E _,h2,rfl⟩ ?_;simp only[go_sem,I,E];refine⟨⟨by decide,by decide⟩,?_⟩;refine bU so3 E (by simp[kF]) ?_;generalize J:aI _ j _=HP;replace I:=kpA J (by first|exact ne_i1_j|exact M.symm) I;replace O:=kpA J (by first|exact ne_i2_j|exact F.symm) O;replace E:HP j=some (XG (vxX 5).orders):=upS J;clear J;simp only[go_sem,E,I,O];refine dD.use ⟨_,Ld 5 E _,h3,rfl⟩ ?_;simp only[go_sem];refine aP h4 ?_;simp only[go_sem];refine aP h5 ?_;simp only[go_sem]
 iterate 6 (refine⟨fun _=>⟨by decide,by decide⟩,?_⟩)
 exact .refl _
end Nu
namespace Vy
open Go.Proofs.Tryz
open Go.Aw Go.Aw.D Go.Proofs Ty
open Go.Proofs.YtgncgpcpbadfnaaGreatDoor.Nu (ltB geB cB LeafB PlanW)
open Nu.Ps (PrOk)
open Go.Proofs.YtgncgpcpbadfnaaGreatDoor.Ve (qG PathsOf yM eD EL)
def Sm(x:Instance):Bool:=(decide ((x.orders.length:Int)<=3)&&decide ((x.types.length:Int)<=2))&&((Dv x).length:Int) == 0
def Cj(x:Instance)(A:InB x):PC prog 5 [.agg (aE x)] (boo (Sm x)):=by refine pcd func5 rfl rfl ?_;simp only[go_sem];refine⟨_,fun _=>(NC.pc (acG x A)).qn,?_⟩;simp only[go_sem,Xaa];exact cB rfl
def Ax{x:Instance}(h:Sm x=true):Acc x/\x.orders.length<=3/\x.types.length<=2:=by unfold Sm at h;simp only[Xam,decide_eq_true_eq,Xba]at h;exact⟨ahP (List.length_eq_zero_iff.1 (by omega)),by omega,by omega⟩
def D3(n:TNode):Bool:= !(decide ((n.cuts.length:Int)>30)||decide ((n.dual.length:Int)>30))&&n.dual.all fun s=> !decide ((s.size:Int)>60)
def afO(n:TNode):PC prog 15 [.agg (bO n)] (boo (D3 n)):=by
 refine pcd func15 rfl rfl ?_;simp only[go_sem];refine aA (fun T=>?_) (fun T=>?_)
 ·simp only[go_sem];exact cB (by unfold D3;rw[T];rfl)
 have Y:D3 n=n.dual.all fun s=> !decide ((s.size:Int)>60):=by unfold D3;rw[T];rfl
 have hl:n.dual.length<=30:=by simp at T;omega
 rw[Y];simp only[go_sem,Xaa];refine⟨fun ρ H=>∃(k:Nat),k<=n.dual.length/\ρ 16=.sl (n.dual.map Go.Aw.D.dL)/\ρ 17=int (n.dual.length:Nat)/\ρ 18=int k/\(∀s∈n.dual.take k,decide ((s.size:Int)>60)=false),fun ρ _=>n.dual.length-aT (ρ 18),⟨0,Xab _,by simp only[go_sem],by simp only[go_sem,Xaa],(by simp only[go_sem];rfl),by simp⟩,?_⟩;rintro ρ H ⟨k,Z,J,E,I,U⟩;simp only[go_sem,J,E,I];refine aA (fun A=>?_) (fun F=>?_)
 ·have A:=ltB (by simpa using A);obtain⟨s,M⟩:=aM A;have X:=inB A;simp only[go_sem,J,E,I,aC M,X];refine aA (fun O=>?_) (fun O=>?_)
  ·simp only[go_sem];refine cB ?_;exact(List.all_eq_false.2 ⟨s,Xac M,by have O:decide ((s.size:Int)>60)=true:=O;rw[O];simp⟩).symm
  ·simp only[go_sem,J,E,I,aV k];exact⟨⟨k+1,A,rfl,Nu.fG (p:=fun s:ByteArray=>decide ((s.size:Int)>60)=false) M O U⟩,by simp only[aF];omega⟩
 have F:=geB Z (by simpa using F);subst F;rw[Xae]at U;simp only[go_sem];exact cB (Xaj.2 fun s M=>by rw[U s M];rfl).symm
def GJ(n:TNode):Bool:= !(!D3 n||decide (n.choice.n< -1073741824)||decide (n.choice.n>1073741824))
def PW(p:Proof):Bool:= !(decide ((p.nodes.length:Int)>20)||decide ((p.plan.routes.length:Int)>6))&&(p.nodes.all GJ&&p.plan.routes.all fun r=> !decide ((r.visits.length:Int)>6))
def ajT(p:Proof):PC prog 6 [.agg (dI p)] (boo (PW p)):=by
 refine pcd func6 rfl rfl ?_;simp only[go_sem];refine aA (fun hb=>?_) (fun hb=>?_)
 ·simp only[go_sem];exact cB (by unfold PW;rw[hb];rfl)
 have hF:PW p=(p.nodes.all GJ&&p.plan.routes.all fun r=> !decide ((r.visits.length:Int)>6)):=by unfold PW;rw[hb];rfl
 have hl:p.nodes.length<=20/\p.plan.routes.length<=6:=by simp at hb;omega
 rw[hF];simp only[go_sem,Xaa];refine⟨fun ρ H=>∃(k:Nat),k<=p.nodes.length/\ρ 1=.rp (dI p) 0/\ρ 19=.sl (p.nodes.map bO)/\ρ 20=int (p.nodes.length:Nat)/\ρ 21=int k/\(∀n∈p.nodes.take k,GJ n=true),fun ρ _=>p.nodes.length-aT (ρ 21),⟨0,Xab _,by simp only[go_sem],by simp only[go_sem],by simp only[go_sem,Xaa],(by simp only[go_sem];rfl),by simp⟩,?_⟩;rintro ρ H ⟨k,hk,Z,J,F,M,hz⟩;simp only[go_sem,Z,J,F,M];refine aA (fun A=>?_) (fun E=>?_)
 ·have A:=ltB (by simpa using A);obtain⟨n,hn⟩:=aM A;have b1:=inB A;simp only[go_sem,Z,J,F,M,aC hn,b1,Xaa];refine aJ fun i4 Y=>?_
  simp only[go_sem,Z,J,F,M];refine bP Y (by simp[gT]) fun ab (R4:ab i4=some (⟨60,10,[bO n]⟩)) N=>?_
  clear N Y;simp only[go_sem,Z,J,F,M,R4];refine aP (afO n) ?_;simp only[go_sem,R4];refine aA (fun I=>?_) (fun I=>?_)
  ·simp only[go_sem];refine cB ?_;rw[List.all_eq_false.2 ⟨n,Xac hn,by have I:(!D3 n||decide (n.choice.n< -1073741824)||decide (n.choice.n>1073741824))=true:=I;unfold GJ;rw[I];simp⟩];rfl
  ·simp only[go_sem,Z,J,F,M,aV k];exact⟨⟨k+1,A,rfl,Dec.mG (p:=GJ) hn (by have I:(!D3 n||decide (n.choice.n< -1073741824)||decide (n.choice.n>1073741824))=false:=I;unfold GJ;rw[I];rfl) hz⟩,by simp only[aF];omega⟩
 have E:=geB hk (by simpa using E);subst E;rw[Xae]at hz;rw[Xaj.2 hz,Xbf];simp only[go_sem,Z,J,F,M,Xaa];refine⟨fun ρ H=>∃(k:Nat),k<=p.plan.routes.length/\ρ 43=.sl (p.plan.routes.map bI)/\ρ 44=int (p.plan.routes.length:Nat)/\ρ 45=int k/\(∀r∈p.plan.routes.take k,decide ((r.visits.length:Int)>6)=false),fun ρ _=>p.plan.routes.length-aT (ρ 45),⟨0,Xab _,by simp only[go_sem],by simp only[go_sem,Xaa],(by simp only[go_sem];rfl),by simp⟩,?_⟩;rintro ρ H ⟨k,hk,U,O,T,hy⟩;simp only[go_sem,U,O,T];refine aA (fun A=>?_) (fun E=>?_)
 ·have A:=ltB (by simpa using A);obtain⟨r,hr⟩:=aM A;have b1:=inB A;simp only[go_sem,U,O,T,aC hr,b1,Xaa];refine aJ fun i6 X=>?_
  simp only[go_sem,U,O,T];refine bP X (by simp[gU]) fun aa (R6:aa i6=some (⟨65,4,[bI r]⟩)) N=>?_
  clear N X;simp only[go_sem,U,O,T,R6];refine aA (fun I=>?_) (fun I=>?_)
  ·simp only[go_sem];refine cB ?_;exact(List.all_eq_false.2 ⟨r,Xac hr,by have I:decide ((r.visits.length:Int)>6)=true:=I;rw[I];simp⟩).symm
  ·simp only[go_sem,U,O,T,aV k];exact⟨⟨k+1,A,rfl,Nu.fG (p:=fun r:Route=>decide ((r.visits.length:Int)>6)=false) hr I hy⟩,by simp only[aF];omega⟩
 have E:=geB hk (by simpa using E);subst E;rw[Xae]at hy;simp only[go_sem];exact cB (Xaj.2 fun s hs=>by rw[hy s hs];rfl).symm
end Vy
namespace Vy
open Go.Proofs.Tryz
open Go.Aw Go.Aw.D Go.Proofs Ty
open Go.Proofs.YtgncgpcpbadfnaaGreatDoor.Nu (ltB geB cB LeafB PlanW VarB mN Aa pB sT nE BW)
open Nu.Ps (PrOk E2)
open Dec (mQ lZ Tc)
open Sq (jW Fb)
open Go.Proofs.YtgncgpcpbadfnaaGreatDoor.Ve (qG PathsOf yM eD EL)
structure FewB(p:Proof):Prop where
 nodes:p.nodes.length<=20
 routes:p.plan.routes.length<=6
 visits:∀r∈p.plan.routes,r.visits.length<=6
 leaf:∀n∈p.nodes,n.cuts.length<=30/\n.dual.length<=30/\∀s∈n.dual,s.size<=60
def Xa{p:Proof}(h:PW p=true):FewB p:=by unfold PW at h;simp only[Xam,Xbk,Xah,decide_eq_false_iff_not,Xaj]at h;obtain⟨⟨h1,U⟩,I,E⟩:=h;refine⟨by omega,by omega,fun r A=>by have:=E r A;omega,fun n M=>?_⟩;have:=I n M;unfold GJ D3 at this;simp only[Xam,Xbk,Xah,Xbn,decide_eq_false_iff_not,Xaj]at this;obtain⟨⟨⟨⟨T,O⟩,F⟩,_⟩,_⟩:=this;exact⟨by omega,by omega,fun s J=>by have:=F s J;omega⟩
def aiT{l:List TNode}(F:∀n∈l,nE n.choice.n){k:Nat}{d:List Decision}(h:EL l k d):∀c∈d,nE c.n:=by
 induction h with
 | root=>intro c A;cases A
 | yes h1 E h3 h4 ih=>
  intro c A;rcases Xat.1 A with A|A
  ·exact ih c A
  ·simp at A;subst A;exact F _ (Xac E)
 | @no i k d a h1 E h3 h4 ih=>
  intro c A;rcases Xat.1 A with A|A
  ·exact ih c A
  ·simp at A;subst A;have h0:=F _ (Xac E);have h1:=Rx.zE (a.choice.n+1);have E:=Rx.zE (a.choice.n-1);unfold nE at *;unfold mQ
   repeat' split
   all_goals first|exact h0|exact h1|exact E
def Xd{x:Instance}{p:Proof}{D:List (List Decision)}{price:Int}(X:rA 1048576 x)(hp:G6 1048576 p)(M:FewB p)(J:PathsOf p.nodes D)(F:nE price)(n:TNode)(ds:List Decision)(A:n∈p.nodes)(O:ds∈D):LeafB x n ds price:=by have E:=hp.2.2.2;obtain⟨c1,c2,Z⟩:=M.leaf n A;obtain⟨k,Y⟩:=List.getElem?_of_mem O;have I:=J.short ds O;have:=M.nodes;exact⟨fun t U=>(X.2.1.2 t U).2.1,fun q T=>⟨((E n A).2.2.1.2 q T).2.2,((E n A).2.2.1.2 q T).2.1.2⟩,aiT (fun n A=>(E n A).2.2.2.2.1.2.2.2) (J.way k ds Y),by omega,by omega,⟨by omega,fun s I=>by have:=Z s I;omega⟩,F⟩
def Pu{x:Instance}{p:Proof}(Y:rA 1048576 x)(O:G6 1048576 p):∃(b:Bool) (D:List (List Decision)),(b=true↔qG p.nodes)/\(b=true->PathsOf p.nodes D)/\∀(F:Acc x) (U:x.orders.length<=3) (A:FewB p),PC prog 8 [.agg (aE x),.agg (dI p)] (int (mN x (jP x.types).toNat p b D)):=by
 by_cases h:qG p.nodes
 ·obtain⟨D,M⟩:=Ve.WB h;refine⟨true,D,⟨fun _=>h,fun _=>rfl⟩,fun _=>M,fun F U A=>?_⟩;have J:=A.visits;have E:=A.routes;exact Aa x _ p (E2 F (by omega)) true ⟨fun _=>h,fun _=>rfl⟩ D (fun _=>M) (by have:=A.nodes;omega) (fun _=>Fy (by omega) O.2.1.2.1 fun r E=>by have:=J r E;omega) fun n ds X I=>Xd Y O A M (by split;exact⟨by decide,by decide⟩;exact Vl) n ds X I
 ·refine⟨false,[],⟨fun h=>(by cases h),fun T=>absurd T h⟩,fun h=>(by cases h),fun F U A=>?_⟩;have J:=A.visits;have E:=A.routes;exact Aa x _ p (E2 F (by omega)) false ⟨fun h=>(by cases h),fun T=>absurd T h⟩ [] (fun h=>(by cases h)) (by have:=A.nodes;omega) (fun _=>Fy (by omega) O.2.1.2.1 fun r E=>by have:=J r E;omega) fun n ds X I=>(by cases I)
def VK{x:Instance}{d:Nat}{p:Proof}{b:Bool}{D:List (List Decision)}(h:mN x d p b D=0):b=true/\(∀n∈p.nodes,sT x n=false)/\(p.noPlan=false->jW x p.plan=0/\(pB x p.plan).2=0)/\Nu.lvW x d p.noPlan (if p.noPlan=true then 0 else(pB x p.plan).1) p.nodes D=0:=by
 unfold mN at h;split at h
 ·cases h
 next h1=>
 split at h
 ·cases h
 next I=>
 split at h
 ·next E=>rw[h]at E;simp at E
 next E=>
 split at h
 ·next A=>rw[h]at A;simp at A
 next A=>
 refine⟨by simpa using h1,fun n F=>by simpa using(Xax.1 (by simpa using I)) n F,fun F=>?_,h⟩;rw[F]at E A;exact⟨by simpa using E,by simpa using A⟩
def yI:∀{l:List TNode} {D:List (List Decision)} {d:List Decision},d∈eD l D->d∈D
 | [],_,_,h=>by cases h
 | _::_,[],_,h=>by cases h
 | a::l,e::D,d,h=>by
  unfold eD at h;split at h
  ·rcases List.mem_cons.1 h with rfl|h
   ·exact List.mem_cons_self
   ·exact List.mem_cons_of_mem _ (yI h)
  ·exact List.mem_cons_of_mem _ (yI h)
def GN(x:Instance)(p:Proof)(q:Plan)(hx:rA 1048576 x)(hI:InB x)(hp:G6 1048576 p)(X:TK 1048575 q):PC prog 4 [.agg (aE x),.agg (dI p),.agg (gA q)] (boo true):=by
 obtain⟨b,D,hb,hD,hV⟩:=Pu hx hp;have ah:=X.2.1;have U:∀r∈q.routes,r.visits.length<=1048575:=fun r Z=>(X.1.2 r Z).2.2.2.1
 have hW:PlanW x q:=Fy (by have:=X.1.1;omega) (by omega) U;have hE:=BW;generalize T:mN x (jP x.types).toNat p b D=V at *;refine pcd func4 rfl rfl ?_;simp only[go_sem];refine aP (Cj x hI) ?_;simp only[go_sem];refine⟨_,fun _=>(ajT p).q rfl,?_⟩;simp only[go_sem,Xaa];refine⟨_,fun M=>(by simp only[Xah,Xbn]at M;exact(hV (Ax M.1.1).1 (Ax M.1.1).2.1 (Xa M.1.2)).q rfl),?_⟩;simp only[go_sem];refine⟨_,fun M=>(by simp only[Xah,Xbn]at M;obtain⟨hA,h3,h2⟩:=Ax M.1.1.1;exact(Fb x q (E2 hA (by omega)).ev (by omega) (by omega) hW.b hW.visits hW.type).q rfl),?_⟩;simp only[go_sem];refine aA (fun E=>?_) (fun E=>?_)
 ·simp only[go_sem];refine aP hE ?_;simp only[go_sem];exact .refl _
 simp only[Xah,Xbn,decide_eq_false_iff_not]at E;obtain⟨⟨⟨⟨c1,c2⟩,c3⟩,c4⟩,c5⟩:=E;obtain⟨hA,h3,h2⟩:=Ax c1;have hF:=Xa c2;have ac:V=0:=by simpa using c4
 rw[ac]at T;have ae:jW x q=0:=by simpa using c5
 obtain⟨rfl,aa,_,_⟩:=VK T;have ht:=hb.1 rfl;have hP:=hD rfl;have Y:=Go.Proofs.YtgncgpcpbadfnaaGreatDoor.Ve.KU p true ⟨fun _=>ht,fun _=>rfl⟩ D (fun _=>hP) (by have:=hF.nodes;omega);rw[if_pos rfl,if_pos rfl]at Y;obtain⟨d,hd,hh⟩:=agJ ht hP aa (FN ae) (by omega) (by have:=X.1.1;omega) (by omega);have af:=Ve.yG p.nodes D;have ag:=hF.nodes;have ab:∀d∈eD p.nodes D,d.length<=1048576:=fun d hd=>by have:=hP.short d (yI hd);have:=hF.nodes;omega
 generalize eD p.nodes D=L at *;simp only[go_sem];refine aP Y ?_;simp only[go_sem];refine aA (fun E=>by cases E) (fun E=>?_);simp only[go_sem,Xaa];refine⟨fun ρ H=>∃(k:Nat),k<=L.length/\ρ 3=.rp (aE x) 0/\ρ 5=.rp (gA q) 0/\ρ 45=.sl (L.map yM)/\ρ 46=int (L.length:Nat)/\ρ 47=int k/\(∀d∈L.take k,lZ x d q=false),fun ρ _=>L.length-aT (ρ 47),⟨0,Xab _,by simp only[go_sem],by simp only[go_sem],by simp only[go_sem],by simp only[go_sem,Xaa],(by simp only[go_sem];rfl),by simp⟩,?_⟩;rintro ρ H ⟨k,hk,e3,e5,O,I,J,hz⟩;simp only[go_sem,e3,e5,O,I,J];refine aA (fun A=>?_) (fun F=>?_)
 ·have A:=ltB (by simpa using A);obtain⟨e,he⟩:=aM A;have b1:=inB A;simp only[go_sem,e3,e5,O,I,J,aC he,b1,yM];refine aP (Tc x e q (by omega) (ab e (Xac he)) (by have:=X.1.1;omega) fun r Z=>by have:=U r Z;omega) ?_;simp only[go_sem];refine aA (fun E=>?_) (fun E=>?_)
  ·simp only[go_sem];refine aP hE ?_;simp only[go_sem];exact .refl _
  ·simp only[go_sem,e3,e5,O,I,J,aV k];exact⟨⟨k+1,A,rfl,Nu.fG (p:=fun d=>lZ x d q=false) he E hz⟩,by simp only[aF];omega⟩
 have F:=geB hk (by simpa using F);subst F;rw[Xae]at hz;rw[hz d hd]at hh;cases hh
end Vy
section
open Go.Aw Go.Aw.D
theorem inB_of{x:Instance}(h:rA 1048576 x):InB x:=by obtain⟨⟨I,F⟩,E,A,M,O⟩:=h;exact⟨I.1,I.2,F.1,fun a T=>⟨(F.2 a T).2.2.2.2.1.1,(F.2 a T).2.2.2.2.2.1⟩,E.1,fun t J=>⟨(E.2 t J).1,(E.2 t J).2.2.2.2.1.1⟩,A.1,fun t J=>⟨(A.2 t J).1,(A.2 t J).2.1.1⟩,M.1,O.1⟩
theorem verifyCovers_holds:Rows.VerifyCoversUptoCardSaid:=verifyCovers.card fun x p q A E F=>Vy.GN x p q A (inB_of A) E F
#print axioms verifyCovers_holds
end
end Go.Proofs.YtgncgpcpbadfnaaGreatDoor
