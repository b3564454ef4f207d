import Derived.Test.YtkjdacijpeiphaaGreatDoorVp16
import Derived.Test.YtkjdacijpeiphaaGreatDoorVp20
set_option linter.unusedSimpArgs false
set_option linter.unusedVariables false
set_option linter.defProp false
set_option maxRecDepth 100000
namespace Go.Proofs.YtkjdacijpeiphaaGreatDoor
namespace Sq
open Go.Proofs.Tryz
open Go.Aw Go.Aw.D Go.Proofs Ty
open Go.Proofs.YtkjdacijpeiphaaGreatDoor.Nu (ltB geB)
open Dec (aR)
abbrev sD(l:List Int):Row:=⟨3,1,l.map aQ⟩
def xN(r:Route)(i:Nat):Int:=(jH r.visits).1/2^i%2
def CT(l:List Route)(i:Nat):Int:=(l.map fun r=>xN r i).sum
def rA(n:Nat)(l:List Route):List Int:=(List.range n).map fun i=>CT l i
def pF(n:Nat)(l:List Route)(r:Route)(m:Nat):List Int:=(List.range n).map fun i=>CT l i+if i<m then xN r i else 0
def TC(l:List Route)(r:Route)(i:Nat):CT (l++[r]) i=CT l i+xN r i:=by simp[CT]
def Ng(n:Nat)(l:List Route)(r:Route):pF n l r 0=rA n l:=by simp[pF,rA]
def Oi(n:Nat)(l:List Route)(r:Route):pF n l r n=rA n (l++[r]):=by
 unfold pF rA;refine List.map_congr_left fun i A=>?_
 rw[if_pos (Xba.1 A),TC]
def O4(r:Route)(i:Nat):0<=xN r i/\xN r i<=1:=by unfold xN;omega
def Yr(l:List Route)(i:Nat):0<=CT l i/\CT l i<=l.length:=by
 induction l with
 | nil=>simp[CT]
 | cons r l ih=>have:=O4 r i;unfold CT at ih |-;rw[Xat,List.sum_cons,Xae];omega
def BB{n:Nat}{l:List Route}{r:Route}{m i:Nat}(h:i<n):(pF n l r m)[i]?=some (CT l i+if i<m then xN r i else 0):=by unfold pF;rw[List.getElem?_map,List.getElem?_range h];rfl
def Si{n:Nat}{l:List Route}{r:Route}{m:Nat}(h:m<n):(pF n l r m).set m (CT l m+xN r m)=pF n l r (m+1):=by
 refine List.ext_getElem? fun i=>?_
 have F:(pF n l r m).length=n:=by simp[pF]
 by_cases E:i<n
 ·rw[BB E,List.getElem?_set];by_cases e:m=i
  ·subst e;simp[F,h]
  ·rw[if_neg e,BB E];by_cases A:i<m
   ·rw[if_pos A,if_pos (by omega)]
   ·rw[if_neg A,if_neg (by omega)]
 ·rw[List.getElem?_eq_none (by rw[Xaw,F];omega),List.getElem?_eq_none (by simp[pF];omega)]
def Yv(l:List Visit):0<=(jH l).1/\(jH l).1<9223372036854775808:=by
 unfold jH;split
 ·rename_i h;rw[Xal]at h;have:=Px (m:=63) l fun v A=>by have:=h v A;unfold okV at this;simp at this;omega
  have e:(2:Nat)^63=9223372036854775808:=by decide
  simp only;omega
 ·exact⟨by decide,by decide⟩
def fY(n:Nat)(l:List Int):List Int:=(List.range n).map fun i:Nat=>(l.countP (fun u=>u == (i:Int)):Int)
def Ln{n:Nat}{l:List Int}{u:Int}{i:Nat}(I:u=(i:Int))(J:i<n):(fY n l).set i ((l.countP (fun w=>w == (i:Int)):Int)+1)=fY n (l++[u]):=by
 subst I;refine List.ext_getElem? fun m=>?_
 have E:(fY n l).length=n:=by simp[fY]
 by_cases F:m<n
 ·have e:∀l',(fY n l')[m]?=some (l'.countP (fun u=>u == (m:Int)):Int):=fun l'=>by unfold fY;rw[List.getElem?_map,List.getElem?_range F];rfl
  rw[e,List.getElem?_set,List.countP_append];by_cases A:i=m
  ·subst A;simp[E,J]
  ·rw[if_neg A,e];simp[show ¬((i:Int)=(m:Int))by omega]
 ·rw[List.getElem?_eq_none (by rw[Xaw,E];omega),List.getElem?_eq_none (by simp[fY];omega)]
def Er(n:Nat):(some ⟨3,1,List.replicate n [int 0]⟩:Option Row)=some (sD (rA n [])):=by
 have:rA n []=List.replicate n 0:=by unfold rA;rw[List.eq_replicate_iff];simp[CT]
 rw[this];simp[aQ]
def Br(n:Nat):(some ⟨3,1,List.replicate n [int 0]⟩:Option Row)=some (sD (fY n [])):=by
 have:fY n []=List.replicate n 0:=by unfold fY;rw[List.eq_replicate_iff];simp
 rw[this];simp[aQ]
def Vu(x:Instance)(p:Plan)(hx:x.orders.length<=62)(hp:PlanB p):PC prog 24 [.agg (aE x),.agg (gL p)]
  (.tup [.sl ((if(p.unserved.any fun u=>bZ u x.orders.length)=true then[]else rA x.orders.length p.routes).map aQ),.sl ((if(p.unserved.any fun u=>bZ u x.orders.length)=true then[]else fY x.orders.length p.unserved).map aQ),boo !(p.unserved.any fun u=>bZ u x.orders.length)]):=by
 have bd:=hp.routes;have bh:=hp.unserved;refine pcd func24 rfl rfl ?_;simp only[go_sem];refine jS [] (.q 0 (.q 1 (.q 2 (.q 4 (.q 5 (.q 6 (.a2 3 (.q 8 (.a1 7 (.q 9 .nil))) 7 (.a1 3 (.q 8 (.q 9 .nil))))))))))
  (fun al H'=>al 2=.rp (aE x) 0/\al 3=.rp (gL p) 0/\∃j4 j5,al 4=.os j4/\al 5=.os j5/\j4≠j5/\H' j4=some (sD (rA x.orders.length []))/\H' j5=some (sD (fY x.orders.length []))) (by simp) (by kernel_rfl) (fun K' ay Hp Hr bi hr _ be=>?_) ?_
 ·simp only[go_sem];refine iB ?_ ?_
  ·simp only[go_sem];refine⟨by omega,aJ fun ja ax=>?_⟩;simp only[go_sem];refine⟨by omega,aJ fun jb aw=>?_⟩;have ne:=bC (aB _ _ _) aw;simp only[go_sem];refine dN fun _ Hm _ h2=>ay _ _ ⟨by simp only[go_sem],by simp only[go_sem],ja,jb,by simp only[go_sem],by simp only[go_sem],ne,?_,?_⟩
   ·rw[h2 ja (by simp),aD _ _ _ _ ne,aB,Er]
   ·rw[h2 jb (by simp),aB,Br]
  ·simp only[go_sem];refine⟨by omega,aJ fun jb aw=>?_⟩;simp only[go_sem];refine⟨by omega,aJ fun ja ax=>?_⟩;have ne:=bC (aB _ _ _) ax;simp only[go_sem];refine dN fun _ Hm _ h2=>ay _ _ ⟨by simp only[go_sem],by simp only[go_sem],ja,jb,by simp only[go_sem],by simp only[go_sem],ne.symm,?_,?_⟩
   ·rw[h2 ja (by simp),aB,Er]
   ·rw[h2 jb (by simp),aD _ _ _ _ ne,aB,Br]
 ·rintro ρ H ⟨M,O,j4,j5,J,I,av,U,X⟩;simp only[go_sem,M,O,J,I];refine⟨fun ρ H=>∃(k:Nat),k<=p.routes.length/\ρ 2=.rp (aE x) 0/\ρ 3=.rp (gL p) 0/\ρ 23=.sl (p.routes.map bI)/\ρ 4=.os j4/\ρ 5=.os j5/\ρ 24=int (p.routes.length:Nat)/\ρ 25=int k/\H j4=some (sD (rA x.orders.length (p.routes.take k)))/\H j5=some (sD (fY x.orders.length [])),fun ρ _=>p.routes.length-aU (ρ 25),⟨0,Xab _,by simp only[go_sem,M,O,J,I],by simp only[go_sem,M,O,J,I],by simp only[go_sem,M,O,J,I],by simp only[go_sem,M,O,J,I],by simp only[go_sem,M,O,J,I],by simp only[go_sem,Xaa,M,O,J,I],(by simp only[go_sem,M,O,J,I];rfl),U,X⟩,?_⟩;rintro ρ H ⟨k,hk,M,O,E,J,I,A,F,U,X⟩;simp only[go_sem,M,O,E,J,I,A,F];refine aA (fun T=>?_) (fun Y=>?_)
  ·have T:=ltB (by simpa using T);obtain⟨r,hr⟩:=aO T;have b1:=inB T;have hs:=aZ hr;have bb:(p.routes.take k).length<=k:=by rw[Xah];omega
   have a7:=fun i=>Yr (p.routes.take k) i
   rw[<-Ng x.orders.length (p.routes.take k) r]at U;generalize p.routes.take k=PR at *;simp only[go_sem,M,O,E,J,I,A,F,aC hr,b1];refine aJ fun i8 am=>?_
   simp only[go_sem,M,O,E,J,I,A,F,aC hr,b1,U,X];refine bH am (by simp[iI]) fun az (R8:az i8=some (⟨76,4,[bI r]⟩)) N=>?_
   replace U:=N U;obtain⟨ap,U⟩:=U;replace X:=N X;obtain⟨aq,X⟩:=X;clear N am;simp only[go_sem,M,O,E,J,I,A,F,aC hr,b1,R8,U,X];refine aP (F9 r (hp.visits r (Xac hr))) ?_;have a9:=Yv r.visits;have ar:∀i,xN r i=(jH r.visits).1/2^i%2:=fun i=>rfl
   generalize (jH r.visits)=OV at *;obtain⟨s,e⟩:=OV;simp only at a9 ar;simp only[go_sem,M,O,E,J,I,A,F,U];have ai:∀m,(pF x.orders.length PR r m).length=x.orders.length:=fun m=>by simp[pF]
   refine⟨fun ρ H=>∃m:Nat,m<=x.orders.length/\ρ 2=.rp (aE x) 0/\ρ 3=.rp (gL p) 0/\ρ 4=.os j4/\ρ 5=.os j5/\ρ 9=int s/\ρ 23=.sl (p.routes.map bI)/\ρ 24=int p.routes.length/\ρ 25=int (k:Nat)/\ρ 35=int x.orders.length/\ρ 36=int (m:Nat)/\H j4=some (sD (pF x.orders.length PR r m))/\H j5=some (sD (fY x.orders.length [])),fun ρ _=>x.orders.length-aU (ρ 36),⟨0,Xab _,by simp only[go_sem,M,O,E,J,I,A,F],by simp only[go_sem,M,O,E,J,I,A,F],by simp only[go_sem,M,O,E,J,I,A,F],by simp only[go_sem,M,O,E,J,I,A,F],by simp only[go_sem,M,O,E,J,I,A,F],by simp only[go_sem,M,O,E,J,I,A,F],by simp only[go_sem,M,O,E,J,I,A,F],by simp only[go_sem,M,O,E,J,I,A,F],(by simp only[go_sem,M,O,E,J,I,A,F,Xaa,ai]),(by simp only[go_sem,M,O,E,J,I,A,F];rfl),U,X⟩,?_⟩;clear M O J I E A F U X;rintro ρ H ⟨m,hm,M,O,J,I,e9,E,A,F,ak,ah,U,X⟩;simp only[go_sem,M,O,J,I,e9,E,A,F,ak,ah];refine LI hm (fun af=>?_) (fun a5=>?_)
   ·have ao:=BB (l:=PR) (r:=r) (m:=m) af;rw[if_neg (Nat.lt_irrefl m),Int.add_zero]at ao;have b3:=inB (show m<(pF x.orders.length PR r m).length by rw[ai];exact af);have bf:=a7 m;have bc:=O4 r m;have ag:=Si (l:=PR) (r:=r) af;have au:pU .and .i64 (shV .shr .i64 s (m:Int)) 1=xN r m:=by rw[uH (by omega),ar];exact abH _
    simp only[go_sem,M,O,J,I,e9,E,A,F,ak,ah];refine As [(0,true),(1,true),(4,true),(5,true),(6,true),(7,true),(2,false),(3,false),(8,false),(9,false),(10,false)] (by kernel_rfl) ?_;simp only[go_sem,M,O,J,I,e9,E,A,F,ak,ah,U,aC ao,b3,Xaa,ai];refine⟨by omega,by omega,by omega,?_⟩;rw[au,bE (by omega)];refine bO so3 U (by simp[ai];omega) ?_;simp only[go_sem,M,O,J,I,e9,E,A,F,ak,ah,aT m];refine⟨⟨m+1,af,rfl,?_,?_⟩,msr af⟩
    ·rw[<-ag];simp[aQ,List.map_set,List.getD,ao]
    ·rw[aD _ _ _ _ av.symm];exact X
   ·subst a5;rw[Oi,<-hs]at U;simp only[go_sem,M,O,J,I,E,A,F,aT k];exact⟨⟨k+1,T,rfl,U,X⟩,msr T⟩
  have Y:=geB hk (by simpa using Y);subst Y;rw[Xad]at U;clear E A F;have a4:∀l:List Int,(fY x.orders.length l).length=x.orders.length:=fun l=>by simp[fY]
  simp only[go_sem,M,O,J,I];refine⟨fun ρ H=>∃(k:Nat),k<=p.unserved.length/\ρ 2=.rp (aE x) 0/\ρ 52=.sl (p.unserved.map aQ)/\ρ 4=.os j4/\ρ 5=.os j5/\ρ 53=int (p.unserved.length:Nat)/\ρ 54=int k/\H j4=some (sD (rA x.orders.length p.routes))/\H j5=some (sD (fY x.orders.length (p.unserved.take k)))/\(∀u∈p.unserved.take k,bZ u x.orders.length=false),fun ρ _=>p.unserved.length-aU (ρ 54),⟨0,Xab _,by simp only[go_sem,M,O,J,I],by simp only[go_sem,M,O,J,I],by simp only[go_sem,M,O,J,I],by simp only[go_sem,M,O,J,I],by simp only[go_sem,Xaa,M,O,J,I],(by simp only[go_sem,M,O,J,I];rfl),U,X,by simp⟩,?_⟩;rintro ρ H ⟨k,hk,M,aa,J,I,ae,ab,U,X,hz⟩;simp only[go_sem,M,aa,J,I,ae,ab];refine aA (fun T=>?_) (fun Y=>?_)
  ·have T:=ltB (by simpa using T);obtain⟨u,hu⟩:=aO T;have b1:=inB T;have hs:=aZ hu;have ba:∀i:Nat,(p.unserved.take k).countP (fun w=>w == (i:Int))<=k:=fun i=>Xag List.countP_le_length (by rw[Xah];omega)
   have ag:∀i:Nat,u=(i:Int)->i<x.orders.length->(fY x.orders.length (p.unserved.take k)).set i (((p.unserved.take k).countP (fun w=>w == (i:Int)):Int)+1)=fY x.orders.length (p.unserved.take (k+1)):=fun i h1 h2=>by rw[hs];exact Ln h1 h2
   have a0:∀i:Nat,i<x.orders.length->(fY x.orders.length (p.unserved.take k))[i]?=some ((p.unserved.take k).countP (fun w=>w == (i:Int)):Int):=fun i hi=>by unfold fY;rw[List.getElem?_map,List.getElem?_range hi];rfl
   have Z:=a4 (p.unserved.take k);have a8:bZ u x.orders.length=false->∀w∈p.unserved.take (k+1),bZ w x.orders.length=false:=fun h=>aR hu h hz
   generalize p.unserved.take k=PU at *;simp only[go_sem,M,aa,J,I,ae,ab,aC hu,b1,Xaa];refine aA (fun hb=>?_) (fun hb=>?_)
   ·have ac:(p.unserved.any fun u=>bZ u x.orders.length)=true:=Xan.2 ⟨u,Xac hu,hb⟩;rw[if_pos ac,if_pos ac,ac];simp only[go_sem];exact .refl _
   ·have a6:bZ u x.orders.length=false:=hb;simp only[bZ,Xaj,decide_eq_false_iff_not]at hb;obtain⟨i,hi⟩:=Int.eq_ofNat_of_zero_le (show 0<=u by omega);have aj:i<x.orders.length:=by omega
    have hg:=a0 i aj;have bg:=ba i;have b3:=inB (show i<(fY x.orders.length PU).length by rw[Z];exact aj);subst hi;simp only[go_sem,M,aa,J,I,ae,ab,X,aC hg,b3,Xaa];refine⟨by rw[Z];exact aj,?_⟩;rw[bE (by omega)];refine bO so3 X (by simp[Z];omega) ?_;simp only[go_sem,M,aa,J,I,ae,ab,aT k];refine⟨⟨k+1,T,rfl,?_,?_,a8 a6⟩,msr T⟩
    ·rw[aD _ _ _ _ av];exact U
    ·rw[<-ag i rfl aj];simp[aQ,List.map_set,List.getD,hg]
  have Y:=geB hk (by simpa using Y);subst Y;rw[Xad]at X hz;have an:(p.unserved.any fun u=>bZ u x.orders.length)=false:=Xbb.2 fun u hu=>by rw[hz u hu];simp
  rw[an,if_neg (by simp),if_neg (by simp)];simp only[go_sem,M,aa,J,I,ae,ab];exact .tup _ _ (.cons _ _ _ _ (.row _ _ _ U (ConvE.refl _)) (.cons _ _ _ _ (.row _ _ _ X (ConvE.refl _)) (.cons _ _ _ _ (.refl _) .nil)))
def AN(x:Instance)(p:Plan):Bool:=(List.range x.types.length).any fun i=>decide ((p.routes.countP (fun r=>r.type == (i:Int)):Int)>(x.types[i]?.map (·.count)).getD 0)
def RQ(x:Instance)(p:Plan)(hx:x.types.length<=1000)(hp:PlanB p)(ht:∀r∈p.routes,0<=r.type/\r.type<(x.types.length:Int)):PC prog 27 [.agg (aE x),.agg (gL p)] (boo (AN x p)):=by
 have ao:=hp.routes;refine pcd func27 rfl rfl ?_;simp only[go_sem];refine⟨by omega,aJ fun j hj=>?_⟩;simp only[go_sem];have E:aI bG j (some ⟨3,1,List.replicate x.types.length [int 0]⟩) j=some (sD (fY x.types.length ([].map (·.type:Route->Int)))):=by rw[aB];exact Br _
 refine⟨fun ρ H=>∃(k:Nat),k<=p.routes.length/\ρ 2=.rp (aE x) 0/\ρ 15=.sl (p.routes.map bI)/\ρ 5=.os j/\ρ 16=int (p.routes.length:Nat)/\ρ 17=int k/\H j=some (sD (fY x.types.length ((p.routes.take k).map (·.type)))),fun ρ _=>p.routes.length-aU (ρ 17),⟨0,Xab _,by simp only[go_sem],by simp only[go_sem],by simp only[go_sem],by simp only[go_sem,Xaa],(by simp only[go_sem];rfl),E⟩,?_⟩;rintro ρ H ⟨k,hk,I,M,e5,J,T,E⟩;simp only[go_sem,I,M,e5,J,T];refine aA (fun A=>?_) (fun O=>?_)
 ·have A:=ltB (by simpa using A);obtain⟨r,hr⟩:=aO A;have b1:=inB A;have hs:(p.routes.take (k+1)).map (·.type)=(p.routes.take k).map (·.type)++[r.type]:=by rw[aZ hr,Xak];rfl
  have ak:((p.routes.take k).map (·.type)).length<=k:=by rw[Xaa,Xah];omega
  obtain⟨h0,h1⟩:=ht r (Xac hr);obtain⟨i,hi⟩:=Int.eq_ofNat_of_zero_le h0;have ab:i<x.types.length:=by omega
  generalize am:(p.routes.take k).map (·.type)=PU at *;have F:(fY x.types.length PU).length=x.types.length:=by simp[fY]
  have hg:(fY x.types.length PU)[i]?=some (PU.countP (fun w=>w == (i:Int)):Int):=by unfold fY;rw[List.getElem?_map,List.getElem?_range ab];rfl
  have an:PU.countP (fun w=>w == (i:Int))<=k:=Xag List.countP_le_length ak;have aj:=Ln (l:=PU) hi ab;have b3:=inB (show i<(fY x.types.length PU).length by rw[F];exact ab);simp only[go_sem,I,M,e5,J,T,aC hr,b1];refine aJ fun i7 aa=>?_
  simp only[go_sem,I,M,e5,J,T,aC hr,b1,E];refine bH aa (by simp[iI]) fun ah (R7:ah i7=some (⟨76,4,[bI r]⟩)) N=>?_
  replace E:=N E;obtain⟨ai,E⟩:=E;clear N aa;simp only[go_sem,I,M,e5,J,T,aC hr,b1,R7,E];simp only[go_sem,I,M,e5,J,T,R7,E,hi,aC hg,b3,Xaa];refine⟨by omega,?_⟩;rw[bE (by omega)];refine bO so3 E (by simp[F];omega) ?_;simp only[go_sem,I,M,e5,J,T,aT k];refine⟨⟨k+1,A,rfl,?_⟩,msr A⟩;rw[hs,<-aj];simp[aQ,List.map_set,List.getD,hg]
 have O:=geB hk (by simpa using O);subst O;rw[Xad]at E;have F:(fY x.types.length (p.routes.map (·.type))).length=x.types.length:=by simp[fY]
 have af:∀i c,(fY x.types.length (p.routes.map (·.type)))[i]?=some c->i<x.types.length/\c=(p.routes.countP (fun r=>r.type == (i:Int)):Int):=fun i c h=>by
  have hi:i<x.types.length:=by have:=(List.getElem?_eq_some_iff.1 h).1;rw[F]at this;exact this
  unfold fY at h;rw[List.getElem?_map,List.getElem?_range hi]at h;injection h with h;refine⟨hi,h.symm.trans ?_⟩;show((List.countP _ (List.map _ p.routes):Nat):Int)=_;rw[List.countP_map];rfl
 generalize fY x.types.length (p.routes.map (·.type))=U at *;simp only[go_sem,I,M,e5,J,T,E];refine⟨fun ρ H=>∃(k:Nat),k<=x.types.length/\ρ 2=.rp (aE x) 0/\ρ 29=.os j/\ρ 30=int (x.types.length:Nat)/\ρ 31=int k/\H j=some (sD U)/\(∀i∈(List.range x.types.length).take k,decide ((p.routes.countP (fun r=>r.type == ((i:Nat):Int)):Int)>(x.types[i]?.map (·.count)).getD 0)=false),fun ρ _=>x.types.length-aU (ρ 31),⟨0,Xab _,by simp only[go_sem,I,E,F],by simp only[go_sem,I,E,F],by simp only[go_sem,Xaa,I,E,F],(by simp only[go_sem,I,E,F];rfl),E,by simp⟩,?_⟩;rintro ρ H ⟨k,hk,I,Z,X,Y,E,hz⟩;simp only[go_sem,I,Z,X,Y,E];refine aA (fun A=>?_) (fun O=>?_)
 ·have A:=ltB (by simpa using A);obtain⟨t,ac⟩:=aO A;obtain⟨c,hc⟩:=aO (show k<U.length by omega);have b1:=inB A;have b2:=inB (show k<U.length by omega);obtain⟨_,al⟩:=af k c hc;have ag:(List.range x.types.length)[k]?=some k:=List.getElem?_range A;simp only[go_sem,I,Z,X,Y,E,aC ac,aC hc,b1,b2,Xaa];have ae:decide ((p.routes.countP (fun r=>r.type == (k:Int)):Int)>(x.types[k]?.map (·.count)).getD 0)=decide (c>t.count):=by rw[ac,al];rfl
  refine⟨by omega,aA (fun hb=>?_) (fun hb=>?_)⟩
  ·rw[show AN x p=true from Xan.2 ⟨k,Xac ag,ae.trans hb⟩];simp only[go_sem];exact .refl _
  ·simp only[go_sem,I,Z,X,Y,aT k];exact⟨⟨k+1,A,rfl,E,aR ag (ae.trans hb) hz⟩,msr A⟩
 have O:=geB hk (by simpa using O);subst O;rw[Xam (by rw[Xbq];exact Xaf _)]at hz;rw[show AN x p=false from Xbb.2 fun i hi=>by rw[hz i hi];simp];simp only[go_sem,I,Z,X,Y];exact .refl _
end Sq
namespace Sq
open Go.Proofs.Tryz
open Go.Aw Go.Aw.D Go.Proofs Ty
open Go.Proofs.YtkjdacijpeiphaaGreatDoor.Nu (ltB geB)
def RE(x:Instance)(p:Nat->Order->Bool):Bool:=(List.range x.orders.length).any fun i=>(x.orders[i]?.map (p i)).getD false
def Wr(x:Instance)(fn:AV)(g:Nat)(cap:List AV)(p:Nat->Order->Bool)(hl:x.orders.length<=1048576)
  (X:Fb fn=some (g,[],cap)) (hw:∀(G:Option Bool) (k:AV->Prop),bK G fn k=k fn) (U:aH prog g=true) (Z:∀i o,x.orders[i]?=some o->PC prog g (int (i:Nat)::.agg (bF o)::cap) (boo (p i o))):
  PC prog 25 [fn,.rp (aE x) 0] (boo (RE x p)):=by
 have hA:RE x p=(List.range x.orders.length).any fun i=>(x.orders[i]?.map (p i)).getD false:=rfl
 generalize RE x p=R at *;subst hA;refine pcd func25 rfl rfl ?_;simp only[go_sem];refine⟨fun ρ _=>∃k:Nat,k<=x.orders.length/\ρ 0=fn/\ρ 7=.sl (x.orders.map bF)/\ρ 8=int x.orders.length/\ρ 9=int k/\∀q∈(List.range x.orders.length).take k,(x.orders[q]?.map (p q)).getD false=false,fun ρ _=>x.orders.length-aU (ρ 9),⟨0,Xab _,by simp only[go_sem],by simp only[go_sem],by simp only[go_sem,Xaa],rfl,by simp⟩,?_⟩;rintro ρ H ⟨k,hk,h0,T,M,J,Y⟩;simp only[go_sem,h0,T,M,J];refine aA (fun F=>?_) (fun F=>?_)
 ·have A:=ltB F;obtain⟨o,O⟩:=aO A;have b1:=inB A;simp only[go_sem,h0,T,M,J,aC O,b1,Xaa];refine aJ fun i hi=>?_
  simp only[go_sem,h0];refine aN (aB _ _ _) (by simp[kB]) ?_;simp only[go_sem,h0,hw,X,U,aB];refine aP (Z k o O) ?_;simp only[go_sem,h0,T,M,J];have I:(List.range x.orders.length)[k]?=some k:=List.getElem?_range A;refine aA (fun F=>?_) (fun F=>?_)
  ·simp only[go_sem];have:((List.range x.orders.length).any fun i=>(x.orders[i]?.map (p i)).getD false)=true:=Xan.2 ⟨k,Xac I,by rw[O];exact F⟩;rw[this];exact .refl _
  ·simp only[go_sem,h0,T,M,J,aT k];refine⟨⟨k+1,A,rfl,?_⟩,by simp only[aF];omega⟩;rw[aZ I];intro q E;rcases Xas.1 E with E|E
   ·exact Y q E
   ·simp at E;subst E;rw[O];exact F
 ·have:=geB hk F;subst this;simp only[go_sem];have:((List.range x.orders.length).any fun i=>(x.orders[i]?.map (p i)).getD false)=false:=by rw[Xbb];intro q E;rw[Y q (by rw[Xam (by simp)];exact E)];simp
  rw[this];exact .refl _
def D3(o:Order)(i:Nat)(A us:List Int)(h1:i<A.length)(E:i<us.length):PC prog 26 [int i,.agg (bF o),.rp [.sl (A.map aQ)] 0,.rp [.sl (us.map aQ)] 0] (boo (decide (W (A.getD i 0+us.getD i 0)>1))):=by
 refine pcd func26 rfl rfl ?_;simp only[go_sem];obtain⟨r,I⟩:=aO h1;obtain⟨u,F⟩:=aO E;have J:=inB h1;have M:=inB E;refine dD (by rfl) (by kernel_rfl) ?_;simp only[go_sem,aC I,aC F,J,M,Xaa];rw[List.getD_eq_getElem?_getD,List.getD_eq_getElem?_getD,I,F]
 repeat' (first|exact .refl _|(refine⟨by omega,?_⟩))
def ZN(o:Order)(i:Nat)(us:List Int)(A:i<us.length):PC prog 28 [int i,.agg (bF o),.rp [.sl (us.map aQ)] 0] (boo (o.off&&decide (us.getD i 0>0))):=by
 refine pcd func28 rfl rfl ?_;simp only[go_sem];obtain⟨u,E⟩:=aO A;have F:=inB A;simp only[go_sem,aC E,F,Xaa];rw[List.getD_eq_getElem?_getD,E]
 repeat' (first|exact .refl _|(refine⟨fun _=>by omega,?_⟩))
def aaD(o:Order)(i:Nat)(A us:List Int)(h1:i<A.length)(E:i<us.length):PC prog 29 [int i,.agg (bF o),.rp [.sl (A.map aQ)] 0,.rp [.sl (us.map aQ)] 0] (boo (!o.off&&(W (A.getD i 0+us.getD i 0) == 0||(decide (us.getD i 0>0)&&o.penalty == -1)))):=by refine pcd func29 rfl rfl ?_;simp only[go_sem];obtain⟨r,I⟩:=aO h1;obtain⟨u,F⟩:=aO E;have J:=inB h1;have M:=inB E;refine dD (by rfl) (by kernel_rfl) ?_;simp only[go_sem,aC I,aC F,J,M,Xaa];rw[List.getD_eq_getElem?_getD,List.getD_eq_getElem?_getD,I,F];exact .refl _
def zH:List Int->Int
 | []=>0
 | e::r=>if(e != 0)=true then e else zH r
def I5:∀{l:List Int} {k:Nat} {e:Int},(∀d∈l.take k,d=0)->l[k]?=some e->(e != 0)=true->zH l=e
 | [],k,e,_,h,_=>by simp at h
 | a::l,0,e,_,h,he=>by
  have:a=e:=by simpa using h
  subst this;rw[zH,if_pos he]
 | a::l,k+1,e,h0,h,he=>by have A:a=0:=h0 a (by simp);rw[zH,if_neg (by rw[A];simp)];exact I5 (k:=k) (fun d E=>h0 d (by simp[E])) (by simpa using h) he
def Gw:∀{l:List Int},(∀d∈l,d=0)->zH l=0
 | [],_=>rfl
 | a::l,h=>by rw[zH,if_neg (by rw[h a (by simp)];simp)];exact Gw fun d A=>h d (by simp[A])
def abN(r u:List Int)(i:Nat)(_:Order):Bool:=decide (W (r.getD i 0+u.getD i 0)>1)
def YO(u:List Int)(i:Nat)(o:Order):Bool:=o.off&&decide (u.getD i 0>0)
def YK(r u:List Int)(i:Nat)(o:Order):Bool:= !o.off&&(W (r.getD i 0+u.getD i 0) == 0||(decide (u.getD i 0>0)&&o.penalty == -1))
def nP(x:Instance)(p:Plan):Int:=
 if(zH (p.routes.map fun r=>(eI x r).2.2) != 0)=true then zH (p.routes.map fun r=>(eI x r).2.2)
 else if(p.unserved.any fun u=>bZ u x.orders.length)=true then 2
 else if RE x (abN (rA x.orders.length p.routes) (fY x.orders.length p.unserved))=true then 6
 else if AN x p=true then 22
 else if RE x (YO (fY x.orders.length p.unserved))=true then 9
 else if RE x (YK (rA x.orders.length p.routes) (fY x.orders.length p.unserved))=true then 23
 else 0
def PX(x:Instance)(p:Plan)(hx:EvalB x)(hn:x.orders.length<=62)(ae:x.types.length<=1000)(hp:PlanB p)(hv:∀r∈p.routes,r.visits.length<=1048575)(ht:zH (p.routes.map fun r=>(eI x r).2.2)=0->∀r∈p.routes,0<=r.type/\r.type<(x.types.length:Int)):
  PC prog 16 [.agg (aE x),.agg (gL p)] (int (nP x p)):=by
 obtain⟨R,hC⟩:∃R,R=nP x p:=⟨_,rfl⟩;rw[<-hC];unfold nP at hC;refine pcd func16 rfl rfl ?_;simp only[go_sem];refine⟨fun ρ _=>∃k:Nat,k<=p.routes.length/\ρ 2=.rp (aE x) 0/\ρ 3=.rp (gL p) 0/\ρ 13=.sl (p.routes.map bI)/\ρ 14=int p.routes.length/\ρ 15=int k/\∀d∈(p.routes.map fun r=>(eI x r).2.2).take k,d=0,fun ρ _=>p.routes.length-aU (ρ 15),⟨0,Xab _,by simp only[go_sem],by simp only[go_sem],by simp only[go_sem],by simp only[go_sem,Xaa],rfl,by simp⟩,?_⟩;rintro ρ H ⟨k,hk,E,I,T,M,U,hz⟩;simp only[go_sem,E,I,T,M,U];refine aA (fun A=>?_) (fun A=>?_)
 ·have Y:=ltB A;obtain⟨r,hr⟩:=aO Y;have b1:=inB Y;have aa:(p.routes.map fun r=>(eI x r).2.2)[k]?=some (eI x r).2.2:=by rw[List.getElem?_map,hr];rfl
  simp only[go_sem,E,I,T,M,U,aC hr,b1,Xaa];refine aJ fun i hi=>?_
  simp only[go_sem,E];refine aN (aB _ _ _) (by simp[iI]) ?_;simp only[go_sem,E,aB];refine aP (XT x r hx (hv r (Xac hr))) ?_;simp only[go_sem,E];refine aA (fun A=>?_) (fun A=>?_)
  ·simp only[go_sem];have e:=I5 hz aa A;rw[hC,e,if_pos A];exact .refl _
  ·simp only[go_sem,E,I,T,M,U,lG (show k<=4611686018427387904 by have:=hp.routes;omega)];refine⟨⟨k+1,Y,rfl,?_⟩,by simp only[aF];omega⟩;rw[aZ aa];intro d hd;rcases Xas.1 hd with hd|hd
   ·exact hz d hd
   ·simp at hd;subst hd;simpa using A
 have ac:=geB hk A;subst ac;have he:zH (p.routes.map fun r=>(eI x r).2.2)=0:=Gw (by rw[Xam (by simp)]at hz;exact hz);rw[he,if_neg (by simp)]at hC;simp only[go_sem,E,I];refine aP (Vu x p hn hp) ?_;simp only[go_sem,E,I];by_cases F:(p.unserved.any fun u=>bZ u x.orders.length)=true
 ·rw[if_pos F]at hC;rw[F];simp only[if_true,List.map_nil];refine aJ fun i8 h8=>?_
  simp only[go_sem];refine aJ fun i9 J=>?_
  simp only[go_sem];refine bO ⟨_,rfl,rfl⟩ (r:=⟨23,1,[[.sl []]]⟩) (by rw[aD _ _ _ _ (bC (aB _ _ _) J)];exact aB _ _ _) (by simp) ?_;simp only[go_sem];refine bO ⟨_,rfl,rfl⟩ (r:=⟨23,1,[[.sl []]]⟩) (by rw[aD _ _ _ _ (Ne.symm (bC (aB _ _ _) J))];exact aB _ _ _) (by simp) ?_;simp only[go_sem];refine aA (fun A=>?_) (fun A=>by cases A);simp only[go_sem];rw[hC];exact .refl _
 rw[if_neg F]at hC;have Z:(p.unserved.any fun u=>bZ u x.orders.length)=false:=by simpa using F
 rw[Z];simp only[Xar,if_false];refine aJ fun i8 h8=>?_
 simp only[go_sem];refine aJ fun i9 J=>?_
 simp only[go_sem];refine bO ⟨_,rfl,rfl⟩ (r:=⟨23,1,[[.sl []]]⟩) (by rw[aD _ _ _ _ (bC (aB _ _ _) J)];exact aB _ _ _) (by simp) ?_;simp only[go_sem];refine bO ⟨_,rfl,rfl⟩ (r:=⟨23,1,[[.sl []]]⟩) (by rw[aD _ _ _ _ (Ne.symm (bC (aB _ _ _) J))];exact aB _ _ _) (by simp) ?_;simp only[go_sem];refine aA (fun A=>by cases A) (fun A=>?_);have ab:=bC (show aI H i8 (some ⟨23,1,[[.sl []]]⟩) i8=_ from aB _ _ _) J;generalize hP:aI (aI _ i8 _) i9 _=G;have R9:G i9=some ⟨23,1,[[.sl ((fY x.orders.length p.unserved).map aQ)]]⟩:=by rw[<-hP,aB]
 have R8:G i8=some ⟨23,1,[[.sl ((rA x.orders.length p.routes).map aQ)]]⟩:=by rw[<-hP,aD _ _ _ _ ab,aB]
 clear hP h8 J;simp only[go_sem,E,I];have lr:(rA x.orders.length p.routes).length=x.orders.length:=by simp[rA]
 have lu:(fY x.orders.length p.unserved).length=x.orders.length:=by simp[fY]
 have O:x.orders.length<=1048576:=by omega
 have A2:=Wr x (.fn 26 [.rp [.sl ((rA x.orders.length p.routes).map aQ)] 0,.rp [.sl ((fY x.orders.length p.unserved).map aQ)] 0]) 26 _ (abN (rA x.orders.length p.routes) (fY x.orders.length p.unserved)) O rfl (fun _ _=>rfl) (by kernel_rfl) (fun i o X=>D3 o i _ _ (by rw[lr];exact(List.getElem?_eq_some_iff.1 X).1) (by rw[lu];exact(List.getElem?_eq_some_iff.1 X).1));have A3:=Wr x (.fn 28 [.rp [.sl ((fY x.orders.length p.unserved).map aQ)] 0]) 28 _ (YO (fY x.orders.length p.unserved)) O rfl (fun _ _=>rfl) (by kernel_rfl) (fun i o X=>ZN o i _ (by rw[lu];exact(List.getElem?_eq_some_iff.1 X).1));have A4:=Wr x (.fn 29 [.rp [.sl ((rA x.orders.length p.routes).map aQ)] 0,.rp [.sl ((fY x.orders.length p.unserved).map aQ)] 0]) 29 _ (YK (rA x.orders.length p.routes) (fY x.orders.length p.unserved)) O rfl (fun _ _=>rfl) (by kernel_rfl) (fun i o X=>aaD o i _ _ (by rw[lr];exact(List.getElem?_eq_some_iff.1 X).1) (by rw[lu];exact(List.getElem?_eq_some_iff.1 X).1));have C8:Conv G (.op i8 0 0) (.rp [.sl ((rA x.orders.length p.routes).map aQ)] 0):=.ptr _ _ _ _ _ R8 (Nat.zero_lt_succ 0) (ConvL.refl _);have C9:Conv G (.op i9 0 0) (.rp [.sl ((fY x.orders.length p.unserved).map aQ)] 0):=.ptr _ _ _ _ _ R9 (Nat.zero_lt_succ 0) (ConvL.refl _);refine uN.use ⟨_,.cons _ _ _ _ (.fn _ _ _ (.cons _ _ _ _ C8 (.cons _ _ _ _ C9 .nil))) (ConvL.refl _),A2,rfl⟩ ?_;simp only[go_sem,E,I];refine aA (fun A=>?_) (fun A=>?_)
 ·rw[if_pos A]at hC;simp only[go_sem];rw[hC];exact .refl _
 rw[if_neg (by rw[A];simp)]at hC;simp only[go_sem,E,I];refine aP (RQ x p ae hp (ht he)) ?_;simp only[go_sem,E,I];refine aA (fun A=>?_) (fun A=>?_)
 ·rw[if_pos A]at hC;simp only[go_sem];rw[hC];exact .refl _
 rw[if_neg (by rw[A];simp)]at hC;simp only[go_sem,E,I];refine uN.use ⟨_,.cons _ _ _ _ (.fn _ _ _ (.cons _ _ _ _ C9 .nil)) (ConvL.refl _),A3,rfl⟩ ?_;simp only[go_sem,E,I];refine aA (fun A=>?_) (fun A=>?_)
 ·rw[if_pos A]at hC;simp only[go_sem];rw[hC];exact .refl _
 rw[if_neg (by rw[A];simp)]at hC;simp only[go_sem,E,I];refine uN.use ⟨_,.cons _ _ _ _ (.fn _ _ _ (.cons _ _ _ _ C8 (.cons _ _ _ _ C9 .nil))) (ConvL.refl _),A4,rfl⟩ ?_;simp only[go_sem,E,I];refine aA (fun A=>?_) (fun A=>?_)
 ·rw[if_pos A]at hC;simp only[go_sem];rw[hC];exact .refl _
 rw[if_neg (by rw[A];simp)]at hC;simp only[go_sem];rw[hC];exact .refl _
end Sq
namespace Sq
open Go.Proofs.Tryz
open Go.Aw Go.Aw.D Go.Proofs Ty
def Xx(s:Score):PC prog 71 [.agg (aV s)] (.agg (aV s)):=by
 refine pcd func71 rfl rfl ?_;simp only[go_sem];refine aJ fun j A=>?_
 simp only[go_sem]
 repeat' (first|(refine⟨by decide,?_⟩)|(simp only[go_sem]))
 refine aN (aB _ _ _) (by simp) ?_;simp only[go_sem];exact .refl _
def Ws(a b:Score)(k:Nat):List AV:=[int (if 0<k then W (a.cost+b.cost)else a.cost),int (if 1<k then W (a.moved+b.moved)else a.moved),int (if 2<k then W (a.other+b.other)else a.other),int (if 3<k then W (a.work+b.work)else a.work)]
abbrev Ad(l:List AV):Row:=⟨126,4,[l]⟩
def Up(a b:Score):PC prog 41 [.agg (aV a),.agg (aV b)] (.agg (aV (rU a b))):=by
 refine pcd func41 rfl rfl ?_;simp only[go_sem];refine aJ fun T h4=>?_
 generalize hP:aI bG T _=G;have J:G T=some ⟨99,4,[[int 0,int 0,int 0,int 0]]⟩:=by rw[<-hP];exact aB _ _ _
 clear hP h4;simp only[go_sem];refine jS [] (.q 0 (.q 1 (.q 2 (.q 3 (.a2 4 (.a1 5 (.a1 6 (.a1 7 .nil))) 5 (.a1 4 (.a1 6 (.a1 7 .nil)))))))) (fun U H'=>∃X i6:Nat,X≠i6/\T≠X/\U 4=.op T 0 0/\U 5=.op X 0 0/\U 6=.op i6 0 0/\H' T=some ⟨99,4,[[int 0,int 0,int 0,int 0]]⟩/\H' X=some (Ad (aV a))/\H' i6=some (Ad (aV b))) (by simp) (by kernel_rfl) (fun K' aa Hp Hr _ hr _ _=>?_) ?_
 ·obtain rfl:Hr=G:=funext fun k=>hr k (by simp)
  simp only[go_sem];refine⟨_,(wJ a).q rfl,?_⟩;simp only[go_sem];refine⟨_,(wJ b).q rfl,?_⟩;simp only[go_sem];refine iB ?_ ?_
  all_goals
   simp only[go_sem];refine aJ fun x hx=>?_
   have n1:=bC J hx;simp only[go_sem];refine aJ fun y hy=>?_
   have Y:=bC (nA J hx) hy;have M:x≠y:=fun e=>by subst e;rw[aB]at hy;cases hy
   simp only[go_sem]
  ·refine aN (r:=⟨126,4,[[int 0,int 0,int 0,int 0]]⟩) (by rw[aD _ _ _ _ M];exact aB _ _ _) (by simp[bR]) ?_;simp only[go_sem];refine aN (r:=⟨126,4,[[int 0,int 0,int 0,int 0]]⟩) (by rw[aD _ _ _ _ (Ne.symm M)];exact aB _ _ _) (by simp[bR]) ?_;simp only[go_sem];refine dN fun _ Hm _ hm=>?_
   obtain rfl:Hm=_:=funext fun k=>hm k (by simp)
   refine aa _ _ ⟨x,y,M,n1,by simp only[go_sem],by simp only[go_sem],by simp only[go_sem],?_,?_,aB _ _ _⟩
   ·rw[aD _ _ _ _ Y,aD _ _ _ _ n1,aD _ _ _ _ Y,aD _ _ _ _ n1];exact J
   ·rw[aD _ _ _ _ M];exact aB _ _ _
  ·refine aN (r:=⟨126,4,[[int 0,int 0,int 0,int 0]]⟩) (aB _ _ _) (by simp[bR]) ?_;simp only[go_sem];refine aN (r:=⟨126,4,[[int 0,int 0,int 0,int 0]]⟩) (by rw[aD _ _ _ _ M,aD _ _ _ _ M];exact aB _ _ _) (by simp[bR]) ?_;simp only[go_sem];refine dN fun _ Hm _ hm=>?_
   obtain rfl:Hm=_:=funext fun k=>hm k (by simp)
   refine aa _ _ ⟨y,x,Ne.symm M,Y,by simp only[go_sem],by simp only[go_sem],by simp only[go_sem],?_,?_,aB _ _ _⟩
   ·rw[aD _ _ _ _ n1,aD _ _ _ _ Y,aD _ _ _ _ Y,aD _ _ _ _ n1];exact J
   ·rw[aD _ _ _ _ (Ne.symm M)];exact aB _ _ _
 ·rintro ρ H ⟨X,i6,n1,Y,A,I,F,J,O,Z⟩;simp only[go_sem,A,I,F];refine⟨fun ρ H=>∃k:Nat,k<=4/\ρ 4=.op T 0 0/\ρ 5=.op X 0 0/\ρ 6=.op i6 0 0/\ρ 12=int k/\H T=some ⟨99,4,[[int 0,int 0,int 0,int 0]]⟩/\H X=some (Ad (Ws a b k))/\H i6=some (Ad (aV b)),fun ρ _=>4-aU (ρ 12),⟨0,by omega,by simp only[go_sem,A],by simp only[go_sem,I],by simp only[go_sem,F],rfl,J,O,Z⟩,?_⟩;clear A I F J O Z;rintro ρ H ⟨k,hk,A,I,F,E,J,O,Z⟩;simp only[go_sem,A,I,F,E];refine aA (fun hb=>?_) (fun hb=>?_)
  ·have ab:k<4:=by simp at hb;omega
   obtain rfl|rfl|rfl|rfl:k=0\/k=1\/k=2\/k=3:=by omega
   all_goals
    simp only[go_sem,A,I,F,E];refine xE [] (.q 0 (.q 1 (.q 3 (.q 4 (.a2 2 (.a1 5 (.q 6 (.q 7 (.a1 8 .nil)))) 5 (.a1 2 (.q 6 (.q 7 (.a1 8 .nil))))))))) (by simp) (by kernel_rfl) fun Hp Hr _ hr _ _=>?_
    obtain rfl:Hr=H:=funext fun k=>hr k (by simp)
    simp only[go_sem,A,I,F,E,O,Z,Ws,aV];refine⟨by decide,by decide,?_⟩;refine iB ?_ ?_
    all_goals
     simp only[go_sem,A,I,F,E,O,Z,Ws,aV]
     repeat' (first|(refine⟨by decide,?_⟩)|(simp only[go_sem,A,I,F,E,O,Z,Ws,aV]))
     refine bO so3 O (by simp[Ws]) ?_;simp only[go_sem];refine dN fun _ Hm _ hm=>?_
     obtain rfl:Hm=_:=funext fun k=>hm k (by simp)
     simp only[go_sem,A,I,F,E];refine⟨⟨_,ab,rfl,?_,?_,?_⟩,by decide⟩
     ·rw[aD _ _ _ _ Y];exact J
     ·rfl
     ·rw[aD _ _ _ _ (Ne.symm n1)];exact Z
  ·have h4:k=4:=by simp at hb;omega
   subst h4;simp only[go_sem,A,I,F,O];refine aP (Xx (rU a b)) ?_;simp only[go_sem,A];refine aN J (by simp[bR]) ?_;simp only[go_sem,A,aB];exact .refl _
end Sq
namespace Sq
open Go.Proofs.Tryz
open Go.Aw Go.Aw.D Go.Proofs Ty
open Go.Proofs.YtkjdacijpeiphaaGreatDoor.Nu (ltB geB)
abbrev gY(s:Score):Row:=⟨99,4,[aV s]⟩
def tM(x:Instance)(l:List Route):Score:=(l.map fun r=>(eI x r).2.1).foldl rU bB
def EI(x:Instance)(s:Score)(l:List Int):Score:=(l.map fun u=>(cD x u).1).foldl rU s
def Nt(x:Instance)(u:Int):PC prog 42 [.agg (aE x),int u] (.tup [.agg (aV (cD x u).1),int (cD x u).2]):=by
 have h:=Nu.Co x u;have I:Go.Aw.D.aV (Nu.cD x u).1=aV (cD x u).1/\(Nu.cD x u).2=(cD x u).2:=by
  unfold Nu.cD cD;by_cases F:bZ u x.orders.length=true
  ·have A:Nu.bZ u x.orders.length=true:=F;rw[if_pos F,if_pos A];exact⟨rfl,rfl⟩
  ·have A:¬Nu.bZ u x.orders.length=true:=F;rw[if_neg F,if_neg A];cases x.orders[u.toNat]? with
   | none=>exact⟨rfl,rfl⟩
   | some o=>
    show Go.Aw.D.aV (Nu.fB o).1=aV (fB o).1/\(Nu.fB o).2=(fB o).2;unfold Nu.fB fB;by_cases h1:o.off=true
    ·rw[if_pos h1,if_pos h1];exact⟨rfl,rfl⟩
    ·rw[if_neg h1,if_neg h1];by_cases E:(o.penalty == -1)=true
     ·rw[if_pos E,if_pos E];exact⟨rfl,rfl⟩
     ·rw[if_neg E,if_neg E];exact⟨rfl,rfl⟩
 rw[I.1,I.2]at h;exact h
def XP(x:Instance)(p:Plan)(hx:EvalB x)(hn:x.orders.length<=62)(ay:x.types.length<=1000)(hp:PlanB p)(hv:∀r∈p.routes,r.visits.length<=1048575)(ht:zH (p.routes.map fun r=>(eI x r).2.2)=0->∀r∈p.routes,0<=r.type/\r.type<(x.types.length:Int))
  (h0:nP x p=0) (aw:∀r∈p.routes,(eI x r).2.2=0) (au:∀u∈p.unserved,(cD x u).2=0):PC prog 30 [.agg (aE x),.agg (gL p)] (.tup [.agg (aV (EI x (tM x p.routes) p.unserved)),int 0]):=by
 have a0:=hp.routes;have az:=hp.unserved;refine pcd func30 rfl rfl ?_;simp only[go_sem];refine dV fun i4 aq ap (O:aq i4=some (gY bB)) N=>?_
 clear N ap;simp only[go_sem,O];refine aP (PX x p hx hn ay hp hv ht) ?_;rw[h0];simp only[go_sem];refine aA (fun hb=>by cases hb) (fun hb=>?_);simp only[go_sem];refine dV fun i7 ao am (T:ao i7=some (gY bB)) N=>?_
 replace O:=N O;obtain⟨aa,O⟩:=O;clear N am;simp only[go_sem,T,O];refine⟨fun ρ H=>∃(k:Nat),k<=p.routes.length/\ρ 2=.rp (aE x) 0/\ρ 3=.rp (gL p) 0/\ρ 4=.op i4 0 0/\ρ 7=.op i7 0 0/\ρ 25=.sl (p.routes.map bI)/\ρ 26=int (p.routes.length:Nat)/\ρ 27=int k/\H i4=some (gY bB)/\H i7=some (gY (tM x (p.routes.take k))),fun ρ _=>p.routes.length-aU (ρ 27),⟨0,Xab _,by simp only[go_sem],by simp only[go_sem],by simp only[go_sem],by simp only[go_sem],by simp only[go_sem],by simp only[go_sem,Xaa],(by simp only[go_sem];rfl),O,T⟩,?_⟩;rintro ρ H ⟨k,hk,M,e3,I,J,A,F,E,O,T⟩;simp only[go_sem,M,e3,I,J,A,F,E];refine aA (fun U=>?_) (fun ac=>?_)
 ·have U:=ltB (by simpa using U);obtain⟨r,hr⟩:=aO U;have b1:=inB U;have he:=aw r (Xac hr);simp only[go_sem,M,e3,I,J,A,F,E,aC hr,b1,Xaa];refine aJ fun i9 ae=>?_
  simp only[go_sem,M,e3,I,J,A,F,E,O,T];refine bH ae (by simp[iI]) fun an (R9:an i9=some (⟨76,4,[bI r]⟩)) N=>?_
  replace O:=N O;obtain⟨ak,O⟩:=O;replace T:=N T;obtain⟨al,T⟩:=T;clear N ae;simp only[go_sem,M,e3,I,J,A,F,E,R9,O,T];refine aP (zF x r hx (hv r (Xac hr))) ?_;rw[he];simp only[go_sem,M,e3,I,J,A,F,E];refine aJ fun ag af=>?_
  have n4:=bC O af;have n7:=bC T af;simp only[go_sem,M,e3,I,J,A,F,E];refine aJ fun i11 ab=>?_
  have m4:i4≠i11:=fun e=>by rw[<-e,aD _ _ _ _ n4,O]at ab;cases ab
  have m7:i7≠i11:=fun e=>by rw[<-e,aD _ _ _ _ n7,T]at ab;cases ab
  have ar:ag≠i11:=fun e=>by rw[<-e,aB]at ab;cases ab
  simp only[go_sem,M,e3,I,J,A,F,E];refine aN (by rw[aD _ _ _ _ ar];exact aB _ _ _) (by simp[dZ]) ?_;simp only[go_sem,M,e3,I,J,A,F,E];refine aN (by rw[aD _ _ _ _ (Ne.symm ar)];exact aB _ _ _) (by simp[bR]) ?_;generalize hP:aI (aI (aI (aI _ ag _) i11 _) ag _) i11 _=HP;replace O:HP i4=some (gY bB):=by rw[<-hP,aD _ _ _ _ m4,aD _ _ _ _ n4,aD _ _ _ _ m4,aD _ _ _ _ n4];exact O
  replace T:HP i7=some (gY (tM x (p.routes.take k))):=by rw[<-hP,aD _ _ _ _ m7,aD _ _ _ _ n7,aD _ _ _ _ m7,aD _ _ _ _ n7];exact T
  have ax:HP i11=some (gY (eI x r).2.1):=by rw[<-hP];exact aB _ _ _
  clear hP af ab;simp only[go_sem,M,e3,I,J,A,F,E];refine aA (fun hb=>by cases hb) (fun hb=>?_);simp only[go_sem,M,e3,I,J,A,F,E,T,ax];refine aP (Up _ _) ?_;simp only[go_sem,M,e3,I,J,A,F,E];refine aN T (by simp[bR]) ?_;generalize hQ:aI HP i7 _=HQ;have aj:i4≠i7:=by first|exact aa|exact ne_i7_i4.symm
  replace O:HQ i4=some (gY bB):=by rw[<-hQ,aD _ _ _ _ aj];exact O
  replace T:HQ i7=some (gY (rU (tM x (p.routes.take k)) (eI x r).2.1)):=by rw[<-hQ,aB];rfl
  clear hQ;simp only[go_sem,M,e3,I,J,A,F,E,aT k];refine⟨⟨k+1,U,rfl,O,?_⟩,by simp only[aF];omega⟩;rw[aZ hr];unfold tM;rw[Xak,List.foldl_append];exact T
 have ac:=geB hk (by simpa using ac);subst ac;rw[Xad]at T;simp only[go_sem,M,e3,I,J,A,F,E];generalize tM x p.routes=S0 at *;refine⟨fun ρ H=>∃(k:Nat),k<=p.unserved.length/\ρ 2=.rp (aE x) 0/\ρ 4=.op i4 0 0/\ρ 7=.op i7 0 0/\ρ 47=.sl (p.unserved.map aQ)/\ρ 48=int (p.unserved.length:Nat)/\ρ 49=int k/\H i4=some (gY bB)/\H i7=some (gY (EI x S0 (p.unserved.take k))),fun ρ _=>p.unserved.length-aU (ρ 49),⟨0,Xab _,by simp only[go_sem,M,e3,I,J,A,F,E],by simp only[go_sem,M,e3,I,J,A,F,E],by simp only[go_sem,M,e3,I,J,A,F,E],by simp only[go_sem,M,e3,I,J,A,F,E],by simp only[go_sem,Xaa,M,e3,I,J,A,F,E],(by simp only[go_sem,M,e3,I,J,A,F,E];rfl),O,T⟩,?_⟩;rintro ρ H ⟨k,hk,M,I,J,X,Y,Z,O,T⟩;simp only[go_sem,M,I,J,X,Y,Z];refine aA (fun U=>?_) (fun ac=>?_)
 ·have U:=ltB (by simpa using U);obtain⟨u,hu⟩:=aO U;have b1:=inB U;have he:=au u (Xac hu);simp only[go_sem,M,I,J,X,Y,Z,aC hu,b1,Xaa];have hU:=Nt x u;rw[he]at hU;refine aP hU ?_;simp only[go_sem,M,I,J,X,Y,Z];refine aJ fun ah ai=>?_
  have m4:=bC O ai;have m7:=bC T ai;simp only[go_sem,M,I,J,X,Y,Z];refine aN (aB _ _ _) (by simp[bR]) ?_;generalize hP:aI (aI _ ah _) ah _=HP;replace O:HP i4=some (gY bB):=by rw[<-hP,aD _ _ _ _ m4,aD _ _ _ _ m4];exact O
  replace T:HP i7=some (gY (EI x S0 (p.unserved.take k))):=by rw[<-hP,aD _ _ _ _ m7,aD _ _ _ _ m7];exact T
  have av:HP ah=some (gY (cD x u).1):=by rw[<-hP];exact aB _ _ _
  clear hP ai;simp only[go_sem,M,I,J,X,Y,Z];refine aA (fun hb=>by cases hb) (fun hb=>?_);simp only[go_sem,M,I,J,X,Y,Z,T,av];refine aP (Up _ _) ?_;simp only[go_sem,M,I,J,X,Y,Z];refine aN T (by simp[bR]) ?_;generalize hQ:aI HP i7 _=HQ;have aj:i4≠i7:=by first|exact aa|exact ne_i7_i4.symm
  replace O:HQ i4=some (gY bB):=by rw[<-hQ,aD _ _ _ _ aj];exact O
  replace T:HQ i7=some (gY (rU (EI x S0 (p.unserved.take k)) (cD x u).1)):=by rw[<-hQ,aB];rfl
  clear hQ;simp only[go_sem,M,I,J,X,Y,Z,aT k];refine⟨⟨k+1,U,rfl,O,?_⟩,by simp only[aF];omega⟩;rw[aZ hu];unfold EI;rw[Xak,List.foldl_append];exact T
 have ac:=geB hk (by simpa using ac);subst ac;rw[Xad]at T;simp only[go_sem,M,I,J,X,Y,Z,T];refine aN O (by simp[bR]) ?_;simp only[go_sem,M,I,J,X,Y,Z,aB];exact .refl _
end Sq
namespace Sq
open Go.Proofs.Tryz
open Go.Aw Go.Aw.D Go.Proofs Ty
def WO(x:Instance)(p:Plan)(O:EvalB x)(X:x.orders.length<=62)(F:x.types.length<=1000)(M:PlanB p)(J:∀r∈p.routes,r.visits.length<=1048575)(T:zH (p.routes.map fun r=>(eI x r).2.2)=0->∀r∈p.routes,0<=r.type/\r.type<(x.types.length:Int))
  (h0:nP x p=0) (A:∀r∈p.routes,(eI x r).2.2=0) (E:∀u∈p.unserved,(cD x u).2=0):PC prog 17 [.agg (aE x),.agg (gL p)] (.tup [int (gB (EI x (tM x p.routes) p.unserved)).1,int (gB (EI x (tM x p.routes) p.unserved)).2]):=by
 have U:=XP x p O X F M J T h0 A E;generalize EI x (tM x p.routes) p.unserved=S at *;refine pcd func17 rfl rfl ?_;simp only[go_sem];refine aP U ?_;simp only[go_sem];refine aJ fun i Y=>?_
 simp only[go_sem];refine aN (aB _ _ _) (by simp[bR]) ?_;simp only[go_sem];refine aA (fun I=>by cases I) (fun I=>?_);simp only[go_sem,aB];refine aP (wV S) ?_;simp only[go_sem];exact .refl _
end Sq
namespace Nu
open Go.Proofs.Tryz
open Go.Aw Go.Aw.D Go.Proofs Ty Go.Nu
open Dec (kK gS dA rN)
open Sq (EvalB sP nP eI EI tM cD zH PlanB)
open Ps (PrOk)
open Go.Proofs.YtkjdacijpeiphaaGreatDoor.Ve (nV PathsOf nG)
def lvW(x:Instance)(d:Nat)(no:Bool)(price:Int):List TNode->List (List Decision)->Int
 | n::l,ds::D=>if n.leaf=false then lvW x d no price l D else if(no&&n.kind == 1)=true then 28 else if(Jm x d ds n price != 0)=true then Jm x d ds n price else lvW x d no price l D
 | _,_=>0
def Iu(x:Instance)(n:TNode):Bool:= !n.leaf&&kK x [n.choice,rN n.choice] != 0
def vH(x:Instance)(p:Plan):Int×Int:=Sq.gB (EI x (tM x p.routes) p.unserved)
def sW(x:Instance)(d:Nat)(p:Proof)(b:Bool)(D:List (List Decision)):Int:=
 if b=false then 29
 else if(p.nodes.any (Iu x))=true then 29
 else if(!p.noPlan&&nP x p.plan != 0)=true then nP x p.plan
 else if(!p.noPlan&&(vH x p.plan).2 != 0)=true then(vH x p.plan).2
 else lvW x d p.noPlan (if p.noPlan=true then 0 else(vH x p.plan).1) p.nodes D
structure PlanW(x:Instance)(p:Plan):Prop where
 b:PlanB p
 visits:∀r∈p.routes,r.visits.length<=1048575
 type:zH (p.routes.map fun r=>(eI x r).2.2)=0->∀r∈p.routes,0<=r.type/\r.type<(x.types.length:Int)
 ev:nP x p=0->∀r∈p.routes,(eI x r).2.2=0
 un:nP x p=0->∀u∈p.unserved,(Sq.cD x u).2=0
def LW(x:Instance)(d:Nat)(p:Proof)(h:PrOk x d)(b:Bool)(ao:b=true↔nV p.nodes)(D:List (List Decision))(hD:b=true->PathsOf p.nodes D)(hl:p.nodes.length<=1048576)(hp:p.noPlan=false->PlanW x p.plan)
  (hL:∀n ds,n∈p.nodes->ds∈D->LeafB x n ds (if p.noPlan=true then 0 else(vH x p.plan).1)):PC prog 9 [.agg (aE x),.agg (cY p)] (int (sW x d p b D)):=by
 obtain⟨R,O⟩:∃R,R=sW x d p b D:=⟨_,rfl⟩;rw[<-O];unfold sW at O;refine pcb (fun t=>t == 65) func9 rfl rfl ?_;simp only[go_sem];refine aP (Ve.Wa p.nodes b ao hl) ?_;simp only[go_sem];refine aA (fun J=>?_) (fun J=>?_)
 ·rw[if_pos (by simpa using J)]at O;subst O;simp only[go_sem];exact .refl _
 have av:b=true:=by simpa using J
 subst av;rw[if_neg (by decide)]at O;have ht:=ao.1 rfl;have hP:=hD rfl;simp only[go_sem,Xaa];refine⟨fun ρ H=>∃(k:Nat),k<=p.nodes.length/\ρ 2=.rp (aE x) 0/\ρ 3=.rp (cY p) 0/\ρ 21=.sl (p.nodes.map aY)/\ρ 22=int (p.nodes.length:Nat)/\ρ 23=int k/\(∀n∈p.nodes.take k,Iu x n=false),fun ρ _=>p.nodes.length-aU (ρ 23),⟨0,Xab _,by simp only[go_sem],by simp only[go_sem],by simp only[go_sem],by simp only[go_sem,Xaa],(by simp only[go_sem];rfl),by simp⟩,?_⟩;rintro ρ H ⟨k,hk,T,I,F,E,A,Z⟩;simp only[go_sem,T,I,F,E,A];refine aA (fun M=>?_) (fun ab=>?_)
 ·have M:=ltB (by simpa using M);obtain⟨n,hn⟩:=aO M;have b1:=inB M;simp only[go_sem,T,I,F,E,A,aC hn,b1,Xaa];refine aJ fun i6 ag=>?_
  simp only[go_sem,T,I,F,E,A];refine bH ag (by simp[fV]) fun an (R6:an i6=some (⟨35,10,[aY n]⟩)) N=>?_
  clear N ag;simp only[go_sem,T,I,F,E,A,R6];refine fW [i6] [(0,true),(1,true),(2,true),(3,true),(4,true),(5,true),(6,true),(7,true),(8,true),(9,true),(10,false),(11,true),(12,true),(13,true)] (by simp[R6]) (by kernel_rfl) fun Hp Hr hp hr _ aw=>?_
  have ar:=(hp i6 (by simp)).trans R6;simp only[go_sem,T,I,F,E,A,ar];refine⟨_,fun _=>(Dec.VM n.choice).q rfl,?_⟩;simp only[go_sem];refine⟨_,fun _=>(Dec.Vq x [n.choice,rN n.choice] (by simp)).q rfl,?_⟩;simp only[go_sem];refine lI hr ?_;simp only[go_sem];refine aA (fun aj=>?_) (fun aj=>?_)
  ·rw[if_pos (Xan.2 ⟨n,Xac hn,aj⟩)]at O;subst O;simp only[go_sem];exact .refl _
  simp only[go_sem,T,I,F,E,A,aT k];exact⟨⟨k+1,M,rfl,fI (p:=fun n=>Iu x n=false) hn aj Z⟩,by simp only[aF];omega⟩
 have ab:=geB hk (by simpa using ab);subst ab;rw[Xad]at Z;rw[if_neg (by simp only[Xan,not_exists,not_and];intro q hq;simp[Z q hq])]at O;simp only[go_sem,T,I,F,E,A];generalize ac:(if p.noPlan=true then(0:Int)else(vH x p.plan).1)=pr at *;refine gT (fun al H'=>al 2=.rp (aE x) 0/\al 3=.rp (cY p) 0/\al 7=int pr/\R=lvW x d p.noPlan pr p.nodes D) ?_ fun K hK=>aA (fun J=>?_) (fun J=>?_)
 rotate_left
 ·have ae:p.noPlan=false:=by simpa using J
  have hW:=hp ae;rw[ae]at O ac;simp only[Bool.not_false,Xbe]at O;rw[if_neg (by decide)]at ac;simp only[go_sem,T,I,F,E,A];refine aP (Sq.PX x p.plan h.ev (Xag h.n8 (by decide)) h.ty hW.b hW.visits hW.type) ?_;simp only[go_sem,T,I,F,E,A];refine aA (fun J=>?_) (fun J=>?_)
  ·rw[if_pos J]at O;subst O;simp only[go_sem];exact .refl _
  rw[if_neg (by rw[J];simp)]at O;have h0:nP x p.plan=0:=by simpa using J
  simp only[go_sem,T,I,F,E,A];refine aP (Sq.WO x p.plan h.ev (Xag h.n8 (by decide)) h.ty hW.b hW.visits hW.type h0 (hW.ev h0) (hW.un h0)) ?_;simp only[go_sem,T,I,F,E,A];refine aA (fun J=>?_) (fun J=>?_)
  ·rw[if_pos (show((vH x p.plan).2 != 0)=true from J)]at O;subst O;simp only[go_sem];exact .refl _
  rw[if_neg (show ¬((vH x p.plan).2 != 0)=true from fun h=>Bool.noConfusion (J.symm.trans h))]at O;simp only[go_sem,T,I,F,E,A];refine hK _ _ ⟨by simp only[go_sem,T,I,F,E,A],by simp only[go_sem,T,I,F,E,A],?_,by rw[ae];exact O⟩;simp only[go_sem,T,I,F,E,A];exact congrArg int ac
 ·have ae:p.noPlan=true:=by simpa using J
  rw[ae]at O ac;rw[if_pos rfl]at ac;rw[if_neg (by simp),if_neg (by simp)]at O;simp only[go_sem,T,I,F,E,A];exact hK _ _ ⟨by simp only[go_sem,T,I,F,E,A],by simp only[go_sem,T,I,F,E,A],by simp only[go_sem,T,I,F,E,A];rw[<-ac],by rw[ae];exact O⟩
 clear T I F E A O;rintro ρ H ⟨T,I,e7,O⟩;simp only[go_sem,T];refine⟨by simp,aJ fun j hj=>?_⟩;have R0:=aB H j (some (kG x false));generalize hG:aI H j _=G;replace R0:G j=some (kG x false):=hG▸R0;clear hG hj;simp only[go_sem,I];refine aP (Go.Proofs.YtkjdacijpeiphaaGreatDoor.Ve.PH p.nodes D ht hP) ?_;simp only[go_sem,Xaa];refine⟨fun ρ H=>∃(k:Nat),k<=D.length/\ρ 3=.rp (cY p) 0/\ρ 7=int pr/\ρ 11=.op j 0 0/\ρ 68=.sl (D.map nG)/\ρ 69=int (D.length:Nat)/\ρ 70=int k/\(∃b,H j=some (kG x b))/\R=lvW x d p.noPlan pr (p.nodes.drop k) (D.drop k),fun ρ _=>D.length-aU (ρ 70),⟨0,Xab _,by simp only[go_sem,I,e7],by simp only[go_sem,I,e7],by simp only[go_sem,I,e7],by simp only[go_sem,I,e7],by simp only[go_sem,Xaa,I,e7],(by simp only[go_sem,I,e7];rfl),⟨false,R0⟩,O⟩,?_⟩;rintro ρ H ⟨k,hk,I,e7,Y,X,aa,U,Rj,Z⟩;simp only[go_sem,I,e7,Y,X,aa,U];refine aA (fun M=>?_) (fun ab=>?_)
 ·have M:=ltB (by simpa using M);obtain⟨b,Rj⟩:=Rj;obtain⟨ds,ak⟩:=aO M;have aq:k<p.nodes.length:=by rw[<-hP.len];exact M
  obtain⟨n,hn⟩:=aO aq;have b1:=inB M;have b2:=inB aq;rw[Sq.AP hn,Sq.AP ak,lvW]at Z;simp only[go_sem,I,e7,Y,X,aa,U,aC hn,aC ak,b1,b2,Xaa,nG];refine aJ fun au af=>?_
  simp only[go_sem,I,e7,Y,X,aa,U,Rj];refine bH af (by simp[fV]) fun ah (ai:ah au=some (⟨35,10,[aY n]⟩)) N=>?_
  replace Rj:=N Rj;obtain⟨am,Rj⟩:=Rj;clear N af;simp only[go_sem,I,e7,Y,X,aa,U,ai,Rj];have ap:k<=4611686018427387904:=by omega
  refine aA (fun J=>?_) (fun J=>?_)
  ·rw[if_pos (by simpa using J)]at Z;simp only[go_sem,I,e7,Y,X,aa,U,lG ap];exact⟨⟨k+1,M,rfl,⟨b,Rj⟩,Z⟩,by simp only[aF];omega⟩
  have hlf:n.leaf=true:=by simpa using J
  rw[if_neg (by rw[hlf];decide)]at Z;simp only[go_sem,I,e7,Y,X,aa,U,ai];refine aA (fun J=>?_) (fun J=>?_)
  ·rw[if_pos J]at Z;subst Z;simp only[go_sem];exact .refl _
  rw[if_neg (fun h=>Bool.noConfusion (J.symm.trans h))]at Z;simp only[go_sem,I,e7,Y,X,aa,U,ai];refine Zx x h b ds n pr (hL n ds (Xac hn) (Xac ak)) Rj fun H2 b' R2=>?_
  simp only[go_sem];refine aA (fun J=>?_) (fun J=>?_)
  ·rw[if_pos J]at Z;subst Z;simp only[go_sem];exact .refl _
  rw[if_neg (fun h=>Bool.noConfusion (J.symm.trans h))]at Z;simp only[go_sem,I,e7,Y,X,aa,U,lG ap];exact⟨⟨k+1,M,rfl,⟨b',R2⟩,Z⟩,by simp only[aF];omega⟩
 have ab:=geB hk (by simpa using ab);subst ab;rw[Xbi,hP.len,Xbi]at Z;simp only[go_sem];rw[Z];exact .refl _
end Nu
namespace Nu
open Go.Proofs.Tryz
open Go.Aw Go.Aw.D Go.Proofs Ty Go.Nu
open Dec (kK gS dA rN)
open Sq (EvalB sP nP eI EI tM zH PlanB)
open Ps (PrOk)
open Go.Proofs.YtkjdacijpeiphaaGreatDoor.Ve (nV PathsOf nG eY Bh)
def vxO:Order:=⟨⟨#[111]⟩,[1],⟨-1,0,0,0⟩,⟨1,0,40,0⟩,0,-1,1,-1,-1,false⟩
def vxT:VType:=⟨⟨#[118]⟩,1,0,0,[1],0,0,0,60,100,0,20,1,0⟩
def vxN:Network:=⟨[⟨#[65]⟩,⟨#[66]⟩],[⟨0,1,0,20,[⟨0,10⟩],[]⟩,⟨1,0,0,20,[⟨0,10⟩],[]⟩]⟩
def vxX(c:Int):Instance:=⟨vxN,[vxT],[{ vxO with drop:=⟨1,0,c,0⟩ }],[],[]⟩
def vxL(k:Int)(d:List ByteArray):TNode:=⟨true,k,[],d,⟨0,0,0,0⟩,0,0⟩
def vxP(s:ByteArray):Proof:=⟨false,⟨[⟨0,0,[],[⟨0,true⟩]⟩],[]⟩,[vxL 1 [s,⟨#[48]⟩]]⟩
def s60:ByteArray:=⟨#[49,48,48,54,54,51,50,57,54,48]⟩
def s59:ByteArray:=⟨#[49,48,48,54,54,51,50,57,53,57]⟩
def vxQ:Proof:=⟨true,⟨[],[]⟩,[vxL 2 [⟨#[49]⟩,⟨#[48]⟩]]⟩
def vx_1:sW (vxX 40) 1 (vxP s60) true [[]]=0:=by decide +kernel
def vx_2:sW (vxX 40) 1 (vxP s59) true [[]]=26:=by decide +kernel
def vx_3:sW (vxX 5) 1 vxQ true [[]]=0:=by decide +kernel
abbrev Jj(p a t:List (List AV))(o:AV):Row:=⟨50,6,[[.sl p,.sl a,.sl t,o,.sl [],.sl []]]⟩
abbrev MT(r n:List (List AV)):Row:=⟨28,4,[[boo false,.sl r,.sl [],.sl n]]⟩
abbrev VH(l:List Order):Row:=⟨58,16,l.map bF⟩
def TI{H:aG}{K:AV->aG->Prop}(hK:∀j H',H' j=some (VH [vxO])->K (.tup [.agg [.sl (vxN.places.map Go.Aw.D.dB),.sl (vxN.arcs.map eH),.sl [bM vxT],.os j,.sl [],.sl []],.agg (cY (vxP s60))]) H'):aX prog 8 [] H K:=by
 refine aX.body (c:=f8.body.getD .skip) (fun t=>t == 24) mixed func8 rfl (by kernel_rfl) ?_;unfold f8;simp only[Xbc];simp only[go_sem];refine dV fun i0 al am (F:al i0=some (Jj [] [] [] (.sl []))) N=>?_
 clear N am;simp only[go_sem,F];refine dV fun i1 ap an (I:ap i1=some (MT [] [])) N=>?_
 replace F:=N F;obtain⟨Y,F⟩:=F;clear N an;simp only[go_sem,I,F];refine aJ fun i2 ae=>?_
 simp only[go_sem,F,I];refine bH ae (by simp) fun ao (O:ao i2=some (Jj (vxN.places.map Go.Aw.D.dB) [] [] (.sl []))) N=>?_
 replace F:=N F;obtain⟨A,F⟩:=F;replace I:=N I;obtain⟨E,I⟩:=I;clear N ae;simp only[go_sem,O,F,I];refine bO ⟨_,rfl,rfl⟩ O (by simp) ?_;generalize X:aI _ i2 _=HP;replace F:=kpA X (by first|exact A|exact ne_i2_i0.symm) F;replace I:=kpA X (by first|exact E|exact ne_i2_i1.symm) I;replace O:HP i2=some (Jj (vxN.places.map Go.Aw.D.dB) (vxN.arcs.map eH) [] (.sl [])):=upS X;clear X;simp only[go_sem,O,F,I];refine bO ⟨_,rfl,rfl⟩ O (by simp) ?_;generalize X:aI _ i2 _=HP;replace F:=kpA X (by first|exact A|exact ne_i2_i0.symm) F;replace I:=kpA X (by first|exact E|exact ne_i2_i1.symm) I;replace O:HP i2=some (Jj (vxN.places.map Go.Aw.D.dB) (vxN.arcs.map eH) [bM vxT] (.sl [])):=upS X;clear X;simp only[go_sem,O,F,I];refine dV fun j ar aq (Z:ar j=some (VH [vxO])) N=>?_
 replace F:=N F;obtain⟨ac,F⟩:=F;replace I:=N I;obtain⟨ab,I⟩:=I;replace O:=N O;obtain⟨U,O⟩:=O;clear N aq;simp only[go_sem,Z,F,I,O];refine bO ⟨_,rfl,rfl⟩ O (by simp) ?_;generalize X:aI _ i2 _=HP;replace F:=kpA X (by first|exact A|exact ne_i2_i0.symm) F;replace I:=kpA X (by first|exact E|exact ne_i2_i1.symm) I;replace Z:=kpA X (by first|exact ne_j_i2|exact U.symm) Z;replace O:HP i2=some (Jj (vxN.places.map Go.Aw.D.dB) (vxN.arcs.map eH) [bM vxT] (.os j)):=upS X;clear X;simp only[go_sem,O,F,I,Z];refine aJ fun i3 af=>?_
 simp only[go_sem,F,I,O,Z];refine bH af (by simp) fun ai (R3:ai i3=some (MT [bI ⟨0,0,[],[⟨0,true⟩]⟩] [])) N=>?_
 replace F:=N F;obtain⟨J,F⟩:=F;replace I:=N I;obtain⟨M,I⟩:=I;replace O:=N O;obtain⟨aa,O⟩:=O;replace Z:=N Z;obtain⟨T,Z⟩:=Z;clear N af;simp only[go_sem,R3,F,I,O,Z];refine bO ⟨_,rfl,rfl⟩ R3 (by simp) ?_;generalize X:aI _ i3 _=HP;replace F:=kpA X (by first|exact J|exact ne_i3_i0.symm) F;replace I:=kpA X (by first|exact M|exact ne_i3_i1.symm) I;replace O:=kpA X (by first|exact aa|exact ne_i3_i2.symm) O;replace Z:=kpA X (by first|exact T|exact ne_i3_j.symm) Z;replace R3:HP i3=some (MT [bI ⟨0,0,[],[⟨0,true⟩]⟩] [aY (vxL 1 [s60,⟨#[48]⟩])]):=upS X;clear X;simp only[go_sem,R3,F,I,O,Z];refine fW [i2,i3] [(0,true),(1,true),(2,false),(3,false)] (by simp[O,R3]) (by kernel_rfl) fun Hp Hr hp hr _ au=>?_
 have ak:=(hp i2 (by simp)).trans O;have aj:=(hp i3 (by simp)).trans R3;have ah:=(hr i0 (by simp[A,J])).trans F;have ag:=(hr i1 (by simp[E,M])).trans I;simp only[go_sem,ak,aj,ah,ag];refine aN ah (by simp) ?_;simp only[go_sem];refine aN ((aD _ _ _ _ Y.symm).trans ag) (by simp) ?_;simp only[go_sem];refine dN fun _ Hm _ h2=>?_
 have M0:Hm i0=some (Jj (vxN.places.map Go.Aw.D.dB) (vxN.arcs.map eH) [bM vxT] (.os j)):=by rw[h2 i0 (by simp[A,J]),aD _ _ _ _ Y,aB]
 have M1:Hm i1=some (MT [bI ⟨0,0,[],[⟨0,true⟩]⟩] [aY (vxL 1 [s60,⟨#[48]⟩])]):=by rw[h2 i1 (by simp[E,M]),aB]
 have Mj:Hm j=some (VH [vxO]):=by rw[h2 j (by simp[U.symm,T]),aD _ _ _ _ ab.symm,aD _ _ _ _ ac.symm,hr j (by simp[U.symm,T])];exact Z
 simp only[go_sem,M0,M1];exact hK j Hm Mj
def Tv(c:Int):LoadsOk (vxX c) 1 where
 dims:=by decide
 orders:=by simp[vxX]
 types:=by simp[vxX]
 load:=by intro o A;simp[vxX]at A;subst A;simp[vxO]
 cap:=by intro t E;simp[vxX]at E;subst E;simp[vxT]
def Z8:Sq.NetOk vxN where
 arcs:=by decide
 travel:=by intro a A;simp[vxN]at A;rcases A with rfl|rfl <;> decide +kernel
 slow:=by intro a A;simp[vxN]at A;rcases A with rfl|rfl <;> decide
def Zb(c:Int):PrOk (vxX c) 1 where
 ev:=⟨Z8,⟨by simp[vxX,vxT,Sq.mA],by intro o A;simp[vxX]at A;subst A;rfl,by simp[vxX]⟩,by simp[vxX],by simp[vxX]⟩
 n8:=by simp[vxX]
 ty:=by simp[vxX]
 lo:=Tv c
 ne:=by simp[vxX]
def Jz{n:TNode}(h:n.leaf=true):nV [n]:=⟨by simp,by simp,by simp[Ve.kJ,Go.Ve.iR,h],by simp[Go.Ve.kD,Go.Ve.cnt,Go.Ve.jK,h],fun k A=>⟨[],by
 obtain rfl:k=0:=by simp at A;omega
 exact .root⟩⟩
def GJ(n:TNode):PathsOf [n] [[]]:=⟨rfl,fun k d h=>by
 cases k with
 | zero=>cases h;exact .root
 | succ k=>simp at h,fun d A=>by simp at A;subst A;simp⟩
def PB(c:Int)(k E:Int)(d:List ByteArray)(J:VarB d)(I:oX E):LeafB (vxX c) (vxL k d) [] E where
 types:=by intro t F;simp[vxX]at F;subst F;exact⟨by decide,by decide⟩
 cuts:=by intro q A;cases A
 dsn:=by intro q A;cases A
 dl:=by simp
 cl:=by simp[vxL]
 dual:=J
 price:=I
def Tx:PlanW (vxX 40) (vxP s60).plan where
 b:=⟨by decide,by decide,by decide⟩
 visits:=by decide
 type:=fun _=>by decide
 ev:=fun _=>by decide +kernel
 un:=fun _=>by decide +kernel
def Y6(s:ByteArray)(I:s.size<=1048576):PC prog 9 [.agg (aE (vxX 40)),.agg (cY (vxP s))] (int (sW (vxX 40) 1 (vxP s) true [[]])):=
 LW (vxX 40) 1 (vxP s) (Zb 40) true ⟨fun _=>Jz rfl,fun _=>rfl⟩ [[]] (fun _=>GJ _) (by simp[vxP]) (fun _=>Tx) fun n ds F A=>by
  simp[vxP]at F;simp at A;subst F;subst A;refine PB 40 1 _ _ ⟨by simp,fun t E=>?_⟩ (show oX (vH (vxX 40) (vxP s60).plan).1 from⟨by decide +kernel,by decide +kernel⟩);simp at E;rcases E with rfl|rfl
  ·exact I
  ·decide
def acE:PC prog 9 [.agg (aE (vxX 5)),.agg (cY vxQ)] (int 0):=by
 have h:=LW (vxX 5) 1 vxQ (Zb 5) true ⟨fun _=>Jz rfl,fun _=>rfl⟩ [[]] (fun _=>GJ _) (by simp[vxQ]) (fun h=>by cases h) fun n ds E A=>by simp[vxQ]at E;simp at A;subst E;subst A;refine PB 5 2 _ _ ⟨by simp,by decide⟩ ⟨by decide,by decide⟩
 rw[vx_3]at h;exact h
def vxC:Decision:=⟨5,0,0,0⟩
def vxA:Proof:=⟨false,⟨[],[]⟩,[⟨false,0,[],[],vxC,2,1⟩,vxL 0 [],vxL 0 []]⟩
def vxB:Proof:=⟨false,⟨[],[]⟩,[⟨false,0,[],[],⟨0,0,0,0⟩,1,1⟩,vxL 0 []]⟩
def Qn:∀k,k<3->Bh vxA.nodes k (([[],[rN vxC],[vxC]]:List (List Decision)).getD k [])
 | 0,_=>.root
 | 1,_=>.no (d:=[]) .root (rfl:vxA.nodes[0]?=some _) rfl rfl
 | 2,_=>.yes (d:=[]) .root (rfl:vxA.nodes[0]?=some _) rfl rfl
def QF:PC prog 5 [.agg (cY vxA)] (.tup [.sl ([[rN vxC],[vxC]].map nG),int 0]):=
 Go.Proofs.YtkjdacijpeiphaaGreatDoor.Ve.C5 vxA true ⟨fun _=>⟨by decide,by decide,by decide,by decide,fun k A=>⟨_,Qn k A⟩⟩,fun _=>rfl⟩ [[],[rN vxC],[vxC]] (fun _=>⟨rfl,fun k d h=>by have A:k<3:=(List.getElem?_eq_some_iff.1 h).1;have:=Qn k A;rw[List.getD,h]at this;exact this,by decide⟩) (by decide)
def SV:PC prog 5 [.agg (cY vxB)] (.tup [.sl [],int 29]):=
 Go.Proofs.YtkjdacijpeiphaaGreatDoor.Ve.C5 vxB false ⟨fun h=>(by cases h),fun h=>absurd h.2.2.2.1 (by decide)⟩ [] (fun h=>(by cases h)) (by decide)
def H4{H:aG}{j:Nat}(c:Int)(A:H j=some (VH (vxX c).orders))(p:AV):ConvL H [.agg [.sl (vxN.places.map Go.Aw.D.dB),.sl (vxN.arcs.map eH),.sl [bM vxT],.os j,.sl [],.sl []],p] [.agg (aE (vxX c)),p]:=
 .cons _ _ _ _ (.agg _ _ (.cons _ _ _ _ (.refl _) (.cons _ _ _ _ (.refl _) (.cons _ _ _ _ (.refl _) (.cons _ _ _ _ (.row _ _ _ A (ConvE.refl _)) (ConvL.refl _)))))) (ConvL.refl _)
def Hq:PC prog 4 [] (boo true):=by
 have h1:=Y6 s60 (by decide);rw[vx_1]at h1;have h2:=Y6 s59 (by decide);rw[vx_2]at h2;have h3:=acE;have h4:PC prog 5 [.agg (cY vxA)] (.tup [.sl [[.sl [[int 6,int 0,int 0,int 0]]],[.sl [[int 5,int 0,int 0,int 0]]]],int 0]):=QF;have h5:=SV;refine pcd func4 rfl rfl ?_;simp only[go_sem];refine TI fun j H E=>?_
 simp only[go_sem];refine dV fun i1 Z U (J:Z i1=some (Jj [] [] [] (.sl []))) N=>?_
 replace E:=N E;obtain⟨M,E⟩:=E;clear N U;simp only[go_sem,J,E];refine dV fun T Y X (O:Y T=some (MT [] [])) N=>?_
 replace J:=N J;obtain⟨A,J⟩:=J;replace E:=N E;obtain⟨F,E⟩:=E;clear N X;simp only[go_sem,O,J,E];refine aN J (by simp) ?_;generalize I:aI _ i1 _=HP;replace O:=kpA I (by first|exact ne_i2_i1|exact A.symm) O;replace E:=kpA I (by first|exact M|exact ne_i1_j.symm) E;replace J:HP i1=some (Jj (vxN.places.map Go.Aw.D.dB) (vxN.arcs.map eH) [bM vxT] (.os j)):=upS I;clear I;simp only[go_sem,J,O,E];refine aN O (by simp[AO]) ?_;generalize I:aI _ T _=HP;replace J:=kpA I (by first|exact A|exact ne_i2_i1.symm) J;replace E:=kpA I (by first|exact F|exact ne_i2_j.symm) E;replace O:HP T=some (MT [bI ⟨0,0,[],[⟨0,true⟩]⟩] [aY (vxL 1 [s60,⟨#[48]⟩])]):=upS I;clear I;simp only[go_sem,O,J,E];refine cQ.use ⟨_,H4 40 E _,h1,rfl⟩ ?_;simp only[go_sem];refine bO ⟨_,rfl,rfl⟩ O (by simp) ?_;generalize I:aI _ T _=HP;replace J:=kpA I (by first|exact A|exact ne_i2_i1.symm) J;replace E:=kpA I (by first|exact F|exact ne_i2_j.symm) E;replace O:HP T=some (MT [bI ⟨0,0,[],[⟨0,true⟩]⟩] [aY (vxL 1 [s59,⟨#[48]⟩])]):=upS I;clear I;simp only[go_sem,O,J,E];refine cQ.use ⟨_,H4 40 E _,h2,rfl⟩ ?_;simp only[go_sem,J,E];refine⟨⟨by decide,by decide⟩,?_⟩;refine bO so3 E (by simp[kB]) ?_;generalize I:aI _ j _=HP;replace J:=kpA I (by first|exact ne_i1_j|exact M.symm) J;replace O:=kpA I (by first|exact ne_i2_j|exact F.symm) O;replace E:HP j=some (VH (vxX 5).orders):=upS I;clear I;simp only[go_sem,E,J,O];refine cQ.use ⟨_,H4 5 E _,h3,rfl⟩ ?_;simp only[go_sem];refine aP h4 ?_;simp only[go_sem];refine aP h5 ?_;simp only[go_sem]
 iterate 6 (refine⟨fun _=>⟨by decide,by decide⟩,?_⟩)
 exact .refl _
end Nu
namespace Nu
open Go.Proofs.Tryz
open Go.Aw Go.Aw.D Go.Proofs Ty Go.Nu
open Go.Proofs.YtkjdacijpeiphaaGreatDoor.Ve (nV PathsOf nG eY nB JN GT C5 LN)
def zR:∀{l:List TNode} {D:List (List Decision)} {d:List Decision},d∈eY l D->d∈D
 | [],_,_,h=>by cases h
 | _::_,[],_,h=>by cases h
 | a::l,e::D,d,h=>by
  unfold eY at h;split at h
  ·rcases List.mem_cons.1 h with rfl|h
   ·exact List.mem_cons_self
   ·exact List.mem_cons_of_mem _ (zR h)
  ·exact List.mem_cons_of_mem _ (zR h)
def Fl(p:Proof)(hl:p.nodes.length<=1048576):PC prog 3 [.agg (cY p)] (boo true):=by
 obtain⟨b,D,hb,U⟩:∃(b:Bool) (D:List (List Decision)),(b=true↔nV p.nodes)/\(b=true->PathsOf p.nodes D):=by
  by_cases h:nV p.nodes
  ·obtain⟨D,U⟩:=JN h;exact⟨true,D,⟨fun _=>h,fun _=>rfl⟩,fun _=>U⟩
  ·exact⟨false,[],⟨fun h=>(by cases h),fun Y=>absurd Y h⟩,fun h=>(by cases h)⟩
 have h1:=C5 p b hb D U hl;have Y:=GT p b hb D U hl;have T:∀L,L=(if b=true then eY p.nodes D else[])->L.length<=1048576/\∀d∈L,d.length<=1048576:=by
  intro L T;cases b with
  | false=>rw[T];simp
  | true=>rw[T,if_pos rfl];have:=nB p.nodes D;refine⟨by omega,fun d hd=>?_⟩;have:=(U rfl).short d (zR hd);omega
 generalize (if b=true then eY p.nodes D else[])=L at *;generalize (if b=true then(0:Int)else 29)=e at *;have hS:=LN L (T L rfl).1 (T L rfl).2;have Z:=Hq;refine pcd func3 rfl rfl ?_;simp only[go_sem];refine aA (fun h=>?_) (fun h=>?_)
 ·simp only[go_sem];refine aP Z ?_;simp only[go_sem];exact .refl _
 simp only[go_sem,Xaa];refine⟨fun ρ H=>∃(k:Nat),k<=p.nodes.length/\ρ 1=.rp (cY p) 0/\ρ 21=.sl (p.nodes.map aY)/\ρ 22=int (p.nodes.length:Nat)/\ρ 23=int k,fun ρ _=>p.nodes.length-aU (ρ 23),⟨0,Xab _,by simp only[go_sem],by simp only[go_sem],by simp only[go_sem,Xaa],(by simp only[go_sem];rfl)⟩,?_⟩;rintro ρ H ⟨k,hk,M,F,E,A⟩;simp only[go_sem,M,F,E,A];refine aA (fun I=>?_) (fun O=>?_)
 ·have I:=ltB (by simpa using I);obtain⟨n,hn⟩:=aO I;have b1:=inB I;simp only[go_sem,M,F,E,A,aC hn,b1,Xaa];refine aJ fun i4 J=>?_
  simp only[go_sem,M,F,E,A];refine bH J (by simp[fV]) fun X (R4:X i4=some (⟨35,10,[aY n]⟩)) N=>?_
  clear N J;simp only[go_sem,M,F,E,A,R4];refine aA (fun h=>?_) (fun h=>?_)
  ·simp only[go_sem];refine aP Z ?_;simp only[go_sem];exact .refl _
  ·simp only[go_sem,M,F,E,A,aT k];exact⟨⟨k+1,I,rfl⟩,by simp only[aF];omega⟩
 have O:=geB hk (by simpa using O);subst O;simp only[go_sem,M,F,E,A];refine aP h1 ?_;simp only[go_sem,M,F,E,A];refine aP Y ?_;simp only[go_sem,M,F,E,A];refine⟨_,fun _=>hS.q rfl,?_⟩;simp only[go_sem];refine⟨_,fun _=>Z.q rfl,?_⟩;simp only[go_sem];exact cB (by simp)
end Nu
section
open Go.Aw Go.Aw.D
theorem verifyPaths_holds:Rows.VerifyPathsUptoCardSaid:=verifyPaths.card fun p A=>Nu.Fl p A.2.2.1
#print axioms verifyPaths_holds
end
end Go.Proofs.YtkjdacijpeiphaaGreatDoor
