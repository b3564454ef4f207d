import Derived.Lib.LaidIn
import Derived.MakeChecks
import Derived.Stop.LaidErr
import Derived.Test.YtohmomanmikphaaGreatDoorPa16
set_option linter.unusedSimpArgs false
set_option linter.unusedVariables false
set_option maxRecDepth 100000
namespace Go.Proofs.YtohmomanmikphaaGreatDoor
namespace Sq
open Go.Proofs.Tryz(prog)
open Go.Aw Go.Aw.D Go.Proofs Ty
open Go.Proofs.YtohmomanmikphaaGreatDoor.Nu (ltB geB)
open Mv (bJ bR aM)
def zU(M:List Nat)(q:Pair):List Nat:=
 if(((decide (q.a<0)||decide (q.b<0))||decide (q.a>=(M.length:Int)))||decide (q.b>=(M.length:Int)))=true then M
 else M.set q.b.toNat (M.getD q.b.toNat 0 ||| M.getD q.a.toNat 0 ||| 2^q.a.toNat)
def BO(l:List Pair)(M:List Nat):List Nat:=l.foldl zU M
def PU(l:List Pair):Nat->List Nat->List Nat
 | 0,M=>M
 | f+1,M=>if BO l M=M then M else PU l f (BO l M)
def sK(n:Nat)(l:List Pair):List Nat:=PU l (Gs (List.replicate n 0)+1) (List.replicate n 0)
theorem abV{α:Type}{M:List α}{i:Nat}{u:α}(h:M[i]?=some u):M.set i u=M:=by
 obtain⟨hi,rfl⟩:=List.getElem?_eq_some_iff.1 h;exact List.set_getElem_self hi
theorem Xd{M:List Nat}{i u:Nat}(h:M[i]?=some u):M.getD i 0=u:=by rw[List.getD,h];rfl
theorem Rc(l:List Pair):∀(f:Nat) (M:List Nat),(PU l f M).length=M.length:=by
 have h1:∀(l:List Pair) (M:List Nat),(l.foldl zU M).length=M.length:=fun l=>by
   induction l with
   | nil=>exact fun M=>rfl
   | cons q l ih=>exact fun M=>(ih (zU M q)).trans (by unfold zU;split <;> simp)
 intro f;induction f with
 | zero=>exact fun M=>rfl
 | succ f ih=>
   intro M;unfold PU;split
   . rfl
   . exact(ih _).trans (h1 l M)
theorem Ey(n:Nat)(l:List Pair):(sK n l).length=n:=(Rc l _ _).trans List.length_replicate
theorem acP(n:Nat)(l:List Pair)(hn:n<=60)(hl:l.length<=1048576):PC prog 185 [int (n:Nat),.sl (l.map cU)] (.sl ((sK n l).map fun n:Nat=>[int (n:Nat)])):=by
 refine pcd Tryz.func185 ?_;unfold Tryz.f185;simp only[gdS];simp only[go_sem];have aq:fP (n:Int) 0=(n:Nat):=by unfold fP;split <;> omega
 rw[aq];refine⟨by omega,?_⟩;rw[Xaq];generalize hR:sK n l=RR;refine aL fun j au=>?_
 generalize am:aI _ j _=HGj;have R:HGj j=some ((⟨3,1,List.replicate n [int 0]⟩:Row)):=by rw[<-am,aA];try rfl
 clear am au;simp only[go_sem,R];have R:HGj j=some (D0 (List.replicate n 0)):=by rw[R,D0,List.map_replicate];rfl
 refine⟨fun ρ H=>∃(j:Nat) (L:List Nat) (b:Bool),ρ 1=.sl (l.map cU)/\ρ 5=.os j/\ρ 6=boo b/\H j=some (D0 L)/\L.length=n/\(∀a∈L,a<2^62)/\(b=true->∃f,Gs L<f/\PU l f L=RR)/\(b=false->L=RR),fun ρ H=>alK (ρ 5) (ρ 6) H,⟨j,_,true,by simp only[go_sem],by simp only[go_sem],by simp only[go_sem],R,List.length_replicate,fun a ha=>by rw[List.eq_of_mem_replicate ha];decide,fun _=>⟨_,Nat.lt_succ_self _,hR⟩,fun h=>(by cases h)⟩,?_⟩;clear R;rintro ρ H ⟨j,L,b,O,J,U,R,hL,hB,hT,hF⟩;simp only[go_sem,O,J,U];refine aB (fun hb=>?_) (fun hb=>?_)
 case refine_2=>
   simp only[go_sem,J];rw[<-hF hb];exact .row _ _ _ R (ConvE.refl _)
 have hb:b=true:=hb;subst hb;obtain⟨f,ay,aa⟩:=hT rfl;obtain⟨f,rfl⟩:∃f',f=f'+1:=⟨f-1,by omega⟩;have aa:(if BO l L=L then L else PU l f (BO l L))=RR:=aa;simp only[go_sem,O,J,U,Xaa];rw[aaW R];refine⟨fun ρ H=>∃(k:Nat) (j:Nat) (M:List Nat) (b:Bool),k<=l.length/\ρ 1=.sl (l.map cU)/\ρ 5=.os j/\ρ 6=boo b/\ρ 16=.sl (l.map cU)/\ρ 17=int l.length/\ρ 18=int (k:Nat)/\H j=some (D0 M)/\M.length=n/\(∀a∈M,a<2^62)/\Gs M<=Gs L/\(b=true->Gs M<Gs L)/\(b=false->M=L)/\M=(l.take k).foldl zU L,fun ρ _=>l.length-aV (ρ 18),⟨0,j,L,false,Xab _,by simp only[go_sem,O],by simp only[go_sem,J],by simp only[go_sem],by simp only[go_sem,O],by simp only[go_sem],by simp only[go_sem];rfl,R,hL,hB,Xah _,(fun h=>(by cases h)),fun _=>rfl,rfl⟩,?_⟩;clear O J U R hB hL hT hF;rintro ρ H ⟨k,j,M,b,hk,O,J,U,I,F,E,R,hL,hB,an,V,Z,ae⟩;simp only[go_sem,O,J,U,I,F,E];refine aB (fun Y=>?_) (fun aj=>?_)
 case refine_2=>
   have aj:=geB hk (by simpa using aj);simp only[go_sem,O,J,U];rw[Xap (by omega)]at ae;refine⟨⟨j,M,b,rfl,rfl,R,hL,hB,fun hb=>⟨f,by have:=V hb;omega,?_⟩,fun hb=>?_⟩,?_⟩
   . have ar:BO l L≠L:=fun e=>by have:=V hb;rw[ae]at this;unfold BO at e;rw[e]at this;omega
     rw[if_neg ar]at aa;rw[ae];exact aa
   . have e2:=Z hb
     rw[if_pos (show BO l L=L from ae.symm.trans e2)]at aa;exact e2.trans aa
   cases b with
   | true=>rw[aaW R];have:=V rfl;omega
   | false=>rw[aoE];omega
 have Y:=ltB (by simpa using Y);obtain⟨q,hq⟩:=aN Y;have b1:=inB Y;have ac:=kF (f:=zU) (b:=L) hq;rw[<-ae]at ac;simp only[go_sem,O,J,U,I,F,E,aC hq,b1];refine aL fun i8 ag=>?_
 have X:j≠i8:=aP R ag;simp only[go_sem,O,J,U,I,F,E,R];refine aH (aA _ _ _) (by simp[mO]) ?_;generalize ab:aI (aI _ i8 _) i8 _=HGi8;replace R:=kpR ab X X R;have R8:HGi8 i8=some (⟨194,2,[cU q]⟩):=by rw[<-ab,aA];try rfl
 clear ab ag;simp only[go_sem,O,J,U,I,F,E,R8,R];refine gB [i8] [(0,true),(1,true),(2,true),(3,true),(4,true),(5,true)] (by simp[R8]) (by kernel_rfl) fun Hp Hr hp hr _ ao=>?_
 have al:=(hp i8 (by simp)).trans R8;simp only[go_sem,O,J,U,I,F,E,al];refine⟨by decide,by decide,oK hr ?_⟩;simp only[go_sem,O,J,U,I,F,E,R,Xaa];refine aB (fun hc=>?_) (fun hc=>?_)
 . simp only[go_sem,O,J,U,I,F,E,aT (show k<=4611686018427387904 by omega)]
   exact⟨⟨k+1,j,M,b,Y,rfl,rfl,rfl,R,hL,hB,an,V,Z,by rw[ac];unfold zU;rw[if_pos hc]⟩,by simp only[aE];omega⟩
 have ah:zU M q=M.set q.b.toNat (M.getD q.b.toNat 0 ||| M.getD q.a.toNat 0 ||| 2^q.a.toNat):=by unfold zU;rw[if_neg (by rw[hc];simp)]
 simp only[Xaf,decide_eq_false_iff_not]at hc;obtain⟨⟨⟨c1,c2⟩,c3⟩,c4⟩:=hc;obtain⟨A,hA⟩:=Int.eq_ofNat_of_zero_le (show 0<=q.a by omega);obtain⟨B,af⟩:=Int.eq_ofNat_of_zero_le (show 0<=q.b by omega);rw[hA]at c3;rw[af]at c4;have ai:A<M.length:=by omega
 have ad:B<M.length:=by omega
 obtain⟨u,hu⟩:=aN ad;obtain⟨w,hw⟩:=aN ai;rw[hA,af,Xaq,Xaq,Xd hu,Xd hw]at ah;rw[ah]at ac;have g1:=aC (f:=fun n:Nat=>[int (n:Nat)]) hu;have g2:=aC (f:=fun n:Nat=>[int (n:Nat)]) hw;have d1:=inB ad;have d2:=inB ai;have bu:=hB u (Xac hu);have bw:=hB w (Xac hw);have b2:2^A<2^62:=Xcq (by decide) (by omega);have o1:u ||| w<2^62:=Nat.or_lt_two_pow bu bw;have o2:u ||| w ||| 2^A<2^62:=Nat.or_lt_two_pow o1 b2;have v1:vU .or .i64 (u:Int) (w:Int)=((u ||| w:Nat):Int):=HT (by omega) (by omega);have v2:vU .or .i64 ((u ||| w:Nat):Int) ((2^A:Nat):Int)=((u ||| w ||| 2^A:Nat):Int):=HT (by omega) (by omega);have v3:shV .shl .i64 1 (A:Int)=((2^A:Nat):Int):=Ig (by omega);have aj:u<=u ||| w ||| 2^A:=Xal Nat.left_le_or Nat.left_le_or;simp only[go_sem,O,J,U,I,F,E];refine gB [j] [(0,true),(1,true),(2,true),(3,true),(4,true),(5,true),(6,true),(7,true),(8,true),(9,true),(10,true),(11,true),(12,true)] (by simp[R]) (by kernel_rfl) fun Hp Hr hp hr _ ao=>?_
 have av:=(hp j (by simp)).trans R;simp only[go_sem,O,J,U,I,F,E,hA,af,g1,g2,d1,d2,Xaa,v1,v2,v3,av];refine⟨ad,ai,?_⟩;refine oK hr ?_;simp only[go_sem,O,J,U,I,F,E,R,hA,af,g1,d1,Xaa,v1,v2,v3];refine⟨ad,aB (fun hd=>?_) (fun hd=>?_)⟩
 . have hd : u < u ||| w ||| 2 ^ A := by
     have:(((u ||| w ||| 2^A:Nat):Int) != (u:Int))=true:=hd;simp only[bne_iff_ne,ne_eq]at this;omega
   simp only[go_sem,O,J,U,I,F,E,R,hA,af,d1,Xaa];generalize ax:u ||| w ||| 2^A=v at *;refine dM so3 R (by rw[Xaa];exact⟨ad,rfl,Xah 1⟩) ?_;have ak:(M.map fun n:Nat=>[int (n:Nat)]).set B (nH ((M.map fun n:Nat=>[int (n:Nat)]).getD B []) 0 [int (v:Nat)])=(M.set B v).map fun n:Nat=>[int (n:Nat)]:=by
     rw[g1,List.map_set];rfl
   have R3:aI HGi8 j (some (⟨3,1,(M.map fun n:Nat=>[int (n:Nat)]).set B (nH ((M.map fun n:Nat=>[int (n:Nat)]).getD B []) 0 [int (v:Nat)])⟩:Row)) j=some (D0 (M.set B v)):=by
     rw[aA,ak]
   generalize aI HGi8 j _=H3 at R3 |-;have aw:=Nn hu hd (Nat.le_of_lt o2);simp only[go_sem,O,J,U,I,F,E,aT (show k<=4611686018427387904 by omega)];exact⟨⟨k+1,j,M.set B v,true,Y,rfl,rfl,rfl,R3,by rw[List.length_set,hL],fun a ha=>by
     rcases List.mem_or_eq_of_mem_set ha with ha|rfl
     . exact hB a ha
     . exact o2,by omega,(fun _=>by omega),(fun h=>by cases h),ac.symm⟩,by simp only[aE];omega⟩
 . simp only[go_sem,O,J,U,I,F,E,aT (show k<=4611686018427387904 by omega)]
   have ap:u ||| w ||| 2^A=u:=by
     have:(((u ||| w ||| 2^A:Nat):Int) != (u:Int))=false:=hd;simp only[bne_eq_false_iff_eq]at this;omega
   exact⟨⟨k+1,j,M,b,Y,rfl,rfl,rfl,R,hL,hB,an,V,Z,by rw[ac,ap,abV hu]⟩,by simp only[aE];omega⟩
def Mz(x:Instance)(i:Int):Bool:=match x.orders[i.toNat]? with|some o=>o.off|none=>false
def vM(x:Instance)(set:Int):Int:=
 if set<0 then 2
 else if((gZ set).any fun a=>decide (a>=(x.orders.length:Int)))=true then 2
 else if((gZ set).any (Mz x))=true then 9
 else if(x.apart.any fun q=>dE set q.a&&dE set q.b)=true then 20
 else if(x.before.any fun q=>dE set q.b&& !dE set q.a)=true then 21
 else if((gZ set).any fun a=>dE (((sK x.orders.length x.before).getD a.toNat 0:Nat):Int) a)=true then 21
 else 0
theorem C8{α:Type}{p:α->Bool}{l:List α}{k:Nat}{a:α}(h:l[k]?=some a)(E:p a=true):l.any p=true:=Xan.2 ⟨a,Xac h,E⟩
theorem nK{α:Type}{p:α->Bool}{l:List α}(h:∀a∈l,p a=false):l.any p=false:=Xay.2 fun a E=>by rw[h a E];simp
theorem VK(x:Instance)(set:Int)(hx:x.orders.length<=60)(ha:x.apart.length<=1048576)(hb:x.before.length<=1048576):PC prog 116 [.agg (aD x),int set] (int (vM x set)):=by
 refine pcd Tryz.func116 ?_;unfold Tryz.f116;simp only[gdS];simp only[go_sem];have hP:vM x set=(if set<0 then 2
   else if((gZ set).any fun a=>decide (a>=(x.orders.length:Int)))=true then 2
   else if((gZ set).any (Mz x))=true then 9
   else if(x.apart.any fun q=>dE set q.a&&dE set q.b)=true then 20
   else if(x.before.any fun q=>dE set q.b&& !dE set q.a)=true then 21
   else if((gZ set).any fun a=>dE (((sK x.orders.length x.before).getD a.toNat 0:Nat):Int) a)=true then 21
   else 0):=rfl
 generalize vM x set=RP at *;refine aB (fun hc=>?_) (fun hc=>?_)
 . rw[if_pos (of_decide_eq_true hc)]at hP
   simp only[go_sem];rw[hP];exact .refl _
 rw[if_neg (of_decide_eq_false hc)]at hP;simp only[go_sem];refine PC.use (qE set) ?_;have a0:=Zv set;have az:=fun a=>@Yd set a
 generalize gZ set=S at *;simp only[go_sem,Xaa];refine⟨fun ρ H=>∃(k:Nat),k<=S.length/\ρ 1=int set/\ρ 2=.rp (aD x) 0/\ρ 5=.sl (S.map bW)/\ρ 21=.sl (S.map bW)/\ρ 22=int (S.length:Nat)/\ρ 23=int k/\(∀a∈S.take k,a<(x.orders.length:Int)),fun ρ _=>S.length-aV (ρ 23),⟨0,Xab _,by simp only[go_sem],by simp only[go_sem],by simp only[go_sem],by simp only[go_sem],by simp only[go_sem,Xaa],(by simp only[go_sem];rfl),by simp⟩,?_⟩;rintro ρ H ⟨k,hk,J,I,F,af,ag,ac,hz⟩;simp only[go_sem,J,I,F,af,ag,ac];refine aB (fun E=>?_) (fun O=>?_)
 . have E:=ltB (by simpa using E)
   obtain⟨a,U⟩:=aN E;have b1:=inB E;simp only[go_sem,J,I,F,af,ag,ac,aC U,b1,Xaa];refine aB (fun hc=>?_) (fun hc=>?_)
   . rw[if_pos (C8 U hc)]at hP
     simp only[go_sem];rw[hP];exact .refl _
   . have hc:¬a>=(x.orders.length:Int):=of_decide_eq_false hc
     simp only[go_sem,J,I,F,af,ag,ac,aT (show k<=4611686018427387904 by omega)];exact⟨⟨k+1,E,rfl,aM (p:=fun a:Int=>a<(x.orders.length:Int)) U (by omega) hz⟩,by simp only[aE];omega⟩
 have O:=geB hk (by simpa using O);subst O;rw[Xag]at hz;rw[if_neg (by rw[nK fun a ha=>decide_eq_false (by have:=hz a ha;omega)];simp)]at hP;simp only[go_sem,J,I,F,af,ag,ac,Xaa];refine⟨fun ρ H=>∃(k:Nat),k<=S.length/\ρ 1=int set/\ρ 2=.rp (aD x) 0/\ρ 5=.sl (S.map bW)/\ρ 33=.sl (S.map bW)/\ρ 34=int (S.length:Nat)/\ρ 35=int k/\(∀a∈S.take k,Mz x a=false),fun ρ _=>S.length-aV (ρ 35),⟨0,Xab _,by simp only[go_sem,J,I,F,af,ag,ac],by simp only[go_sem,J,I,F,af,ag,ac],by simp only[go_sem,J,I,F,af,ag,ac],by simp only[go_sem,J,I,F,af,ag,ac],by simp only[go_sem,Xaa,J,I,F,af,ag,ac],(by simp only[go_sem,J,I,F,af,ag,ac];rfl),by simp⟩,?_⟩;rintro ρ H ⟨k,hk,J,I,F,ae,ah,ad,hy⟩;simp only[go_sem,J,I,F,ae,ah,ad];refine aB (fun E=>?_) (fun O=>?_)
 . have E:=ltB (by simpa using E)
   obtain⟨a,U⟩:=aN E;have b1:=inB E;obtain⟨A,rfl⟩:=az a (Xac U);have hA:=hz _ (Xac U);have ai:A<x.orders.length:=by omega
   obtain⟨o,ho⟩:=aN ai;have b2:=inB ai;have ap:Mz x (A:Int)=o.off:=by unfold Mz;rw[Xaq,ho]
   simp only[go_sem,J,I,F,ae,ah,ad,aC U,b1,aC ho,b2];refine aB (fun hc=>?_) (fun hc=>?_)
   . rw[if_pos (C8 (p:=Mz x) U (ap.trans hc))]at hP
     simp only[go_sem];rw[hP];exact .refl _
   . simp only[go_sem,J,I,F,ae,ah,ad,aT (show k<=4611686018427387904 by omega)]
     exact⟨⟨k+1,E,rfl,aM (p:=fun a=>Mz x a=false) U (ap.trans hc) hy⟩,by simp only[aE];omega⟩
 have O:=geB hk (by simpa using O);subst O;rw[Xag]at hy;rw[if_neg (by rw[nK hy];simp)]at hP;simp only[go_sem,J,I,F,ae,ah,ad,Xaa];refine⟨fun ρ H=>∃(k:Nat),k<=x.apart.length/\ρ 1=int set/\ρ 2=.rp (aD x) 0/\ρ 5=.sl (S.map bW)/\ρ 47=.sl (x.apart.map cU)/\ρ 48=int (x.apart.length:Nat)/\ρ 49=int k/\(∀q∈x.apart.take k,(dE set q.a&&dE set q.b)=false),fun ρ _=>x.apart.length-aV (ρ 49),⟨0,Xab _,by simp only[go_sem,J,I,F,ae,ah,ad],by simp only[go_sem,J,I,F,ae,ah,ad],by simp only[go_sem,J,I,F,ae,ah,ad],by simp only[go_sem,J,I,F,ae,ah,ad],by simp only[go_sem,Xaa,J,I,F,ae,ah,ad],(by simp only[go_sem,J,I,F,ae,ah,ad];rfl),by simp⟩,?_⟩;rintro ρ H ⟨k,hk,J,I,F,Y,V,X,hv⟩;simp only[go_sem,J,I,F,Y,V,X];refine aB (fun E=>?_) (fun O=>?_)
 . have E:=ltB (by simpa using E)
   obtain⟨q,hq⟩:=aN E;have b1:=inB E;simp only[go_sem,J,I,F,Y,V,X,aC hq,b1];refine aL fun aq av=>?_
   simp only[go_sem,J,I,F,Y,V,X];refine aH (aA _ _ _) (by simp[mO]) ?_;generalize ak:aI (aI _ aq _) aq _=HGi11;have aw:HGi11 aq=some (⟨194,2,[cU q]⟩):=by rw[<-ak,aA];try rfl
   clear ak av;simp only[go_sem,J,I,F,Y,V,X,aw];refine⟨by decide,PC.use (xO set q.a) ?_⟩;simp only[go_sem,J,I,F,Y,V,X,aw];refine⟨fun _=>by decide,_,fun _=>(xO set q.b).q rfl,?_⟩;simp only[go_sem,J,I,F,Y,V,X];refine aB (fun hc=>?_) (fun hc=>?_)
   . rw[if_pos (C8 (p:=fun q:Pair=>dE set q.a&&dE set q.b) hq hc)]at hP
     simp only[go_sem];rw[hP];exact .refl _
   . simp only[go_sem,J,I,F,Y,V,X,aT (show k<=4611686018427387904 by omega)]
     exact⟨⟨k+1,E,rfl,aM (p:=fun q:Pair=>(dE set q.a&&dE set q.b)=false) hq hc hv⟩,by simp only[aE];omega⟩
 have O:=geB hk (by simpa using O);subst O;rw[Xag]at hv;rw[if_neg (by rw[nK hv];simp)]at hP;simp only[go_sem,J,I,F,Y,V,X,Xaa];refine⟨fun ρ H=>∃(k:Nat),k<=x.before.length/\ρ 1=int set/\ρ 2=.rp (aD x) 0/\ρ 5=.sl (S.map bW)/\ρ 65=.sl (x.before.map cU)/\ρ 66=int (x.before.length:Nat)/\ρ 67=int k/\(∀q∈x.before.take k,(dE set q.b&& !dE set q.a)=false),fun ρ _=>x.before.length-aV (ρ 67),⟨0,Xab _,by simp only[go_sem,J,I,F,Y,V,X],by simp only[go_sem,J,I,F,Y,V,X],by simp only[go_sem,J,I,F,Y,V,X],by simp only[go_sem,J,I,F,Y,V,X],by simp only[go_sem,Xaa,J,I,F,Y,V,X],(by simp only[go_sem,J,I,F,Y,V,X];rfl),by simp⟩,?_⟩;rintro ρ H ⟨k,hk,J,I,F,aa,ab,Z,hw⟩;simp only[go_sem,J,I,F,aa,ab,Z];refine aB (fun E=>?_) (fun O=>?_)
 . have E:=ltB (by simpa using E)
   obtain⟨q,hq⟩:=aN E;have b1:=inB E;simp only[go_sem,J,I,F,aa,ab,Z,aC hq,b1];refine aL fun au ar=>?_
   simp only[go_sem,J,I,F,aa,ab,Z];refine aH (aA _ _ _) (by simp[mO]) ?_;generalize aj:aI (aI _ au _) au _=HGi13;have ax:HGi13 au=some (⟨194,2,[cU q]⟩):=by rw[<-aj,aA];try rfl
   clear aj ar;simp only[go_sem,J,I,F,aa,ab,Z,ax];refine⟨by decide,PC.use (xO set q.b) ?_⟩;simp only[go_sem,J,I,F,aa,ab,Z,ax];refine⟨fun _=>by decide,_,fun _=>(xO set q.a).q rfl,?_⟩;simp only[go_sem,J,I,F,aa,ab,Z];refine aB (fun hc=>?_) (fun hc=>?_)
   . rw[if_pos (C8 (p:=fun q:Pair=>dE set q.b&& !dE set q.a) hq hc)]at hP
     simp only[go_sem];rw[hP];exact .refl _
   . simp only[go_sem,J,I,F,aa,ab,Z,aT (show k<=4611686018427387904 by omega)]
     exact⟨⟨k+1,E,rfl,aM (p:=fun q:Pair=>(dE set q.b&& !dE set q.a)=false) hq hc hw⟩,by simp only[aE];omega⟩
 have O:=geB hk (by simpa using O);subst O;rw[Xag]at hw;rw[if_neg (by rw[nK hw];simp)]at hP;simp only[go_sem,J,I,F,aa,ab,Z,Xaa];have hL:=Ey x.orders.length x.before;refine PC.use (acP x.orders.length x.before hx hb) ?_;generalize sK x.orders.length x.before=CH at *;simp only[go_sem,J,I,F,aa,ab,Z,Xaa];refine⟨fun ρ H=>∃(k:Nat),k<=S.length/\ρ 14=.sl (CH.map fun n:Nat=>[int (n:Nat)])/\ρ 89=.sl (S.map bW)/\ρ 90=int (S.length:Nat)/\ρ 91=int k/\(∀a∈S.take k,dE ((CH.getD a.toNat 0:Nat):Int) a=false),fun ρ _=>S.length-aV (ρ 91),⟨0,Xab _,by simp only[go_sem,J,I,F,aa,ab,Z],by simp only[go_sem,J,I,F,aa,ab,Z],by simp only[go_sem,Xaa,J,I,F,aa,ab,Z],(by simp only[go_sem,J,I,F,aa,ab,Z];rfl),by simp⟩,?_⟩;rintro ρ H ⟨k,hk,al,ao,am,an,hu⟩;simp only[go_sem,al,ao,am,an];refine aB (fun E=>?_) (fun O=>?_)
 . have E:=ltB (by simpa using E)
   obtain⟨a,U⟩:=aN E;have b1:=inB E;obtain⟨A,rfl⟩:=az a (Xac U);have hA:=hz _ (Xac U);have ai:A<CH.length:=by omega
   obtain⟨o,ho⟩:=aN ai;have b2:=inB ai;have ay:dE ((CH.getD ((A:Int)).toNat 0:Nat):Int) (A:Int)=dE (o:Nat) (A:Nat):=by rw[Xaq,Xd ho]
   have g1:=aC (f:=fun n:Nat=>[int (n:Nat)]) ho;simp only[go_sem,al,ao,am,an,aC U,b1,g1,b2];refine PC.use (xO (o:Nat) (A:Nat)) ?_;simp only[go_sem,al,ao,am,an];refine aB (fun hc=>?_) (fun hc=>?_)
   . rw[if_pos (C8 (p:=fun a=>dE ((CH.getD a.toNat 0:Nat):Int) a) U (ay.trans hc))]at hP
     simp only[go_sem];rw[hP];exact .refl _
   . simp only[go_sem,al,ao,am,an,aT (show k<=4611686018427387904 by omega)]
     exact⟨⟨k+1,E,rfl,aM (p:=fun a=>dE ((CH.getD a.toNat 0:Nat):Int) a=false) U (ay.trans hc) hu⟩,by simp only[aE];omega⟩
 have O:=geB hk (by simpa using O);subst O;rw[Xag]at hu;rw[if_neg (by rw[nK hu];simp)]at hP;simp only[go_sem];rw[hP];exact .refl _
end Sq
namespace Nu.Ps
open Go.Aw Go.Aw.D Go.Proofs Ty Go.Nu Go.So
structure Priced where
 column:Column
 reduced:ByteArray
def dA(x:Priced):List AV:=[.v (.int .i64 x.column.type),.v (.int .i64 x.column.set),.v (.int .i64 x.column.price),.v (.int .i64 x.column.route.type),.v (.int .i64 x.column.route.start),.sl (x.column.route.rests.map cR),.sl (x.column.route.visits.map aJ),.v (.string x.reduced)]
theorem kA(x:Priced):(dA x).length=8:=(rfl)
theorem Qk(x:Priced):(dA x).getD 0 .any=.v (.int .i64 x.column.type):=(rfl)
theorem PR(x:Priced):(dA x).getD 1 .any=.v (.int .i64 x.column.set):=(rfl)
theorem Nm(x:Priced):(dA x).getD 2 .any=.v (.int .i64 x.column.price):=(rfl)
theorem O3(x:Priced):(dA x).getD 7 .any=.v (.string x.reduced):=(rfl)
theorem IL(x:Priced):(dA x).take 8=dA x:=(rfl)
theorem FN(x:Priced):(dA x).drop 8=[]:=(rfl)
theorem IB(x:Priced):(dA x).take 7=aU x.column:=(rfl)
attribute [go_sem] kA Qk PR Nm O3 IL IB
abbrev uH(gf:Nat):AV:=.v (.func (.func gf) #[] #[])
abbrev lL(l:List Priced):Row:=⟨69,8,l.map dA⟩
theorem QP(H:aK)(j:Nat)(a b:Option Row):aI (aI H j a) j b=aI H j b:=by
 funext k;unfold aI;split <;> rfl
theorem oP{H:aK}{j:Nat}{r:Row}(h:H j=some r):aI H j (some r)=H:=by
 funext k;unfold aI;split
 . next e=>rw[e,h]
 . rfl
end Nu.Ps
namespace Nu.Ps
open Go.Proofs.Tryz(prog)
open Go.Aw Go.Aw.D Go.Proofs Ty Go.Nu Go.So
abbrev TB:=Priced×Nat
def fs(L:List TB):List Priced:=L.map Prod.fst
structure CmpOk(gf:Nat)(lt:Priced->Priced->Bool)(ok:Priced->Prop):Prop where
 call:aG Tryz.prog gf=true
 cmp:∀x y,ok x->ok y->∃n:Int,decide (n<0)=lt x y/\PC Tryz.prog gf [.agg (dA x),.agg (dA y)] (int n)
end Nu.Ps
namespace Nu.Ps
open Go.Aw Go.Aw.D Go.Proofs Ty Go.Nu Go.So
section
variable{gf:Nat}{lt:Priced->Priced->Bool}{ok:Priced->Prop}
end
end Nu.Ps
namespace Nu.Ps
open Go.Aw Go.Aw.D Go.Proofs Ty Go.Nu Go.So
section
variable{gf:Nat}{lt:Priced->Priced->Bool}{ok:Priced->Prop}
end
end Nu.Ps
namespace Nu.Ps
open Go.Aw Go.Aw.D Go.Proofs Go.Nu Go.So
def ltP(a b:Priced):Bool:=decide (rK a.reduced<rK b.reduced)
def yY(m:Priced):List Priced->Priced
 | []=>m
 | p::l=>yY (if ltP p m=true then p else m) l
theorem NW:∀(l:List Priced) (m:Priced),yY m l∈m::l
 | [],m=>by simp[yY]
 | p::l,m=>by
   have ih:=NW l (if ltP p m=true then p else m);show yY (if ltP p m=true then p else m) l∈m::p::l;rcases Xbe.1 ih with h|h
   . rw[h];split <;> simp
   . simp[h]
theorem Ic:∀(l acc:List Priced),(l.foldl (fun acc x=>ins ltP x acc) acc).Perm (acc++l)
 | [],acc=>by simp
 | x::l,acc=>(Ic l _).trans (((OY ltP x acc).append_right l).trans (by
   show(x::(acc++l)).Perm (acc++x::l);exact List.perm_middle.symm))
theorem Gh(l:List Priced):(BB ltP l).Perm l:=Ic l []
def Ht(p:Priced):Bool:=decide (rK p.reduced<0)
def aoD(l:List Priced):List Priced:=(BB ltP l).takeWhile Ht
end Nu.Ps
namespace Nu
open Go.Proofs.Tryz(prog)
open Go.Aw Go.Aw.D Go.Proofs Ty Go.Nu
theorem TC(x:Int):vU .and .i64 x 1=x%2:=by
 have h:((BitVec.ofInt 64 x &&& BitVec.ofInt 64 1).toNat:Int)=x%2:=by
   rw[BitVec.toNat_and,BitVec.toNat_ofInt,BitVec.toNat_ofInt];have:((1:Int)%((2^64:Nat):Int)).toNat=1:=by decide
   rw[this,Nat.and_one_is_mod];omega
 refine Eq.trans (congrArg IntKind.i64.wrap h) ?_;exact bH (by omega)
theorem aeP{a b:Nat}(I:a<2^63)(E:b<2^63):vU .and .i64 (a:Int) (b:Int)=((a &&& b:Nat):Int):=by
 have h:((BitVec.ofInt 64 (a:Int) &&& BitVec.ofInt 64 (b:Int)).toNat:Int)=((a &&& b:Nat):Int):=by
   rw[BitVec.toNat_and,BitVec.toNat_ofInt,BitVec.toNat_ofInt];have h1:((a:Int)%((2^64:Nat):Int)).toNat=a:=by omega
   have F:((b:Int)%((2^64:Nat):Int)).toNat=b:=by omega
   rw[h1,F]
 refine Eq.trans (congrArg IntKind.i64.wrap h) ?_;have:=Nat.and_lt_two_pow a E;exact bH (by omega)
theorem tT{x:Int}{i:Nat}(h:i<=62):shV .shr .i64 x (i:Int)=x/2^i:=by
 show x.fdiv (2^min ((i:Int)).toNat 64)=_;have:min ((i:Int)).toNat 64=i:=by omega
 rw[this,Int.fdiv_eq_ediv_of_nonneg _ (by exact Int.le_of_lt (Int.pow_pos (by decide)))]
def dE(set i:Int):Bool:=decide (i>=0)&&decide (i<=62)&&((set/2^i.toNat)%2 == 1)
theorem xO(set i:Int):PC prog 121 [int set,int i] (boo (dE set i)):=by
 refine pcd Tryz.func121 ?_;unfold Tryz.f121;simp only[gdS];simp only[go_sem];refine⟨fun h=>?_,?_⟩
 . simp at h;omega
 . refine cB ?_
   unfold dE;rw[TC];by_cases h:0<=i/\i<=62
   . obtain⟨h0,h1⟩:=h
     have e:=tT (x:=set) (i:=i.toNat) (by omega);rw[Int.toNat_of_nonneg h0]at e;rw[e]
   . have:(decide (i>=0)&&decide (i<=62))=false:=by simp;omega
     rw[this];rfl
def oT(set:Int)(k:Nat):List Int:=((List.range k).filter fun i:Nat=>dE set (i:Int)).map fun i:Nat=>(i:Int)
def gZ(set:Int):List Int:=oT set 63
theorem oJ(set:Int)(k:Nat):oT set (k+1)=oT set k++(if dE set (k:Int)=true then[(k:Int)]else[]):=by
 unfold oT;rw[Xbg,List.filter_append,Xar];by_cases h:dE set (k:Int)=true
 . simp[h]
 . simp[h]
theorem wH(set:Int)(k:Nat):(oT set k).length<=k:=by
 unfold oT;rw[Xaa];exact Xal (Xcc _ _) (by simp)
def nA(l:List Int):Row:=⟨3,1,l.map bW⟩
theorem qE(set:Int):PC prog 117 [int set] (.sl ((gZ set).map bW)):=by
 refine pcb (fun t=>t == 3) Tryz.func117 ?_;unfold Tryz.f117;simp only[gdS];simp only[go_sem];refine aL fun j X=>?_
 simp only[go_sem];refine⟨fun ρ H=>∃k:Nat,k<=63/\ρ 0=int set/\ρ 5=int k/\∃j,ρ 3=.os j/\H j=some (nA (oT set k)),fun ρ _=>63-aV (ρ 5),⟨0,Xab _,rfl,rfl,j,rfl,aA _ _ _⟩,?_⟩;clear X;rintro ρ H ⟨k,Y,h0,J,j,I,R⟩;simp only[go_sem,h0,J,I];refine aB (fun E=>?_) (fun F=>?_)
 . have E:k<63:=by simp at E;omega
   simp only[go_sem,h0,J,I];refine PC.use (xO set k) ?_;simp only[go_sem,h0,J,I];refine aB (fun O=>?_) (fun O=>?_)
   . simp only[go_sem,h0,J,I]
     refine aZ R ⟨rfl,rfl⟩ ⟨rfl,trivial⟩ (by have:=wH set k;simp[nA];omega) (fun V U=>?_);simp only[go_sem,h0,J,I,aT (show k<=4611686018427387904 by omega)];refine⟨⟨k+1,E,rfl,V,rfl,?_⟩,by simp only[aE];omega⟩;rw[oJ,if_pos O,aA];simp only[nA,Xar,Xbc,Xbs];rfl
   . simp only[go_sem,h0,J,I,aT (show k<=4611686018427387904 by omega)]
     refine⟨⟨k+1,E,rfl,j,rfl,?_⟩,by simp only[aE];omega⟩;rw[oJ,if_neg (by rw[O];simp),Xai];exact R
 . have F:k=63:=by simp at F;omega
   subst F;simp only[go_sem,I];exact .row _ _ _ R (ConvE.refl _)
def Cu:Nat->Nat->Nat
 | 0,_=>0
 | k+1,n=>n%2+Cu k (n/2)
theorem Ju:∀(k n:Nat),Cu (k+1) n=Cu k n+(n/2^k)%2
 | 0,n=>by simp[Cu]
 | k+1,n=>by
   rw[Cu,Ju k (n/2),Cu,Nat.div_div_eq_div_mul,show 2*2^k=2^(k+1)by rw[Xbj,Nat.mul_comm]];omega
theorem Lq:∀k n:Nat,Cu k n<=k
 | 0,_=>Xah 0
 | k+1,n=>by have:=Lq k (n/2);rw[Cu];omega
theorem Pj(n:Nat):∀k:Nat,k<=63->(oT (n:Int) k).length=Cu k n
 | 0,_=>rfl
 | k+1,hk=>by
   rw[oJ,Xae,Pj n k (by omega),Ju];have h:dE (n:Int) (k:Int)=decide ((n/2^k)%2=1):=by
     unfold dE;rw[show decide ((k:Int)>=0)=true by simp,show decide ((k:Int)<=62)=true by simp;omega,Xaq,Xbl,Xbl];rw[Xas,Xba,decide_eq_true_iff];have:((n:Int)/2^k)=((n/2^k:Nat):Int):=by norm_cast
     rw[this];omega
   rw[h];by_cases E:(n/2^k)%2=1
   . simp[E]
   . have:(n/2^k)%2=0:=by omega
     simp[this]
theorem aoF(n:Nat):PC prog 93 [int n] (int (Cu 63 n:Nat)):=by
 have X:=Pj n 63 (Xah _);have U:=Lq 63 n;refine pcd Tryz.func93 ?_;unfold Tryz.f93;simp only[gdS];simp only[go_sem];refine PC.use (qE n) ?_;simp only[go_sem,Xaa,gZ,X];generalize Cu 63 n=P at *;refine⟨fun ρ _=>∃k:Nat,k<=P/\ρ 3=int k/\ρ 6=int (P:Nat)/\ρ 7=int k,fun ρ _=>P-aV (ρ 7),⟨0,Xab _,by simp only[go_sem];rfl,by simp only[go_sem],by simp only[go_sem];rfl⟩,?_⟩;rintro ρ H ⟨k,V,I,J,O⟩;simp only[go_sem,I,J,O];refine aB (fun F=>?_) (fun E=>?_)
 . have F:=ltB F
   simp only[go_sem,I,J,O,aT (show k<=4611686018427387904 by omega)];exact⟨⟨k+1,F,rfl⟩,by simp only[aE];omega⟩
 . have E:=geB V E
   subst E;simp only[go_sem,I];exact .refl _
def nO(p:Int×Int):List AV:=[int p.1,int p.2]
def wI(m:List (Int×Int))(o:Int):Option Nat:=m.findIdx? fun p=>p.1 == o
def yJ(m:List (Int×Int))(o:Int):Int:=((m.find? fun p=>p.1 == o).map (·.2)).getD 0
def E5(m:List (Int×Int))(o v:Int):List (Int×Int):=match wI m o with
 | some i=>m.set i (o,v)
 | none=>m++[(o,v)]
abbrev Ac(m:List (Int×Int)):Row:=⟨0,2,m.map nO⟩
theorem wE(o:Int):∀(m:List (Int×Int)) (i:Nat),vB (rM prog 3 (int o)) (m.map nO) i=some ((wI m o).map (·+i))
 | [],i=>rfl
 | p::m,i=>by
   have ih:=wE o m (i+1);have F:rM prog 3 (int o) ((nO p).getD 0 .any)=some (o == p.1):=by
     show rM prog 3 (int o) (int p.1)=_;unfold rM;simp only[kk3];simp[vX]
   rw[Xbc,vB,F];unfold wI at *;rw[List.findIdx?_cons];by_cases h:o=p.1
   . subst h;simp
   . have h1:(o == p.1)=false:=by simpa using h
     have E:(p.1 == o)=false:=by simpa using fun e=>h e.symm
     rw[h1,E];simp only[Xax,if_false];rw[ih];cases m.findIdx? (fun p=>p.1 == o)with
     | none=>rfl
     | some j=>simp;omega
theorem oI(o:Int)(m:List (Int×Int)):vB (rM prog 3 (int o)) (m.map nO) 0=some (wI m o):=by
 rw[wE];cases wI m o <;> rfl
theorem qO(o:Int):nI prog 3 (int o)=true:=by
 simp only[nI,kk3];rfl
theorem CM(m:List (Int×Int))(o:Int):Gd false (int 0) (m.map nO) (wI m o)=int (yJ m o):=by
 unfold Gd yJ wI;induction m with
 | nil=>rfl
 | cons p m ih=>
   rw[List.findIdx?_cons,List.find?_cons];cases h:p.1 == o with
   | true=>simp[nO]
   | false=>
     cases hi:m.findIdx? (fun p=>p.1 == o)with
     | none=>
       rw[hi]at ih;simpa using ih
     | some j=>
       rw[hi]at ih;simp at ih |-;exact ih
theorem Dg(m:List (Int×Int))(o v:Int):Xv (m.map nO) (wI m o) (int o) (int v)=(E5 m o v).map nO:=by
 unfold Xv E5;cases wI m o with
 | none=>simp[nO]
 | some i=>simp[List.map_set,nO]
def JZ(k:Int):Nat:=if k=1 then 2 else if k=2 then 1 else 0
def abX(k:Int)(P:Nat):Bool:=decide (JZ k>0)&&decide (JZ k<=P)
def ER(k:Int)(n:Nat):Int:=if abX k (Cu 63 n)=true then 1 else 0
theorem anE(k m:Int)(a b:Nat)(Y:a<2^63)(U:b<2^63):PC prog 159 [.agg [int k,int a,int m],int b] (int (ER k (a &&& b))):=by
 have V:=aoF (a &&& b);have Z:=Lq 63 (a &&& b);refine pcd Tryz.func159 ?_;unfold Tryz.f159;simp only[gdS];simp only[go_sem];refine aL fun jm I=>?_
 generalize E:aI bV jm _=HM;have J:HM jm=some (Ac []):=by rw[<-E,aA];rfl
 clear E I;simp only[go_sem];refine LE J Ii (qO _) (oI _ _) ?_;rw[Dg];generalize E:aI HM jm _=HN;have O:HN jm=some (Ac [(1,2)]):=by rw[<-E,aA];rfl
 clear E J;simp only[go_sem];refine LE O Ii (qO _) (oI _ _) ?_;rw[Dg];generalize E:aI HN jm _=HO;have X:HO jm=some (Ac [(1,2),(2,1)]):=by rw[<-E,aA];rfl
 clear E O;simp only[go_sem];refine Dk X Ii (qO _) (oI _ _) zv3 ?_;rw[CM];have hk:yJ [(1,2),(2,1)] k=(JZ k:Nat):=by
   unfold yJ JZ;by_cases h1:k=1
   . subst h1;rfl
   . by_cases F:k=2
     . subst F;rfl
     . have e1:((1:Int) == k)=false:=by simpa using fun e=>h1 e.symm
       have e2:((2:Int) == k)=false:=by simpa using fun e=>F e.symm
       simp[List.find?,e1,e2,h1,F]
 rw[hk];simp only[go_sem];rw[aeP Y U];refine⟨_,fun _=>V.q rfl,?_⟩;unfold ER;generalize Cu 63 (a &&& b)=P at *;simp only[go_sem];have hc:(decide (((JZ k:Nat):Int)>0)&&decide ((P:Int)>=((JZ k:Nat):Int)))=abX k P:=by
   unfold abX;rw[Xas];simp
 rw[hc];refine aB (fun h=>?_) (fun h=>?_)
 . simp only[go_sem]
   exact cI (by rw[if_pos h])
 . simp only[go_sem]
   exact cI (by rw[if_neg (by rw[h];simp)])
end Nu
namespace Nu
open Go.Aw Go.Aw.D Go.Proofs Ty Go.Nu
theorem Cz:∀(l:List (Int×ByteArray)) (t:ByteArray),dI t=true->(yS l t).2=0->dI (yS l t).1=true
 | [],t,h,_=>h
 | p::l,t,h,h0=>by
   unfold yS at h0 |-;split at h0
   . next h1=>exact absurd h0 h1
   . next h1=>
     rw[if_neg h1];split at h0
     . next E=>exact absurd h0 E
     . next E=>
       rw[if_neg E];exact Cz l _ (Ge (by simpa using E)) h0
theorem Qf{ns:List Int}{xs:List ByteArray}(h:(tD ns xs).2=0):dI (tD ns xs).1=true:=by
 unfold tD at h |-;split at h
 . cases h
 . next h1=>
   rw[if_neg h1];split at h
   . cases h
   . next E=>rw[if_neg E];exact Cz _ _ TK h
theorem QR{a b:ByteArray}(h:(LG a b).2=0):dI (LG a b).1=true:=by
 unfold LG at h |-;split at h
 . rename_i E
   rw[if_pos E];obtain⟨e,F⟩:=FY h;rw[e];exact vD F
 . cases h
end Nu
section
open Go.Aw Go.Aw.D Go.Proofs Ty
theorem cY{α:Type}{b:Bool}{f:α}(h:opt b f=[]):b=false:=by cases b <;> simp[opt]at h |-
theorem eH{n a b:Int}:inR n a b=true↔a<=n/\n<=b:=by
 unfold inR;simp only[Xak,decide_eq_true_eq]
theorem iV{b:Bool}(h:(!b)=false):b=true:=by simpa using h
structure TypeB(t:VType)(d:Int):Prop where
 cap:wQ t.cap d=true
 skills:0<=t.skills/\t.skills<=1073741823
 start:0<=t.start/\t.start<=t.close
 close:t.close<=4096
 drive:1<=t.drive/\t.drive<=4096
 rest:0<=t.rest/\t.rest<=4096
 count:0<=t.count/\t.count<=10
theorem GA{n:Network}{l:List VType}{k:Nat}{t:VType}(h:lM n l k t=[]):TypeB t (jI l):=by
 unfold lM at h;simp only[Xbr,Xat]at h;obtain⟨⟨⟨⟨⟨⟨⟨⟨_,_⟩,Z⟩,_⟩,J⟩,V⟩,Y⟩,h8⟩,h9⟩:=h;have O:=eH.1 (iV (cY Z));have I:=iV (cY J);have U:=eH.1 (iV (cY V));have F:=Xaf.1 (cY Y);have E:=Xaf.1 (cY h8);have q7:=eH.1 (iV F.1);have X:¬t.close>4096:=by simpa using F.2
 exact⟨I,U,q7,by omega,eH.1 (iV E.1),eH.1 (iV E.2),O⟩
structure OrdB(o:Order)(d:Int):Prop where
 load:fQ o.load d=true
 pick: -1<=o.pick.place
 drop: -1<=o.drop.place
 both:(o.pick.place == -1&&o.drop.place == -1)=false
 wpick:fH o.pick=0
 wdrop:fH o.drop=0
 skills:0<=o.skills/\o.skills<=1073741823
 penalty: -1<=o.penalty/\o.penalty<=1000000
theorem LH{P:Nat}{d T:Int}{l:List Order}{k:Nat}{o:Order}(h:iZ P d T l k o=[]):OrdB o d:=by
 unfold iZ at h;simp only[Xbr,Xat]at h;obtain⟨⟨⟨⟨⟨⟨⟨_,_⟩,U⟩,Y⟩,O⟩,J⟩,V⟩,X⟩:=h;have E:=Xaf.1 (cY Y);have I:=Xaf.1 (cY J);have F:=cY X;simp only[Xaf]at F;refine⟨iV (cY U),(eH.1 (iV E.1)).1,(eH.1 (iV E.2)).1,cY O,by simpa using I.1,by simpa using I.2,eH.1 (iV (cY V)),eH.1 (iV F.1.1.1.1.1.1)⟩
structure ArcOk(a:Arc):Prop where
 travel:iJ a.travel=[]
 slow:a.slow.length<=16
 pt:∀p∈a.slow,(0<=p.t/\p.t<=4096)/\0<=p.a/\p.a<=4096
theorem FL{n:Network}{k:Nat}{a:Arc}(J:n.arcs[k]?=some a)(h:Dy n k=[]):ArcOk a:=by
 unfold Dy at h;rw[oR J]at h;simp only[Xbr,Xat,Xbt]at h;obtain⟨⟨⟨_,U⟩,I⟩,F⟩:=h;have V:¬(a.slow.length:Int)>16:=by simpa using cY I
 refine⟨U,by omega,fun p O=>?_⟩;obtain⟨i,hi,rfl⟩:=List.getElem_of_mem O;have:=Xbv.1 F i (Xam.2 hi);have E:=cY this;unfold nV at E;rw[dH (List.getElem?_eq_getElem hi)]at E;simp only[Xaf]at E;exact⟨eH.1 (iV E.1.1),eH.1 (iV E.1.2)⟩
structure PairB(N:Int)(q:Pair):Prop where
 a:0<=q.a/\q.a<N
 b:0<=q.b/\q.b<N
 ne:q.a≠q.b
theorem As{N:Int}{l:List Pair}{w:ByteArray}{s:Bool}(h:rT N l w s=[]):l.length<=16/\∀q∈l,PairB N q:=by
 unfold rT at h;rw[Xat]at h;have J:¬(l.length:Int)>16:=by simpa using cY h.1
 refine⟨by omega,fun q F=>?_⟩;obtain⟨i,hi,rfl⟩:=List.getElem_of_mem F;have:=Xbv.1 h.2 i (Xam.2 hi);unfold gK at this;have I:pAt l i=l[i]:=by simp[pAt,List.getD,hi]
 rw[I]at this;split at this
 . simp at this
 . rename_i E
   unfold Go.Proofs.YtohmomanmikphaaGreatDoor.lU at E;simp only[Xaf,decide_eq_false_iff_not]at E;exact⟨by omega,by omega,by simpa using E.2⟩
structure Acc(x:Instance):Prop where
 arcs:x.net.arcs.length<=1024
 arc:∀a∈x.net.arcs,ArcOk a
 types:1<=x.types.length/\x.types.length<=6
 type:∀t∈x.types,TypeB t (jI x.types)
 orders:x.orders.length<=10
 order:∀o∈x.orders,OrdB o (jI x.types)
 apart:x.apart.length<=16
 apartB:∀q∈x.apart,PairB x.orders.length q
 before:x.before.length<=16
 beforeB:∀q∈x.before,PairB x.orders.length q
theorem Lb{x:Instance}(h:qQ x=[]):Acc x:=by
 unfold qQ at h;simp only[Xat,Xbt]at h;obtain⟨⟨⟨E,I⟩,J⟩,F⟩:=h;unfold He at E;simp only[Xat]at E;unfold tR at I;rw[Xat]at I;unfold pR at J;rw[Xat]at J;unfold B5 at F;rw[Xat]at F;obtain⟨r1,Z⟩:=As F.1;obtain⟨X,V⟩:=As F.2;have e1:¬(x.net.arcs.length:Int)>1024:=by simpa using cY E.1.2
 have e2:=eH.1 (iV (cY I.1));have e3:¬(x.orders.length:Int)>10:=by simpa using cY J.1
 refine⟨by omega,fun a Y=>?_,by omega,fun t O=>?_,by omega,fun o U=>?_,r1,Z,X,V⟩
 . obtain⟨i,hi,rfl⟩:=List.getElem_of_mem Y
   exact FL (List.getElem?_eq_getElem hi) (Xbv.1 E.2 i (Xam.2 hi))
 . obtain⟨i,hi,rfl⟩:=List.getElem_of_mem O
   have:=Xbv.1 I.2 i (Xam.2 hi);unfold iM at this;rw[Xbt,HR (List.getElem?_eq_getElem hi)]at this;exact GA this
 . obtain⟨i,hi,rfl⟩:=List.getElem_of_mem U
   have:=Xbv.1 J.2 i (Xam.2 hi);unfold fY at this;rw[Xbt,CZ (List.getElem?_eq_getElem hi)]at this;exact LH this
end
namespace Nu
open Go.Proofs.Tryz(prog)
open Go.Aw Go.Aw.D Go.Proofs Ty Go.Nu
def vA(p:Nat->Bool):Nat->Nat
 | 0=>0
 | k+1=>vA p k+(if p k=true then 2^k else 0)
theorem G1(p:Nat->Bool):∀k,vA p k<2^k
 | 0=>by simp[vA]
 | k+1=>by have:=G1 p k;rw[vA,Xbj];split <;> omega
theorem Hq(p:Nat->Bool):∀k i,(vA p k).testBit i=(decide (i<k)&&p i)
 | 0,i=>by simp[vA]
 | k+1,i=>by
   have E:=G1 p k;have ih:=Hq p k i;rw[vA];have F:vA p k+(if p k=true then 2^k else 0)=vA p k ||| (if p k=true then 2^k else 0):=by
     split
     . rw[Nat.add_comm,Nat.or_comm];have:=Nat.two_pow_add_eq_or_of_lt E 1;simpa using this
     . simp
   rw[F,Nat.testBit_or,ih];by_cases h:p k=true
   . rw[if_pos h,Nat.testBit_two_pow]
     by_cases e:k=i
     . subst e;simp[h]
     . have:(decide (i<k+1))=decide (i<k):=by rw[Xas];simp;omega
       rw[this];simp[e]
   . rw[if_neg h]
     by_cases e:k=i
     . subst e;simp[h]
     . have:(decide (i<k+1))=decide (i<k):=by rw[Xas];simp;omega
       rw[this];simp
theorem anY{a k:Nat}(h:a<2^k):a ||| 2^k=a+2^k:=by
 rw[Nat.or_comm,Nat.add_comm];have:=Nat.two_pow_add_eq_or_of_lt h 1;simpa using this.symm
theorem HT{a b:Nat}(E:a<2^63)(F:b<2^63):vU .or .i64 (a:Int) (b:Int)=((a ||| b:Nat):Int):=by
 have h:((BitVec.ofInt 64 (a:Int) ||| BitVec.ofInt 64 (b:Int)).toNat:Int)=((a ||| b:Nat):Int):=by
   rw[BitVec.toNat_or,BitVec.toNat_ofInt,BitVec.toNat_ofInt];have h1:((a:Int)%((2^64:Nat):Int)).toNat=a:=by omega
   have I:((b:Int)%((2^64:Nat):Int)).toNat=b:=by omega
   rw[h1,I]
 refine Eq.trans (congrArg IntKind.i64.wrap h) ?_;have:=Nat.or_lt_two_pow E F;exact bH (by omega)
theorem Ig{i:Nat}(h:i<=62):shV .shl .i64 1 (i:Int)=((2^i:Nat):Int):=by
 show IntKind.i64.wrap (1*2^min ((i:Int)).toNat 64)=_;have:min ((i:Int)).toNat 64=i:=by omega
 rw[this,Int.one_mul];have F:(2:Nat)^i<=2^62:=Xav (by decide) h;have E:((2:Int)^i)=((2^i:Nat):Int):=by norm_cast
 rw[E];generalize 2^i=m at F;exact bH (by omega)
theorem kS{s:Nat}{i:Nat}(h1:i<=62):dE (s:Int) (i:Int)=s.testBit i:=by
 rw[Xcs];unfold dE;have E:((2:Int)^i)=((2^i:Nat):Int):=by norm_cast
 rw[Xaq,E];have:((s:Int)/((2^i:Nat):Int))=((s/2^i:Nat):Int):=rfl;rw[this];generalize s/2^i=m;rw[Xas];simp only[Xba,decide_eq_true_eq,Xak];omega
def EW(q:Order->Bool)(l:List Order)(i:Nat):Bool:=match l[i]? with|some o=> !o.off&&q o|none=>false
theorem adJ{q:Order->Bool}{l:List Order}{i:Nat}{o:Order}(h:l[i]?=some o):EW q l i=(!o.off&&q o):=by unfold EW;rw[h]
def Vi(q:Order->Bool)(l:List Order):Nat:=vA (EW q l) l.length
theorem anI{g:Nat}{q:Order->Bool}(x:Instance)(hx:x.orders.length<=62)(aa:aG prog g=true)(hg:∀o∈x.orders,PC prog g [.agg (bI o)] (boo (q o))):
   PC prog 211 [.agg (aD x),.v (.func (.func g) #[] #[])] (int (Vi q x.orders:Nat)):=by
 refine pcd Tryz.func211 ?_;unfold Tryz.f211;simp only[gdS];simp only[go_sem];unfold Vi;generalize hp:EW q x.orders=p;refine⟨fun ρ H=>∃(k:Nat),k<=x.orders.length/\ρ 1=.v (.func (.func g) #[] #[])/\ρ 9=.sl (x.orders.map bI)/\ρ 10=int (x.orders.length:Nat)/\ρ 11=int k/\ρ 5=int (vA p k:Nat),fun ρ _=>x.orders.length-aV (ρ 11),⟨0,Xab _,by simp only[go_sem],by simp only[go_sem],by simp only[go_sem,Xaa],(by simp only[go_sem];rfl),by simp only[go_sem];rfl⟩,?_⟩;rintro ρ H ⟨k,hk,U,O,F,E,J⟩;simp only[go_sem,U,O,F,E,J];refine aB (fun I=>?_) (fun V=>?_)
 . have I:=ltB I
   obtain⟨o,Y⟩:=aN I;have b1:=inB I;have X:p k=(!o.off&&q o):=by rw[<-hp];exact adJ Y
   have ab:=G1 p k;have ac:2^k<=2^62:=Xav (by decide) (by omega);simp only[go_sem,U,O,F,E,J,aC Y,b1];refine aL fun j hj=>?_
   simp only[go_sem,U,O,F,E,J,aC Y,b1];refine aH (aA _ _ _) (by simp[bI]) ?_;simp only[go_sem,U,O,F,E,J,aC Y,b1,aa];refine⟨_,fun _=>(hg o (Xac Y)).q rfl,?_⟩;simp only[go_sem,U,O,F,E,J];refine aB (fun Z=>?_) (fun Z=>?_)
   . have q1:=Ig (i:=k) (by omega)
     have q2:=HT (a:=vA p k) (b:=2^k) (by omega) (by omega);simp only[go_sem,U,O,F,E,J,q1,q2,aT (show k<=4611686018427387904 by omega)];refine⟨by omega,⟨k+1,I,rfl,?_⟩,by simp only[aE];omega⟩;rw[anY ab,vA,X,if_pos Z]
   . simp only[go_sem,U,O,F,E,J,aT (show k<=4611686018427387904 by omega)]
     refine⟨⟨k+1,I,rfl,?_⟩,by simp only[aE];omega⟩;rw[vA,X,if_neg (by rw[Z];simp),Nat.add_zero]
 . have V:=geB hk V
   subst V;simp only[go_sem,U,O,F,E,J];exact .refl _
def Is(x:Instance):Nat:=Vi (fun _=>true) x.orders
def aBA(x:Instance):Nat:=Vi (fun o=>o.penalty == -1) x.orders
theorem apK(o:Order):PC prog 219 [.agg (bI o)] (boo true):=by
 refine pcd Tryz.func219 ?_;unfold Tryz.f219;simp only[gdS];simp only[go_sem];exact .refl _
theorem amJ(x:Instance)(E:x.orders.length<=62):PC prog 156 [.agg (aD x)] (int (Is x:Nat)):=by
 refine pcd Tryz.func156 ?_;unfold Tryz.f156;simp only[gdS];simp only[go_sem];refine PC.use (anI x E (by kernel_rfl) fun o _=>apK o) ?_;simp only[go_sem];exact .refl _
def Mt(n:Nat)(set:Int):Bool:=decide (set>=0)&&(set/2^n == 0)
end Nu
namespace Nu
open Go.Aw Go.Aw.D Go.Proofs Ty Go.Nu
def Ml(l:List Order)(i:Int):Order:=l.getD i.toNat ⟨ByteArray.empty,[],⟨0,0,0,0⟩,⟨0,0,0,0⟩,0,0,0,0,0,false⟩
def togP(x:Instance)(ms:List Int):Bool:= !(ms.any fun i=>decide ((Ml x.orders i).pick.place>=0))|| !(ms.any fun i=>decide ((Ml x.orders i).drop.place>=0))
def Sk:List Int->List Int->Int->Int×Int
 | n::a,c::l,t=>if n<=0 then Sk a l t else if c=0 then(0,24)else Sk a l (fP t ((n+c-1).tdiv c))
 | _,_,t=>(t,0)
def Zg(a c:List Int):Int×Int:=if a.length≠c.length then(0,2)else if c.any (fun n=>decide (n<0))=true then(0,2)else Sk a c 0
def aoQ(l:List Order)(dim:Nat)(i:Int):Int:=(Ml l i).load.getD dim 0
def Um(l:List Order)(ms:List Int)(dim:Nat):Int:=(ms.map (aoQ l dim)).sum
def Yh(l:List VType)(dim:Nat):Int:=l.foldl (fun c t=>fP c (t.cap.getD dim 0)) 0
def amY(x:Instance)(ms:List Int)(dim:Nat):Int:=if(Zg [Um x.orders ms dim] [Yh x.types dim]).2≠0 then 0 else(Zg [Um x.orders ms dim] [Yh x.types dim]).1
structure LoadsOk(x:Instance)(d:Nat):Prop where
 dims:d<=3
 orders:x.orders.length<=62
 types:x.types.length<=1048576
 load:∀o∈x.orders,o.load.length=d/\∀n∈o.load,0<=n/\n<=1000
 cap:∀t∈x.types,t.cap.length=d/\∀n∈t.cap,0<=n/\n<=1000
def dimF(x:Instance)(ms:List Int)(k:Nat):Int:=(List.range k).foldl (fun n dim=>fP n (amY x ms dim)) 1
def aA6(x:Instance)(set:Int):Bool:=decide (set<=0)|| !Mt x.orders.length set|| !decide (set.toNat &&& aBA x=set.toNat)
def apY(x:Instance)(d:Nat)(set:Int):Int:=if aA6 x set=true then 0 else if togP x (gZ set)=false then 1 else dimF x (gZ set) d
def GF(x:Instance)(d:Nat)(one:Cut):Int:=
 if one.kind=1 then(if(!Mt x.orders.length one.set|| !((Cu 63 one.set.toNat:Nat):Int) == 3)=true then 2 else if one.n≠1 then 27 else 0)
 else if one.kind=2 then(if(!Mt x.orders.length one.set||one.set == 0)=true then 2 else if(decide (one.n<1)||decide (one.n>apY x d one.set))=true then 27 else 0)
 else 8
def Tn(one:Cut):Int×Int:=if one.kind=1 then(1,1)else if one.kind=2 then(3,one.n)else(0,0)
def hU(l:List Int):List AV:=[.sl (l.map bW)]
def oH(ll:List (List Int))(d:Int):Bool:= !(decide (d<0)||decide (d>3))&&ll.all fun l=> !((l.length:Int) != d)
def uF(ll:List (List Int))(i:Nat):Int:=ll.foldl (fun s l=>IntKind.i64.wrap (s+l.getD i 0)) 0
def Hz(ll:List (List Int))(d:Int):List Int×Int:=if oH ll d=true then((List.range d.toNat).map (uF ll),0)else([],2)
end Nu
namespace Nu
open Go.Aw Go.Aw.D Go.Proofs Ty Go.Nu Go.So
structure Broken where
 cut:Cut
 by_:ByteArray
def KS(x:Broken):List AV:=[.v (.int .i64 x.cut.kind),.v (.int .i64 x.cut.set),.v (.int .i64 x.cut.n),.v (.string x.by_)]
abbrev uH(gf:Nat):AV:=.v (.func (.func gf) #[] #[])
end Nu
namespace Nu
open Go.Proofs.Tryz(prog)
open Go.Aw Go.Aw.D Go.Proofs Ty Go.Nu Go.So
abbrev TB:=Broken×Nat
def fs(L:List TB):List Broken:=L.map Prod.fst
structure CmpOk(gf:Nat)(lt:Broken->Broken->Bool)(ok:Broken->Prop):Prop where
 call:aG Tryz.prog gf=true
 cmp:∀x y,ok x->ok y->∃n:Int,decide (n<0)=lt x y/\PC Tryz.prog gf [.agg (KS x),.agg (KS y)] (int n)
end Nu
namespace Nu
open Go.Aw Go.Aw.D Go.Proofs Ty Go.Nu Go.So
section
variable{gf:Nat}{lt:Broken->Broken->Bool}{ok:Broken->Prop}
end
end Nu
namespace Nu
open Go.Aw Go.Aw.D Go.Proofs Ty Go.Nu Go.So
section
variable{gf:Nat}{lt:Broken->Broken->Bool}{ok:Broken->Prop}
end
end Nu
namespace Dec
open Go.Proofs.Tryz(prog)
open Go.Aw Go.Aw.D Go.Proofs Ty
theorem bJ{H:aK}{k:IntKind}{a b:Int}(h:a=b):Conv H (.v (.int k a)) (.v (.int k b)):=h▸.refl _
theorem bR{H:aK}{a b:Bool}(h:a=b):Conv H (.v (.bool a)) (.v (.bool b)):=h▸.refl _
def tK(x:Instance)(n:Int):Bool:=decide (n>=0)&&decide (n<(x.orders.length:Int))
theorem C2(x:Instance)(n:Int):PC prog 122 [.agg (aD x),int n] (boo (tK x n)):=by
 refine pcd Tryz.func122 ?_;unfold Tryz.f122;simp only[gdS];simp only[go_sem];exact .refl _
theorem Gg(x:Instance)(n:Int):PC prog 115 [int n,.rp (aD x) 0] (boo (tK x n)):=by
 refine pcd Tryz.func115 ?_;unfold Tryz.f115;simp only[gdS];simp only[go_sem];exact .refl _
def dT(x:Instance)(d:Decision):Int:=
 if d.kind=1\/d.kind=2 then(if tK x d.a&&tK x d.b&&d.a != d.b then 0 else 2)
 else if d.kind=5\/d.kind=6 then(if tK x d.a then 0 else 2)
 else if d.kind=3\/d.kind=4 then(if decide (d.a>=0)&&decide (d.a<(x.types.length:Int))&&decide (d.n>=0)&&decide (d.n<=10)then 0 else 2)
 else 8
theorem LK(x:Instance)(d:Decision):PC prog 66 [.agg (aD x),.agg (bE d)] (int (dT x d)):=by
 refine pcd Tryz.func66 ?_;unfold Tryz.f66;simp only[gdS];simp only[go_sem]
 repeat' (first|(refine PC.use (Gg _ _) ?_)|(refine⟨_,fun _=>PC.q (Gg _ _) rfl,?_⟩)|(refine⟨_,PC.q (Gg _ _) rfl,?_⟩)|(refine aB (fun E=>?_) (fun E=>?_))|(simp only[go_sem]))
 all_goals (refine bJ ?_;(try unfold dT);generalize tK x d.a=p at *;generalize tK x d.b=q at *;cases p <;> cases q <;> simp_all <;> (try omega))
theorem Nj(x:Instance)(d:Decision):PC prog 70 [.agg (aD x),.agg (bE d)] (int (dT x d)):=by
 refine pcd Tryz.func70 ?_;unfold Tryz.f70;simp only[gdS];simp only[go_sem]
 repeat' (first|(refine PC.use (C2 _ _) ?_)|(refine⟨_,fun _=>PC.q (C2 _ _) rfl,?_⟩)|(refine⟨_,PC.q (C2 _ _) rfl,?_⟩)|(refine aB (fun E=>?_) (fun E=>?_))|(simp only[go_sem]))
 all_goals (refine bJ ?_;(try unfold dT);generalize tK x d.a=p at *;generalize tK x d.b=q at *;cases p <;> cases q <;> simp_all <;> (try omega))
def iB:List Int->Int
 | []=>0
 | e::r=>if e != 0 then e else iB r
theorem xS{l:List Int}{k:Nat}{e:Int}(h:∀e∈l.take k,e=0)(E:l[k]?=some e)(I:(e != 0)=true):iB l=e:=by
 induction l generalizing k with
 | nil=>simp at E
 | cons a r ih=>
   cases k with
   | zero=>simp at E;subst E;simp only[iB];rw[if_pos I]
   | succ k=>
     have h0:=h a (by simp);subst h0;simp only[iB];exact ih (k:=k) (fun e F=>h e (by simp[F])) (by simpa using E)
theorem vY{l:List Int}(h:∀e∈l,e=0):iB l=0:=by
 induction l with
 | nil=>rfl
 | cons a r ih=>have h0:=h a (by simp);subst h0;simp only[iB];exact ih fun e E=>h e (by simp[E])
theorem vS{l:List Int}(h:iB l=0):∀e∈l,e=0:=by
 induction l with
 | nil=>simp
 | cons a r ih=>
   simp only[iB]at h;split at h
   . rename_i E;simp at E;exact absurd h E
   . rename_i E;simp at E;intro e F;rcases Xbe.1 F with rfl|F;exact E;exact ih h e F
def mP(x:Instance)(l:List Decision):Int:=if decide ((l.length:Int)>1024)then 4 else iB (l.map (dT x))
theorem amD(x:Instance)(l:List Decision)(hl:l.length<=1048576):PC prog 35 [.agg (aD x),.sl (l.map bE)] (int (mP x l)):=by
 refine pcd Tryz.func35 ?_;unfold Tryz.f35;simp only[gdS];simp only[go_sem];refine aB (fun O=>?_) (fun O=>?_)
 . simp only[go_sem]
   exact bJ (by unfold mP;rw[if_pos O])
 . have hc:mP x l=iB (l.map (dT x)):=by unfold mP;rw[if_neg (by rw[O];simp)]
   rw[hc];simp only[go_sem];refine⟨fun ρ _=>∃k:Nat,k<=l.length/\ρ 2=.rp (aD x) 0/\ρ 11=.sl (l.map bE)/\ρ 12=int l.length/\ρ 13=int k/\∀e∈(l.map (dT x)).take k,e=0,fun ρ _=>l.length-aV (ρ 13),⟨0,Xab _,rfl,rfl,rfl,rfl,by simp⟩,?_⟩;rintro ρ H ⟨k,hk,V,I,F,E,Z⟩;simp only[go_sem,V,I,F,E];refine aB (fun J=>?_) (fun U=>?_)
   . have J:=aQ J
     obtain⟨d,Y⟩:=aN J;have b1:=inB J;simp only[go_sem,V,I,F,E,aC Y,b1];refine aL fun j hj=>?_
     simp only[go_sem,V,I,F,E,aC Y,b1];refine aH (aA _ _ _) (by simp[nY]) ?_;simp only[go_sem,V,I,F,E,aC Y,b1];refine PC.use (LK x d) ?_;simp only[go_sem,V,I,F,E];refine aB (fun O=>?_) (fun O=>?_)
     . simp only[go_sem]
       exact bJ (xS Z (by simp[Y]) O).symm
     . simp only[go_sem,V,I,F,E,aT (show k<=4611686018427387904 by omega)]
       refine⟨⟨k+1,J,rfl,?_⟩,by simp only[aE];omega⟩;rw[bQ (x:=dT x d) (by simp[Y])];intro e X;rcases Xau.1 X with X|X
       . exact Z e X
       . simp at X;subst X;simpa using O
   . have U:=aR hk U
     subst U;simp only[go_sem];exact bJ (vY (by rw[Xap (by simp)]at Z;exact Z)).symm
theorem agU(x:Instance)(l:List Decision)(hl:l.length<=1048576):PC prog 40 [.agg (aD x),.sl (l.map bE)] (int (mP x l)):=by
 refine pcd Tryz.func40 ?_;unfold Tryz.f40;simp only[gdS];simp only[go_sem];refine aB (fun F=>?_) (fun F=>?_)
 . simp only[go_sem]
   exact bJ (by unfold mP;rw[if_pos F])
 . have hc:mP x l=iB (l.map (dT x)):=by unfold mP;rw[if_neg (by rw[F];simp)]
   rw[hc];simp only[go_sem];refine⟨fun ρ _=>∃k:Nat,k<=l.length/\ρ 2=.rp (aD x) 0/\ρ 1=.sl (l.map bE)/\ρ 5=int k/\∀e∈(l.map (dT x)).take k,e=0,fun ρ _=>l.length-aV (ρ 5),⟨0,Xab _,rfl,rfl,rfl,by simp⟩,?_⟩;rintro ρ H ⟨k,Z,U,h1,V,O⟩;simp only[go_sem,U,h1,V];refine aB (fun E=>?_) (fun I=>?_)
   . have E:=aQ E
     obtain⟨d,X⟩:=aN E;have Y:=inB E;simp only[go_sem];refine cN (by rfl) (by kernel_rfl) ?_;simp only[go_sem,U,h1,V,aC X,Y];refine⟨_,(Nj x d).q rfl,?_⟩;simp only[go_sem,U,h1,V];refine aB (fun F=>?_) (fun F=>?_)
     . simp only[go_sem]
       exact bJ (xS O (by simp[X]) F).symm
     . simp only[go_sem,U,h1,V,aT (show k<=4611686018427387904 by omega)]
       refine⟨⟨k+1,E,rfl,?_⟩,by simp only[aE];omega⟩;rw[bQ (x:=dT x d) (by simp[X])];intro e J;rcases Xau.1 J with J|J
       . exact O e J
       . simp at J;subst J;simpa using F
   . have I:=aR Z I
     subst I;simp only[go_sem];exact bJ (vY (by rw[Xap (by simp)]at O;exact O)).symm
theorem TC(x:Int):vU .and .i64 x 1=x%2:=by
 have h:((BitVec.ofInt 64 x &&& BitVec.ofInt 64 1).toNat:Int)=x%2:=by
   rw[BitVec.toNat_and,BitVec.toNat_ofInt,BitVec.toNat_ofInt];have:((1:Int)%((2^64:Nat):Int)).toNat=1:=by decide
   rw[this,Nat.and_one_is_mod];omega
 refine Eq.trans (congrArg IntKind.i64.wrap h) ?_;exact bH (by omega)
theorem tT{x:Int}{i:Nat}(h:i<=62):shV .shr .i64 x (i:Int)=x/2^i:=by
 show x.fdiv (2^min ((i:Int)).toNat 64)=_;have:min ((i:Int)).toNat 64=i:=by omega
 rw[this,Int.fdiv_eq_ediv_of_nonneg _ (by exact Int.le_of_lt (Int.pow_pos (by decide)))]
def dE(set i:Int):Bool:=decide (i>=0)&&decide (i<=62)&&((set/2^i.toNat)%2 == 1)
theorem EC(set i:Int):PC prog 121 [int set,int i] (boo (dE set i)):=by
 refine pcd Tryz.func121 ?_;unfold Tryz.f121;simp only[gdS];simp only[go_sem];refine⟨fun h=>?_,?_⟩
 . simp at h;omega
 . refine bR ?_
   unfold dE;rw[TC];by_cases h:0<=i/\i<=62
   . obtain⟨h0,h1⟩:=h
     have e:=tT (x:=set) (i:=i.toNat) (by omega);rw[Int.toNat_of_nonneg h0]at e;rw[e]
   . have:(decide (i>=0)&&decide (i<=62))=false:=by simp;omega
     rw[this];rfl
def lQ(set i:Int):Bool:=(set/2^i.toNat)%2 == 1
theorem nW(set i:Int)(V:0<=set)(Y:set<=9223372036854775807)(hi:i<=9223372036854775807):PC prog 83 [int set,int i] (boo (lQ set i)):=by
 refine pcd Tryz.func83 ?_;unfold Tryz.f83;simp only[gdS];simp only[go_sem];refine⟨fun ρ _=>∃k:Nat,(k:Int)<=max i 0/\ρ 1=int i/\ρ 5=int k/\ρ 0=int (set/2^k),fun ρ _=>i.toNat-aV (ρ 5),⟨0,by omega,rfl,rfl,by simp[DH,upd]⟩,?_⟩;rintro ρ H ⟨k,Z,h1,J,h0⟩;have E:0<=set/2^k:=Int.ediv_nonneg V (Int.le_of_lt (Int.pow_pos (by decide)));simp only[go_sem,h1,J,h0];refine aB (fun I=>?_) (fun F=>?_)
 . have I:(k:Int)<i:=by simpa using I
   have X:IntKind.i64.wrap ((k:Int)+1)=((k+1:Nat):Int):=by rw[bH (by omega)];omega
   simp only[go_sem,h1,J,h0,X,aE];refine⟨by omega,⟨k+1,by omega,rfl,?_⟩,by omega⟩;rw[Xbx E,Int.pow_succ,<-Int.ediv_ediv_of_nonneg (Int.le_of_lt (Int.pow_pos (by decide)))];have U:set/2^k<=set:=Int.ediv_le_self _ V;generalize set/2^k=m at E U;exact congrArg (fun z=>AV.v (Value.int .i64 z)) (bH (by omega))
 . have F:i<=(k:Int):=by simpa using F
   have O:k=i.toNat:=by omega
   subst O;simp only[go_sem,h1,J,h0];refine⟨by omega,bR ?_⟩;rw[Xch E];rfl
def eY(d:Decision)(set:Int):Bool:=
 if d.kind=1 then dE set d.a == dE set d.b else if d.kind=2 then !dE set d.a|| !dE set d.b else if d.kind=6 then !dE set d.a else true
theorem ZF(d:Decision)(set:Int):PC prog 69 [.agg (bE d),int set] (boo (eY d set)):=by
 refine pcd Tryz.func69 ?_;unfold Tryz.f69;simp only[gdS];simp only[go_sem];refine cN (by rfl) (by kernel_rfl) ?_
 repeat' (first|(refine PC.use (EC _ _) ?_)|(refine⟨_,fun _=>PC.q (EC _ _) rfl,?_⟩)|(refine⟨_,PC.q (EC _ _) rfl,?_⟩)|(refine aB (fun E=>?_) (fun E=>?_))|(simp only[go_sem]))
 all_goals (refine bR ?_;unfold eY;simp_all)
def dY(d:Decision)(set:Int):Bool:=
 if d.kind=1 then lQ set d.a != lQ set d.b else if d.kind=2 then lQ set d.a&&lQ set d.b else if d.kind=6 then lQ set d.a else false
def uG(d:Decision):Prop:=Be 0 d
theorem V9(d:Decision)(set:Int)(U:uG d)(I:0<=set)(E:set<=9223372036854775807):PC prog 48 [.agg (bE d),int set] (boo (dY d set)):=by
 have J:d.a<=9223372036854775807:=U.2.1.2;have F:d.b<=9223372036854775807:=U.2.2.1.2;refine pcd Tryz.func48 ?_;unfold Tryz.f48;simp only[gdS];simp only[go_sem];refine aB (fun O=>?_) (fun O=>?_)
 . simp only[go_sem]
   refine cN (by rfl) (by kernel_rfl) ?_
   repeat' (first|(refine PC.use (nW _ _ I E J) ?_)|(refine⟨_,fun _=>PC.q (nW _ _ I E J) rfl,?_⟩)|(refine⟨_,PC.q (nW _ _ I E J) rfl,?_⟩)|(refine PC.use (nW _ _ I E F) ?_)|(refine⟨_,fun _=>PC.q (nW _ _ I E F) rfl,?_⟩)|(refine⟨_,PC.q (nW _ _ I E F) rfl,?_⟩)|(refine aB (fun O=>?_) (fun O=>?_))|(simp only[go_sem]))
   all_goals (refine bR ?_;unfold dY;generalize lQ set d.a=p at *;generalize lQ set d.b=q at *;cases p <;> cases q <;> simp_all)
 . simp only[go_sem]
   repeat' (first|(refine PC.use (nW _ _ I E J) ?_)|(refine⟨_,fun _=>PC.q (nW _ _ I E J) rfl,?_⟩)|(refine⟨_,PC.q (nW _ _ I E J) rfl,?_⟩)|(refine PC.use (nW _ _ I E F) ?_)|(refine⟨_,fun _=>PC.q (nW _ _ I E F) rfl,?_⟩)|(refine⟨_,PC.q (nW _ _ I E F) rfl,?_⟩)|(refine aB (fun O=>?_) (fun O=>?_))|(simp only[go_sem]))
   all_goals (refine bR ?_;unfold dY;generalize lQ set d.a=p at *;generalize lQ set d.b=q at *;cases p <;> cases q <;> simp_all)
def rG(p:Decision->Bool)(l:List Decision):Bool:=l.all p
theorem uQ{α:Type}{p:α->Bool}{l:List α}{k:Nat}{x:α}(F:l[k]?=some x)(E:p x=false):l.all p=false:=by
 rw[List.all_eq_false];exact⟨x,Xac F,by simp[E]⟩
theorem AE{α:Type}{p:α->Bool}{l:List α}(h:∀x∈l.take l.length,p x=true):l.all p=true:=by
 rw[Xag]at h;rw[Xaj];exact h
theorem tV{α:Type}{p:α->Bool}{l:List α}{k:Nat}{x:α}(F:l[k]?=some x)(I:p x=true)(h:∀x∈l.take k,p x=true):∀x∈l.take (k+1),p x=true:=by
 rw[bQ F];intro y E;rcases Xau.1 E with E|E
 . exact h y E
 . simp at E;subst E;exact I
theorem aM{α:Type}{p:α->Prop}{l:List α}{k:Nat}{x:α}(F:l[k]?=some x)(I:p x)(h:∀x∈l.take k,p x):∀x∈l.take (k+1),p x:=by
 rw[bQ F];intro y E;rcases Xau.1 E with E|E
 . exact h y E
 . simp at E;subst E;exact I
theorem Zk(l:List Decision)(c:Column)(hl:l.length<=1048576):PC prog 39 [.sl (l.map bE),.agg (aU c)] (boo (l.all fun d=>eY d c.set)):=by
 refine pcd Tryz.func39 ?_;unfold Tryz.f39;simp only[gdS];simp only[go_sem];refine⟨fun ρ _=>∃k:Nat,k<=l.length/\ρ 3=.rp (aU c) 0/\ρ 7=.sl (l.map bE)/\ρ 8=int l.length/\ρ 9=int k/\∀d∈l.take k,eY d c.set=true,fun ρ _=>l.length-aV (ρ 9),⟨0,Xab _,rfl,rfl,rfl,rfl,by simp⟩,?_⟩;rintro ρ H ⟨k,hk,J,O,U,I,Z⟩;simp only[go_sem,J,O,U,I];refine aB (fun E=>?_) (fun F=>?_)
 . have E:=aQ E
   obtain⟨d,V⟩:=aN E;have Y:=inB E;simp only[go_sem,J,O,U,I,aC V,Y];refine aL fun j hj=>?_
   simp only[go_sem,J,O,U,I,aC V,Y];refine aH (aA _ _ _) (by simp[nY]) ?_;simp only[go_sem,J,O,U,I,aC V,Y];refine PC.use (ZF d _) ?_;simp only[go_sem,J,O,U,I];refine aB (fun X=>?_) (fun X=>?_)
   . simp only[go_sem]
     exact bR (uQ V (by simpa using X)).symm
   . simp only[go_sem,J,O,U,I,aT (show k<=4611686018427387904 by omega)]
     exact⟨⟨k+1,E,rfl,tV V (by simpa using X) Z⟩,by simp only[aE];omega⟩
 . have F:=aR hk F
   subst F;simp only[go_sem];exact bR (AE Z).symm
theorem Qq(l:List Decision)(c:Column)(hl:l.length<=1048576)(U:∀d∈l,uG d)(Z:0<=c.set)(V:c.set<=9223372036854775807):PC prog 21 [.sl (l.map bE),.agg (aU c)] (boo (l.all fun d=> !dY d c.set)):=by
 refine pcd Tryz.func21 ?_;unfold Tryz.f21;simp only[gdS];simp only[go_sem];refine⟨fun ρ _=>∃k:Nat,k<=l.length/\ρ 3=.rp (aU c) 0/\ρ 0=.sl (l.map bE)/\ρ 5=int k/\∀d∈l.take k,dY d c.set=false,fun ρ _=>l.length-aV (ρ 5),⟨0,Xab _,rfl,rfl,rfl,by simp⟩,?_⟩;rintro ρ H ⟨k,hk,X,h0,O,Y⟩;simp only[go_sem,X,h0,O];refine aB (fun E=>?_) (fun F=>?_)
 . have E:=aQ E
   obtain⟨d,I⟩:=aN E;have b1:=inB E;simp only[go_sem];refine cN (by rfl) (by kernel_rfl) ?_;simp only[go_sem,X,h0,O,aC I,b1];refine⟨_,(V9 d _ (U d (Xac I)) Z V).q rfl,?_⟩;refine aB (fun J=>?_) (fun J=>?_)
   . simp only[go_sem]
     exact bR (uQ (p:=fun d=> !dY d c.set) I (by simpa using J)).symm
   . simp only[go_sem,X,h0,O,aT (show k<=4611686018427387904 by omega)]
     exact⟨⟨k+1,E,rfl,aM (p:=fun d=>dY d c.set=false) I (by simpa using J) Y⟩,by simp only[aE];omega⟩
 . have F:=aR hk F
   subst F;simp only[go_sem];exact bR (AE fun d I=>by rw[Y d I];rfl).symm
end Dec
namespace Sq
open Go.Proofs.Tryz(prog)
open Go.Aw Go.Aw.D Go.Proofs Ty
open Go.Proofs.YtohmomanmikphaaGreatDoor.Nu (ltB geB)
open Mv (bJ bR aM)
def lH(x:Instance)(i:Int):List Visit:=match x.orders[i.toNat]? with|some o=>cG o i|none=>[]
theorem AY(x:Instance)(i:Int):(lH x i).length<=2:=by
 unfold lH;split
 . unfold cG
   rw[Xae];split <;> split <;> simp
 . exact Xab _
theorem UZ(x:Instance)(i:Int)(hi:0<=i/\i<(x.orders.length:Int)):PC prog 249 [.agg (aD x),int i] (.sl ((lH x i).map aJ)):=by
 obtain⟨o,E⟩:=aN (show i.toNat<x.orders.length by omega);have:=GV x i o hi E;unfold lH;rw[E];exact this
def DD(x:Instance)(o:Int)(l:List Visit)(q:Pair):Bool:=q.b == o&&((decide (q.a<0)||decide (q.a>=(x.orders.length:Int)))|| !gJ l (lH x q.a))
def rB(x:Instance)(o:Int)(l:List Visit):Bool:= !x.before.any (DD x o l)
theorem Xg(x:Instance)(o:Int)(l:List Visit)(hl:l.length<=1048576)(hb:x.before.length<=1048576):PC prog 248 [.agg (aD x),int o,.sl (l.map aJ)] (boo (rB x o l)):=by
 refine pcd Tryz.func248 ?_;unfold Tryz.f248;simp only[gdS];simp only[go_sem];refine⟨fun ρ H=>∃(k:Nat),k<=x.before.length/\ρ 1=int o/\ρ 2=.sl (l.map aJ)/\ρ 3=.rp (aD x) 0/\ρ 7=int k/\(∀q∈x.before.take k,DD x o l q=false),fun ρ _=>x.before.length-aV (ρ 7),⟨0,Xab _,by simp only[go_sem],by simp only[go_sem],by simp only[go_sem],(by simp only[go_sem];rfl),by simp⟩,?_⟩;rintro ρ H ⟨k,hk,X,V,J,O,Y⟩;simp only[go_sem,X,V,J,O];refine aB (fun E=>?_) (fun F=>?_)
 . have E:=ltB (by simpa using E)
   obtain⟨q,U⟩:=aN E;have b1:=inB E;have Z:=AY x q.a;simp only[go_sem,X,V,J,O,aC U,b1];refine⟨by decide,by decide,.nf (.sl ((lH x q.a).map aJ)),fun h=>(UZ x q.a (by
     have:=h.2;simp only[Xaf,decide_eq_false_iff_not]at this;omega)).qn,?_⟩
   simp only[go_sem,X,V,J,O];refine⟨boo (gJ l (lH x q.a)),fun _=>(Cv l (lH x q.a) hl (by omega)).q rfl,?_⟩;simp only[go_sem,X,V,J,O];refine aB (fun I=>?_) (fun I=>?_)
   . have I:DD x o l q=true:=I
     simp only[go_sem];refine bR ?_;unfold rB;rw[Xan.2 ⟨q,Xac U,I⟩];rfl
   . have I:DD x o l q=false:=I
     simp only[go_sem,X,V,J,O,aT (show k<=4611686018427387904 by omega)];exact⟨⟨k+1,E,rfl,aM (p:=fun q=>DD x o l q=false) U I Y⟩,by simp only[aE];omega⟩
 have F:=geB hk (by simpa using F);subst F;rw[Xag]at Y;simp only[go_sem];refine bR ?_;unfold rB;rw[Xay.2 (fun q U=>by rw[Y q U];simp)];rfl
def DG(a b:Visit):Bool:=decide (a.order<b.order)||((a.order == b.order&& !a.drop)&&b.drop)
theorem Wf(a b:Visit):PC prog 293 [.agg (aJ a),.agg (aJ b)] (boo (DG a b)):=by
 refine pcd Tryz.func293 ?_;unfold Tryz.f293;simp only[gdS];simp only[go_sem];exact .refl _
def Al(l V:List Visit)(k:Nat):List Visit:=match V[k]? with
 | some v=>if(decide (bD l v<0)&&((k:Int) == 0||decide (bD l (V.getD 0 ⟨0,false⟩)>=0)))=true then[v]else[]
 | none=>[]
def BA(l V:List Visit)(m:Nat):List Visit:=(List.range m).flatMap (Al l V)
def Ik(x:Instance)(set:Int)(l:List Visit)(i:Nat):Bool:=(!pP set i||Li x i)|| !rB x i l
def wS(x:Instance)(set:Int)(l:List Visit)(i:Nat):List Visit:=if Ik x set l i=true then[]else BA l (lH x i) (lH x i).length
def rN(x:Instance)(set:Int)(l:List Visit)(k:Nat):List Visit:=(List.range k).flatMap (wS x set l)
def vZ(x:Instance)(set:Int)(l:List Visit):List Visit:=rN x set l x.orders.length
theorem Hg(l V:List Visit)(m:Nat):BA l V (m+1)=BA l V m++Al l V m:=by
 unfold BA;rw[Xbg,Xbu];simp
theorem BD(x:Instance)(set:Int)(l:List Visit)(k:Nat):rN x set l (k+1)=rN x set l k++wS x set l k:=by
 unfold rN;rw[Xbg,Xbu];simp
theorem WT(l V:List Visit)(k:Nat):(Al l V k).length<=1:=by
 unfold Al;split
 . split <;> simp
 . simp
theorem DO(l V:List Visit):∀m,(BA l V m).length<=m
 | 0=>Xah _
 | m+1=>by
   rw[Hg,Xae];have:=DO l V m;have:=WT l V m;omega
theorem yD(x:Instance)(set:Int)(l:List Visit):∀k,(rN x set l k).length<=2*k
 | 0=>Xah _
 | k+1=>by
   rw[BD,Xae];have:=yD x set l k;have E:(wS x set l k).length<=2:=by
     unfold wS;split
     . simp
     . exact Xal (DO _ _ _) (AY _ _)
   omega
theorem Yc(x:Instance)(set:Int)(l:List Visit)(hl:l.length<=1048576)(hb:x.before.length<=1048576)(hx:x.orders.length<=100000):PC prog 195 [.agg (aD x),int set,.sl (l.map aJ)] (.sl ((vZ x set l).map aJ)):=by
 refine pcb (fun t=>t == 7) Tryz.func195 ?_;unfold Tryz.f195;simp only[gdS];simp only[go_sem];refine aL fun j af=>?_
 generalize ae:aI _ j _=HGj;have R:HGj j=some (IR []):=by rw[<-ae,aA];try rfl
 clear ae af;simp only[go_sem,R];refine⟨fun ρ H=>∃(k:Nat) (j:Nat),k<=x.orders.length/\ρ 1=int set/\ρ 2=.sl (l.map aJ)/\ρ 3=.rp (aD x) 0/\ρ 8=int k/\ρ 7=.os j/\H j=some (IR (rN x set l k)),fun ρ _=>x.orders.length-aV (ρ 8),⟨0,j,Xab _,by simp only[go_sem],by simp only[go_sem],by simp only[go_sem],(by simp only[go_sem];rfl),by simp only[go_sem],R⟩,?_⟩;rintro ρ H ⟨k,j,hk,O,J,E,F,I,R⟩;simp only[go_sem,O,J,E,F,I];refine aB (fun X=>?_) (fun ad=>?_)
 . have X:=ltB (by simpa using X)
   obtain⟨o,ho⟩:=aN X;have b1:=inB X;have hs:=BD x set l k;have ak:=yD x set l k;have ah:Li x k=o.off:=by unfold Li;rw[ho]
   have ag:Ik x set l k=((!pP set k||o.off)|| !rB x k l):=by unfold Ik;rw[ah]
   have hA:wS x set l k=if Ik x set l k=true then[]else BA l (lH x (k:Nat)) (lH x (k:Nat)).length:=rfl
   rw[hA,ag]at hs;generalize rN x set l k=L at *;simp only[go_sem,O,J,E,F,I];refine PC.use (A4 set (k:Nat)) ?_;simp only[go_sem,O,J,E,F,I,aC ho,b1];refine⟨boo (rB x (k:Nat) l),fun _=>(Xg x (k:Nat) l hl hb).q rfl,?_⟩;simp only[go_sem,O,J,E,F,I];refine aB (fun hc=>?_) (fun hc=>?_)
   . rw[if_pos hc,Xai]at hs
     simp only[go_sem,O,J,E,F,I,aT (show k<=4611686018427387904 by omega)];refine⟨⟨k+1,j,X,rfl,rfl,?_⟩,by simp only[aE];omega⟩;rw[hs];exact R
   rw[if_neg (by rw[hc];simp)]at hs;simp only[go_sem,O,J,E,F,I];refine PC.use (UZ x (k:Nat) (by omega)) ?_;have hV:=AY x (k:Nat);generalize lH x (k:Nat)=V at *;simp only[go_sem,O,J,E,F,I,Xaa];refine⟨fun ρ H=>∃m j:Nat,m<=V.length/\ρ 1=int set/\ρ 2=.sl (l.map aJ)/\ρ 3=.rp (aD x) 0/\ρ 8=int (k:Nat)/\ρ 9=.sl (V.map aJ)/\ρ 10=int (m:Nat)/\ρ 7=.os j/\H j=some (IR (L++BA l V m)),fun ρ _=>V.length-aV (ρ 10),⟨0,j,Xab _,by simp only[go_sem,O,J,E,F,I],by simp only[go_sem,O,J,E,F,I],by simp only[go_sem,O,J,E,F,I],by simp only[go_sem,O,J,E,F,I],by simp only[go_sem,O,J,E,F,I],(by simp only[go_sem,O,J,E,F,I];rfl),by simp only[go_sem,O,J,E,F,I],by simpa[BA]using R⟩,?_⟩;clear O J E I F R;rintro ρ H ⟨m,j,hm,O,J,E,F,e9,U,I,R⟩;simp only[go_sem,O,J,E,I,F,e9,U,Xaa];refine aB (fun Y=>?_) (fun ac=>?_)
   . have Y:=ltB (by simpa using Y)
     obtain⟨v,hv⟩:=aN Y;obtain⟨v0,ab⟩:=aN (l:=V) (k:=0) (by omega);have b2:=inB Y;have b3:(0:Int)<=0/\(0:Int)<((V.length:Nat):Int):=by omega
     have Z:=Hg l V m;have al:=DO l V m;have ai:V.getD 0 ⟨0,false⟩=v0:=by rw[List.getD,ab];rfl
     have aj:Al l V m=if(decide (bD l v<0)&&((m:Int) == 0||decide (bD l v0>=0)))=true then[v]else[]:=by unfold Al;rw[hv,ai]
     rw[aj]at Z;generalize BA l V m=SM at *;simp only[go_sem,O,J,E,I,F,e9,U,aC hv,aC ab,b2,b3];refine PC.use (qF l v hl) ?_;simp only[go_sem,O,J,E,I,F,e9,U,aC hv,aC ab,b2,b3,Xaa];refine⟨_,fun _=>(qF l v0 hl).q rfl,?_⟩;simp only[go_sem,O,J,E,I,F,e9,U];refine aB (fun aa=>?_) (fun aa=>?_)
     . rw[if_pos aa]at Z
       simp only[go_sem,O,J,E,I,F,e9,U,aC hv,b2,Xaa];refine aZ R ⟨rfl,rfl⟩ (by simp only[go_sem]) (by simp only[Xaa,Xae,Xad,List.length_nil];omega) (fun j2 am=>?_);simp only[go_sem,O,J,E,I,F,e9,U,aT (show m<=4611686018427387904 by omega)];refine⟨⟨m+1,j2,Y,rfl,rfl,?_⟩,by simp only[aE];omega⟩;rw[Z,<-Xaw,aA];exact congrArg some (Gk _ _)
     . rw[if_neg (by rw[aa];simp),Xai]at Z
       simp only[go_sem,O,J,E,I,F,e9,U,aT (show m<=4611686018427387904 by omega)];refine⟨⟨m+1,j,Y,rfl,rfl,?_⟩,by simp only[aE];omega⟩;rw[Z];exact R
   have ac:=geB hm (by simpa using ac);subst ac;simp only[go_sem,O,J,E,I,F,aT (show k<=4611686018427387904 by omega)];refine⟨⟨k+1,j,X,rfl,rfl,?_⟩,by simp only[aE];omega⟩;rw[hs];exact R
 have ad:=geB hk (by simpa using ad);subst ad;simp only[go_sem,O,J,E,F,I];exact .row _ _ _ R (ConvE.refl _)
def MD(u v:Visit):Bool:=u.order == v.order&&(u.drop == v.drop&&true)
def wA:List Visit->List Visit->Bool
 | [],b=>decide (0<b.length)
 | _::_,[]=>false
 | u::l,v::m=>if(!MD u v)=true then DG u v else wA l m
theorem Ts(a b:List Visit)(h:a=[]\/b=[]):wA a b=decide (a.length<b.length):=by
 rcases h with rfl|rfl
 . cases b <;> rfl
 . cases a with
   | nil=>rfl
   | cons u l=>simp[wA]
theorem YN(a b:List Visit)(ha:a.length<=1048576)(hb:b.length<=1048576):PC prog 253 [.sl (a.map aJ),.sl (b.map aJ)] (boo (wA a b)):=by
 refine pcd Tryz.func253 ?_;unfold Tryz.f253;simp only[gdS];simp only[go_sem];refine⟨fun ρ _=>∃k:Nat,k<=a.length/\k<=b.length/\ρ 0=.sl (a.map aJ)/\ρ 1=.sl (b.map aJ)/\ρ 5=int k/\wA a b=wA (a.drop k) (b.drop k),fun ρ _=>a.length-aV (ρ 5),⟨0,Xab _,Xab _,by simp only[go_sem],by simp only[go_sem],(by simp only[go_sem];rfl),rfl⟩,?_⟩;rintro ρ H ⟨k,aa,ab,U,O,F,E⟩;simp only[go_sem,U,O,F,Xaa];refine aB (fun Y=>?_) (fun J=>?_)
 . simp only[Xak,decide_eq_true_eq]at Y
   obtain⟨u,V⟩:=aN (l:=a) (k:=k) (by omega);obtain⟨v,X⟩:=aN (l:=b) (k:=k) (by omega);have Z:=inB (show k<a.length by omega);have b2:=inB (show k<b.length by omega);rw[rJ V,rJ X]at E;have E:wA a b=if(!MD u v)=true then DG u v else wA (a.drop (k+1)) (b.drop (k+1)):=E
   simp only[go_sem,U,O,F];refine cN (by rfl) (by kernel_rfl) ?_;simp only[go_sem,U,O,F,aC V,aC X,Z,b2,Xaa];refine aB (fun I=>?_) (fun I=>?_)
   . have I:(!MD u v)=true:=I
     rw[if_pos I]at E;simp only[go_sem,U,O,F];refine cN (by rfl) (by kernel_rfl) ?_;simp only[go_sem,U,O,F,aC V,aC X,Z,b2,Xaa];refine⟨_,(Wf u v).q rfl,?_⟩;simp only[go_sem];exact bR E.symm
   . have I:(!MD u v)=false:=I
     rw[if_neg (by rw[I];simp)]at E;simp only[go_sem,U,O,F,aT (show k<=4611686018427387904 by omega)];exact⟨⟨k+1,by omega,by omega,rfl,E⟩,by simp only[aE];omega⟩
 . have J : a.length <= k \/ b.length <= k := by
     simp only[Xcm,decide_eq_false_iff_not]at J;omega
   have hn:a.drop k=[]\/b.drop k=[]:=by
     rcases J with h|h
     . exact .inl (List.drop_of_length_le h)
     . exact .inr (List.drop_of_length_le h)
   rw[Ts _ _ hn,Xbw,Xbw]at E;simp only[go_sem,U,O,F,Xaa];refine bR ?_;rw[E,decide_eq_decide];omega
end Sq
namespace Rx
open Go.Aw Go.Aw.D Go.Proofs Ty Go.Nu Go.So
open Sq (W fC eD dE NetOk eU)
open Nu (ltB geB Ez)
open Mv (bJ bR aM)
def aaG(a:Int)(kind:Nat)(n:Int):Int:=if(decide (a>=0)&&a != (kind:Int))=true then W (n+1)else n
structure RsOk(w:Rs):Prop where
 net:Sq.NetB w.x.net
 near:NearB w.near
 len:w.near.length=w.x.orders.length
 dlen:w.dual.length=w.x.orders.length
 dual:∀a∈w.dual,a.size<=1048576
end Rx
end Go.Proofs.YtohmomanmikphaaGreatDoor
section
namespace Go.Aw
end Go.Aw
namespace Go.Proofs.YtohmomanmikphaaGreatDoor.Rx
open Go.Aw Go.Aw.D Go.Proofs Ty Go.Nu Go.So
open Sq (W fC eD dE NetOk eU)
open Nu (ltB geB Ez)
open Mv (bJ bR aM)
def stR(o:Order)(d:Bool):Stop:=if d=true then o.drop else o.pick
def Fm(o:Order)(d:Bool):Bool:= !d|| !Bx o
end Go.Proofs.YtohmomanmikphaaGreatDoor.Rx
end
namespace Go.Proofs.YtohmomanmikphaaGreatDoor
open Go.Aw Go.Aw.D Go.Proofs Ty
namespace Rx
open Go.Nu Go.So
open Sq (W fC eD dE NetOk)
open Nu (ltB geB)
open Mv (bJ bR aM)
def smP:List ByteArray:=[⟨#[72,117,98]⟩,⟨#[65]⟩,⟨#[66]⟩]
structure SmH(H:aK)(i0 j1 ja jo jp jb:Nat)(ty:AV)(arcs:List Arc)(os:List Order):Prop where
 r0:∃cs,H i0=some ⟨30,6,[cs]⟩
 ne:i0≠j1
 r1:H j1=some ⟨30,6,[[.sl (smP.map Go.Aw.D.gR),.os ja,ty,.os jo,.os jp,.os jb]]⟩
 ra:H ja=some ⟨107,6,arcs.map fK⟩
 ro:H jo=some ⟨111,16,os.map bI⟩
 rp:H jp=some ⟨194,2,[]⟩
 rb:H jb=some ⟨194,2,[]⟩
end Rx
namespace Rx
open Go.Nu Go.So
open Sq (W fC eD dE NetOk)
theorem Bh{x:Instance}{o:Nat}(F:o<x.orders.length):fC x.orders (o:Nat)=Sq.gC (dB x o) (o:Nat):=by
 have E:cC ((o:Nat):Int) x.orders.length=false:=by unfold cC;simp;omega
 unfold fC;rw[if_neg (by rw[E];simp)];show(match x.orders[(((o:Nat):Int)).toNat]? with|some o_1=>_|none=>_)=_;rw[Xaq,fZ F]
structure MinOf(b:Int)(M:Arc->Prop)(l:List Arc)(r:Int):Prop where
 le:r<=b
 lb:∀c∈l,M c->r<=c.miles
 at':r=b\/∃c∈l,M c/\r=c.miles
end Rx
namespace Rx
open Go.Nu Go.So
open Sq (W fC eD dE NetOk eU qW)
open Nu (ltB geB Ez)
open Mv (bJ bR aM)
structure Same(w a:Rs):Prop where
 ex:∃c f l,a={ w with count:=c,found:=f,least:=l }
 sz:a.least.size<=1048576
structure RInv(n D:Nat)(p:RP):Prop where
 mem:p.memory<2^60
 board:p.board<2^n
 load:p.load.length=D
 moms:p.moms.length<=2^(p.visits+1)
 dual:p.dual.size<=8194
structure RsB(D:Nat)(w:Rs):Prop where
 ok:RsOk w
 dim:∀o,o<w.x.orders.length->(dB w.x o).load.length=D
 cap:w.t.cap.length=D
 D:D<=1048576
 n:w.x.orders.length<=60
 most:w.most<=16
end Rx
namespace Rx
open Go.Nu Go.So
open Sq (W fC eD dE NetOk)
open Nu (ltB geB)
open Mv (bJ bR aM)
end Rx
namespace Rx
open Go.Nu Go.So
open Sq (W fC eD dE NetOk eU qW)
open Nu (ltB geB Ez)
open Mv (bJ bR aM)
structure XR(D:Nat)(x:Instance):Prop where
 net:Sq.NetB x.net
 dim:∀o,o<x.orders.length->(dB x o).load.length=D
 cap:∀k,k<x.types.length->(lR x k).cap.length=D
 D:D<=1048576
 n:x.orders.length<=8
end Rx
namespace Rx
open Sq
theorem Yo{x:Instance}(h:Acc x):NetB x.net:=⟨by have:=h.arcs;omega,fun a F=>by
 have E:=Lv (h.arc a F).travel;have:=(h.arc a F).slow;exact⟨by have:=E.len;omega,by omega,fun p I=>by have:=E.pt p I;unfold ahY;omega⟩⟩
def ayX(x:Instance):Nat:=(jI x.types).toNat
end Rx
namespace Rx
open Sq
def mil(n:Network)(t:VType)(place goal:Int):Int:=(eU n t.profile place goal 0).2.1
def both(t:VType)(l:List Clk):List Clk:=l.flatMap fun c=>[c,alR t c]
structure Cr(k:Nat)(cs:List Clk)(R:List Mom):Prop where
 sub:∀c∈cs,(⟨c.ready,c.since⟩:Mom)∈R
 dom:∀m∈R,∃c∈cs,c.ready=m.time/\c.since<=m.driven
 rng:∀m∈R,(0<=m.time/\m.time<=8192)/\ -(12288*(k:Int))<=m.driven/\m.driven<=4096
section
variable{n:Network}{t:VType}{place goal:Int}{k:Nat}{cs:List Clk}{R:List Mom}
end
end Rx
namespace Rx
open Sq
open Go.Nu (BZ)
structure Ctx(x:Instance)(k:Nat)(near:List Int):Prop where
 acc:Acc x
 kind:k<x.types.length
 n:x.orders.length<=8
 len:near.length=x.orders.length
 mil:∀c∈x.net.arcs,0<=c.miles/\c.miles<=10000
 money:(0<=(lR x k).fixed/\(lR x k).fixed<=100000)/\(0<=(lR x k).perMile/\(lR x k).perMile<=100)/\0<=(lR x k).perTick/\(lR x k).perTick<=100
 led:∀o∈x.orders,-1<=o.last/\ -1<=o.now
structure Rel(x:Instance)(t:VType)(p:Part)(q:RP):Prop where
 place:p.place=q.place
 memory:p.memory=q.memory
 board:p.board=q.board
 visits:p.visits=q.visits
 load:p.load=q.load
 ll:q.load.length=ayX x
 mem:q.memory<2^x.orders.length
 clk:∃R,Cr p.visits p.clocks R/\q.moms=akC t R
section
variable{x:Instance}{k:Nat}{near:List Int}{du:Option (List ByteArray)}{dl:List ByteArray}{M:Nat}{cn:Int}{lim fnd:Bool}{le:ByteArray}{p:Part}{q:RP}{o:Nat}{d:Bool}
abbrev wOf(x:Instance)(k:Nat)(near:List Int)(du:Option (List ByteArray))(M:Nat):Wk:=⟨x,k,lR x k,near,du,M⟩
structure Adds(x:Instance)(k:Nat)(dl:List ByteArray)(p p':Part)(q q':RP)(o:Nat)(d:Bool)(B:ByteArray)(miles:Int):Prop where
 rng:0<=miles/\miles<=10000
 value:p'.value=ahC B (W (W ((lR x k).perMile*miles)*16777216))
 miles:q'.miles=W (q.miles+miles)
 dual:q'.dual=if Fm (dB x o) d=true then(BZ q.dual (dl.getD o ByteArray.empty)).1 else q.dual
 moved:q'.moved=if Fm (dB x o) d=true then aaG (dB x o).now k q.moved else q.moved
 other:q'.other=if Fm (dB x o) d=true then aaG (dB x o).last k q.other else q.other
end
end Rx
namespace Rx
open Go.Nu
def Sm(A D:Nat)(x:Rat):Prop:=x.den<=D/\x.num.natAbs<=A*x.den
def EE:Nat:=10^60
structure Vl(v:Nat)(a:ByteArray)(r:Rat):Prop where
 eq:a=xG r
 sm:Sm (v*EE) (EE^v) r
end Rx
namespace Rx
open Sq
open Go.Nu
def ZH(w:Wk)(p:Part):List ByteArray:=if(aeH w p).2.2=true then[aqF w p (aeH w p).1 (aeH w p).2.1]else[]
def Z9(w:Wk)(vs:List Visit):Nat->Part->List ByteArray
 | 0,p=>ZH w p
 | f+1,p=>ZH w p++vs.flatMap fun v=>if(UB w p v).2=true then Z9 w vs f (UB w p v).1 else[]
structure DuB(n:Nat)(du:Option (List ByteArray))(dl:List ByteArray):Prop where
 len:dl.length=n
 some:∀l,du=some l->l=dl
 none:du=none->∀a∈dl,a=dec 0
 right:∀a∈dl,Vl 1 a (rK a)
structure Val(x:Instance)(k:Nat)(p:Part)(q:RP)(v d:Rat):Prop where
 own:Vl (3*q.visits+1) p.value v
 ref:Vl (q.visits+1) q.dual d
 eq:v=((((lR x k).perMile*q.miles)*16777216+(q.moved*16+q.other)*65536:Int):Rat)-d
 miles:0<=q.miles/\q.miles<=10000*(q.visits:Int)
 moved:0<=q.moved/\q.moved<=(q.visits:Int)
 other:0<=q.other/\q.other<=(q.visits:Int)
section
variable{x:Instance}{k:Nat}{near:List Int}{du:Option (List ByteArray)}{dl:List ByteArray}{M:Nat}{cn:Int}{lim fnd:Bool}{le:ByteArray}{p p':Part}{q q':RP}{o:Nat}{dr:Bool}{v d:Rat}{miles:Int}
end
end Rx
namespace Rx
open Sq
open Go.Nu
section
variable{x:Instance}{k:Nat}{near:List Int}{du:Option (List ByteArray)}{dl:List ByteArray}{M:Nat}{cn:Int}{lim fnd:Bool}{le:ByteArray}{p p':Part}{q q':RP}{o:Nat}{dr:Bool}{v d:Rat}{miles:Int}
theorem aeA{O:Order}{i:Nat}{v:Visit}(h:v∈gC O (i:Nat)):∃d,v=⟨(i:Nat),d⟩/\(stR O d).place>=0:=by
 unfold gC at h;rcases Xau.1 h with h|h
 . split at h
   . next E=>exact⟨false,by simpa using h,by simpa[stR]using E⟩
   . cases h
 . split at h
   . next E=>exact⟨true,by simpa using h,by simpa[stR]using E⟩
   . cases h
end
end Rx
namespace Rx
open Sq
open Go.Nu
structure Cap(n:Int)(t:Nat)(r:Int):Prop where
 lo:n<=r
 hi:r<=n+t
 eq:n+t<=8192->r=n+t
 gt:n+t>8192->r>8192
end Rx
namespace Rx
open Sq
open Go.Nu
structure Min(l:List ByteArray)(found:Bool)(best:ByteArray):Prop where
 no:found=false->l=[]/\best=ByteArray.empty
 yes:found=true->best∈l/\∀r∈l,¬IN r best<0
section
variable{x:Instance}{k:Nat}{near:List Int}{du:Option (List ByteArray)}{dl:List ByteArray}{M:Nat}{cn:Int}{lim fnd:Bool}{le:ByteArray}{p p':Part}{q q':RP}{o:Nat}{dr:Bool}{v d:Rat}{miles:Int}
def Ok(x:Instance)(k:Nat)(M:Nat)(p:Part):Prop:=∃q,Rel x (lR x k) p q/\(∃v d,Val x k p q v d)/\q.visits<=M
def Vis(x:Instance)(v:Visit):Prop:=∃i d,v=⟨(i:Nat),d⟩/\i<x.orders.length/\(stR (dB x i) d).place>=0/\(dB x i).off=false
end
end Rx
namespace Rx
open Sq
open Go.Nu
structure Good(x:Instance)(k M:Nat)(p:Part):Prop where
 ok:Ok x k M p
 lb:∀n∈p.load,-(1000*(p.visits:Int))<=n/\n<=1000*(p.visits:Int)
 sb:∀c∈p.clocks,(lR x k).start<=c.ready
structure Dom(fl:Bool)(p q:Part):Prop where
 place:p.place=q.place
 board:p.board=q.board
 mem:∀i,p.memory.testBit i=true->q.memory.testBit i=true
 visits:p.visits<=q.visits
 pos:0<q.visits->0<p.visits
 ll:p.load.length=q.load.length
 load:∀i,p.load.getD i 0<=q.load.getD i 0
 val:fl=true->rK p.value<=rK q.value
 clk:∀d∈q.clocks,∃c∈p.clocks,c.ready=d.ready/\c.since<=d.since
def duV(du:Option (List ByteArray))(o:Nat):Rat:=match du with|none=>0|some l=>rK (l.getD o ByteArray.empty)
section
variable{x:Instance}{k:Nat}{near near':List Int}{du du':Option (List ByteArray)}{dl dl':List ByteArray}{M:Nat}{cn:Int}{lim fnd:Bool}{le:ByteArray}{p p':Part}{q q':RP}{o:Nat}{dr:Bool}{v d:Rat}{miles:Int}
end
end Rx
namespace Rx
open Sq
open Go.Nu
section
variable{x:Instance}{k:Nat}{near near':List Int}{du du':Option (List ByteArray)}{dl dl':List ByteArray}{M:Nat}{cn:Int}{lim fnd:Bool}{le:ByteArray}{p q:Part}{a b:RP}{o:Nat}{dr:Bool}{v d:Rat}{miles:Int}{fl:Bool}
end
end Rx
namespace Rx
open Sq
open Go.Nu
section
variable{x:Instance}{k:Nat}{near near':List Int}{du du':Option (List ByteArray)}{dl dl':List ByteArray}{M:Nat}{cn:Int}{lim fnd:Bool}{le:ByteArray}{p q:Part}{a b:RP}{o:Nat}{dr:Bool}{v d:Rat}{miles:Int}{fl:Bool}
def Sub(w:Wk)(T:List ByteArray)(p:Part):Prop:=∀r∈Z9 w (Y5 w.x) (w.most-p.visits) p,r∈T
structure SInv(x:Instance)(k:Nat)(near:List Int)(du:Option (List ByteArray))(M:Nat)(T:List ByteArray)(s:Srch):Prop where
 kn:∀u∈s.known,Good x k M u/\0<u.visits/\Sub (wOf x k near du M) T u
 mem:s.found=true->s.best∈T
 no:s.found=false->s.best=ByteArray.empty
 min:∀u∈s.known,∀r∈ZH (wOf x k near du M) u,s.found=true/\¬IN r s.best<0
structure SExt(x:Instance)(k:Nat)(near:List Int)(du:Option (List ByteArray))(M:Nat)(T:List ByteArray)(r:Nat)(s t:Srch):Prop where
 kn:∀u∈s.known,u∈t.known
 mo:∀u∈s.more,u∈t.more
 nw:∀u∈t.known,u∈s.known\/u∈t.more
 nm:∀u∈t.more,u∈s.more\/(Good x k M u/\Sub (wOf x k near du M) T u/\u.visits=r+1)
end
end Rx
namespace Rx
open Go.Nu Go.So
open Sq (W fC eD dE NetOk)
open Nu (ltB geB)
open Mv (bJ bR aM)
end Rx
namespace Rx
open Go.Nu Go.So
open Sq (W fC eD dE NetOk qW)
open Nu (ltB geB)
open Mv (bJ bR aM)
abbrev Kp(x:Instance)(k:Nat)(near:List Int)(du:Option (List ByteArray)):List ByteArray:=Z9 (wOf x k near du (Y5 x).length) (Y5 x) (Y5 x).length (apR (wOf x k near du (Y5 x).length))
end Rx
end Go.Proofs.YtohmomanmikphaaGreatDoor
section
namespace Go.Aw.D
open Go.Aw Go.RowKit Go.Proofs Go.Proofs.YtohmomanmikphaaGreatDoor Go.WideShapes Go.ChangeShapes
def Mg:List (String×DataW Unit):=[("math/bits.deBruijn32tab",Go.Proofs.YtohmomanmikphaaGreatDoor.Rows.laid_math_bits_deBruijn32tab),("math/bits.deBruijn64tab",Go.Proofs.YtohmomanmikphaaGreatDoor.Rows.laid_math_bits_deBruijn64tab),("internal/strconv.uint64pow10",Go.Proofs.YtohmomanmikphaaGreatDoor.Rows.laid_internal_strconv_uint64pow10)]
theorem abA:(Go.Proofs.YtohmomanmikphaaGreatDoor.Rows.laid_math_bits_deBruijn64tab:DataW Unit)=Lib.tabData .u8 (Lib.deBruijn64tab.map fun z:Nat=>(z:Int)):=by kernel_rfl
theorem adS:(Go.Proofs.YtohmomanmikphaaGreatDoor.Rows.laid_internal_strconv_uint64pow10:DataW Unit)=Lib.tabData .u64 Lib.pow10Tab:=by kernel_rfl
theorem Xj{W:World}(h:laidMetH Tryz.prog Mg W):LQ W:=by
 have h0:laidMet Tryz.prog Mg W:=(Go.MakeChecks.laidMetH_plain Tryz.prog Mg W (by kernel_rfl))▸h;have h1:=laidMet.tail h0;have E:=laidMet.tail h1;rw[abA]at h1;rw[adS]at E;have b:=Lib.tabIs_of_head (g:=3) (by kernel_rfl) (by kernel_rfl) (t:=394) (e:=5) (n:=64) Tryz.underlying394 Tryz.underlying5 (by kernel_rfl) (by kernel_rfl) h1;have p:=Lib.tabIs_of_head (g:=1) (by kernel_rfl) (by kernel_rfl) (t:=373) (e:=348) (n:=20) Tryz.underlying373 Tryz.underlying348 (by kernel_rfl) (by kernel_rfl) E;unfold Lib.TabIs World.var? at b p;rw[show Tryz.prog.globalNamed "math/bits.deBruijn64tab" = some 3 by kernel_rfl]at b;rw[show Tryz.prog.globalNamed "internal/strconv.uint64pow10" = some 1 by kernel_rfl]at p;intro t F;simp only[XN,List.mem_cons,List.not_mem_nil,or_false]at F;rcases F with rfl|rfl
 . exact p
 . have:RK=((Lib.deBruijn64tab.map fun z:Nat=>(z:Int)).map fun z=>Value.int .u8 z).toArray:=by simp[RK]
   rw[this];exact b
end Go.Aw.D
end
