import Derived.Test.YtohmomanmikphaaGreatDoorPl15
set_option linter.unusedSimpArgs false
set_option linter.unusedVariables false
set_option maxRecDepth 100000
section
namespace Go.Proofs.YtohmomanmikphaaGreatDoor.Sq
open Go.Proofs.Tryz(prog)
open Go.Aw Go.Aw.D Go.Proofs Ty
open Go.Proofs.YtohmomanmikphaaGreatDoor.Nu (ltB geB)
open Mv (cH dK NC.pc aZ)
def A3(M:List Nat)(q:Pair):List Nat:=
 if(((decide (q.a<0)||decide (q.b<0))||decide (q.a>=(M.length:Int)))||decide (q.b>=(M.length:Int)))=true then M
 else M.set q.b.toNat (M.getD q.b.toNat 0 ||| M.getD q.a.toNat 0 ||| 2^q.a.toNat)
def Ap(l:List Pair)(M:List Nat):List Nat:=l.foldl A3 M
def TI(l:List Pair):Nat->List Nat->List Nat
 | 0,M=>M
 | f+1,M=>if Ap l M=M then M else TI l f (Ap l M)
def zK(n:Nat)(l:List Pair):List Nat:=TI l (Gs (List.replicate n 0)+1) (List.replicate n 0)
theorem Xq{α:Type}{M:List α}{i:Nat}{u:α}(h:M[i]?=some u):M.set i u=M:=by
 obtain⟨E,rfl⟩:=List.getElem?_eq_some_iff.1 h;exact List.set_getElem_self E
theorem aiI{M:List Nat}{i u:Nat}(h:M[i]?=some u):M.getD i 0=u:=by rw[List.getD,h];rfl
theorem Qv(l:List Pair):∀(f:Nat) (M:List Nat),(TI l f M).length=M.length:=by
 have h1:∀(l:List Pair) (M:List Nat),(l.foldl A3 M).length=M.length:=fun l=>by
   induction l with
   | nil=>exact fun M=>rfl
   | cons q l ih=>exact fun M=>(ih (A3 M q)).trans (by unfold A3;split <;> simp)
 intro f;induction f with
 | zero=>exact fun M=>rfl
 | succ f ih=>
   intro M;unfold TI;split
   . rfl
   . exact(ih _).trans (h1 l M)
theorem K7(n:Nat)(l:List Pair):(zK n l).length=n:=(Qv l _ _).trans List.length_replicate
theorem VD(n:Nat)(l:List Pair)(hn:n<=60)(hl:l.length<=1048576):PC prog 185 [int (n:Nat),.sl (l.map cM)] (.sl ((zK n l).map fun n:Nat=>[int (n:Nat)])):=by
 refine pcd Tryz.func185 ?_;unfold Tryz.f185;simp only[gdS];simp only[go_sem];have av:kF (n:Int) 0=(n:Nat):=by unfold kF;split <;> omega
 rw[av];refine⟨by omega,?_⟩;rw[Xbc];generalize hR:zK n l=RR;refine aK fun j ar=>?_
 generalize aq:aI _ j _=HGj;have R:HGj j=some ((⟨3,1,List.replicate n [int 0]⟩:Row)):=by rw[<-aq,aB];try rfl
 clear aq ar;simp only[go_sem,R];have R:HGj j=some (CF (List.replicate n 0)):=by rw[R,CF,List.map_replicate];rfl
 refine⟨fun ρ H=>∃(j:Nat) (L:List Nat) (b:Bool),ρ 1=.sl (l.map cM)/\ρ 5=.os j/\ρ 6=boo b/\H j=some (CF L)/\L.length=n/\(∀a∈L,a<2^62)/\(b=true->∃f,Gs L<f/\TI l f L=RR)/\(b=false->L=RR),fun ρ H=>adP (ρ 5) (ρ 6) H,⟨j,_,true,by simp only[go_sem],by simp only[go_sem],by simp only[go_sem],R,List.length_replicate,fun a ha=>by rw[List.eq_of_mem_replicate ha];decide,fun _=>⟨_,Nat.lt_succ_self _,hR⟩,fun h=>(by cases h)⟩,?_⟩;clear R;rintro ρ H ⟨j,L,b,O,J,T,R,hL,hB,hT,hF⟩;simp only[go_sem,O,J,T];refine aA (fun hb=>?_) (fun hb=>?_)
 case refine_2=>
   simp only[go_sem,J];rw[<-hF hb];exact .row _ _ _ R (ConvE.refl _)
 have hb:b=true:=hb;subst hb;obtain⟨f,a4,ad⟩:=hT rfl;obtain⟨f,rfl⟩:∃f',f=f'+1:=⟨f-1,by omega⟩;have ad:(if Ap l L=L then L else TI l f (Ap l L))=RR:=ad;simp only[go_sem,O,J,T,Xaa];rw[VT R];refine⟨fun ρ H=>∃(k:Nat) (j:Nat) (M:List Nat) (b:Bool),k<=l.length/\ρ 1=.sl (l.map cM)/\ρ 5=.os j/\ρ 6=boo b/\ρ 16=.sl (l.map cM)/\ρ 17=int l.length/\ρ 18=int (k:Nat)/\H j=some (CF M)/\M.length=n/\(∀a∈M,a<2^62)/\Gs M<=Gs L/\(b=true->Gs M<Gs L)/\(b=false->M=L)/\M=(l.take k).foldl A3 L,fun ρ _=>l.length-aT (ρ 18),⟨0,j,L,false,Xab _,by simp only[go_sem,O],by simp only[go_sem,J],by simp only[go_sem],by simp only[go_sem,O],by simp only[go_sem],by simp only[go_sem];rfl,R,hL,hB,Xaf _,(fun h=>(by cases h)),fun _=>rfl,rfl⟩,?_⟩;clear O J T R hB hL hT hF;rintro ρ H ⟨k,j,M,b,hk,O,J,T,F,E,I,R,hL,hB,ap,aa,ac,ag⟩;simp only[go_sem,O,J,T,F,E,I];refine aA (fun ab=>?_) (fun al=>?_)
 case refine_2=>
   have al:=geB hk (by simpa using al);simp only[go_sem,O,J,T];rw[Xan (by omega)]at ag;refine⟨⟨j,M,b,rfl,rfl,R,hL,hB,fun hb=>⟨f,by have:=aa hb;omega,?_⟩,fun hb=>?_⟩,?_⟩
   . have aw:Ap l L≠L:=fun e=>by have:=aa hb;rw[ag]at this;unfold Ap at e;rw[e]at this;omega
     rw[if_neg aw]at ad;rw[ag];exact ad
   . have e2:=ac hb
     rw[if_pos (show Ap l L=L from ag.symm.trans e2)]at ad;exact e2.trans ad
   cases b with
   | true=>rw[VT R];have:=aa rfl;omega
   | false=>rw[agM];omega
 have ab:=ltB (by simpa using ab);obtain⟨q,hq⟩:=aN ab;have b1:=inB ab;have ai:=iJ (f:=A3) (b:=L) hq;rw[<-ag]at ai;simp only[go_sem,O,J,T,F,E,I,aF hq,b1];refine aK fun i8 aj=>?_
 have Z:j≠i8:=aQ R aj;simp only[go_sem,O,J,T,F,E,I,R];refine aJ (aB _ _ _) (by simp[kX]) ?_;generalize af:aI (aI _ i8 _) i8 _=HGi8;replace R:=(congrFun af.symm j).trans ((aD _ _ _ _ Z).trans ((aD _ _ _ _ Z).trans R));have R8:HGi8 i8=some (⟨194,2,[cM q]⟩):=by rw[<-af,aB];try rfl
 clear af aj;simp only[go_sem,O,J,T,F,E,I,R8,R];refine fE [i8] [(0,true),(1,true),(2,true),(3,true),(4,true),(5,true)] (by simp[R8]) (by kernel_rfl) fun Hp Hr hp hr _ au=>?_
 have ao:=(hp i8 (by simp)).trans R8;simp only[go_sem,O,J,T,F,E,I,ao];refine⟨by decide,by decide,jY hr ?_⟩;simp only[go_sem,O,J,T,F,E,I,R,Xaa];refine aA (fun hc=>?_) (fun hc=>?_)
 . simp only[go_sem,O,J,T,F,E,I,aP (show k<=4611686018427387904 by omega)]
   exact⟨⟨k+1,j,M,b,ab,rfl,rfl,rfl,R,hL,hB,ap,aa,ac,by rw[ai];unfold A3;rw[if_pos hc]⟩,by simp only[aE];omega⟩
 have ak:A3 M q=M.set q.b.toNat (M.getD q.b.toNat 0 ||| M.getD q.a.toNat 0 ||| 2^q.a.toNat):=by unfold A3;rw[if_neg (by rw[hc];simp)]
 simp only[Xak,decide_eq_false_iff_not]at hc;obtain⟨⟨⟨c1,c2⟩,c3⟩,c4⟩:=hc;obtain⟨A,hA⟩:=Int.eq_ofNat_of_zero_le (show 0<=q.a by omega);obtain⟨B,ah⟩:=Int.eq_ofNat_of_zero_le (show 0<=q.b by omega);rw[hA]at c3;rw[ah]at c4;have am:A<M.length:=by omega
 have ae:B<M.length:=by omega
 obtain⟨u,hu⟩:=aN ae;obtain⟨w,hw⟩:=aN am;rw[hA,ah,Xbc,Xbc,aiI hu,aiI hw]at ak;rw[ak]at ai;have g1:=aF (f:=fun n:Nat=>[int (n:Nat)]) hu;have g2:=aF (f:=fun n:Nat=>[int (n:Nat)]) hw;have d1:=inB ae;have d2:=inB am;have bu:=hB u (Xae hu);have bw:=hB w (Xae hw);have b2:2^A<2^62:=Xci (by decide) (by omega);have o1:u ||| w<2^62:=Xcf bu bw;have o2:u ||| w ||| 2^A<2^62:=Xcf o1 b2;have v1:rY .or .i64 (u:Int) (w:Int)=((u ||| w:Nat):Int):=F3 (by omega) (by omega);have v2:rY .or .i64 ((u ||| w:Nat):Int) ((2^A:Nat):Int)=((u ||| w ||| 2^A:Nat):Int):=F3 (by omega) (by omega);have v3:shV .shl .i64 1 (A:Int)=((2^A:Nat):Int):=EH (by omega);have al:u<=u ||| w ||| 2^A:=Xaj Nat.left_le_or Nat.left_le_or;simp only[go_sem,O,J,T,F,E,I];refine fE [j] [(0,true),(1,true),(2,true),(3,true),(4,true),(5,true),(6,true),(7,true),(8,true),(9,true),(10,true),(11,true),(12,true)] (by simp[R]) (by kernel_rfl) fun Hp Hr hp hr _ au=>?_
 have ax:=(hp j (by simp)).trans R;simp only[go_sem,O,J,T,F,E,I,hA,ah,g1,g2,d1,d2,Xaa,v1,v2,v3,ax];refine⟨ae,am,?_⟩;refine jY hr ?_;simp only[go_sem,O,J,T,F,E,I,R,hA,ah,g1,d1,Xaa,v1,v2,v3];refine⟨ae,aA (fun hd=>?_) (fun hd=>?_)⟩
 . have hd : u < u ||| w ||| 2 ^ A := by
     have:(((u ||| w ||| 2^A:Nat):Int) != (u:Int))=true:=hd;simp only[bne_iff_ne,ne_eq]at this;omega
   simp only[go_sem,O,J,T,F,E,I,R,hA,ah,d1,Xaa];generalize a0:u ||| w ||| 2^A=v at *;refine eM so3 R (by rw[Xaa];exact⟨ae,rfl,Xaf 1⟩) ?_;have an:(M.map fun n:Nat=>[int (n:Nat)]).set B (oF ((M.map fun n:Nat=>[int (n:Nat)]).getD B []) 0 [int (v:Nat)])=(M.set B v).map fun n:Nat=>[int (n:Nat)]:=by
     rw[g1,List.map_set];rfl
   have R3:aI HGi8 j (some (⟨3,1,(M.map fun n:Nat=>[int (n:Nat)]).set B (oF ((M.map fun n:Nat=>[int (n:Nat)]).getD B []) 0 [int (v:Nat)])⟩:Row)) j=some (CF (M.set B v)):=by
     rw[aB,an]
   generalize aI HGi8 j _=H3 at R3 |-;have az:=NB hu hd (Nat.le_of_lt o2);simp only[go_sem,O,J,T,F,E,I,aP (show k<=4611686018427387904 by omega)];exact⟨⟨k+1,j,M.set B v,true,ab,rfl,rfl,rfl,R3,by rw[Xbh,hL],fun a ha=>by
     rcases List.mem_or_eq_of_mem_set ha with ha|rfl
     . exact hB a ha
     . exact o2,by omega,(fun _=>by omega),(fun h=>by cases h),ai.symm⟩,by simp only[aE];omega⟩
 . simp only[go_sem,O,J,T,F,E,I,aP (show k<=4611686018427387904 by omega)]
   have ay:u ||| w ||| 2^A=u:=by
     have:(((u ||| w ||| 2^A:Nat):Int) != (u:Int))=false:=hd;simp only[bne_eq_false_iff_eq]at this;omega
   exact⟨⟨k+1,j,M,b,ab,rfl,rfl,rfl,R,hL,hB,ap,aa,ac,by rw[ai,ay,Xq hu]⟩,by simp only[aE];omega⟩
def OU(x:Instance)(i:Int):Bool:=match x.orders[i.toNat]? with|some o=>o.off|none=>false
def EE(x:Instance)(set:Int):Int:=
 if set<0 then 2
 else if((gE set).any fun a=>decide (a>=(x.orders.length:Int)))=true then 2
 else if((gE set).any (OU x))=true then 9
 else if(x.apart.any fun q=>dT set q.a&&dT set q.b)=true then 20
 else if(x.before.any fun q=>dT set q.b&& !dT set q.a)=true then 21
 else if((gE set).any fun a=>dT (((zK x.orders.length x.before).getD a.toNat 0:Nat):Int) a)=true then 21
 else 0
theorem A7{α:Type}{p:α->Bool}{l:List α}{k:Nat}{a:α}(h:l[k]?=some a)(u:p a=true):l.any p=true:=Xbk.2 ⟨a,Xae h,u⟩
theorem yU{α:Type}{p:α->Bool}{l:List α}(h:∀a∈l,p a=false):l.any p=false:=List.any_eq_false.2 fun a u=>by rw[h a u];simp
theorem TN(x:Instance)(set:Int)(hx:x.orders.length<=60)(ha:x.apart.length<=1048576)(hb:x.before.length<=1048576):PC prog 116 [.agg (aG x),int set] (int (EE x set)):=by
 refine pcd Tryz.func116 ?_;unfold Tryz.f116;simp only[gdS];simp only[go_sem];have hP:EE x set=(if set<0 then 2
   else if((gE set).any fun a=>decide (a>=(x.orders.length:Int)))=true then 2
   else if((gE set).any (OU x))=true then 9
   else if(x.apart.any fun q=>dT set q.a&&dT set q.b)=true then 20
   else if(x.before.any fun q=>dT set q.b&& !dT set q.a)=true then 21
   else if((gE set).any fun a=>dT (((zK x.orders.length x.before).getD a.toNat 0:Nat):Int) a)=true then 21
   else 0):=rfl
 generalize EE x set=RP at *;refine aA (fun hc=>?_) (fun hc=>?_)
 . rw[if_pos (of_decide_eq_true hc)]at hP
   simp only[go_sem];rw[hP];exact .refl _
 rw[if_neg (of_decide_eq_false hc)]at hP;simp only[go_sem];refine PC.use (mX set) ?_;have a4:=W9 set;have a0:=fun a=>@YN set a
 generalize gE set=S at *;simp only[go_sem,Xaa];refine⟨fun ρ H=>∃(k:Nat),k<=S.length/\ρ 1=int set/\ρ 2=.rp (aG x) 0/\ρ 5=.sl (S.map bJ)/\ρ 21=.sl (S.map bJ)/\ρ 22=int (S.length:Nat)/\ρ 23=int k/\(∀a∈S.take k,a<(x.orders.length:Int)),fun ρ _=>S.length-aT (ρ 23),⟨0,Xab _,by simp only[go_sem],by simp only[go_sem],by simp only[go_sem],by simp only[go_sem],by simp only[go_sem,Xaa],(by simp only[go_sem];rfl),by simp⟩,?_⟩;rintro ρ H ⟨k,hk,I,F,E,ai,ag,ah,hz⟩;simp only[go_sem,I,F,E,ai,ag,ah];refine aA (fun u=>?_) (fun J=>?_)
 . have u:=ltB (by simpa using u)
   obtain⟨a,M⟩:=aN u;have b1:=inB u;simp only[go_sem,I,F,E,ai,ag,ah,aF M,b1,Xaa];refine aA (fun hc=>?_) (fun hc=>?_)
   . rw[if_pos (A7 M hc)]at hP
     simp only[go_sem];rw[hP];exact .refl _
   . have hc:¬a>=(x.orders.length:Int):=of_decide_eq_false hc
     simp only[go_sem,I,F,E,ai,ag,ah,aP (show k<=4611686018427387904 by omega)];exact⟨⟨k+1,u,rfl,aZ (p:=fun a:Int=>a<(x.orders.length:Int)) M (by omega) hz⟩,by simp only[aE];omega⟩
 have J:=geB hk (by simpa using J);subst J;rw[Xag]at hz;rw[if_neg (by rw[yU fun a ha=>decide_eq_false (by have:=hz a ha;omega)];simp)]at hP;simp only[go_sem,I,F,E,ai,ag,ah,Xaa];refine⟨fun ρ H=>∃(k:Nat),k<=S.length/\ρ 1=int set/\ρ 2=.rp (aG x) 0/\ρ 5=.sl (S.map bJ)/\ρ 33=.sl (S.map bJ)/\ρ 34=int (S.length:Nat)/\ρ 35=int k/\(∀a∈S.take k,OU x a=false),fun ρ _=>S.length-aT (ρ 35),⟨0,Xab _,by simp only[go_sem,I,F,E,ai,ag,ah],by simp only[go_sem,I,F,E,ai,ag,ah],by simp only[go_sem,I,F,E,ai,ag,ah],by simp only[go_sem,I,F,E,ai,ag,ah],by simp only[go_sem,Xaa,I,F,E,ai,ag,ah],(by simp only[go_sem,I,F,E,ai,ag,ah];rfl),by simp⟩,?_⟩;rintro ρ H ⟨k,hk,I,F,E,af,ae,ad,hy⟩;simp only[go_sem,I,F,E,af,ae,ad];refine aA (fun u=>?_) (fun J=>?_)
 . have u:=ltB (by simpa using u)
   obtain⟨a,M⟩:=aN u;have b1:=inB u;obtain⟨A,rfl⟩:=a0 a (Xae M);have hA:=hz _ (Xae M);have al:A<x.orders.length:=by omega
   obtain⟨o,ho⟩:=aN al;have b2:=inB al;have aq:OU x (A:Int)=o.off:=by unfold OU;rw[Xbc,ho]
   simp only[go_sem,I,F,E,af,ae,ad,aF M,b1,aF ho,b2];refine aA (fun hc=>?_) (fun hc=>?_)
   . rw[if_pos (A7 (p:=OU x) M (aq.trans hc))]at hP
     simp only[go_sem];rw[hP];exact .refl _
   . simp only[go_sem,I,F,E,af,ae,ad,aP (show k<=4611686018427387904 by omega)]
     exact⟨⟨k+1,u,rfl,aZ (p:=fun a=>OU x a=false) M (aq.trans hc) hy⟩,by simp only[aE];omega⟩
 have J:=geB hk (by simpa using J);subst J;rw[Xag]at hy;rw[if_neg (by rw[yU hy];simp)]at hP;simp only[go_sem,I,F,E,af,ae,ad,Xaa];refine⟨fun ρ H=>∃(k:Nat),k<=x.apart.length/\ρ 1=int set/\ρ 2=.rp (aG x) 0/\ρ 5=.sl (S.map bJ)/\ρ 47=.sl (x.apart.map cM)/\ρ 48=int (x.apart.length:Nat)/\ρ 49=int k/\(∀q∈x.apart.take k,(dT set q.a&&dT set q.b)=false),fun ρ _=>x.apart.length-aT (ρ 49),⟨0,Xab _,by simp only[go_sem,I,F,E,af,ae,ad],by simp only[go_sem,I,F,E,af,ae,ad],by simp only[go_sem,I,F,E,af,ae,ad],by simp only[go_sem,I,F,E,af,ae,ad],by simp only[go_sem,Xaa,I,F,E,af,ae,ad],(by simp only[go_sem,I,F,E,af,ae,ad];rfl),by simp⟩,?_⟩;rintro ρ H ⟨k,hk,I,F,E,T,O,Z,hv⟩;simp only[go_sem,I,F,E,T,O,Z];refine aA (fun u=>?_) (fun J=>?_)
 . have u:=ltB (by simpa using u)
   obtain⟨q,hq⟩:=aN u;have b1:=inB u;simp only[go_sem,I,F,E,T,O,Z,aF hq,b1];refine aK fun av aw=>?_
   simp only[go_sem,I,F,E,T,O,Z];refine aJ (aB _ _ _) (by simp[kX]) ?_;generalize ak:aI (aI _ av _) av _=HGi11;have ax:HGi11 av=some (⟨194,2,[cM q]⟩):=by rw[<-ak,aB];try rfl
   clear ak aw;simp only[go_sem,I,F,E,T,O,Z,ax];refine⟨by decide,PC.use (wI set q.a) ?_⟩;simp only[go_sem,I,F,E,T,O,Z,ax];refine⟨fun _=>by decide,_,fun _=>(wI set q.b).q rfl,?_⟩;simp only[go_sem,I,F,E,T,O,Z];refine aA (fun hc=>?_) (fun hc=>?_)
   . rw[if_pos (A7 (p:=fun q:Pair=>dT set q.a&&dT set q.b) hq hc)]at hP
     simp only[go_sem];rw[hP];exact .refl _
   . simp only[go_sem,I,F,E,T,O,Z,aP (show k<=4611686018427387904 by omega)]
     exact⟨⟨k+1,u,rfl,aZ (p:=fun q:Pair=>(dT set q.a&&dT set q.b)=false) hq hc hv⟩,by simp only[aE];omega⟩
 have J:=geB hk (by simpa using J);subst J;rw[Xag]at hv;rw[if_neg (by rw[yU hv];simp)]at hP;simp only[go_sem,I,F,E,T,O,Z,Xaa];refine⟨fun ρ H=>∃(k:Nat),k<=x.before.length/\ρ 1=int set/\ρ 2=.rp (aG x) 0/\ρ 5=.sl (S.map bJ)/\ρ 65=.sl (x.before.map cM)/\ρ 66=int (x.before.length:Nat)/\ρ 67=int k/\(∀q∈x.before.take k,(dT set q.b&& !dT set q.a)=false),fun ρ _=>x.before.length-aT (ρ 67),⟨0,Xab _,by simp only[go_sem,I,F,E,T,O,Z],by simp only[go_sem,I,F,E,T,O,Z],by simp only[go_sem,I,F,E,T,O,Z],by simp only[go_sem,I,F,E,T,O,Z],by simp only[go_sem,Xaa,I,F,E,T,O,Z],(by simp only[go_sem,I,F,E,T,O,Z];rfl),by simp⟩,?_⟩;rintro ρ H ⟨k,hk,I,F,E,ac,ab,aa,hw⟩;simp only[go_sem,I,F,E,ac,ab,aa];refine aA (fun u=>?_) (fun J=>?_)
 . have u:=ltB (by simpa using u)
   obtain⟨q,hq⟩:=aN u;have b1:=inB u;simp only[go_sem,I,F,E,ac,ab,aa,aF hq,b1];refine aK fun ar au=>?_
   simp only[go_sem,I,F,E,ac,ab,aa];refine aJ (aB _ _ _) (by simp[kX]) ?_;generalize aj:aI (aI _ ar _) ar _=HGi13;have az:HGi13 ar=some (⟨194,2,[cM q]⟩):=by rw[<-aj,aB];try rfl
   clear aj au;simp only[go_sem,I,F,E,ac,ab,aa,az];refine⟨by decide,PC.use (wI set q.b) ?_⟩;simp only[go_sem,I,F,E,ac,ab,aa,az];refine⟨fun _=>by decide,_,fun _=>(wI set q.a).q rfl,?_⟩;simp only[go_sem,I,F,E,ac,ab,aa];refine aA (fun hc=>?_) (fun hc=>?_)
   . rw[if_pos (A7 (p:=fun q:Pair=>dT set q.b&& !dT set q.a) hq hc)]at hP
     simp only[go_sem];rw[hP];exact .refl _
   . simp only[go_sem,I,F,E,ac,ab,aa,aP (show k<=4611686018427387904 by omega)]
     exact⟨⟨k+1,u,rfl,aZ (p:=fun q:Pair=>(dT set q.b&& !dT set q.a)=false) hq hc hw⟩,by simp only[aE];omega⟩
 have J:=geB hk (by simpa using J);subst J;rw[Xag]at hw;rw[if_neg (by rw[yU hw];simp)]at hP;simp only[go_sem,I,F,E,ac,ab,aa,Xaa];have hL:=K7 x.orders.length x.before;refine PC.use (VD x.orders.length x.before hx hb) ?_;generalize zK x.orders.length x.before=CH at *;simp only[go_sem,I,F,E,ac,ab,aa,Xaa];refine⟨fun ρ H=>∃(k:Nat),k<=S.length/\ρ 14=.sl (CH.map fun n:Nat=>[int (n:Nat)])/\ρ 89=.sl (S.map bJ)/\ρ 90=int (S.length:Nat)/\ρ 91=int k/\(∀a∈S.take k,dT ((CH.getD a.toNat 0:Nat):Int) a=false),fun ρ _=>S.length-aT (ρ 91),⟨0,Xab _,by simp only[go_sem,I,F,E,ac,ab,aa],by simp only[go_sem,I,F,E,ac,ab,aa],by simp only[go_sem,Xaa,I,F,E,ac,ab,aa],(by simp only[go_sem,I,F,E,ac,ab,aa];rfl),by simp⟩,?_⟩;rintro ρ H ⟨k,hk,an,ap,ao,am,hu⟩;simp only[go_sem,an,ap,ao,am];refine aA (fun u=>?_) (fun J=>?_)
 . have u:=ltB (by simpa using u)
   obtain⟨a,M⟩:=aN u;have b1:=inB u;obtain⟨A,rfl⟩:=a0 a (Xae M);have hA:=hz _ (Xae M);have al:A<CH.length:=by omega
   obtain⟨o,ho⟩:=aN al;have b2:=inB al;have ay:dT ((CH.getD ((A:Int)).toNat 0:Nat):Int) (A:Int)=dT (o:Nat) (A:Nat):=by rw[Xbc,aiI ho]
   have g1:=aF (f:=fun n:Nat=>[int (n:Nat)]) ho;simp only[go_sem,an,ap,ao,am,aF M,b1,g1,b2];refine PC.use (wI (o:Nat) (A:Nat)) ?_;simp only[go_sem,an,ap,ao,am];refine aA (fun hc=>?_) (fun hc=>?_)
   . rw[if_pos (A7 (p:=fun a=>dT ((CH.getD a.toNat 0:Nat):Int) a) M (ay.trans hc))]at hP
     simp only[go_sem];rw[hP];exact .refl _
   . simp only[go_sem,an,ap,ao,am,aP (show k<=4611686018427387904 by omega)]
     exact⟨⟨k+1,u,rfl,aZ (p:=fun a=>dT ((CH.getD a.toNat 0:Nat):Int) a=false) M (ay.trans hc) hu⟩,by simp only[aE];omega⟩
 have J:=geB hk (by simpa using J);subst J;rw[Xag]at hu;rw[if_neg (by rw[yU hu];simp)]at hP;simp only[go_sem];rw[hP];exact .refl _
end Go.Proofs.YtohmomanmikphaaGreatDoor.Sq
end
section
namespace Go.Proofs.YtohmomanmikphaaGreatDoor.Nu.Ps
open Go.Proofs.Tryz(prog)
open Go.Aw Go.Aw.D Go.Proofs Ty Go.Nu Go.So
structure Priced where
 column:Column
 reduced:ByteArray
def bI(x:Priced):List AV:=[.v (.int .i64 x.column.type),.v (.int .i64 x.column.set),.v (.int .i64 x.column.price),.v (.int .i64 x.column.route.type),.v (.int .i64 x.column.route.start),.sl (x.column.route.rests.map eV),.sl (x.column.route.visits.map aL),.v (.string x.reduced)]
theorem bV(x:Priced):(bI x).length=8:=(rfl)
theorem Ml(x:Priced):(bI x).getD 0 .any=.v (.int .i64 x.column.type):=(rfl)
theorem MK(x:Priced):(bI x).getD 1 .any=.v (.int .i64 x.column.set):=(rfl)
theorem NU(x:Priced):(bI x).getD 2 .any=.v (.int .i64 x.column.price):=(rfl)
theorem MU(x:Priced):(bI x).getD 7 .any=.v (.string x.reduced):=(rfl)
theorem GB(x:Priced):(bI x).take 8=bI x:=(rfl)
theorem jS(x:Priced):(bI x).drop 8=[]:=(rfl)
theorem GA(x:Priced):(bI x).take 7=aS x.column:=(rfl)
attribute [go_sem] bV Ml MK NU MU GB GA
abbrev nL(gf:Nat):AV:=.v (.func (.func gf) #[] #[])
abbrev dE(l:List Priced):Row:=⟨69,8,l.map bI⟩
theorem gZ(H:aH)(j:Nat)(a b:Option Row):aI (aI H j a) j b=aI H j b:=by
 funext k;unfold aI;split <;> rfl
theorem gU{H:aH}{j:Nat}{r:Row}(h:H j=some r):aI H j (some r)=H:=by
 funext k;unfold aI;split
 . next e=>rw[e,h]
 . rfl
theorem Et{L:List Priced}{a b j:Nat}{x y:Priced}{H0 H:aH}(J:L[a]?=some x)(E:L[b]?=some y)(u:a≠b)(F:H=aI H0 j (some (dE L))):
   aI (aI H j (some (⟨69,8,(L.map bI).set a (bI y)⟩:Row))) j (some (⟨69,8,((L.map bI).set a (bI y)).set b (bI x++List.drop 8 (((L.map bI).set a (bI y)).getD b []))⟩:Row))=aI H0 j (some (dE (swp L a b))):=by
 have I:((L.map bI).set a (bI y)).getD b []=bI y:=by
   rw[List.getD,List.getElem?_set_ne u,List.getElem?_map,E];rfl
 rw[F,gZ,gZ,I,jS,Xah];unfold swp dE;simp only[J,E,List.map_set]
theorem xK(L:List Priced)(a b n j:Nat)(gf:Nat)(H0:aH)(K:AV->aH->Prop)(ab:a+n<=b)(ac:b+n<=L.length)(hl:L.length<=1048576)(hj:H0 j=some (dE L))
   (hK:∀r,K r (aI H0 j (some (dE (BQ L a b n))))):bA prog 232 [.os j,int a,int b,int n,nL gf] H0 K:=by
 refine bA.body (c:=Tryz.f232.body.getD .skip) (fun _=>false) mixed Tryz.func232 rfl (by kernel_rfl) ?_;unfold Tryz.f232;simp only[gdS];simp only[go_sem];refine⟨fun ρ H=>∃(k:Nat),k<=n/\ρ 0=.os j/\ρ 1=int a/\ρ 2=int b/\ρ 3=int n/\ρ 10=int k/\H=aI H0 j (some (dE (BQ L a b k))),fun ρ _=>n-aT (ρ 10),⟨0,Xab _,by simp only[go_sem],by simp only[go_sem],by simp only[go_sem],by simp only[go_sem],(by simp only[go_sem];rfl),(gU hj).symm⟩,?_⟩;rintro ρ H ⟨k,hk,O,M,J,I,u,T⟩;simp only[go_sem,O,M,J,I,u];refine aA (fun E=>?_) (fun F=>?_)
 . have E:=ltB E
   have aa:=M7 L a b k;obtain⟨x,hx⟩:=aN (l:=BQ L a b k) (k:=a+k) (by omega);obtain⟨y,hy⟩:=aN (l:=BQ L a b k) (k:=b+k) (by omega);have R:H j=some (dE (BQ L a b k)):=by rw[T];exact aB _ _ _
   have w1:IntKind.i64.wrap ((a:Int)+(k:Int))=((a+k:Nat):Int):=by rw[aR (by omega)];omega
   have w2:IntKind.i64.wrap ((b:Int)+(k:Int))=((b+k:Nat):Int):=by rw[aR (by omega)];omega
   have Z:=inB (show a+k<(BQ L a b k).length by omega);have b2:=inB (show b+k<(BQ L a b k).length by omega);simp only[go_sem,O,M,J,I,u];refine vA [] (.q 0 (.q 1 (.q 2 (.q 3 (.q 4 (.q 5 (.q 6 (.q 7 (.q 8 (.q 9 (.q 10 (.q 11 (.q 14 (.q 15 (.q 16 (.q 17 (.a2 12 (.a2 13 (.a1 18 (.a1 19 (.a1 20 (.a1 21 (.a1 22 (.a1 23 (.nil))))))) 18 (.a2 13 (.a1 19 (.a1 20 (.a1 21 (.a1 22 (.a1 23 (.nil)))))) 19 (.a1 13 (.a1 20 (.a1 21 (.a1 22 (.a1 23 (.nil)))))))) 18 (.a2 12 (.a2 13 (.a1 19 (.a1 20 (.a1 21 (.a1 22 (.a1 23 (.nil)))))) 19 (.a1 13 (.a1 20 (.a1 21 (.a1 22 (.a1 23 (.nil))))))) 19 (.a1 12 (.a1 13 (.a1 20 (.a1 21 (.a1 22 (.a1 23 (.nil))))))))))))))))))))))))) (by simp) (by kernel_rfl) fun Hp Hr _ hr _ _=>?_
   obtain rfl:Hr=H:=funext fun i=>hr i (by simp)
   simp only[go_sem,O,M,J,I,u,w1,w2,R,Z,b2]
   repeat' (first|(refine mE ?_ ?_)|(refine⟨by omega,?_⟩)|(refine aJ R ⟨by rw[Xaa];omega,bV _,by rw[bV];exact Xaf 8⟩ ?_)|(refine aJ (aB _ _ _) ⟨by rw[Xbh,Xaa];omega,bV _,by rw[bV];exact Xaf 8⟩ ?_)|(refine fI fun _ Hm _ hm=>?_;obtain rfl:Hm=_:=funext fun i=>hm i (by simp))|(simp only[go_sem,O,M,J,I,u,w1,w2,R,Z,b2,aF hy,aF hx,aP (show k<=4611686018427387904 by omega),Xbh,Xaa,jS,Xah]))
   all_goals exact⟨⟨k+1,E,rfl,Et hx hy (by omega) T⟩,by simp only[aE];omega⟩
 . have F:=geB hk F
   subst F;simp only[go_sem];rw[T];exact hK _
theorem Cg{a b:Nat}(h:b<=a)(u:a<=4611686018427387904):IntKind.i64.wrap ((a:Int)-(b:Int))=((a-b:Nat):Int):=by rw[aR (by omega)];omega
theorem Uf{a b:Nat}(h:a+b<=4611686018427387904):IntKind.i64.wrap ((a:Int)+(b:Int))=((a+b:Nat):Int):=by rw[aR (by omega)];omega
theorem rT{α:Type}{l:List α}{n:Nat}(h:n<=l.length):∃u E,l=u++E/\u.length=n/\E.length=l.length-n:=⟨l.take n,l.drop n,(Xcm n l).symm,by rw[Xal];omega,by rw[Xbd]⟩
theorem W0(P U V S:List Priced)(a m b j:Nat)(gf:Nat)(H0:aH)(K:AV->aH->Prop)(ha:a=P.length)(hm:m=a+U.length)(hb:b=m+V.length)(hU:U≠[])(hV:V≠[])(hl:(P++U++V++S).length<=1048576)(hj:H0 j=some (dE (P++U++V++S)))
   (hK:∀r,K r (aI H0 j (some (dE (P++V++U++S))))):bA prog 177 [.os j,int a,int m,int b,nL gf] H0 K:=by
 have ab:P.length+U.length+V.length+S.length<=1048576:=by simpa[Xcb]using hl
 have af:=Xbv.2 hU;have ag:=Xbv.2 hV;refine bA.body (c:=Tryz.f177.body.getD .skip) (fun _=>false) mixed Tryz.func177 rfl (by kernel_rfl) ?_;unfold Tryz.f177;simp only[gdS];simp only[go_sem];simp only[go_sem,Cg (show a<=m by omega) (by omega),Cg (show m<=b by omega) (by omega)];refine⟨fun ρ H=>∃F u E S':List Priced,ρ 0=.os j/\ρ 2=int m/\ρ 4=nL gf/\ρ 10=int u.length/\ρ 11=int E.length/\F.length+u.length=m/\0<u.length/\0<E.length/\(F.length+u.length+E.length+S'.length<=1048576)/\F++E++u++S'=P++V++U++S/\H=aI H0 j (some (dE (F++u++E++S'))),fun ρ _=>aT (ρ 10)+aT (ρ 11),
   ⟨P,U,V,S,by simp only[go_sem],by simp only[go_sem],by simp only[go_sem],by simp only[go_sem];rw[show m-a=U.length by omega],by simp only[go_sem];rw[show b-m=V.length by omega],by omega,af,ag,ab,rfl,(gU hj).symm⟩,?_⟩
 rintro ρ H ⟨F,u,E,S',e0,Z,e4,I,J,ah,hu,hv,ai,aa,hH⟩;have R:H j=some (dE (F++u++E++S')):=by rw[hH];exact aB _ _ _
 simp only[go_sem,e0,Z,e4,I,J];refine aA (fun ac=>?_) (fun T=>?_)
 . have ac:u.length≠E.length:=neN ac
   simp only[go_sem,e0,Z,e4,I,J];refine aA (fun O=>?_) (fun M=>?_)
   . have O:E.length<u.length:=by simpa using O
     obtain⟨U1,U2,ae,h1,h2⟩:=rT (Nat.le_of_lt O);have e:=Gi (P:=F) (X:=U1) (V:=U2) (Y:=E) (S:=S') (a:=F.length) (b:=m) (n:=E.length) rfl (by omega) h1.symm rfl;simp only[go_sem,e0,Z,e4,I,J,Cg (show u.length<=m by omega) (by omega),show m-u.length=F.length by omega];refine xK (F++u++E++S') F.length m E.length j gf _ _ (by omega) (by simp;omega) (by simp;omega) R fun r=>?_
     simp only[go_sem,e0,Z,e4,I,J,Cg (show E.length<=u.length by omega) (by omega)];refine⟨⟨F++E,U2,U1,S',?_,?_,by rw[Xac];omega,by omega,by omega,by rw[Xac];omega,?_,?_⟩,?_⟩
     . rw[h2]
     . rw[h1]
     . rw[<-aa,ae];simp only[Xai]
     . rw[hH,gZ,ae]
       congr 2
       have:F++(U1++U2)++E++S'=F++U1++U2++E++S':=by simp only[Xai]
       rw[this,e]
     . simp only[aE];omega
   . have M:¬E.length<u.length:=by simpa using M
     obtain⟨V1,V2,ad,h1,h2⟩:=rT (l:=E) (n:=E.length-u.length) (by omega);have h2:V2.length=u.length:=by omega
     have e:=Gi (P:=F) (X:=u) (V:=V1) (Y:=V2) (S:=S') (a:=F.length) (b:=m+V1.length) (n:=u.length) rfl (by omega) rfl h2;simp only[go_sem,e0,Z,e4,I,J,Cg (show u.length<=m by omega) (by omega),show m-u.length=F.length by omega,Uf (show m+E.length<=4611686018427387904 by omega),Cg (show u.length<=m+E.length by omega) (by omega),show m+E.length-u.length=m+V1.length by omega];refine xK (F++u++E++S') F.length (m+V1.length) u.length j gf _ _ (by omega) (by simp;omega) (by simp;omega) R fun r=>?_
     simp only[go_sem,e0,Z,e4,I,J,Cg (show u.length<=E.length by omega) (by omega)];refine⟨⟨F,V2,V1,u++S',?_,?_,by omega,by omega,by omega,by rw[Xac];omega,?_,?_⟩,?_⟩
     . rw[h2]
     . rw[h1]
     . rw[<-aa,ad];simp only[Xai]
     . rw[hH,gZ,ad]
       congr 2
       have:F++u++(V1++V2)++S'=F++u++V1++V2++S':=by simp only[Xai]
       rw[this,e];simp only[Xai]
     . simp only[aE];omega
 . have T:u.length=E.length:=eqN T
   have e:=Gi (P:=F) (X:=u) (V:=[]) (Y:=E) (S:=S') (a:=F.length) (b:=m) (n:=u.length) rfl (by simp;omega) rfl T.symm;simp only[Xah]at e;simp only[go_sem,e0,Z,e4,I,J,Cg (show u.length<=m by omega) (by omega),show m-u.length=F.length by omega];refine xK (F++u++E++S') F.length m u.length j gf _ _ (by omega) (by simp;omega) (by simp;omega) R fun r=>?_
   simp only[go_sem];rw[hH,gZ,e,aa];exact hK _
abbrev TB:=Priced×Nat
def fs(L:List TB):List Priced:=L.map Prod.fst
theorem rN(a:List TB):(fs a).length=a.length:=Xaa _
theorem nU{L:List TB}{k:Nat}{x:TB}(h:L[k]?=some x):(fs L)[k]?=some x.1:=by unfold fs;rw[List.getElem?_map,h];rfl
structure CmpOk(gf:Nat)(lt:Priced->Priced->Bool)(ok:Priced->Prop):Prop where
 call:aC Tryz.prog gf=true
 cmp:∀x y,ok x->ok y->∃n:Int,decide (n<0)=lt x y/\PC Tryz.prog gf [.agg (bI x),.agg (bI y)] (int n)
theorem xS{l:List Nat}{H E u:aH}(h1:∀k,k∈l->u k=H k)(F:∀k,k∉l->u k=E k)(I:∀k,k∉l->E k=H k):u=H:=funext fun k=>by
 by_cases h:k∈l
 . exact h1 k h
 . rw[F k h,I k h]
theorem DJ{gf:Nat}{lt:Priced->Priced->Bool}{ok:Priced->Prop}(hs:SWO lt)(hc:CmpOk gf lt ok)(P X S:List TB)(a b j:Nat)(H0:aH)(K:AV->aH->Prop)(ha:a=P.length)(hb:b=a+X.length)
   (ak:X.Pairwise fun p q=>p.2<q.2) (ao:∀x∈X,ok x.1) (hl:(P++X++S).length<=1048576) (hj:H0 j=some (dE (fs (P++X++S))))
   (hK:∀M:List TB,M.Perm X->M.Pairwise (tlt lt)->∀r,K r (aI H0 j (some (dE (fs (P++M++S)))))):bA prog 105 [.os j,int a,int b,nL gf] H0 K:=by
 have a6:P.length+X.length+S.length<=1048576:=by simpa[Xcb]using hl
 have ac:=hc.call;refine bA.body (c:=Tryz.f105.body.getD .skip) (fun _=>false) mixed Tryz.func105 rfl (by kernel_rfl) ?_;unfold Tryz.f105;simp only[gdS];simp only[go_sem];simp only[go_sem,aP (show a<=4611686018427387904 by omega)];refine⟨fun ρ H=>∃(k:Nat) (M:List TB),1<=k/\k<=max 1 X.length/\ρ 0=.os j/\ρ 1=int a/\ρ 2=int b/\ρ 3=nL gf/\ρ 8=int (a+k:Nat)/\M.Perm (X.take k)/\M.Pairwise (tlt lt)/\H=aI H0 j (some (dE (fs (P++M++X.drop k++S)))),fun ρ _=>b+1-aT (ρ 8),
   ⟨1,X.take 1,Xaf _,Nat.le_max_left _ _,by simp only[go_sem],by simp only[go_sem],by simp only[go_sem],by simp only[go_sem],by simp only[go_sem],.refl _,by cases X <;> simp,by
     have:P++X.take 1++X.drop 1++S=P++X++S:=by rw[Xai P,Xcm]
     rw[this];exact(gU hj).symm⟩,?_⟩
 rintro ρ H ⟨k,M,a8,a7,O,Z,J,T,F,hp,hM,hH⟩;simp only[go_sem,O,Z,J,T,F];refine aA (fun av=>?_) (fun aw=>?_)
 . have ad:k<X.length:=by have:=ltB av;omega
   obtain⟨y,hy⟩:=aN ad;have ar:y∈X:=Xae hy;have aj:M.length=k:=by rw[hp.length_eq,Xal];omega
   have ae:∀z∈M,ok z.1/\z.2<y.2:=fun z hz=>by
     have hz:=hp.mem_iff.1 hz;refine⟨ao z (List.mem_of_mem_take hz),?_⟩;have hX:X=X.take k++y::X.drop (k+1):=by rw[<-zO hy,Xcm]
     rw[hX]at ak;exact(List.pairwise_append.1 ak).2.2 z hz y (List.mem_cons_self ..)
   simp only[go_sem,O,Z,J,T,F];refine⟨fun ρ H=>∃M1 I:List TB,M=M1++I/\(∀z∈I,lt y.1 z.1=true)/\ρ 0=.os j/\ρ 1=int a/\ρ 2=int b/\ρ 3=nL gf/\ρ 8=int (a+k:Nat)/\ρ 9=int (a+M1.length:Nat)/\H=aI H0 j (some (dE (fs (P++M1++y::I++X.drop (k+1)++S)))),fun ρ _=>aT (ρ 9),
     ⟨M,[],by simp,by simp,by simp only[go_sem,O],by simp only[go_sem,Z],by simp only[go_sem,J],by simp only[go_sem,T],by simp only[go_sem,F],by simp only[go_sem,F,aj],by rw[hH,zO hy];simp only[Xai,List.cons_append,Xbf]⟩,?_⟩
   clear O Z J T F hH;rintro ρ H ⟨M1,I,rfl,an,O,Z,J,T,F,e9,hH⟩;have ax:M1.length+I.length=k:=by rw[<-aj,Xac]
   have R:H j=some (dE (fs (P++M1++y::I++X.drop (k+1)++S))):=by rw[hH];exact aB _ _ _
   have aa:(M1=[]\/∃E z,M1=E++[z]/\lt y.1 z.1=false)->(M1++y::I).Perm (X.take (k+1))/\(M1++y::I).Pairwise (tlt lt):=by
     intro al;refine⟨?_,AE hs hM (fun z hz=>?_) (fun z hz=>.inl (an z (List.mem_of_mem_head? hz)))⟩
     . rw[bP hy]
       refine List.perm_middle.trans ?_;exact((hp.cons y)).trans (List.perm_append_singleton y _).symm
     . rcases al with rfl|⟨E,z',rfl,a0⟩
       . cases hz
       . rw[List.getLast?_append,List.getLast?_singleton]at hz
         have:z'=z:=by simpa using hz
         subst this;exact .inr ⟨a0,(ae z' (by simp)).2⟩
   rcases List.eq_nil_or_concat M1 with rfl|⟨E,z,rfl⟩
   . simp only[go_sem,O,Z,J,T,F,e9]
     refine fE [j] [(0,true),(1,true),(2,true),(3,true),(4,true),(5,true),(6,true),(7,true),(8,true),(9,true),(10,true),(11,true),(12,true),(13,true),(14,true),(15,true),(16,true)] (by simp[R]) (by kernel_rfl) fun Hp Hr ah ai az a5=>?_
     have Rp:=(ah j (by simp)).trans R;have a4:decide ((a:Int)>(a:Int))=false:=by simp
     simp only[List.length_nil,Nat.add_zero]at e9;simp only[go_sem,O,Z,J,T,F,e9,Rp,a4,ac];refine⟨int 0,?_⟩;simp only[go_sem,O,Z,J,T,F,e9];refine fI fun _ Hm ag af=>?_
     obtain rfl:=xS ag af ai;refine aA (fun hb=>by cases hb) (fun _=>?_);simp only[go_sem,O,Z,J,T,F,aP (show a+k<=4611686018427387904 by omega)];obtain⟨f1,f2⟩:=aa (.inl rfl);refine⟨⟨k+1,_,by omega,by omega,?_,f1,f2,by rw[hH];simp only[Xai,List.cons_append,Xbf]⟩,by simp only[aE];omega⟩;rw[Xcb]
   . rw[List.concat_eq_append]at *
     have am:(P++(E++[z])++y::I++X.drop (k+1)++S)[a+E.length]?=some z:=by
       rw[ha];simp only[Xai];rw[List.getElem?_append_right (by omega),List.getElem?_append_right (by omega)];simp
     have ap:(P++(E++[z])++y::I++X.drop (k+1)++S)[a+E.length+1]?=some y:=by
       rw[ha];simp only[Xai];rw[List.getElem?_append_right (by omega),List.getElem?_append_right (by omega),List.getElem?_append_right (by simp;omega)];simp[Nat.add_sub_cancel_left,show P.length+E.length+1-P.length-E.length-1=0 by omega]
     simp only[Xac,List.length_singleton]at ax;have a9:(fs (P++(E++[z])++y::I++X.drop (k+1)++S)).length=P.length+X.length+S.length:=by simp[fs];omega
     have b1:(0:Int)<=((a+E.length+1:Nat):Int)/\((a+E.length+1:Nat):Int)<((fs (P++(E++[z])++y::I++X.drop (k+1)++S)).length:Int):=by omega
     have b2:(0:Int)<=((a+E.length:Nat):Int)/\((a+E.length:Nat):Int)<((fs (P++(E++[z])++y::I++X.drop (k+1)++S)).length:Int):=by omega
     have g1:=aF (f:=bI) (nU ap);have g2:=aF (f:=bI) (nU am);obtain⟨n,hn,au⟩:=hc.cmp y.1 z.1 (ao y ar) (ae z (by simp)).1;have ab:ρ 9=int ((a+E.length+1:Nat):Int):=by rw[e9];simp[Xcb]
     have ay:decide (((a+E.length+1:Nat):Int)>(a:Int))=true:=by simp;omega
     have w1:IntKind.i64.wrap (((a+E.length+1:Nat):Int)-1)=((a+E.length:Nat):Int):=by rw[aR (by omega)];omega
     simp only[go_sem,O,Z,J,T,F,ab];refine fE [j] [(0,true),(1,true),(2,true),(3,true),(4,true),(5,true),(6,true),(7,true),(8,true),(9,true),(10,true),(11,true),(12,true),(13,true),(14,true),(15,true),(16,true)] (by simp[R]) (by kernel_rfl) fun Hp Hr ah ai az a5=>?_
     have Rp:=(ah j (by simp)).trans R;simp only[go_sem,O,Z,J,T,F,ab,Rp,ay,ac,w1,g1,g2,b1,b2];refine⟨by omega,by omega,_,au.q rfl,?_⟩;simp only[go_sem,O,Z,J,T,F,ab,hn];refine fI fun _ Hm ag af=>?_
     obtain rfl:=xS ag af ai;refine aA (fun hb=>?_) (fun hb=>?_)
     . simp only[go_sem,O,Z,J,T,F,ab]
       refine vA [] (.q 0 (.q 1 (.q 2 (.q 3 (.q 4 (.q 5 (.q 6 (.q 7 (.q 10 (.q 11 (.a2 8 (.a2 9 (.a1 12 (.a1 13 (.a1 14 (.a1 15 (.a1 16 (.a1 17 (.nil))))))) 12 (.a2 9 (.a1 13 (.a1 14 (.a1 15 (.a1 16 (.a1 17 (.nil)))))) 13 (.a1 9 (.a1 14 (.a1 15 (.a1 16 (.a1 17 (.nil)))))))) 12 (.a2 8 (.a2 9 (.a1 13 (.a1 14 (.a1 15 (.a1 16 (.a1 17 (.nil)))))) 13 (.a1 9 (.a1 14 (.a1 15 (.a1 16 (.a1 17 (.nil))))))) 13 (.a1 8 (.a1 9 (.a1 14 (.a1 15 (.a1 16 (.a1 17 (.nil))))))))))))))))))) (by simp) (by kernel_rfl) fun Hp Hr _ hr _ _=>?_
       obtain rfl:Hr=Hm:=funext fun i=>hr i (by simp)
       have hx:(fs (P++(E++[z])++y::I++X.drop (k+1)++S))[a+E.length+1]?=some y.1:=nU ap;have aq:(fs (P++(E++[z])++y::I++X.drop (k+1)++S))[a+E.length]?=some z.1:=nU am;simp only[go_sem,O,Z,J,T,F,ab,w1,R,b1,b2]
       repeat' (first|(refine mE ?_ ?_)|(refine⟨by omega,?_⟩)|(refine aJ R ⟨by rw[Xaa];omega,bV _,by rw[bV];exact Xaf 8⟩ ?_)|(refine aJ (aB _ _ _) ⟨by rw[Xbh,Xaa];omega,bV _,by rw[bV];exact Xaf 8⟩ ?_)|(refine fI fun _ Hm _ hm=>?_;obtain rfl:Hm=_:=funext fun i=>hm i (by simp))|(simp only[go_sem,O,Z,J,T,F,ab,w1,R,b1,b2,g1,g2,Xbh,Xaa,jS,Xah]))
       all_goals refine⟨⟨E,z::I,by simp,?_,rfl,(Et hx aq (by omega) hH).trans ?_⟩,by simp only[aE];omega⟩
       all_goals first
         | (intro u hu
            rcases Xbn.1 hu with rfl|hu
            . exact hb
            . exact an u hu)
         | (congr 2
            rw[Lw _ _ _ (by omega)];have:=EC (U:=fs (P++E)) (W:=fs (I++X.drop (k+1)++S)) (x:=z.1) (y:=y.1) (i:=a+E.length) (j:=a+E.length+1) (by rw[rN,Xac];omega) (by rw[rN,Xac];omega);simp only[fs,Xam,Xav,Xbg,Xai,List.cons_append,Xbf]at this |-;exact congrArg dE this)
     . simp only[go_sem,O,Z,J,T,F,aP (show a+k<=4611686018427387904 by omega)]
       obtain⟨f1,f2⟩:=aa (.inr ⟨E,z,rfl,hb⟩);refine⟨⟨k+1,_,by omega,by omega,?_,f1,f2,by rw[hH];simp only[Xai,List.cons_append,Xbf]⟩,by simp only[aE];omega⟩;rw[Xcb]
 . have ad : X.length <= k := by have : ¬ a + k < b := fun h => by simp at aw; omega
                                 omega
   rw[Xan ad]at hp;rw[Xby ad,Xah]at hH;simp only[go_sem];rw[hH];exact hK M hp hM _
end Go.Proofs.YtohmomanmikphaaGreatDoor.Nu.Ps
end
section
namespace Go.Proofs.YtohmomanmikphaaGreatDoor.Nu.Ps
open Go.Proofs.Tryz(prog)
open Go.Aw Go.Aw.D Go.Proofs Ty Go.Nu Go.So
theorem Ez{i k:Nat}(h:i+k<=4611686018427387904):IntKind.i64.wrap (shV .shr .u64 (IntKind.u64.wrap (IntKind.i64.wrap ((i:Int)+(k:Int)))) 1)=(((i+k)/2:Nat):Int):=by
 have u:IntKind.u64.wrap ((i+k:Nat):Int)=((i+k:Nat):Int):=by
   have e:IntKind.u64.wrap ((i+k:Nat):Int)=((i+k:Nat):Int)%18446744073709551616:=rfl;rw[e];omega
 rw[Uf h,u];show IntKind.i64.wrap (((i+k:Nat):Int).fdiv (2^min (1:Int).toNat 64))=_;rw[show min (1:Int).toNat 64=1 from rfl,Xcs _ (by decide),aR (by omega)];omega
theorem Yh{P A B S:List TB}{m k:Nat}{y:TB}(E:m=P.length+A.length)(u:B[k]?=some y):(P++A++B++S)[m+k]?=some y:=by
 have F:=(List.getElem?_eq_some_iff.1 u).1;rw[List.getElem?_append_left (by simp;omega),List.getElem?_append_right (by simp;omega),Xac,E,Nat.add_sub_cancel_left,u]
theorem Xo{P A B S:List TB}{a k:Nat}{y:TB}(E:a=P.length)(u:A[k]?=some y):(P++A++B++S)[a+k]?=some y:=by
 have F:=(List.getElem?_eq_some_iff.1 u).1;rw[List.getElem?_append_left (by simp;omega),List.getElem?_append_left (by simp;omega),List.getElem?_append_right (by omega),E,Nat.add_sub_cancel_left,u]
section
variable{gf:Nat}{lt:Priced->Priced->Bool}{ok:Priced->Prop}
set_option maxHeartbeats 8000000 in
theorem AW (hs:SWO lt) (hc:CmpOk gf lt ok):∀(N:Nat) (P A B S:List TB) (a m b j:Nat) (H0:aH) (K:AV->aH->Prop),A.length+B.length<=N->a=P.length->m=a+A.length->b=m+B.length->A≠[]->B≠[] ->
    A.Pairwise (tlt lt)->B.Pairwise (tlt lt)->Dv A B->(∀x∈A,ok x.1)->(∀x∈B,ok x.1)->P.length+A.length+B.length+S.length<=1048576->H0 j=some (dE (fs (P++A++B++S))) ->
    (∀M:List TB,M.Perm (A++B)->M.Pairwise (tlt lt)->∀r,K r (aI H0 j (some (dE (fs (P++M++S))))))->bA prog 106 [.os j,int a,int m,int b,nL gf] H0 K
  | 0,P,A,B,S,a,m,b,j,H0,K,hN,_,_,_,hA,_,_,_,_,_,_,_,_,_=>by
    have:=Xbv.2 hA
    omega
  | N+1,P,A,B,S,a,m,b,j,H0,K,hN,ha,hm,hb,hA,hB,sA,sB,rk,okA,okB,hl,hj,hK=>by
    have ih:=AW hs hc N
    have an:=hc.call
    have b8:=Xbv.2 hA
    have ca:=Xbv.2 hB
    have bk:(fs (P++A++B++S)).length=P.length+A.length+B.length+S.length:=by simp[fs];omega
    refine bA.body (c:=Tryz.f106.body.getD .skip) (fun _=>false) mixed Tryz.func106 rfl (by kernel_rfl) ?_
    unfold Tryz.f106
    simp only[gdS]
    simp only[go_sem]
    simp only[go_sem,Cg (show a<=m by omega) (by omega)]
    refine aA (fun h1=>?_) (fun h1=>?_)
    . have h1:m-a=1:=by have:=eq_of_beq h1;omega
      obtain⟨x,rfl⟩:∃x,A=[x]:=List.length_eq_one_iff.1 (by omega)
      simp only[List.length_singleton]at hm hl bk hN
      simp only[go_sem]
      refine⟨fun ρ H=>∃i i':Nat,m<=i/\i<=i'/\i'<=b/\(i=m\/∃y,B[i-1-m]?=some y/\lt y.1 x.1=true)/\(i'=b\/∃y,B[i'-m]?=some y/\lt y.1 x.1=false)/\ρ 0=.os j/\ρ 1=int a/\ρ 4=nL gf/\ρ 10=int i/\ρ 11=int i'/\H=H0,fun ρ _=>aT (ρ 11)-aT (ρ 10),
        ⟨m,b,Xaf _,by omega,Xaf _,.inl rfl,.inl rfl,by simp only[go_sem],by simp only[go_sem],by simp only[go_sem],by simp only[go_sem],by simp only[go_sem],rfl⟩,?_⟩
      rintro ρ H ⟨i,i',ba,ax,bp,q1,q2,I,e1,e4,ad,ao,aa⟩
      have ag:H j=some (dE (fs (P++[x]++B++S))):=aa▸hj
      simp only[go_sem,I,e1,e4,ad,ao]
      refine aA (fun J=>?_) (fun ac=>?_)
      . have J:=ltB J
        obtain⟨k,hk⟩:∃k,(i+i')/2=m+k:=⟨(i+i')/2-m,by omega⟩
        obtain⟨y,hy⟩:=aN (l:=B) (k:=k) (by omega)
        obtain⟨n,hn,av⟩:=hc.cmp y.1 x.1 (okB y (Xae hy)) (okA x (by simp))
        have g1:=aF (f:=bI) (nU (Yh (S:=S) (show m=P.length+[x].length by simp;omega) hy))
        have g2:=aF (f:=bI) (nU (Xo (B:=B) (S:=S) ha (show[x][0]?=some x from rfl)))
        simp only[Nat.add_zero]at g2
        have b1:(0:Int)<=((m+k:Nat):Int)/\((m+k:Nat):Int)<((fs (P++[x]++B++S)).length:Int):=by omega
        have b2:(0:Int)<=((a:Nat):Int)/\((a:Nat):Int)<((fs (P++[x]++B++S)).length:Int):=by omega
        have wh:=Ez (i:=i) (k:=i') (by omega)
        rw[hk]at wh
        simp only[go_sem,I,e1,e4,ad,ao,wh]
        refine⟨by decide,?_⟩
        refine fE [j] [(0,true),(1,true),(2,true),(3,true),(4,true),(5,true),(6,true),(7,true),(8,true),(9,true),(10,true)] (by simp[ag]) (by kernel_rfl) fun Hp Hr ah a4 a8 bt=>?_
        have Rp:=(ah j (by simp)).trans ag
        simp only[go_sem,I,e1,e4,ad,ao,Rp,an,g1,g2,b1,b2]
        refine⟨by omega,by omega,_,av.q rfl,?_⟩
        simp only[go_sem,I,e1,e4,ad,ao,hn]
        refine fI fun _ Hm ar aq=>?_
        obtain rfl:=xS ar aq a4
        refine aA (fun ai=>?_) (fun ai=>?_)
        . simp only[go_sem,I,e1,e4,ao,aP (show m+k<=4611686018427387904 by omega)]
          exact⟨⟨m+k+1,i',by omega,by omega,by omega,.inr ⟨y,by rw[show m+k+1-1-m=k by omega];exact hy,ai⟩,q2,rfl,rfl,aa⟩,by simp only[aE];omega⟩
        . simp only[go_sem,I,e1,e4,ad]
          exact⟨⟨i,m+k,by omega,by omega,by omega,q1,.inr ⟨y,by rw[show m+k-m=k by omega];exact hy,ai⟩,rfl,rfl,aa⟩,by simp only[aE];omega⟩
      . have ac:i=i':=geB ax ac
        subst ac
        obtain⟨B1,B2,T,au,b5⟩:=rT (l:=B) (n:=i-m) (by omega)
        have aw:(B1++x::B2).Pairwise (tlt lt):=by
          refine AE hs (T▸sB) (fun z hz=>?_) (fun z hz=>?_)
          . rcases q1 with rfl|⟨y,hy,J⟩
            . rw[Nat.sub_self]at au
              rw[Xas.1 au]at hz;cases hz
            . have bj : 0 < B1.length := by
                rcases Xbx B1.length with h0|h0
                . rw[Xas.1 h0]at hz;cases hz
                . exact h0
              rw[T,List.getElem?_append_left (by omega),show i-1-m=B1.length-1 by omega,<-List.getLast?_eq_getElem?,hz]at hy
              have:z=y:=by simpa using hy
              subst this
              exact .inl J
          . rcases q2 with rfl|⟨y,hy,J⟩
            . have:B2=[]:=Xas.1 (by omega)
              rw[this]at hz;cases hz
            . rw[T,List.getElem?_append_right (by omega),show i-m-B1.length=0 by omega,<-List.head?_eq_getElem?,hz]at hy
              have:z=y:=by simpa using hy
              subst this
              exact .inr ⟨J,rk x (by simp) z (by rw[T];exact Xcj _ (List.mem_of_mem_head? hz))⟩
        simp only[go_sem,I,e1,ad]
        refine⟨fun ρ H=>∃Q R':List TB,B1=Q++R'/\ρ 0=.os j/\ρ 10=int i/\ρ 13=int (a+Q.length:Nat)/\H=aI H0 j (some (dE (fs (P++Q++x::R'++B2++S)))),fun ρ _=>i-aT (ρ 13),
          ⟨[],B1,rfl,by simp only[go_sem,I],by simp only[go_sem,ad],by simp only[go_sem,List.length_nil,Nat.add_zero],by
            have:P++[]++x::B1++B2++S=P++[x]++B++S:=by rw[T];simp
            rw[this,aa];exact(gU hj).symm⟩,?_⟩
        clear I e1 e4 ad ao ag aa
        rintro ρ H ⟨Q,R',hQ,I,ad,a9,hH⟩
        have bm:Q.length+R'.length=B1.length:=by rw[hQ,Xac]
        have R:H j=some (dE (fs (P++Q++x::R'++B2++S))):=by rw[hH];exact aB _ _ _
        have w0:IntKind.i64.wrap ((i:Int)-1)=((i-1:Nat):Int):=by rw[aR (by omega)];omega
        simp only[go_sem,I,ad,a9,w0]
        refine aA (fun J=>?_) (fun ac=>?_)
        . have J:Q.length<B1.length:=by have:=ltB J;omega
          obtain⟨y,F,rfl⟩:∃y F,R'=y::F:=List.exists_cons_of_length_pos (by omega)
          simp only[Xad]at bm
          have ay:(fs (P++Q++x::y::F++B2++S))[a+Q.length]?=some x.1:=by
            refine nU ?_
            rw[ha];simp only[Xai];rw[List.getElem?_append_right (by omega),List.getElem?_append_right (by omega)];simp
          have az:(fs (P++Q++x::y::F++B2++S))[a+Q.length+1]?=some y.1:=by
            refine nU ?_
            rw[ha];simp only[Xai];rw[List.getElem?_append_right (by omega),List.getElem?_append_right (by omega)];simp[show P.length+Q.length+1-P.length-Q.length=1 by omega]
          have bq:(fs (P++Q++x::y::F++B2++S)).length=P.length+1+B.length+S.length:=by simp[fs];omega
          have b1:(0:Int)<=((a+Q.length+1:Nat):Int)/\((a+Q.length+1:Nat):Int)<((fs (P++Q++x::y::F++B2++S)).length:Int):=by omega
          have b2:(0:Int)<=((a+Q.length:Nat):Int)/\((a+Q.length:Nat):Int)<((fs (P++Q++x::y::F++B2++S)).length:Int):=by omega
          have g1:=aF (f:=bI) az
          have g2:=aF (f:=bI) ay
          have w1:=aP (show a+Q.length<=4611686018427387904 by omega)
          simp only[go_sem,I,ad,a9,w1]
          refine vA [] (.q 0 (.q 1 (.q 2 (.q 3 (.q 4 (.q 5 (.q 6 (.q 7 (.q 10 (.q 11 (.a2 8 (.a2 9 (.a1 12 (.a1 13 (.a1 14 (.a1 15 (.a1 16 (.a1 17 (.nil))))))) 12 (.a2 9 (.a1 13 (.a1 14 (.a1 15 (.a1 16 (.a1 17 (.nil)))))) 13 (.a1 9 (.a1 14 (.a1 15 (.a1 16 (.a1 17 (.nil)))))))) 12 (.a2 8 (.a2 9 (.a1 13 (.a1 14 (.a1 15 (.a1 16 (.a1 17 (.nil)))))) 13 (.a1 9 (.a1 14 (.a1 15 (.a1 16 (.a1 17 (.nil))))))) 13 (.a1 8 (.a1 9 (.a1 14 (.a1 15 (.a1 16 (.a1 17 (.nil))))))))))))))))))) (by simp) (by kernel_rfl) fun Hp Hr _ hr _ _=>?_
          obtain rfl:Hr=H:=funext fun i=>hr i (by simp)
          simp only[go_sem,I,ad,a9,w1,R,b1,b2]
          repeat' (first|(refine mE ?_ ?_)|(refine⟨by omega,?_⟩)|(refine aJ R ⟨by rw[Xaa];omega,bV _,by rw[bV];exact Xaf 8⟩ ?_)|(refine aJ (aB _ _ _) ⟨by rw[Xbh,Xaa];omega,bV _,by rw[bV];exact Xaf 8⟩ ?_)|(refine fI fun _ Hm _ hm=>?_;obtain rfl:Hm=_:=funext fun i=>hm i (by simp))|(simp only[go_sem,I,ad,a9,w1,R,b1,b2,g1,g2,Xbh,Xaa,jS,Xah]))
          all_goals refine⟨⟨Q++[y],F,by rw[hQ];simp,?_,(Et ay az (by omega) hH).trans ?_⟩,by simp only[aE];omega⟩
          all_goals first
            | (rw[Xac,List.length_singleton,Xcb])
            | (congr 2
               have:=EC (U:=fs (P++Q)) (W:=fs (F++B2++S)) (x:=x.1) (y:=y.1) (i:=a+Q.length) (j:=a+Q.length+1) (by rw[rN,Xac];omega) (by rw[rN,Xac];omega)
               simp only[fs,Xam,Xav,Xbg,Xai,List.cons_append,Xbf]at this |-
               exact congrArg dE this)
        . have b3:R'=[]:=Xas.1 (by have h':¬a+Q.length<i-1:=(fun h=>by simp at ac;omega);omega)
          subst b3
          rw[Xah]at hQ
          simp only[go_sem]
          have:P++Q++[x]++B2++S=P++(B1++x::B2)++S:=by rw[hQ];simp
          rw[hH,this]
          refine hK _ ?_ aw _
          rw[T]
          exact List.perm_middle
    have h1:¬A.length=1:=fun h=>by
      have:((m-a:Nat):Int)=1:=by omega
      rw[this]at h1;cases h1
    simp only[go_sem,Cg (show m<=b by omega) (by omega)]
    refine aA (fun h2=>?_) (fun h2=>?_)
    . have h2:b-m=1:=by have:=eq_of_beq h2;omega
      obtain⟨y,rfl⟩:∃y,B=[y]:=List.length_eq_one_iff.1 (by omega)
      simp only[List.length_singleton]at hb hl bk hN
      simp only[go_sem]
      refine⟨fun ρ H=>∃i i':Nat,a<=i/\i<=i'/\i'<=m/\(i=a\/∃z,A[i-1-a]?=some z/\lt y.1 z.1=false)/\(i'=m\/∃z,A[i'-a]?=some z/\lt y.1 z.1=true)/\ρ 0=.os j/\ρ 2=int m/\ρ 4=nL gf/\ρ 14=int i/\ρ 15=int i'/\H=H0,fun ρ _=>aT (ρ 15)-aT (ρ 14),
        ⟨a,m,Xaf _,by omega,Xaf _,.inl rfl,.inl rfl,by simp only[go_sem],by simp only[go_sem],by simp only[go_sem],by simp only[go_sem],by simp only[go_sem],rfl⟩,?_⟩
      rintro ρ H ⟨i,i',ba,ax,bp,q1,q2,I,e2,e4,ae,ap,aa⟩
      have ag:H j=some (dE (fs (P++A++[y]++S))):=aa▸hj
      simp only[go_sem,I,e2,e4,ae,ap]
      refine aA (fun J=>?_) (fun ac=>?_)
      . have J:=ltB J
        obtain⟨k,hk⟩:∃k,(i+i')/2=a+k:=⟨(i+i')/2-a,by omega⟩
        obtain⟨z,hz⟩:=aN (l:=A) (k:=k) (by omega)
        obtain⟨n,hn,av⟩:=hc.cmp y.1 z.1 (okB y (by simp)) (okA z (Xae hz))
        have g1:=aF (f:=bI) (nU (Yh (A:=A) (S:=S) (show m=P.length+A.length by omega) (show[y][0]?=some y from rfl)))
        simp only[Nat.add_zero]at g1
        have g2:=aF (f:=bI) (nU (Xo (B:=[y]) (S:=S) ha hz))
        have b1:(0:Int)<=((m:Nat):Int)/\((m:Nat):Int)<((fs (P++A++[y]++S)).length:Int):=by omega
        have b2:(0:Int)<=((a+k:Nat):Int)/\((a+k:Nat):Int)<((fs (P++A++[y]++S)).length:Int):=by omega
        have wh:=Ez (i:=i) (k:=i') (by omega)
        rw[hk]at wh
        simp only[go_sem,I,e2,e4,ae,ap,wh]
        refine⟨by decide,?_⟩
        refine fE [j] [(0,true),(1,true),(2,true),(3,true),(4,true),(5,true),(6,true),(7,true),(8,true),(9,true),(10,true),(11,true)] (by simp[ag]) (by kernel_rfl) fun Hp Hr ah a4 a8 bt=>?_
        have Rp:=(ah j (by simp)).trans ag
        simp only[go_sem,I,e2,e4,ae,ap,Rp,an,g1,g2,b1,b2]
        refine⟨by omega,by omega,_,av.q rfl,?_⟩
        simp only[go_sem,I,e2,e4,ae,ap,hn]
        refine fI fun _ Hm ar aq=>?_
        obtain rfl:=xS ar aq a4
        refine aA (fun ai=>?_) (fun ai=>?_)
        . simp only[go_sem,I,e2,e4,ap,aP (show a+k<=4611686018427387904 by omega)]
          exact⟨⟨a+k+1,i',by omega,by omega,by omega,.inr ⟨z,by rw[show a+k+1-1-a=k by omega];exact hz,by simpa using ai⟩,q2,rfl,rfl,aa⟩,by simp only[aE];omega⟩
        . simp only[go_sem,I,e2,e4,ae]
          exact⟨⟨i,a+k,by omega,by omega,by omega,q1,.inr ⟨z,by rw[show a+k-a=k by omega];exact hz,by simpa using ai⟩,rfl,rfl,aa⟩,by simp only[aE];omega⟩
      . have ac:i=i':=geB ax ac
        subst ac
        obtain⟨A1,A2,Z,au,b5⟩:=rT (l:=A) (n:=i-a) (by omega)
        have aw:(A1++y::A2).Pairwise (tlt lt):=by
          refine AE hs (Z▸sA) (fun z hz=>?_) (fun z hz=>?_)
          . rcases q1 with rfl|⟨u,hu,J⟩
            . rw[Nat.sub_self]at au
              rw[Xas.1 au]at hz;cases hz
            . have bj : 0 < A1.length := by
                rcases Xbx A1.length with h0|h0
                . rw[Xas.1 h0]at hz;cases hz
                . exact h0
              rw[Z,List.getElem?_append_left (by omega),show i-1-a=A1.length-1 by omega,<-List.getLast?_eq_getElem?,hz]at hu
              have:z=u:=by simpa using hu
              subst this
              exact .inr ⟨J,rk z (by rw[Z];exact Xck _ (List.mem_of_getLast? hz)) y (by simp)⟩
          . rcases q2 with rfl|⟨u,hu,J⟩
            . have:A2=[]:=Xas.1 (by omega)
              rw[this]at hz;cases hz
            . rw[Z,List.getElem?_append_right (by omega),show i-a-A1.length=0 by omega,<-List.head?_eq_getElem?,hz]at hu
              have:z=u:=by simpa using hu
              subst this
              exact .inl J
        simp only[go_sem,I,e2,ae]
        refine⟨fun ρ H=>∃R' Q:List TB,A2=R'++Q/\ρ 0=.os j/\ρ 14=int i/\ρ 17=int (i+R'.length:Nat)/\H=aI H0 j (some (dE (fs (P++A1++R'++y::Q++S)))),fun ρ _=>aT (ρ 17),
          ⟨A2,[],by simp,by simp only[go_sem,I],by simp only[go_sem,ae],by simp only[go_sem,e2];rw[show m=i+A2.length by omega],by
            have:P++A1++A2++[y]++S=P++A++[y]++S:=by rw[Z];simp
            rw[this,aa];exact(gU hj).symm⟩,?_⟩
        clear I e2 e4 ae ap ag aa
        rintro ρ H ⟨R',Q,hQ,I,ae,a5,hH⟩
        have bm:R'.length+Q.length=A2.length:=by rw[hQ,Xac]
        have R:H j=some (dE (fs (P++A1++R'++y::Q++S))):=by rw[hH];exact aB _ _ _
        simp only[go_sem,I,ae,a5]
        rcases List.eq_nil_or_concat R' with rfl|⟨F,z,rfl⟩
        . simp only[List.length_nil,Nat.add_zero]at a5
          refine aA (fun J=>by simp at J) (fun ac=>?_)
          rw[Xbf]at hQ
          simp only[go_sem]
          have:P++A1++[]++y::Q++S=P++(A1++y::A2)++S:=by rw[hQ];simp
          rw[hH,this]
          refine hK _ ?_ aw _
          rw[Z]
          refine List.perm_middle.trans ?_
          exact(List.perm_append_singleton y _).symm
        . rw[List.concat_eq_append]at *
          simp only[Xac,List.length_singleton]at bm a5
          refine aA (fun J=>?_) (fun ac=>by simp at ac;omega)
          have ay:(fs (P++A1++(F++[z])++y::Q++S))[i+F.length+1]?=some y.1:=by
            refine nU ?_
            rw[show i+F.length+1=P.length+(A1.length+(F.length+1))by omega]
            simp only[Xai];rw[List.getElem?_append_right (by omega),List.getElem?_append_right (by omega),List.getElem?_append_right (by omega)];simp
          have az:(fs (P++A1++(F++[z])++y::Q++S))[i+F.length]?=some z.1:=by
            refine nU ?_
            rw[show i+F.length=P.length+(A1.length+F.length)by omega]
            simp only[Xai];rw[List.getElem?_append_right (by omega),List.getElem?_append_right (by omega),List.getElem?_append_right (by omega)];simp
          have bq:(fs (P++A1++(F++[z])++y::Q++S)).length=P.length+A.length+1+S.length:=by simp[fs];omega
          have b1:(0:Int)<=((i+F.length+1:Nat):Int)/\((i+F.length+1:Nat):Int)<((fs (P++A1++(F++[z])++y::Q++S)).length:Int):=by omega
          have b2:(0:Int)<=((i+F.length:Nat):Int)/\((i+F.length:Nat):Int)<((fs (P++A1++(F++[z])++y::Q++S)).length:Int):=by omega
          have g1:=aF (f:=bI) ay
          have g2:=aF (f:=bI) az
          have a0:ρ 17=int ((i+F.length+1:Nat):Int):=a5
          have w1:IntKind.i64.wrap (((i+F.length+1:Nat):Int)-1)=((i+F.length:Nat):Int):=by rw[aR (by omega)];omega
          simp only[go_sem,I,ae,a0,w1]
          refine vA [] (.q 0 (.q 1 (.q 2 (.q 3 (.q 4 (.q 5 (.q 6 (.q 7 (.q 10 (.q 11 (.a2 8 (.a2 9 (.a1 12 (.a1 13 (.a1 14 (.a1 15 (.a1 16 (.a1 17 (.nil))))))) 12 (.a2 9 (.a1 13 (.a1 14 (.a1 15 (.a1 16 (.a1 17 (.nil)))))) 13 (.a1 9 (.a1 14 (.a1 15 (.a1 16 (.a1 17 (.nil)))))))) 12 (.a2 8 (.a2 9 (.a1 13 (.a1 14 (.a1 15 (.a1 16 (.a1 17 (.nil)))))) 13 (.a1 9 (.a1 14 (.a1 15 (.a1 16 (.a1 17 (.nil))))))) 13 (.a1 8 (.a1 9 (.a1 14 (.a1 15 (.a1 16 (.a1 17 (.nil))))))))))))))))))) (by simp) (by kernel_rfl) fun Hp Hr _ hr _ _=>?_
          obtain rfl:Hr=H:=funext fun i=>hr i (by simp)
          simp only[go_sem,I,ae,a0,w1,R,b1,b2]
          repeat' (first|(refine mE ?_ ?_)|(refine⟨by omega,?_⟩)|(refine aJ R ⟨by rw[Xaa];omega,bV _,by rw[bV];exact Xaf 8⟩ ?_)|(refine aJ (aB _ _ _) ⟨by rw[Xbh,Xaa];omega,bV _,by rw[bV];exact Xaf 8⟩ ?_)|(refine fI fun _ Hm _ hm=>?_;obtain rfl:Hm=_:=funext fun i=>hm i (by simp))|(simp only[go_sem,I,ae,a0,w1,R,b1,b2,g1,g2,Xbh,Xaa,jS,Xah]))
          all_goals refine⟨⟨F,z::Q,by rw[hQ];simp,rfl,(Et ay az (by omega) hH).trans ?_⟩,by simp only[aE,Xac,List.length_singleton];omega⟩
          all_goals congr 2
          all_goals rw[Lw _ _ _ (by omega)]
          all_goals have:=EC (U:=fs (P++A1++F)) (W:=fs (Q++S)) (x:=z.1) (y:=y.1) (i:=i+F.length) (j:=i+F.length+1) (by rw[rN,Xac,Xac];omega) (by rw[rN,Xac,Xac];omega)
          all_goals simp only[fs,Xam,Xav,Xbg,Xai,List.cons_append,Xbf]at this |-
          all_goals exact congrArg dE this
    have h2:¬B.length=1:=fun h=>by
      have:((b-m:Nat):Int)=1:=by omega
      rw[this]at h2;cases h2
    have bd:=Ez (i:=a) (k:=b) (by omega)
    obtain⟨E,hmid⟩:∃E,(a+b)/2=E:=⟨_,rfl⟩
    rw[hmid]at bd
    simp only[go_sem,bd]
    refine⟨by decide,?_⟩
    simp only[go_sem,Uf (show E+m<=4611686018427387904 by omega)]
    -- where the search begins and ends
    obtain⟨s0,hs0⟩:∃s0,s0=if E<m then E+m-b else a:=⟨_,rfl⟩
    obtain⟨r0,hr0⟩:∃r0,r0=if E<m then E else m:=⟨_,rfl⟩
    refine bH (fun ρ H=>ρ 0=.os j/\ρ 1=int a/\ρ 2=int m/\ρ 3=int b/\ρ 4=nL gf/\ρ 18=int E/\ρ 19=int (E+m:Nat)/\ρ 20=int s0/\ρ 21=int r0/\H=H0) ?_ fun K' al=>aA (fun h=>?_) (fun h=>?_)
    rotate_left
    . have h:E<m:=ltB h
      rw[if_pos h]at hs0 hr0
      simp only[go_sem,Cg (show b<=E+m by omega) (by omega)]
      exact al _ _ ⟨by simp only[go_sem],by simp only[go_sem],by simp only[go_sem],by simp only[go_sem],by simp only[go_sem],by simp only[go_sem],by simp only[go_sem],by simp only[go_sem,hs0],by simp only[go_sem,hr0],rfl⟩
    . have h:¬E<m:=by simpa using h
      rw[if_neg h]at hs0 hr0
      simp only[go_sem]
      exact al _ _ ⟨by simp only[go_sem],by simp only[go_sem],by simp only[go_sem],by simp only[go_sem],by simp only[go_sem],by simp only[go_sem],by simp only[go_sem],by simp only[go_sem,hs0],by simp only[go_sem,hr0],rfl⟩
    rintro ρ H ⟨I,e1,e2,e3,e4,O,af,ab,aj,aa⟩
    have b6:s0<=r0/\a<=s0/\r0<=m/\r0<=E:=by rw[hs0,hr0];split <;> omega
    simp only[go_sem,I,e1,e2,e3,e4,O,af,ab,aj]
    have wp:IntKind.i64.wrap (((E+m:Nat):Int)-1)=((E+m-1:Nat):Int):=by rw[aR (by omega)];omega
    simp only[go_sem,wp]
    refine⟨fun ρ H=>∃st r:Nat,s0<=st/\st<=r/\r<=r0/\(st=s0\/∃z y,A[st-1-a]?=some z/\B[E+m-st-m]?=some y/\lt y.1 z.1=false)/\(r=r0\/∃z y,A[r-a]?=some z/\B[E+m-1-r-m]?=some y/\lt y.1 z.1=true)/\ρ 0=.os j/\ρ 1=int a/\ρ 2=int m/\ρ 3=int b/\ρ 4=nL gf/\ρ 18=int E/\ρ 19=int (E+m:Nat)/\ρ 22=int (E+m-1:Nat)/\ρ 20=int st/\ρ 21=int r/\H=H0,fun ρ _=>aT (ρ 21)-aT (ρ 20),
      ⟨s0,r0,Xaf _,b6.1,Xaf _,.inl rfl,.inl rfl,by simp only[go_sem,I],by simp only[go_sem,e1],by simp only[go_sem,e2],by simp only[go_sem,e3],by simp only[go_sem,e4],by simp only[go_sem,O],by simp only[go_sem,af],by simp only[go_sem],by simp only[go_sem,ab],by simp only[go_sem,aj],aa⟩,?_⟩
    clear I e1 e2 e3 e4 O af ab aj aa
    rintro ρ H ⟨st,r,ba,ax,bp,q1,q2,I,e1,e2,e3,e4,O,af,ak,ab,aj,aa⟩
    have ag:H j=some (dE (fs (P++A++B++S))):=aa▸hj
    simp only[go_sem,I,e1,e2,e3,e4,O,af,ak,ab,aj]
    refine aA (fun J=>?_) (fun ac=>?_)
    . have J:=ltB J
      obtain⟨c,hc0⟩:∃c,(st+r)/2=c:=⟨_,rfl⟩
      have wh:=Ez (i:=st) (k:=r) (by omega)
      rw[hc0]at wh
      have bv:s0<=c/\c<r0/\st<=c/\c<r:=by omega
      have b9:m<=E+m-1-c/\E+m-1-c<b:=by
        rw[hs0,hr0]at bv
        split at bv <;> omega
      obtain⟨z,hz⟩:=aN (l:=A) (k:=c-a) (by omega)
      obtain⟨y,hy⟩:=aN (l:=B) (k:=E+m-1-c-m) (by omega)
      obtain⟨n,hn,av⟩:=hc.cmp y.1 z.1 (okB y (Xae hy)) (okA z (Xae hz))
      have g1:=aF (f:=bI) (nU (Yh (A:=A) (S:=S) (show m=P.length+A.length by omega) hy))
      have g2:=aF (f:=bI) (nU (Xo (B:=B) (S:=S) ha hz))
      rw[show m+(E+m-1-c-m)=E+m-1-c by omega]at g1
      rw[show a+(c-a)=c by omega]at g2
      have b1:(0:Int)<=((E+m-1-c:Nat):Int)/\((E+m-1-c:Nat):Int)<((fs (P++A++B++S)).length:Int):=by omega
      have b2:(0:Int)<=((c:Nat):Int)/\((c:Nat):Int)<((fs (P++A++B++S)).length:Int):=by omega
      have b0:=Cg (a:=E+m-1) (b:=c) (by omega) (by omega)
      simp only[go_sem,I,e1,e2,e3,e4,O,af,ak,ab,aj,wh]
      refine⟨by decide,?_⟩
      refine fE [j] [(0,true),(1,true),(2,true),(3,true),(4,true),(5,true),(6,true),(7,true),(8,true),(9,true),(10,true),(11,true),(12,true),(13,true)] (by simp[ag]) (by kernel_rfl) fun Hp Hr ah a4 a8 bt=>?_
      have Rp:=(ah j (by simp)).trans ag
      simp only[go_sem,I,e1,e2,e3,e4,O,af,ak,ab,aj,Rp,an,b0,g1,g2,b1,b2]
      refine⟨by omega,by omega,_,av.q rfl,?_⟩
      simp only[go_sem,I,e1,e2,e3,e4,O,af,ak,ab,aj,hn]
      refine fI fun _ Hm ar aq=>?_
      obtain rfl:=xS ar aq a4
      refine aA (fun ai=>?_) (fun ai=>?_)
      . simp only[go_sem,I,e1,e2,e3,e4,O,af,ak,aj,aP (show c<=4611686018427387904 by omega)]
        exact⟨⟨c+1,r,by omega,by omega,by omega,.inr ⟨z,y,by rw[show c+1-1-a=c-a by omega];exact hz,by rw[show E+m-(c+1)-m=E+m-1-c-m by omega];exact hy,by simpa using ai⟩,q2,rfl,rfl,aa⟩,by simp only[aE];omega⟩
      . simp only[go_sem,I,e1,e2,e3,e4,O,af,ak,ab]
        exact⟨⟨st,c,by omega,by omega,by omega,q1,.inr ⟨z,y,hz,hy,by simpa using ai⟩,rfl,rfl,aa⟩,by simp only[aE];omega⟩
    have ac:st=r:=geB ax ac
    subst ac
    obtain⟨A1,A2,Z,bg,bc⟩:=rT (l:=A) (n:=st-a) (by omega)
    have bz:E-st<=B.length:=by rw[hs0]at ba;split at ba <;> omega
    obtain⟨B1,B2,T,bf,bh⟩:=rT bz
    have cd:E+m-st=m+B1.length:=by omega
    -- the cuts fit
    have f1:∀x y:TB,A1.getLast?=some x->B2.head?=some y->tlt lt x y:=by
      intro x y hx hy
      rcases q1 with h0|⟨z,w,hz,hw,J⟩
      . rw[hs0]at h0
        split at h0
        . have:B2=[]:=Xas.1 (by omega)
          rw[this]at hy;cases hy
        . have:A1=[]:=Xas.1 (by omega)
          rw[this]at hx;cases hx
      . have bj : 0 < A1.length := by
          rcases Xbx A1.length with h0|h0
          . rw[Xas.1 h0]at hx;cases hx
          . exact h0
        rw[Z,List.getElem?_append_left (by omega),show st-1-a=A1.length-1 by omega,<-List.getLast?_eq_getElem?,hx]at hz
        rw[T,List.getElem?_append_right (by omega),show E+m-st-m-B1.length=0 by omega,<-List.head?_eq_getElem?,hy]at hw
        have e1:x=z:=by simpa using hz
        have e2:y=w:=by simpa using hw
        subst e1;subst e2
        exact .inr ⟨J,rk x (by rw[Z];exact Xck _ (List.mem_of_getLast? hx)) y (by rw[T];exact Xcj _ (List.mem_of_mem_head? hy))⟩
    have f2:∀x y:TB,B1.getLast?=some x->A2.head?=some y->tlt lt x y:=by
      intro x y hx hy
      rcases q2 with h0|⟨z,w,hz,hw,J⟩
      . rw[hr0]at h0
        split at h0
        . have:B1=[]:=Xas.1 (by omega)
          rw[this]at hx;cases hx
        . have:A2=[]:=Xas.1 (by omega)
          rw[this]at hy;cases hy
      . have bj : 0 < B1.length := by
          rcases Xbx B1.length with h0|h0
          . rw[Xas.1 h0]at hx;cases hx
          . exact h0
        rw[Z,List.getElem?_append_right (by omega),show st-a-A1.length=0 by omega,<-List.head?_eq_getElem?,hy]at hz
        rw[T,List.getElem?_append_left (by omega),show E+m-1-st-m=B1.length-1 by omega,<-List.getLast?_eq_getElem?,hx]at hw
        have e1:y=z:=by simpa using hz
        have e2:x=w:=by simpa using hw
        subst e1;subst e2
        exact .inl J
    have bb:=List.pairwise_append.1 (Z▸sA)
    have a6:=List.pairwise_append.1 (T▸sB)
    have bx:=Cg (a:=E+m) (b:=st) (by omega) (by omega)
    simp only[go_sem,I,e1,e2,e3,e4,O,af,ak,ab,bx]
    refine bH (fun ρ H=>ρ 0=.os j/\ρ 1=int a/\ρ 2=int m/\ρ 3=int b/\ρ 4=nL gf/\ρ 18=int E/\ρ 20=int st/\ρ 24=int (E+m-st:Nat)/\H=aI H0 j (some (dE (fs (P++A1++B1++A2++B2++S))))) ?_ fun K' al=>aA (fun h=>?_) (fun h=>?_)
    rotate_left
    . have h:st<m/\m<E+m-st:=by simp at h;omega
      have be:fs (P++A++B++S)=fs (P++A1)++fs A2++fs B1++fs (B2++S):=by rw[Z,T];simp only[fs,Xam,Xai]
      simp only[go_sem,I,e2,e4,ab]
      refine W0 (fs (P++A1)) (fs A2) (fs B1) (fs (B2++S)) st m (E+m-st) j gf _ _ (by rw[rN,Xac];omega) (by rw[rN];omega) (by rw[rN];omega) (fun e=>by have:=rN A2;rw[e]at this;simp at this;omega) (fun e=>by have:=rN B1;rw[e]at this;simp at this;omega) (by rw[<-be,bk];exact hl) (by rw[ag,be]) fun rr=>?_
      simp only[go_sem]
      refine al _ _ ⟨by simp only[go_sem,I],by simp only[go_sem,e1],by simp only[go_sem,e2],by simp only[go_sem,e3],by simp only[go_sem,e4],by simp only[go_sem,O],by simp only[go_sem,ab],by simp only[go_sem],?_⟩
      rw[aa]
      congr 3
      simp only[fs,Xam,Xai]
    . have h:¬(st<m/\m<E+m-st):=by simp at h;omega
      simp only[go_sem]
      refine al _ _ ⟨by simp only[go_sem,I],by simp only[go_sem,e1],by simp only[go_sem,e2],by simp only[go_sem,e3],by simp only[go_sem,e4],by simp only[go_sem,O],by simp only[go_sem,ab],by simp only[go_sem],?_⟩
      have hz:A2=[]\/B1=[]:=by
        by_cases bw:st<m
        . exact .inr (Xas.1 (by omega))
        . exact .inl (Xas.1 (by omega))
      have:P++A1++B1++A2++B2++S=P++A++B++S:=by
        rw[Z,T]
        rcases hz with rfl|rfl <;> simp
      rw[this,aa];exact(gU hj).symm
    clear I e1 e2 e3 e4 O af ak ab aj aa ag
    rintro ρ H ⟨I,e1,e2,e3,e4,O,ab,am,hH⟩
    have bu:∀x∈A1,ok x.1:=fun x hx=>okA x (by rw[Z];exact Xck _ hx)
    have br:∀x∈A2,ok x.1:=fun x hx=>okA x (by rw[Z];exact Xcj _ hx)
    have bo:∀x∈B1,ok x.1:=fun x hx=>okB x (by rw[T];exact Xck _ hx)
    have bn:∀x∈B2,ok x.1:=fun x hx=>okB x (by rw[T];exact Xcj _ hx)
    have b7:Dv A1 B1:=fun x hx y hy=>rk x (by rw[Z];exact Xck _ hx) y (by rw[T];exact Xck _ hy)
    have b4:Dv A2 B2:=fun x hx y hy=>rk x (by rw[Z];exact Xcj _ hx) y (by rw[T];exact Xcj _ hy)
    have cc:A1.length+B1.length=E-a/\A2.length+B2.length=b-E/\a<E/\E<b:=by omega
    simp only[go_sem,I,e1,e2,e3,e4,O,ab,am]
    refine bH (fun ρ H=>ρ 0=.os j/\ρ 3=int b/\ρ 4=nL gf/\ρ 18=int E/\ρ 24=int (E+m-st:Nat)/\∃M1:List TB,M1.Perm (A1++B1)/\M1.Pairwise (tlt lt)/\H=aI H0 j (some (dE (fs (P++M1++A2++B2++S))))) ?_ fun K' al=>aA (fun h=>?_) (fun h=>?_)
    rotate_left
    . have h:a<st/\st<E:=by simp at h;omega
      simp only[go_sem,I,e1,e4,O,ab]
      refine ih P A1 B1 (A2++B2++S) a st E j H _ (by omega) ha (by omega) (by omega) (fun e=>by rw[e]at bg;simp at bg;omega) (fun e=>by rw[e]at bf;simp at bf;omega) bb.1 a6.1 b7 bu bo (by simp only[Xac];omega) (by rw[hH,aB];simp only[Xai]) fun M1 ah a7 rr=>?_
      simp only[go_sem]
      refine al _ _ ⟨by simp only[go_sem,I],by simp only[go_sem,e3],by simp only[go_sem,e4],by simp only[go_sem,O],by simp only[go_sem,am],M1,ah,a7,?_⟩
      rw[hH,gZ];simp only[Xai]
    . have h:¬(a<st/\st<E):=by simp at h;omega
      simp only[go_sem]
      refine al _ _ ⟨by simp only[go_sem,I],by simp only[go_sem,e3],by simp only[go_sem,e4],by simp only[go_sem,O],by simp only[go_sem,am],A1++B1,.refl _,?_,?_⟩
      . by_cases bw:a<st
        . rw[Xas.1 (show B1.length=0 by omega),Xah];exact bb.1
        . rw[Xas.1 (show A1.length=0 by omega),Xbf];exact a6.1
      . rw[hH];simp only[Xai]
    clear I e1 e2 e3 e4 O ab am hH
    rintro ρ H ⟨I,e3,e4,O,am,M1,ah,a7,hH⟩
    have ce:M1.length=E-a:=by rw[ah.length_eq,Xac];omega
    simp only[go_sem,I,e3,e4,O,am]
    refine aA (fun h=>?_) (fun h=>?_)
    . have h:E<E+m-st/\E+m-st<b:=by simp at h;omega
      simp only[go_sem,I,e3,e4,O,am]
      refine ih (P++M1) A2 B2 S E (E+m-st) b j H _ (by omega) (by rw[Xac];omega) (by omega) (by omega) (fun e=>by rw[e]at bc;simp at bc;omega) (fun e=>by rw[e]at bh;simp at bh;omega) bb.2.1 a6.2.1 b4 br bn (by simp only[Xac];omega) (by rw[hH,aB]) fun M2 a8 bi rr=>?_
      simp only[go_sem]
      obtain⟨r1,r2⟩:=Bq hs (Z▸sA) (T▸sB) f1 f2 ah a8 a7 bi
      have:P++M1++M2++S=P++(M1++M2)++S:=by simp only[Xai]
      rw[hH,gZ,this]
      exact hK _ (by rw[Z,T];exact r2) r1 _
    . have h:¬(E<E+m-st/\E+m-st<b):=by simp at h;omega
      simp only[go_sem]
      have bi:(A2++B2).Pairwise (tlt lt):=by
        by_cases bw:E<E+m-st
        . rw[Xas.1 (show B2.length=0 by omega),Xah];exact bb.2.1
        . rw[Xas.1 (show A2.length=0 by omega),Xbf];exact a6.2.1
      obtain⟨r1,r2⟩:=Bq hs (Z▸sA) (T▸sB) f1 f2 ah (.refl (A2++B2)) a7 bi
      have:P++M1++A2++B2++S=P++(M1++(A2++B2))++S:=by simp only[Xai]
      rw[hH,this]
      exact hK _ (by rw[Z,T];exact r2) r1 _
end
end Go.Proofs.YtohmomanmikphaaGreatDoor.Nu.Ps
end
section
namespace Go.Proofs.YtohmomanmikphaaGreatDoor.Nu.Ps
open Go.Proofs.Tryz(prog)
open Go.Aw Go.Aw.D Go.Proofs Ty Go.Nu Go.So
theorem aiF{α:Type}(l:List α):(tag l).Pairwise fun p q=>p.2<q.2:=by
 rw[List.pairwise_iff_getElem];intro i k E F u;rw[Bd (List.getElem?_eq_getElem E),Bd (List.getElem?_eq_getElem F)];exact u
theorem mJ{α:Type}(D:List (List α))(A:List α):(D++[A]).flatten=D.flatten++A:=by simp
section
variable{gf:Nat}{lt:Priced->Priced->Bool}{ok:Priced->Prop}
set_option maxHeartbeats 4000000 in
theorem Yv (hs:SWO lt) (hc:CmpOk gf lt ok) (l:List Priced) (j:Nat) (H0:aH) (K:AV->aH->Prop) (hl:l.length<=1048576) (a8:∀x∈l,ok x) (hj:H0 j=some (dE l))
    (hK:∀r,K r (aI H0 j (some (dE (uH lt l))))):bA prog 62 [.os j,int l.length,nL gf] H0 K:=by
  have aj:∀x∈tag l,ok x.1:=fun x u=>a8 x.1 (by
    have:=List.mem_map_of_mem (f:=Prod.fst) u
    rwa [Jf]at this)
  have ap:=acK l
  refine bA.body (c:=Tryz.f62.body.getD .skip) (fun _=>false) mixed Tryz.func62 rfl (by kernel_rfl) ?_
  unfold Tryz.f62
  simp only[gdS]
  simp only[go_sem]
  refine⟨fun ρ H=>∃(D:List (List TB)) (P0 X:List TB),P0++X=tag l/\D.flatten.Perm P0/\So.Good lt D/\(∀A∈D,A.length=20)/\ρ 0=.os j/\ρ 1=int l.length/\ρ 2=nL gf/\ρ 6=int 20/\ρ 7=int P0.length/\ρ 8=int (P0.length+20:Nat)/\H=aI H0 j (some (dE (fs (D.flatten++X)))),fun ρ _=>l.length+1-aT (ρ 7),
    ⟨[],[],tag l,rfl,.refl _,⟨by simp,List.Pairwise.nil⟩,by simp,by simp only[go_sem],by simp only[go_sem],by simp only[go_sem],by simp only[go_sem],by simp only[go_sem];rfl,by simp only[go_sem];rfl,by
      have:fs (([]:List (List TB)).flatten++tag l)=l:=Jf l
      rw[this];exact(gU hj).symm⟩,?_⟩
  rintro ρ H ⟨D,P0,X,aa,hD,hG,am,O,T,I,J,e7,e8,hH⟩
  have a9:P0.length+X.length=l.length:=by rw[<-ap,<-aa,Xac]
  have az:D.flatten.length=P0.length:=hD.length_eq
  have R:H j=some (dE (fs (D.flatten++X))):=by rw[hH];exact aB _ _ _
  have ay:X.Pairwise fun p q=>p.2<q.2:=(List.pairwise_append.1 (aa▸aiF l)).2.1
  have ai:∀x∈X,ok x.1:=fun x u=>aj x (by rw[<-aa];exact Xcj _ u)
  have au:∀M X':List TB,M.Perm X'->(∀x∈X',x∈X)->∀B∈D,Dv B M:=fun M X' hM a7 B hB x u y hy=>
    Uk aa x (hD.mem_iff.1 (List.mem_flatten.2 ⟨B,hB,u⟩)) y (a7 y (hM.mem_iff.1 hy))
  simp only[go_sem,O,T,I,J,e7,e8]
  refine aA (fun ag=>?_) (fun aw=>?_)
  . have ag:P0.length+20<=l.length:=by simp at ag;omega
    obtain⟨X1,X2,hX,al,bd⟩:=rT (l:=X) (n:=20) (by omega)
    simp only[go_sem,O,T,I,J,e7,e8]
    refine DJ hs hc D.flatten X1 X2 P0.length (P0.length+20) j H _ az.symm (by omega) ((List.pairwise_append.1 (hX▸ay)).1) (fun x u=>ai x (by rw[hX];exact Xck _ u)) (by simp only[Xac];omega) (by rw[R,hX,Xai]) fun M hp hM r=>?_
    have aq:M.length=20:=by rw[hp.length_eq,al]
    have a5:IntKind.i64.wrap (((P0.length+20:Nat):Int)+20)=((P0.length+20+20:Nat):Int):=by rw[aR (by omega)];omega
    simp only[go_sem,O,T,I,J,e7,e8,a5]
    refine⟨⟨D++[M],P0++X1,X2,by rw[<-aa,hX,Xai],?_,IR hG hM (au M X1 hp fun x u=>by rw[hX];exact Xck _ u),?_,?_,?_,?_⟩,?_⟩
    . rw[mJ];exact hD.append hp
    . intro A hA
      rcases Xbe.1 hA with hA|hA
      . exact am A hA
      . rw[Xaq.1 hA];exact aq
    . rw[Xac,al]
    . rw[Xac,al]
    . rw[hH,gZ,mJ]
    . simp only[aE];omega
  . have aw:l.length<P0.length+20:=by simp at aw;omega
    simp only[go_sem,O,T,I,J,e7,e8]
    refine DJ hs hc D.flatten X [] P0.length l.length j H _ az.symm (by omega) ay ai (by simp only[Xac,List.length_nil];omega) (by rw[R,Xah]) fun M hp hM r=>?_
    have aq:M.length=X.length:=hp.length_eq
    rw[Xah,hH,gZ]
    clear R hH
    simp only[go_sem,O,T,I,J]
    refine⟨fun ρ H=>∃(bs:Nat) (R:List (List TB)),20<=bs/\bs<=4194304/\So.Good lt R/\So.sN bs R/\R.flatten.Perm (tag l)/\ρ 0=.os j/\ρ 1=int l.length/\ρ 2=nL gf/\ρ 6=int bs/\H=aI H0 j (some (dE (fs R.flatten))),fun ρ _=>l.length-aT (ρ 6),
      ⟨20,if X=[]then D else D++[M],Xaf _,by decide,?_,?_,?_,by simp only[go_sem,O],by simp only[go_sem,T],by simp only[go_sem,I],by simp only[go_sem,J];rfl,?_⟩,?_⟩
    . split
      . exact hG
      . exact IR hG hM (au M X hp fun x u=>u)
    . split
      . have:=zH am (by decide) (show So.sN 20 ([]:List (List TB))from trivial)
        rwa [Xah]at this
      . next u=>
        have:=Xbv.2 u
        exact zH am (by decide) (show So.sN 20 [M]from⟨by omega,by omega⟩)
    . split
      . next u=>rw[u,Xah]at aa;rw[<-aa];exact hD
      . rw[mJ,<-aa];exact hD.append hp
    . split
      . next u=>subst u;rw[List.perm_nil.1 hp,Xah]
      . rw[mJ]
    clear O T I J e7 e8
    rintro ρ H ⟨bs,R,ba,be,Z,ab,F,O,T,I,J,hH⟩
    have a4:R.flatten.length=l.length:=by rw[F.length_eq,ap]
    simp only[go_sem,O,T,I,J]
    refine aA (fun ar=>?_) (fun ak=>?_)
    . have ar:=ltB ar
      have wd:IntKind.i64.wrap (2*(bs:Int))=((2*bs:Nat):Int):=by rw[aR (by omega)];omega
      simp only[go_sem,O,T,I,J,wd]
      refine⟨fun ρ H=>∃(D R:List (List TB)),So.Good lt (D++R)/\(∀A∈D,A.length=2*bs)/\So.sN bs R/\(D.flatten++R.flatten).Perm (tag l)/\ρ 0=.os j/\ρ 1=int l.length/\ρ 2=nL gf/\ρ 6=int bs/\ρ 7=int D.flatten.length/\ρ 8=int (D.flatten.length+2*bs:Nat)/\H=aI H0 j (some (dE (fs (D.flatten++R.flatten)))),fun ρ _=>l.length+1-aT (ρ 7),
        ⟨[],R,by simpa using Z,by simp,ab,by simpa using F,by simp only[go_sem,O],by simp only[go_sem,T],by simp only[go_sem,I],by simp only[go_sem,J],by simp only[go_sem];rfl,by simp only[go_sem];simp,by rw[hH];rfl⟩,?_⟩
      clear O T I J hH Z ab F a4 R
      rintro ρ H ⟨D',R,Z,ao,ab,F,O,T,I,J,e7,e8,hH⟩
      have a4:D'.flatten.length+R.flatten.length=l.length:=by rw[<-ap,<-F.length_eq,Xac]
      have ae:∀A∈R,∀x∈A,ok x.1:=fun A hA x u=>aj x (F.mem_iff.1 (Xcj _ (List.mem_flatten.2 ⟨A,hA,u⟩)))
      simp only[go_sem,O,T,I,J,e7,e8]
      refine aA (fun ag=>?_) (fun ax=>?_)
      . have ag:D'.flatten.length+2*bs<=l.length:=by have:=of_decide_eq_true ag;omega
        obtain⟨A,B,r,E,hA,hB,hr⟩:=Tx (by omega) ab (by omega)
        obtain⟨g1,g2,g3⟩:=EJ (E▸Z)
        have ac:R.flatten=A++(B++r.flatten):=by rw[E];simp
        have av:R.flatten.length=A.length+B.length+r.flatten.length:=by rw[ac,Xac,Xac];omega
        have w1:=Uf (a:=D'.flatten.length) (b:=bs) (by omega)
        simp only[go_sem,O,T,I,J,e7,e8,w1]
        refine AW hs hc (A.length+B.length) D'.flatten A B r.flatten D'.flatten.length (D'.flatten.length+bs) (D'.flatten.length+2*bs) j H _ (Xaf _) rfl (by omega) (by omega) (fun e=>by rw[e]at hA;simp at hA;omega) (fun e=>by rw[e]at hB;simp at hB;omega) g2 g3 g1 (fun x u=>ae A (by rw[E];simp) x u) (fun x u=>ae B (by rw[E];simp) x u) (by omega) (by rw[hH,aB,ac];simp only[Xai]) fun M2 ad an rr=>?_
        have ah:M2.length=2*bs:=by rw[ad.length_eq,Xac];omega
        have w2:=Uf (a:=D'.flatten.length+2*bs) (b:=2*bs) (by omega)
        simp only[go_sem,O,T,I,J,e7,e8,wd,w2]
        refine⟨⟨D'++[M2],r,?_,?_,hr,?_,?_,?_,?_⟩,?_⟩
        . have:=Ga (E▸Z) ad an
          simpa using this
        . intro A' af
          rcases Xbe.1 af with af|af
          . exact ao A' af
          . rw[Xaq.1 af];exact ah
        . refine List.Perm.trans ?_ F
          rw[mJ,ac,Xai]
          refine List.Perm.append_left _ ?_
          rw[<-Xai]
          exact ad.append_right _
        . rw[mJ,Xac,ah]
        . rw[mJ,Xac,ah]
        . rw[hH,gZ,mJ]
        . simp only[aE];omega
      . have ax:l.length<D'.flatten.length+2*bs:=by have:=of_decide_eq_false ax;omega
        have w1:=Uf (a:=D'.flatten.length) (b:=bs) (by omega)
        have w3:IntKind.i64.wrap ((bs:Int)*2)=((2*bs:Nat):Int):=by rw[aR (by omega)];omega
        simp only[go_sem,O,T,I,J,e7,e8,w1]
        refine aA (fun hm=>?_) (fun hm=>?_)
        . have hm:=ltB hm
          obtain⟨A,B,E,hA,a0,bc⟩:=PF ab (by omega) (by omega)
          obtain⟨g1,g2,g3⟩:=EJ (E▸Z)
          have ac:R.flatten=A++B:=by rw[E];simp
          have av:R.flatten.length=A.length+B.length:=by rw[ac,Xac]
          simp only[go_sem,O,T,I,J,e7,e8]
          refine AW hs hc (A.length+B.length) D'.flatten A B [] D'.flatten.length (D'.flatten.length+bs) l.length j H _ (Xaf _) rfl (by omega) (by omega) (fun e=>by rw[e]at hA;simp at hA;omega) (fun e=>by rw[e]at a0;simp at a0) g2 g3 g1 (fun x u=>ae A (by rw[E];simp) x u) (fun x u=>ae B (by rw[E];simp) x u) (by simp only[List.length_nil];omega) (by rw[hH,aB,ac];simp only[Xai,Xah]) fun M2 ad an rr=>?_
          have ah:M2.length=A.length+B.length:=by rw[ad.length_eq,Xac]
          simp only[go_sem,O,T,I,J,w3]
          refine⟨⟨2*bs,D'++[M2],by omega,by omega,?_,zH ao (by omega) ⟨by omega,by omega⟩,?_,rfl,?_⟩,?_⟩
          . have:=Ga (E▸Z) ad an
            exact this
          . refine List.Perm.trans ?_ F
            rw[mJ,ac]
            exact List.Perm.append_left _ ad
          . rw[hH,gZ,mJ]
          . simp only[aE];omega
        . have hm:l.length<=D'.flatten.length+bs:=by have:=of_decide_eq_false hm;omega
          simp only[go_sem,O,T,I,J,w3]
          refine⟨⟨2*bs,D'++R,by omega,by omega,Z,zH ao (by omega) ?_,by rw[List.flatten_append];exact F,rfl,by rw[hH,List.flatten_append]⟩,?_⟩
          . rcases II (by omega) ab (by omega)with rfl|⟨A,rfl,a6,bb⟩
            . trivial
            . exact⟨a6,by omega⟩
          . simp only[aE];omega
    . have ak:l.length<=bs:=by simp at ak;omega
      simp only[go_sem]
      rw[hH]
      have:=U9 hs F (Xp Z (by omega) ab (by omega))
      unfold fs
      rw[this]
      exact hK _
theorem Kk(J:SWO lt)(I:CmpOk gf lt ok)(l:List Priced)(j:Nat)(H0:aH)(K:AV->aH->Prop)(M:l.length<=1048576)(u:∀x∈l,ok x)(E:H0 j=some (dE l))
   (F:∀r,K r (aI H0 j (some (dE (uH lt l))))):bA prog 32 [.os j,nL gf] H0 K:=by
 refine bA.body (c:=Tryz.f32.body.getD .skip) (fun _=>false) mixed Tryz.func32 rfl (by kernel_rfl) ?_;unfold Tryz.f32;simp only[gdS];simp only[go_sem];simp only[go_sem,E,Xaa];refine Yv J I l j H0 _ M u E fun r=>?_
 simp only[go_sem];exact F _
end
end Go.Proofs.YtohmomanmikphaaGreatDoor.Nu.Ps
end
section
namespace Go.Proofs.YtohmomanmikphaaGreatDoor.Nu.Ps
open Go.Aw Go.Aw.D Go.Proofs Go.Nu Go.So
def ltP(a b:Priced):Bool:=decide (gJ a.reduced<gJ b.reduced)
theorem Z8:SWO ltP where
 asym a b h:=decide_eq_false fun u=>absurd (Std.lt_trans (of_decide_eq_true h) u) Rat.lt_irrefl
 neg a b c h1 u:=decide_eq_false fun E=>absurd E (Rat.not_lt.2 (Rat.le_trans (Rat.not_lt.1 (of_decide_eq_false u)) (Rat.not_lt.1 (of_decide_eq_false h1))))
def lJ(m:Priced):List Priced->Priced
 | []=>m
 | p::l=>lJ (if ltP p m=true then p else m) l
theorem Bw:∀(l:List Priced) (m:Priced),lJ m l∈m::l
 | [],m=>by simp[lJ]
 | p::l,m=>by
   have ih:=Bw l (if ltP p m=true then p else m);show lJ (if ltP p m=true then p else m) l∈m::p::l;rcases Xbn.1 ih with h|h
   . rw[h];split <;> simp
   . simp[h]
theorem Je:∀(l:List Priced) (m:Priced),gJ (lJ m l).reduced<=gJ m.reduced/\∀p∈l,gJ (lJ m l).reduced<=gJ p.reduced
 | [],m=>⟨Rat.le_refl,fun _ h=>by cases h⟩
 | p::l,m=>by
   have ih:=Je l (if ltP p m=true then p else m);show gJ (lJ (if ltP p m=true then p else m) l).reduced<=gJ m.reduced/\∀q∈p::l,gJ (lJ (if ltP p m=true then p else m) l).reduced<=gJ q.reduced;by_cases h:ltP p m=true
   . rw[if_pos h]at ih |-
     have F:gJ p.reduced<gJ m.reduced:=of_decide_eq_true h;refine⟨Rat.le_trans ih.1 (Rat.le_of_lt F),fun q u=>?_⟩;rcases Xbn.1 u with rfl|u
     . exact ih.1
     . exact ih.2 q u
   . have E:gJ m.reduced<=gJ p.reduced:=Rat.not_lt.1 fun I=>h (decide_eq_true I)
     rw[if_neg h]at ih |-;refine⟨ih.1,fun q u=>?_⟩;rcases Xbn.1 u with rfl|u
     . exact Rat.le_trans ih.1 E
     . exact ih.2 q u
theorem VW(x h:Priced)(r:List Priced):∃r',ins ltP x (h::r)=(if ltP x h=true then x else h)::r':=by
 unfold ins;split
 . exact⟨_,rfl⟩
 . exact⟨_,rfl⟩
theorem Ge:∀(l:List Priced) (h:Priced) (r:List Priced),∃r',l.foldl (fun u x=>ins ltP x u) (h::r)=lJ h l::r'
 | [],h,r=>⟨r,rfl⟩
 | x::l,h,r=>by
   obtain⟨E,F⟩:=VW x h r;show ∃r',l.foldl (fun u x=>ins ltP x u) (ins ltP x (h::r))=lJ (if ltP x h=true then x else h) l::r';rw[F];exact Ge l _ E
theorem PZ(p:Priced)(l:List Priced):∃r,uH ltP (p::l)=lJ p l::r:=Ge l p []
abbrev Asc(l:List Priced):Prop:=l.Pairwise fun a b=>gJ a.reduced<=gJ b.reduced
theorem SH(x:Priced):∀l:List Priced,Asc l->Asc (ins ltP x l)
 | [],_=>List.pairwise_singleton _ _
 | z::r,h=>by
   obtain⟨h1,F⟩:=List.pairwise_cons.1 h;unfold ins;split
   next u=>
     have u:gJ x.reduced<gJ z.reduced:=of_decide_eq_true u;refine List.pairwise_cons.2 ⟨fun y E=>?_,h⟩;rcases Xbn.1 E with rfl|E
     . exact Rat.le_of_lt u
     . exact Rat.le_trans (Rat.le_of_lt u) (h1 y E)
   next I=>
     refine List.pairwise_cons.2 ⟨fun y E=>?_,SH x r F⟩;rcases Kq.1 E with rfl|E
     . exact Rat.not_lt.1 fun F=>I (decide_eq_true F)
     . exact h1 y E
theorem HZ:∀(l u:List Priced),Asc u->Asc (l.foldl (fun u x=>ins ltP x u) u)
 | [],u,h=>h
 | x::l,u,h=>HZ l _ (SH x u h)
theorem F5:∀(l u:List Priced),(l.foldl (fun u x=>ins ltP x u) u).Perm (u++l)
 | [],u=>by simp
 | x::l,u=>(F5 l _).trans (((Bp ltP x u).append_right l).trans (by
   show(x::(u++l)).Perm (u++x::l);exact List.perm_middle.symm))
theorem Co(l:List Priced):Asc (uH ltP l):=HZ l [] List.Pairwise.nil
theorem vS(l:List Priced):(uH ltP l).Perm l:=F5 l []
def qJ(p:Priced):Bool:=decide (gJ p.reduced<0)
theorem Fe:∀l:List Priced,Asc l->l.takeWhile qJ=l.filter qJ
 | [],_=>rfl
 | p::l,h=>by
   obtain⟨h1,E⟩:=List.pairwise_cons.1 h;rw[List.takeWhile_cons,List.filter_cons];split
   . rw[Fe l E]
   next u=>
     have u:¬gJ p.reduced<0:=fun h=>u (decide_eq_true h)
     refine(List.filter_eq_nil_iff.2 fun q I F=>?_).symm;exact u (Std.lt_of_le_of_lt (h1 q I) (of_decide_eq_true F))
def zV(l:List Priced):List Priced:=(uH ltP l).takeWhile qJ
theorem Wi(l:List Priced):(zV l).length=(l.filter qJ).length:=by
 unfold zV;rw[Fe _ (Co l)];exact((vS l).filter qJ).length_eq
theorem V9{l:List Priced}{p:Priced}(h:p∈zV l):p∈l/\gJ p.reduced<0:=by
 unfold zV at h;rw[Fe _ (Co l)]at h;obtain⟨h1,u⟩:=List.mem_filter.1 h;exact⟨(vS l).mem_iff.1 h1,of_decide_eq_true u⟩
theorem YD(l:List Priced):Asc (zV l):=(Co l).sublist (List.takeWhile_sublist _)
theorem Uy{p q:Priced}{l:List Priced}(h:(zV (p::l))[0]?=some q):q=lJ p l:=by
 obtain⟨r,u⟩:=PZ p l;unfold zV at h;rw[u,List.takeWhile_cons]at h;split at h
 . simpa using h.symm
 . cases h
end Go.Proofs.YtohmomanmikphaaGreatDoor.Nu.Ps
end
section
namespace Go.Proofs.YtohmomanmikphaaGreatDoor.Nu
open Go.Proofs.Tryz(prog)
open Go.Aw Go.Aw.D Go.Proofs Ty Go.Nu
theorem WF(x:Int):rY .and .i64 x 1=x%2:=by
 have h:((BitVec.ofInt 64 x &&& BitVec.ofInt 64 1).toNat:Int)=x%2:=by
   rw[BitVec.toNat_and,BitVec.toNat_ofInt,BitVec.toNat_ofInt];have:((1:Int)%((2^64:Nat):Int)).toNat=1:=by decide
   rw[this,Nat.and_one_is_mod];omega
 refine Eq.trans (congrArg IntKind.i64.wrap h) ?_;exact aR (by omega)
theorem Rc{a b:Nat}(F:a<2^63)(E:b<2^63):rY .and .i64 (a:Int) (b:Int)=((a &&& b:Nat):Int):=by
 have h:((BitVec.ofInt 64 (a:Int) &&& BitVec.ofInt 64 (b:Int)).toNat:Int)=((a &&& b:Nat):Int):=by
   rw[BitVec.toNat_and,BitVec.toNat_ofInt,BitVec.toNat_ofInt];have h1:((a:Int)%((2^64:Nat):Int)).toNat=a:=by omega
   have u:((b:Int)%((2^64:Nat):Int)).toNat=b:=by omega
   rw[h1,u]
 refine Eq.trans (congrArg IntKind.i64.wrap h) ?_;have:=Nat.and_lt_two_pow a E;exact aR (by omega)
theorem rH{x:Int}{i:Nat}(h:i<=62):shV .shr .i64 x (i:Int)=x/2^i:=by
 show x.fdiv (2^min ((i:Int)).toNat 64)=_;have:min ((i:Int)).toNat 64=i:=by omega
 rw[this,Xcs _ (by exact Int.le_of_lt (Int.pow_pos (by decide)))]
def dT(set i:Int):Bool:=decide (i>=0)&&decide (i<=62)&&((set/2^i.toNat)%2 == 1)
theorem wI(set i:Int):PC prog 121 [int set,int i] (boo (dT set i)):=by
 refine pcd Tryz.func121 ?_;unfold Tryz.f121;simp only[gdS];simp only[go_sem];refine⟨fun h=>?_,?_⟩
 . simp at h;omega
 . refine cB ?_
   unfold dT;rw[WF];by_cases h:0<=i/\i<=62
   . obtain⟨h0,h1⟩:=h
     have e:=rH (x:=set) (i:=i.toNat) (by omega);rw[Int.toNat_of_nonneg h0]at e;rw[e]
   . have:(decide (i>=0)&&decide (i<=62))=false:=by simp;omega
     rw[this];rfl
def rI(set:Int)(k:Nat):List Int:=((List.range k).filter fun i:Nat=>dT set (i:Int)).map fun i:Nat=>(i:Int)
def gE(set:Int):List Int:=rI set 63
theorem oY(set:Int)(k:Nat):rI set (k+1)=rI set k++(if dT set (k:Int)=true then[(k:Int)]else[]):=by
 unfold rI;rw[Xbr,List.filter_append,Xam];by_cases h:dT set (k:Int)=true
 . simp[h]
 . simp[h]
theorem rQ(set:Int)(k:Nat):(rI set k).length<=k:=by
 unfold rI;rw[Xaa];exact Xaj (Xbo _ _) (by simp)
def pR(l:List Int):Row:=⟨3,1,l.map bJ⟩
theorem mX(set:Int):PC prog 117 [int set] (.sl ((gE set).map bJ)):=by
 refine pcb (fun t=>t == 3) Tryz.func117 ?_;unfold Tryz.f117;simp only[gdS];simp only[go_sem];refine aK fun j T=>?_
 simp only[go_sem];refine⟨fun ρ H=>∃k:Nat,k<=63/\ρ 0=int set/\ρ 5=int k/\∃j,ρ 3=.os j/\H j=some (pR (rI set k)),fun ρ _=>63-aT (ρ 5),⟨0,Xab _,rfl,rfl,j,rfl,aB _ _ _⟩,?_⟩;clear T;rintro ρ H ⟨k,Z,h0,I,j,E,R⟩;simp only[go_sem,h0,I,E];refine aA (fun u=>?_) (fun F=>?_)
 . have u:k<63:=by simp at u;omega
   simp only[go_sem,h0,I,E];refine PC.use (wI set k) ?_;simp only[go_sem,h0,I,E];refine aA (fun J=>?_) (fun J=>?_)
   . simp only[go_sem,h0,I,E]
     refine aX R ⟨rfl,rfl⟩ ⟨rfl,trivial⟩ (by have:=rQ set k;simp[pR];omega) (fun O M=>?_);simp only[go_sem,h0,I,E,aP (show k<=4611686018427387904 by omega)];refine⟨⟨k+1,u,rfl,O,rfl,?_⟩,by simp only[aE];omega⟩;rw[oY,if_pos J,aB];simp only[pR,Xam,Xav,Xbg];rfl
   . simp only[go_sem,h0,I,E,aP (show k<=4611686018427387904 by omega)]
     refine⟨⟨k+1,u,rfl,j,rfl,?_⟩,by simp only[aE];omega⟩;rw[oY,if_neg (by rw[J];simp),Xah];exact R
 . have F:k=63:=by simp at F;omega
   subst F;simp only[go_sem,E];exact .row _ _ _ R (ConvE.refl _)
def rR:Nat->Nat->Nat
 | 0,_=>0
 | k+1,n=>n%2+rR k (n/2)
theorem H7:∀(k n:Nat),rR (k+1) n=rR k n+(n/2^k)%2
 | 0,n=>by simp[rR]
 | k+1,n=>by
   rw[rR,H7 k (n/2),rR,Nat.div_div_eq_div_mul,show 2*2^k=2^(k+1)by rw[Xbu,Nat.mul_comm]];omega
theorem Iu:∀k:Nat,rR k 0=0
 | 0=>rfl
 | k+1=>by rw[rR,Iu k]
theorem BF:∀k n:Nat,rR k n<=k
 | 0,_=>Xaf 0
 | k+1,n=>by have:=BF k (n/2);rw[rR];omega
theorem MG(n:Nat):∀k:Nat,k<=63->(rI (n:Int) k).length=rR k n
 | 0,_=>rfl
 | k+1,hk=>by
   rw[oY,Xac,MG n k (by omega),H7];have h:dT (n:Int) (k:Int)=decide ((n/2^k)%2=1):=by
     unfold dT;rw[show decide ((k:Int)>=0)=true by simp,show decide ((k:Int)<=62)=true by simp;omega,Xbc,Xaz,Xaz];rw[Xax,Xaw,decide_eq_true_iff];have:((n:Int)/2^k)=((n/2^k:Nat):Int):=by norm_cast
     rw[this];omega
   rw[h];by_cases u:(n/2^k)%2=1
   . simp[u]
   . have:(n/2^k)%2=0:=by omega
     simp[this]
theorem XL(n:Nat):PC prog 93 [int n] (int (rR 63 n:Nat)):=by
 have M:=MG n 63 (Xaf _);have O:=BF 63 n;refine pcd Tryz.func93 ?_;unfold Tryz.f93;simp only[gdS];simp only[go_sem];refine PC.use (mX n) ?_;simp only[go_sem,Xaa,gE,M];generalize rR 63 n=P at *;refine⟨fun ρ _=>∃k:Nat,k<=P/\ρ 3=int k/\ρ 6=int (P:Nat)/\ρ 7=int k,fun ρ _=>P-aT (ρ 7),⟨0,Xab _,by simp only[go_sem];rfl,by simp only[go_sem],by simp only[go_sem];rfl⟩,?_⟩;rintro ρ H ⟨k,T,F,I,J⟩;simp only[go_sem,F,I,J];refine aA (fun u=>?_) (fun E=>?_)
 . have u:=ltB u
   simp only[go_sem,F,I,J,aP (show k<=4611686018427387904 by omega)];exact⟨⟨k+1,u,rfl⟩,by simp only[aE];omega⟩
 . have E:=geB T E
   subst E;simp only[go_sem,F];exact .refl _
theorem aaR(n:Nat)(hn:n<9223372036854775808):PC prog 135 [int n] (int (rR 63 n:Nat)):=by
 have aa:=BF 63 n;refine pcd Tryz.func135 ?_;unfold Tryz.f135;simp only[gdS];simp only[go_sem];refine⟨fun ρ _=>∃k m c:Nat,k<=63/\ρ 0=int m/\ρ 3=int c/\m<2^(63-k)/\c+rR (63-k) m=rR 63 n,fun ρ _=>aT (ρ 0),⟨0,n,0,Xab _,by simp only[go_sem],by simp only[go_sem];rfl,hn,by simp⟩,?_⟩;rintro ρ H ⟨k,m,c,hk,h0,I,E,F⟩;simp only[go_sem,h0,I];refine aA (fun u=>?_) (fun J=>?_)
 . have u:0<m:=by simpa using u
   obtain⟨d,hd⟩:∃d,63-k=d+1:=⟨62-k,by
     rcases Xar k 63 with h|h
     . omega
     . have:k=63:=by omega
       subst this;simp at E;omega⟩
   rw[hd]at E F;have M:m<9223372036854775808:=Xbw E (show 2^(d+1)<=2^63 from Xat (by decide) (by omega));rw[rR]at F;rw[Xbu]at E;have e2:((m:Int)).tmod 2=((m%2:Nat):Int):=rfl;have T:IntKind.i64.wrap (((m:Int)).tdiv 2)=((m/2:Nat):Int):=by
     rw[show((m:Int)).tdiv 2=((m/2:Nat):Int)from rfl,aR (by omega)]
   have O:IntKind.i64.wrap ((c:Int)+((m%2:Nat):Int))=((c+m%2:Nat):Int):=by rw[aR (by omega)];omega
   simp only[go_sem,h0,I,e2,T,O];refine⟨by decide,by decide,?_⟩;exact⟨⟨k+1,m/2,c+m%2,by omega,rfl,rfl,by rw[show 63-(k+1)=d by omega];omega,by rw[show 63-(k+1)=d by omega];omega⟩,by simp only[aE];omega⟩
 . have Z:m=0:=by simpa using J
   subst Z;rw[Iu]at F;simp only[go_sem,I];exact cI (by omega)
end Go.Proofs.YtohmomanmikphaaGreatDoor.Nu
end
