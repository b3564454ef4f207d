import Derived.Test.YtohmomanmikphaaGreatDoorPf14
set_option linter.unusedSimpArgs false
set_option linter.unusedVariables false
set_option maxRecDepth 100000
section
namespace Go.Proofs.YtohmomanmikphaaGreatDoor.Sq
open Go.Proofs.Tryz(prog)
open Go.Aw Go.Aw.D Go.Proofs Ty
open Go.Proofs.YtohmomanmikphaaGreatDoor.Nu (ltB geB)
open Mv (bW cN NC.pc aT)
def AQ(M:List Nat)(q:Pair):List Nat:=
 if(((decide (q.a<0)||decide (q.b<0))||decide (q.a>=(M.length:Int)))||decide (q.b>=(M.length:Int)))=true then M
 else M.set q.b.toNat (M.getD q.b.toNat 0 ||| M.getD q.a.toNat 0 ||| 2^q.a.toNat)
def zO(l:List Pair)(M:List Nat):List Nat:=l.foldl AQ M
def QW(l:List Pair):Nat->List Nat->List Nat
 | 0,M=>M
 | f+1,M=>if zO l M=M then M else QW l f (zO l M)
def xO(n:Nat)(l:List Pair):List Nat:=QW l (EA (List.replicate n 0)+1) (List.replicate n 0)
theorem Wy{α:Type}{M:List α}{i:Nat}{u:α}(h:M[i]?=some u):M.set i u=M:=by
 obtain⟨E,rfl⟩:=List.getElem?_eq_some_iff.1 h;exact List.set_getElem_self E
theorem aeL{M:List Nat}{i u:Nat}(h:M[i]?=some u):M.getD i 0=u:=by rw[List.getD,h];rfl
theorem O1(l:List Pair):∀(f:Nat) (M:List Nat),(QW l f M).length=M.length:=by
 have h1:∀(l:List Pair) (M:List Nat),(l.foldl AQ M).length=M.length:=fun l=>by
   induction l with
   | nil=>exact fun M=>rfl
   | cons q l ih=>exact fun M=>(ih (AQ M q)).trans (by unfold AQ;split <;> simp)
 intro f;induction f with
 | zero=>exact fun M=>rfl
 | succ f ih=>
   intro M;unfold QW;split
   . rfl
   . exact(ih _).trans (h1 l M)
theorem Kw(n:Nat)(l:List Pair):(xO n l).length=n:=(O1 l _ _).trans List.length_replicate
theorem TW(n:Nat)(l:List Pair)(hn:n<=60)(hl:l.length<=1048576):PC prog 185 [int (n:Nat),.sl (l.map bZ)] (.sl ((xO n l).map fun n:Nat=>[int (n:Nat)])):=by
 refine pcd Tryz.func185 ?_;unfold Tryz.f185;simp only[gdS];simp only[go_sem];have av:jW (n:Int) 0=(n:Nat):=by unfold jW;split <;> omega
 rw[av];refine⟨by omega,?_⟩;rw[Xbf];generalize hR:xO n l=RR;refine aM fun j au=>?_
 generalize ap:aI _ j _=HGj;have R:HGj j=some ((⟨3,1,List.replicate n [int 0]⟩:Row)):=by rw[<-ap,aA];try rfl
 clear ap au;simp only[go_sem,R];have R:HGj j=some (BO (List.replicate n 0)):=by rw[R,BO,List.map_replicate];rfl
 refine⟨fun ρ H=>∃(j:Nat) (L:List Nat) (b:Bool),ρ 1=.sl (l.map bZ)/\ρ 5=.os j/\ρ 6=boo b/\H j=some (BO L)/\L.length=n/\(∀a∈L,a<2^62)/\(b=true->∃f,EA L<f/\QW l f L=RR)/\(b=false->L=RR),fun ρ H=>YO (ρ 5) (ρ 6) H,⟨j,_,true,by simp only[go_sem],by simp only[go_sem],by simp only[go_sem],R,List.length_replicate,fun a ha=>by rw[List.eq_of_mem_replicate ha];decide,fun _=>⟨_,Nat.lt_succ_self _,hR⟩,fun h=>(by cases h)⟩,?_⟩;clear R;rintro ρ H ⟨j,L,b,J,O,T,R,hL,hB,hT,hF⟩;simp only[go_sem,J,O,T];refine aB (fun hb=>?_) (fun hb=>?_)
 case refine_2=>
   simp only[go_sem,O];rw[<-hF hb];exact .row _ _ _ R (ConvE.refl _)
 have hb:b=true:=hb;subst hb;obtain⟨f,a4,ad⟩:=hT rfl;obtain⟨f,rfl⟩:∃f',f=f'+1:=⟨f-1,by omega⟩;have ad:(if zO l L=L then L else QW l f (zO l L))=RR:=ad;simp only[go_sem,J,O,T,Xaa];rw[WH R];refine⟨fun ρ H=>∃(k:Nat) (j:Nat) (M:List Nat) (b:Bool),k<=l.length/\ρ 1=.sl (l.map bZ)/\ρ 5=.os j/\ρ 6=boo b/\ρ 16=.sl (l.map bZ)/\ρ 17=int l.length/\ρ 18=int (k:Nat)/\H j=some (BO M)/\M.length=n/\(∀a∈M,a<2^62)/\EA M<=EA L/\(b=true->EA M<EA L)/\(b=false->M=L)/\M=(l.take k).foldl AQ L,fun ρ _=>l.length-aV (ρ 18),⟨0,j,L,false,Xac _,by simp only[go_sem,J],by simp only[go_sem,O],by simp only[go_sem],by simp only[go_sem,J],by simp only[go_sem],by simp only[go_sem];rfl,R,hL,hB,Xaf _,(fun h=>(by cases h)),fun _=>rfl,rfl⟩,?_⟩;clear J O T R hB hL hT hF;rintro ρ H ⟨k,j,M,b,hk,J,O,T,I,E,F,R,hL,hB,ao,Z,ab,ah⟩;simp only[go_sem,J,O,T,I,E,F];refine aB (fun ac=>?_) (fun am=>?_)
 case refine_2=>
   have am:=geB hk (by simpa using am);simp only[go_sem,J,O,T];rw[Xan (by omega)]at ah;refine⟨⟨j,M,b,rfl,rfl,R,hL,hB,fun hb=>⟨f,by have:=Z hb;omega,?_⟩,fun hb=>?_⟩,?_⟩
   . have ay:zO l L≠L:=fun e=>by have:=Z hb;rw[ah]at this;unfold zO at e;rw[e]at this;omega
     rw[if_neg ay]at ad;rw[ah];exact ad
   . have e2:=ab hb
     rw[if_pos (show zO l L=L from ah.symm.trans e2)]at ad;exact e2.trans ad
   cases b with
   | true=>rw[WH R];have:=Z rfl;omega
   | false=>rw[aeX];omega
 have ac:=ltB (by simpa using ac);obtain⟨q,hq⟩:=aN ac;have b1:=inB ac;have af:=gQ (f:=AQ) (b:=L) hq;rw[<-ah]at af;simp only[go_sem,J,O,T,I,E,F,aE hq,b1];refine aM fun i8 aj=>?_
 have aa:j≠i8:=aO R aj;simp only[go_sem,J,O,T,I,E,F,R];refine aJ (aA _ _ _) (by simp[jY]) ?_;generalize ag:aI (aI _ i8 _) i8 _=HGi8;replace R:=(congrFun ag.symm j).trans ((aD _ _ _ _ aa).trans ((aD _ _ _ _ aa).trans R));have R8:HGi8 i8=some (⟨194,2,[bZ q]⟩):=by rw[<-ag,aA];try rfl
 clear ag aj;simp only[go_sem,J,O,T,I,E,F,R8,R];refine eN [i8] [(0,true),(1,true),(2,true),(3,true),(4,true),(5,true)] (by simp[R8]) (by kernel_rfl) fun Hp Hr hp hr _ aw=>?_
 have aq:=(hp i8 (by simp)).trans R8;simp only[go_sem,J,O,T,I,E,F,aq];refine⟨by decide,by decide,lP hr ?_⟩;simp only[go_sem,J,O,T,I,E,F,R,Xaa];refine aB (fun hc=>?_) (fun hc=>?_)
 . simp only[go_sem,J,O,T,I,E,F,aP (show k<=4611686018427387904 by omega)]
   exact⟨⟨k+1,j,M,b,ac,rfl,rfl,rfl,R,hL,hB,ao,Z,ab,by rw[af];unfold AQ;rw[if_pos hc]⟩,by simp only[aF];omega⟩
 have ak:AQ M q=M.set q.b.toNat (M.getD q.b.toNat 0 ||| M.getD q.a.toNat 0 ||| 2^q.a.toNat):=by unfold AQ;rw[if_neg (by rw[hc];simp)]
 simp only[Xak,decide_eq_false_iff_not]at hc;obtain⟨⟨⟨c1,c2⟩,c3⟩,c4⟩:=hc;obtain⟨A,hA⟩:=Int.eq_ofNat_of_zero_le (show 0<=q.a by omega);obtain⟨B,ae⟩:=Int.eq_ofNat_of_zero_le (show 0<=q.b by omega);rw[hA]at c3;rw[ae]at c4;have al:A<M.length:=by omega
 have ai:B<M.length:=by omega
 obtain⟨u,hu⟩:=aN ai;obtain⟨w,hw⟩:=aN al;rw[hA,ae,Xbf,Xbf,aeL hu,aeL hw]at ak;rw[ak]at af;have g1:=aE (f:=fun n:Nat=>[int (n:Nat)]) hu;have g2:=aE (f:=fun n:Nat=>[int (n:Nat)]) hw;have d1:=inB ai;have d2:=inB al;have bu:=hB u (Xae hu);have bw:=hB w (Xae hw);have b2:2^A<2^62:=Xby (by decide) (by omega);have o1:u ||| w<2^62:=Xbs bu bw;have o2:u ||| w ||| 2^A<2^62:=Xbs o1 b2;have v1:qI .or .i64 (u:Int) (w:Int)=((u ||| w:Nat):Int):=D4 (by omega) (by omega);have v2:qI .or .i64 ((u ||| w:Nat):Int) ((2^A:Nat):Int)=((u ||| w ||| 2^A:Nat):Int):=D4 (by omega) (by omega);have v3:shV .shl .i64 1 (A:Int)=((2^A:Nat):Int):=DS (by omega);have am:u<=u ||| w ||| 2^A:=Xaj Nat.left_le_or Nat.left_le_or;simp only[go_sem,J,O,T,I,E,F];refine eN [j] [(0,true),(1,true),(2,true),(3,true),(4,true),(5,true),(6,true),(7,true),(8,true),(9,true),(10,true),(11,true),(12,true)] (by simp[R]) (by kernel_rfl) fun Hp Hr hp hr _ aw=>?_
 have ax:=(hp j (by simp)).trans R;simp only[go_sem,J,O,T,I,E,F,hA,ae,g1,g2,d1,d2,Xaa,v1,v2,v3,ax];refine⟨ai,al,?_⟩;refine lP hr ?_;simp only[go_sem,J,O,T,I,E,F,R,hA,ae,g1,d1,Xaa,v1,v2,v3];refine⟨ai,aB (fun hd=>?_) (fun hd=>?_)⟩
 . have hd : u < u ||| w ||| 2 ^ A := by
     have:(((u ||| w ||| 2^A:Nat):Int) != (u:Int))=true:=hd;simp only[bne_iff_ne,ne_eq]at this;omega
   simp only[go_sem,J,O,T,I,E,F,R,hA,ae,d1,Xaa];generalize a0:u ||| w ||| 2^A=v at *;refine eF so3 R (by rw[Xaa];exact⟨ai,rfl,Xaf 1⟩) ?_;have an:(M.map fun n:Nat=>[int (n:Nat)]).set B (mX ((M.map fun n:Nat=>[int (n:Nat)]).getD B []) 0 [int (v:Nat)])=(M.set B v).map fun n:Nat=>[int (n:Nat)]:=by
     rw[g1,List.map_set];rfl
   have R3:aI HGi8 j (some (⟨3,1,(M.map fun n:Nat=>[int (n:Nat)]).set B (mX ((M.map fun n:Nat=>[int (n:Nat)]).getD B []) 0 [int (v:Nat)])⟩:Row)) j=some (BO (M.set B v)):=by
     rw[aA,an]
   generalize aI HGi8 j _=H3 at R3 |-;have az:=Mu hu hd (Nat.le_of_lt o2);simp only[go_sem,J,O,T,I,E,F,aP (show k<=4611686018427387904 by omega)];exact⟨⟨k+1,j,M.set B v,true,ac,rfl,rfl,rfl,R3,by rw[Xbd,hL],fun a ha=>by
     rcases List.mem_or_eq_of_mem_set ha with ha|rfl
     . exact hB a ha
     . exact o2,by omega,(fun _=>by omega),(fun h=>by cases h),af.symm⟩,by simp only[aF];omega⟩
 . simp only[go_sem,J,O,T,I,E,F,aP (show k<=4611686018427387904 by omega)]
   have ar:u ||| w ||| 2^A=u:=by
     have:(((u ||| w ||| 2^A:Nat):Int) != (u:Int))=false:=hd;simp only[bne_eq_false_iff_eq]at this;omega
   exact⟨⟨k+1,j,M,b,ac,rfl,rfl,rfl,R,hL,hB,ao,Z,ab,by rw[af,ar,Wy hu]⟩,by simp only[aF];omega⟩
def OV(x:Instance)(i:Int):Bool:=match x.orders[i.toNat]? with|some o=>o.off|none=>false
def E6(x:Instance)(set:Int):Int:=
 if set<0 then 2
 else if((fR set).any fun a=>decide (a>=(x.orders.length:Int)))=true then 2
 else if((fR set).any (OV x))=true then 9
 else if(x.apart.any fun q=>dH set q.a&&dH set q.b)=true then 20
 else if(x.before.any fun q=>dH set q.b&& !dH set q.a)=true then 21
 else if((fR set).any fun a=>dH (((xO x.orders.length x.before).getD a.toNat 0:Nat):Int) a)=true then 21
 else 0
theorem Ay{α:Type}{p:α->Bool}{l:List α}{k:Nat}{a:α}(h:l[k]?=some a)(u:p a=true):l.any p=true:=Xbe.2 ⟨a,Xae h,u⟩
theorem vU{α:Type}{p:α->Bool}{l:List α}(h:∀a∈l,p a=false):l.any p=false:=List.any_eq_false.2 fun a u=>by rw[h a u];simp
theorem Sy(x:Instance)(set:Int)(hx:x.orders.length<=60)(ha:x.apart.length<=1048576)(hb:x.before.length<=1048576):PC prog 116 [.agg (aH x),int set] (int (E6 x set)):=by
 refine pcd Tryz.func116 ?_;unfold Tryz.f116;simp only[gdS];simp only[go_sem];have hP:E6 x set=(if set<0 then 2
   else if((fR set).any fun a=>decide (a>=(x.orders.length:Int)))=true then 2
   else if((fR set).any (OV x))=true then 9
   else if(x.apart.any fun q=>dH set q.a&&dH set q.b)=true then 20
   else if(x.before.any fun q=>dH set q.b&& !dH set q.a)=true then 21
   else if((fR set).any fun a=>dH (((xO x.orders.length x.before).getD a.toNat 0:Nat):Int) a)=true then 21
   else 0):=rfl
 generalize E6 x set=RP at *;refine aB (fun hc=>?_) (fun hc=>?_)
 . rw[if_pos (of_decide_eq_true hc)]at hP
   simp only[go_sem];rw[hP];exact .refl _
 rw[if_neg (of_decide_eq_false hc)]at hP;simp only[go_sem];refine PC.use (lR set) ?_;have a4:=VR set;have a0:=fun a=>@WE set a
 generalize fR set=S at *;simp only[go_sem,Xaa];refine⟨fun ρ H=>∃(k:Nat),k<=S.length/\ρ 1=int set/\ρ 2=.rp (aH x) 0/\ρ 5=.sl (S.map bN)/\ρ 21=.sl (S.map bN)/\ρ 22=int (S.length:Nat)/\ρ 23=int k/\(∀a∈S.take k,a<(x.orders.length:Int)),fun ρ _=>S.length-aV (ρ 23),⟨0,Xac _,by simp only[go_sem],by simp only[go_sem],by simp only[go_sem],by simp only[go_sem],by simp only[go_sem,Xaa],(by simp only[go_sem];rfl),by simp⟩,?_⟩;rintro ρ H ⟨k,hk,F,I,E,ah,ag,ad,hz⟩;simp only[go_sem,F,I,E,ah,ag,ad];refine aB (fun u=>?_) (fun J=>?_)
 . have u:=ltB (by simpa using u)
   obtain⟨a,M⟩:=aN u;have b1:=inB u;simp only[go_sem,F,I,E,ah,ag,ad,aE M,b1,Xaa];refine aB (fun hc=>?_) (fun hc=>?_)
   . rw[if_pos (Ay M hc)]at hP
     simp only[go_sem];rw[hP];exact .refl _
   . have hc:¬a>=(x.orders.length:Int):=of_decide_eq_false hc
     simp only[go_sem,F,I,E,ah,ag,ad,aP (show k<=4611686018427387904 by omega)];exact⟨⟨k+1,u,rfl,aT (p:=fun a:Int=>a<(x.orders.length:Int)) M (by omega) hz⟩,by simp only[aF];omega⟩
 have J:=geB hk (by simpa using J);subst J;rw[Xag]at hz;rw[if_neg (by rw[vU fun a ha=>decide_eq_false (by have:=hz a ha;omega)];simp)]at hP;simp only[go_sem,F,I,E,ah,ag,ad,Xaa];refine⟨fun ρ H=>∃(k:Nat),k<=S.length/\ρ 1=int set/\ρ 2=.rp (aH x) 0/\ρ 5=.sl (S.map bN)/\ρ 33=.sl (S.map bN)/\ρ 34=int (S.length:Nat)/\ρ 35=int k/\(∀a∈S.take k,OV x a=false),fun ρ _=>S.length-aV (ρ 35),⟨0,Xac _,by simp only[go_sem,F,I,E,ah,ag,ad],by simp only[go_sem,F,I,E,ah,ag,ad],by simp only[go_sem,F,I,E,ah,ag,ad],by simp only[go_sem,F,I,E,ah,ag,ad],by simp only[go_sem,Xaa,F,I,E,ah,ag,ad],(by simp only[go_sem,F,I,E,ah,ag,ad];rfl),by simp⟩,?_⟩;rintro ρ H ⟨k,hk,F,I,E,ai,af,ae,hy⟩;simp only[go_sem,F,I,E,ai,af,ae];refine aB (fun u=>?_) (fun J=>?_)
 . have u:=ltB (by simpa using u)
   obtain⟨a,M⟩:=aN u;have b1:=inB u;obtain⟨A,rfl⟩:=a0 a (Xae M);have hA:=hz _ (Xae M);have al:A<x.orders.length:=by omega
   obtain⟨o,ho⟩:=aN al;have b2:=inB al;have aq:OV x (A:Int)=o.off:=by unfold OV;rw[Xbf,ho]
   simp only[go_sem,F,I,E,ai,af,ae,aE M,b1,aE ho,b2];refine aB (fun hc=>?_) (fun hc=>?_)
   . rw[if_pos (Ay (p:=OV x) M (aq.trans hc))]at hP
     simp only[go_sem];rw[hP];exact .refl _
   . simp only[go_sem,F,I,E,ai,af,ae,aP (show k<=4611686018427387904 by omega)]
     exact⟨⟨k+1,u,rfl,aT (p:=fun a=>OV x a=false) M (aq.trans hc) hy⟩,by simp only[aF];omega⟩
 have J:=geB hk (by simpa using J);subst J;rw[Xag]at hy;rw[if_neg (by rw[vU hy];simp)]at hP;simp only[go_sem,F,I,E,ai,af,ae,Xaa];refine⟨fun ρ H=>∃(k:Nat),k<=x.apart.length/\ρ 1=int set/\ρ 2=.rp (aH x) 0/\ρ 5=.sl (S.map bN)/\ρ 47=.sl (x.apart.map bZ)/\ρ 48=int (x.apart.length:Nat)/\ρ 49=int k/\(∀q∈x.apart.take k,(dH set q.a&&dH set q.b)=false),fun ρ _=>x.apart.length-aV (ρ 49),⟨0,Xac _,by simp only[go_sem,F,I,E,ai,af,ae],by simp only[go_sem,F,I,E,ai,af,ae],by simp only[go_sem,F,I,E,ai,af,ae],by simp only[go_sem,F,I,E,ai,af,ae],by simp only[go_sem,Xaa,F,I,E,ai,af,ae],(by simp only[go_sem,F,I,E,ai,af,ae];rfl),by simp⟩,?_⟩;rintro ρ H ⟨k,hk,F,I,E,Z,O,T,hv⟩;simp only[go_sem,F,I,E,Z,O,T];refine aB (fun u=>?_) (fun J=>?_)
 . have u:=ltB (by simpa using u)
   obtain⟨q,hq⟩:=aN u;have b1:=inB u;simp only[go_sem,F,I,E,Z,O,T,aE hq,b1];refine aM fun ar aw=>?_
   simp only[go_sem,F,I,E,Z,O,T];refine aJ (aA _ _ _) (by simp[jY]) ?_;generalize ak:aI (aI _ ar _) ar _=HGi11;have ax:HGi11 ar=some (⟨194,2,[bZ q]⟩):=by rw[<-ak,aA];try rfl
   clear ak aw;simp only[go_sem,F,I,E,Z,O,T,ax];refine⟨by decide,PC.use (tK set q.a) ?_⟩;simp only[go_sem,F,I,E,Z,O,T,ax];refine⟨fun _=>by decide,_,fun _=>(tK set q.b).q rfl,?_⟩;simp only[go_sem,F,I,E,Z,O,T];refine aB (fun hc=>?_) (fun hc=>?_)
   . rw[if_pos (Ay (p:=fun q:Pair=>dH set q.a&&dH set q.b) hq hc)]at hP
     simp only[go_sem];rw[hP];exact .refl _
   . simp only[go_sem,F,I,E,Z,O,T,aP (show k<=4611686018427387904 by omega)]
     exact⟨⟨k+1,u,rfl,aT (p:=fun q:Pair=>(dH set q.a&&dH set q.b)=false) hq hc hv⟩,by simp only[aF];omega⟩
 have J:=geB hk (by simpa using J);subst J;rw[Xag]at hv;rw[if_neg (by rw[vU hv];simp)]at hP;simp only[go_sem,F,I,E,Z,O,T,Xaa];refine⟨fun ρ H=>∃(k:Nat),k<=x.before.length/\ρ 1=int set/\ρ 2=.rp (aH x) 0/\ρ 5=.sl (S.map bN)/\ρ 65=.sl (x.before.map bZ)/\ρ 66=int (x.before.length:Nat)/\ρ 67=int k/\(∀q∈x.before.take k,(dH set q.b&& !dH set q.a)=false),fun ρ _=>x.before.length-aV (ρ 67),⟨0,Xac _,by simp only[go_sem,F,I,E,Z,O,T],by simp only[go_sem,F,I,E,Z,O,T],by simp only[go_sem,F,I,E,Z,O,T],by simp only[go_sem,F,I,E,Z,O,T],by simp only[go_sem,Xaa,F,I,E,Z,O,T],(by simp only[go_sem,F,I,E,Z,O,T];rfl),by simp⟩,?_⟩;rintro ρ H ⟨k,hk,F,I,E,ab,ac,aa,hw⟩;simp only[go_sem,F,I,E,ab,ac,aa];refine aB (fun u=>?_) (fun J=>?_)
 . have u:=ltB (by simpa using u)
   obtain⟨q,hq⟩:=aN u;have b1:=inB u;simp only[go_sem,F,I,E,ab,ac,aa,aE hq,b1];refine aM fun au av=>?_
   simp only[go_sem,F,I,E,ab,ac,aa];refine aJ (aA _ _ _) (by simp[jY]) ?_;generalize aj:aI (aI _ au _) au _=HGi13;have az:HGi13 au=some (⟨194,2,[bZ q]⟩):=by rw[<-aj,aA];try rfl
   clear aj av;simp only[go_sem,F,I,E,ab,ac,aa,az];refine⟨by decide,PC.use (tK set q.b) ?_⟩;simp only[go_sem,F,I,E,ab,ac,aa,az];refine⟨fun _=>by decide,_,fun _=>(tK set q.a).q rfl,?_⟩;simp only[go_sem,F,I,E,ab,ac,aa];refine aB (fun hc=>?_) (fun hc=>?_)
   . rw[if_pos (Ay (p:=fun q:Pair=>dH set q.b&& !dH set q.a) hq hc)]at hP
     simp only[go_sem];rw[hP];exact .refl _
   . simp only[go_sem,F,I,E,ab,ac,aa,aP (show k<=4611686018427387904 by omega)]
     exact⟨⟨k+1,u,rfl,aT (p:=fun q:Pair=>(dH set q.b&& !dH set q.a)=false) hq hc hw⟩,by simp only[aF];omega⟩
 have J:=geB hk (by simpa using J);subst J;rw[Xag]at hw;rw[if_neg (by rw[vU hw];simp)]at hP;simp only[go_sem,F,I,E,ab,ac,aa,Xaa];have hL:=Kw x.orders.length x.before;refine PC.use (TW x.orders.length x.before hx hb) ?_;generalize xO x.orders.length x.before=CH at *;simp only[go_sem,F,I,E,ab,ac,aa,Xaa];refine⟨fun ρ H=>∃(k:Nat),k<=S.length/\ρ 14=.sl (CH.map fun n:Nat=>[int (n:Nat)])/\ρ 89=.sl (S.map bN)/\ρ 90=int (S.length:Nat)/\ρ 91=int k/\(∀a∈S.take k,dH ((CH.getD a.toNat 0:Nat):Int) a=false),fun ρ _=>S.length-aV (ρ 91),⟨0,Xac _,by simp only[go_sem,F,I,E,ab,ac,aa],by simp only[go_sem,F,I,E,ab,ac,aa],by simp only[go_sem,Xaa,F,I,E,ab,ac,aa],(by simp only[go_sem,F,I,E,ab,ac,aa];rfl),by simp⟩,?_⟩;rintro ρ H ⟨k,hk,an,ap,ao,am,hu⟩;simp only[go_sem,an,ap,ao,am];refine aB (fun u=>?_) (fun J=>?_)
 . have u:=ltB (by simpa using u)
   obtain⟨a,M⟩:=aN u;have b1:=inB u;obtain⟨A,rfl⟩:=a0 a (Xae M);have hA:=hz _ (Xae M);have al:A<CH.length:=by omega
   obtain⟨o,ho⟩:=aN al;have b2:=inB al;have ay:dH ((CH.getD ((A:Int)).toNat 0:Nat):Int) (A:Int)=dH (o:Nat) (A:Nat):=by rw[Xbf,aeL ho]
   have g1:=aE (f:=fun n:Nat=>[int (n:Nat)]) ho;simp only[go_sem,an,ap,ao,am,aE M,b1,g1,b2];refine PC.use (tK (o:Nat) (A:Nat)) ?_;simp only[go_sem,an,ap,ao,am];refine aB (fun hc=>?_) (fun hc=>?_)
   . rw[if_pos (Ay (p:=fun a=>dH ((CH.getD a.toNat 0:Nat):Int) a) M (ay.trans hc))]at hP
     simp only[go_sem];rw[hP];exact .refl _
   . simp only[go_sem,an,ap,ao,am,aP (show k<=4611686018427387904 by omega)]
     exact⟨⟨k+1,u,rfl,aT (p:=fun a=>dH ((CH.getD a.toNat 0:Nat):Int) a=false) M (ay.trans hc) hu⟩,by simp only[aF];omega⟩
 have J:=geB hk (by simpa using J);subst J;rw[Xag]at hu;rw[if_neg (by rw[vU hu];simp)]at hP;simp only[go_sem];rw[hP];exact .refl _
end Go.Proofs.YtohmomanmikphaaGreatDoor.Sq
end
section
namespace Go.Proofs.YtohmomanmikphaaGreatDoor.Nu.Ps
open Go.Proofs.Tryz(prog)
open Go.Aw Go.Aw.D Go.Proofs Ty Go.Nu Go.So
structure Priced where
 column:Column
 reduced:ByteArray
def bG(x:Priced):List AV:=[.v (.int .i64 x.column.type),.v (.int .i64 x.column.set),.v (.int .i64 x.column.price),.v (.int .i64 x.column.route.type),.v (.int .i64 x.column.route.start),.sl (x.column.route.rests.map eG),.sl (x.column.route.visits.map aK),.v (.string x.reduced)]
theorem bS(x:Priced):(bG x).length=8:=(rfl)
theorem JU(x:Priced):(bG x).getD 0 .any=.v (.int .i64 x.column.type):=(rfl)
theorem Ln(x:Priced):(bG x).getD 1 .any=.v (.int .i64 x.column.set):=(rfl)
theorem LH(x:Priced):(bG x).getD 2 .any=.v (.int .i64 x.column.price):=(rfl)
theorem Ms(x:Priced):(bG x).getD 7 .any=.v (.string x.reduced):=(rfl)
theorem Fz(x:Priced):(bG x).take 8=bG x:=(rfl)
theorem iV(x:Priced):(bG x).drop 8=[]:=(rfl)
theorem FB(x:Priced):(bG x).take 7=aS x.column:=(rfl)
attribute [go_sem] bS JU Ln LH Ms Fz FB
abbrev mQ(gf:Nat):AV:=.v (.func (.func gf) #[] #[])
abbrev cQ(l:List Priced):Row:=⟨69,8,l.map bG⟩
theorem gC(H:aG)(j:Nat)(a b:Option Row):aI (aI H j a) j b=aI H j b:=by
 funext k;unfold aI;split <;> rfl
theorem gB{H:aG}{j:Nat}{r:Row}(h:H j=some r):aI H j (some r)=H:=by
 funext k;unfold aI;split
 . next e=>rw[e,h]
 . rfl
theorem Dl{L:List Priced}{a b j:Nat}{x y:Priced}{H0 H:aG}(J:L[a]?=some x)(E:L[b]?=some y)(u:a≠b)(F:H=aI H0 j (some (cQ L))):
   aI (aI H j (some (⟨69,8,(L.map bG).set a (bG y)⟩:Row))) j (some (⟨69,8,((L.map bG).set a (bG y)).set b (bG x++List.drop 8 (((L.map bG).set a (bG y)).getD b []))⟩:Row))=aI H0 j (some (cQ (swp L a b))):=by
 have I:((L.map bG).set a (bG y)).getD b []=bG y:=by
   rw[List.getD,List.getElem?_set_ne u,List.getElem?_map,E];rfl
 rw[F,gC,gC,I,iV,Xah];unfold swp cQ;simp only[J,E,List.map_set]
theorem wD(L:List Priced)(a b n j:Nat)(gf:Nat)(H0:aG)(K:AV->aG->Prop)(ac:a+n<=b)(ab:b+n<=L.length)(hl:L.length<=1048576)(hj:H0 j=some (cQ L))
   (hK:∀r,K r (aI H0 j (some (cQ (At L a b n))))):aX prog 232 [.os j,int a,int b,int n,mQ gf] H0 K:=by
 refine aX.body (c:=Tryz.f232.body.getD .skip) (fun _=>false) mixed Tryz.func232 rfl (by kernel_rfl) ?_;unfold Tryz.f232;simp only[gdS];simp only[go_sem];refine⟨fun ρ H=>∃(k:Nat),k<=n/\ρ 0=.os j/\ρ 1=int a/\ρ 2=int b/\ρ 3=int n/\ρ 10=int k/\H=aI H0 j (some (cQ (At L a b k))),fun ρ _=>n-aV (ρ 10),⟨0,Xac _,by simp only[go_sem],by simp only[go_sem],by simp only[go_sem],by simp only[go_sem],(by simp only[go_sem];rfl),(gB hj).symm⟩,?_⟩;rintro ρ H ⟨k,hk,O,I,J,M,u,T⟩;simp only[go_sem,O,I,J,M,u];refine aB (fun F=>?_) (fun E=>?_)
 . have F:=ltB F
   have aa:=Jz L a b k;obtain⟨x,hx⟩:=aN (l:=At L a b k) (k:=a+k) (by omega);obtain⟨y,Z⟩:=aN (l:=At L a b k) (k:=b+k) (by omega);have R:H j=some (cQ (At L a b k)):=by rw[T];exact aA _ _ _
   have w1:IntKind.i64.wrap ((a:Int)+(k:Int))=((a+k:Nat):Int):=by rw[bA (by omega)];omega
   have w2:IntKind.i64.wrap ((b:Int)+(k:Int))=((b+k:Nat):Int):=by rw[bA (by omega)];omega
   have b1:=inB (show a+k<(At L a b k).length by omega);have b2:=inB (show b+k<(At L a b k).length by omega);simp only[go_sem,O,I,J,M,u];refine uM [] (.q 0 (.q 1 (.q 2 (.q 3 (.q 4 (.q 5 (.q 6 (.q 7 (.q 8 (.q 9 (.q 10 (.q 11 (.q 14 (.q 15 (.q 16 (.q 17 (.a2 12 (.a2 13 (.a1 18 (.a1 19 (.a1 20 (.a1 21 (.a1 22 (.a1 23 (.nil))))))) 18 (.a2 13 (.a1 19 (.a1 20 (.a1 21 (.a1 22 (.a1 23 (.nil)))))) 19 (.a1 13 (.a1 20 (.a1 21 (.a1 22 (.a1 23 (.nil)))))))) 18 (.a2 12 (.a2 13 (.a1 19 (.a1 20 (.a1 21 (.a1 22 (.a1 23 (.nil)))))) 19 (.a1 13 (.a1 20 (.a1 21 (.a1 22 (.a1 23 (.nil))))))) 19 (.a1 12 (.a1 13 (.a1 20 (.a1 21 (.a1 22 (.a1 23 (.nil))))))))))))))))))))))))) (by simp) (by kernel_rfl) fun Hp Hr _ hr _ _=>?_
   obtain rfl:Hr=H:=funext fun i=>hr i (by simp)
   simp only[go_sem,O,I,J,M,u,w1,w2,R,b1,b2]
   repeat' (first|(refine lA ?_ ?_)|(refine⟨by omega,?_⟩)|(refine aJ R ⟨by rw[Xaa];omega,bS _,by rw[bS];exact Xaf 8⟩ ?_)|(refine aJ (aA _ _ _) ⟨by rw[Xbd,Xaa];omega,bS _,by rw[bS];exact Xaf 8⟩ ?_)|(refine eR fun _ Hm _ hm=>?_;obtain rfl:Hm=_:=funext fun i=>hm i (by simp))|(simp only[go_sem,O,I,J,M,u,w1,w2,R,b1,b2,aE Z,aE hx,aP (show k<=4611686018427387904 by omega),Xbd,Xaa,iV,Xah]))
   all_goals exact⟨⟨k+1,F,rfl,Dl hx Z (by omega) T⟩,by simp only[aF];omega⟩
 . have E:=geB hk E
   subst E;simp only[go_sem];rw[T];exact hK _
theorem Bh{a b:Nat}(h:b<=a)(u:a<=4611686018427387904):IntKind.i64.wrap ((a:Int)-(b:Int))=((a-b:Nat):Int):=by rw[bA (by omega)];omega
theorem Sp{a b:Nat}(h:a+b<=4611686018427387904):IntKind.i64.wrap ((a:Int)+(b:Int))=((a+b:Nat):Int):=by rw[bA (by omega)];omega
theorem pZ{α:Type}{l:List α}{n:Nat}(h:n<=l.length):∃E u,l=E++u/\E.length=n/\u.length=l.length-n:=⟨l.take n,l.drop n,(Xcb n l).symm,by rw[Xal];omega,by rw[List.length_drop]⟩
theorem Uw(P U V S:List Priced)(a m b j:Nat)(gf:Nat)(H0:aG)(K:AV->aG->Prop)(ha:a=P.length)(hm:m=a+U.length)(hb:b=m+V.length)(hU:U≠[])(hV:V≠[])(hl:(P++U++V++S).length<=1048576)(hj:H0 j=some (cQ (P++U++V++S)))
   (hK:∀r,K r (aI H0 j (some (cQ (P++V++U++S))))):aX prog 177 [.os j,int a,int m,int b,mQ gf] H0 K:=by
 have ae:P.length+U.length+V.length+S.length<=1048576:=by simpa[Xbo]using hl
 have af:=Xbu.2 hU;have ag:=Xbu.2 hV;refine aX.body (c:=Tryz.f177.body.getD .skip) (fun _=>false) mixed Tryz.func177 rfl (by kernel_rfl) ?_;unfold Tryz.f177;simp only[gdS];simp only[go_sem];simp only[go_sem,Bh (show a<=m by omega) (by omega),Bh (show m<=b by omega) (by omega)];refine⟨fun ρ H=>∃F u E S':List Priced,ρ 0=.os j/\ρ 2=int m/\ρ 4=mQ gf/\ρ 10=int u.length/\ρ 11=int E.length/\F.length+u.length=m/\0<u.length/\0<E.length/\(F.length+u.length+E.length+S'.length<=1048576)/\F++E++u++S'=P++V++U++S/\H=aI H0 j (some (cQ (F++u++E++S'))),fun ρ _=>aV (ρ 10)+aV (ρ 11),
   ⟨P,U,V,S,by simp only[go_sem],by simp only[go_sem],by simp only[go_sem],by simp only[go_sem];rw[show m-a=U.length by omega],by simp only[go_sem];rw[show b-m=V.length by omega],by omega,af,ag,ae,rfl,(gB hj).symm⟩,?_⟩
 rintro ρ H ⟨F,u,E,S',e0,e2,e4,I,J,ai,hu,hv,ah,T,hH⟩;have R:H j=some (cQ (F++u++E++S')):=by rw[hH];exact aA _ _ _
 simp only[go_sem,e0,e2,e4,I,J];refine aB (fun ad=>?_) (fun O=>?_)
 . have ad:u.length≠E.length:=neN ad
   simp only[go_sem,e0,e2,e4,I,J];refine aB (fun aa=>?_) (fun M=>?_)
   . have aa:E.length<u.length:=by simpa using aa
     obtain⟨U1,U2,ab,h1,h2⟩:=pZ (Nat.le_of_lt aa);have e:=EQ (P:=F) (X:=U1) (V:=U2) (Y:=E) (S:=S') (a:=F.length) (b:=m) (n:=E.length) rfl (by omega) h1.symm rfl;simp only[go_sem,e0,e2,e4,I,J,Bh (show u.length<=m by omega) (by omega),show m-u.length=F.length by omega];refine wD (F++u++E++S') F.length m E.length j gf _ _ (by omega) (by simp;omega) (by simp;omega) R fun r=>?_
     simp only[go_sem,e0,e2,e4,I,J,Bh (show E.length<=u.length by omega) (by omega)];refine⟨⟨F++E,U2,U1,S',?_,?_,by rw[Xab];omega,by omega,by omega,by rw[Xab];omega,?_,?_⟩,?_⟩
     . rw[h2]
     . rw[h1]
     . rw[<-T,ab];simp only[Xai]
     . rw[hH,gC,ab]
       congr 2
       have:F++(U1++U2)++E++S'=F++U1++U2++E++S':=by simp only[Xai]
       rw[this,e]
     . simp only[aF];omega
   . have M:¬E.length<u.length:=by simpa using M
     obtain⟨Z,V2,ac,h1,h2⟩:=pZ (l:=E) (n:=E.length-u.length) (by omega);have h2:V2.length=u.length:=by omega
     have e:=EQ (P:=F) (X:=u) (V:=Z) (Y:=V2) (S:=S') (a:=F.length) (b:=m+Z.length) (n:=u.length) rfl (by omega) rfl h2;simp only[go_sem,e0,e2,e4,I,J,Bh (show u.length<=m by omega) (by omega),show m-u.length=F.length by omega,Sp (show m+E.length<=4611686018427387904 by omega),Bh (show u.length<=m+E.length by omega) (by omega),show m+E.length-u.length=m+Z.length by omega];refine wD (F++u++E++S') F.length (m+Z.length) u.length j gf _ _ (by omega) (by simp;omega) (by simp;omega) R fun r=>?_
     simp only[go_sem,e0,e2,e4,I,J,Bh (show u.length<=E.length by omega) (by omega)];refine⟨⟨F,V2,Z,u++S',?_,?_,by omega,by omega,by omega,by rw[Xab];omega,?_,?_⟩,?_⟩
     . rw[h2]
     . rw[h1]
     . rw[<-T,ac];simp only[Xai]
     . rw[hH,gC,ac]
       congr 2
       have:F++u++(Z++V2)++S'=F++u++Z++V2++S':=by simp only[Xai]
       rw[this,e];simp only[Xai]
     . simp only[aF];omega
 . have O:u.length=E.length:=eqN O
   have e:=EQ (P:=F) (X:=u) (V:=[]) (Y:=E) (S:=S') (a:=F.length) (b:=m) (n:=u.length) rfl (by simp;omega) rfl O.symm;simp only[Xah]at e;simp only[go_sem,e0,e2,e4,I,J,Bh (show u.length<=m by omega) (by omega),show m-u.length=F.length by omega];refine wD (F++u++E++S') F.length m u.length j gf _ _ (by omega) (by simp;omega) (by simp;omega) R fun r=>?_
   simp only[go_sem];rw[hH,gC,e,T];exact hK _
abbrev TB:=Priced×Nat
def fs(L:List TB):List Priced:=L.map Prod.fst
theorem pO(a:List TB):(fs a).length=a.length:=Xaa _
theorem mF{L:List TB}{k:Nat}{x:TB}(h:L[k]?=some x):(fs L)[k]?=some x.1:=by unfold fs;rw[List.getElem?_map,h];rfl
structure CmpOk(gf:Nat)(lt:Priced->Priced->Bool)(ok:Priced->Prop):Prop where
 call:aC Tryz.prog gf=true
 cmp:∀x y,ok x->ok y->∃n:Int,decide (n<0)=lt x y/\PC Tryz.prog gf [.agg (bG x),.agg (bG y)] (int n)
theorem wS{l:List Nat}{H E u:aG}(h1:∀k,k∈l->u k=H k)(I:∀k,k∉l->u k=E k)(F:∀k,k∉l->E k=H k):u=H:=funext fun k=>by
 by_cases h:k∈l
 . exact h1 k h
 . rw[I k h,F k h]
theorem Co{gf:Nat}{lt:Priced->Priced->Bool}{ok:Priced->Prop}(hs:SWO lt)(hc:CmpOk gf lt ok)(P X S:List TB)(a b j:Nat)(H0:aG)(K:AV->aG->Prop)(ha:a=P.length)(hb:b=a+X.length)
   (ak:X.Pairwise fun p q=>p.2<q.2) (an:∀x∈X,ok x.1) (hl:(P++X++S).length<=1048576) (hj:H0 j=some (cQ (fs (P++X++S))))
   (hK:∀M:List TB,M.Perm X->M.Pairwise (tlt lt)->∀r,K r (aI H0 j (some (cQ (fs (P++M++S)))))):aX prog 105 [.os j,int a,int b,mQ gf] H0 K:=by
 have a6:P.length+X.length+S.length<=1048576:=by simpa[Xbo]using hl
 have ac:=hc.call;refine aX.body (c:=Tryz.f105.body.getD .skip) (fun _=>false) mixed Tryz.func105 rfl (by kernel_rfl) ?_;unfold Tryz.f105;simp only[gdS];simp only[go_sem];simp only[go_sem,aP (show a<=4611686018427387904 by omega)];refine⟨fun ρ H=>∃(k:Nat) (M:List TB),1<=k/\k<=max 1 X.length/\ρ 0=.os j/\ρ 1=int a/\ρ 2=int b/\ρ 3=mQ gf/\ρ 8=int (a+k:Nat)/\M.Perm (X.take k)/\M.Pairwise (tlt lt)/\H=aI H0 j (some (cQ (fs (P++M++X.drop k++S)))),fun ρ _=>b+1-aV (ρ 8),
   ⟨1,X.take 1,Xaf _,Nat.le_max_left _ _,by simp only[go_sem],by simp only[go_sem],by simp only[go_sem],by simp only[go_sem],by simp only[go_sem],.refl _,by cases X <;> simp,by
     have:P++X.take 1++X.drop 1++S=P++X++S:=by rw[Xai P,Xcb]
     rw[this];exact(gB hj).symm⟩,?_⟩
 rintro ρ H ⟨k,M,a9,a7,O,J,T,Z,I,hp,hM,hH⟩;simp only[go_sem,O,J,T,Z,I];refine aB (fun au=>?_) (fun az=>?_)
 . have ad:k<X.length:=by have:=ltB au;omega
   obtain⟨y,hy⟩:=aN ad;have ar:y∈X:=Xae hy;have ap:M.length=k:=by rw[hp.length_eq,Xal];omega
   have ae:∀z∈M,ok z.1/\z.2<y.2:=fun z hz=>by
     have hz:=hp.mem_iff.1 hz;refine⟨an z (List.mem_of_mem_take hz),?_⟩;have hX:X=X.take k++y::X.drop (k+1):=by rw[<-xH hy,Xcb]
     rw[hX]at ak;exact(List.pairwise_append.1 ak).2.2 z hz y (List.mem_cons_self ..)
   simp only[go_sem,O,J,T,Z,I];refine⟨fun ρ H=>∃M1 F:List TB,M=M1++F/\(∀z∈F,lt y.1 z.1=true)/\ρ 0=.os j/\ρ 1=int a/\ρ 2=int b/\ρ 3=mQ gf/\ρ 8=int (a+k:Nat)/\ρ 9=int (a+M1.length:Nat)/\H=aI H0 j (some (cQ (fs (P++M1++y::F++X.drop (k+1)++S)))),fun ρ _=>aV (ρ 9),
     ⟨M,[],by simp,by simp,by simp only[go_sem,O],by simp only[go_sem,J],by simp only[go_sem,T],by simp only[go_sem,Z],by simp only[go_sem,I],by simp only[go_sem,I,ap],by rw[hH,xH hy];simp only[Xai,List.cons_append,Xax]⟩,?_⟩
   clear O J T Z I hH;rintro ρ H ⟨M1,F,rfl,am,O,J,T,Z,I,e9,hH⟩;have ay:M1.length+F.length=k:=by rw[<-ap,Xab]
   have R:H j=some (cQ (fs (P++M1++y::F++X.drop (k+1)++S))):=by rw[hH];exact aA _ _ _
   have aa:(M1=[]\/∃E z,M1=E++[z]/\lt y.1 z.1=false)->(M1++y::F).Perm (X.take (k+1))/\(M1++y::F).Pairwise (tlt lt):=by
     intro aj;refine⟨?_,yX hs hM (fun z hz=>?_) (fun z hz=>.inl (am z (List.mem_of_mem_head? hz)))⟩
     . rw[bQ hy]
       refine List.perm_middle.trans ?_;exact((hp.cons y)).trans (List.perm_append_singleton y _).symm
     . rcases aj with rfl|⟨E,z',rfl,aw⟩
       . cases hz
       . rw[List.getLast?_append,List.getLast?_singleton]at hz
         have:z'=z:=by simpa using hz
         subst this;exact .inr ⟨aw,(ae z' (by simp)).2⟩
   rcases List.eq_nil_or_concat M1 with rfl|⟨E,z,rfl⟩
   . simp only[go_sem,O,J,T,Z,I,e9]
     refine eN [j] [(0,true),(1,true),(2,true),(3,true),(4,true),(5,true),(6,true),(7,true),(8,true),(9,true),(10,true),(11,true),(12,true),(13,true),(14,true),(15,true),(16,true)] (by simp[R]) (by kernel_rfl) fun Hp Hr af ai a5 av=>?_
     have Rp:=(af j (by simp)).trans R;have a4:decide ((a:Int)>(a:Int))=false:=by simp
     simp only[List.length_nil,Nat.add_zero]at e9;simp only[go_sem,O,J,T,Z,I,e9,Rp,a4,ac];refine⟨int 0,?_⟩;simp only[go_sem,O,J,T,Z,I,e9];refine eR fun _ Hm ag ah=>?_
     obtain rfl:=wS ag ah ai;refine aB (fun hb=>by cases hb) (fun _=>?_);simp only[go_sem,O,J,T,Z,I,aP (show a+k<=4611686018427387904 by omega)];obtain⟨f1,f2⟩:=aa (.inl rfl);refine⟨⟨k+1,_,by omega,by omega,?_,f1,f2,by rw[hH];simp only[Xai,List.cons_append,Xax]⟩,by simp only[aF];omega⟩;rw[Xbo]
   . rw[List.concat_eq_append]at *
     have al:(P++(E++[z])++y::F++X.drop (k+1)++S)[a+E.length]?=some z:=by
       rw[ha];simp only[Xai];rw[List.getElem?_append_right (by omega),List.getElem?_append_right (by omega)];simp
     have ao:(P++(E++[z])++y::F++X.drop (k+1)++S)[a+E.length+1]?=some y:=by
       rw[ha];simp only[Xai];rw[List.getElem?_append_right (by omega),List.getElem?_append_right (by omega),List.getElem?_append_right (by simp;omega)];simp[Nat.add_sub_cancel_left,show P.length+E.length+1-P.length-E.length-1=0 by omega]
     simp only[Xab,List.length_singleton]at ay;have a8:(fs (P++(E++[z])++y::F++X.drop (k+1)++S)).length=P.length+X.length+S.length:=by simp[fs];omega
     have b1:(0:Int)<=((a+E.length+1:Nat):Int)/\((a+E.length+1:Nat):Int)<((fs (P++(E++[z])++y::F++X.drop (k+1)++S)).length:Int):=by omega
     have b2:(0:Int)<=((a+E.length:Nat):Int)/\((a+E.length:Nat):Int)<((fs (P++(E++[z])++y::F++X.drop (k+1)++S)).length:Int):=by omega
     have g1:=aE (f:=bG) (mF ao);have g2:=aE (f:=bG) (mF al);obtain⟨n,hn,ax⟩:=hc.cmp y.1 z.1 (an y ar) (ae z (by simp)).1;have ab:ρ 9=int ((a+E.length+1:Nat):Int):=by rw[e9];simp[Xbo]
     have a0:decide (((a+E.length+1:Nat):Int)>(a:Int))=true:=by simp;omega
     have w1:IntKind.i64.wrap (((a+E.length+1:Nat):Int)-1)=((a+E.length:Nat):Int):=by rw[bA (by omega)];omega
     simp only[go_sem,O,J,T,Z,I,ab];refine eN [j] [(0,true),(1,true),(2,true),(3,true),(4,true),(5,true),(6,true),(7,true),(8,true),(9,true),(10,true),(11,true),(12,true),(13,true),(14,true),(15,true),(16,true)] (by simp[R]) (by kernel_rfl) fun Hp Hr af ai a5 av=>?_
     have Rp:=(af j (by simp)).trans R;simp only[go_sem,O,J,T,Z,I,ab,Rp,a0,ac,w1,g1,g2,b1,b2];refine⟨by omega,by omega,_,ax.q rfl,?_⟩;simp only[go_sem,O,J,T,Z,I,ab,hn];refine eR fun _ Hm ag ah=>?_
     obtain rfl:=wS ag ah ai;refine aB (fun hb=>?_) (fun hb=>?_)
     . simp only[go_sem,O,J,T,Z,I,ab]
       refine uM [] (.q 0 (.q 1 (.q 2 (.q 3 (.q 4 (.q 5 (.q 6 (.q 7 (.q 10 (.q 11 (.a2 8 (.a2 9 (.a1 12 (.a1 13 (.a1 14 (.a1 15 (.a1 16 (.a1 17 (.nil))))))) 12 (.a2 9 (.a1 13 (.a1 14 (.a1 15 (.a1 16 (.a1 17 (.nil)))))) 13 (.a1 9 (.a1 14 (.a1 15 (.a1 16 (.a1 17 (.nil)))))))) 12 (.a2 8 (.a2 9 (.a1 13 (.a1 14 (.a1 15 (.a1 16 (.a1 17 (.nil)))))) 13 (.a1 9 (.a1 14 (.a1 15 (.a1 16 (.a1 17 (.nil))))))) 13 (.a1 8 (.a1 9 (.a1 14 (.a1 15 (.a1 16 (.a1 17 (.nil))))))))))))))))))) (by simp) (by kernel_rfl) fun Hp Hr _ hr _ _=>?_
       obtain rfl:Hr=Hm:=funext fun i=>hr i (by simp)
       have hx:(fs (P++(E++[z])++y::F++X.drop (k+1)++S))[a+E.length+1]?=some y.1:=mF ao;have aq:(fs (P++(E++[z])++y::F++X.drop (k+1)++S))[a+E.length]?=some z.1:=mF al;simp only[go_sem,O,J,T,Z,I,ab,w1,R,b1,b2]
       repeat' (first|(refine lA ?_ ?_)|(refine⟨by omega,?_⟩)|(refine aJ R ⟨by rw[Xaa];omega,bS _,by rw[bS];exact Xaf 8⟩ ?_)|(refine aJ (aA _ _ _) ⟨by rw[Xbd,Xaa];omega,bS _,by rw[bS];exact Xaf 8⟩ ?_)|(refine eR fun _ Hm _ hm=>?_;obtain rfl:Hm=_:=funext fun i=>hm i (by simp))|(simp only[go_sem,O,J,T,Z,I,ab,w1,R,b1,b2,g1,g2,Xbd,Xaa,iV,Xah]))
       all_goals refine⟨⟨E,z::F,by simp,?_,rfl,(Dl hx aq (by omega) hH).trans ?_⟩,by simp only[aF];omega⟩
       all_goals first
         | (intro u hu
            rcases List.mem_cons.1 hu with rfl|hu
            . exact hb
            . exact am u hu)
         | (congr 2
            rw[Jt _ _ _ (by omega)];have:=E7 (U:=fs (P++E)) (W:=fs (F++X.drop (k+1)++S)) (x:=z.1) (y:=y.1) (i:=a+E.length) (j:=a+E.length+1) (by rw[pO,Xab];omega) (by rw[pO,Xab];omega);simp only[fs,Xam,Xar,Xbc,Xai,List.cons_append,Xax]at this |-;exact congrArg cQ this)
     . simp only[go_sem,O,J,T,Z,I,aP (show a+k<=4611686018427387904 by omega)]
       obtain⟨f1,f2⟩:=aa (.inr ⟨E,z,rfl,hb⟩);refine⟨⟨k+1,_,by omega,by omega,?_,f1,f2,by rw[hH];simp only[Xai,List.cons_append,Xax]⟩,by simp only[aF];omega⟩;rw[Xbo]
 . have ad : X.length <= k := by have : ¬ a + k < b := fun h => by simp at az; omega
                                 omega
   rw[Xan ad]at hp;rw[List.drop_of_length_le ad,Xah]at hH;simp only[go_sem];rw[hH];exact hK M hp hM _
end Go.Proofs.YtohmomanmikphaaGreatDoor.Nu.Ps
end
section
namespace Go.Proofs.YtohmomanmikphaaGreatDoor.Nu.Ps
open Go.Proofs.Tryz(prog)
open Go.Aw Go.Aw.D Go.Proofs Ty Go.Nu Go.So
theorem Da{i k:Nat}(h:i+k<=4611686018427387904):IntKind.i64.wrap (shV .shr .u64 (IntKind.u64.wrap (IntKind.i64.wrap ((i:Int)+(k:Int)))) 1)=(((i+k)/2:Nat):Int):=by
 have u:IntKind.u64.wrap ((i+k:Nat):Int)=((i+k:Nat):Int):=by
   have e:IntKind.u64.wrap ((i+k:Nat):Int)=((i+k:Nat):Int)%18446744073709551616:=rfl;rw[e];omega
 rw[Sp h,u];show IntKind.i64.wrap (((i+k:Nat):Int).fdiv (2^min (1:Int).toNat 64))=_;rw[show min (1:Int).toNat 64=1 from rfl,Xcf _ (by decide),bA (by omega)];omega
theorem Ur{P A B S:List TB}{m k:Nat}{y:TB}(E:m=P.length+A.length)(u:B[k]?=some y):(P++A++B++S)[m+k]?=some y:=by
 have F:=(List.getElem?_eq_some_iff.1 u).1;rw[List.getElem?_append_left (by simp;omega),List.getElem?_append_right (by simp;omega),Xab,E,Nat.add_sub_cancel_left,u]
theorem Vu{P A B S:List TB}{a k:Nat}{y:TB}(E:a=P.length)(u:A[k]?=some y):(P++A++B++S)[a+k]?=some y:=by
 have F:=(List.getElem?_eq_some_iff.1 u).1;rw[List.getElem?_append_left (by simp;omega),List.getElem?_append_left (by simp;omega),List.getElem?_append_right (by omega),E,Nat.add_sub_cancel_left,u]
section
variable{gf:Nat}{lt:Priced->Priced->Bool}{ok:Priced->Prop}
set_option maxHeartbeats 8000000 in
theorem zK (hs:SWO lt) (hc:CmpOk gf lt ok):∀(N:Nat) (P A B S:List TB) (a m b j:Nat) (H0:aG) (K:AV->aG->Prop),A.length+B.length<=N->a=P.length->m=a+A.length->b=m+B.length->A≠[]->B≠[] ->
    A.Pairwise (tlt lt)->B.Pairwise (tlt lt)->CA A B->(∀x∈A,ok x.1)->(∀x∈B,ok x.1)->P.length+A.length+B.length+S.length<=1048576->H0 j=some (cQ (fs (P++A++B++S))) ->
    (∀M:List TB,M.Perm (A++B)->M.Pairwise (tlt lt)->∀r,K r (aI H0 j (some (cQ (fs (P++M++S))))))->aX prog 106 [.os j,int a,int m,int b,mQ gf] H0 K
  | 0,P,A,B,S,a,m,b,j,H0,K,hN,_,_,_,hA,_,_,_,_,_,_,_,_,_=>by
    have:=Xbu.2 hA
    omega
  | N+1,P,A,B,S,a,m,b,j,H0,K,hN,ha,hm,hb,hA,hB,sA,sB,rk,okA,okB,hl,hj,hK=>by
    have ih:=zK hs hc N
    have am:=hc.call
    have b9:=Xbu.2 hA
    have ce:=Xbu.2 hB
    have bk:(fs (P++A++B++S)).length=P.length+A.length+B.length+S.length:=by simp[fs];omega
    refine aX.body (c:=Tryz.f106.body.getD .skip) (fun _=>false) mixed Tryz.func106 rfl (by kernel_rfl) ?_
    unfold Tryz.f106
    simp only[gdS]
    simp only[go_sem]
    simp only[go_sem,Bh (show a<=m by omega) (by omega)]
    refine aB (fun h1=>?_) (fun h1=>?_)
    . have h1:m-a=1:=by have:=eq_of_beq h1;omega
      obtain⟨x,rfl⟩:∃x,A=[x]:=List.length_eq_one_iff.1 (by omega)
      simp only[List.length_singleton]at hm hl bk hN
      simp only[go_sem]
      refine⟨fun ρ H=>∃i i':Nat,m<=i/\i<=i'/\i'<=b/\(i=m\/∃y,B[i-1-m]?=some y/\lt y.1 x.1=true)/\(i'=b\/∃y,B[i'-m]?=some y/\lt y.1 x.1=false)/\ρ 0=.os j/\ρ 1=int a/\ρ 4=mQ gf/\ρ 10=int i/\ρ 11=int i'/\H=H0,fun ρ _=>aV (ρ 11)-aV (ρ 10),
        ⟨m,b,Xaf _,by omega,Xaf _,.inl rfl,.inl rfl,by simp only[go_sem],by simp only[go_sem],by simp only[go_sem],by simp only[go_sem],by simp only[go_sem],rfl⟩,?_⟩
      rintro ρ H ⟨i,i',a7,a0,bx,q1,q2,I,e1,e4,ae,ao,T⟩
      have af:H j=some (cQ (fs (P++[x]++B++S))):=T▸hj
      simp only[go_sem,I,e1,e4,ae,ao]
      refine aB (fun J=>?_) (fun ac=>?_)
      . have J:=ltB J
        obtain⟨k,hk⟩:∃k,(i+i')/2=m+k:=⟨(i+i')/2-m,by omega⟩
        obtain⟨y,hy⟩:=aN (l:=B) (k:=k) (by omega)
        obtain⟨n,hn,ax⟩:=hc.cmp y.1 x.1 (okB y (Xae hy)) (okA x (by simp))
        have g1:=aE (f:=bG) (mF (Ur (S:=S) (show m=P.length+[x].length by simp;omega) hy))
        have g2:=aE (f:=bG) (mF (Vu (B:=B) (S:=S) ha (show[x][0]?=some x from rfl)))
        simp only[Nat.add_zero]at g2
        have b1:(0:Int)<=((m+k:Nat):Int)/\((m+k:Nat):Int)<((fs (P++[x]++B++S)).length:Int):=by omega
        have b2:(0:Int)<=((a:Nat):Int)/\((a:Nat):Int)<((fs (P++[x]++B++S)).length:Int):=by omega
        have wh:=Da (i:=i) (k:=i') (by omega)
        rw[hk]at wh
        simp only[go_sem,I,e1,e4,ae,ao,wh]
        refine⟨by decide,?_⟩
        refine eN [j] [(0,true),(1,true),(2,true),(3,true),(4,true),(5,true),(6,true),(7,true),(8,true),(9,true),(10,true)] (by simp[af]) (by kernel_rfl) fun Hp Hr ah a4 bb bq=>?_
        have Rp:=(ah j (by simp)).trans af
        simp only[go_sem,I,e1,e4,ae,ao,Rp,am,g1,g2,b1,b2]
        refine⟨by omega,by omega,_,ax.q rfl,?_⟩
        simp only[go_sem,I,e1,e4,ae,ao,hn]
        refine eR fun _ Hm ay az=>?_
        obtain rfl:=wS ay az a4
        refine aB (fun ai=>?_) (fun ai=>?_)
        . simp only[go_sem,I,e1,e4,ao,aP (show m+k<=4611686018427387904 by omega)]
          exact⟨⟨m+k+1,i',by omega,by omega,by omega,.inr ⟨y,by rw[show m+k+1-1-m=k by omega];exact hy,ai⟩,q2,rfl,rfl,T⟩,by simp only[aF];omega⟩
        . simp only[go_sem,I,e1,e4,ae]
          exact⟨⟨i,m+k,by omega,by omega,by omega,q1,.inr ⟨y,by rw[show m+k-m=k by omega];exact hy,ai⟩,rfl,rfl,T⟩,by simp only[aF];omega⟩
      . have ac:i=i':=geB a0 ac
        subst ac
        obtain⟨B1,B2,aa,ar,b3⟩:=pZ (l:=B) (n:=i-m) (by omega)
        have aq:(B1++x::B2).Pairwise (tlt lt):=by
          refine yX hs (aa▸sB) (fun z hz=>?_) (fun z hz=>?_)
          . rcases q1 with rfl|⟨y,hy,J⟩
            . rw[Nat.sub_self]at ar
              rw[Xaq.1 ar]at hz;cases hz
            . have bm : 0 < B1.length := by
                rcases Xbp B1.length with h0|h0
                . rw[Xaq.1 h0]at hz;cases hz
                . exact h0
              rw[aa,List.getElem?_append_left (by omega),show i-1-m=B1.length-1 by omega,<-List.getLast?_eq_getElem?,hz]at hy
              have:z=y:=by simpa using hy
              subst this
              exact .inl J
          . rcases q2 with rfl|⟨y,hy,J⟩
            . have:B2=[]:=Xaq.1 (by omega)
              rw[this]at hz;cases hz
            . rw[aa,List.getElem?_append_right (by omega),show i-m-B1.length=0 by omega,<-List.head?_eq_getElem?,hz]at hy
              have:z=y:=by simpa using hy
              subst this
              exact .inr ⟨J,rk x (by simp) z (by rw[aa];exact Xbz _ (List.mem_of_mem_head? hz))⟩
        simp only[go_sem,I,e1,ae]
        refine⟨fun ρ H=>∃Q R':List TB,B1=Q++R'/\ρ 0=.os j/\ρ 10=int i/\ρ 13=int (a+Q.length:Nat)/\H=aI H0 j (some (cQ (fs (P++Q++x::R'++B2++S)))),fun ρ _=>i-aV (ρ 13),
          ⟨[],B1,rfl,by simp only[go_sem,I],by simp only[go_sem,ae],by simp only[go_sem,List.length_nil,Nat.add_zero],by
            have:P++[]++x::B1++B2++S=P++[x]++B++S:=by rw[aa];simp
            rw[this,T];exact(gB hj).symm⟩,?_⟩
        clear I e1 e4 ae ao af T
        rintro ρ H ⟨Q,R',hQ,I,ae,ba,hH⟩
        have bj:Q.length+R'.length=B1.length:=by rw[hQ,Xab]
        have R:H j=some (cQ (fs (P++Q++x::R'++B2++S))):=by rw[hH];exact aA _ _ _
        have w0:IntKind.i64.wrap ((i:Int)-1)=((i-1:Nat):Int):=by rw[bA (by omega)];omega
        simp only[go_sem,I,ae,ba,w0]
        refine aB (fun J=>?_) (fun ac=>?_)
        . have J:Q.length<B1.length:=by have:=ltB J;omega
          obtain⟨y,F,rfl⟩:∃y F,R'=y::F:=List.exists_cons_of_length_pos (by omega)
          simp only[Xad]at bj
          have au:(fs (P++Q++x::y::F++B2++S))[a+Q.length]?=some x.1:=by
            refine mF ?_
            rw[ha];simp only[Xai];rw[List.getElem?_append_right (by omega),List.getElem?_append_right (by omega)];simp
          have av:(fs (P++Q++x::y::F++B2++S))[a+Q.length+1]?=some y.1:=by
            refine mF ?_
            rw[ha];simp only[Xai];rw[List.getElem?_append_right (by omega),List.getElem?_append_right (by omega)];simp[show P.length+Q.length+1-P.length-Q.length=1 by omega]
          have bn:(fs (P++Q++x::y::F++B2++S)).length=P.length+1+B.length+S.length:=by simp[fs];omega
          have b1:(0:Int)<=((a+Q.length+1:Nat):Int)/\((a+Q.length+1:Nat):Int)<((fs (P++Q++x::y::F++B2++S)).length:Int):=by omega
          have b2:(0:Int)<=((a+Q.length:Nat):Int)/\((a+Q.length:Nat):Int)<((fs (P++Q++x::y::F++B2++S)).length:Int):=by omega
          have g1:=aE (f:=bG) av
          have g2:=aE (f:=bG) au
          have w1:=aP (show a+Q.length<=4611686018427387904 by omega)
          simp only[go_sem,I,ae,ba,w1]
          refine uM [] (.q 0 (.q 1 (.q 2 (.q 3 (.q 4 (.q 5 (.q 6 (.q 7 (.q 10 (.q 11 (.a2 8 (.a2 9 (.a1 12 (.a1 13 (.a1 14 (.a1 15 (.a1 16 (.a1 17 (.nil))))))) 12 (.a2 9 (.a1 13 (.a1 14 (.a1 15 (.a1 16 (.a1 17 (.nil)))))) 13 (.a1 9 (.a1 14 (.a1 15 (.a1 16 (.a1 17 (.nil)))))))) 12 (.a2 8 (.a2 9 (.a1 13 (.a1 14 (.a1 15 (.a1 16 (.a1 17 (.nil)))))) 13 (.a1 9 (.a1 14 (.a1 15 (.a1 16 (.a1 17 (.nil))))))) 13 (.a1 8 (.a1 9 (.a1 14 (.a1 15 (.a1 16 (.a1 17 (.nil))))))))))))))))))) (by simp) (by kernel_rfl) fun Hp Hr _ hr _ _=>?_
          obtain rfl:Hr=H:=funext fun i=>hr i (by simp)
          simp only[go_sem,I,ae,ba,w1,R,b1,b2]
          repeat' (first|(refine lA ?_ ?_)|(refine⟨by omega,?_⟩)|(refine aJ R ⟨by rw[Xaa];omega,bS _,by rw[bS];exact Xaf 8⟩ ?_)|(refine aJ (aA _ _ _) ⟨by rw[Xbd,Xaa];omega,bS _,by rw[bS];exact Xaf 8⟩ ?_)|(refine eR fun _ Hm _ hm=>?_;obtain rfl:Hm=_:=funext fun i=>hm i (by simp))|(simp only[go_sem,I,ae,ba,w1,R,b1,b2,g1,g2,Xbd,Xaa,iV,Xah]))
          all_goals refine⟨⟨Q++[y],F,by rw[hQ];simp,?_,(Dl au av (by omega) hH).trans ?_⟩,by simp only[aF];omega⟩
          all_goals first
            | (rw[Xab,List.length_singleton,Xbo])
            | (congr 2
               have:=E7 (U:=fs (P++Q)) (W:=fs (F++B2++S)) (x:=x.1) (y:=y.1) (i:=a+Q.length) (j:=a+Q.length+1) (by rw[pO,Xab];omega) (by rw[pO,Xab];omega)
               simp only[fs,Xam,Xar,Xbc,Xai,List.cons_append,Xax]at this |-
               exact congrArg cQ this)
        . have b4:R'=[]:=Xaq.1 (by have h':¬a+Q.length<i-1:=(fun h=>by simp at ac;omega);omega)
          subst b4
          rw[Xah]at hQ
          simp only[go_sem]
          have:P++Q++[x]++B2++S=P++(B1++x::B2)++S:=by rw[hQ];simp
          rw[hH,this]
          refine hK _ ?_ aq _
          rw[aa]
          exact List.perm_middle
    have h1:¬A.length=1:=fun h=>by
      have:((m-a:Nat):Int)=1:=by omega
      rw[this]at h1;cases h1
    simp only[go_sem,Bh (show m<=b by omega) (by omega)]
    refine aB (fun h2=>?_) (fun h2=>?_)
    . have h2:b-m=1:=by have:=eq_of_beq h2;omega
      obtain⟨y,rfl⟩:∃y,B=[y]:=List.length_eq_one_iff.1 (by omega)
      simp only[List.length_singleton]at hb hl bk hN
      simp only[go_sem]
      refine⟨fun ρ H=>∃i i':Nat,a<=i/\i<=i'/\i'<=m/\(i=a\/∃z,A[i-1-a]?=some z/\lt y.1 z.1=false)/\(i'=m\/∃z,A[i'-a]?=some z/\lt y.1 z.1=true)/\ρ 0=.os j/\ρ 2=int m/\ρ 4=mQ gf/\ρ 14=int i/\ρ 15=int i'/\H=H0,fun ρ _=>aV (ρ 15)-aV (ρ 14),
        ⟨a,m,Xaf _,by omega,Xaf _,.inl rfl,.inl rfl,by simp only[go_sem],by simp only[go_sem],by simp only[go_sem],by simp only[go_sem],by simp only[go_sem],rfl⟩,?_⟩
      rintro ρ H ⟨i,i',a7,a0,bx,q1,q2,I,e2,e4,ad,ap,T⟩
      have af:H j=some (cQ (fs (P++A++[y]++S))):=T▸hj
      simp only[go_sem,I,e2,e4,ad,ap]
      refine aB (fun J=>?_) (fun ac=>?_)
      . have J:=ltB J
        obtain⟨k,hk⟩:∃k,(i+i')/2=a+k:=⟨(i+i')/2-a,by omega⟩
        obtain⟨z,hz⟩:=aN (l:=A) (k:=k) (by omega)
        obtain⟨n,hn,ax⟩:=hc.cmp y.1 z.1 (okB y (by simp)) (okA z (Xae hz))
        have g1:=aE (f:=bG) (mF (Ur (A:=A) (S:=S) (show m=P.length+A.length by omega) (show[y][0]?=some y from rfl)))
        simp only[Nat.add_zero]at g1
        have g2:=aE (f:=bG) (mF (Vu (B:=[y]) (S:=S) ha hz))
        have b1:(0:Int)<=((m:Nat):Int)/\((m:Nat):Int)<((fs (P++A++[y]++S)).length:Int):=by omega
        have b2:(0:Int)<=((a+k:Nat):Int)/\((a+k:Nat):Int)<((fs (P++A++[y]++S)).length:Int):=by omega
        have wh:=Da (i:=i) (k:=i') (by omega)
        rw[hk]at wh
        simp only[go_sem,I,e2,e4,ad,ap,wh]
        refine⟨by decide,?_⟩
        refine eN [j] [(0,true),(1,true),(2,true),(3,true),(4,true),(5,true),(6,true),(7,true),(8,true),(9,true),(10,true),(11,true)] (by simp[af]) (by kernel_rfl) fun Hp Hr ah a4 bb bq=>?_
        have Rp:=(ah j (by simp)).trans af
        simp only[go_sem,I,e2,e4,ad,ap,Rp,am,g1,g2,b1,b2]
        refine⟨by omega,by omega,_,ax.q rfl,?_⟩
        simp only[go_sem,I,e2,e4,ad,ap,hn]
        refine eR fun _ Hm ay az=>?_
        obtain rfl:=wS ay az a4
        refine aB (fun ai=>?_) (fun ai=>?_)
        . simp only[go_sem,I,e2,e4,ap,aP (show a+k<=4611686018427387904 by omega)]
          exact⟨⟨a+k+1,i',by omega,by omega,by omega,.inr ⟨z,by rw[show a+k+1-1-a=k by omega];exact hz,by simpa using ai⟩,q2,rfl,rfl,T⟩,by simp only[aF];omega⟩
        . simp only[go_sem,I,e2,e4,ad]
          exact⟨⟨i,a+k,by omega,by omega,by omega,q1,.inr ⟨z,by rw[show a+k-a=k by omega];exact hz,by simpa using ai⟩,rfl,rfl,T⟩,by simp only[aF];omega⟩
      . have ac:i=i':=geB a0 ac
        subst ac
        obtain⟨A1,A2,Z,ar,b3⟩:=pZ (l:=A) (n:=i-a) (by omega)
        have aq:(A1++y::A2).Pairwise (tlt lt):=by
          refine yX hs (Z▸sA) (fun z hz=>?_) (fun z hz=>?_)
          . rcases q1 with rfl|⟨u,hu,J⟩
            . rw[Nat.sub_self]at ar
              rw[Xaq.1 ar]at hz;cases hz
            . have bm : 0 < A1.length := by
                rcases Xbp A1.length with h0|h0
                . rw[Xaq.1 h0]at hz;cases hz
                . exact h0
              rw[Z,List.getElem?_append_left (by omega),show i-1-a=A1.length-1 by omega,<-List.getLast?_eq_getElem?,hz]at hu
              have:z=u:=by simpa using hu
              subst this
              exact .inr ⟨J,rk z (by rw[Z];exact Xca _ (List.mem_of_getLast? hz)) y (by simp)⟩
          . rcases q2 with rfl|⟨u,hu,J⟩
            . have:A2=[]:=Xaq.1 (by omega)
              rw[this]at hz;cases hz
            . rw[Z,List.getElem?_append_right (by omega),show i-a-A1.length=0 by omega,<-List.head?_eq_getElem?,hz]at hu
              have:z=u:=by simpa using hu
              subst this
              exact .inl J
        simp only[go_sem,I,e2,ad]
        refine⟨fun ρ H=>∃R' Q:List TB,A2=R'++Q/\ρ 0=.os j/\ρ 14=int i/\ρ 17=int (i+R'.length:Nat)/\H=aI H0 j (some (cQ (fs (P++A1++R'++y::Q++S)))),fun ρ _=>aV (ρ 17),
          ⟨A2,[],by simp,by simp only[go_sem,I],by simp only[go_sem,ad],by simp only[go_sem,e2];rw[show m=i+A2.length by omega],by
            have:P++A1++A2++[y]++S=P++A++[y]++S:=by rw[Z];simp
            rw[this,T];exact(gB hj).symm⟩,?_⟩
        clear I e2 e4 ad ap af T
        rintro ρ H ⟨R',Q,hQ,I,ad,a6,hH⟩
        have bj:R'.length+Q.length=A2.length:=by rw[hQ,Xab]
        have R:H j=some (cQ (fs (P++A1++R'++y::Q++S))):=by rw[hH];exact aA _ _ _
        simp only[go_sem,I,ad,a6]
        rcases List.eq_nil_or_concat R' with rfl|⟨F,z,rfl⟩
        . simp only[List.length_nil,Nat.add_zero]at a6
          refine aB (fun J=>by simp at J) (fun ac=>?_)
          rw[Xax]at hQ
          simp only[go_sem]
          have:P++A1++[]++y::Q++S=P++(A1++y::A2)++S:=by rw[hQ];simp
          rw[hH,this]
          refine hK _ ?_ aq _
          rw[Z]
          refine List.perm_middle.trans ?_
          exact(List.perm_append_singleton y _).symm
        . rw[List.concat_eq_append]at *
          simp only[Xab,List.length_singleton]at bj a6
          refine aB (fun J=>?_) (fun ac=>by simp at ac;omega)
          have au:(fs (P++A1++(F++[z])++y::Q++S))[i+F.length+1]?=some y.1:=by
            refine mF ?_
            rw[show i+F.length+1=P.length+(A1.length+(F.length+1))by omega]
            simp only[Xai];rw[List.getElem?_append_right (by omega),List.getElem?_append_right (by omega),List.getElem?_append_right (by omega)];simp
          have av:(fs (P++A1++(F++[z])++y::Q++S))[i+F.length]?=some z.1:=by
            refine mF ?_
            rw[show i+F.length=P.length+(A1.length+F.length)by omega]
            simp only[Xai];rw[List.getElem?_append_right (by omega),List.getElem?_append_right (by omega),List.getElem?_append_right (by omega)];simp
          have bn:(fs (P++A1++(F++[z])++y::Q++S)).length=P.length+A.length+1+S.length:=by simp[fs];omega
          have b1:(0:Int)<=((i+F.length+1:Nat):Int)/\((i+F.length+1:Nat):Int)<((fs (P++A1++(F++[z])++y::Q++S)).length:Int):=by omega
          have b2:(0:Int)<=((i+F.length:Nat):Int)/\((i+F.length:Nat):Int)<((fs (P++A1++(F++[z])++y::Q++S)).length:Int):=by omega
          have g1:=aE (f:=bG) au
          have g2:=aE (f:=bG) av
          have aw:ρ 17=int ((i+F.length+1:Nat):Int):=a6
          have w1:IntKind.i64.wrap (((i+F.length+1:Nat):Int)-1)=((i+F.length:Nat):Int):=by rw[bA (by omega)];omega
          simp only[go_sem,I,ad,aw,w1]
          refine uM [] (.q 0 (.q 1 (.q 2 (.q 3 (.q 4 (.q 5 (.q 6 (.q 7 (.q 10 (.q 11 (.a2 8 (.a2 9 (.a1 12 (.a1 13 (.a1 14 (.a1 15 (.a1 16 (.a1 17 (.nil))))))) 12 (.a2 9 (.a1 13 (.a1 14 (.a1 15 (.a1 16 (.a1 17 (.nil)))))) 13 (.a1 9 (.a1 14 (.a1 15 (.a1 16 (.a1 17 (.nil)))))))) 12 (.a2 8 (.a2 9 (.a1 13 (.a1 14 (.a1 15 (.a1 16 (.a1 17 (.nil)))))) 13 (.a1 9 (.a1 14 (.a1 15 (.a1 16 (.a1 17 (.nil))))))) 13 (.a1 8 (.a1 9 (.a1 14 (.a1 15 (.a1 16 (.a1 17 (.nil))))))))))))))))))) (by simp) (by kernel_rfl) fun Hp Hr _ hr _ _=>?_
          obtain rfl:Hr=H:=funext fun i=>hr i (by simp)
          simp only[go_sem,I,ad,aw,w1,R,b1,b2]
          repeat' (first|(refine lA ?_ ?_)|(refine⟨by omega,?_⟩)|(refine aJ R ⟨by rw[Xaa];omega,bS _,by rw[bS];exact Xaf 8⟩ ?_)|(refine aJ (aA _ _ _) ⟨by rw[Xbd,Xaa];omega,bS _,by rw[bS];exact Xaf 8⟩ ?_)|(refine eR fun _ Hm _ hm=>?_;obtain rfl:Hm=_:=funext fun i=>hm i (by simp))|(simp only[go_sem,I,ad,aw,w1,R,b1,b2,g1,g2,Xbd,Xaa,iV,Xah]))
          all_goals refine⟨⟨F,z::Q,by rw[hQ];simp,rfl,(Dl au av (by omega) hH).trans ?_⟩,by simp only[aF,Xab,List.length_singleton];omega⟩
          all_goals congr 2
          all_goals rw[Jt _ _ _ (by omega)]
          all_goals have:=E7 (U:=fs (P++A1++F)) (W:=fs (Q++S)) (x:=z.1) (y:=y.1) (i:=i+F.length) (j:=i+F.length+1) (by rw[pO,Xab,Xab];omega) (by rw[pO,Xab,Xab];omega)
          all_goals simp only[fs,Xam,Xar,Xbc,Xai,List.cons_append,Xax]at this |-
          all_goals exact congrArg cQ this
    have h2:¬B.length=1:=fun h=>by
      have:((b-m:Nat):Int)=1:=by omega
      rw[this]at h2;cases h2
    have bc:=Da (i:=a) (k:=b) (by omega)
    obtain⟨E,hmid⟩:∃E,(a+b)/2=E:=⟨_,rfl⟩
    rw[hmid]at bc
    simp only[go_sem,bc]
    refine⟨by decide,?_⟩
    simp only[go_sem,Sp (show E+m<=4611686018427387904 by omega)]
    -- where the search begins and ends
    obtain⟨s0,hs0⟩:∃s0,s0=if E<m then E+m-b else a:=⟨_,rfl⟩
    obtain⟨r0,hr0⟩:∃r0,r0=if E<m then E else m:=⟨_,rfl⟩
    refine bM (fun ρ H=>ρ 0=.os j/\ρ 1=int a/\ρ 2=int m/\ρ 3=int b/\ρ 4=mQ gf/\ρ 18=int E/\ρ 19=int (E+m:Nat)/\ρ 20=int s0/\ρ 21=int r0/\H=H0) ?_ fun K' ak=>aB (fun h=>?_) (fun h=>?_)
    rotate_left
    . have h:E<m:=ltB h
      rw[if_pos h]at hs0 hr0
      simp only[go_sem,Bh (show b<=E+m by omega) (by omega)]
      exact ak _ _ ⟨by simp only[go_sem],by simp only[go_sem],by simp only[go_sem],by simp only[go_sem],by simp only[go_sem],by simp only[go_sem],by simp only[go_sem],by simp only[go_sem,hs0],by simp only[go_sem,hr0],rfl⟩
    . have h:¬E<m:=by simpa using h
      rw[if_neg h]at hs0 hr0
      simp only[go_sem]
      exact ak _ _ ⟨by simp only[go_sem],by simp only[go_sem],by simp only[go_sem],by simp only[go_sem],by simp only[go_sem],by simp only[go_sem],by simp only[go_sem],by simp only[go_sem,hs0],by simp only[go_sem,hr0],rfl⟩
    rintro ρ H ⟨I,e1,e2,e3,e4,O,ag,ab,aj,T⟩
    have bz:s0<=r0/\a<=s0/\r0<=m/\r0<=E:=by rw[hs0,hr0];split <;> omega
    simp only[go_sem,I,e1,e2,e3,e4,O,ag,ab,aj]
    have wp:IntKind.i64.wrap (((E+m:Nat):Int)-1)=((E+m-1:Nat):Int):=by rw[bA (by omega)];omega
    simp only[go_sem,wp]
    refine⟨fun ρ H=>∃st r:Nat,s0<=st/\st<=r/\r<=r0/\(st=s0\/∃z y,A[st-1-a]?=some z/\B[E+m-st-m]?=some y/\lt y.1 z.1=false)/\(r=r0\/∃z y,A[r-a]?=some z/\B[E+m-1-r-m]?=some y/\lt y.1 z.1=true)/\ρ 0=.os j/\ρ 1=int a/\ρ 2=int m/\ρ 3=int b/\ρ 4=mQ gf/\ρ 18=int E/\ρ 19=int (E+m:Nat)/\ρ 22=int (E+m-1:Nat)/\ρ 20=int st/\ρ 21=int r/\H=H0,fun ρ _=>aV (ρ 21)-aV (ρ 20),
      ⟨s0,r0,Xaf _,bz.1,Xaf _,.inl rfl,.inl rfl,by simp only[go_sem,I],by simp only[go_sem,e1],by simp only[go_sem,e2],by simp only[go_sem,e3],by simp only[go_sem,e4],by simp only[go_sem,O],by simp only[go_sem,ag],by simp only[go_sem],by simp only[go_sem,ab],by simp only[go_sem,aj],T⟩,?_⟩
    clear I e1 e2 e3 e4 O ag ab aj T
    rintro ρ H ⟨st,r,a7,a0,bx,q1,q2,I,e1,e2,e3,e4,O,ag,al,ab,aj,T⟩
    have af:H j=some (cQ (fs (P++A++B++S))):=T▸hj
    simp only[go_sem,I,e1,e2,e3,e4,O,ag,al,ab,aj]
    refine aB (fun J=>?_) (fun ac=>?_)
    . have J:=ltB J
      obtain⟨c,hc0⟩:∃c,(st+r)/2=c:=⟨_,rfl⟩
      have wh:=Da (i:=st) (k:=r) (by omega)
      rw[hc0]at wh
      have br:s0<=c/\c<r0/\st<=c/\c<r:=by omega
      have cd:m<=E+m-1-c/\E+m-1-c<b:=by
        rw[hs0,hr0]at br
        split at br <;> omega
      obtain⟨z,hz⟩:=aN (l:=A) (k:=c-a) (by omega)
      obtain⟨y,hy⟩:=aN (l:=B) (k:=E+m-1-c-m) (by omega)
      obtain⟨n,hn,ax⟩:=hc.cmp y.1 z.1 (okB y (Xae hy)) (okA z (Xae hz))
      have g1:=aE (f:=bG) (mF (Ur (A:=A) (S:=S) (show m=P.length+A.length by omega) hy))
      have g2:=aE (f:=bG) (mF (Vu (B:=B) (S:=S) ha hz))
      rw[show m+(E+m-1-c-m)=E+m-1-c by omega]at g1
      rw[show a+(c-a)=c by omega]at g2
      have b1:(0:Int)<=((E+m-1-c:Nat):Int)/\((E+m-1-c:Nat):Int)<((fs (P++A++B++S)).length:Int):=by omega
      have b2:(0:Int)<=((c:Nat):Int)/\((c:Nat):Int)<((fs (P++A++B++S)).length:Int):=by omega
      have b0:=Bh (a:=E+m-1) (b:=c) (by omega) (by omega)
      simp only[go_sem,I,e1,e2,e3,e4,O,ag,al,ab,aj,wh]
      refine⟨by decide,?_⟩
      refine eN [j] [(0,true),(1,true),(2,true),(3,true),(4,true),(5,true),(6,true),(7,true),(8,true),(9,true),(10,true),(11,true),(12,true),(13,true)] (by simp[af]) (by kernel_rfl) fun Hp Hr ah a4 bb bq=>?_
      have Rp:=(ah j (by simp)).trans af
      simp only[go_sem,I,e1,e2,e3,e4,O,ag,al,ab,aj,Rp,am,b0,g1,g2,b1,b2]
      refine⟨by omega,by omega,_,ax.q rfl,?_⟩
      simp only[go_sem,I,e1,e2,e3,e4,O,ag,al,ab,aj,hn]
      refine eR fun _ Hm ay az=>?_
      obtain rfl:=wS ay az a4
      refine aB (fun ai=>?_) (fun ai=>?_)
      . simp only[go_sem,I,e1,e2,e3,e4,O,ag,al,aj,aP (show c<=4611686018427387904 by omega)]
        exact⟨⟨c+1,r,by omega,by omega,by omega,.inr ⟨z,y,by rw[show c+1-1-a=c-a by omega];exact hz,by rw[show E+m-(c+1)-m=E+m-1-c-m by omega];exact hy,by simpa using ai⟩,q2,rfl,rfl,T⟩,by simp only[aF];omega⟩
      . simp only[go_sem,I,e1,e2,e3,e4,O,ag,al,ab]
        exact⟨⟨st,c,by omega,by omega,by omega,q1,.inr ⟨z,y,hz,hy,by simpa using ai⟩,rfl,rfl,T⟩,by simp only[aF];omega⟩
    have ac:st=r:=geB a0 ac
    subst ac
    obtain⟨A1,A2,Z,bd,bg⟩:=pZ (l:=A) (n:=st-a) (by omega)
    have b6:E-st<=B.length:=by rw[hs0]at a7;split at a7 <;> omega
    obtain⟨B1,B2,aa,be,bf⟩:=pZ b6
    have b8:E+m-st=m+B1.length:=by omega
    -- the cuts fit
    have f1:∀x y:TB,A1.getLast?=some x->B2.head?=some y->tlt lt x y:=by
      intro x y hx hy
      rcases q1 with h0|⟨z,w,hz,hw,J⟩
      . rw[hs0]at h0
        split at h0
        . have:B2=[]:=Xaq.1 (by omega)
          rw[this]at hy;cases hy
        . have:A1=[]:=Xaq.1 (by omega)
          rw[this]at hx;cases hx
      . have bm : 0 < A1.length := by
          rcases Xbp A1.length with h0|h0
          . rw[Xaq.1 h0]at hx;cases hx
          . exact h0
        rw[Z,List.getElem?_append_left (by omega),show st-1-a=A1.length-1 by omega,<-List.getLast?_eq_getElem?,hx]at hz
        rw[aa,List.getElem?_append_right (by omega),show E+m-st-m-B1.length=0 by omega,<-List.head?_eq_getElem?,hy]at hw
        have e1:x=z:=by simpa using hz
        have e2:y=w:=by simpa using hw
        subst e1;subst e2
        exact .inr ⟨J,rk x (by rw[Z];exact Xca _ (List.mem_of_getLast? hx)) y (by rw[aa];exact Xbz _ (List.mem_of_mem_head? hy))⟩
    have f2:∀x y:TB,B1.getLast?=some x->A2.head?=some y->tlt lt x y:=by
      intro x y hx hy
      rcases q2 with h0|⟨z,w,hz,hw,J⟩
      . rw[hr0]at h0
        split at h0
        . have:B1=[]:=Xaq.1 (by omega)
          rw[this]at hx;cases hx
        . have:A2=[]:=Xaq.1 (by omega)
          rw[this]at hy;cases hy
      . have bm : 0 < B1.length := by
          rcases Xbp B1.length with h0|h0
          . rw[Xaq.1 h0]at hx;cases hx
          . exact h0
        rw[Z,List.getElem?_append_right (by omega),show st-a-A1.length=0 by omega,<-List.head?_eq_getElem?,hy]at hz
        rw[aa,List.getElem?_append_left (by omega),show E+m-1-st-m=B1.length-1 by omega,<-List.getLast?_eq_getElem?,hx]at hw
        have e1:y=z:=by simpa using hz
        have e2:x=w:=by simpa using hw
        subst e1;subst e2
        exact .inl J
    have a5:=List.pairwise_append.1 (Z▸sA)
    have a9:=List.pairwise_append.1 (aa▸sB)
    have bt:=Bh (a:=E+m) (b:=st) (by omega) (by omega)
    simp only[go_sem,I,e1,e2,e3,e4,O,ag,al,ab,bt]
    refine bM (fun ρ H=>ρ 0=.os j/\ρ 1=int a/\ρ 2=int m/\ρ 3=int b/\ρ 4=mQ gf/\ρ 18=int E/\ρ 20=int st/\ρ 24=int (E+m-st:Nat)/\H=aI H0 j (some (cQ (fs (P++A1++B1++A2++B2++S))))) ?_ fun K' ak=>aB (fun h=>?_) (fun h=>?_)
    rotate_left
    . have h:st<m/\m<E+m-st:=by simp at h;omega
      have bh:fs (P++A++B++S)=fs (P++A1)++fs A2++fs B1++fs (B2++S):=by rw[Z,aa];simp only[fs,Xam,Xai]
      simp only[go_sem,I,e2,e4,ab]
      refine Uw (fs (P++A1)) (fs A2) (fs B1) (fs (B2++S)) st m (E+m-st) j gf _ _ (by rw[pO,Xab];omega) (by rw[pO];omega) (by rw[pO];omega) (fun e=>by have:=pO A2;rw[e]at this;simp at this;omega) (fun e=>by have:=pO B1;rw[e]at this;simp at this;omega) (by rw[<-bh,bk];exact hl) (by rw[af,bh]) fun rr=>?_
      simp only[go_sem]
      refine ak _ _ ⟨by simp only[go_sem,I],by simp only[go_sem,e1],by simp only[go_sem,e2],by simp only[go_sem,e3],by simp only[go_sem,e4],by simp only[go_sem,O],by simp only[go_sem,ab],by simp only[go_sem],?_⟩
      rw[T]
      congr 3
      simp only[fs,Xam,Xai]
    . have h:¬(st<m/\m<E+m-st):=by simp at h;omega
      simp only[go_sem]
      refine ak _ _ ⟨by simp only[go_sem,I],by simp only[go_sem,e1],by simp only[go_sem,e2],by simp only[go_sem,e3],by simp only[go_sem,e4],by simp only[go_sem,O],by simp only[go_sem,ab],by simp only[go_sem],?_⟩
      have hz:A2=[]\/B1=[]:=by
        by_cases bo:st<m
        . exact .inr (Xaq.1 (by omega))
        . exact .inl (Xaq.1 (by omega))
      have:P++A1++B1++A2++B2++S=P++A++B++S:=by
        rw[Z,aa]
        rcases hz with rfl|rfl <;> simp
      rw[this,T];exact(gB hj).symm
    clear I e1 e2 e3 e4 O ag al ab aj T af
    rintro ρ H ⟨I,e1,e2,e3,e4,O,ab,an,hH⟩
    have bw:∀x∈A1,ok x.1:=fun x hx=>okA x (by rw[Z];exact Xca _ hx)
    have bu:∀x∈A2,ok x.1:=fun x hx=>okA x (by rw[Z];exact Xbz _ hx)
    have bv:∀x∈B1,ok x.1:=fun x hx=>okB x (by rw[aa];exact Xca _ hx)
    have bp:∀x∈B2,ok x.1:=fun x hx=>okB x (by rw[aa];exact Xbz _ hx)
    have b5:CA A1 B1:=fun x hx y hy=>rk x (by rw[Z];exact Xca _ hx) y (by rw[aa];exact Xca _ hy)
    have b7:CA A2 B2:=fun x hx y hy=>rk x (by rw[Z];exact Xbz _ hx) y (by rw[aa];exact Xbz _ hy)
    have ca:A1.length+B1.length=E-a/\A2.length+B2.length=b-E/\a<E/\E<b:=by omega
    simp only[go_sem,I,e1,e2,e3,e4,O,ab,an]
    refine bM (fun ρ H=>ρ 0=.os j/\ρ 3=int b/\ρ 4=mQ gf/\ρ 18=int E/\ρ 24=int (E+m-st:Nat)/\∃M1:List TB,M1.Perm (A1++B1)/\M1.Pairwise (tlt lt)/\H=aI H0 j (some (cQ (fs (P++M1++A2++B2++S))))) ?_ fun K' ak=>aB (fun h=>?_) (fun h=>?_)
    rotate_left
    . have h:a<st/\st<E:=by simp at h;omega
      simp only[go_sem,I,e1,e4,O,ab]
      refine ih P A1 B1 (A2++B2++S) a st E j H _ (by omega) ha (by omega) (by omega) (fun e=>by rw[e]at bd;simp at bd;omega) (fun e=>by rw[e]at be;simp at be;omega) a5.1 a9.1 b5 bw bv (by simp only[Xab];omega) (by rw[hH,aA];simp only[Xai]) fun M1 ah a8 rr=>?_
      simp only[go_sem]
      refine ak _ _ ⟨by simp only[go_sem,I],by simp only[go_sem,e3],by simp only[go_sem,e4],by simp only[go_sem,O],by simp only[go_sem,an],M1,ah,a8,?_⟩
      rw[hH,gC];simp only[Xai]
    . have h:¬(a<st/\st<E):=by simp at h;omega
      simp only[go_sem]
      refine ak _ _ ⟨by simp only[go_sem,I],by simp only[go_sem,e3],by simp only[go_sem,e4],by simp only[go_sem,O],by simp only[go_sem,an],A1++B1,.refl _,?_,?_⟩
      . by_cases bo:a<st
        . rw[Xaq.1 (show B1.length=0 by omega),Xah];exact a5.1
        . rw[Xaq.1 (show A1.length=0 by omega),Xax];exact a9.1
      . rw[hH];simp only[Xai]
    clear I e1 e2 e3 e4 O ab an hH
    rintro ρ H ⟨I,e3,e4,O,an,M1,ah,a8,hH⟩
    have cc:M1.length=E-a:=by rw[ah.length_eq,Xab];omega
    simp only[go_sem,I,e3,e4,O,an]
    refine aB (fun h=>?_) (fun h=>?_)
    . have h:E<E+m-st/\E+m-st<b:=by simp at h;omega
      simp only[go_sem,I,e3,e4,O,an]
      refine ih (P++M1) A2 B2 S E (E+m-st) b j H _ (by omega) (by rw[Xab];omega) (by omega) (by omega) (fun e=>by rw[e]at bg;simp at bg;omega) (fun e=>by rw[e]at bf;simp at bf;omega) a5.2.1 a9.2.1 b7 bu bp (by simp only[Xab];omega) (by rw[hH,aA]) fun M2 bb bi rr=>?_
      simp only[go_sem]
      obtain⟨r1,r2⟩:=AD hs (Z▸sA) (aa▸sB) f1 f2 ah bb a8 bi
      have:P++M1++M2++S=P++(M1++M2)++S:=by simp only[Xai]
      rw[hH,gC,this]
      exact hK _ (by rw[Z,aa];exact r2) r1 _
    . have h:¬(E<E+m-st/\E+m-st<b):=by simp at h;omega
      simp only[go_sem]
      have bi:(A2++B2).Pairwise (tlt lt):=by
        by_cases bo:E<E+m-st
        . rw[Xaq.1 (show B2.length=0 by omega),Xah];exact a5.2.1
        . rw[Xaq.1 (show A2.length=0 by omega),Xax];exact a9.2.1
      obtain⟨r1,r2⟩:=AD hs (Z▸sA) (aa▸sB) f1 f2 ah (.refl (A2++B2)) a8 bi
      have:P++M1++A2++B2++S=P++(M1++(A2++B2))++S:=by simp only[Xai]
      rw[hH,this]
      exact hK _ (by rw[Z,aa];exact r2) r1 _
end
end Go.Proofs.YtohmomanmikphaaGreatDoor.Nu.Ps
end
section
namespace Go.Proofs.YtohmomanmikphaaGreatDoor.Nu.Ps
open Go.Proofs.Tryz(prog)
open Go.Aw Go.Aw.D Go.Proofs Ty Go.Nu Go.So
theorem adX{α:Type}(l:List α):(tag l).Pairwise fun p q=>p.2<q.2:=by
 rw[List.pairwise_iff_getElem];intro i k E F u;rw[Az (List.getElem?_eq_getElem E),Az (List.getElem?_eq_getElem F)];exact u
theorem kX{α:Type}(D:List (List α))(A:List α):(D++[A]).flatten=D.flatten++A:=by simp
section
variable{gf:Nat}{lt:Priced->Priced->Bool}{ok:Priced->Prop}
set_option maxHeartbeats 4000000 in
theorem TN (hs:SWO lt) (hc:CmpOk gf lt ok) (l:List Priced) (j:Nat) (H0:aG) (K:AV->aG->Prop) (hl:l.length<=1048576) (a7:∀x∈l,ok x) (hj:H0 j=some (cQ l))
    (hK:∀r,K r (aI H0 j (some (cQ (vQ lt l))))):aX prog 62 [.os j,int l.length,mQ gf] H0 K:=by
  have ai:∀x∈tag l,ok x.1:=fun x u=>a7 x.1 (by
    have:=List.mem_map_of_mem (f:=Prod.fst) u
    rwa [HU]at this)
  have am:=Z9 l
  refine aX.body (c:=Tryz.f62.body.getD .skip) (fun _=>false) mixed Tryz.func62 rfl (by kernel_rfl) ?_
  unfold Tryz.f62
  simp only[gdS]
  simp only[go_sem]
  refine⟨fun ρ H=>∃(D:List (List TB)) (P0 X:List TB),P0++X=tag l/\D.flatten.Perm P0/\So.Good lt D/\(∀A∈D,A.length=20)/\ρ 0=.os j/\ρ 1=int l.length/\ρ 2=mQ gf/\ρ 6=int 20/\ρ 7=int P0.length/\ρ 8=int (P0.length+20:Nat)/\H=aI H0 j (some (cQ (fs (D.flatten++X)))),fun ρ _=>l.length+1-aV (ρ 7),
    ⟨[],[],tag l,rfl,.refl _,⟨by simp,List.Pairwise.nil⟩,by simp,by simp only[go_sem],by simp only[go_sem],by simp only[go_sem],by simp only[go_sem],by simp only[go_sem];rfl,by simp only[go_sem];rfl,by
      have:fs (([]:List (List TB)).flatten++tag l)=l:=HU l
      rw[this];exact(gB hj).symm⟩,?_⟩
  rintro ρ H ⟨D,P0,X,aa,hD,hG,ap,O,I,T,J,e7,e8,hH⟩
  have a9:P0.length+X.length=l.length:=by rw[<-am,<-aa,Xab]
  have ay:D.flatten.length=P0.length:=hD.length_eq
  have R:H j=some (cQ (fs (D.flatten++X))):=by rw[hH];exact aA _ _ _
  have aw:X.Pairwise fun p q=>p.2<q.2:=(List.pairwise_append.1 (aa▸adX l)).2.1
  have aj:∀x∈X,ok x.1:=fun x u=>ai x (by rw[<-aa];exact Xbz _ u)
  have ar:∀M X':List TB,M.Perm X'->(∀x∈X',x∈X)->∀B∈D,CA B M:=fun M X' hM a6 B hB x u y hy=>
    Td aa x (hD.mem_iff.1 (List.mem_flatten.2 ⟨B,hB,u⟩)) y (a6 y (hM.mem_iff.1 hy))
  simp only[go_sem,O,I,T,J,e7,e8]
  refine aB (fun ag=>?_) (fun az=>?_)
  . have ag:P0.length+20<=l.length:=by simp at ag;omega
    obtain⟨X1,X2,hX,ao,bd⟩:=pZ (l:=X) (n:=20) (by omega)
    simp only[go_sem,O,I,T,J,e7,e8]
    refine Co hs hc D.flatten X1 X2 P0.length (P0.length+20) j H _ ay.symm (by omega) ((List.pairwise_append.1 (hX▸aw)).1) (fun x u=>aj x (by rw[hX];exact Xca _ u)) (by simp only[Xab];omega) (by rw[R,hX,Xai]) fun M hp hM r=>?_
    have a4:M.length=20:=by rw[hp.length_eq,ao]
    have a8:IntKind.i64.wrap (((P0.length+20:Nat):Int)+20)=((P0.length+20+20:Nat):Int):=by rw[bA (by omega)];omega
    simp only[go_sem,O,I,T,J,e7,e8,a8]
    refine⟨⟨D++[M],P0++X1,X2,by rw[<-aa,hX,Xai],?_,GE hG hM (ar M X1 hp fun x u=>by rw[hX];exact Xca _ u),?_,?_,?_,?_⟩,?_⟩
    . rw[kX];exact hD.append hp
    . intro A hA
      rcases Xba.1 hA with hA|hA
      . exact ap A hA
      . rw[Xat.1 hA];exact a4
    . rw[Xab,ao]
    . rw[Xab,ao]
    . rw[hH,gC,kX]
    . simp only[aF];omega
  . have az:l.length<P0.length+20:=by simp at az;omega
    simp only[go_sem,O,I,T,J,e7,e8]
    refine Co hs hc D.flatten X [] P0.length l.length j H _ ay.symm (by omega) aw aj (by simp only[Xab,List.length_nil];omega) (by rw[R,Xah]) fun M hp hM r=>?_
    have a4:M.length=X.length:=hp.length_eq
    rw[Xah,hH,gC]
    clear R hH
    simp only[go_sem,O,I,T,J]
    refine⟨fun ρ H=>∃(bs:Nat) (R:List (List TB)),20<=bs/\bs<=4194304/\So.Good lt R/\So.qM bs R/\R.flatten.Perm (tag l)/\ρ 0=.os j/\ρ 1=int l.length/\ρ 2=mQ gf/\ρ 6=int bs/\H=aI H0 j (some (cQ (fs R.flatten))),fun ρ _=>l.length-aV (ρ 6),
      ⟨20,if X=[]then D else D++[M],Xaf _,by decide,?_,?_,?_,by simp only[go_sem,O],by simp only[go_sem,I],by simp only[go_sem,T],by simp only[go_sem,J];rfl,?_⟩,?_⟩
    . split
      . exact hG
      . exact GE hG hM (ar M X hp fun x u=>u)
    . split
      . have:=xQ ap (by decide) (show So.qM 20 ([]:List (List TB))from trivial)
        rwa [Xah]at this
      . next u=>
        have:=Xbu.2 u
        exact xQ ap (by decide) (show So.qM 20 [M]from⟨by omega,by omega⟩)
    . split
      . next u=>rw[u,Xah]at aa;rw[<-aa];exact hD
      . rw[kX,<-aa];exact hD.append hp
    . split
      . next u=>subst u;rw[List.perm_nil.1 hp,Xah]
      . rw[kX]
    clear O I T J e7 e8
    rintro ρ H ⟨bs,R,ba,be,Z,ab,F,O,I,T,J,hH⟩
    have au:R.flatten.length=l.length:=by rw[F.length_eq,am]
    simp only[go_sem,O,I,T,J]
    refine aB (fun av=>?_) (fun ak=>?_)
    . have av:=ltB av
      have wd:IntKind.i64.wrap (2*(bs:Int))=((2*bs:Nat):Int):=by rw[bA (by omega)];omega
      simp only[go_sem,O,I,T,J,wd]
      refine⟨fun ρ H=>∃(D R:List (List TB)),So.Good lt (D++R)/\(∀A∈D,A.length=2*bs)/\So.qM bs R/\(D.flatten++R.flatten).Perm (tag l)/\ρ 0=.os j/\ρ 1=int l.length/\ρ 2=mQ gf/\ρ 6=int bs/\ρ 7=int D.flatten.length/\ρ 8=int (D.flatten.length+2*bs:Nat)/\H=aI H0 j (some (cQ (fs (D.flatten++R.flatten)))),fun ρ _=>l.length+1-aV (ρ 7),
        ⟨[],R,by simpa using Z,by simp,ab,by simpa using F,by simp only[go_sem,O],by simp only[go_sem,I],by simp only[go_sem,T],by simp only[go_sem,J],by simp only[go_sem];rfl,by simp only[go_sem];simp,by rw[hH];rfl⟩,?_⟩
      clear O I T J hH Z ab F au R
      rintro ρ H ⟨D',R,Z,an,ab,F,O,I,T,J,e7,e8,hH⟩
      have au:D'.flatten.length+R.flatten.length=l.length:=by rw[<-am,<-F.length_eq,Xab]
      have ae:∀A∈R,∀x∈A,ok x.1:=fun A hA x u=>ai x (F.mem_iff.1 (Xbz _ (List.mem_flatten.2 ⟨A,hA,u⟩)))
      simp only[go_sem,O,I,T,J,e7,e8]
      refine aB (fun ag=>?_) (fun a0=>?_)
      . have ag:D'.flatten.length+2*bs<=l.length:=by have:=of_decide_eq_true ag;omega
        obtain⟨A,B,r,E,hA,hB,hr⟩:=To (by omega) ab (by omega)
        obtain⟨g1,g2,g3⟩:=DU (E▸Z)
        have ac:R.flatten=A++(B++r.flatten):=by rw[E];simp
        have aq:R.flatten.length=A.length+B.length+r.flatten.length:=by rw[ac,Xab,Xab];omega
        have w1:=Sp (a:=D'.flatten.length) (b:=bs) (by omega)
        simp only[go_sem,O,I,T,J,e7,e8,w1]
        refine zK hs hc (A.length+B.length) D'.flatten A B r.flatten D'.flatten.length (D'.flatten.length+bs) (D'.flatten.length+2*bs) j H _ (Xaf _) rfl (by omega) (by omega) (fun e=>by rw[e]at hA;simp at hA;omega) (fun e=>by rw[e]at hB;simp at hB;omega) g2 g3 g1 (fun x u=>ae A (by rw[E];simp) x u) (fun x u=>ae B (by rw[E];simp) x u) (by omega) (by rw[hH,aA,ac];simp only[Xai]) fun M2 ad al rr=>?_
        have ah:M2.length=2*bs:=by rw[ad.length_eq,Xab];omega
        have w2:=Sp (a:=D'.flatten.length+2*bs) (b:=2*bs) (by omega)
        simp only[go_sem,O,I,T,J,e7,e8,wd,w2]
        refine⟨⟨D'++[M2],r,?_,?_,hr,?_,?_,?_,?_⟩,?_⟩
        . have:=E2 (E▸Z) ad al
          simpa using this
        . intro A' af
          rcases Xba.1 af with af|af
          . exact an A' af
          . rw[Xat.1 af];exact ah
        . refine List.Perm.trans ?_ F
          rw[kX,ac,Xai]
          refine List.Perm.append_left _ ?_
          rw[<-Xai]
          exact ad.append_right _
        . rw[kX,Xab,ah]
        . rw[kX,Xab,ah]
        . rw[hH,gC,kX]
        . simp only[aF];omega
      . have a0:l.length<D'.flatten.length+2*bs:=by have:=of_decide_eq_false a0;omega
        have w1:=Sp (a:=D'.flatten.length) (b:=bs) (by omega)
        have w3:IntKind.i64.wrap ((bs:Int)*2)=((2*bs:Nat):Int):=by rw[bA (by omega)];omega
        simp only[go_sem,O,I,T,J,e7,e8,w1]
        refine aB (fun hm=>?_) (fun hm=>?_)
        . have hm:=ltB hm
          obtain⟨A,B,E,hA,ax,bb⟩:=Pd ab (by omega) (by omega)
          obtain⟨g1,g2,g3⟩:=DU (E▸Z)
          have ac:R.flatten=A++B:=by rw[E];simp
          have aq:R.flatten.length=A.length+B.length:=by rw[ac,Xab]
          simp only[go_sem,O,I,T,J,e7,e8]
          refine zK hs hc (A.length+B.length) D'.flatten A B [] D'.flatten.length (D'.flatten.length+bs) l.length j H _ (Xaf _) rfl (by omega) (by omega) (fun e=>by rw[e]at hA;simp at hA;omega) (fun e=>by rw[e]at ax;simp at ax) g2 g3 g1 (fun x u=>ae A (by rw[E];simp) x u) (fun x u=>ae B (by rw[E];simp) x u) (by simp only[List.length_nil];omega) (by rw[hH,aA,ac];simp only[Xai,Xah]) fun M2 ad al rr=>?_
          have ah:M2.length=A.length+B.length:=by rw[ad.length_eq,Xab]
          simp only[go_sem,O,I,T,J,w3]
          refine⟨⟨2*bs,D'++[M2],by omega,by omega,?_,xQ an (by omega) ⟨by omega,by omega⟩,?_,rfl,?_⟩,?_⟩
          . have:=E2 (E▸Z) ad al
            exact this
          . refine List.Perm.trans ?_ F
            rw[kX,ac]
            exact List.Perm.append_left _ ad
          . rw[hH,gC,kX]
          . simp only[aF];omega
        . have hm:l.length<=D'.flatten.length+bs:=by have:=of_decide_eq_false hm;omega
          simp only[go_sem,O,I,T,J,w3]
          refine⟨⟨2*bs,D'++R,by omega,by omega,Z,xQ an (by omega) ?_,by rw[List.flatten_append];exact F,rfl,by rw[hH,List.flatten_append]⟩,?_⟩
          . rcases F9 (by omega) ab (by omega)with rfl|⟨A,rfl,a5,bc⟩
            . trivial
            . exact⟨a5,by omega⟩
          . simp only[aF];omega
    . have ak:l.length<=bs:=by simp at ak;omega
      simp only[go_sem]
      rw[hH]
      have:=TA hs F (Xh Z (by omega) ab (by omega))
      unfold fs
      rw[this]
      exact hK _
theorem I5(F:SWO lt)(M:CmpOk gf lt ok)(l:List Priced)(j:Nat)(H0:aG)(K:AV->aG->Prop)(J:l.length<=1048576)(u:∀x∈l,ok x)(E:H0 j=some (cQ l))
   (I:∀r,K r (aI H0 j (some (cQ (vQ lt l))))):aX prog 32 [.os j,mQ gf] H0 K:=by
 refine aX.body (c:=Tryz.f32.body.getD .skip) (fun _=>false) mixed Tryz.func32 rfl (by kernel_rfl) ?_;unfold Tryz.f32;simp only[gdS];simp only[go_sem];simp only[go_sem,E,Xaa];refine TN F M l j H0 _ J u E fun r=>?_
 simp only[go_sem];exact I _
end
end Go.Proofs.YtohmomanmikphaaGreatDoor.Nu.Ps
end
section
namespace Go.Proofs.YtohmomanmikphaaGreatDoor.Nu.Ps
open Go.Aw Go.Aw.D Go.Proofs Go.Nu Go.So
def ltP(a b:Priced):Bool:=decide (rQ a.reduced<rQ b.reduced)
theorem Yx:SWO ltP where
 asym a b h:=decide_eq_false fun u=>absurd (Std.lt_trans (of_decide_eq_true h) u) Rat.lt_irrefl
 neg a b c h1 u:=decide_eq_false fun E=>absurd E (Rat.not_lt.2 (Rat.le_trans (Rat.not_lt.1 (of_decide_eq_false u)) (Rat.not_lt.1 (of_decide_eq_false h1))))
def tI(m:Priced):List Priced->Priced
 | []=>m
 | p::l=>tI (if ltP p m=true then p else m) l
theorem JL:∀(l:List Priced) (m:Priced),tI m l∈m::l
 | [],m=>by simp[tI]
 | p::l,m=>by
   have ih:=JL l (if ltP p m=true then p else m);show tI (if ltP p m=true then p else m) l∈m::p::l;rcases List.mem_cons.1 ih with h|h
   . rw[h];split <;> simp
   . simp[h]
theorem ER:∀(l u:List Priced),(l.foldl (fun u x=>ins ltP x u) u).Perm (u++l)
 | [],u=>by simp
 | x::l,u=>(ER l _).trans (((AC ltP x u).append_right l).trans (by
   show(x::(u++l)).Perm (u++x::l);exact List.perm_middle.symm))
theorem EJ(l:List Priced):(vQ ltP l).Perm l:=ER l []
def Dt(p:Priced):Bool:=decide (rQ p.reduced<0)
def aeF(l:List Priced):List Priced:=(vQ ltP l).takeWhile Dt
end Go.Proofs.YtohmomanmikphaaGreatDoor.Nu.Ps
end
section
namespace Go.Proofs.YtohmomanmikphaaGreatDoor.Nu
open Go.Proofs.Tryz(prog)
open Go.Aw Go.Aw.D Go.Proofs Ty Go.Nu
theorem T2(x:Int):qI .and .i64 x 1=x%2:=by
 have h:((BitVec.ofInt 64 x &&& BitVec.ofInt 64 1).toNat:Int)=x%2:=by
   rw[BitVec.toNat_and,BitVec.toNat_ofInt,BitVec.toNat_ofInt];have:((1:Int)%((2^64:Nat):Int)).toNat=1:=by decide
   rw[this,Nat.and_one_is_mod];omega
 refine Eq.trans (congrArg IntKind.i64.wrap h) ?_;exact bA (by omega)
theorem ZX{a b:Nat}(F:a<2^63)(E:b<2^63):qI .and .i64 (a:Int) (b:Int)=((a &&& b:Nat):Int):=by
 have h:((BitVec.ofInt 64 (a:Int) &&& BitVec.ofInt 64 (b:Int)).toNat:Int)=((a &&& b:Nat):Int):=by
   rw[BitVec.toNat_and,BitVec.toNat_ofInt,BitVec.toNat_ofInt];have h1:((a:Int)%((2^64:Nat):Int)).toNat=a:=by omega
   have u:((b:Int)%((2^64:Nat):Int)).toNat=b:=by omega
   rw[h1,u]
 refine Eq.trans (congrArg IntKind.i64.wrap h) ?_;have:=Nat.and_lt_two_pow a E;exact bA (by omega)
theorem rT{x:Int}{i:Nat}(h:i<=62):shV .shr .i64 x (i:Int)=x/2^i:=by
 show x.fdiv (2^min ((i:Int)).toNat 64)=_;have:min ((i:Int)).toNat 64=i:=by omega
 rw[this,Xcf _ (by exact Int.le_of_lt (Int.pow_pos (by decide)))]
def dH(set i:Int):Bool:=decide (i>=0)&&decide (i<=62)&&((set/2^i.toNat)%2 == 1)
theorem tK(set i:Int):PC prog 121 [int set,int i] (boo (dH set i)):=by
 refine pcd Tryz.func121 ?_;unfold Tryz.f121;simp only[gdS];simp only[go_sem];refine⟨fun h=>?_,?_⟩
 . simp at h;omega
 . refine cB ?_
   unfold dH;rw[T2];by_cases h:0<=i/\i<=62
   . obtain⟨h0,h1⟩:=h
     have e:=rT (x:=set) (i:=i.toNat) (by omega);rw[Int.toNat_of_nonneg h0]at e;rw[e]
   . have:(decide (i>=0)&&decide (i<=62))=false:=by simp;omega
     rw[this];rfl
def qF(set:Int)(k:Nat):List Int:=((List.range k).filter fun i:Nat=>dH set (i:Int)).map fun i:Nat=>(i:Int)
def fR(set:Int):List Int:=qF set 63
theorem nB(set:Int)(k:Nat):qF set (k+1)=qF set k++(if dH set (k:Int)=true then[(k:Int)]else[]):=by
 unfold qF;rw[Xbk,List.filter_append,Xam];by_cases h:dH set (k:Int)=true
 . simp[h]
 . simp[h]
theorem pS(set:Int)(k:Nat):(qF set k).length<=k:=by
 unfold qF;rw[Xaa];exact Xaj (Xbt _ _) (by simp)
def oG(l:List Int):Row:=⟨3,1,l.map bN⟩
theorem lR(set:Int):PC prog 117 [int set] (.sl ((fR set).map bN)):=by
 refine pcb (fun t=>t == 3) Tryz.func117 ?_;unfold Tryz.f117;simp only[gdS];simp only[go_sem];refine aM fun j O=>?_
 simp only[go_sem];refine⟨fun ρ H=>∃k:Nat,k<=63/\ρ 0=int set/\ρ 5=int k/\∃j,ρ 3=.os j/\H j=some (oG (qF set k)),fun ρ _=>63-aV (ρ 5),⟨0,Xac _,rfl,rfl,j,rfl,aA _ _ _⟩,?_⟩;clear O;rintro ρ H ⟨k,Z,h0,I,j,E,R⟩;simp only[go_sem,h0,I,E];refine aB (fun u=>?_) (fun F=>?_)
 . have u:k<63:=by simp at u;omega
   simp only[go_sem,h0,I,E];refine PC.use (tK set k) ?_;simp only[go_sem,h0,I,E];refine aB (fun J=>?_) (fun J=>?_)
   . simp only[go_sem,h0,I,E]
     refine bE R ⟨rfl,rfl⟩ ⟨rfl,trivial⟩ (by have:=pS set k;simp[oG];omega) (fun M T=>?_);simp only[go_sem,h0,I,E,aP (show k<=4611686018427387904 by omega)];refine⟨⟨k+1,u,rfl,M,rfl,?_⟩,by simp only[aF];omega⟩;rw[nB,if_pos J,aA];simp only[oG,Xam,Xar,Xbc];rfl
   . simp only[go_sem,h0,I,E,aP (show k<=4611686018427387904 by omega)]
     refine⟨⟨k+1,u,rfl,j,rfl,?_⟩,by simp only[aF];omega⟩;rw[nB,if_neg (by rw[J];simp),Xah];exact R
 . have F:k=63:=by simp at F;omega
   subst F;simp only[go_sem,E];exact .row _ _ _ R (ConvE.refl _)
def xZ:Nat->Nat->Nat
 | 0,_=>0
 | k+1,n=>n%2+xZ k (n/2)
theorem GX:∀(k n:Nat),xZ (k+1) n=xZ k n+(n/2^k)%2
 | 0,n=>by simp[xZ]
 | k+1,n=>by
   rw[xZ,GX k (n/2),xZ,Nat.div_div_eq_div_mul,show 2*2^k=2^(k+1)by rw[Nat.pow_succ,Nat.mul_comm]];omega
theorem I3:∀k n:Nat,xZ k n<=k
 | 0,_=>Xaf 0
 | k+1,n=>by have:=I3 k (n/2);rw[xZ];omega
theorem LW(n:Nat):∀k:Nat,k<=63->(qF (n:Int) k).length=xZ k n
 | 0,_=>rfl
 | k+1,hk=>by
   rw[nB,Xab,LW n k (by omega),GX];have h:dH (n:Int) (k:Int)=decide ((n/2^k)%2=1):=by
     unfold dH;rw[show decide ((k:Int)>=0)=true by simp,show decide ((k:Int)<=62)=true by simp;omega,Xbf,Xbj,Xbj];rw[Xau,beq_iff_eq,decide_eq_true_iff];have:((n:Int)/2^k)=((n/2^k:Nat):Int):=by norm_cast
     rw[this];omega
   rw[h];by_cases u:(n/2^k)%2=1
   . simp[u]
   . have:(n/2^k)%2=0:=by omega
     simp[this]
theorem VD(n:Nat):PC prog 93 [int n] (int (xZ 63 n:Nat)):=by
 have O:=LW n 63 (Xaf _);have M:=I3 63 n;refine pcd Tryz.func93 ?_;unfold Tryz.f93;simp only[gdS];simp only[go_sem];refine PC.use (lR n) ?_;simp only[go_sem,Xaa,fR,O];generalize xZ 63 n=P at *;refine⟨fun ρ _=>∃k:Nat,k<=P/\ρ 3=int k/\ρ 6=int (P:Nat)/\ρ 7=int k,fun ρ _=>P-aV (ρ 7),⟨0,Xac _,by simp only[go_sem];rfl,by simp only[go_sem],by simp only[go_sem];rfl⟩,?_⟩;rintro ρ H ⟨k,T,F,J,I⟩;simp only[go_sem,F,J,I];refine aB (fun E=>?_) (fun u=>?_)
 . have E:=ltB E
   simp only[go_sem,F,J,I,aP (show k<=4611686018427387904 by omega)];exact⟨⟨k+1,E,rfl⟩,by simp only[aF];omega⟩
 . have u:=geB T u
   subst u;simp only[go_sem,F];exact .refl _
def kY(p:Int×Int):List AV:=[int p.1,int p.2]
def sY(m:List (Int×Int))(o:Int):Option Nat:=m.findIdx? fun p=>p.1 == o
def uT(m:List (Int×Int))(o:Int):Int:=((m.find? fun p=>p.1 == o).map (·.2)).getD 0
def C8(m:List (Int×Int))(o v:Int):List (Int×Int):=match sY m o with
 | some i=>m.set i (o,v)
 | none=>m++[(o,v)]
abbrev vV(m:List (Int×Int)):Row:=⟨0,2,m.map kY⟩
theorem tC(o:Int):∀(m:List (Int×Int)) (i:Nat),qP (oB prog 3 (int o)) (m.map kY) i=some ((sY m o).map (·+i))
 | [],i=>rfl
 | p::m,i=>by
   have ih:=tC o m (i+1);have E:oB prog 3 (int o) ((kY p).getD 0 .any)=some (o == p.1):=by
     show oB prog 3 (int o) (int p.1)=_;unfold oB;simp only[kk3];simp[sC]
   rw[Xar,qP,E];unfold sY at *;rw[List.findIdx?_cons];by_cases h:o=p.1
   . subst h;simp
   . have h1:(o == p.1)=false:=by simpa using h
     have u:(p.1 == o)=false:=by simpa using fun e=>h e.symm
     rw[h1,u];simp only[Xay,if_false];rw[ih];cases m.findIdx? (fun p=>p.1 == o)with
     | none=>rfl
     | some j=>simp;omega
theorem lL(o:Int)(m:List (Int×Int)):qP (oB prog 3 (int o)) (m.map kY) 0=some (sY m o):=by
 rw[tC];cases sY m o <;> rfl
theorem nG(o:Int):lD prog 3 (int o)=true:=by
 simp only[lD,kk3];rfl
theorem AF(m:List (Int×Int))(o:Int):Ee false (int 0) (m.map kY) (sY m o)=int (uT m o):=by
 unfold Ee uT sY;induction m with
 | nil=>rfl
 | cons p m ih=>
   rw[List.findIdx?_cons,List.find?_cons];cases h:p.1 == o with
   | true=>simp[kY]
   | false=>
     cases u:m.findIdx? (fun p=>p.1 == o)with
     | none=>
       rw[u]at ih;simpa using ih
     | some j=>
       rw[u]at ih;simp at ih |-;exact ih
theorem Aq(m:List (Int×Int))(o v:Int):RZ (m.map kY) (sY m o) (int o) (int v)=(C8 m o v).map kY:=by
 unfold RZ C8;cases sY m o with
 | none=>simp[kY]
 | some i=>simp[List.map_set,kY]
def G5(k:Int):Nat:=if k=1 then 2 else if k=2 then 1 else 0
def Xq(k:Int)(P:Nat):Bool:=decide (G5 k>0)&&decide (G5 k<=P)
def CQ(k:Int)(n:Nat):Int:=if Xq k (xZ 63 n)=true then 1 else 0
theorem afF(k m:Int)(a b:Nat)(T:a<2^63)(hb:b<2^63):PC prog 159 [.agg [int k,int a,int m],int b] (int (CQ k (a &&& b))):=by
 have hs:=VD (a &&& b);have O:=I3 63 (a &&& b);refine pcd Tryz.func159 ?_;unfold Tryz.f159;simp only[gdS];simp only[go_sem];refine aM fun jm E=>?_
 generalize u:aI bT jm _=HM;have I:HM jm=some (vV []):=by rw[<-u,aA];rfl
 clear u E;simp only[go_sem];refine Hz I Ej (nG _) (lL _ _) ?_;rw[Aq];generalize u:aI HM jm _=HN;have J:HN jm=some (vV [(1,2)]):=by rw[<-u,aA];rfl
 clear u I;simp only[go_sem];refine Hz J Ej (nG _) (lL _ _) ?_;rw[Aq];generalize u:aI HN jm _=HO;have Z:HO jm=some (vV [(1,2),(2,1)]):=by rw[<-u,aA];rfl
 clear u J;simp only[go_sem];refine Bz Z Ej (nG _) (lL _ _) zv3 ?_;rw[AF];have hk:uT [(1,2),(2,1)] k=(G5 k:Nat):=by
   unfold uT G5;by_cases h1:k=1
   . subst h1;rfl
   . by_cases F:k=2
     . subst F;rfl
     . have M:((1:Int) == k)=false:=by simpa using fun e=>h1 e.symm
       have e2:((2:Int) == k)=false:=by simpa using fun e=>F e.symm
       simp[List.find?,M,e2,h1,F]
 rw[hk];simp only[go_sem];rw[ZX T hb];refine⟨_,fun _=>hs.q rfl,?_⟩;unfold CQ;generalize xZ 63 (a &&& b)=P at *;simp only[go_sem];have hc:(decide (((G5 k:Nat):Int)>0)&&decide ((P:Int)>=((G5 k:Nat):Int)))=Xq k P:=by
   unfold Xq;rw[Xau];simp
 rw[hc];refine aB (fun h=>?_) (fun h=>?_)
 . simp only[go_sem]
   exact cI (by rw[if_pos h])
 . simp only[go_sem]
   exact cI (by rw[if_neg (by rw[h];simp)])
end Go.Proofs.YtohmomanmikphaaGreatDoor.Nu
end
section
namespace Go.Proofs.YtohmomanmikphaaGreatDoor.Nu
open Go.Aw Go.Aw.D Go.Proofs Ty Go.Nu
theorem Aj:∀(l:List (Int×ByteArray)) (t:ByteArray),cG t=true->(uA l t).2=0->cG (uA l t).1=true
 | [],t,h,_=>h
 | p::l,t,h,h0=>by
   unfold uA at h0 |-;split at h0
   . next h1=>exact absurd h0 h1
   . next h1=>
     rw[if_neg h1];split at h0
     . next u=>exact absurd h0 u
     . next u=>
       rw[if_neg u];exact Aj l _ (ET (by simpa using u)) h0
theorem Mn{ns:List Int}{xs:List ByteArray}(h:(pL ns xs).2=0):cG (pL ns xs).1=true:=by
 unfold pL at h |-;split at h
 . cases h
 . next h1=>
   rw[if_neg h1];split at h
   . cases h
   . next u=>rw[if_neg u];exact Aj _ _ OR h
theorem Pb{a b:ByteArray}(h:(Ev a b).2=0):cG (Ev a b).1=true:=by
 unfold Ev at h |-;split at h
 . rename_i E
   rw[if_pos E];obtain⟨e,u⟩:=zG h;rw[e];exact qR u
 . cases h
end Go.Proofs.YtohmomanmikphaaGreatDoor.Nu
end
