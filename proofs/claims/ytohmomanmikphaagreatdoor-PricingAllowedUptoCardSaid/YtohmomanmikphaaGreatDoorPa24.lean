import Derived.Test.YtohmomanmikphaaGreatDoorPa18
import Derived.Test.YtohmomanmikphaaGreatDoorPa23
set_option linter.unusedSimpArgs false
set_option linter.unusedVariables false
set_option maxRecDepth 100000
namespace Go.Proofs.YtohmomanmikphaaGreatDoor
namespace Rx
open Go.Proofs.Tryz(prog)
open Go.Aw Go.Aw.D Go.Proofs Ty
open Sq
open Go.Proofs.YtohmomanmikphaaGreatDoor.Nu (ltB geB)
open Mv (bJ bR aM)
theorem XL(s:Sq.Score):PC prog 252 [.agg (Sq.cD s)] (.tup [int (lZ s).1,int (lZ s).2]):=Nu.RQ ⟨s.cost,s.moved,s.other,s.work⟩
theorem Wr(x:Instance)(r:Route)(Y:InsB x)(X:r.visits.length<=1048576):PC prog 198 [.agg (aD x),.agg (bT r)] (.tup [int (nX x r).1,int (nX x r).2]):=by
 have Z:=M7 x r Y X;unfold nX;generalize oG x r=E at *;refine pcd Tryz.func198 ?_;unfold Tryz.f198;simp only[gdS];simp only[go_sem];refine PC.use Z ?_;simp only[go_sem];refine aL fun j6 h6=>?_
 simp only[go_sem];refine aL fun U O=>?_
 simp only[go_sem];refine aH (eZ (aA _ _ _) O) (by simp[Sq.bP]) ?_;simp only[go_sem];have I:=aP (aA _ _ _) O;refine aH (nR (aA _ _ _) I.symm) (by simp[Sq.cD]) ?_;generalize J:aI _ U _=HG;have V:HG U=some (⟨262,4,[Sq.cD E.2.1]⟩:Row):=by rw[<-J,aA];rfl
 clear J;simp only[go_sem];refine aB (fun F=>?_) (fun F=>?_)
 . rw[if_pos F]
   simp only[go_sem];exact .refl _
 rw[if_neg (by rw[F];simp)];simp only[go_sem,V];refine PC.use (XL E.2.1) ?_;simp only[go_sem];exact .refl _
theorem Qu(a b:Column)(F:a.route.visits.length<=1048576)(E:b.route.visits.length<=1048576):PC prog 199 [.agg (aU a),.agg (aU b)] (boo (rZ a b)):=by
 refine pcd Tryz.func199 ?_;unfold Tryz.f199;simp only[gdS];simp only[go_sem];unfold rZ;refine aB (fun E=>?_) (fun E=>?_)
 . rw[if_pos E]
   simp only[go_sem];exact .refl _
 . rw[if_neg (by rw[E];simp)]
   simp only[go_sem];refine PC.use (YN a.route.visits b.route.visits F ‹_›) ?_;simp only[go_sem];rw[KW];exact .refl _
def tB(s:Nat):Nat->Nat
 | 0=>s
 | k+1=>tB s k/2
theorem GG(s:Nat):∀k,tB s k=s/2^k
 | 0=>by simp[tB]
 | k+1=>by
   show tB s k/2=_;rw[GG s k,Nat.div_div_eq_div_mul,Xbj]
theorem Q3(x:Instance)(s:Nat)(h0:0<s)(h1:s<2^x.orders.length)(hn:x.orders.length<=8):PC prog 123 [.agg (aD x),int (s:Nat)] (boo true):=by
 have h8:2^x.orders.length<=256:=Xal (Xav (by decide) hn) (by decide);refine pcd Tryz.func123 ?_;unfold Tryz.f123;simp only[gdS];simp only[go_sem];refine⟨fun ρ H=>∃k:Nat,k<=x.orders.length/\ρ 1=int (s:Nat)/\ρ 2=.rp (aD x) 0/\ρ 5=int (tB s k:Nat)/\ρ 6=int (k:Nat),fun ρ _=>x.orders.length-aV (ρ 6),⟨0,Xab _,by simp only[go_sem],by simp only[go_sem],by simp only[go_sem];rfl,(by simp only[go_sem];rfl)⟩,?_⟩;rintro ρ H ⟨k,hk,J,V,F,U⟩;simp only[go_sem,J,V,F,U,Xaa];refine aB (fun O=>?_) (fun E=>?_)
 . simp only[Xak,decide_eq_true_eq]at O
   have hq:(tB s k:Int).tdiv 2=((tB s (k+1):Nat):Int):=by
     show(tB s k:Int).tdiv 2=((tB s k/2:Nat):Int);rw[Xbx (by omega)];rfl
   have Y:=GG s k;have aa:tB s k<=s:=by rw[Y];exact Xcn _ _
   have X:tB s (k+1)<=tB s k:=Xcn _ _;have hw:IntKind.i64.wrap ((tB s k:Int).tdiv 2)=((tB s (k+1):Nat):Int):=by rw[hq,bH (by omega)]
   simp only[go_sem,J,V,F,U,hw,aT (show k<=4611686018427387904 by omega)];exact⟨by decide,⟨⟨k+1,by omega,rfl,rfl⟩,by simp only[aE];omega⟩⟩
 . have E : x.orders.length <= k := by
     simp only[Xcm,decide_eq_false_iff_not]at E;omega
   have I:k=x.orders.length:=by omega
   have Z:tB s k=0:=by rw[GG,I];exact Nat.div_eq_of_lt h1
   rw[Z]at F;simp only[go_sem,J,F];refine bR ?_;rw[decide_eq_true (by omega)];rfl
structure SeaC(x:Instance)(s k:Nat):Prop where
 cx:Cx x s
 acc:Sq.Acc x
 ins:InsB x
theorem Gb{x:Instance}{s kk:Nat}(h:SeaC x s kk):∀(f:Nat) (b:Column×Bool) (l:List Visit),b.1.set=(s:Int)->b.1.route.visits.length<=16->Sq.jB x (s:Int) l->(dQ x f b l).1.route.visits.length<=16
 | 0,b,l,_,E,_=>E
 | f+1,b,l,F,E,hst=>by
   have X:=h.cx.n8;have V:=sQ (x:=x) (set:=(s:Int)) (n:=x.orders.length) (by omega) (by exact_mod_cast h.cx.top) (by omega);have O:=Dz h.cx hst;unfold dQ;split
   . unfold pD
     split
     . exact E
     . split
       . exact E
       . show l.length<=16
         omega
   . rw[F,A9 h.acc (by omega)]
     have J:∀(vs:List Visit) (b:Column×Bool),(∀v∈vs,v∈nJ x (s:Int) l)->b.1.set=(s:Int)->b.1.route.visits.length<=16->(vs.foldl (fun b v=>dQ x f b (l++[v])) b).1.route.visits.length<=16:=by
       intro vs;induction vs with
       | nil=>intro b _ _ E;exact E
       | cons v vs ih=>
         intro b I F E;exact ih _ (fun u U=>I u (by simp[U])) ((vI x f b _).2.trans F) (Gb h f b _ F E (hst.snoc (I v (by simp))))
     exact J _ b (fun v E=>E) F E
theorem Gu{x:Instance}{s kk:Nat}(h:SeaC x s kk):∀(f:Nat) (b:Column×Bool) (l:List Visit),b.1.type=(kk:Int)/\b.1.set=(s:Int)->b.1.route.visits.length<=16->Sq.jB x (s:Int) l->iS x (s:Int)-l.length<f ->
   PC prog 124 [.agg (aD x),.agg (aU b.1),boo b.2,.sl (l.map aJ)] (.tup [.agg (aU (dQ x f b l).1),boo (dQ x f b l).2])
 | 0,b,l,hb,hv,hst,hf=>by omega
 | f+1,b,l,hb,hv,hst,hf=>by
   have IH:=Gu h f;have hn:=h.cx.n8;have hT:=sQ (x:=x) (set:=(s:Int)) (n:=x.orders.length) (by omega) (by exact_mod_cast h.cx.top) (by omega);have bg:=Dz h.cx hst;have hN:=Yc x (s:Int) l (by omega) h.ins.before (by omega);have eW:dQ x (f+1) b l=if((vZ x b.1.set l).length:Int)=0 then pD x b l else(vZ x b.1.set l).foldl (fun b v=>dQ x f b (l++[v])) b:=rfl
   have bc:∀v∈vZ x (s:Int) l,Sq.jB x (s:Int) (l++[v])/\l.length+1<=iS x (s:Int):=fun v hv=>by
     rw[A9 h.acc (by omega)]at hv;have h2:=hst.snoc hv;have h3:=Dz h.cx h2;rw[Xae]at h3;exact⟨h2,h3⟩
   have a9:=yD x (s:Int) l x.orders.length
   change (vZ x (s:Int) l).length<=_ at a9
   rw[hb.2]at eW;generalize dQ x (f+1) b l=RW at *;have bf:l.length<=16:=by omega
   have hO:=GD ⟨b.1.type,0,[],l⟩ (by show l.length<=1048576;omega);have be:=WH x ⟨b.1.type,0,[],l⟩ h.ins (by show l.length<=1048576;omega);have ba:=Wr x ⟨b.1.type,0,[],l⟩ h.ins (by show l.length<=1048576;omega);refine pcb (fun t=>t == 5||t == 80) Tryz.func124 ?_;unfold Tryz.f124;simp only[gdS];simp only[go_sem];refine aL fun j5 a5=>?_
   generalize aw:aI _ j5 _=HGj5;have F:HGj5 j5=some (cE [b.1]):=by rw[<-aw,aA];try rfl
   clear aw a5;simp only[go_sem,F];refine aL fun X av=>?_
   have V:j5≠X:=aP F av;generalize ap:aI _ X _=HGj8;replace F:=(congrFun ap.symm j5).trans ((aF _ _ _ _ V).trans F);have E:HGj8 X=some (cE [cJ]):=by rw[<-ap,aA];try rfl
   clear ap av;simp only[go_sem,E,F];simp only[go_sem,F,hb.2];refine PC.use hN ?_;generalize vZ x (s:Int) l=vs at *;simp only[go_sem,F,Xaa];refine aB (fun hc=>?_) (fun hc=>?_)
   . have hc:(vs.length:Int)=0:=by simpa using hc
     rw[if_pos hc]at eW;subst eW;have ai:pD x b l=if((cK l).1 != b.1.set||(oG x ⟨b.1.type,0,[],l⟩).2.2 != 0)=true then b
       else if((nX x ⟨b.1.type,0,[],l⟩).2 != 0||(b.2&& !rZ ⟨b.1.type,b.1.set,(nX x ⟨b.1.type,0,[],l⟩).1,⟨b.1.type,0,[],l⟩⟩ b.1))=true then b
       else(⟨b.1.type,b.1.set,(nX x ⟨b.1.type,0,[],l⟩).1,⟨b.1.type,0,[],l⟩⟩,true):=rfl
     generalize pD x b l=LW at *;simp only[go_sem,F];refine aL fun ae ah=>?_
     have I:j5≠ae:=aP F ah;have J:X≠ae:=aP E ah;simp only[go_sem,F,E];refine aH (aA _ _ _) (by simp[cA]) ?_;generalize ag:aI (aI _ ae _) ae _=HGj11;replace F:=kpR ag I I F;replace E:=kpR ag J J E;have U:HGj11 ae=some (cE [b.1]):=by rw[<-ag,aA];try rfl
     clear ag ah;simp only[go_sem,U,F,E];refine aH U (by simp[cA]) ?_;generalize O:aI _ ae _=HP;replace F:=(congrFun O.symm j5).trans ((aF _ _ _ _ (by first|exact I|exact ne_j11_j5.symm)).trans F);replace E:=(congrFun O.symm X).trans ((aF _ _ _ _ (by first|exact J|exact ne_j11_j8.symm)).trans E);replace U:HP ae=some (cE [⟨b.1.type,b.1.set,b.1.price,⟨b.1.type,0,[],l⟩⟩]):=by rw[<-O,aA];rfl
     clear O;simp only[go_sem,U,F,E];refine PC.use hO ?_;simp only[go_sem,F,U];refine⟨_,fun _=>be.q rfl,?_⟩;simp only[go_sem,F,U];refine aB (fun hd=>?_) (fun hd=>?_)
     . rw[if_pos hd]at ai
       simp only[go_sem,F,E];refine aH E (by simp[cA]) ?_;generalize O:aI _ X _=HP;replace E:HP X=some (cE [b.1]):=by rw[<-O,aA];rfl
       clear O;simp only[go_sem,E];rw[ai];exact .refl _
     rw[if_neg (by rw[hd];simp)]at ai;simp only[go_sem,F,U];refine PC.use ba ?_;generalize nX x ⟨b.1.type,0,[],l⟩=pr at *;simp only[go_sem,F,U];refine dM so3 U (by simp[cA]) ?_;generalize O:aI _ ae _=HP;replace F:=(congrFun O.symm j5).trans ((aF _ _ _ _ (by first|exact I|exact ne_j11_j5.symm)).trans F);replace E:=(congrFun O.symm X).trans ((aF _ _ _ _ (by first|exact J|exact ne_j11_j8.symm)).trans E);replace U:HP ae=some (cE [⟨b.1.type,b.1.set,pr.1,⟨b.1.type,0,[],l⟩⟩]):=by rw[<-O,aA];rfl
     clear O;simp only[go_sem,U,F,E];refine⟨_,fun _=>(Qu ⟨b.1.type,b.1.set,pr.1,⟨b.1.type,0,[],l⟩⟩ b.1 (by show l.length<=1048576;omega) (by omega)).q rfl,?_⟩;simp only[go_sem,F,E,U];refine aB (fun hd=>?_) (fun hd=>?_)
     . rw[if_pos hd]at ai
       simp only[go_sem,F,E];refine aH E (by simp[cA]) ?_;generalize O:aI _ X _=HP;replace E:HP X=some (cE [b.1]):=by rw[<-O,aA];rfl
       clear O;simp only[go_sem,E];rw[ai];exact .refl _
     rw[if_neg (by rw[hd];simp)]at ai;simp only[go_sem,F,E,U];refine aH E (by simp[cA]) ?_;generalize O:aI _ X _=HP;replace E:HP X=some (cE [⟨b.1.type,b.1.set,pr.1,⟨b.1.type,0,[],l⟩⟩]):=by rw[<-O,aA];rfl
     clear O;simp only[go_sem,E];rw[ai];exact .refl _
   . have hc:¬(vs.length:Int)=0:=by simpa using hc
     rw[if_neg hc]at eW;subst eW;simp only[go_sem];refine⟨fun ρ H=>∃(k:Nat) (c:Column×Bool),k<=vs.length/\ρ 3=.sl (l.map aJ)/\ρ 4=.rp (aD x) 0/\ρ 5=.op j5 0 0/\ρ 8=.op X 0 0/\ρ 10=.sl (vs.map aJ)/\ρ 16=int k/\ρ 2=boo c.2/\c=(vs.take k).foldl (fun b v=>dQ x f b (l++[v])) b/\(c.1.type=(kk:Int)/\c.1.set=(s:Int))/\c.1.route.visits.length<=16/\H j5=some (cE [c.1])/\H X=some (cE [cJ]),fun ρ _=>vs.length-aV (ρ 16),⟨0,b,Xab _,by simp only[go_sem],by simp only[go_sem],by simp only[go_sem],by simp only[go_sem],by simp only[go_sem],(by simp only[go_sem];rfl),by simp only[go_sem],rfl,hb,hv,F,E⟩,?_⟩;rintro ρ H ⟨k,c,hk,e3,e4,e5,e8,ab,aa,e2,ay,au,a0,F,E⟩;simp only[go_sem,e3,e4,e5,e8,ab,aa,e2];refine aB (fun an=>?_) (fun az=>?_)
     . have an:=ltB (by simpa using an)
       obtain⟨v,ax⟩:=aN an;have b1:=inB an;obtain⟨a6,bi⟩:=bc v (Xac ax);have ar:=kF (f:=fun b v=>dQ x f b (l++[v])) (b:=b) ax;rw[<-ay]at ar;have ar:(vs.take (k+1)).foldl (fun b v=>dQ x f b (l++[v])) b=dQ x f c (l++[v]):=ar;have hI:=IH c (l++[v]) au a0 a6 (by rw[Xae];simp;omega);have a7:=vI x f c (l++[v]);have bd:(dQ x f c (l++[v])).1.route.visits.length<=16:=Gb h f c _ au.2 a0 a6;generalize dQ x f c (l++[v])=S at *;simp only[go_sem,e3,e4,e5,e8,ab,aa,e2];refine aL fun aq aj=>?_
       have Y:j5≠aq:=aP F aj;have Z:X≠aq:=aP E aj;generalize af:aI _ aq _=HGj80;replace F:=(congrFun af.symm j5).trans ((aF _ _ _ _ Y).trans F);replace E:=(congrFun af.symm X).trans ((aF _ _ _ _ Z).trans E);have a4:HGj80 aq=some (IR []):=by rw[<-af,aA];try rfl
       clear af aj;simp only[go_sem,e3,e4,e5,e8,ab,aa,e2,a4,F,E];refine aZ a4 ⟨rfl,rfl⟩ (yQ (fun v=>cX v) _) (by simp only[Xaa,List.length_nil];omega) (fun j2 ao=>?_);have ac:j5≠j2:=aP F ao;have ad:X≠j2:=aP E ao;generalize O:aI (aI _ aq none) j2 _=HP;replace F:=(congrFun O.symm j5).trans ((aF _ _ _ _ ac).trans ((aF _ _ _ _ (by first|exact Y|exact ne_j80_j5.symm)).trans F));replace E:=(congrFun O.symm X).trans ((aF _ _ _ _ ad).trans ((aF _ _ _ _ (by first|exact Z|exact ne_j80_j8.symm)).trans E));have R2:HP j2=some (IR l):=by rw[<-O,aA];rfl
       clear O ao;simp only[go_sem,e3,e4,e5,e8,ab,aa,e2,aC ax,b1,R2,F,E];refine aZ R2 ⟨rfl,rfl⟩ (by simp only[go_sem]) (by simp only[Xaa,Xad,List.length_nil];omega) (fun j3 am=>?_);have ak:j5≠j3:=aP F am;have al:X≠j3:=aP E am;generalize O:aI (aI _ j2 none) j3 _=HP;replace F:=(congrFun O.symm j5).trans ((aF _ _ _ _ ak).trans ((aF _ _ _ _ (by first|exact ac|exact ne_j2_j5.symm)).trans F));replace E:=(congrFun O.symm X).trans ((aF _ _ _ _ al).trans ((aF _ _ _ _ (by first|exact ad|exact ne_j2_j8.symm)).trans E));have R3:HP j3=some (IR (l++[v])):=by rw[<-O,aA];exact congrArg some (Gk _ _)
       clear O am;simp only[go_sem,e3,e4,e5,e8,ab,aa,e2,R3,F,E];refine PC.useF [j3] (.cons _ _ _ _ (.refl _) (.cons _ _ _ _ (.refl _) (.cons _ _ _ _ (.refl _) (.cons _ _ _ _ (.row _ _ _ (by simp only[Xbf,if_true];exact R3) (ConvE.refl _)) .nil)))) hI ?_;rw[aoC];have a8:j5≠j3:=fun e=>by rw[e,R3]at F;have:=congrArg (fun o:Option Row=>o.map (·.e)) F;simp at this
       have bb:X≠j3:=fun e=>by rw[e,R3]at E;have:=congrArg (fun o:Option Row=>o.map (·.e)) E;simp at this
       replace F:aI HP j3 none j5=some (cE [c.1]):=(aF _ _ _ _ a8).trans F;replace E:aI HP j3 none X=some (cE [cJ]):=(aF _ _ _ _ bb).trans E;have bh:X≠j5:=V.symm;generalize aI HP j3 none=H3 at *;simp only[go_sem,e3,e4,e5,e8,ab,aa,e2,F];refine aH F (by simp[cA]) ?_;generalize O:aI _ j5 _=HP;replace E:=(congrFun O.symm X).trans ((aF _ _ _ _ (by first|exact ne_j8_j5|exact V.symm)).trans E);replace F:HP j5=some (cE [S.1]):=by rw[<-O,aA];rfl
       clear O;simp only[go_sem,e3,e4,e5,e8,ab,aa,e2,F,E];simp only[go_sem,e3,e4,e5,e8,ab,aa,e2,aT (show k<=4611686018427387904 by omega)];exact⟨⟨k+1,S,an,rfl,rfl,ar.symm,⟨a7.1.trans au.1,a7.2.trans au.2⟩,bd,rfl⟩,by simp only[aE];omega⟩
     have az:=geB hk (by simpa using az);subst az;rw[Xag]at ay;simp only[go_sem,e3,e4,e5,e8,ab,aa,e2,F,E];refine aH E (by simp[cA]) ?_;generalize O:aI _ X _=HP;replace E:HP X=some (cE [c.1]):=by rw[<-O,aA];rfl
     clear O;simp only[go_sem,e3,e4,e5,e8,ab,aa,e2,E];rw[<-ay];exact .refl _
theorem adD{x:Instance}{s kk:Nat}(h:SeaC x s kk)(hk:kk<x.types.length):PC prog 71 [.agg (aD x),int (kk:Nat),int (s:Nat)] (.tup [.agg (aU (pS x (kk:Nat) (s:Nat)).1),int (pS x (kk:Nat) (s:Nat)).2]):=by
 have hn:=h.cx.n8;have hT:=sQ (x:=x) (set:=(s:Int)) (n:=x.orders.length) (by omega) (by exact_mod_cast h.cx.top) (by omega);have hE:=Q3 x s h.cx.pos h.cx.top h.cx.n8;have hS:=Gu h 17 (⟨(kk:Int),(s:Int),0,⟨0,0,[],[]⟩⟩,false) [] ⟨rfl,rfl⟩ (Xab _) Sq.jB.nil (by simp;omega);rw[<-V8 h.acc h.cx hk];unfold Tr;generalize dQ x 17 (⟨(kk:Int),(s:Int),0,⟨0,0,[],[]⟩⟩,false) []=S at *;refine pcd Tryz.func71 ?_;unfold Tryz.f71;simp only[gdS];simp only[go_sem];refine aL fun V X=>?_
 generalize O:aI _ V _=HGj6;have F:HGj6 V=some (cE [cJ]):=by rw[<-O,aA];try rfl
 clear O X;simp only[go_sem,F];refine⟨boo true,fun _=>hE.q rfl,?_⟩;simp only[go_sem];refine aB (fun U=>?_) (fun U=>?_)
 . exfalso
   rw[decide_eq_false (by omega),decide_eq_false (by omega)]at U;cases U
 simp only[go_sem];refine PC.use hS ?_;simp only[go_sem];refine aL fun Z J=>?_
 have E:V≠Z:=aP F J;simp only[go_sem,F];refine aH (aA _ _ _) (by simp[cA]) ?_;generalize I:aI (aI _ Z _) Z _=HGi8;replace F:=kpR I E E F;have R8:HGi8 Z=some (cE [S.1]):=by rw[<-I,aA];try rfl
 clear I J;simp only[go_sem,R8,F];refine aB (fun U=>?_) (fun U=>?_)
 . rw[if_neg (by simpa using U)]
   simp only[go_sem,F];refine aH F (by simp only[go_sem]) ?_;generalize Y:aI _ V _=HP;replace F:HP V=some (cE [cJ]):=by rw[<-Y,aA];rfl
   clear Y;simp only[go_sem,F];exact .refl _
 . rw[if_pos (by simpa using U)]
   simp only[go_sem,F,R8];refine aH F (by simp[cA]) ?_;generalize Y:aI _ V _=HP;replace F:HP V=some (cE [S.1]):=by rw[<-Y,aA];rfl
   clear Y;simp only[go_sem,F];exact .refl _
theorem aiU(x:Instance)(ae:qQ x=[])(ab:Sq.Acc x)(ad:InsB x)(hn:x.orders.length<=8)(ht:x.types.length<=1000):PC prog 41 [.agg (aD x)] (.tup [.sl ((sO x).map aU),int 0]):=by
 have h8:2^x.orders.length<=256:=Xal (Xav (by decide) hn) (by decide);have hp:0<2^x.orders.length:=Nat.two_pow_pos _;refine pcb (fun t=>t == 6) Tryz.func41 ?_;unfold Tryz.f41;simp only[gdS];simp only[go_sem];refine⟨fun ρ H=>∃k:Nat,k<=x.orders.length/\ρ 1=.rp (aD x) 0/\ρ 4=int (2^k:Nat)/\ρ 5=int (k:Nat)/\H=bV,fun ρ _=>x.orders.length-aV (ρ 5),⟨0,Xab _,by simp only[go_sem],by simp only[go_sem];rfl,(by simp only[go_sem];rfl),by simp only[go_sem]⟩,?_⟩;rintro ρ H ⟨k,hk,F,E,e5,rfl⟩;simp only[go_sem,F,E,e5,Xaa];refine aB (fun U=>?_) (fun V=>?_)
 . simp only[Xak,decide_eq_true_eq]at U
   have am:0<2^k:=Nat.two_pow_pos _;have ao:2^k<=2^x.orders.length:=Xav (by decide) (by omega);have hw:IntKind.i64.wrap (((2^k:Nat):Int)*2)=((2^(k+1):Nat):Int):=by rw[bH (by omega),Xbj];omega
   simp only[go_sem,F,E,e5,hw,aT (show k<=4611686018427387904 by omega)];exact⟨⟨k+1,by omega,rfl,rfl⟩,by simp only[aE];omega⟩
 have ak:k=x.orders.length:=by
   simp only[Xcm,decide_eq_false_iff_not]at V;omega
 subst ak;clear V;simp only[go_sem,F,E,e5];refine aL fun j ag=>?_
 generalize ac:aI _ j _=HGj;have R:HGj j=some (cE []):=by rw[<-ac,aA];try rfl
 clear ac ag;simp only[go_sem,F,E,e5,R];refine⟨fun ρ H=>∃(k:Nat) (j:Nat),k<=x.types.length/\ρ 1=.rp (aD x) 0/\ρ 4=int (2^x.orders.length:Nat)/\ρ 7=int k/\ρ 6=.os j/\H j=some (cE (Bv x k)),fun ρ _=>x.types.length-aV (ρ 7),⟨0,j,Xab _,by simp only[go_sem,F,E,e5],by simp only[go_sem,F,E,e5],(by simp only[go_sem,F,E,e5];rfl),by simp only[go_sem],R⟩,?_⟩;rintro ρ H ⟨k,j,hk,F,E,J,I,R⟩;simp only[go_sem,F,E,J,I];refine aB (fun U=>?_) (fun V=>?_)
 . have U:=ltB (by simpa using U)
   have hs:=B0 x k;have an:=tA x k;have al:k*2^x.orders.length<=256000:=Xal (Nat.mul_le_mul (show k<=1000 by omega) h8) (by decide);generalize ar:Bv x k=A at *;simp only[go_sem,F,E,J,I];refine⟨fun ρ H=>∃m j:Nat,m<=2^x.orders.length-1/\ρ 1=.rp (aD x) 0/\ρ 4=int (2^x.orders.length:Nat)/\ρ 7=int (k:Nat)/\ρ 8=int (m+1:Nat)/\ρ 6=.os j/\H j=some (cE (A++qM x k m)),fun ρ _=>2^x.orders.length-aV (ρ 8),⟨0,j,Xab _,by simp only[go_sem,F,E,J,I],by simp only[go_sem,F,E,J,I],by simp only[go_sem,F,E,J,I],(by simp only[go_sem,F,E,J,I];rfl),by simp only[go_sem,F,E,J,I],by simpa[qM]using R⟩,?_⟩;clear F E I J R;rintro ρ H ⟨m,j,hm,F,E,J,e8,I,R⟩;simp only[go_sem,F,E,I,J,e8];refine aB (fun aj=>?_) (fun ah=>?_)
   . have aa:m+1<2^x.orders.length:=by have:=of_decide_eq_true aj;omega
     have Y:=Ag x k m;have aq:=xN x k m;have hB:=adD (x:=x) (s:=m+1) (kk:=k) ⟨⟨ae,hn,by omega,aa⟩,ab,ad⟩ U;have af:Ec x k (m+1)=if((pS x (k:Nat) ((m+1:Nat):Int)).2 == 0)=true then[(pS x (k:Nat) ((m+1:Nat):Int)).1]else[]:=rfl
     rw[af]at Y;generalize pS x (k:Nat) ((m+1:Nat):Int)=B at *;generalize qM x k m=KM at *;simp only[go_sem,F,E,I,J,e8];refine PC.use hB ?_;simp only[go_sem,F,E,I,J,e8];refine aL fun i9 Z=>?_
     have O:j≠i9:=aP R Z;simp only[go_sem,F,E,I,J,e8,R];refine aH (aA _ _ _) (by simp[cA]) ?_;generalize X:aI (aI _ i9 _) i9 _=HGi9;replace R:=kpR X O O R;have R9:HGi9 i9=some (cE [B.1]):=by rw[<-X,aA];try rfl
     clear X Z;simp only[go_sem,F,E,I,J,e8,R9,R];refine aB (fun hc=>?_) (fun hc=>?_)
     . rw[if_pos hc]at Y
       simp only[go_sem,F,E,I,J,e8,R9];refine aZ R ⟨rfl,rfl⟩ (by simp only[go_sem]) (by simp only[Xaa,Xae,Xad,List.length_nil];omega) (fun j2 ap=>?_);simp only[go_sem,F,E,I,J,e8,aT (show m+1<=4611686018427387904 by omega)];refine⟨⟨m+1,j2,by omega,rfl,rfl,?_⟩,by simp only[aE];omega⟩;rw[Y,<-Xaw,aA];exact congrArg some (GS _ _)
     . rw[if_neg (by rw[hc];simp),Xai]at Y
       simp only[go_sem,F,E,I,J,e8,aT (show m+1<=4611686018427387904 by omega)];refine⟨⟨m+1,j,by omega,rfl,rfl,?_⟩,by simp only[aE];omega⟩;rw[Y];exact R
   . have ai:m=2^x.orders.length-1:=by have:=of_decide_eq_false ah;omega
     subst ai;simp only[go_sem,F,E,I,J,aT (show k<=4611686018427387904 by omega)];refine⟨⟨k+1,j,U,rfl,rfl,?_⟩,by simp only[aE];omega⟩;rw[hs];exact R
 have V:=geB hk (by simpa using V);subst V;simp only[go_sem,F,E,J,I];exact .tup _ _ (.cons _ _ _ _ (.row _ _ _ R (ConvE.refl _)) (ConvL.refl _))
end Rx
namespace Nu
open Go.Proofs.Tryz(prog)
open Go.Aw Go.Aw.D Go.Proofs Ty Go.Nu
open Dec (mP dT eY dY uG lQ)
theorem WW{x:Instance}{d:Decision}(h:Dec.dT x d=0)(O:x.orders.length<=62)(s:Int):eY d s= !dY d s:=by
 have E:∀i:Int,Dec.tK x i=true->Dec.dE s i=lQ s i:=by
   intro i hi;unfold Dec.tK at hi;simp only[Xak,decide_eq_true_eq]at hi;unfold Dec.dE lQ;rw[decide_eq_true hi.1,decide_eq_true (show i<=62 by omega)];rfl
 unfold Dec.dT at h;unfold eY dY;by_cases h1:d.kind=1
 . rw[if_pos (.inl h1)]at h
   rw[if_pos h1,if_pos h1];split at h
   . next F=>
     simp only[Xak]at F;rw[E d.a F.1.1,E d.b F.1.2];cases lQ s d.a <;> cases lQ s d.b <;> rfl
   . cases h
 . by_cases I:d.kind=2
   . rw[if_pos (.inr I)]at h
     rw[if_neg h1,if_pos I,if_neg h1,if_pos I];split at h
     . next F=>
       simp only[Xak]at F;rw[E d.a F.1.1,E d.b F.1.2];cases lQ s d.a <;> cases lQ s d.b <;> rfl
     . cases h
   . by_cases J:d.kind=6
     . rw[if_neg (by omega),if_pos (.inr J)]at h
       rw[if_neg h1,if_neg I,if_pos J,if_neg h1,if_neg I,if_pos J];split at h
       . next F=>rw[E d.a F]
       . cases h
     . rw[if_neg h1,if_neg I,if_neg J,if_neg h1,if_neg I,if_neg J];rfl
theorem aiB{x:Instance}{ds:List Decision}(h:mP x ds=0):∀d∈ds,Dec.dT x d=0:=by
 unfold mP at h;split at h
 . cases h
 . exact fun d E=>Dec.vS h _ (Xbd.2 ⟨d,E,rfl⟩)
theorem QO(x:Instance)(cols:List Column)(ds:List Decision)(ab:mP x ds=0)(hx:x.orders.length<=62)(hl:cols.length<=1048576)(hd:ds.length<=1048576)(ad:∀d∈ds,uG d)(hs:∀c∈cols,0<=c.set/\c.set<=9223372036854775807):
   PC prog 42 [.sl (cols.map aU),.sl (ds.map bE)] (.sl ((inM cols ds).map aU)):=by
 refine pcb (fun t=>t == 5) Tryz.func42 ?_;unfold Tryz.f42;simp only[gdS];simp only[go_sem];refine aL fun j ac=>?_
 generalize X:aI _ j _=HGj;have R:HGj j=some (Vo []):=by rw[<-X,aA];try rfl
 clear X ac;simp only[go_sem,R];refine⟨fun ρ H=>∃(k:Nat) (j:Nat),k<=cols.length/\ρ 0=.sl (cols.map aU)/\ρ 1=.sl (ds.map bE)/\ρ 6=int k/\ρ 5=.os j/\H j=some (Vo (inM (cols.take k) ds)),fun ρ _=>cols.length-aV (ρ 6),⟨0,j,Xab _,by simp only[go_sem],by simp only[go_sem],(by simp only[go_sem];rfl),by simp only[go_sem],R⟩,?_⟩;rintro ρ H ⟨k,j,hk,O,V,J,I,R⟩;simp only[go_sem,O,V,J,I];refine aB (fun E=>?_) (fun U=>?_)
 . have E:=ltB (by simpa using E)
   obtain⟨c,Z⟩:=aN E;have b1:=inB E;have Y:=hs c (Xac Z);have F:inM (cols.take (k+1)) ds=inM (cols.take k) ds++(if(ds.all fun d=>eY d c.set)=true then[c]else[]):=EZ (p:=fun c:Column=>ds.all fun d=>eY d c.set) Z;have af:(inM (cols.take k) ds).length<=k:=Xw _ _ _;have aa:(ds.all fun d=> !dY d c.set)=ds.all fun d=>eY d c.set:=by
     rw[Xas,Xaj,Xaj];exact forall_congr' fun d=>forall_congr' fun ae=>by rw[WW (aiB ab d ae) hx]
   simp only[go_sem,O,V,J,I,aC Z,b1];refine PC.use (Dec.Qq ds c hd ad Y.1 Y.2) ?_;rw[aa];simp only[go_sem,O,V,J,I];refine aB (fun hb=>?_) (fun hb=>?_)
   . rw[if_pos hb]at F
     simp only[go_sem,O,V,J,I,aC Z,b1];refine aZ R ⟨rfl,rfl⟩ ⟨rfl,trivial⟩ (by simp only[Xaa,Xad,List.length_nil];omega) (fun j' ag=>?_);simp only[go_sem,O,V,J,I,aT (show k<=4611686018427387904 by omega)];refine⟨⟨k+1,j',E,rfl,rfl,?_⟩,by simp only[aE];omega⟩;rw[F];exact pK rfl
   . rw[if_neg (by rw[hb];simp),Xai]at F
     simp only[go_sem,O,V,J,I,aT (show k<=4611686018427387904 by omega)];exact⟨⟨k+1,j,E,rfl,rfl,by rw[F];exact R⟩,by simp only[aE];omega⟩
 have U:=geB (by omega) (by simpa using U);subst U;rw[Xag]at R;simp only[go_sem,O,V,J,I];exact .row _ _ _ R (ConvE.refl _)
end Nu
namespace Nu.Ps
open Go.Proofs.Tryz(prog)
open Go.Aw Go.Aw.D Go.Proofs Ty Go.Nu Go.So
open Dec (mP dT eY dY uG lQ)
open Sq (EvalB BestQ sO nT cE eK fI)
theorem ajP{x:Instance}(h:Acc x):Sq.InsB x:=by
 have J:=h.types;have E:=h.orders;have F:=h.apart;have I:=h.before;exact⟨Rx.Yo h,by omega,by omega,by omega,by omega⟩
theorem aqG{a:Ask3}(h:ME a=true):qQ a.x=[]:=by
 unfold ME O6 at h;simp only[Xak,Xbb,Xaf,decide_eq_false_iff_not]at h;have:=h.1.2;exact Xcj.1 (by omega)
theorem QC{x:Instance}{c:Column}(E:x.orders.length<=8)(h:c∈sO x):c.route.rests.length<=1048576/\c.route.visits.length<=1048576:=by
 obtain⟨k,s,h⟩:=nT E h;obtain⟨l,F,_,_,I⟩:=h.is;have:=Sq.sQ (x:=x) (Int.le_of_lt h.pos) h.top (by omega);rw[F];exact⟨Xab _,by show l.length<=1048576;omega⟩
theorem NK(x:Instance)(ds:List Decision)(I:qQ x=[])(O:x.orders.length<=8)(Y:ds.length<=1048576)(X:∀d∈ds,uG d):
   PC prog 17 [.agg (aD x),.sl (ds.map bE)] (.tup [.sl ((dR x ds).1.map aU),int (dR x ds).2]):=by
 have E:=Lb I;have aa:=E.types;have Z:=Rx.aiU x I (Sq.Lb I) (ajP E) O (by omega);have F:=Sq.tA x x.types.length;have h8:2^x.orders.length<=256:=Xal (Xav (by decide) O) (by decide);have V:x.types.length*2^x.orders.length<=256000:=Xal (Nat.mul_le_mul (show x.types.length<=1000 by omega) h8) (by decide);have F:(sO x).length<=256000:=Xal F V;unfold dR;refine pcd Tryz.func17 ?_;unfold Tryz.f17;simp only[gdS];simp only[go_sem];refine PC.use (Dec.agU x ds Y) ?_;simp only[go_sem];refine aB (fun J=>?_) (fun J=>?_)
 . rw[if_pos J]
   simp only[go_sem];exact .refl _
 have U:mP x ds=0:=by simpa using J
 rw[if_neg (by rw[J];simp)];simp only[go_sem];refine PC.use Z ?_;simp only[go_sem];refine aB (fun J=>(by cases J)) (fun _=>?_);simp only[go_sem];refine PC.use (QO x (sO x) ds U (by omega) (by omega) Y X fun c hc=>(Vv O hc).b.set) ?_;simp only[go_sem];exact .refl _
theorem La(l:List Column)(hl:l.length<=1048576)(V:∀c∈l,c.route.rests.length<=1048576/\c.route.visits.length<=1048576):PC prog 15 [.sl (l.map aU),.sl (l.map aU)] (boo true):=by
 refine pcd Tryz.func15 ?_;unfold Tryz.f15;simp only[gdS];simp only[go_sem];refine aB (fun U=>absurd U (by simp)) (fun _=>?_);simp only[go_sem];refine⟨fun ρ H=>∃(k:Nat),k<=l.length/\ρ 0=.sl (l.map aU)/\ρ 1=.sl (l.map aU)/\ρ 5=int k,fun ρ _=>l.length-aV (ρ 5),⟨0,Xab _,by simp only[go_sem],by simp only[go_sem],(by simp only[go_sem];rfl)⟩,?_⟩;rintro ρ H ⟨k,hk,J,I,F⟩;simp only[go_sem,J,I,F];refine aB (fun E=>?_) (fun Y=>?_)
 . have E:=ltB (by simpa using E)
   obtain⟨c,O⟩:=aN E;have Z:=inB E;obtain⟨h1,X⟩:=V c (Xac O);simp only[go_sem,J,I,F];refine cN (by rfl) (by kernel_rfl) ?_;simp only[go_sem,J,I,F,aC O,Z,Xaa];refine⟨_,(PB c h1 X).q rfl,?_⟩;simp only[go_sem,J,I,F];refine aB (fun hd=>absurd hd (by simp)) (fun _=>?_);simp only[go_sem,J,I,F,aT (show k<=4611686018427387904 by omega)];exact⟨⟨k+1,E,rfl⟩,by simp only[aE];omega⟩
 simp only[go_sem];exact .refl _
theorem T1(F:PC prog 9 [] (boo true))(a:Ask3)(hx:InB a.x)(hl:a.dual.length<=1048576)(O:∀d∈a.d,uG d):PC prog 5 [.agg (jF a)] (boo true):=by
 have hF:=aAz a hx hl;refine pcd Tryz.func5 ?_;unfold Tryz.f5;simp only[gdS];simp only[go_sem];refine PC.use hF ?_;simp only[go_sem];refine aB (fun U=>?_) (fun U=>?_)
 . simp only[go_sem]
   refine PC.use F ?_;simp only[go_sem];exact .refl _
 have V:ME a=true:=by simpa using U
 obtain⟨I,hn,ac,Z,ab,aa,_⟩:=aiT V;have J:=aqG V;have E:=aiX I (by omega);have X:=Sq.NC.pc2 (D6 a.x _ a.d E (by omega));have Y:=NK a.x a.d J (by omega) (by omega) O;have ad:=zH a.x a.d E.n8 E.ty;have hC:=La (dR a.x a.d).1 (by omega) fun c hc=>QC E.n8 (CN hc).1
 generalize dR a.x a.d=A at *;simp only[go_sem];refine PC.use X ?_;simp only[go_sem];refine PC.use Y ?_;simp only[go_sem];refine PC.use hC ?_;simp only[go_sem];refine⟨boo true,fun _=>F.q rfl,?_⟩;simp only[go_sem];exact cB (by simp)
end Nu.Ps
namespace Nu.Ps
open Go.Proofs.Tryz(prog)
open Go.Aw Go.Aw.D Go.Proofs Ty Go.Nu Go.So
open Dec (mP dT eY dY uG lQ)
open Sq (EvalB BestQ sO nT cE eK)
def Tn(k r:Int):List AV:=[.sl [],int k,int r]
def wU(m:Nat)(ts:List VType):List (List AV):=List.replicate m (Tn 2 1)++ts.map fun t=>Tn 1 t.count
abbrev Na(L:List (List AV)):Row:=⟨200,3,L⟩
theorem afB(x:Instance)(hx:x.orders.length<=62)(ht:x.types.length<=1000):PC prog 95 [.agg (aD x),.sl [],.sl []] (.sl (wU (gZ (Is x:Nat)).length x.types)):=by
 have ak:(gZ (Is x:Nat)).length<=63:=by
   unfold gZ oT;rw[Xaa];exact Xal (Xcc _ _) (by rw[Xaz];exact Xah _)
 refine pcb (fun t=>t == 7) Tryz.func95 ?_;unfold Tryz.f95;simp only[gdS];simp only[go_sem];refine aL fun j af=>?_
 generalize ad:aI _ j _=HGj;have R:HGj j=some (Na []):=by rw[<-ad,aA];try rfl
 clear ad af;simp only[go_sem,R];refine PC.use (amJ x hx) ?_;simp only[go_sem];refine PC.use (qE (Is x:Nat)) ?_;generalize gZ (Is x:Nat)=M at *;simp only[go_sem,Xaa];refine⟨fun ρ H=>∃(k:Nat) (j:Nat),k<=M.length/\ρ 1=.sl []/\ρ 2=.sl []/\ρ 3=.rp (aD x) 0/\ρ 19=int (M.length:Nat)/\ρ 20=int k/\ρ 7=.os j/\H j=some (Na (List.replicate k (Tn 2 1))),fun ρ _=>M.length-aV (ρ 20),⟨0,j,Xab _,by simp only[go_sem],by simp only[go_sem],by simp only[go_sem],by simp only[go_sem,Xaa],(by simp only[go_sem];rfl),by simp only[go_sem],R⟩,?_⟩;rintro ρ H ⟨k,j,hk,O,F,e3,J,I,E,R⟩;simp only[go_sem,O,F,e3,J,I,E];refine aB (fun U=>?_) (fun aa=>?_)
 . have U:=ltB (by simpa using U)
   simp only[go_sem,O,F,e3,J,I,E];refine aZ R ⟨rfl,rfl⟩ (by simp only[go_sem]) (by simp only[List.length_replicate,Xad,List.length_nil];omega) (fun j2 ai=>?_);simp only[go_sem,O,F,e3,J,I,E,aT (show k<=4611686018427387904 by omega)];refine⟨⟨k+1,j2,U,rfl,rfl,?_⟩,by simp only[aE];omega⟩;rw[aA,List.replicate_succ'];rfl
 have aa:=geB hk (by simpa using aa);subst aa;simp only[go_sem,O,F,e3,J,I,E,Xaa];refine⟨fun ρ H=>∃(k:Nat) (j:Nat),k<=x.types.length/\ρ 1=.sl []/\ρ 2=.sl []/\ρ 28=.sl (x.types.map bC)/\ρ 29=int (x.types.length:Nat)/\ρ 30=int k/\ρ 7=.os j/\H j=some (Na (wU M.length (x.types.take k))),fun ρ _=>x.types.length-aV (ρ 30),⟨0,j,Xab _,by simp only[go_sem,O,F,e3,J,I,E],by simp only[go_sem,O,F,e3,J,I,E],by simp only[go_sem,O,F,e3,J,I,E],by simp only[go_sem,Xaa,O,F,e3,J,I,E],(by simp only[go_sem,O,F,e3,J,I,E];rfl),by simp only[go_sem,O,F,e3,J,I,E],by simpa[wU]using R⟩,?_⟩;rintro ρ H ⟨k,j,hk,O,F,Y,Z,V,E,R⟩;simp only[go_sem,O,F,Y,Z,V,E];refine aB (fun U=>?_) (fun aa=>?_)
 . have U:=ltB (by simpa using U)
   obtain⟨t,hv⟩:=aN U;have b1:=inB U;have hs:wU M.length (x.types.take (k+1))=wU M.length (x.types.take k)++[Tn 1 t.count]:=by unfold wU;rw[bQ hv,Xar,Xaw];rfl
   have hl:(wU M.length (x.types.take k)).length=M.length+k:=by unfold wU;rw[Xae,List.length_replicate,Xaa,Xao];omega
   generalize wU M.length (x.types.take k)=L at *;simp only[go_sem,O,F,Y,Z,V,E,aC hv,b1];refine aL fun i9 ac=>?_
   have X:j≠i9:=aP R ac;simp only[go_sem,O,F,Y,Z,V,E,R];refine aH (aA _ _ _) (by simp[jZ]) ?_;generalize ab:aI (aI _ i9 _) i9 _=HGi9;replace R:=kpR ab X X R;have R9:HGi9 i9=some (arI t):=by rw[<-ab,aA];try rfl
   clear ab ac;simp only[go_sem,O,F,Y,Z,V,E,R9,R];refine aZ R ⟨rfl,rfl⟩ (by simp only[go_sem]) (by simp only[Xad,List.length_nil];omega) (fun j2 ai=>?_);simp only[go_sem,O,F,Y,Z,V,E,aT (show k<=4611686018427387904 by omega)];refine⟨⟨k+1,j2,U,rfl,rfl,?_⟩,by simp only[aE];omega⟩;rw[aA,hs];rfl
 have aa:=geB hk (by simpa using aa);subst aa;rw[Xag]at R;simp only[go_sem,O,F,Y,Z,V,E,List.length_nil];refine⟨fun ρ H=>ρ 2=.sl []/\ρ 7=.os j/\ρ 42=int 0/\ρ 43=int 0/\H j=some (Na (wU M.length x.types)),fun _ _=>0,⟨by simp only[go_sem,O,F,Y,Z,V,E],by simp only[go_sem,O,F,Y,Z,V,E],(by simp only[go_sem];rfl),by simp only[go_sem],R⟩,?_⟩;clear R O F E;rintro ρ H ⟨F,E,ag,aj,R⟩;simp only[go_sem,F,E,ag,aj];refine aB (fun hb=>absurd hb (by simp)) (fun _=>?_);simp only[go_sem,F,E,List.length_nil];refine⟨fun ρ H=>ρ 7=.os j/\ρ 60=int 0/\ρ 61=int 0/\H j=some (Na (wU M.length x.types)),fun _ _=>0,⟨by simp only[go_sem,E],(by simp only[go_sem];rfl),by simp only[go_sem],R⟩,?_⟩;clear R E;rintro ρ H ⟨E,ae,ah,R⟩;simp only[go_sem,E,ae,ah];refine aB (fun hb=>absurd hb (by simp)) (fun _=>?_);simp only[go_sem,E];exact .row _ _ _ R (ConvE.refl _)
theorem ZM(x:Instance)(F:x.orders.length<=62)(E:x.types.length<=1000):PC prog 57 [.agg (aD x),.sl [],.sl []] (int (wU (gZ (Is x:Nat)).length x.types).length):=by
 refine pcd Tryz.func57 ?_;unfold Tryz.f57;simp only[gdS];simp only[go_sem];refine PC.use (afB x F E) ?_;simp only[go_sem];exact .refl _
theorem Yn:FZ exX 1 [] [] exD:=by
 have hM:MIn exX [] []:=⟨by decide,by decide,by decide,by decide⟩;have hw:rU exX 1 [] [] exD=0:=by decide +kernel
 have Y:mP exX []=0:=by decide +kernel
 have hd:exD.length=(wU (gZ (Is exX:Nat)).length exX.types).length:=by decide +kernel
 have U:=Dec.amD exX [] (by decide);have J:=ZM exX (by decide) (by decide);unfold FZ;rw[hw];rw[Y]at U;generalize exX=x at *;generalize exD=dual at *;rw[<-hd]at J;refine pcd Tryz.func25 ?_;unfold Tryz.f25;simp only[gdS];simp only[go_sem];refine PC.use U ?_;simp only[go_sem];refine aB (fun E=>absurd E (by simp)) (fun _=>?_);simp only[go_sem,Xbs,List.length_nil];refine⟨fun ρ _=>ρ 1=.sl []/\ρ 2=.sl []/\ρ 3=.sl (dual.map Go.Aw.D.gR)/\ρ 4=.rp (aD x) 0/\ρ 20=int 0/\ρ 21=int 0,fun _ _=>0,⟨by simp only[go_sem],by simp only[go_sem],by simp only[go_sem],by simp only[go_sem],(by simp only[go_sem];rfl),by simp only[go_sem]⟩,?_⟩;rintro ρ H ⟨Z,X,O,V,F,I⟩;simp only[go_sem,F,I];refine aB (fun E=>absurd E (by simp)) (fun _=>?_);simp only[go_sem,Z,X,O,V,Xaa];refine PC.use J ?_;simp only[go_sem,O,Xaa];refine aB (fun E=>absurd E (by simp)) (fun _=>?_);simp only[go_sem];exact .refl _
theorem K8(j:Nat)(gf:Nat)(H0:aK)(K:AV->aK->Prop)(J:∀r,K r H0):bF prog 105 [.os j,int 0,int (1:Nat),uH gf] H0 K:=by
 refine bF.body (c:=Tryz.f105.body.getD .skip) (fun _=>false) mixed Tryz.func105 rfl (by kernel_rfl) ?_;unfold Tryz.f105;simp only[gdS];simp only[go_sem];refine⟨fun ρ H=>ρ 2=int (1:Nat)/\ρ 8=int 1/\H=H0,fun _ _=>0,⟨by simp only[go_sem],by simp only[go_sem];rfl,rfl⟩,?_⟩;rintro ρ H ⟨F,I,rfl⟩;simp only[go_sem,F,I];refine aB (fun E=>absurd (of_decide_eq_true E) (by omega)) (fun _=>?_);simp only[go_sem];exact J _
theorem WI(j:Nat)(gf:Nat)(H0:aK)(K:AV->aK->Prop)(X:∀r,K r H0):bF prog 62 [.os j,int (1:Nat),uH gf] H0 K:=by
 refine bF.body (c:=Tryz.f62.body.getD .skip) (fun _=>false) mixed Tryz.func62 rfl (by kernel_rfl) ?_;unfold Tryz.f62;simp only[gdS];simp only[go_sem];refine⟨fun ρ H=>ρ 0=.os j/\ρ 1=int (1:Nat)/\ρ 2=uH gf/\ρ 6=int 20/\ρ 7=int 0/\ρ 8=int 20/\H=H0,fun _ _=>0,⟨by simp only[go_sem],by simp only[go_sem],by simp only[go_sem],by simp only[go_sem],by simp only[go_sem],by simp only[go_sem],rfl⟩,?_⟩;rintro ρ H ⟨U,F,V,E,O,J,rfl⟩;simp only[go_sem,U,F,V,E,O,J];refine aB (fun I=>absurd (of_decide_eq_true I) (by omega)) (fun _=>?_);simp only[go_sem,U,F,V,E,O,J];refine K8 j gf _ _ fun r=>?_
 simp only[go_sem,U,F,V,E,O,J];refine⟨fun ρ H'=>ρ 1=int (1:Nat)/\ρ 6=int 20/\H'=H,fun _ _=>0,⟨by simp only[go_sem,F],by simp only[go_sem,E],rfl⟩,?_⟩;rintro ρ H' ⟨F,E,rfl⟩;simp only[go_sem,F,E];refine aB (fun I=>absurd (of_decide_eq_true I) (by omega)) (fun _=>?_);simp only[go_sem];exact X _
theorem agI(p:Priced):UJ [p]:=fun j H0 K F E=>by
 have e:aI H0 j (some (lL (BB ltP [p])))=H0:=oP F;rw[e]at E;refine bF.body (c:=Tryz.f32.body.getD .skip) (fun _=>false) mixed Tryz.func32 rfl (by kernel_rfl) ?_;unfold Tryz.f32;simp only[gdS];simp only[go_sem];simp only[go_sem,F,Xaa,Xad,List.length_nil];refine WI j _ _ _ fun r=>?_
 simp only[go_sem];exact E _
theorem Zh:PC prog 9 [] (boo true):=by
 have F:(oU exX [] [] exD).1.length=1:=by decide +kernel
 have E:UJ (oU exX [] [] exD).1:=by
   generalize (oU exX [] [] exD).1=A at *
   match A,F with
   | [p],_=>exact agI p
 exact Ye Yn E
end Nu.Ps
section
open Go.Aw Go.Aw.D
theorem inB_of{x:Instance}(h:DL 1048576 x):InB x:=by
 obtain⟨⟨O,I⟩,F,E,V,U⟩:=h;exact⟨O.1,O.2,I.1,fun a X=>⟨(I.2 a X).2.2.2.2.1.1,(I.2 a X).2.2.2.2.2.1⟩,F.1,fun t J=>⟨(F.2 t J).1,(F.2 t J).2.2.2.2.1.1⟩,E.1,fun t J=>⟨(E.2 t J).1,(E.2 t J).2.1.1⟩,V.1,U.1⟩
theorem pricingAllowed_holds:Rows.PricingAllowedUptoCardSaid:=pricingAllowed.card fun a E=>Nu.Ps.T1 Nu.Ps.Zh a (inB_of E.1) E.2.2.2.1 fun d h=>E.2.2.1.2 d h
#print axioms pricingAllowed_holds
end
end Go.Proofs.YtohmomanmikphaaGreatDoor
