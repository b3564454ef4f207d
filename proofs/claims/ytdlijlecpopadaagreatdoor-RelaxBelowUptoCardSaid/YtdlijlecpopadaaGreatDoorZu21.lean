import Derived.Test.YtdlijlecpopadaaGreatDoorZu20
set_option linter.unusedSimpArgs false
set_option linter.unusedVariables false
set_option maxRecDepth 100000
section
namespace Go.Proofs.YtdlijlecpopadaaGreatDoor.Rx
open Go.Aw Go.Aw.D Go.Proofs Ty
open Sq
open Go.Nu
theorem alH(x:Instance)(t:VType)(r:Route)(k:Nat)(F:k<=r.visits.length):pR t (cJ x r.visits) k=A2 x t r k:=by
 cases k with
 | zero=>rfl
 | succ j=>
   obtain⟨v,E⟩:=aQ (show j<r.visits.length by omega);simp[pR,A2,cJ,List.getD,E]
theorem Xm(x:Instance)(t:VType)(r:Route)(k:Nat)(E:k<=r.visits.length)(l:Lab)(b:Bool):kV x t (cJ x r.visits) k l b=kW x t r k l b:=by
 unfold kV kW;rw[alH x t r k E];unfold cJ;rw[List.getElem?_map];cases r.visits[k]? <;> rfl
theorem aA2(x:Instance)(t:VType)(r:Route):∀(bs:List Bool) (k:Nat) (l:Lab),bs.length+k<=r.visits.length+1->A9 x t (cJ x r.visits) bs k l=xX x t r bs k l
 | [],k,l,_=>rfl
 | b::bs,k,l,h=>by
   simp only[Xac]at h;unfold A9 xX;rw[Xm x t r k (by omega)];cases kW x t r k l b with
   | error e=>rfl
   | ok l'=>exact aA2 x t r bs (k+1) l' (by omega)
theorem avC(x:Instance)(t:VType)(r:Route)(k:Nat)(E:k<=r.visits.length)(ls:List Lab):DG x t r (cJ x r.visits) ls k=HO x t r ls k:=by
 unfold DG HO;rw[List.foldl_flatMap]
 congr 1
 funext out l;unfold nX
 congr 1
 exact List.map_congr_left fun b _=>Xm x t r k E l b
theorem dpB(x:Instance)(t:VType)(r:Route):∀k:Nat,k<=r.visits.length+1->dpP x t r (cJ x r.visits) k=dpL x t r k
 | 0,_=>rfl
 | k+1,h=>by
   show DG x t r _ _ k=HO x t r _ k;rw[avC x t r k (by omega),dpB x t r k (by omega)]
theorem Va{ls:List Lab}:∀{b:Lab},ls.foldl Sq.sM b=b\/ls.foldl Sq.sM b∈ls:=by
 induction ls with
 | nil=>intro b;exact .inl rfl
 | cons m ls ih=>
   intro b;rw[Xbg];rcases ih (b:=Sq.sM b m)with h|h
   . rw[h]
     unfold Sq.sM;split
     . exact .inr (by simp)
     . exact .inl rfl
   . exact .inr (by simp[h])
section
variable{x:Instance}{k:Nat}{near:List Int}{du:Option (List ByteArray)}{dl:List ByteArray}{M:Nat}{p:Part}{q:RP}{l:List Visit}{r:Route}{i j:Nat}{d:Bool}
abbrev rtB(k:Nat)(l:List Visit):Route:=⟨(k:Nat),0,[],l⟩
theorem Cw(E:k<x.types.length):x.types[k]?=some (aC x k):=by
 unfold aC;rw[List.getD,List.getElem?_eq_getElem E];rfl
theorem acP(h:Ctx x k near)(I:SeqB x l)(Z:l.length<=20):RouteB x (aC x k) (rtB k l):=by
 have E:=h.ty;have h2:=E.start;have h3:=E.close;refine⟨⟨fun p q d X h0=>(GA (fun a Y=>h.acc.arc a Y) X h0).1,E.rest,by omega,E.drive.2⟩,fun v J=>?_,⟨?_,by show -(12288*((0:Nat):Int))<=0/\(0:Int)<=4096;omega⟩,by show l.length<=1048575;omega⟩
 . obtain⟨i,d,rfl,hi,F,_⟩:=I.vis v J
   obtain⟨j,O⟩:=List.getElem?_of_mem J;have h1:=(Tc (k:=k) I O).1;have h4:=Nv h hi F;have e:(fP x ⟨(i:Nat),d⟩).1=stR (aF x i) d:=by
     unfold cJ at h1;rw[List.getElem?_map,O]at h1;injection h1
   rw[e];exact⟨by omega,by omega,by omega⟩
 . show 0<=gA (aC x k).start 0/\gA (aC x k).start 0<=8192
   unfold gA;split <;> omega
theorem YT(h:Ctx x k near)(Z:SeqB x l)(hl:l.length<=20)(E:(lN x (rtB k l)).2=0):∃m∈dpP x (aC x k) (rtB k l) (cJ x l) (l.length+1),(lN x (rtB k l)).1=m.sheet:=by
 have hB:=acP h Z hl;unfold lN at E |-;by_cases X:(!gG x (rtB k l)||decide (((rtB k l).rests.length:Int)>((rtB k l).visits.length:Int)+1))=true
 . rw[if_pos X]at E;cases E
 rw[if_neg X]at E |-;have ht:x.types[(rtB k l).type.toNat]?=some (aC x k):=by
   show x.types[(((k:Nat):Int)).toNat]?=_;rw[Xan];exact Cw h.kind
 rw[ht]at E |-
 change (Ie x (aC x k) (rtB k l)).2=0 at E
 show ∃m∈dpP x (aC x k) (rtB k l) (cJ x l) (l.length+1),(Ie x (aC x k) (rtB k l)).1=m.sheet;have J:=dpB x (aC x k) (rtB k l) (l.length+1) (Xag _)
 change dpP x (aC x k) (rtB k l) (cJ x l) (l.length+1)=_ at J
 have e:Ie x (aC x k) (rtB k l)=match dpP x (aC x k) (rtB k l) (cJ x l) (l.length+1)with
   | []=>(KW (A9 x (aC x k) (cJ x l) (sR (rtB k l)) 0 (qX (aC x k) (rtB k l))),G8 (A9 x (aC x k) (cJ x l) (sR (rtB k l)) 0 (qX (aC x k) (rtB k l))))
   | l0::ls=>((ls.foldl Sq.sM l0).sheet,0):=rfl
 cases I:dpP x (aC x k) (rtB k l) (cJ x l) (l.length+1)with
 | nil=>
   exfalso
   rw[e,I]at E
   change G8 (A9 x (aC x k) (cJ x l) (sR (rtB k l)) 0 (qX (aC x k) (rtB k l)))=0 at E
   have F:=Fm (r:=rtB k l) (by show 0<=_;omega);have Y:=aA2 x (aC x k) (rtB k l) (sR (rtB k l)) 0 (qX (aC x k) (rtB k l)) (by rw[F];omega)
   change A9 x (aC x k) (cJ x l) _ _ _=_ at Y
   rw[Y]at E;rw[I]at J;obtain⟨e,O⟩:=(amG hB).1 J.symm (sR (rtB k l)) F ((Lw (by rw[F];show 0<=_;omega)).2 (by show[] <+: _;exact List.nil_prefix));rw[O]at E;exact NV _ _ _ _ O E
 | cons l0 ls=>
   rw[e,I];refine⟨ls.foldl Sq.sM l0,?_,rfl⟩;rcases Va (ls:=ls) (b:=l0)with h|h
   . rw[h];simp
   . simp[h]
theorem UU{b:Nat}(h:∀i,b.testBit i=false):b=0:=Xct fun i=>by rw[h i,Nat.zero_testBit]
theorem acC(h:Ctx x k near)(hM:M<=15)(hs:SeqB x l)(aj:l.length<=M)(S:Sim x k du M l (rtB k l) l.length p){X:Lab}(O:X∈dpP x (aC x k) (rtB k l) (cJ x l) (l.length+1)):
   ∃m,(0<=m/\m<=10000)/\X.sheet.miles=miJ x (aC x k) l l.length+m/\((aC x k).start<=X.sheet.end_/\X.sheet.end_<=4096) /\
     ∃a∈mI (wOf x k near du M) p,jI a<=vlJ x k du l l.length+(((((aC x k).fixed+(aC x k).perMile*m)+(aC x k).perTick*(X.sheet.end_-(aC x k).start))*16777216+sqW X.sheet.end_ (aC x k).start:Int):Rat):=by
 obtain⟨q,ra,⟨va,da,ag⟩,hq⟩:=S.good.ok;have ah:=ra.visits;have ac:=S.vis;rcases Ac _ _ O with O|⟨E,ae,b,F⟩
 . cases O
 obtain⟨c1,c2,c3⟩:=S.clk E ae;unfold kV at F;rw[List.getElem?_eq_none (by unfold cJ;rw[Xaa];exact Xag _)]at F
 change tF x (aC x k) (plJ x (aC x k) l l.length) l.length E b=.ok X at F
 rw[<-S.place]at F;unfold tF at F;split at F
 . cases F
 next g1=>
 split at F
 . cases F
 next g2=>
 split at F
 . cases F
 next g3=>
 injection F with F;subst F;have g1:(goL x (aC x k) p.place (aC x k).dst E b).2.2=0:=by simpa using g1
 obtain⟨e,he,e1,e2⟩:=SM h ra (by omega) c1 c3 g1 (by omega);have e3:(goL x (aC x k) p.place (aC x k).dst E b).2.1=mil x.net (aC x k) p.place (aC x k).dst:=by
   show(dH x.net (aC x k).profile p.place (aC x k).dst (qT (aC x k) E b)).2.1=_;rw[KY x.net (aC x k).profile p.place (aC x k).dst _ 0];rfl
 have r1:=JV (l:=l) h l.length;have r2:=wN h.mil (aC x k) p.place (aC x k).dst;have Z:(uH x (aC x k) p.place l.length E b).miles=miJ x (aC x k) l l.length+mil x.net (aC x k) p.place (aC x k).dst:=by
   show W (E.sheet.miles+(goL x (aC x k) p.place (aC x k).dst E b).2.1)=_;rw[e3,c2,bP (by omega)]
 have J:(uH x (aC x k) p.place l.length E b).end_=e.ready:=by
   show(goL x (aC x k) p.place (aC x k).dst E b).1=_;rw[e1]
 have sp:=tS h ra S.good.sb (aC x k).dst;have al:=sp e he;have am:=h.ty.start;have ak:=h.ty.close;refine⟨mil x.net (aC x k) p.place (aC x k).dst,r2,Z,?_,?_⟩
 . show(aC x k).start<=(uH x (aC x k) p.place l.length E b).end_/\(uH x (aC x k) p.place l.length E b).end_<=4096
   rw[J];omega
 show ∃a∈_,jI a<=vlJ x k du l l.length+(((((aC x k).fixed+(aC x k).perMile*mil x.net (aC x k) p.place (aC x k).dst)+(aC x k).perTick*((uH x (aC x k) p.place l.length E b).end_-(aC x k).start))*16777216+sqW (uH x (aC x k) p.place l.length E b).end_ (aC x k).start:Int):Rat);rw[J];have ab:p.board=0:=UU fun o=>by
   rw[Xbv];intro hc;obtain⟨a1,a2,a3⟩:=(S.board o).1 hc;rw[Xaf]at a2 a3;obtain⟨i,d,e,hi,_⟩:=hs.vis _ a2;obtain rfl:i=o:=by injection e with a b;omega
   exact a3 (hs.pair i hi a1 false a2).2.1
 have ai:l.length≠0:=fun e=>hs.ne (List.length_eq_zero_iff.1 e)
 have eP:iR (wOf x k near du M) p=if((p.visits:Int) == 0||(p.board:Int) != 0)=true then(0,0,false)
   else((bI x.net (aC x k) p.place (aC x k).dst p.clocks).1.foldl (lL (aC x k).close) (-1),(bI x.net (aC x k) p.place (aC x k).dst p.clocks).2,decide ((bI x.net (aC x k) p.place (aC x k).dst p.clocks).1.foldl (lL (aC x k).close) (-1)>=0)):=rfl
 have ad:¬((p.visits:Int) == 0||(p.board:Int) != 0)=true:=by
   rw[ab,ac];simp only[Xbc,not_or,Xas,bne_iff_ne,ne_eq,Decidable.not_not];exact⟨by omega,rfl⟩
 rw[if_neg ad]at eP;have hP:=vD (aC x k).close (bI x.net (aC x k) p.place (aC x k).dst p.clocks).1 [] (-1) (by simp) (fun c hc=>by have:=sp c hc;omega) (.inl ⟨rfl,by simp⟩);rw[Xbd]at hP;have Y:(aC x k).start<=(bI x.net (aC x k) p.place (aC x k).dst p.clocks).1.foldl (lL (aC x k).close) (-1)/\(bI x.net (aC x k) p.place (aC x k).dst p.clocks).1.foldl (lL (aC x k).close) (-1)<=e.ready:=by
   rcases hP with⟨_,p2⟩|⟨⟨c',af,p1,p2⟩,p3⟩
   . exact absurd (by omega) (p2 e he)
   . have:=p3 e he (by omega)
     have:=sp c' af;omega
 have aa:(iR (wOf x k near du M) p).2.2=true:=by
   rw[eP];exact decide_eq_true (by omega)
 obtain⟨vp,mp,p1,p2,p3,p4,p5⟩:=Cc h hM S.good.ok aa;refine⟨_,by unfold mI;rw[if_pos aa];exact Xak.2 rfl,?_⟩;have I:=S.val;rw[p1.val]at I;rw[<-p3,(An h (by omega) p1 p2 p5).val];have e4:(iR (wOf x k near du M) p).1=(bI x.net (aC x k) p.place (aC x k).dst p.clocks).1.foldl (lL (aC x k).close) (-1):=by rw[eP]
 rw[<-e4]at Y;rw[p4,I];generalize (iR (wOf x k near du M) p).1=ep at *;generalize e.ready=eq at *;generalize mil x.net (aC x k) p.place (aC x k).dst=mq at *;have k1:=Oy Y.1 Y.2;have k2:(aC x k).perTick*(ep-(aC x k).start)<=(aC x k).perTick*(eq-(aC x k).start):=Xdf (by omega) h.money.2.2.1;have k3:((aC x k).fixed+(aC x k).perMile*mq+(aC x k).perTick*(ep-(aC x k).start))*16777216+sqW ep (aC x k).start<=((aC x k).fixed+(aC x k).perMile*mq+(aC x k).perTick*(eq-(aC x k).start))*16777216+sqW eq (aC x k).start:=by
   generalize (aC x k).perTick*(ep-(aC x k).start)=t1 at *;generalize (aC x k).perTick*(eq-(aC x k).start)=t2 at *;generalize (aC x k).perMile*mq=t3 at *;omega
 have k4:=Rat.intCast_le_intCast.2 k3;generalize (((((aC x k).fixed+(aC x k).perMile*mq+(aC x k).perTick*(ep-(aC x k).start))*16777216+sqW ep (aC x k).start:Int)):Rat)=z1 at *;generalize (((((aC x k).fixed+(aC x k).perMile*mq+(aC x k).perTick*(eq-(aC x k).start))*16777216+sqW eq (aC x k).start:Int)):Rat)=z2 at *
 grind
theorem LY{v:Visit}(I:Vis x v):v∈dV x:=by
 obtain⟨i,d,rfl,hi,E,F⟩:=I;unfold dV;refine Xbo.2 ⟨i,Xap.2 hi,?_⟩;rw[if_neg (by rw[F];simp),BC hi];unfold iU;cases d with
 | false=>
   have E:(aF x i).pick.place>=0:=E;rw[if_pos (decide_eq_true E)];simp
 | true=>
   have E:(aF x i).drop.place>=0:=E;rw[if_pos (decide_eq_true E)];simp
theorem aoQ(E:SeqB x l):l.length<=(dV x).length:=YL l _ (XQ E.twice) fun v F=>LY (E.vis v F)
theorem Me(h:Ctx x k near)(hd:DuB x.orders.length du dl)(hM:M<=15)(Y:SeqB x l)(I:l.length<=M)(F:∀j,j<=l.length->fE (pW x l j) (aC x k).cap=true)
   (J:∀i d,(⟨(i:Nat),d⟩:Visit)∈l->oQ (aC x k).skills (aF x i).skills=true) (O:∀j,j<=l.length->dpP x (aC x k) (rtB k l) (cJ x l) (j+1)≠[]) (a:Rat)
   (E:∀p,Sim x k du M l (rtB k l) l.length p->∃b∈mI (wOf x k near du M) p,jI b<=a):
   ∀(f j:Nat) (p:Part),Sim x k du M l (rtB k l) j p->j+f=l.length->∀g,f<=g->∃b∈vP (wOf x k near du M) (dV x) g p,jI b<=a
 | 0,j,p,S,hj,g,_=>by
   obtain rfl:j=l.length:=by omega
   obtain⟨b,h1,X⟩:=E p S;cases g with
   | zero=>exact⟨b,h1,X⟩
   | succ g=>exact⟨b,Xca _ h1,X⟩
 | f+1,j,p,S,hj,g,hg=>by
   obtain⟨g,rfl⟩:∃g',g=g'+1:=⟨g-1,by omega⟩;obtain⟨v,Z⟩:=aQ (show j<l.length by omega);obtain⟨n1,S'⟩:=abT (r:=rtB k l) h hd hM Y I F J S Z (O j (by omega));obtain⟨b,h1,X⟩:=Me h hd hM Y I F J O a E f (j+1) _ S' (by omega) g (by omega);refine⟨b,Xdd _ (Xbo.2 ⟨v,LY (Y.vis v (Xad Z)),?_⟩),X⟩;show b∈if(cH (wOf x k near du M) p v).2=true then vP (wOf x k near du M) (dV x) g (cH (wOf x k near du M) p v).1 else[];rw[if_pos n1];exact h1
end
end Go.Proofs.YtdlijlecpopadaaGreatDoor.Rx
end
section
namespace Go.Proofs.YtdlijlecpopadaaGreatDoor.Rx
open Go.Aw Go.Aw.D Go.Proofs Ty
open Sq
open Go.Nu
section
variable{x:Instance}{k:Nat}{near:List Int}{du:Option (List ByteArray)}{dl:List ByteArray}{M:Nat}{p:Part}{q:RP}{l:List Visit}{r:Route}{i j:Nat}{d:Bool}
theorem U4(I:SeqB x l)(X:j<l.length):qI l j=stJ x l j:=by
 obtain⟨v,F⟩:=aQ X;obtain⟨i,d,rfl,hi,_⟩:=I.vis v (Xad F);have e:stJ x l j=bQ (aF x i) d:=by unfold stJ;rw[NE F];rfl
 rw[FW F,e,Xar,decide_eq_true_eq];unfold Li;rw[List.countP_eq_zero];constructor
 . intro h0
   cases E:bQ (aF x i) d with
   | true=>rfl
   | false=>
     obtain⟨rfl,_,Y⟩:=I.second F E;exact(h0 ⟨(i:Nat),false⟩ Y (Xbt _)).elim
 . intro E u O Z
   have J:=I.start F E;obtain⟨a,b⟩:=u;have:a=((i:Nat):Int):=by simpa using Z
   subst this;exact J b O
theorem Fk(a:Int)(k:Nat):(if(a != -1&&a != (k:Int))=true then(1:Int)else 0)=dU a k:=rfl
theorem Fa(F:SeqB x l)(O:l.length<=20)(c w:Int):∀j,j<=l.length->(List.range j).foldl (jB x (rtB k l)) ⟨c,0,0,w⟩=⟨c,mvJ x k l j,otJ x k l j,w⟩
 | 0,_=>rfl
 | j+1,hj=>by
   rw[Xbx,List.foldl_append,Fa F O c w j (by omega)];show jB x (rtB k l) ⟨c,mvJ x k l j,otJ x k l j,w⟩ j=_;obtain⟨v,I⟩:=aQ (show j<l.length by omega);obtain⟨i,d,rfl,hi,_⟩:=F.vis v (Xad I);have hb:dF ((i:Nat):Int) x.orders.length=false:=by unfold dF;simp;omega
   have X:Sq.aF l j=((i:Nat):Int):=Sq.eU I;have J:=U4 F (show j<l.length by omega);have mr:=acB (x:=x) (k:=k) (l:=l) j;show(if(dF (Sq.aF l j) x.orders.length|| !qI l j)=true then _ else match x.orders[(Sq.aF l j).toNat]? with|some o=>zB o (k:Nat) (AN o (k:Nat) ⟨c,mvJ x k l j,otJ x k l j,w⟩)|none=>_)=_;rw[X,hb,J,Xan,eU hi];have Y:(vJ l j).order.toNat=i:=by rw[NE I];exact Xan i
   show _=(⟨c,mvJ x k l j+if stJ x l j=true then dU (aF x (vJ l j).order.toNat).now k else 0,otJ x k l j+if stJ x l j=true then dU (aF x (vJ l j).order.toNat).last k else 0,w⟩:Sq.Score);rw[Y];cases Z:stJ x l j with
   | false=>rw[if_pos (by rfl),if_neg (by simp),if_neg (by simp),Xcv,Xcv]
   | true=>
     rw[if_neg (by simp),if_pos rfl,if_pos rfl];show zB (aF x i) (k:Nat) (AN (aF x i) (k:Nat) ⟨c,mvJ x k l j,otJ x k l j,w⟩)=_;rw[<-Fk (aF x i).now,<-Fk (aF x i).last];unfold zB AN Kz KO;by_cases h1:((aF x i).now != -1&&(aF x i).now != ((k:Nat):Int))=true
     . rw[if_pos h1,if_pos h1]
       by_cases E:((aF x i).last != -1&&(aF x i).last != ((k:Nat):Int))=true
       . rw[if_pos E,if_pos E,bP (n:=mvJ x k l j+1) (by omega),bP (n:=otJ x k l j+1) (by omega)]
       . rw[if_neg E,if_neg E,bP (n:=mvJ x k l j+1) (by omega),Xcv]
     . rw[if_neg h1,if_neg h1]
       by_cases E:((aF x i).last != -1&&(aF x i).last != ((k:Nat):Int))=true
       . rw[if_pos E,if_pos E,bP (n:=otJ x k l j+1) (by omega),Xcv]
       . rw[if_neg E,if_neg E,Xcv,Xcv]
theorem Se(h:Ctx x k near){s:Sq.Sheet}(J:0<=s.miles/\s.miles<=300000)(X:(aC x k).start<=s.end_/\s.end_<=4096):
   xG (aC x k) s=⟨(aC x k).fixed+(aC x k).perMile*s.miles+(aC x k).perTick*(s.end_-(aC x k).start),0,0,sqW s.end_ (aC x k).start⟩:=by
 have h1:=h.ty.start;obtain⟨f1,E,F⟩:=h.money;have Z:=tW E J;have b2:=tW F (b:=s.end_-(aC x k).start) (c:=4096) ⟨by omega,by omega⟩;have O: -4096<=s.end_-(aC x k).start/\s.end_-(aC x k).start<=4096:=by omega
 have I:=abJ O;have Y:=Yq I;unfold xG sqW;rw[bP (n:=s.end_-(aC x k).start) (by omega)];generalize (aC x k).perTick*(s.end_-(aC x k).start)=pt at *;generalize (aC x k).perMile*s.miles=pm at *;generalize Int.tdiv (s.end_-(aC x k).start) 64=tt at *;rw[bP (n:=tt) (by omega)];generalize tt*tt=t2 at *;rw[bP (n:=pm) (by omega),bP (n:=pt) (by omega),bP (n:=t2) (by omega),bP (n:=(aC x k).fixed+pm) (by omega),bP (n:=(aC x k).fixed+pm+pt) (by omega)]
structure EvalF(x:Instance)(r:Route):Prop where
 ty:dF r.type x.types.length=false
 seq:sI x r.visits=0
 able:AB x r=0
 fits:uX x r=0
 best:(lN x r).2=0
 price:kF x r=mP (oP x r (lN x r).1)
theorem Qj(h:(kF x r).2=0):EvalF x r:=by
 have E:(lZ x r).2.2=0:=by
   unfold kF at h;split at h
   . next I=>rw[show(lZ x r).2.2=0 from h]at I;simp at I
   . next I=>simpa using I
 have F:kF x r=mP (lZ x r).2.1:=by
   unfold kF;rw[if_neg (by rw[E];simp)]
 unfold lZ at E F;split at E
 . cases E
 next X=>
 rw[if_neg X]at F;split at E
 . next c=>rw[show sI x r.visits=0 from E]at c;simp at c
 next J=>
 rw[if_neg J]at F;split at E
 . next c=>rw[show AB x r=0 from E]at c;simp at c
 next Y=>
 rw[if_neg Y]at F;split at E
 . next c=>rw[show uX x r=0 from E]at c;simp at c
 next Z=>
 rw[if_neg Z]at F;split at E
 . next c=>rw[show(lN x r).2=0 from E]at c;simp at c
 next O=>
 rw[if_neg O]at F;exact⟨by simpa using X,by simpa using J,by simpa using Y,by simpa using Z,by simpa using O,F⟩
theorem XH{s:Sq.Score}(h:(mP s).2=0):(mP s).1=((s.cost*16+s.moved)*16+s.other)*65536+s.work:=by
 unfold mP at h |-;split at h
 . cases h
 next E=>
 rw[if_neg E];split at h
 . cases h
 next F=>
 rw[if_neg F];simp only[Xbc,decide_eq_true_eq,not_or]at E F;show anQ s=_;unfold anQ;rw[aW (n:=s.cost*16) (by omega),aW (n:=s.cost*16+s.moved) (by omega),aW (n:=(s.cost*16+s.moved)*16) (by omega),aW (n:=(s.cost*16+s.moved)*16+s.other) (by omega),aW (n:=((s.cost*16+s.moved)*16+s.other)*65536) (by omega),aW (by omega)]
theorem Wp{s:Sq.Score}: -9223372036854775808<=(mP s).1/\(mP s).1<=9223372036854775807:=by
 unfold mP;split
 . exact⟨by decide,by decide⟩
 . split
   . exact⟨by decide,by decide⟩
   . exact E8 _
def By(f:Int->Rat):List Int->Rat
 | []=>0
 | i::M=>f i+By f M
theorem Dj(f:Int->Rat)(i:Int)(M:List Int):By f (i::M)=f i+By f M:=rfl
theorem LN(f:Int->Rat):∀a b:List Int,By f (a++b)=By f a+By f b
 | [],b=>(Rat.zero_add _).symm
 | v::a,b=>by
   rw[List.cons_append,Dj,Dj,LN f a b,Rat.add_assoc]
def stV(x:Instance)(du:Option (List ByteArray))(v:Visit):Rat:=if bQ (aF x v.order.toNat) v.drop=true then duV du v.order.toNat else 0
theorem aaX:∀j,j<=l.length->duJ x du l j=pB (stV x du) (l.take j)
 | 0,_=>by rw[List.take_zero];rfl
 | j+1,hj=>by
   obtain⟨v,E⟩:=aQ (show j<l.length by omega);show duJ x du l j+(if stJ x l j=true then duV du (vJ l j).order.toNat else 0)=_;rw[aaX j (by omega),bX E,yQ]
   congr 1
   unfold stJ;rw[NE E];show _=stV x du v+0;rw[Xco];rfl
theorem aaJ{set:Int}(hi:i<=62)(h:IP x set i=false):gL set (i:Int)=true/\aiV x i=false:=by
 unfold IP at h;simp only[Xai]at h;refine⟨?_,h.2⟩;have E:=h.1.2;rw[A1 hi,anT]at E;unfold gL;rw[decide_eq_true (show((i:Nat):Int)>=0 by omega),decide_eq_true (show((i:Nat):Int)<=62 by omega),Xan];generalize set/2^i=m at *;have:¬m%2=0:=by simpa using E
 simp;omega
theorem aaP{set:Int}{E:List Visit}{v:Visit}(I:x.orders.length<=60)(h:v∈yV x set E):∃i,i<x.orders.length/\gL set ((i:Nat):Int)=true/\v∈eM x.orders (i:Nat):=by
 unfold yV zM at h;obtain⟨i,hi,h⟩:=Xbo.1 h;have hi:=Xap.1 hi;unfold CJ at h;split at h
 . cases h
 next F=>
 exact⟨i,hi,(aaJ (by omega) (by simpa using F)).1,(List.mem_filter.1 h).1⟩
theorem afL{set:Int}(hi:i<=62)(h:gL set (i:Int)=true):((i:Nat):Int)∈Sq.iS set:=by
 unfold Sq.iS Sq.tD;exact List.mem_map.2 ⟨i,List.mem_filter.2 ⟨Xap.2 (by omega),h⟩,rfl⟩
theorem Jl(f:Int->List Visit):∀M:List Int,(M.flatMap f).length=(M.map fun i=>(f i).length).sum
 | []=>rfl
 | i::M=>by rw[List.flatMap_cons,Xae,Xbk,List.sum_cons,Jl f M]
theorem NS(f:Int->List Visit)(g:Visit->Rat)(e:Int->Rat):∀M:List Int,(∀i∈M,pB g (f i)=e i)->pB g (M.flatMap f)=By e M
 | [],_=>rfl
 | i::M,h=>by rw[List.flatMap_cons,yQ,Dj,h i (by simp),NS f g e M fun a E=>h a (by simp[E])]
theorem Qr(h:kH x=[])(hi:i<x.orders.length):(aF x i).pick.place>=0\/(aF x i).drop.place>=0:=by
 unfold kH at h;simp only[Xaz,Xbq]at h;obtain⟨⟨⟨_,_⟩,E⟩,_⟩:=h;unfold oF at E;rw[Xaz]at E;have h:=Xcg.1 E.2 i (Xap.2 hi);unfold fS at h;rw[Xbq,B9 (List.getElem?_eq_getElem hi)]at h;unfold jR at h;simp only[Xbd,Xaz]at h;have e:x.orders[i]=aF x i:=by unfold aF;rw[List.getD,List.getElem?_eq_getElem hi];rfl
 rw[e]at h;obtain⟨⟨⟨⟨⟨_,J⟩,O⟩,_⟩,_⟩,_⟩:=h;have F:=fF J;have I:=fF O;simp only[Xai]at F;have a1:=jL.1 (oD F.1);have a2:=jL.1 (oD F.2);simp only[Bool.and_eq_false_iff,beq_eq_false_iff_ne,ne_eq]at I;omega
theorem QK(h:kH x=[])(hi:i<x.orders.length):pB (stV x du) (eM x.orders ((i:Nat):Int))=duV du i:=by
 rw[BC hi];have I:=Qr h hi;have e:∀d,stV x du ⟨(i:Nat),d⟩=if bQ (aF x i) d=true then duV du i else 0:=fun d=>by
   unfold stV;show(if bQ (aF x ((i:Nat):Int).toNat) d=true then duV du ((i:Nat):Int).toNat else 0)=_;rw[Xan]
 unfold iU;by_cases h1:(aF x i).pick.place>=0
 . rw[if_pos (decide_eq_true h1)]
   by_cases E:(aF x i).drop.place>=0
   . rw[if_pos (decide_eq_true E)]
     have F:gO (aF x i)=true:=by unfold gO;rw[decide_eq_true h1,decide_eq_true E];rfl
     show stV x du ⟨(i:Nat),false⟩+(stV x du ⟨(i:Nat),true⟩+0)=_;rw[e,e,if_pos (by rfl),if_neg (by unfold bQ;rw[F];simp),Xco,Xco]
   . rw[if_neg (by simpa using E)]
     show stV x du ⟨(i:Nat),false⟩+0=_;rw[e,if_pos (by rfl),Xco]
 . rw[if_neg (by simpa using h1)]
   have E:(aF x i).drop.place>=0:=by omega
   rw[if_pos (decide_eq_true E)];have F:gO (aF x i)=false:=by unfold gO;rw[decide_eq_false h1];rfl
   show stV x du ⟨(i:Nat),true⟩+0=_;rw[e,if_pos (by unfold bQ;rw[F];rfl),Xco]
theorem anY(h:kH x=[])(X:SeqB x l){set:Int}(h0:0<set)(h1:set<2^x.orders.length)(hn:x.orders.length<=8)(J:Sq.xQ x set l)(Y:l.length=F0 x set):
   duJ x du l l.length=By (fun i=>duV du i.toNat) (Sq.iS set):=by
 rw[aaX l.length (Xag _),Xaf];have F:∀v∈l,v∈(Sq.iS set).flatMap fun i=>eM x.orders i:=fun v Z=>by
   obtain⟨a,b,e⟩:=List.append_of_mem Z;obtain⟨i,hi,E,hm⟩:=aaP (by omega) (J a v b e);exact Xbo.2 ⟨_,afL (by omega) E,hm⟩
 rw[(Uz (stV x du) l _ (XQ X.twice) F (by rw[Jl,Y];rfl)).1];refine NS _ _ _ _ fun a O=>?_
 have I:∃i:Nat,a=(i:Nat)/\i<x.orders.length:=by
   unfold Sq.iS Sq.tD at O;obtain⟨i,hi,rfl⟩:=List.mem_map.1 O;obtain⟨_,E⟩:=List.mem_filter.1 hi;refine⟨i,rfl,?_⟩
   false_or_by_contra
   rename_i hc
   have:=Gh (by omega) h1 i (by omega);have E:gL set ((i:Nat):Int)=true:=E;rw[this]at E;cases E
 obtain⟨i,rfl,hi⟩:=I;rw[QK h hi,Xan]
end
theorem VH{x:Instance}(h:kH x=[])(hn:x.orders.length<=3){k:Nat}(hk:k<x.types.length){near:List Int}(hl:uM x near=true){dual:List ByteArray}(hd:uK x dual=true){set:Int}{c:Column}(hB:Yo x (k:Nat) set c):
   ∃b,uO x (k:Nat) dual near=(b,true,0)/\cV b=true/\b.size<=1048576/\(-9223372036854775808<=c.price/\c.price<=9223372036854775807)/\(0<set/\set<2^x.orders.length) /\
     jI b<=(c.price:Rat)-By (fun i=>duV (some dual) i.toNat) (Sq.tD set dual.length):=by
 have ag:=IY hd;obtain⟨ao,_,_⟩:=BP hd;obtain⟨b,f,e1,mn,J⟩:=Jx h hn hk hl ag;have hc:=YC h hk (by omega) (HR hl (by omega)).1;obtain⟨k',l,ek,_,s0,s1,p1,p2,ap,ai⟩:=hB;obtain rfl:k'=k:=by omega
 have O:=Qj p2;have hs:SeqB x l:=VK O.seq;have X:=aoQ hs;have h6:=Td hn
 change l.length<=_ at X
 obtain⟨I,aa,ar⟩:=YT hc hs (by omega) O.best;have aj:∀j,j<=l.length->dpP x (aC x k') (rtB k' l) (cJ x l) (j+1)≠[]:=by
   have:∀d,d<=l.length->dpP x (aC x k') (rtB k' l) (cJ x l) (l.length-d+1)≠[]:=by
     intro d;induction d with
     | zero=>intro _ e;rw[Nat.sub_zero]at e;rw[e]at aa;cases aa
     | succ d ih=>
       intro hd;have:=ih (by omega);rw[show l.length-d=l.length-(d+1)+1 by omega]at this;exact aiZ this
   intro j hj;have:=this (l.length-j) (by omega)
   rwa [show l.length-(l.length-j)=j by omega]at this
 have ad:∀j,j<=l.length->fE (pW x l j) (aC x k').cap=true:=fun j hj=>by
   have:=ahQ (r:=rtB k' l) O.ty O.fits O.seq hj;have e:B0 x ((k':Nat):Int)=(aC x k').cap:=by unfold B0;rw[Xan,Cw hk]
   change fE (pW x l j) (B0 x ((k':Nat):Int))=true at this
   rwa [e]at this
 have am:∀i d,(⟨(i:Nat),d⟩:Visit)∈l->oQ (aC x k').skills (aF x i).skills=true:=fun i d hv=>by
   obtain⟨i',d',e,hi,_⟩:=hs.vis _ hv;obtain rfl:i'=i:=by injection e with a b;omega
   have ha:=O.able;unfold AB at ha;split at ha
   . cases ha
   next aq=>
   have:AT x (rtB k' l) ⟨(i':Nat),d⟩=true:=by
     false_or_by_contra
     rename_i av
     exact aq (Xau.2 ⟨_,hv,by simpa using av⟩)
   unfold AT at this
   change (match x.types[((k':Nat):Int).toNat]?,x.orders[((i':Nat):Int).toNat]? with|some t,some o=>mU t.skills o.skills|_,_=>false)=true at this
   rw[Xan,Xan,Cw hk,eU hi]at this
   change mU (aC x k').skills (aF x i').skills=true at this
   rwa [At hc.ty.skills (hc.acc.order _ (kT hi)).skills]at this
 -- the price of the route
 have al:=fun p (S:Sim x k' (some dual) (dV x).length l (rtB k' l) l.length p)=>acC (du:=some dual) hc (by omega) hs X S aa
 have Y : ∀ m : Int, (0 <= m /\ m <= 10000) -> I.sheet.miles = miJ x (aC x k') l l.length + m -> ((aC x k').start <= I.sheet.end_ /\ I.sheet.end_ <= 4096) ->
     vlJ x k' (some dual) l l.length+(((((aC x k').fixed+(aC x k').perMile*m)+(aC x k').perTick*(I.sheet.end_-(aC x k').start))*16777216+sqW I.sheet.end_ (aC x k').start:Int):Rat)=(c.price:Rat)-duJ x (some dual) l l.length:=by
   intro m hm ak au;have r1:=JV (l:=l) hc l.length;have ac:oP x (rtB k' l) I.sheet=⟨(aC x k').fixed+(aC x k').perMile*I.sheet.miles+(aC x k').perTick*(I.sheet.end_-(aC x k').start),mvJ x k' l l.length,otJ x k' l l.length,sqW I.sheet.end_ (aC x k').start⟩:=by
     unfold oP;rw[if_neg (by rw[O.ty];simp)];show(match x.types[((k':Nat):Int).toNat]? with|some t=>RD x (rtB k' l) I.sheet t|none=>dI)=_;rw[Xan,Cw hk];show(List.range l.length).foldl (jB x (rtB k' l)) (xG (aC x k') I.sheet)=_;rw[Se hc (by omega) au,Fa hs (by omega) _ _ _ (Xag _)]
   have hP:=O.price;rw[ar,ac]at hP;have ae:=p2;rw[hP]at p1 ae;rw[XH ae]at p1;rw[p1];show vlJ x k' (some dual) l l.length+_=((((((aC x k').fixed+(aC x k').perMile*I.sheet.miles+(aC x k').perTick*(I.sheet.end_-(aC x k').start))*16+mvJ x k' l l.length)*16+otJ x k' l l.length)*65536+sqW I.sheet.end_ (aC x k').start:Int):Rat)-_;rw[ak,Int.mul_add];unfold vlJ;generalize (aC x k').perMile*miJ x (aC x k') l l.length=A;generalize (aC x k').perMile*m=B;generalize (aC x k').perTick*(I.sheet.end_-(aC x k').start)=C;generalize sqW I.sheet.end_ (aC x k').start=E;generalize mvJ x k' l l.length=Mv;generalize otJ x k' l l.length=Ot;generalize duJ x (some dual) l l.length=Z;generalize (aC x k').fixed=F;rw[show((((F+(A+B)+C)*16+Mv)*16+Ot)*65536+E)=(A*16777216+(Mv*16+Ot)*65536)+((F+B+C)*16777216+E)by omega,Rat.intCast_add (A*16777216+(Mv*16+Ot)*65536) ((F+B+C)*16777216+E)];generalize ((A*16777216+(Mv*16+Ot)*65536:Int):Rat)=a1;generalize (((F+B+C)*16777216+E:Int):Rat)=a2
   grind
 have ab: -9223372036854775808<=c.price/\c.price<=9223372036854775807:=by
   rw[p1,O.price];exact Wp
 have an:=anY (du:=some dual) h hs s0 s1 (by omega) ap ai;have ah:Sq.iS set=Sq.tD set dual.length:=by
   rw[ao];have:=CO (Gh (by omega) s1) (63-x.orders.length);unfold Sq.iS;rw[show 63=x.orders.length+(63-x.orders.length)by omega,this]
 obtain⟨r',t1,t2⟩:=Me (du:=some dual) hc ag (show(dV x).length<=15 by omega) hs X ad am aj ((c.price:Rat)-duJ x (some dual) l l.length) (fun p S=>by
   obtain⟨m,g1,g2,g3,a,ha,af⟩:=al p S;rw[Y m g1 g2 g3]at af;exact⟨a,ha,af⟩) l.length 0 _ (Vj hc hs rfl) (by omega) (dV x).length X
 rw[an,ah]at t2
 change r'∈Cm x k' near (some dual)at t1
 cases f with
 | false=>rw[(mn.no rfl).1]at t1;cases t1
 | true=>
   obtain⟨m1,m2⟩:=mn.yes rfl;refine⟨b,e1,J _ m1,NM J mn,ab,⟨s0,s1⟩,?_⟩;exact Rat.le_trans ((Bc (J _ t1) (J _ m1)).1 (m2 r' t1)) t2
end Go.Proofs.YtdlijlecpopadaaGreatDoor.Rx
end
section
namespace Go.Proofs.YtdlijlecpopadaaGreatDoor.Rx
open Go.Proofs.Tryz(prog)
open Go.Aw Go.Aw.D Go.Proofs Ty Go.Nu Go.So
open Sq (W eM dD gL NetOk oQ oK iJ)
open Go.Proofs.YtdlijlecpopadaaGreatDoor.Nu (ltB geB uY uE AF)
open Mv (bZ cQ NC.pc aT)
theorem adP{set:Int}{i:Nat}(hi:i<=62):(pX .and .i64 (shV .shr .i64 set (IntKind.u64.wrap (i:Nat))) 1 == 1)=gL set (i:Int):=by
 have e:IntKind.u64.wrap ((i:Nat):Int)=(i:Nat):=by
   have e:IntKind.u64.wrap ((i:Nat):Int)=((i:Nat):Int)%18446744073709551616:=rfl;rw[e];omega
 rw[e,Sq.A1 hi,Sq.anT];unfold gL;rw[decide_eq_true (show((i:Nat):Int)>=0 by omega),decide_eq_true (show((i:Nat):Int)<=62 by omega),Xan];rfl
theorem JY(x:Instance)(kind:Int)(dual:List ByteArray)(near:List Int)(set:Int)(h:InB x)(ah:dual.length<=1048576)(ad:∀a∈dual,a.size<=1048576)(al:near.length<=1048576):
   PC prog 8 [.agg (aL x),int kind,.sl (dual.map Go.Aw.D.fK),.sl (near.map aR),int set] (boo true):=by
 have hr:=OR x h;by_cases hR:A4 x=true
 case neg=>
   have hR:A4 x=false:=by simpa using hR
   refine pcd Tryz.func8 ?_;unfold Tryz.f8;simp only[gdS];simp only[go_sem];refine PC.use hr ?_;simp only[go_sem,Xaa,hR];refine⟨boo false,fun h=>absurd h (by simp),?_⟩;simp only[go_sem];refine⟨boo false,fun h=>absurd h (by simp),?_⟩;simp only[go_sem];refine aB (fun _=>?_) (fun E=>by simp at E);simp only[go_sem];refine PC.use wJ ?_;simp only[go_sem];exact .refl _
 obtain⟨hc,hn⟩:=ZG hR;have aa:=Y9 hc;have hD:=OT x dual (by omega) ah ad;have af:=Yk x near (by omega) al;refine pcd Tryz.func8 ?_;unfold Tryz.f8;simp only[gdS];simp only[go_sem];refine PC.use hr ?_;simp only[go_sem,Xaa,hR];refine⟨_,fun _=>hD.q rfl,?_⟩;simp only[go_sem];refine⟨_,fun _=>af.q rfl,?_⟩;simp only[go_sem];refine aB (fun E=>?_) (fun E=>?_)
 . simp only[go_sem]
   refine PC.use wJ ?_;simp only[go_sem];exact .refl _
 simp only[Xce,Xbu,Xai,decide_eq_false_iff_not,Xcb]at E;obtain⟨⟨⟨b1,b2⟩,b3⟩,b4⟩:=E;obtain⟨k0,rfl⟩:=Int.eq_ofNat_of_zero_le (show 0<=kind by omega);have ag:k0<x.types.length:=by omega
 have ak:=IY b3;obtain⟨ar,_,_⟩:=BP b3;obtain⟨b,f,e1,mn,aj⟩:=Jx hc hn ag b4 ak;have an:=amC aa (show x.orders.length<=8 by omega);have c1:=Kk x an hn (k0:Nat) dual near al ah ad;have au:=NM aj mn;have hW:=fun c=>VH (set:=set) (c:=c) hc hn ag b4 b3
 rw[e1]at c1 hW;simp only[go_sem,Xaa];refine PC.use c1 ?_;simp only[go_sem];refine WC.use (Sq.amK x (k0:Nat) set (VO aa) (by omega)) fun r ⟨c,e,he,hB⟩=>?_
 subst he;simp only[go_sem];refine aN fun ac hj=>?_
 simp only[go_sem];refine aM (aA _ _ _) (by simp[iW]) ?_;generalize hG:aI (aI _ ac _) ac _=HG;have R:HG ac=some (oK c):=by rw[<-hG,aA];rfl
 clear hG hj;simp only[go_sem];refine aB (fun E=>by simp at E) (fun _=>?_);simp only[go_sem];refine aB (fun E=>?_) (fun E=>?_)
 . simp only[go_sem]
   refine PC.use wJ ?_;simp only[go_sem];exact .refl _
 have he:e=0:=by simpa using E
 obtain⟨b',w1,w2,w3,w4,w5,w6⟩:=hW c (hB he);obtain⟨rfl,rfl⟩:b=b'/\f=true:=by injection w1 with a1 a2;injection a2 with a3 _;exact⟨a1,a3⟩
 clear e1 hr hD af c1 hW hB mn E w1;simp only[go_sem,R];refine PC.use (AF c.price w4.1 w4.2) ?_;simp only[go_sem,Xaa];refine⟨fun ρ H=>∃(k:Nat) (a:ByteArray),k<=dual.length/\ρ 4=int set/\ρ 11=str b/\ρ 12=boo true/\ρ 16=str a/\ρ 70=.sl (dual.map Go.Aw.D.fK)/\ρ 71=int (dual.length:Nat)/\ρ 72=int k/\Vl (k+1) a ((c.price:Rat)-By (fun i=>duV (some dual) i.toNat) (Sq.tD set k)),fun ρ _=>dual.length-aX (ρ 72),⟨0,zed c.price,Xab _,by simp only[go_sem],by simp only[go_sem],by simp only[go_sem],by simp only[go_sem],by simp only[go_sem],by simp only[go_sem,Xaa],(by simp only[go_sem];rfl),?_⟩,?_⟩
 . have:=Vl.int (aaL (n:=c.price) (by omega))
   show Vl 1 _ ((c.price:Rat)-0);rw[Xdg,Rat.neg_zero,Xco];exact this
 clear R;rintro ρ H ⟨k,a,hk,e2,X,I,Y,J,O,F,hV⟩;simp only[go_sem,e2,X,I,Y,J,O,F];refine aB (fun Z=>?_) (fun ae=>?_)
 . have Z:=ltB (by simpa using Z)
   obtain⟨u,hu⟩:=aQ Z;have d1:=inB Z;have am:k<=62:=by omega
   have ai:u∈dual:=Xad hu;have ao:=ak.right u ai;have aq:=ad u ai;simp only[go_sem,e2,X,I,Y,J,O,F,aH hu,d1];rw[adP am];refine aB (fun E=>?_) (fun E=>?_)
   . have ab:=hV.sub ao (by omega)
     have av:=tL (hV.right (by omega));simp only[go_sem,e2,X,I,Y,J,O,F];refine PC.use (uE a u (by omega) aq) ?_;rw[ab.1];simp only[go_sem,e2,X,I,Y,J,O,F];refine aB (fun E=>by simp at E) (fun _=>?_);simp only[go_sem,e2,X,I,Y,J,O,F,aS (show k<=4611686018427387904 by omega)];refine⟨⟨k+1,(yS a u).1,Z,rfl,rfl,?_⟩,by simp only[aG];omega⟩;rw[Sq.uZ,if_pos E,LN];have ap:duV (some dual) ((k:Nat):Int).toNat=jI u:=by
       rw[Xan];unfold duV;show jI (dual.getD k ByteArray.empty)=_;rw[List.getD,hu];rfl
     show Vl (k+1+1) _ ((c.price:Rat)-(By (fun i=>duV (some dual) i.toNat) (Sq.tD set k)+(duV (some dual) ((k:Nat):Int).toNat+0)));rw[ap];have e:(c.price:Rat)-(By (fun i=>duV (some dual) i.toNat) (Sq.tD set k)+(jI u+0))=(c.price:Rat)-By (fun i=>duV (some dual) i.toNat) (Sq.tD set k)-jI u:=by
       generalize By (fun i=>duV (some dual) i.toNat) (Sq.tD set k)=y;generalize jI u=z;generalize (c.price:Rat)=w
       grind
     rw[e];exact ab.2
   . simp only[go_sem,e2,X,I,Y,J,O,F,aS (show k<=4611686018427387904 by omega)]
     refine⟨⟨k+1,a,Z,rfl,rfl,?_⟩,by simp only[aG];omega⟩;rw[Sq.uZ,if_neg (by rw[E];simp),Xal];exact hV.mono (by omega)
 have ae:=geB hk (by simpa using ae);subst ae;have hz:=tL (hV.right (by omega));have c5:=Nu.pN b a w3 (by omega);simp only[go_sem,e2,X,I,Y,J,O,F];refine⟨_,c5.q rfl,?_⟩;simp only[go_sem];refine⟨_,fun _=>wJ.q rfl,?_⟩;simp only[go_sem];refine cQ ?_;rw[decide_eq_true ((TZ w2 (hV.right (by omega))).2 (by rw[hV.val];exact w6))];rfl
end Go.Proofs.YtdlijlecpopadaaGreatDoor.Rx
end
section
namespace Go.Proofs.YtdlijlecpopadaaGreatDoor
open Go.Aw Go.Aw.D
theorem inB_of{x:Instance}(h:Dq 1048576 x):InB x:=by
 obtain⟨⟨J,I⟩,E,F,Y,X⟩:=h;exact⟨J.1,J.2,I.1,fun a Z=>⟨(I.2 a Z).2.2.2.2.1.1,(I.2 a Z).2.2.2.2.2.1⟩,E.1,fun t O=>⟨(E.2 t O).1,(E.2 t O).2.2.2.2.1.1⟩,F.1,fun t O=>⟨(F.2 t O).1,(F.2 t O).2.1.1⟩,Y.1,X.1⟩
theorem relaxBelow_holds:Rows.RelaxBelowUptoCardSaid:=relaxBelow.card fun x n d l s I _ E F _=>Rx.JY x n d l s (inB_of I) E.1 E.2 F.1
#print axioms relaxBelow_holds
end Go.Proofs.YtdlijlecpopadaaGreatDoor
end
