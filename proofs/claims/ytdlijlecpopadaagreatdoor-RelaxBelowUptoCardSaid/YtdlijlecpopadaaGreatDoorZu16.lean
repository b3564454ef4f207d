import Derived.Lib.ItoaMem
import Derived.Test.YtdlijlecpopadaaGreatDoorZu10
import Derived.Test.YtdlijlecpopadaaGreatDoorZu15
set_option linter.unusedSimpArgs false
set_option linter.unusedVariables false
set_option maxRecDepth 100000
section
namespace Go.Proofs.YtdlijlecpopadaaGreatDoor.Rx
open Go.Proofs.Tryz(prog)
open Go.Aw Go.Aw.D Go.Proofs Ty Go.Nu
open Sq (W dH mU pC rS fE eM dD gL NetOk nE lE jQ mE)
open Nu (zG uE AF ltB geB pN CD)
open Mv (bZ cQ NC.pc aT)
theorem XE{g:Nat}{cap:List AV}{p:Part->Bool}(l:List Part)(hl:l.length<=4000000000000000000)(Y:aE prog g=true)(hg:∀v∈l,PC prog g ((.agg (cC v))::cap) (boo (p v))):
   PC prog 95 [.sl (l.map cC),.fn g cap] (int (nE p l 0)):=by
 refine pcd Tryz.func95 ?_;unfold Tryz.f95;simp only[gdS];simp only[go_sem];refine⟨fun ρ _=>∃k:Nat,k<=l.length/\ρ 0=.sl (l.map cC)/\ρ 1=.fn g cap/\ρ 7=int l.length/\ρ 8=int k/\∀u∈l.take k,p u=false,fun ρ _=>l.length-aX (ρ 8),⟨0,Xab _,rfl,rfl,rfl,rfl,by simp⟩,?_⟩;rintro ρ H ⟨k,hk,h0,h1,J,I,X⟩;simp only[go_sem,h0,h1,J,I];refine aB (fun E=>?_) (fun F=>?_)
 . have E:=aZ E
   obtain⟨u,O⟩:=aQ E;have b1:=inB E;simp only[go_sem,h0,h1,J,I,aH O,b1,Y];refine PC.use (hg u (Xad O)) ?_;simp only[go_sem,h0,h1,J,I];refine aB (fun Z=>?_) (fun Z=>?_)
   . simp only[go_sem,I]
     exact bZ (by rw[lE X O Z];omega)
   . simp only[go_sem,h0,h1,J,I,aS (show k<=4611686018427387904 by omega)]
     exact⟨⟨k+1,E,rfl,aT (p:=fun u=>p u=false) O Z X⟩,by simp only[aG];omega⟩
 . have F:=bD hk F
   subst F;rw[Xaf]at X;simp only[go_sem];exact bZ (by rw[jQ X])
theorem WW{g:Nat}{cap:List AV}{p:Part->Bool}(l:List Part)(F:l.length<=4000000000000000000)(E:aE prog g=true)(I:∀v∈l,PC prog g ((.agg (cC v))::cap) (boo (p v))):
   PC prog 48 [.sl (l.map cC),.fn g cap] (boo (l.any p)):=by
 refine pcd Tryz.func48 ?_;unfold Tryz.f48;simp only[gdS];simp only[go_sem];refine PC.use (XE l F E I) ?_;simp only[go_sem];exact cQ (mE l 0 (Xaj _))
abbrev hJ(l:List Part):Row:=⟨94,7,l.map cC⟩
theorem IN(l:List Part)(q:Part):(⟨94,7,l.map cC++[cC q]⟩:Row)=hJ (l++[q]):=by
 show _=(⟨94,7,(l++[q]).map cC⟩:Row);rw[Xat];rfl
structure BH(H:aJ)(w:Wk)(jw jk jm jf:Nat)(known more fresh:List Part):Prop where
 rw:H jw=some (nF w)
 rk:H jk=some (hJ known)
 rm:H jm=some (hJ more)
 rf:H jf=some (hJ fresh)
 km:jk≠jm
 kf:jk≠jf
 mf:jm≠jf
theorem akF{H:aJ}{w:Wk}{i j:Nat}{l:List (List AV)}(hi:H i=some (nF w))(E:H j=some ⟨94,7,l⟩):i≠j:=fun e=>by
 subst e;rw[hi]at E;have:=congrArg Row.e (Option.some.inj E);exact absurd (show(89:Nat)=94 from this) (by decide)
section
variable{H:aJ}{w:Wk}{jw jk jm jf:Nat}{known more fresh:List Part}
theorem BH.mono(h:BH H w jw jk jm jf known more fresh){H':aJ}(E:∀k row,H k=some row->H' k=some row):BH H' w jw jk jm jf known more fresh:=
 ⟨E _ _ h.rw,E _ _ h.rk,E _ _ h.rm,E _ _ h.rf,h.km,h.kf,h.mf⟩
theorem BH.appK(h:BH H w jw jk jm jf known more fresh){j:Nat}(E:H j=none)(q:Part):BH (aI (aI H jk none) j (some (hJ (known++[q])))) w jw j jm jf (known++[q]) more fresh:=by
 have nw:=akF h.rw h.rk;have J:=aO h.rw E;have F:=aO h.rm E;have I:=aO h.rf E;exact⟨by rw[aD _ _ _ _ J,aD _ _ _ _ nw];exact h.rw,aA _ _ _,by rw[aD _ _ _ _ F,aD _ _ _ _ h.km.symm];exact h.rm,by rw[aD _ _ _ _ I,aD _ _ _ _ h.kf.symm];exact h.rf,F.symm,I.symm,h.mf⟩
theorem BH.appM(h:BH H w jw jk jm jf known more fresh){j:Nat}(E:H j=none)(q:Part):BH (aI (aI H jm none) j (some (hJ (more++[q])))) w jw jk j jf known (more++[q]) fresh:=by
 have nw:=akF h.rw h.rm;have J:=aO h.rw E;have F:=aO h.rk E;have I:=aO h.rf E;exact⟨by rw[aD _ _ _ _ J,aD _ _ _ _ nw];exact h.rw,by rw[aD _ _ _ _ F,aD _ _ _ _ h.km];exact h.rk,aA _ _ _,by rw[aD _ _ _ _ I,aD _ _ _ _ h.mf.symm];exact h.rf,F,h.kf,I.symm⟩
end
structure BI(H:aJ)(jk jm i:Nat)(p:Part):Prop where
 ri:H i=some (fN p)
 ik:i≠jk
 im:i≠jm
theorem BI.mono{H H':aJ}{jk jm i:Nat}{p:Part}(h:BI H jk jm i p)(E:∀k row,H k=some row->H' k=some row):BI H' jk jm i p:=⟨E _ _ h.ri,h.ik,h.im⟩
theorem BI.appK{H:aJ}{jk jm i j:Nat}{p:Part}(h:BI H jk jm i p)(E:H j=none)(a:Option Row):BI (aI (aI H jk none) j a) j jm i p:=by
 have n:=aO h.ri E;exact⟨by rw[aD _ _ _ _ n,aD _ _ _ _ h.ik];exact h.ri,n,h.im⟩
theorem BI.appM{H:aJ}{jk jm i j:Nat}{p:Part}(h:BI H jk jm i p)(E:H j=none)(a:Option Row):BI (aI (aI H jm none) j a) jk j i p:=by
 have n:=aO h.ri E;exact⟨by rw[aD _ _ _ _ n,aD _ _ _ _ h.im];exact h.ri,h.ik,n⟩
theorem cK{H:aJ}{i:Nat}(hi:H i=none)(a:Option Row):∀k row,H k=some row->aI H i a k=some row:=fun k row E=>by
 rw[aD _ _ _ _ (fun e=>by subst e;rw[hi]at E;cases E)];exact E
theorem BX{H:aJ}{i:Nat}(hi:H i=none)(a b:Option Row):∀k row,H k=some row->aI (aI H i a) i b k=some row:=fun k row E=>by
 rw[aD _ _ _ _ (fun e=>by subst e;rw[hi]at E;cases E)];exact cK hi a k row E
theorem W9(p q:Part)(Y:p.memory<2^62)(X:q.memory<2^62)(F:p.load.length<=1048576)(E:p.value.size<=1048576)(J:q.value.size<=1048576)(O:p.clocks.length<=4194304)(I:q.clocks.length<=4194304):
   PC prog 49 [.agg (cC p),.rp (cC q) 0] (boo (uL p q)):=by
 refine pcd Tryz.func49 ?_;unfold Tryz.f49;simp only[gdS];simp only[go_sem];refine PC.use (YS p q Y X F E J O I) ?_;simp only[go_sem];exact .refl _
def frM(m:Nat)(x:AV)(H:aJ):Nat:=match x with
 | .os j=>match H j with
   | some r=>if r.es.length=0 then 0 else m+1-aX ((r.es.getD 0 []).getD 3 .any)
   | none=>0
 | _=>0
theorem Zf{m:Nat}{H:aJ}{j:Nat}{l:List Part}(h:H j=some (hJ l)):frM m (.os j) H=match l with|[]=>0|p::_=>m+1-p.visits:=by
 unfold frM;simp only[h];cases l with
 | nil=>rfl
 | cons p l=>rfl
theorem NO{m:Nat}{H:aJ}{j:Nat}{l t:List Part}{p:Part}(h:H j=some (hJ l))(E:p::t=l):frM m (.os j) H=m+1-p.visits:=by
 subst E;exact Zf h
theorem adJ{m:Nat}{H:aJ}{j:Nat}{l:List Part}(h:H j=some (hJ l))(E:l=[]):frM m (.os j) H=0:=by
 subst E;exact Zf h
structure SI(D:Nat)(w:Wk)(r m K:Nat)(s:Srch):Prop where
 known:∀p∈s.known,PInv D p/\p.visits<=6
 more:∀p∈s.more,PInv D p/\p.visits=r+1/\r+1<=w.most
 ml:s.more.length<=m
 kl:s.known.length<=K+s.more.length
 best:s.best.size<=8194
theorem SI.le{D:Nat}{w:Wk}{r m E K:Nat}{s:Srch}(h:SI D w r m K s)(F:m<=E):SI D w r E K s:=⟨h.known,h.more,Xah h.ml F,h.kl,h.best⟩
theorem MP(w:Wk)(q:Part)(e m:Int):(oY w q e m).size<=8194:=zZ _ _
theorem FT(w:Wk)(s:Srch)(q:Part):(Bi w s q).known=s.known++[q]/\(Bi w s q).more=s.more++[q]/\((Bi w s q).best=s.best\/∃e m,(Bi w s q).best=oY w q e m):=by
 unfold Bi;simp only;split
 . exact⟨rfl,rfl,.inr ⟨_,_,rfl⟩⟩
 . exact⟨rfl,rfl,.inl rfl⟩
theorem SI.try{D:Nat}{w:Wk}{r m K:Nat}{s:Srch}(h:SI D w r m K s)(hw:WkB D w)(aa:w.most<=6){p:Part}(hp:PInv D p)(ab:p.visits=r){v:Visit}(Z:VisOk w.x v):SI D w r (m+1) K (vV w p s v):=by
 unfold vV;simp only;split
 . exact h.le (Nat.le_succ m)
 . next Y=>
   simp only[Xbc,not_or]at Y;have I:(cH w p v).2=true:=by simpa using Y.1
   obtain⟨X,q2,q3⟩:=CH hw hp Z I;obtain⟨O,J,F⟩:=FT w s (cH w p v).1;refine⟨fun u E=>?_,fun u E=>?_,?_,?_,?_⟩
   . rw[O]at E
     rcases Xaq.1 E with E|E
     . exact h.known u E
     . rw[Xak]at E;subst E;exact⟨X,by omega⟩
   . rw[J]at E
     rcases Xaq.1 E with E|E
     . exact h.more u E
     . rw[Xak]at E;subst E;exact⟨X,by omega,by omega⟩
   . rw[J,Xae,List.length_singleton];have:=h.ml;omega
   . rw[O,J,Xae,Xae];have:=h.kl;omega
   . rcases F with F|⟨e,mm,F⟩
     . rw[F];exact h.best
     . rw[F];exact MP _ _ _ _
def atA(w:Wk)(vs:List Visit)(s:Srch)(p:Part):Srch:=vs.foldl (vV w p) s
def uO(x:Instance)(kind:Int)(dual:List ByteArray)(near:List Int):ByteArray×Bool×Int:=
 if(jM x kind near||(dual.length:Int) != (x.orders.length:Int))=true then(emp,false,2)
 else if(dual.any fun a=> !cV a)=true then(emp,false,3)
 else
   let w:Wk:={ lS x kind.toNat near with dual:=some dual }
   let s:=kN w (dV x) (w.most+1) ⟨[],[],emp,false⟩ [fC w]
   (s.best,s.found,0)
theorem Kk{D:Nat}(x:Instance)(h:XB D x)(h3:x.orders.length<=3)(kind:Int)(dual:List ByteArray)(near:List Int)(bu:near.length<=1048576)(cw:dual.length<=1048576)(b6:∀a∈dual,a.size<=1048576):
   PC prog 19 [.agg (aL x),int kind,.sl (dual.map Go.Aw.D.fK),.sl (near.map aR)] (.tup [str (uO x kind dual near).1,boo (uO x kind dual near).2.1,int (uO x kind dual near).2.2]):=by
 have hx:x.orders.length<=1048576:=by omega
 have eR:uO x kind dual near=if(jM x kind near||(dual.length:Int) != (x.orders.length:Int))=true then(emp,false,2)
   else if(dual.any fun a=> !cV a)=true then(emp,false,3)
   else
     ((kN { lS x kind.toNat near with dual:=some dual } (dV x) ((lS x kind.toNat near).most+1) ⟨[],[],emp,false⟩ [fC { lS x kind.toNat near with dual:=some dual }]).best,(kN { lS x kind.toNat near with dual:=some dual } (dV x) ((lS x kind.toNat near).most+1) ⟨[],[],emp,false⟩ [fC { lS x kind.toNat near with dual:=some dual }]).found,0):=rfl
 generalize uO x kind dual near=R at eR;refine pcb (fun t=>t == 18||t == 20||t == 66) Tryz.func19 ?_;unfold Tryz.f19;simp only[gdS];simp only[go_sem];by_cases hB:jM x kind near=true
 . rw[if_pos (by rw[hB];rfl)]at eR
   subst eR;refine PC.use (Mb x kind near hx bu hB) ?_;simp only[go_sem];refine aB (fun hb=>?_) (fun hb=>nomatch hb);simp only[go_sem];exact .refl _
 have hB:jM x kind near=false:=by simpa using hB
 rw[hB,Xbu]at eR;obtain⟨kd,rfl⟩:∃k:Nat,kind=(k:Nat):=by
   have:=(Ah hB).1;simp at this;exact⟨kind.toNat,by omega⟩
 rw[Xan]at eR;refine NC.use (Z2 x kd near hx bu hB) fun jw cv=>?_
 have R0:aI bS jw (some (nF (lS x kd near))) jw=some (nF (lS x kd near)):=aA _ _ _;generalize aI bS jw _=H at R0 |-;simp only[go_sem];refine aB (fun hb=>?_) (fun hb=>?_)
 . rw[if_pos (by simpa using hb)]at eR
   subst eR;simp only[go_sem];exact .refl _
 rw[if_neg (by simpa using hb)]at eR;have ca:dual.length=x.orders.length:=by simp at hb;omega
 simp only[go_sem];refine⟨fun ρ H=>∃(k:Nat),k<=dual.length/\ρ 2=.sl (dual.map Go.Aw.D.fK)/\ρ 4=.rp (aL x) 0/\ρ 11=.op jw 0 0/\ρ 48=.sl (dual.map Go.Aw.D.fK)/\ρ 49=int (dual.length:Nat)/\ρ 50=int k/\(∀u∈dual.take k,(!cV u)=false)/\H jw=some (nF (lS x kd near)),fun ρ _=>dual.length-aX (ρ 50),⟨0,Xab _,by simp only[go_sem],by simp only[go_sem],by simp only[go_sem],by simp only[go_sem],by simp only[go_sem,Xaa],(by simp only[go_sem];rfl),by simp,R0⟩,?_⟩;rintro ρ H ⟨k,hk,e2,e4,E,al,aj,ak,hz,R0⟩;simp only[go_sem,e2,e4,E,al,aj,ak];refine aB (fun ah=>?_) (fun ao=>?_)
 . have ah:=ltB (by simpa using ah)
   obtain⟨a,ha⟩:=aQ ah;have b1:=inB ah;simp only[go_sem,e2,e4,E,al,aj,ak,aH ha,b1];refine PC.use (CD a (b6 a (Xad ha))) ?_;simp only[go_sem,e2,e4,E,al,aj,ak];refine aB (fun hb=>?_) (fun hb=>?_)
   . rw[if_pos (Xau.2 ⟨a,Xad ha,hb⟩)]at eR
     subst eR;simp only[go_sem];exact .refl _
   . simp only[go_sem,e2,e4,E,al,aj,ak,aS (show k<=4611686018427387904 by omega)]
     exact⟨⟨k+1,ah,rfl,aT (p:=fun u=>(!cV u)=false) ha hb hz,R0⟩,by simp only[aG];omega⟩
 have ao:=geB hk (by simpa using ao);subst ao;rw[Xaf]at hz;rw[if_neg (by rw[Xch,Xby];intro a ha;rw[hz a ha];simp)]at eR;simp only[go_sem,e2,e4,E,al,aj,ak];obtain⟨hw,bq⟩:=Xi h hB (some dual) (fun l e=>by injection e with e;subst e;exact⟨ca,b6⟩);refine cE avN R0 (by simp[Dk]) ?_;have b9:({ lS x kd near with dual:=some dual }:Wk).x=x:=rfl;have b4:({ lS x kd near with dual:=some dual }:Wk).t.cap.length=D:=bq;have bz:({ lS x kd near with dual:=some dual }:Wk).most=(dV x).length:=rfl;have cf:(lS x kd near).most=(dV x).length:=rfl;rw[cf,<-bz]at eR;have a9:aI H jw (some (⟨89,24,[mH (jZ (lS x kd near)) 22 [.sl (dual.map Go.Aw.D.fK)]]⟩:Row)) jw=some (nF { lS x kd near with dual:=some dual }):=by rw[aA];rfl
 generalize ({ lS x kd near with dual:=some dual }:Wk)=w at *;generalize hP:aI H jw _=HP;have Rw:HP jw=some (nF w):=by rw[<-hP];exact a9
 clear hP a9 R0;simp only[go_sem,e2,e4,E,al,aj,ak];refine PC.use (ZU x hx) ?_;have b7:∀v∈dV x,VisOk w.x v:=by rw[b9];exact Tq x
 have c1:(dV x).length<=6:=by have:=BZ x x.orders.length;unfold dV;omega
 rw[bz]at eR;generalize dV x=vs at *;simp only[go_sem,e2,e4,E,al,aj,ak];refine aN fun jk bx=>?_
 simp only[go_sem,e2,e4,E,al,aj,ak];have a7:=cK bx (some (⟨94,7,[]⟩:Row)) _ _ Rw;have a5:aI HP jk (some (⟨94,7,[]⟩:Row)) jk=some (hJ []):=aA _ _ _;generalize aI HP jk _=H1 at a7 a5 |-;refine LC.use (Uu _ jw w a7 (by rw[b4];exact h.D)) ?_;simp only[go_sem,e2,e4,E,al,aj,ak];refine aN fun jf a0=>?_
 have ba:=aO a5 a0;have bk:=cK a0 (some (⟨94,7,[cC (fC w)]⟩:Row)) _ _ a7;have b5:=cK a0 (some (⟨94,7,[cC (fC w)]⟩:Row)) _ _ a5;have bm:aI H1 jf (some (⟨94,7,[cC (fC w)]⟩:Row)) jf=some (hJ [fC w]):=aA _ _ _;generalize aI H1 jf _=H2 at bk b5 bm |-;clear a7 a5 Rw a0 bx;simp only[go_sem,e2,e4,E,al,aj,ak];refine⟨fun ρ H=>∃(jk jf:Nat) (s:Srch) (fresh:List Part) (r:Nat),ρ 11=.op jw 0 0/\ρ 15=.sl (vs.map aK)/\ρ 16=str s.best/\ρ 17=boo s.found/\ρ 18=.os jk/\ρ 19=.os jf/\H jw=some (nF w)/\H jk=some (hJ s.known)/\H jf=some (hJ fresh)/\jk≠jf/\r<=vs.length+1/\(∀p∈s.known,PInv D p/\p.visits<=6)/\(∀p∈fresh,PInv D p/\p.visits=r/\r<=w.most)/\fresh.length<=6^r/\s.known.length<=r*46656/\s.best.size<=8194/\kN w vs (vs.length+1) ⟨[],[],emp,false⟩ [fC w]=kN w vs (vs.length+1-r) s fresh,
   fun ρ H=>frM w.most (ρ 19) H,⟨jk,jf,⟨[],[],emp,false⟩,[fC w],0,by simp only[go_sem,e2,e4,E,al,aj,ak],by simp only[go_sem],by simp only[go_sem];rfl,by simp only[go_sem],by simp only[go_sem],by simp only[go_sem],bk,b5,bm,ba,Xab _,by simp,fun p hp=>?_,Xag 1,Xab _,Xab _,rfl⟩,?_⟩
 . rw[Xak]at hp;subst hp
   exact⟨Hj b4,rfl,Xab _⟩
 rintro ρ H ⟨jk,jf,s,fresh,r,E,X,J,F,O,an,Rw,Rk,Rf,ba,c0,cj,be,cy,c2,cg,hS⟩;simp only[go_sem,E,X,J,F,O,an,Rf,Xaa];refine aB (fun hb=>?_) (fun hb=>?_)
 rotate_left
 . have ch : fresh = [] := by
     have:¬((fresh.length:Int)>0):=by simpa using hb
     exact List.length_eq_zero_iff.1 (by omega)
   subst ch;have cc:kN w vs (vs.length+1-r) s []=s:=by
     cases vs.length+1-r with
     | zero=>rfl
     | succ n=>exact if_pos rfl
   rw[hS,cc]at eR;subst eR;simp only[go_sem,J,F];exact .refl _
 have bp:fresh≠[]:=fun e=>by subst e;simp at hb
 obtain⟨p0,f0,rfl⟩:∃p0 f0,fresh=p0::f0:=by
   cases fresh with
   | nil=>exact absurd rfl bp
   | cons a l=>exact⟨a,l,rfl⟩
 have cu:r<=w.most:=(be p0 (by simp)).2.2;have b8:w.most<=6:=by omega
 have bh:vs.length+1-r=(vs.length+1-(r+1))+1:=by omega
 rw[bh]at hS;have bw:kN w vs (vs.length+1) ⟨[],[],emp,false⟩ [fC w]=kN w vs (vs.length+1-(r+1)) (A0 w vs s (p0::f0)) (A0 w vs s (p0::f0)).more:=hS.trans (if_neg bp);generalize bn:p0::f0=fresh at *;simp only[go_sem,E,X,J,F,O,an];refine aN fun jm aw=>?_
 simp only[go_sem,E,X,J,F,O,an];have B:BH (aI H jm (some (⟨94,7,[]⟩:Row))) w jw jk jm jf s.known [] fresh:=
   ⟨cK aw _ _ _ Rw,cK aw _ _ _ Rk,aA _ _ _,cK aw _ _ _ Rf,aO Rk aw,ba,(aO Rf aw).symm⟩
 generalize aI H jm _=H3 at B |-;have cz:6^r<=46656:=Xah (Xay (by decide) (show r<=6 by omega)) (by decide);have I0:SI D w r 0 s.known.length { s with more:=[] }:=⟨cj,by simp,Xag 0,Xag _,cg⟩;simp only[go_sem,E,X,J,F,O,an,B.rf,Xaa];refine⟨fun ρ H=>∃(k:Nat) (jk:Nat) (jm:Nat) (s2:Srch),k<=fresh.length/\ρ 11=.op jw 0 0/\ρ 15=.sl (vs.map aK)/\ρ 70=.os jf/\ρ 71=int (fresh.length:Nat)/\ρ 72=int k/\ρ 16=str s2.best/\ρ 17=boo s2.found/\ρ 18=.os jk/\ρ 20=.os jm/\s2=(fresh.take k).foldl (atA w vs) { s with more:=[] }/\SI D w r (6*k) s.known.length s2/\BH H w jw jk jm jf s2.known s2.more fresh,fun ρ _=>fresh.length-aX (ρ 72),⟨0,jk,jm,{ s with more:=[] },Xab _,by simp only[go_sem,E,X,J,F,O,an],by simp only[go_sem,E,X,J,F,O,an],by simp only[go_sem,E,X,J,F,O,an],by simp only[go_sem,Xaa,E,X,J,F,O,an],(by simp only[go_sem,E,X,J,F,O,an];rfl),by simp only[go_sem,J],by simp only[go_sem,F],by simp only[go_sem,O],by simp only[go_sem],rfl,I0,B⟩,?_⟩;rintro ρ H ⟨k,jk,jm,s2,hk,E,X,ab,aa,Z,J,F,O,Y,bd,I,B⟩;simp only[go_sem,E,X,ab,aa,Z,J,F,O,Y];refine aB (fun ah=>?_) (fun ao=>?_)
 . have ah:=ltB (by simpa using ah)
   obtain⟨p,hp⟩:=aQ ah;have b1:=inB ah;have cm:=Sq.eY (f:=atA w vs) (b:={ s with more:=[] }) hp;have aq:=be p (Xad hp);simp only[go_sem,E,X,ab,aa,Z,J,F,O,Y,B.rf,Xaa,aH hp,b1];refine⟨by omega,aN fun ai az=>?_⟩;simp only[go_sem,E,X,ab,aa,Z,J,F,O,Y];refine aM (aA _ _ _) (by simp[bV]) ?_;have B2:=B.mono (BX az (some (⟨94,7,[[int 0,int 0,int 0,int 0,.sl [],.sl [],str ByteArray.empty]]⟩:Row)) (some (fN p)));have C2:BI (aI (aI H ai (some (⟨94,7,[[int 0,int 0,int 0,int 0,.sl [],.sl [],str ByteArray.empty]]⟩:Row))) ai (some (fN p))) jk jm ai p:=⟨aA _ _ _,(aO B.rk az).symm,(aO B.rm az).symm⟩;generalize hG:aI (aI H ai _) ai _=H4;replace B2:BH H4 w jw jk jm jf s2.known s2.more fresh:=by rw[<-hG];exact B2
   replace C2:BI H4 jk jm ai p:=by rw[<-hG];exact C2
   clear hG az B;simp only[go_sem,E,X,ab,aa,Z,J,F,O,Y,Xaa];generalize ct:k=k0 at *;refine⟨fun ρ H=>∃(k:Nat) (jk:Nat) (jm:Nat) (s3:Srch),k<=vs.length/\ρ 11=.op jw 0 0/\ρ 15=.sl (vs.map aK)/\ρ 22=.op ai 0 0/\ρ 70=.os jf/\ρ 71=int (fresh.length:Nat)/\ρ 72=int (k0:Nat)/\ρ 76=.sl (vs.map aK)/\ρ 77=int (vs.length:Nat)/\ρ 78=int k/\ρ 16=str s3.best/\ρ 17=boo s3.found/\ρ 18=.os jk/\ρ 20=.os jm/\s3=(vs.take k).foldl (vV w p) s2/\SI D w r (6*k0+k) s.known.length s3/\BH H w jw jk jm jf s3.known s3.more fresh/\BI H jk jm ai p,fun ρ _=>vs.length-aX (ρ 78),⟨0,jk,jm,s2,Xab _,by simp only[go_sem,E,X,ab,aa,Z,J,F,O,Y],by simp only[go_sem,E,X,ab,aa,Z,J,F,O,Y],by simp only[go_sem,E,X,ab,aa,Z,J,F,O,Y],by simp only[go_sem,E,X,ab,aa,Z,J,F,O,Y],by simp only[go_sem,E,X,ab,aa,Z,J,F,O,Y],by simp only[go_sem,E,X,ab,aa,Z,J,F,O,Y],by simp only[go_sem,E,X,ab,aa,Z,J,F,O,Y],by simp only[go_sem,Xaa,E,X,ab,aa,Z,J,F,O,Y],(by simp only[go_sem,E,X,ab,aa,Z,J,F,O,Y];rfl),by simp only[go_sem,J],by simp only[go_sem,F],by simp only[go_sem,O],by simp only[go_sem,Y],rfl,I,B2,C2⟩,?_⟩;rintro ρ H ⟨k,jk,jm,s3,hk,E,X,ae,ab,aa,Z,ad,af,ac,J,F,O,Y,bj,I3,B,C⟩;simp only[go_sem,E,X,ae,ab,aa,Z,ad,af,ac,J,F,O,Y];refine aB (fun ah=>?_) (fun ao=>?_)
   . have ar:=ltB (by simpa using ah)
     obtain⟨v,hv⟩:=aQ ar;have b2:=inB ar;have ap:=Sq.eY (f:=vV w p) (b:=s2) hv;rw[<-bj]at ap;have bg:=b7 v (Xad hv);obtain⟨o,br,ho⟩:=bg.ex;have bo:v=⟨(o:Nat),v.drop⟩:=by rw[<-br]
     have I4:=I3.try hw b8 aq.1 aq.2.1 bg;have a8:vV w p s3 v=if(!(cH w p v).2||s3.known.any fun k=>uL k (cH w p v).1)=true then s3 else Bi w s3 (cH w p v).1:=rfl
     have bt:=CH hw aq.1 bg;have b3:p.clocks.length<=1048576:=Xah aq.1.clk (Xah (Xay (by decide) (show p.visits<=16 by omega)) (by decide));simp only[go_sem,E,X,ae,ab,aa,Z,ad,af,ac,J,F,O,Y,aH hv,b2];refine aN fun au bc=>?_
     simp only[go_sem,E,X,ae,ab,aa,Z,ad,af,ac,J,F,O,Y];refine aM (aA _ _ _) (by simp[cL]) ?_;have B2:=B.mono (BX bc (some (⟨97,2,[[int 0,boo false]]⟩:Row)) (some (wR v)));have C2:=C.mono (BX bc (some (⟨97,2,[[int 0,boo false]]⟩:Row)) (some (wR v)));have ay:aI (aI H au (some (⟨97,2,[[int 0,boo false]]⟩:Row))) au (some (wR v)) au=some (wR v):=aA _ _ _;generalize hG:aI (aI H au _) au _=H5;replace B2:BH H5 w jw jk jm jf s3.known s3.more fresh:=by rw[<-hG];exact B2
     replace C2:BI H5 jk jm ai p:=by rw[<-hG];exact C2
     replace ay:H5 au=some (wR v):=by rw[<-hG];exact ay
     clear hG bc B C;simp only[go_sem,E,X,ae,ab,aa,Z,ad,af,ac,J,F,O,Y,C2.ri,ay];rw[bo];refine LC.use (YW _ jw w B2.rw p o v.drop ho hw.ok aq.1.ok (by have:=hw.n;omega) (by rw[aq.1.load,hw.dim o ho]) (by rw[aq.1.load];exact hw.D) b3 (by omega)) ?_;rw[<-bo];generalize cH w p v=q at *;simp only[go_sem,E,X,ae,ab,aa,Z,ad,af,ac,J,F,O,Y];refine aN fun av ax=>?_
     simp only[go_sem,E,X,ae,ab,aa,Z,ad,af,ac,J,F,O,Y];refine aM (aA _ _ _) (by simp[bV]) ?_;have B3:=B2.mono (BX ax (some (⟨94,7,[[int 0,int 0,int 0,int 0,.sl [],.sl [],str ByteArray.empty]]⟩:Row)) (some (fN q.1)));have C3:=C2.mono (BX ax (some (⟨94,7,[[int 0,int 0,int 0,int 0,.sl [],.sl [],str ByteArray.empty]]⟩:Row)) (some (fN q.1)));have E3:BI (aI (aI H5 av (some (⟨94,7,[[int 0,int 0,int 0,int 0,.sl [],.sl [],str ByteArray.empty]]⟩:Row))) av (some (fN q.1))) jk jm av q.1:=⟨aA _ _ _,(aO B2.rk ax).symm,(aO B2.rm ax).symm⟩;generalize hG:aI (aI H5 av _) av _=H6;replace B3:BH H6 w jw jk jm jf s3.known s3.more fresh:=by rw[<-hG];exact B3
     replace C3:BI H6 jk jm ai p:=by rw[<-hG];exact C3
     replace E3:BI H6 jk jm av q.1:=by rw[<-hG];exact E3
     clear hG ax B2 C2 ay;simp only[go_sem,E,X,ae,ab,aa,Z,ad,af,ac,J,F,O,Y];refine⟨boo (s3.known.any fun k=>uL k q.1),fun hg=>.inl ⟨[.sl (s3.known.map cC),.fn 49 [.rp (cC q.1) 0]],.cons _ _ _ _ (.row _ _ _ B3.rk (ConvE.refl _)) (.cons _ _ _ _ (.fn _ _ _ (.cons _ _ _ _ (.ptr _ _ _ _ _ E3.ri (by simp) (ConvL.refl _)) .nil)) .nil),WW s3.known (by have:=I3.kl;have:=I3.ml;omega) (by kernel_rfl) (fun u hu=>?_),rfl⟩,?_⟩
     . have bf:q.2=true:=by simpa using hg
       obtain⟨q1,q2,q3⟩:=bt bf;obtain⟨u1,u2⟩:=I3.known u hu;have hD:=hw.D;exact W9 u q.1 u1.ok.mem q1.ok.mem (by rw[u1.load];exact hD) u1.ok.value q1.ok.value (Xah u1.clk (Xah (Xay (by decide) u2) (by decide))) (Xah q1.clk (Xah (Xay (by decide) (show q.1.visits<=6 by omega)) (by decide)))
     simp only[go_sem,E,X,ae,ab,aa,Z,ad,af,ac,J,F,O,Y];refine aB (fun hb=>?_) (fun hb=>?_)
     . rw[if_pos hb]at a8
       rw[a8]at I4 ap;simp only[go_sem,E,X,ae,ab,aa,Z,ad,af,ac,J,F,O,Y,aS (show k<=4611686018427387904 by omega)];exact⟨⟨k+1,jk,jm,s3,ar,rfl,rfl,rfl,rfl,rfl,ap.symm,I4,B3,C3⟩,by simp only[aG];omega⟩
     rw[if_neg (fun h=>Bool.noConfusion (hb.symm.trans h))]at a8;have bf:q.2=true:=by
       have:=(Xai.1 hb).1;simpa using this
     obtain⟨q1,q2,q3⟩:=bt bf;have cp:s3.known.length<=1000000:=by have:=I3.kl;have:=I3.ml;omega
     have cq:s3.more.length<=1000000:=by have:=I3.ml;omega
     simp only[go_sem,E,X,ae,ab,aa,Z,ad,af,ac,J,F,O,Y,E3.ri];refine bG B3.rk ⟨rfl,rfl⟩ (by simp only[go_sem,bV]) (by simp only[Xaa,Xac,List.length_nil];omega) (fun j1 a6=>?_);simp only[go_sem,E,X,ae,ab,aa,Z,ad,af,ac,J,F,O,Y];rw[IN];have B4:=B3.appK a6 q.1;have C4:=C3.appK a6 (some (hJ (s3.known++[q.1])));have E4:=E3.appK a6 (some (hJ (s3.known++[q.1])));generalize aI (aI H6 jk none) j1 _=H7 at B4 C4 E4 |-;clear B3 C3 E3 a6;simp only[go_sem,E,X,ae,ab,aa,Z,ad,af,ac,J,F,O,Y,E4.ri];refine bG B4.rm ⟨rfl,rfl⟩ (by simp only[go_sem,bV]) (by simp only[Xaa,Xac,List.length_nil];omega) (fun j2 a4=>?_);simp only[go_sem,E,X,ae,ab,aa,Z,ad,af,ac,J,F,O,Y];rw[IN];have B5:=B4.appM a4 q.1;have C5:=C4.appM a4 (some (hJ (s3.more++[q.1])));have E5:=E4.appM a4 (some (hJ (s3.more++[q.1])));generalize aI (aI H7 jm none) j2 _=H8 at B5 C5 E5 |-;clear B4 C4 E4 a4;have ck:q.1.clocks.length<=1048576:=Xah q1.clk (Xah (Xay (by decide) (show q.1.visits<=16 by omega)) (by decide));have am:Bi w s3 q.1=if((iR w q.1).2.2&&(!s3.found||decide (xW (oY w q.1 (iR w q.1).1 (iR w q.1).2.1) s3.best<0)))=true then { known:=s3.known++[q.1],more:=s3.more++[q.1],best:=oY w q.1 (iR w q.1).1 (iR w q.1).2.1,found:=true }else { s3 with known:=s3.known++[q.1],more:=s3.more++[q.1] }:=rfl
     rw[a8]at ap I4;simp only[go_sem,E,X,ae,ab,aa,Z,ad,af,ac,J,F,O,Y,E5.ri];refine LC.use (ajY _ jw w B5.rw q.1 hw.ok ck) ?_;have cr:=MP w q.1 (iR w q.1).1 (iR w q.1).2.1;generalize iR w q.1=en at *;simp only[go_sem,E,X,ae,ab,aa,Z,ad,af,ac,J,F,O,Y];refine hU (fun ag H'=>ag 11=.op jw 0 0/\ag 15=.sl (vs.map aK)/\ag 22=.op ai 0 0/\ag 70=.os jf/\ag 71=int (fresh.length:Nat)/\ag 72=int (k0:Nat)/\ag 76=.sl (vs.map aK)/\ag 77=int (vs.length:Nat)/\ag 78=int k/\ag 18=.os j1/\ag 20=.os j2/\ag 16=str (Bi w s3 q.1).best/\ag 17=boo (Bi w s3 q.1).found/\(Bi w s3 q.1).known=s3.known++[q.1]/\(Bi w s3 q.1).more=s3.more++[q.1]/\H'=H8) ?_ fun K hK _ _=>aB (fun hb=>?_) (fun hb=>?_)
     rotate_left
     . simp only[go_sem,E,X,ae,ab,aa,Z,ad,af,ac,J,F,O,Y,E5.ri]
       refine LC.use (aiI _ jw w B5.rw q.1 en.1 en.2.1 q1.ok.value) ?_;generalize oY w q.1 en.1 en.2.1=pr at *;simp only[go_sem,E,X,ae,ab,aa,Z,ad,af,ac,J,F,O,Y];refine⟨_,fun _=>PC.q (pN pr s3.best (by omega) (by have:=I3.best;omega)) rfl,?_⟩;simp only[go_sem,E,X,ae,ab,aa,Z,ad,af,ac,J,F,O,Y];refine aB (fun bi=>?_) (fun bi=>?_)
       . rw[if_pos (by rw[hb,Xba];exact bi)]at am
         rw[am]at hK;simp only[go_sem,E,X,ae,ab,aa,Z,ad,af,ac,J,F,O,Y];exact hK _ _ ⟨by simp only[go_sem,E,X,ae,ab,aa,Z,ad,af,ac,J,F,O,Y],by simp only[go_sem,E,X,ae,ab,aa,Z,ad,af,ac,J,F,O,Y],by simp only[go_sem,E,X,ae,ab,aa,Z,ad,af,ac,J,F,O,Y],by simp only[go_sem,E,X,ae,ab,aa,Z,ad,af,ac,J,F,O,Y],by simp only[go_sem,E,X,ae,ab,aa,Z,ad,af,ac,J,F,O,Y],by simp only[go_sem,E,X,ae,ab,aa,Z,ad,af,ac,J,F,O,Y],by simp only[go_sem,E,X,ae,ab,aa,Z,ad,af,ac,J,F,O,Y],by simp only[go_sem,E,X,ae,ab,aa,Z,ad,af,ac,J,F,O,Y],by simp only[go_sem,E,X,ae,ab,aa,Z,ad,af,ac,J,F,O,Y],by simp only[go_sem],by simp only[go_sem],by simp only[go_sem],by simp only[go_sem],rfl,rfl,rfl⟩
       . rw[if_neg (fun h=>by rw[hb,Xba]at h;exact Bool.noConfusion (bi.symm.trans h))]at am
         rw[am]at hK;simp only[go_sem,E,X,ae,ab,aa,Z,ad,af,ac,J,F,O,Y];exact hK _ _ ⟨by simp only[go_sem,E,X,ae,ab,aa,Z,ad,af,ac,J,F,O,Y],by simp only[go_sem,E,X,ae,ab,aa,Z,ad,af,ac,J,F,O,Y],by simp only[go_sem,E,X,ae,ab,aa,Z,ad,af,ac,J,F,O,Y],by simp only[go_sem,E,X,ae,ab,aa,Z,ad,af,ac,J,F,O,Y],by simp only[go_sem,E,X,ae,ab,aa,Z,ad,af,ac,J,F,O,Y],by simp only[go_sem,E,X,ae,ab,aa,Z,ad,af,ac,J,F,O,Y],by simp only[go_sem,E,X,ae,ab,aa,Z,ad,af,ac,J,F,O,Y],by simp only[go_sem,E,X,ae,ab,aa,Z,ad,af,ac,J,F,O,Y],by simp only[go_sem,E,X,ae,ab,aa,Z,ad,af,ac,J,F,O,Y],by simp only[go_sem],by simp only[go_sem],by simp only[go_sem,E,X,ae,ab,aa,Z,ad,af,ac,J,F,O,Y],by simp only[go_sem,E,X,ae,ab,aa,Z,ad,af,ac,J,F,O,Y],rfl,rfl,rfl⟩
     . rw[if_neg (fun h=>by rw[hb,Xcd]at h;cases h)]at am
       rw[am]at hK;simp only[go_sem];exact hK _ _ ⟨by simp only[go_sem,E,X,ae,ab,aa,Z,ad,af,ac,J,F,O,Y],by simp only[go_sem,E,X,ae,ab,aa,Z,ad,af,ac,J,F,O,Y],by simp only[go_sem,E,X,ae,ab,aa,Z,ad,af,ac,J,F,O,Y],by simp only[go_sem,E,X,ae,ab,aa,Z,ad,af,ac,J,F,O,Y],by simp only[go_sem,E,X,ae,ab,aa,Z,ad,af,ac,J,F,O,Y],by simp only[go_sem,E,X,ae,ab,aa,Z,ad,af,ac,J,F,O,Y],by simp only[go_sem,E,X,ae,ab,aa,Z,ad,af,ac,J,F,O,Y],by simp only[go_sem,E,X,ae,ab,aa,Z,ad,af,ac,J,F,O,Y],by simp only[go_sem,E,X,ae,ab,aa,Z,ad,af,ac,J,F,O,Y],by simp only[go_sem],by simp only[go_sem],by simp only[go_sem,E,X,ae,ab,aa,Z,ad,af,ac,J,F,O,Y],by simp only[go_sem,E,X,ae,ab,aa,Z,ad,af,ac,J,F,O,Y],rfl,rfl,rfl⟩
     rintro ρ H ⟨E,X,ae,ab,aa,Z,ad,af,ac,O,Y,J,F,s1,ci,rfl⟩;simp only[go_sem,E,X,ae,ab,aa,Z,ad,af,ac,J,F,O,Y,aS (show k<=4611686018427387904 by omega)];refine⟨⟨k+1,j1,j2,Bi w s3 q.1,ar,rfl,rfl,rfl,rfl,rfl,ap.symm,I4,?_,C5⟩,by simp only[aG];omega⟩;rw[s1,ci];exact B5
   have b0:=geB hk (by simpa using ao);subst b0;rw[Xaf]at bj;simp only[go_sem,E,X,ae,ab,aa,Z,ad,af,ac,J,F,O,Y,aS (show k0<=4611686018427387904 by omega)];refine⟨⟨k0+1,jk,jm,s3,ah,rfl,rfl,rfl,rfl,rfl,?_,I3.le (by omega),B⟩,by simp only[aG];omega⟩;rw[cm,<-bd];exact bj
 have ao:=geB hk (by simpa using ao);subst ao;rw[Xaf]at bd;have cd:s2=A0 w vs s fresh:=bd;rw[<-cd]at bw;simp only[go_sem,E,X,ab,aa,Z,J,F,O,Y];have co:s2.more.length<=46656:=by
   by_cases bv:s2.more=[]
   . rw[bv];exact Xab _
   . obtain⟨a,ha⟩:=List.exists_mem_of_ne_nil _ bv
     have:=(I.more a ha).2.2;have h2:6^(r+1)<=46656:=Xah (Xay (by decide) (show r+1<=6 by omega)) (by decide);have h3:=I.ml;rw[Xbs]at h2;omega
 refine⟨⟨jk,jm,s2,s2.more,r+1,rfl,rfl,rfl,rfl,B.rw,B.rk,B.rm,B.km,by omega,I.known,fun p hp=>I.more p hp,?_,?_,I.best,bw⟩,?_⟩
 . have h3:=I.ml
   rw[Xbs];omega
 . have h3:=I.kl
   omega
 . rw[NO Rf bn]
   have h0:=be p0 (by rw[<-bn];simp);have ce:=I.more;cases bb:s2.more with
   | nil=>rw[adJ B.rm bb];omega
   | cons a l=>
     have h1:=ce a (by rw[bb];simp);rw[NO B.rm bb.symm];omega
end Go.Proofs.YtdlijlecpopadaaGreatDoor.Rx
end
section
namespace Go.So
variable{α:Type}
structure SWO(lt:α->α->Bool):Prop where
 asym:∀a b,lt a b=true->lt b a=false
 neg:∀a b c,lt a b=false->lt b c=false->lt a c=false
def tlt(lt:α->α->Bool)(p q:α×Nat):Prop:=lt p.1 q.1=true\/(lt q.1 p.1=false/\p.2<q.2)
section
variable{lt:α->α->Bool}(h:SWO lt)
include h
theorem axU{a b c:α}(h1:lt a b=true)(F:lt c b=false):lt a c=true:=by
 cases E:lt a c with
 | true=>rfl
 | false=>have:=h.neg _ _ _ E F;rw[h1]at this;cases this
theorem aoG{a b c:α}(h1:lt a b=true)(F:lt a c=false):lt c b=true:=by
 cases E:lt c b with
 | true=>rfl
 | false=>have:=h.neg _ _ _ F E;rw[h1]at this;cases this
theorem Tt{p q:α×Nat}(h1:tlt lt p q):lt q.1 p.1=false:=h1.elim (fun e=>h.asym _ _ e) (fun e=>e.1)
theorem CT{p q r:α×Nat}(h1:tlt lt p q)(E:tlt lt q r):tlt lt p r:=by
 rcases h1 with h1|⟨h1,I⟩
 . exact .inl (axU h h1 (Tt h E))
 . rcases E with E|⟨E,F⟩
   . exact .inl (aoG h E h1)
   . exact .inr ⟨h.neg _ _ _ E h1,by omega⟩
theorem Yd{p q:α×Nat}(h1:tlt lt p q)(E:tlt lt q p):False:=by
 rcases h1 with h1|⟨h1,I⟩
 . have:=Tt h E;rw[h1]at this;cases this
 . rcases E with E|⟨E,F⟩
   . rw[h1]at E;cases E
   . omega
end
theorem DM{R:α->α->Prop}(O:∀a b,R a b->R b a->False):∀J I:List α,J.Perm I->J.Pairwise R->I.Pairwise R->J=I
 | [],I,hp,_,_=>(List.nil_perm.1 hp).symm
 | a::t,[],hp,_,_=>absurd hp.length_eq (by simp)
 | a::t,b::u,hp,h1,h2=>by
   have F:=List.pairwise_cons.1 h1;have E:=List.pairwise_cons.1 h2;by_cases e:a=b
   . subst e
     rw[DM O t u ((List.perm_cons a).1 hp) F.2 E.2]
   . have X:a∈u:=(List.mem_cons.1 (hp.mem_iff.1 (List.mem_cons_self ..))).resolve_left e
     have Y:b∈t:=(List.mem_cons.1 (hp.mem_iff.2 (List.mem_cons_self ..))).resolve_left (fun x=>e x.symm);exact(O a b (F.1 b Y) (E.1 a X)).elim
def ins(lt:α->α->Bool)(x:α):List α->List α
 | []=>[x]
 | z::r=>if lt x z=true then x::z::r else z::ins lt x r
def nC(lt:α->α->Bool)(l:List α):List α:=l.foldl (fun acc x=>ins lt x acc) []
theorem Bz(lt:α->α->Bool)(x:α):∀l:List α,(ins lt x l).Perm (x::l)
 | []=>.refl _
 | z::r=>by
   unfold ins;split
   . exact .refl _
   . exact((Bz lt x r).cons z).trans (.swap x z r)
theorem TW{E:Type}(lt:α->α->Bool)(f:E->α)(x:E):∀l:List E,(ins (fun a b=>lt (f a) (f b)) x l).map f=ins lt (f x) (l.map f)
 | []=>rfl
 | z::r=>by
   rw[List.map_cons];unfold ins;split
   . rfl
   . rw[List.map_cons,TW lt f x r]
theorem Uv{lt:α->α->Bool}{x y:α}{l:List α}:y∈ins lt x l↔y=x\/y∈l:=by rw[(Bz lt x l).mem_iff,List.mem_cons]
theorem F1{lt:α->α->Bool}(h:SWO lt)(x:α×Nat):∀l:List (α×Nat),l.Pairwise (tlt lt)->(∀y∈l,y.2<x.2)->(ins (fun a b=>lt a.1 b.1) x l).Pairwise (tlt lt)
 | [],_,_=>by simp[ins]
 | z::r,hs,hr=>by
   have F:=List.pairwise_cons.1 hs;unfold ins;split
   . next I=>
     refine List.pairwise_cons.2 ⟨fun y E=>?_,hs⟩;rcases List.mem_cons.1 E with rfl|E
     . exact .inl I
     . exact CT h (.inl I) (F.1 y E)
   . next I=>
     refine List.pairwise_cons.2 ⟨fun y E=>?_,F1 h x r F.2 fun y E=>hr y (List.mem_cons_of_mem _ E)⟩;rcases Uv.1 E with rfl|E
     . exact .inr ⟨by simpa using I,hr z (List.mem_cons_self ..)⟩
     . exact F.1 y E
theorem JC{lt:α->α->Bool}(h:SWO lt):∀(l acc:List (α×Nat)) (k:Nat),acc.Pairwise (tlt lt)->(∀y∈acc,y.2<k)->(∀i (y:α×Nat),l[i]?=some y->y.2=k+i) ->
   ((l.foldl (fun a x=>ins (fun a b=>lt a.1 b.1) x a) acc).Pairwise (tlt lt)/\(l.foldl (fun a x=>ins (fun a b=>lt a.1 b.1) x a) acc).Perm (acc++l)/\(l.foldl (fun a x=>ins (fun a b=>lt a.1 b.1) x a) acc).map Prod.fst=(l.map Prod.fst).foldl (fun a x=>ins lt x a) (acc.map Prod.fst))
 | [],acc,k,hs,_,_=>⟨hs,by simp,rfl⟩
 | x::l,acc,k,hs,hk,hl=>by
   have F:x.2=k:=by have:=hl 0 x rfl;omega
   have ih:=JC h l (ins (fun a b=>lt a.1 b.1) x acc) (k+1) (F1 h x acc hs fun y E=>by have:=hk y E;omega) (fun y E=>by
     rcases Uv.1 E with rfl|E
     . omega
     . have:=hk y E;omega) (fun i y hi=>by have:=hl (i+1) y (by simpa using hi);omega)
   rw[List.foldl_cons];refine⟨ih.1,ih.2.1.trans ?_,?_⟩
   . refine((Bz _ x acc).append_right l).trans ?_
     exact List.perm_middle.symm
   . rw[ih.2.2,TW lt Prod.fst x acc,List.map_cons,List.foldl_cons]
def tag(l:List α):List (α×Nat):=l.zipIdx
theorem Ko(l:List α):(tag l).map Prod.fst=l:=by unfold tag;exact List.zipIdx_map_fst 0 l
theorem KZ{l:List α}{i:Nat}{y:α×Nat}(h:(tag l)[i]?=some y):y.2=i:=by
 unfold tag at h;rw[List.getElem?_zipIdx]at h;cases E:l[i]? with
 | none=>rw[E]at h;cases h
 | some a=>rw[E]at h;simp at h;rw[<-h]
theorem agP(l:List α):(tag l).length=l.length:=by unfold tag;exact List.length_zipIdx
theorem Wd{lt:α->α->Bool}(h:SWO lt){l:List α}{L:List (α×Nat)}(I:L.Perm (tag l))(F:L.Pairwise (tlt lt)):L.map Prod.fst=nC lt l:=by
 have E:=JC h (tag l) [] 0 List.Pairwise.nil (by simp) (fun i y hi=>by have:=KZ hi;omega);rw[DM (fun a b=>Yd h) L _ (I.trans E.2.1.symm) F E.1,E.2.2,Ko];rfl
section
variable{lt:α->α->Bool}(h:SWO lt)
include h
theorem SL{Q B:List (α×Nat)}{x:α×Nat}(hs:(Q++B).Pairwise (tlt lt))(h1:∀y,Q.getLast?=some y->tlt lt y x)(Y:∀y,B.head?=some y->tlt lt x y):(Q++x::B).Pairwise (tlt lt):=by
 obtain⟨Z,X,O⟩:=List.pairwise_append.1 hs;have I:∀b∈B,tlt lt x b:=by
   intro b F;cases B with
   | nil=>cases F
   | cons y r=>
     rcases List.mem_cons.1 F with rfl|F
     . exact Y b rfl
     . exact CT h (Y y rfl) ((List.pairwise_cons.1 X).1 b F)
 have J:∀a∈Q,tlt lt a x:=by
   intro a E;rcases List.eq_nil_or_concat Q with rfl|⟨Q',y,rfl⟩
   . cases E
   . rw[List.concat_eq_append]at *
     have hy:=h1 y (by simp);rcases List.mem_append.1 E with E|E
     . exact CT h ((List.pairwise_append.1 Z).2.2 a E y (by simp)) hy
     . rw[List.mem_singleton.1 E];exact hy
 refine List.pairwise_append.2 ⟨Z,List.pairwise_cons.2 ⟨I,X⟩,fun a E b F=>?_⟩;rcases List.mem_cons.1 F with rfl|F
 . exact J a E
 . exact O a E b F
end
def swp(l:List α)(i j:Nat):List α:=match l[i]?,l[j]? with
 | some x,some y=>(l.set i y).set j x
 | _,_=>l
theorem amB{U V W:List α}{x y:α}{i j:Nat}(hi:i=U.length)(E:j=U.length+1+V.length):swp (U++x::(V++y::W)) i j=U++y::(V++x::W):=by
 subst hi E;unfold swp;have F:(U++x::(V++y::W))[U.length]?=some x:=by simp
 have I:(U++x::(V++y::W))[U.length+1+V.length]?=some y:=by
   rw[List.getElem?_append_right (by omega),show U.length+1+V.length-U.length=V.length+1 by omega,List.getElem?_cons_succ,List.getElem?_append_right (by omega)];simp
 rw[F,I];simp only;rw[List.set_append_right _ _ (by omega),show U.length-U.length=0 by omega,List.set_cons_zero,List.set_append_right _ _ (by omega),show U.length+1+V.length-U.length=V.length+1 by omega,List.set_cons_succ,List.set_append_right _ _ (by omega),Nat.sub_self,List.set_cons_zero]
theorem abB{U W:List α}{x y:α}{i j:Nat}(hi:i=U.length)(E:j=U.length+1):swp (U++x::y::W) i j=U++y::x::W:=amB (V:=[]) hi (by simpa using E)
theorem abP(l:List α)(i j:Nat)(h:i≠j):swp l i j=swp l j i:=by
 unfold swp;cases l[i]? with
 | none=>cases l[j]? <;> rfl
 | some x=>cases l[j]? with
   | none=>rfl
   | some y=>exact List.set_comm _ _ h
def aqW(A B:List (α×Nat)):Prop:=∀x∈A,∀y∈B,x.2<y.2
structure Good(lt:α->α->Bool)(R:List (List (α×Nat))):Prop where
 srt:∀A∈R,A.Pairwise (tlt lt)
 rk:R.Pairwise aqW
end Go.So
end
section
namespace Go.Proofs.YtdlijlecpopadaaGreatDoor.Rx
open Go.Proofs.Tryz(prog)
open Go.Aw Go.Aw.D Go.Proofs Ty Go.Nu Go.So
open Nu (ltB geB)
abbrev nA(l:List Int):Row:=⟨3,1,l.map aR⟩
theorem Gu(x:Int):(aR x).length=1:=(rfl)
theorem DW(x:Int):(aR x).drop 1=[]:=(rfl)
theorem Tz{α:Type}{l:List α}{k:Nat}{x:α}(h:l[k]?=some x):l.drop k=x::l.drop (k+1):=by
 obtain⟨E,rfl⟩:=List.getElem?_eq_some_iff.1 h;rw[List.getElem_cons_drop]
theorem apB{α:Type}(l:List α):(tag l).Pairwise fun p q=>p.2<q.2:=by
 rw[List.pairwise_iff_getElem];intro i k hi F E;rw[KZ (List.getElem?_eq_getElem hi),KZ (List.getElem?_eq_getElem F)];exact E
theorem Ft(H:aJ)(j:Nat)(a b:Option Row):aI (aI H j a) j b=aI H j b:=by
 funext k;unfold aI;split <;> rfl
theorem nZ{H:aJ}{j:Nat}{r:Row}(h:H j=some r):aI H j (some r)=H:=by
 funext k;unfold aI;split
 . next e=>rw[e,h]
 . rfl
theorem acU{L:List Int}{a b j:Nat}{x y:Int}{H0 H:aJ}(I:L[a]?=some x)(F:L[b]?=some y)(E:a≠b)(J:H=aI H0 j (some (nA L))):
   aI (aI H j (some (⟨3,1,(L.map aR).set a (aR y)⟩:Row))) j (some (⟨3,1,((L.map aR).set a (aR y)).set b (aR x++List.drop 1 (((L.map aR).set a (aR y)).getD b []))⟩:Row))=aI H0 j (some (nA (swp L a b))):=by
 have O:((L.map aR).set a (aR y)).getD b []=aR y:=by
   rw[List.getD,List.getElem?_set_ne E,List.getElem?_map,F];rfl
 rw[J,Ft,Ft,O,DW,Xal];unfold swp nA;simp only[I,F,List.map_set]
abbrev TB:=Int×Nat
def fs(L:List TB):List Int:=L.map Prod.fst
theorem XO(a:List TB):(fs a).length=a.length:=Xaa _
theorem KH{L:List TB}{k:Nat}{x:TB}(h:L[k]?=some x):(fs L)[k]?=some x.1:=by unfold fs;rw[List.getElem?_map,h];rfl
structure CmpOk(gf:Nat)(cap':List AV)(lt:Int->Int->Bool)(ok:Int->Prop):Prop where
 call:aE Tryz.prog gf=true
 cmp:∀x y,ok x->ok y->∃n:Int,decide (n<0)=lt x y/\PC Tryz.prog gf (int x::int y::cap') (int n)
theorem N5{l:List Nat}{H F E:aJ}(h1:∀k,k∈l->E k=H k)(J:∀k,k∉l->E k=F k)(I:∀k,k∉l->F k=H k):E=H:=funext fun k=>by
 by_cases h:k∈l
 . exact h1 k h
 . rw[J k h,I k h]
theorem On{gf:Nat}{cx:AV}{jc:Nat}{rc:Row}{cap':List AV}{lt:Int->Int->Bool}{ok:Int->Prop}(hs:SWO lt)(hc:CmpOk gf cap' lt ok)(ax:∀H:aJ,H jc=some rc->ConvL H [cx,.op jc 0 0] cap')(P X S:List TB)(a b j:Nat)(H0:aJ)(K:AV->aJ->Prop)(ha:a=P.length)(hb:b=a+X.length)
   (ao:X.Pairwise fun p q=>p.2<q.2) (ak:∀x∈X,ok x.1) (hl:(P++X++S).length<=1048576) (hj:H0 j=some (nA (fs (P++X++S)))) (ar:H0 jc=some rc) (av:jc≠j)
   (hK:∀M:List TB,M.Perm X->M.Pairwise (tlt lt)->∀r,K r (aI H0 j (some (nA (fs (P++M++S)))))):bA prog 139 [.os j,int a,int b,(.fn gf [cx,.op jc 0 0])] H0 K:=by
 have ba:P.length+X.length+S.length<=1048576:=by simpa[Nat.add_assoc]using hl
 have ad:=hc.call;refine bA.body (c:=Tryz.f139.body.getD .skip) (fun _=>false) mixed Tryz.func139 rfl (by kernel_rfl) ?_;unfold Tryz.f139;simp only[gdS];simp only[go_sem];simp only[go_sem,aS (show a<=4611686018427387904 by omega)];refine⟨fun ρ H=>∃(k:Nat) (M:List TB),1<=k/\k<=max 1 X.length/\ρ 0=.os j/\ρ 1=int a/\ρ 2=int b/\ρ 3=(.fn gf [cx,.op jc 0 0])/\ρ 8=int (a+k:Nat)/\M.Perm (X.take k)/\M.Pairwise (tlt lt)/\H=aI H0 j (some (nA (fs (P++M++X.drop k++S)))),fun ρ _=>b+1-aX (ρ 8),
   ⟨1,X.take 1,Xag _,Nat.le_max_left _ _,by simp only[go_sem],by simp only[go_sem],by simp only[go_sem],by simp only[go_sem],by simp only[go_sem],.refl _,by cases X <;> simp,by
     have:P++X.take 1++X.drop 1++S=P++X++S:=by rw[Xav P,Xcz]
     rw[this];exact(nZ hj).symm⟩,?_⟩
 rintro ρ H ⟨k,M,bd,bb,Y,J,O,Z,I,hp,hM,hH⟩;simp only[go_sem,Y,J,O,Z,I];refine aB (fun a6=>?_) (fun a8=>?_)
 . have ae:k<X.length:=by have:=ltB a6;omega
   obtain⟨y,hy⟩:=aQ ae;have az:y∈X:=Xad hy;have al:M.length=k:=by rw[hp.length_eq,Xax];omega
   have af:∀z∈M,ok z.1/\z.2<y.2:=fun z hz=>by
     have hz:=hp.mem_iff.1 hz;refine⟨ak z (List.mem_of_mem_take hz),?_⟩;have hX:X=X.take k++y::X.drop (k+1):=by rw[<-Tz hy,Xcz]
     rw[hX]at ao;exact(List.pairwise_append.1 ao).2.2 z hz y (List.mem_cons_self ..)
   simp only[go_sem,Y,J,O,Z,I];refine⟨fun ρ H=>∃M1 F:List TB,M=M1++F/\(∀z∈F,lt y.1 z.1=true)/\ρ 0=.os j/\ρ 1=int a/\ρ 2=int b/\ρ 3=(.fn gf [cx,.op jc 0 0])/\ρ 8=int (a+k:Nat)/\ρ 9=int (a+M1.length:Nat)/\H=aI H0 j (some (nA (fs (P++M1++y::F++X.drop (k+1)++S)))),fun ρ _=>aX (ρ 9),
     ⟨M,[],by simp,by simp,by simp only[go_sem,Y],by simp only[go_sem,J],by simp only[go_sem,O],by simp only[go_sem,Z],by simp only[go_sem,I],by simp only[go_sem,I,al],by rw[hH,Tz hy];simp only[Xav,List.cons_append,Xbd]⟩,?_⟩
   clear Y J O Z I hH;rintro ρ H ⟨M1,F,rfl,am,Y,J,O,Z,I,e9,hH⟩;have aw:M1.length+F.length=k:=by rw[<-al,Xae]
   have R:H j=some (nA (fs (P++M1++y::F++X.drop (k+1)++S))):=by rw[hH];exact aA _ _ _
   have Rc:H jc=some rc:=by rw[hH,aD _ _ _ _ av];exact ar
   have aa:(M1=[]\/∃E z,M1=E++[z]/\lt y.1 z.1=false)->(M1++y::F).Perm (X.take (k+1))/\(M1++y::F).Pairwise (tlt lt):=by
     intro aq;refine⟨?_,SL hs hM (fun z hz=>?_) (fun z hz=>.inl (am z (List.mem_of_mem_head? hz)))⟩
     . rw[bX hy]
       refine List.perm_middle.trans ?_;exact((hp.cons y)).trans (List.perm_append_singleton y _).symm
     . rcases aq with rfl|⟨E,z',rfl,a9⟩
       . cases hz
       . rw[List.getLast?_append,List.getLast?_singleton]at hz
         have:z'=z:=by simpa using hz
         subst this;exact .inr ⟨a9,(af z' (by simp)).2⟩
   rcases List.eq_nil_or_concat M1 with rfl|⟨E,z,rfl⟩
   . simp only[go_sem,Y,J,O,Z,I,e9]
     refine dP [j,jc] [(0,true),(1,true),(2,true),(3,true),(4,true),(5,true),(6,true),(7,true),(8,true),(9,true),(10,true),(11,true),(12,true),(13,true),(14,true),(15,true),(16,true)] (by simp[R,Rc]) (by kernel_rfl) fun Hp Hr ac ah a0 a5=>?_
     have Rp:=(ac j (by simp)).trans R;have aj:=(ac jc (by simp)).trans Rc;have ay:decide ((a:Int)>(a:Int))=false:=by simp
     simp only[List.length_nil,Nat.add_zero]at e9;simp only[go_sem,Y,J,O,Z,I,e9,Rp,ay,ad];refine⟨int 0,?_⟩;simp only[go_sem,Y,J,O,Z,I,e9];refine jX fun _ Hm ag ai=>?_
     obtain rfl:=N5 ag ai ah;refine aB (fun hb=>by cases hb) (fun _=>?_);simp only[go_sem,Y,J,O,Z,I,aS (show a+k<=4611686018427387904 by omega)];obtain⟨f1,f2⟩:=aa (.inl rfl);refine⟨⟨k+1,_,by omega,by omega,?_,f1,f2,by rw[hH];simp only[Xav,List.cons_append,Xbd]⟩,by simp only[aG];omega⟩;rw[Nat.add_assoc]
   . rw[List.concat_eq_append]at *
     have an:(P++(E++[z])++y::F++X.drop (k+1)++S)[a+E.length]?=some z:=by
       rw[ha];simp only[Xav];rw[List.getElem?_append_right (by omega),List.getElem?_append_right (by omega)];simp
     have ap:(P++(E++[z])++y::F++X.drop (k+1)++S)[a+E.length+1]?=some y:=by
       rw[ha];simp only[Xav];rw[List.getElem?_append_right (by omega),List.getElem?_append_right (by omega),List.getElem?_append_right (by simp;omega)];simp[Nat.add_sub_cancel_left,show P.length+E.length+1-P.length-E.length-1=0 by omega]
     simp only[Xae,List.length_singleton]at aw;have bc:(fs (P++(E++[z])++y::F++X.drop (k+1)++S)).length=P.length+X.length+S.length:=by simp[fs];omega
     have b1:(0:Int)<=((a+E.length+1:Nat):Int)/\((a+E.length+1:Nat):Int)<((fs (P++(E++[z])++y::F++X.drop (k+1)++S)).length:Int):=by omega
     have b2:(0:Int)<=((a+E.length:Nat):Int)/\((a+E.length:Nat):Int)<((fs (P++(E++[z])++y::F++X.drop (k+1)++S)).length:Int):=by omega
     have g1:=aH (f:=aR) (KH ap);have g2:=aH (f:=aR) (KH an);obtain⟨n,hn,a4⟩:=hc.cmp y.1 z.1 (ak y az) (af z (by simp)).1;have ab:ρ 9=int ((a+E.length+1:Nat):Int):=by rw[e9];simp[Nat.add_assoc]
     have a7:decide (((a+E.length+1:Nat):Int)>(a:Int))=true:=by simp;omega
     have w1:IntKind.i64.wrap (((a+E.length+1:Nat):Int)-1)=((a+E.length:Nat):Int):=by rw[aW (by omega)];omega
     simp only[go_sem,Y,J,O,Z,I,ab];refine dP [j,jc] [(0,true),(1,true),(2,true),(3,true),(4,true),(5,true),(6,true),(7,true),(8,true),(9,true),(10,true),(11,true),(12,true),(13,true),(14,true),(15,true),(16,true)] (by simp[R,Rc]) (by kernel_rfl) fun Hp Hr ac ah a0 a5=>?_
     have Rp:=(ac j (by simp)).trans R;have aj:=(ac jc (by simp)).trans Rc;simp only[go_sem,Y,J,O,Z,I,ab,Rp,a7,ad,w1,g1,g2,b1,b2];refine⟨by omega,by omega,_,.inl ⟨_,.cons _ _ _ _ (.refl _) (.cons _ _ _ _ (.refl _) (ax Hp aj)),a4,rfl⟩,?_⟩;simp only[go_sem,Y,J,O,Z,I,ab,hn];refine jX fun _ Hm ag ai=>?_
     obtain rfl:=N5 ag ai ah;refine aB (fun hb=>?_) (fun hb=>?_)
     . simp only[go_sem,Y,J,O,Z,I,ab]
       refine Cn [] (.q 0 (.q 1 (.q 2 (.q 3 (.q 4 (.q 5 (.q 6 (.q 7 (.q 10 (.q 11 (.a2 8 (.a2 9 (.a1 12 (.a1 13 (.a1 14 (.a1 15 (.a1 16 (.a1 17 (.nil))))))) 12 (.a2 9 (.a1 13 (.a1 14 (.a1 15 (.a1 16 (.a1 17 (.nil)))))) 13 (.a1 9 (.a1 14 (.a1 15 (.a1 16 (.a1 17 (.nil)))))))) 12 (.a2 8 (.a2 9 (.a1 13 (.a1 14 (.a1 15 (.a1 16 (.a1 17 (.nil)))))) 13 (.a1 9 (.a1 14 (.a1 15 (.a1 16 (.a1 17 (.nil))))))) 13 (.a1 8 (.a1 9 (.a1 14 (.a1 15 (.a1 16 (.a1 17 (.nil))))))))))))))))))) (by simp) (by kernel_rfl) fun Hp Hr _ hr _ _=>?_
       obtain rfl:Hr=Hm:=funext fun i=>hr i (by simp)
       have hx:(fs (P++(E++[z])++y::F++X.drop (k+1)++S))[a+E.length+1]?=some y.1:=KH ap;have au:(fs (P++(E++[z])++y::F++X.drop (k+1)++S))[a+E.length]?=some z.1:=KH an;simp only[go_sem,Y,J,O,Z,I,ab,w1,R,b1,b2]
       repeat' (first|(refine qO ?_ ?_)|(refine⟨by omega,?_⟩)|(refine cE so3 R ⟨by rw[Xaa];omega,rfl,Xag 1⟩ ?_)|(refine cE so3 (aA _ _ _) ⟨by rw[List.length_set,Xaa];omega,rfl,Xag 1⟩ ?_)|(refine jX fun _ Hm _ hm=>?_;obtain rfl:Hm=_:=funext fun i=>hm i (by simp))|(simp only[go_sem,Y,J,O,Z,I,ab,w1,R,b1,b2,g1,g2,List.length_set,Xaa,DW,Xal]))
       all_goals refine⟨⟨E,z::F,by simp,?_,rfl,(acU hx au (by omega) hH).trans ?_⟩,by simp only[aG];omega⟩
       all_goals first
         | (intro u hu
            rcases Xbi.1 hu with rfl|hu
            . exact hb
            . exact am u hu)
         | (congr 2
            rw[abP _ _ _ (by omega)];have:=abB (U:=fs (P++E)) (W:=fs (F++X.drop (k+1)++S)) (x:=z.1) (y:=y.1) (i:=a+E.length) (j:=a+E.length+1) (by rw[XO,Xae];omega) (by rw[XO,Xae];omega);simp only[fs,Xat,Xbk,List.map_nil,Xav,List.cons_append,Xbd]at this |-;exact congrArg nA this)
     . simp only[go_sem,Y,J,O,Z,I,aS (show a+k<=4611686018427387904 by omega)]
       obtain⟨f1,f2⟩:=aa (.inr ⟨E,z,rfl,hb⟩);refine⟨⟨k+1,_,by omega,by omega,?_,f1,f2,by rw[hH];simp only[Xav,List.cons_append,Xbd]⟩,by simp only[aG];omega⟩;rw[Nat.add_assoc]
 . have ae : X.length <= k := by
     have:¬a+k<b:=fun h=>by simp at a8;omega
     omega
   rw[Xaw ae]at hp;rw[Xdc ae,Xal]at hH;simp only[go_sem];rw[hH];exact hK M hp hM _
section
variable{gf:Nat}{cx:AV}{jc:Nat}{rc:Row}{cap':List AV}{lt:Int->Int->Bool}{ok:Int->Prop}
theorem Yh(hs:SWO lt)(hc:CmpOk gf cap' lt ok)(ab:∀H:aJ,H jc=some rc->ConvL H [cx,.op jc 0 0] cap')(l:List Int)(j:Nat)(H0:aJ)(K:AV->aJ->Prop)(hl:l.length<=19)(ac:∀x∈l,ok x)(hj:H0 j=some (nA l))(X:H0 jc=some rc)(aa:jc≠j)
   (hK:∀r,K r (aI H0 j (some (nA (nC lt l))))):bA prog 75 [.os j,int (l.length:Nat),.fn gf [cx,.op jc 0 0]] H0 K:=by
 refine bA.body (c:=Tryz.f75.body.getD .skip) (fun _=>false) mixed Tryz.func75 rfl (by kernel_rfl) ?_;unfold Tryz.f75;simp only[gdS];simp only[go_sem];refine⟨fun ρ H=>ρ 0=.os j/\ρ 1=int (l.length:Nat)/\ρ 2=.fn gf [cx,.op jc 0 0]/\ρ 6=int 20/\ρ 7=int 0/\ρ 8=int 20/\H=H0,fun _ _=>0,⟨by simp only[go_sem],by simp only[go_sem],by simp only[go_sem],by simp only[go_sem],by simp only[go_sem],by simp only[go_sem],rfl⟩,?_⟩;rintro ρ H ⟨e0,F,Z,I,e7,e8,rfl⟩;simp only[go_sem,e0,F,Z,I,e7,e8];refine aB (fun E=>?_) (fun E=>?_)
 . have E:=of_decide_eq_true E
   omega
 simp only[go_sem,e0,F,Z,I,e7,e8];have J:(tag l).length=l.length:=agP l;refine On hs hc ab [] (tag l) [] 0 l.length j H _ rfl (by rw[J,Nat.zero_add]) ?_ ?_ (by simp[J];omega) ?_ X aa fun M hM O r=>?_
 . exact apB l
 . intro x hx
   exact ac _ (by rw[<-Ko l];exact List.mem_map.2 ⟨x,hx,rfl⟩)
 . simp only[Xbd,Xal]
   show H j=some (nA ((tag l).map Prod.fst));rw[Ko];exact hj
 simp only[Xbd,Xal];have Y:fs M=nC lt l:=Wd hs hM O;rw[Y];simp only[go_sem,e0,F,Z,I,e7,e8];refine⟨fun ρ H'=>ρ 1=int (l.length:Nat)/\ρ 6=int 20/\H'=aI H j (some (nA (nC lt l))),fun _ _=>0,⟨by simp only[go_sem,F],by simp only[go_sem,I],rfl⟩,?_⟩;rintro ρ H' ⟨F,I,rfl⟩;simp only[go_sem,F,I];refine aB (fun E=>?_) (fun E=>?_)
 . have E:=of_decide_eq_true E
   omega
 simp only[go_sem];exact hK _
theorem Lk(X:SWO lt)(hc:CmpOk gf cap' lt ok)(F:∀H:aJ,H jc=some rc->ConvL H [cx,.op jc 0 0] cap')(l:List Int)(j:Nat)(H0:aJ)(K:AV->aJ->Prop)(Y:l.length<=19)(J:∀x∈l,ok x)(O:H0 j=some (nA l))(I:H0 jc=some rc)(E:jc≠j)
   (Z:∀r,K r (aI H0 j (some (nA (nC lt l))))):bA prog 36 [.os j,.fn gf [cx,.op jc 0 0]] H0 K:=by
 refine bA.body (c:=Tryz.f36.body.getD .skip) (fun _=>false) mixed Tryz.func36 rfl (by kernel_rfl) ?_;unfold Tryz.f36;simp only[gdS];simp only[go_sem];simp only[go_sem,O,Xaa];refine Yh X hc F l j H0 _ Y J O I E fun r=>?_
 simp only[go_sem];exact Z _
end
end Go.Proofs.YtdlijlecpopadaaGreatDoor.Rx
end
section
namespace Go.Proofs.YtdlijlecpopadaaGreatDoor.Rx
open Go.Proofs.Tryz(prog)
open Go.Aw Go.Aw.D Go.Proofs Ty Go.Nu Go.So
open Sq (W eM dD gL NetOk nE lE jQ mE)
open Nu (ltB geB Bd)
open Mv (bZ cQ NC.pc aT)
theorem anA(l:List Int)(n:Int)(hl:l.length<=1048576):PC prog 141 [.sl (l.map aR),int n] (int (nE (fun a=>n == a) l 0)):=by
 refine pcd Tryz.func141 ?_;unfold Tryz.f141;simp only[gdS];simp only[go_sem];refine⟨fun ρ H=>∃(k:Nat),k<=l.length/\ρ 0=.sl (l.map aR)/\ρ 1=int n/\ρ 7=int (l.length:Nat)/\ρ 8=int k/\(∀u∈l.take k,(n == u)=false),fun ρ _=>l.length-aX (ρ 8),⟨0,Xab _,by simp only[go_sem],by simp only[go_sem],by simp only[go_sem,Xaa],(by simp only[go_sem];rfl),by simp⟩,?_⟩;rintro ρ H ⟨k,hk,J,I,Y,O,X⟩;simp only[go_sem,J,I,Y,O];refine aB (fun E=>?_) (fun F=>?_)
 . have E:=ltB (by simpa using E)
   obtain⟨c,Z⟩:=aQ E;have b1:=inB E;simp only[go_sem,J,I,Y,O,aH Z,b1];refine aB (fun hb=>?_) (fun hb=>?_)
   . simp only[go_sem,J,I,Y,O]
     exact bZ (by rw[lE (p:=fun a=>n == a) X Z hb];omega)
   . simp only[go_sem,J,I,Y,O,aS (show k<=4611686018427387904 by omega)]
     exact⟨⟨k+1,E,rfl,aT (p:=fun u=>(n == u)=false) Z hb X⟩,by simp only[aG];omega⟩
 have F:=geB hk (by simpa using F);subst F;rw[Xaf]at X;simp only[go_sem];exact bZ (by rw[jQ (p:=fun a=>n == a) X])
def Du(l:List Int)(n:Int):Bool:=l.any fun a=>n == a
theorem qF(l:List Int)(n:Int)(E:l.length<=1048576):PC prog 78 [.sl (l.map aR),int n] (boo (Du l n)):=by
 refine pcd Tryz.func78 ?_;unfold Tryz.f78;simp only[gdS];simp only[go_sem];refine PC.use (anA l n E) ?_;simp only[go_sem];exact cQ (mE l 0 (Xaj _))
def lP(x:Instance)(a:Int):List Int:=(eM x.orders a).map fun v=>(dD x v).1.place
theorem CE(x:Instance)(a:Int):PC prog 77 [.agg (aL x),int a] (.sl ((lP x a).map aR)):=by
 have hv:=Sq.mA x.orders a;unfold lP;refine pcb (fun t=>t == 5) Tryz.func77 ?_;unfold Tryz.f77;simp only[gdS];simp only[go_sem];refine aN fun j ae=>?_
 generalize ad:aI _ j _=HGj;have R:HGj j=some (nA []):=by rw[<-ad,aA];try rfl
 clear ad ae;simp only[go_sem,R];refine PC.use (Sq.nU x.orders a) ?_;generalize eM x.orders a=V at *;simp only[go_sem,Xaa];refine⟨fun ρ H=>∃(k:Nat) (j:Nat),k<=V.length/\ρ 2=.rp (aL x) 0/\ρ 13=.sl (V.map aK)/\ρ 14=int (V.length:Nat)/\ρ 15=int k/\ρ 5=.os j/\H j=some (nA ((V.take k).map fun v=>(dD x v).1.place)),fun ρ _=>V.length-aX (ρ 15),⟨0,j,Xab _,by simp only[go_sem],by simp only[go_sem],by simp only[go_sem,Xaa],(by simp only[go_sem];rfl),by simp only[go_sem],R⟩,?_⟩;rintro ρ H ⟨k,j,hk,e2,E,F,I,e5,R⟩;simp only[go_sem,e2,E,F,I,e5];refine aB (fun X=>?_) (fun ac=>?_)
 . have X:=ltB (by simpa using X)
   obtain⟨v,hc⟩:=aQ X;have b1:=inB X;simp only[go_sem,e2,E,F,I,e5,aH hc,b1];refine aN fun i7 aa=>?_
   have J:j≠i7:=aO R aa;simp only[go_sem,e2,E,F,I,e5,R];refine aM (aA _ _ _) (by simp[cL]) ?_;generalize Y:aI (aI _ i7 _) i7 _=HGi7;replace R:=(congrFun Y.symm j).trans ((aD _ _ _ _ J).trans ((aD _ _ _ _ J).trans R));have R7:HGi7 i7=some (wR v):=by rw[<-Y,aA];try rfl
   clear Y aa;simp only[go_sem,e2,E,F,I,e5,R7,R];refine PC.use (Sq.EB x v) ?_;simp only[go_sem,e2,E,F,I,e5];refine aN fun i8 ab=>?_
   have O:j≠i8:=aO R ab;simp only[go_sem,e2,E,F,I,e5,R];refine aM (aA _ _ _) (by simp[kA]) ?_;generalize Z:aI (aI _ i8 _) i8 _=HGi8;replace R:=(congrFun Z.symm j).trans ((aD _ _ _ _ O).trans ((aD _ _ _ _ O).trans R));have R8:HGi8 i8=some (tX (dD x v).1):=by rw[<-Z,aA];try rfl
   clear Z ab;simp only[go_sem,e2,E,F,I,e5,R8,R];refine bG R ⟨rfl,rfl⟩ (by simp only[go_sem]) (by simp only[Xaa,Xax,Xac,List.length_nil];omega) (fun j2 af=>?_);simp only[go_sem,e2,E,F,I,e5,aS (show k<=4611686018427387904 by omega)];refine⟨⟨k+1,j2,X,rfl,rfl,?_⟩,by simp only[aG];omega⟩;rw[aA,bX hc];refine congrArg (fun L=>some (⟨3,1,L⟩:Row)) ?_;simp;rfl
 have ac:=geB hk (by simpa using ac);subst ac;rw[Xaf]at R;simp only[go_sem,e2,E,F,I,e5];exact .row _ _ _ R (ConvE.refl _)
def Jw(p q:List Int)(out:Int)(c:Arc):Int:=if((Du p c.src&&Du q c.dst)||(Du q c.src&&Du p c.dst))=true then wF out c.miles else out
def F2(x:Instance)(a b:Int):Int:=
 if((lP x a).any fun i=>Du (lP x b) i)=true then 0 else x.net.arcs.foldl (Jw (lP x a) (lP x b)) 10001
theorem DH(x:Instance)(a:Int):(lP x a).length<=2:=by
 unfold lP;rw[Xaa];exact Sq.mA _ _
theorem GH(x:Instance)(a b:Int)(hx:x.net.arcs.length<=1048576):PC prog 39 [.agg (aL x),int a,int b] (int (F2 x a b)):=by
 have eD:F2 x a b=if((lP x a).any fun i=>Du (lP x b) i)=true then 0 else x.net.arcs.foldl (Jw (lP x a) (lP x b)) 10001:=rfl
 have aj:=DH x a;have ai:=DH x b;generalize F2 x a b=D at eD;refine pcd Tryz.func39 ?_;unfold Tryz.f39;simp only[gdS];simp only[go_sem];refine lO [(0,true),(1,true),(3,true),(4,true),(2,false),(5,false),(6,true),(7,true)] (by kernel_rfl) ?_;simp only[go_sem];refine PC.use (CE x a) ?_;simp only[go_sem];refine PC.use (CE x b) ?_;generalize lP x a=P at *;generalize lP x b=Q at *;simp only[go_sem,Xaa];refine⟨fun ρ H=>∃(k:Nat),k<=P.length/\ρ 3=.rp (aL x) 0/\ρ 7=.sl (P.map aR)/\ρ 8=.sl (Q.map aR)/\ρ 22=.sl (P.map aR)/\ρ 23=int (P.length:Nat)/\ρ 24=int k/\(∀u∈P.take k,Du Q u=false),fun ρ _=>P.length-aX (ρ 24),⟨0,Xab _,by simp only[go_sem],by simp only[go_sem],by simp only[go_sem],by simp only[go_sem],by simp only[go_sem,Xaa],(by simp only[go_sem];rfl),by simp⟩,?_⟩;rintro ρ H ⟨k,hk,e3,Y,X,ab,ad,ae,hz⟩;simp only[go_sem,e3,Y,X,ab,ad,ae];refine aB (fun E=>?_) (fun Z=>?_)
 . have E:=ltB (by simpa using E)
   obtain⟨c,hc⟩:=aQ E;have b1:=inB E;simp only[go_sem,e3,Y,X,ab,ad,ae,aH hc,b1];refine PC.use (qF Q c (by omega)) ?_;simp only[go_sem,e3,Y,X,ab,ad,ae];refine aB (fun hb=>?_) (fun hb=>?_)
   . rw[if_pos (Xau.2 ⟨c,Xad hc,hb⟩)]at eD
     subst eD;simp only[go_sem];exact .refl _
   . simp only[go_sem,e3,Y,X,ab,ad,ae,aS (show k<=4611686018427387904 by omega)]
     exact⟨⟨k+1,E,rfl,aT (p:=fun u=>Du Q u=false) hc hb hz⟩,by simp only[aG];omega⟩
 have Z:=geB hk (by simpa using Z);subst Z;rw[Xaf]at hz;rw[if_neg (by rw[Xch,Xby];intro u hu;rw[hz u hu];simp)]at eD;simp only[go_sem,e3,Y,X,ab,ad,ae,Xaa];refine⟨fun ρ H=>∃(k:Nat),k<=x.net.arcs.length/\ρ 7=.sl (P.map aR)/\ρ 8=.sl (Q.map aR)/\ρ 34=.sl (x.net.arcs.map gF)/\ρ 35=int (x.net.arcs.length:Nat)/\ρ 36=int k/\ρ 11=int ((x.net.arcs.take k).foldl (Jw P Q) 10001),fun ρ _=>x.net.arcs.length-aX (ρ 36),⟨0,Xab _,by simp only[go_sem,e3,Y,X],by simp only[go_sem,e3,Y,X],by simp only[go_sem,e3,Y,X],by simp only[go_sem,Xaa,e3,Y,X],(by simp only[go_sem,e3,Y,X];rfl),by simp only[go_sem];rfl⟩,?_⟩;rintro ρ H ⟨k,hk,Y,X,I,O,J,F⟩;simp only[go_sem,Y,X,I,O,J,F];refine aB (fun E=>?_) (fun Z=>?_)
 . have E:=ltB (by simpa using E)
   obtain⟨c,hc⟩:=aQ E;have b1:=inB E;have hs:=Sq.eY (f:=Jw P Q) (b:=(10001:Int)) hc;generalize (x.net.arcs.take k).foldl (Jw P Q) 10001=m at *;have af:Jw P Q m c=if((Du P c.src&&Du Q c.dst)||(Du Q c.src&&Du P c.dst))=true then wF m c.miles else m:=rfl
   simp only[go_sem,Y,X,I,O,J,F,aH hc,b1];refine aN fun ah ag=>?_
   simp only[go_sem,Y,X,I,O,J,F];refine aM (aA _ _ _) (by simp[jH]) ?_;generalize ac:aI (aI _ ah _) ah _=HGi13;have aa:HGi13 ah=some ((⟨139,6,[gF c]⟩:Row)):=by rw[<-ac,aA];try rfl
   clear ac ag;simp only[go_sem,Y,X,I,O,J,F,aa];refine PC.use (qF P c.src (by omega)) ?_;simp only[go_sem,Y,X,I,O,J,F,aa];refine⟨_,fun _=>PC.q (qF Q c.dst (by omega)) rfl,?_⟩;simp only[go_sem,Y,X,I,O,J,F,aa];refine PC.use (qF Q c.src (by omega)) ?_;simp only[go_sem,Y,X,I,O,J,F,aa];refine⟨_,fun _=>PC.q (qF P c.dst (by omega)) rfl,?_⟩;simp only[go_sem,Y,X,I,O,J,F,aa];refine aB (fun hb=>?_) (fun hb=>?_)
   . rw[if_pos hb]at af
     simp only[go_sem,Y,X,I,O,J,F,aa,aS (show k<=4611686018427387904 by omega)];exact⟨⟨k+1,E,rfl,by rw[hs,af]⟩,by simp only[aG];omega⟩
   . rw[if_neg (fun h=>Bool.noConfusion (hb.symm.trans h))]at af
     simp only[go_sem,Y,X,I,O,J,F,aS (show k<=4611686018427387904 by omega)];exact⟨⟨k+1,E,rfl,by rw[hs,af]⟩,by simp only[aG];omega⟩
 have Z:=geB hk (by simpa using Z);subst Z;rw[Xaf]at F;simp only[go_sem,Y,X,I,O,J,F];subst eD;exact .refl _
theorem afX(x:Instance)(i a b:Int)(E:x.net.arcs.length<=1048576):PC prog 37 [int a,int b,.rp (aL x) 0,.rp [int i] 0] (int (iQ (F2 x i a) (F2 x i b))):=by
 refine pcd Tryz.func37 ?_;unfold Tryz.f37;simp only[gdS];simp only[go_sem];refine lO [(0,true),(1,true),(2,true),(4,true),(5,true),(6,true),(3,false),(7,false),(8,false),(9,true)] (by kernel_rfl) ?_;simp only[go_sem];refine PC.use (GH x i a E) ?_;simp only[go_sem];refine PC.use (GH x i b E) ?_;simp only[go_sem];refine PC.use (Bd _ _) ?_;simp only[go_sem];exact .refl _
def dlt(x:Instance)(i:Int)(a b:Int):Bool:=decide (F2 x i a<F2 x i b)
def oN(size i:Nat)(others:List Int):Int:=(others.take (size-1)).foldl (fun s k=>pX .or .i64 s (shV .shl .i64 1 k)) ((2^i:Nat):Int)
def iT(x:Instance)(i:Nat):List Int:=((List.range x.orders.length).filter fun k=>k != i).map Int.ofNat
def akQ(x:Instance)(size:Nat):List Int:=(List.range x.orders.length).map fun i=>oN size i (nC (dlt x (i:Nat)) (iT x i))
theorem ajA(x:Instance)(i:Int):SWO (dlt x i):=⟨fun a b h=>by
 unfold dlt at *;have:=of_decide_eq_true h;exact decide_eq_false (by omega),fun a b c h1 E=>by
 unfold dlt at *;have:=of_decide_eq_false h1;have:=of_decide_eq_false E;exact decide_eq_false (by omega)⟩
theorem Zw(a b:Int):decide (iQ a b<0)=decide (a<b):=by
 unfold iQ;split
 . next h=>rw[decide_eq_true h];rfl
 . next h=>
   rw[decide_eq_false h];split <;> rfl
theorem aaB(x:Instance)(i:Int)(E:x.net.arcs.length<=1048576):CmpOk 37 [.rp (aL x) 0,.rp [int i] 0] (dlt x i) (fun _=>True):=
 ⟨by kernel_rfl,fun a b _ _=>⟨_,Zw _ _,afX x i a b E⟩⟩
def BS(i:Nat)(m:Nat):List Int:=((List.range m).filter fun k=>k != i).map Int.ofNat
theorem PJ(i m:Nat):BS i (m+1)=if(m != i)=true then BS i m++[(m:Int)]else BS i m:=by
 unfold BS;rw[Xbx,List.filter_append,Xat];simp only[List.filter];cases h:(m != i)with
 | true=>rfl
 | false=>simp
theorem Iu(i:Nat):∀m,(BS i m).length<=m:=fun m=>by
 unfold BS;rw[Xaa];exact Xah (Xcu _ _) (by rw[Xbf];exact Xag m)
theorem IH(lt:Int->Int->Bool)(l:List Int):(nC lt l).Perm l:=by
 have:∀(l acc:List Int),(l.foldl (fun acc x=>ins lt x acc) acc).Perm (acc++l):=by
   intro l;induction l with
   | nil=>intro acc;rw[Xal];exact .refl _
   | cons a r ih=>
     intro acc;refine(ih _).trans ?_;refine((Bz lt a acc).append_right r).trans ?_;simpa using List.perm_middle.symm
 have E:=this l []
 rwa [Xbd]at E
theorem Pm{x:Instance}{i:Nat}{a:Int}(h:a∈iT x i):0<=a/\a<x.orders.length:=by
 unfold iT at h;obtain⟨k,E,rfl⟩:=List.mem_map.1 h;have:=Xap.1 (List.mem_filter.1 E).1;show(0:Int)<=(k:Int)/\(k:Int)<(x.orders.length:Int);omega
theorem agV{A:List Int}{n k:Nat}(v:Int)(E:A.length=k)(F:k<n):(A++List.replicate (n-k) 0).set k v=(A++[v])++List.replicate (n-(k+1)) 0:=by
 have:n-k=(n-(k+1))+1:=by omega
 rw[this,List.replicate_succ,List.set_append_right _ _ (by omega),E,Nat.sub_self,List.set_cons_zero,Xav];rfl
theorem amL(x:Instance)(size:Nat)(h1:1<=size)(bn:size<=10)(hn:x.orders.length<=19)(hx:x.net.arcs.length<=1048576):
   PC prog 11 [.agg (aL x),int (size:Nat)] (.tup [.sl ((akQ x size).map aR),int 0]):=by
 refine pcb (fun t=>t == 8||t == 49) Tryz.func11 ?_;unfold Tryz.f11;simp only[gdS];simp only[go_sem];refine aB (fun hb=>?_) (fun hb=>?_)
 . simp at hb;omega
 simp only[go_sem];refine⟨by omega,aN fun j6 h6=>?_⟩;simp only[go_sem];have bh:∀k,k<=x.orders.length->((List.range k).map (fun i=>oN size i (nC (dlt x (i:Nat)) (iT x i)))++List.replicate (x.orders.length-k) 0).length=x.orders.length:=fun k hk=>by simp;omega
 have Z:aI bS j6 (some (⟨3,1,List.replicate x.orders.length [int 0]⟩:Row)) j6=some (nA ((List.range 0).map (fun i=>oN size i (nC (dlt x (i:Nat)) (iT x i)))++List.replicate (x.orders.length-0) 0)):=by
   rw[aA];refine congrArg (fun L=>some (⟨3,1,L⟩:Row)) ?_;rw[List.range_zero,List.map_nil,Xbd,Nat.sub_zero,List.map_replicate];rfl
 generalize aI bS j6 _=HA at Z |-;clear h6;refine⟨fun ρ H=>∃(k:Nat),k<=x.orders.length/\ρ 1=int (size:Nat)/\ρ 2=.rp (aL x) 0/\ρ 6=.os j6/\ρ 23=int (x.orders.length:Nat)/\ρ 24=int k/\H j6=some (nA ((List.range k).map (fun i=>oN size i (nC (dlt x (i:Nat)) (iT x i)))++List.replicate (x.orders.length-k) 0)),fun ρ _=>x.orders.length-aX (ρ 24),⟨0,Xab _,by simp only[go_sem,Xcj],by simp only[go_sem,Xcj],by simp only[go_sem,Xcj],by simp only[go_sem,Xaa,Xcj],(by simp only[go_sem,Xcj];rfl),Z⟩,?_⟩;rintro ρ H ⟨k,hk,I,J,O,F,E,Z⟩;simp only[go_sem,I,J,O,F,E];refine aB (fun ag=>?_) (fun Y=>?_)
 . have ag:=ltB (by simpa using ag)
   simp only[go_sem,I,J,O,F,E];refine aN fun i7 h7=>?_
   simp only[go_sem,I,J,O,F,E];refine cE so3 (aA _ _ _) (by simp) ?_;have ai:=aO Z h7;generalize hG:aI (aI H i7 _) i7 _=HGi7;replace Z:=(congrFun hG.symm j6).trans ((aD _ _ _ _ ai).trans ((aD _ _ _ _ ai).trans Z));have R7:HGi7 i7=some (nA [(k:Int)]):=by rw[<-hG,aA];rfl
   clear hG h7;simp only[go_sem,I,J,O,F,E];refine aN fun j8 h8=>?_
   have ae:=aO Z h8;have af:=aO R7 h8;have a6:=(aD HGi7 j8 (some (⟨3,1,[]⟩:Row)) j6 ae).trans Z;have ax:=(aD HGi7 j8 (some (⟨3,1,[]⟩:Row)) i7 af).trans R7;have av:aI HGi7 j8 (some (⟨3,1,[]⟩:Row)) j8=some (nA (BS k 0)):=aA _ _ _;generalize aI HGi7 j8 _=HB at a6 ax av |-;clear Z R7 h8;simp only[go_sem,I,J,O,F,E,Xaa];generalize bm:k=k0 at *;refine⟨fun ρ H=>∃(k:Nat) (j8:Nat),k<=x.orders.length/\ρ 1=int (size:Nat)/\ρ 2=.rp (aL x) 0/\ρ 6=.os j6/\ρ 7=.op i7 0 0/\ρ 23=int (x.orders.length:Nat)/\ρ 24=int (k0:Nat)/\ρ 29=int (x.orders.length:Nat)/\ρ 30=int k/\ρ 8=.os j8/\H j6=some (nA ((List.range k0).map (fun i=>oN size i (nC (dlt x (i:Nat)) (iT x i)))++List.replicate (x.orders.length-k0) 0))/\H i7=some (nA [(k0:Int)])/\H j8=some (nA (BS k0 k))/\j6≠j8/\i7≠j8,fun ρ _=>x.orders.length-aX (ρ 30),⟨0,j8,Xab _,by simp only[go_sem,I,J,O,F,E],by simp only[go_sem,I,J,O,F,E],by simp only[go_sem,I,J,O,F,E],by simp only[go_sem,I,J,O,F,E],by simp only[go_sem,I,J,O,F,E],by simp only[go_sem,I,J,O,F,E],by simp only[go_sem,Xaa,I,J,O,F,E],(by simp only[go_sem,I,J,O,F,E];rfl),by simp only[go_sem],a6,ax,av,ae,af⟩,?_⟩;rintro ρ H ⟨k,j8,hk,I,J,O,X,F,E,aa,ab,e8,Z,R7,R8,ae,af⟩;simp only[go_sem,I,J,O,X,F,E,aa,ab,e8];refine aB (fun ag=>?_) (fun Y=>?_)
   . have ah:=ltB (by simpa using ag)
     have ho:=PJ k0 k;have au:=Iu k0 k;simp only[go_sem,I,J,O,X,F,E,aa,ab,e8,R7];have bd:(((k:Int)) != ((k0:Nat):Int))=(k != k0):=by
       rw[Xar];simp only[bne_iff_ne,ne_eq];omega
     rw[bd];refine aB (fun hb=>?_) (fun hb=>?_)
     . rw[if_pos hb]at ho
       simp only[go_sem,I,J,O,X,F,E,aa,ab,e8];refine bG R8 ⟨rfl,rfl⟩ (by simp only[go_sem]) (by simp only[Xaa,Xac,List.length_nil];omega) (fun j2 an=>?_);simp only[go_sem,I,J,O,X,F,E,aa,ab,e8,aS (show k<=4611686018427387904 by omega)];refine⟨⟨k+1,j2,ah,rfl,rfl,?_,?_,?_,aO Z an,aO R7 an⟩,by simp only[aG];omega⟩
       . rw[aD _ _ _ _ (aO Z an),aD _ _ _ _ ae];exact Z
       . rw[aD _ _ _ _ (aO R7 an),aD _ _ _ _ af];exact R7
       . rw[aA,ho]
         refine congrArg (fun L=>some (⟨3,1,L⟩:Row)) ?_;rw[Xat];rfl
     . rw[if_neg (fun h=>Bool.noConfusion (hb.symm.trans h))]at ho
       simp only[go_sem,I,J,O,X,F,E,aa,ab,e8,aS (show k<=4611686018427387904 by omega)];exact⟨⟨k+1,j8,ah,rfl,rfl,Z,R7,by rw[ho];exact R8,ae,af⟩,by simp only[aG];omega⟩
   have Y:=geB hk (by simpa using Y);subst Y;have au:=Iu k0 x.orders.length;have bg:BS k0 x.orders.length=iT x k0:=rfl;rw[bg]at R8 au;simp only[go_sem,I,J,O,X,F,E,aa,ab,e8];refine Lk (ajA x (k0:Nat)) (aaB x (k0:Nat) hx) (fun H hH=>.cons _ _ _ _ (.refl _) (.cons _ _ _ _ (.ptr _ _ _ _ _ hH (by simp) (ConvL.refl _)) .nil)) (iT x k0) j8 H _ (by omega) (fun _ _=>trivial) R8 R7 af fun r=>?_
   have bp:(nC (dlt x (k0:Nat)) (iT x k0)).length<=19:=by rw[(IH _ _).length_eq];omega
   have ba:∀a∈nC (dlt x (k0:Nat)) (iT x k0),0<=a/\a<=61:=fun a ha=>by
     have:=Pm ((IH _ _).mem_iff.1 ha);omega
   have a7:=(aD H j8 (some (nA (nC (dlt x (k0:Nat)) (iT x k0)))) j6 ae).trans Z;have ao:=(aD H j8 (some (nA (nC (dlt x (k0:Nat)) (iT x k0)))) i7 af).trans R7;have a8:aI H j8 (some (nA (nC (dlt x (k0:Nat)) (iT x k0)))) j8=some (nA (nC (dlt x (k0:Nat)) (iT x k0))):=aA _ _ _;generalize aI H j8 _=HC at a7 ao a8 |-;have bi:oN size k0 (nC (dlt x (k0:Nat)) (iT x k0))=oN size k0 (nC (dlt x (k0:Nat)) (iT x k0)):=rfl;unfold oN at bi;generalize bf:nC (dlt x (k0:Nat)) (iT x k0)=S at *;simp only[go_sem,I,J,O,X,F,E,aa,ab,e8];have be:k0<=62:=by omega
   have bt:=bh k0 (by omega);generalize hL:(List.range k0).map (fun i=>oN size i (nC (dlt x (i:Nat)) (iT x i)))++List.replicate (x.orders.length-k0) 0=L at *;have b6:(0:Int)<=((k0:Nat):Int)/\((k0:Nat):Int)<((L.length:Nat):Int):=by omega
   refine dP [i7] [(0,true),(1,true),(2,true),(3,true),(4,false),(5,false)] (by simp[ao]) (by kernel_rfl) fun Hp Hr hp hr _ bk=>?_
   have ar:=(hp i7 (by simp)).trans ao;have al:=(hr j6 (by simp[ai])).trans a7;simp only[go_sem,I,J,O,X,F,E,aa,ab,e8,Sq.C8 be,Xaa,b6,ar,al];refine cE so3 al (by rw[Xaa];exact⟨by omega,rfl,Xag 1⟩) ?_;refine iM hr (by simp[ai]) ?_;have ap:∀(M:List Int) (v:Int),k0<M.length->(M.map aR).set k0 (mH ((M.map aR).getD k0 []) 0 [int v])=(M.set k0 v).map aR:=fun M v hM=>by
     obtain⟨u,hu⟩:=aQ hM;rw[aH hu,List.map_set];rfl
   have az:aI HC j6 (some (⟨3,1,(L.map aR).set k0 (mH ((L.map aR).getD k0 []) 0 [int ((2^k0:Nat):Int)])⟩:Row)) j6=some (nA (L.set k0 ((2^k0:Nat):Int))):=by
     rw[aA];exact congrArg (fun l=>some (⟨3,1,l⟩:Row)) (ap L _ (by omega))
   have a4:=(aD HC j6 (some (⟨3,1,(L.map aR).set k0 (mH ((L.map aR).getD k0 []) 0 [int ((2^k0:Nat):Int)])⟩:Row)) i7 ai.symm).trans ao;have a9:=(aD HC j6 (some (⟨3,1,(L.map aR).set k0 (mH ((L.map aR).getD k0 []) 0 [int ((2^k0:Nat):Int)])⟩:Row)) j8 ae.symm).trans a8;generalize aI HC j6 _=HD at az a4 a9 |-;have w1:IntKind.i64.wrap (((size:Nat):Int)-1)=((size-1:Nat):Int):=by rw[aW (by omega)];omega
   have a5:wF ((size-1:Nat):Int) ((S.length:Nat):Int)=((min (size-1) S.length:Nat):Int):=by
     unfold wF;split <;> omega
   simp only[go_sem,I,J,O,X,F,E,aa,ab,e8];refine Ae (by simp only[go_sem,e8]) a9 fun Hf bu ay=>?_
   have bc:=(ay j6 ae).trans az;have bb:=(ay i7 af).trans a4;have bq:min (size-1) S.length<=S.length:=Nat.min_le_right _ _;have a0:oN size k0 S=(S.take (min (size-1) S.length)).foldl (fun s k=>pX .or .i64 s (shV .shl .i64 1 k)) ((2^k0:Nat):Int):=by
     unfold oN
     congr 1
     by_cases h:size-1<=S.length
     . rw[Xci h]
     . rw[Nat.min_eq_right (by omega),Xaw (by omega),Xaf]
   simp only[go_sem,I,J,O,X,F,E,aa,ab,e8,Xaa,w1,a5];generalize bo:min (size-1) S.length=M at *;refine⟨by omega,?_⟩;have ac:(S.take M).length=M:=by rw[Xax];omega
   have aq:∀a∈S.take M,0<=a/\a<=61:=fun a ha=>ba a (List.mem_of_mem_take ha)
   have ad:(S.map aR).take M=(S.take M).map aR:=List.map_take.symm;generalize S.take M=T at *;refine⟨fun ρ H=>∃(k:Nat),k<=M/\ρ 1=int (size:Nat)/\ρ 2=.rp (aL x) 0/\ρ 6=.os j6/\ρ 7=.op i7 0 0/\ρ 23=int (x.orders.length:Nat)/\ρ 24=int (k0:Nat)/\ρ 55=.sl (T.map aR)/\ρ 56=int (M:Nat)/\ρ 57=int k/\H j6=some (nA (L.set k0 ((T.take k).foldl (fun s k=>pX .or .i64 s (shV .shl .i64 1 k)) ((2^k0:Nat):Int))))/\H i7=some (nA [(k0:Int)]),fun ρ _=>M-aX (ρ 57),⟨0,Xab _,by simp only[go_sem,I,J,O,X,F,E,ad,ac],by simp only[go_sem,I,J,O,X,F,E,ad,ac],by simp only[go_sem,I,J,O,X,F,E,ad,ac],by simp only[go_sem,I,J,O,X,F,E,ad,ac],by simp only[go_sem,I,J,O,X,F,E,ad,ac],by simp only[go_sem,I,J,O,X,F,E,ad,ac],by simp only[go_sem,I,J,O,X,F,E,ad,ac],by simp only[go_sem,Xaa,I,J,O,X,F,E,ad,ac],(by simp only[go_sem,I,J,O,X,F,E,ad,ac];rfl),bc,bb⟩,?_⟩;rintro ρ H ⟨k,hk,I,J,O,X,F,E,am,aj,ak,Z,R7⟩;simp only[go_sem,I,J,O,X,F,E,am,aj,ak];refine aB (fun ag=>?_) (fun Y=>?_)
   . have ah:=ltB (by simpa using ag)
     obtain⟨v,hv⟩:=aQ (show k<T.length by omega);have br:=aq v (Xad hv);have bj:=Sq.eY (f:=fun(s k:Int)=>pX .or .i64 s (shV .shl .i64 1 k)) (b:=((2^k0:Nat):Int)) hv;generalize (T.take k).foldl (fun s k=>pX .or .i64 s (shV .shl .i64 1 k)) ((2^k0:Nat):Int)=cur at *;have g1:=aH (f:=aR) hv;have aw:(L.set k0 cur)[k0]?=some cur:=List.getElem?_set_self (show k0<L.length by omega);have g2:=aH (f:=aR) aw;have b7:(0:Int)<=((k0:Nat):Int)/\((k0:Nat):Int)<(((L.set k0 cur).length:Nat):Int):=by rw[List.length_set];omega
     have b8:=inB (show k<T.length by omega);simp only[go_sem,I,J,O,X,F,E,am,aj,ak,Xaa,g1,b8];refine lO [(0,true),(4,true),(5,true),(1,false),(2,false),(3,false),(6,true),(7,false),(8,false)] (by kernel_rfl) ?_;simp only[go_sem,I,J,O,X,F,E,am,aj,ak,Z,R7,Xaa,b7,g2];refine⟨by omega,?_⟩;refine⟨by omega,?_⟩;refine cE so3 Z ⟨(by rw[Xaa,List.length_set];omega:k0<((L.set k0 cur).map aR).length),rfl,Xag 1⟩ ?_;simp only[go_sem,I,J,O,X,F,E,am,aj,ak,aS (show k<=4611686018427387904 by omega)];refine⟨⟨k+1,ah,rfl,?_,?_⟩,by simp only[aG];omega⟩
     . rw[bj]
       refine congrArg (fun l=>some (⟨3,1,l⟩:Row)) ?_;refine(ap (L.set k0 cur) _ (show k0<(L.set k0 cur).length by omega)).trans ?_;rw[List.set_set]
     . rw[aD _ _ _ _ ai.symm];exact R7
   have Y:=geB hk (by simpa using Y);subst Y;rw[Xaw (by omega),<-a0]at Z;simp only[go_sem,I,J,O,X,F,E,am,aj,ak,aS (show k0<=4611686018427387904 by omega)];refine⟨⟨k0+1,ag,rfl,?_⟩,by simp only[aG];omega⟩;rw[Z];refine congrArg (fun l=>some (nA l)) ?_;rw[<-hL,agV _ (by rw[Xaa,Xbf]) (by omega),Xbx,Xat,<-bf];rfl
 have Y:=geB hk (by simpa using Y);subst Y;simp only[go_sem,I,J,O,F,E];rw[Nat.sub_self,List.replicate_zero,Xal]at Z;exact .tup _ _ (.cons _ _ _ _ (.row _ _ _ Z (ConvE.refl _)) (.cons _ _ _ _ (.refl _) .nil))
end Go.Proofs.YtdlijlecpopadaaGreatDoor.Rx
end
section
namespace Go.Proofs.YtdlijlecpopadaaGreatDoor.Rx
open Go.Proofs.Tryz(prog)
open Go.Aw Go.Aw.D Go.Proofs Ty Go.Nu Go.So
open Sq (W eM dD gL NetOk)
open Nu (ltB geB)
open Mv (bZ cQ NC.pc aT)
theorem atT(i:Nat)(hi:i<=62):PC prog 40 [int i] (int (2^i:Nat)):=by
 refine pcd Tryz.func40 ?_;unfold Tryz.f40;simp only[gdS];simp only[go_sem];refine⟨fun ρ H=>∃(k:Nat),k<=i/\ρ 0=int i/\ρ 4=int k/\ρ 3=int (2^k:Nat),fun ρ _=>i-aX (ρ 4),⟨0,Xab _,by simp only[go_sem],(by simp only[go_sem];rfl),by simp only[go_sem];rfl⟩,?_⟩;rintro ρ H ⟨k,Z,O,J,I⟩;simp only[go_sem,O,J,I];refine aB (fun E=>?_) (fun F=>?_)
 . have E:=ltB E
   have Y:(2:Nat)^(k+1)<=2^62:=Xay (by decide) (by omega);have X:(2:Nat)^(k+1)=2*2^k:=by rw[Xbs,Nat.mul_comm]
   have w1:IntKind.i64.wrap (2*((2^k:Nat):Int))=((2^(k+1):Nat):Int):=by rw[X];rw[X]at Y;rw[aW (by omega)];rfl
   simp only[go_sem,O,J,I,w1,aS (show k<=4611686018427387904 by omega)];exact⟨⟨k+1,E,rfl,rfl⟩,by simp only[aG];omega⟩
 . have F:=geB Z F
   subst F;simp only[go_sem,O,J,I];exact .refl _
def kS(s i:Nat):Bool:=s/2^i%2 == 1
theorem aiM(s i:Nat)(Y:s<2^63)(hi:i<=1048576):PC prog 41 [int (s:Nat),int (i:Nat)] (boo (kS s i)):=by
 refine pcd Tryz.func41 ?_;unfold Tryz.f41;simp only[gdS];simp only[go_sem];refine⟨fun ρ H=>∃(k:Nat),k<=i/\ρ 1=int (i:Nat)/\ρ 5=int k/\ρ 0=int (s/2^k:Nat),fun ρ _=>i-aX (ρ 5),⟨0,Xab _,by simp only[go_sem],(by simp only[go_sem];rfl),by simp only[go_sem,Nat.pow_zero,Nat.div_one]⟩,?_⟩;rintro ρ H ⟨k,X,I,J,O⟩;simp only[go_sem,I,J,O];refine aB (fun E=>?_) (fun F=>?_)
 . have E:=ltB E
   have Z:(s/2^k:Nat)<=s:=Xde _ _;have w1:IntKind.i64.wrap (Int.tdiv ((s/2^k:Nat):Int) 2)=((s/2^(k+1):Nat):Int):=by
     have I:Int.tdiv ((s/2^k:Nat):Int) 2=((s/2^k/2:Nat):Int):=rfl;rw[I,Nat.div_div_eq_div_mul,<-Xbs];have:s/2^k.succ<=s:=Xde _ _;show IntKind.i64.wrap ((s/2^k.succ:Nat):Int)=((s/2^k.succ:Nat):Int);generalize s/2^k.succ=z at *;exact aW (by omega)
   simp only[go_sem,I,J,O,w1,aS (show k<=4611686018427387904 by omega)];exact⟨by decide,⟨k+1,E,rfl,rfl⟩,by simp only[aG];omega⟩
 . have F:=geB X F
   subst F;simp only[go_sem,I,J,O];refine⟨by decide,cQ ?_⟩;unfold kS;have I:Int.tmod ((s/2^k:Nat):Int) 2=((s/2^k%2:Nat):Int):=rfl;rw[I,Xar];simp only[Xas];omega
def Mc(o:Order):List Int:=(if decide (o.pick.place>=0)=true then[o.pick.place]else[])++(if decide (o.drop.place>=0)=true then[o.drop.place]else[])
def rW(near:List Int)(i:Nat):Bool:=decide (near.getD i 0<0)||decide (near.getD i 0>=((2^near.length:Nat):Int))|| !kS (near.getD i 0).toNat i
def uM(x:Instance)(near:List Int):Bool:= !((near.length:Int) != (x.orders.length:Int))&&(List.range near.length).all fun i=> !rW near i
theorem Yk(x:Instance)(near:List Int)(hx:x.orders.length<=62)(ab:near.length<=1048576):PC prog 14 [.agg (aL x),.sl (near.map aR)] (boo (uM x near)):=by
 have F:uM x near=(!((near.length:Int) != (x.orders.length:Int))&&(List.range near.length).all fun i=> !rW near i):=rfl;generalize uM x near=R at F;refine pcd Tryz.func14 ?_;unfold Tryz.f14;simp only[gdS];simp only[go_sem];refine aB (fun I=>?_) (fun I=>?_)
 . rw[I]at F
   subst F;simp only[go_sem];exact .refl _
 rw[I,Xcr,Xba]at F;have hl:near.length=x.orders.length:=by simp at I;omega
 simp only[go_sem];refine⟨fun ρ H=>∃(k:Nat),k<=near.length/\ρ 1=.sl (near.map aR)/\ρ 5=int k/\(∀i,i<k->rW near i=false),fun ρ _=>near.length-aX (ρ 5),⟨0,Xab _,by simp only[go_sem],(by simp only[go_sem];rfl),by intro i hi;omega⟩,?_⟩;rintro ρ H ⟨k,hk,O,X,hz⟩;simp only[go_sem,O,X];refine aB (fun E=>?_) (fun J=>?_)
 . have E:=ltB (by simpa using E)
   obtain⟨v,Z⟩:=aQ E;have b1:=inB E;have aa:near.getD k 0=v:=by rw[List.getD,Z];rfl
   have Y:rW near k=(decide (v<0)||decide (v>=((2^near.length:Nat):Int))|| !kS v.toNat k):=by unfold rW;rw[aa]
   have ac:2^near.length<=2^62:=Xay (by decide) (by omega);simp only[go_sem,O,X];refine lO [(0,true),(1,true),(2,true),(3,true),(4,true),(5,true),(6,true),(7,true),(8,true),(9,true),(10,true),(11,true),(12,true),(13,true),(14,true),(15,true),(16,true),(17,true),(18,true),(19,true),(20,true),(21,true),(22,true),(23,true)] (by kernel_rfl) ?_;simp only[go_sem,O,X,aH Z,b1,Xaa];refine⟨_,fun _=>PC.q (atT near.length (by omega)) rfl,?_⟩;simp only[go_sem,O,X,aH Z,b1,Xaa];refine⟨boo (kS v.toNat k),fun hg=>?_,?_⟩
   . rw[Xai]at hg
     have g1:=of_decide_eq_false hg.1;have g2:=of_decide_eq_false hg.2;obtain⟨n,rfl⟩:∃n:Nat,v=(n:Nat):=⟨v.toNat,by omega⟩;rw[Xan];exact PC.q (aiM n k (by omega) (by omega)) rfl
   simp only[go_sem,O,X];refine aB (fun I=>?_) (fun I=>?_)
   . have : ((List.range near.length).all fun i => !rW near i) = false := by
       rw[Xbv];intro h;have:=Xao.1 h k (Xap.2 E);rw[Y,I]at this;cases this
     rw[this]at F;subst F;simp only[go_sem];exact .refl _
   . simp only[go_sem,O,X,aS (show k<=4611686018427387904 by omega)]
     refine⟨⟨k+1,E,rfl,fun i hi=>?_⟩,by simp only[aG];omega⟩;by_cases e:i=k
     . subst e;rw[Y];exact I
     . exact hz i (by omega)
 have J:=geB hk (by simpa using J);subst J;rw[Xao.2 (fun i hi=>by rw[hz i (Xap.1 hi)];rfl)]at F;subst F;simp only[go_sem];exact .refl _
def iS(near:List Int)(m o:Nat)(s i:Nat):Nat:=if(i == o||(kS m i&&kS (near.getD o 0).toNat i))=true then s+2^i else s
def Cy(near:List Int)(m o k:Nat):Nat:=(List.range k).foldl (iS near m o) 0
theorem FO(near:List Int)(m o k:Nat):Cy near m o (k+1)=iS near m o (Cy near m o k) k:=by
 unfold Cy;rw[Xbx,List.foldl_append];rfl
theorem Gk(near:List Int)(m o:Nat):∀k,Cy near m o k<2^k
 | 0=>by show 0<1;decide
 | k+1=>by
   have:=Gk near m o k;rw[FO,Xbs];unfold iS;split <;> omega
def d32A(p q:Int)(out:Int)(w:Arc):Int:=if((w.src == p&&w.dst == q)||(w.src == q&&w.dst == p))=true then wF out w.miles else out
def d32Q(arcs:List Arc)(p:Int)(out q:Int):Int:=arcs.foldl (d32A p q) (if(p == q)=true then 0 else out)
def d32P(arcs:List Arc)(Q:List Int)(out p:Int):Int:=Q.foldl (d32Q arcs p) out
def Yf(x:Instance)(a b:Nat):Int:=(Mc (aF x a)).foldl (d32P x.net.arcs (Mc (aF x b))) 10001
def sM(x:Instance)(a set:Nat)(best:Int)(b:Nat):Int:=if(!kS set b&&(decide (best<0)||decide (Yf x a b<Yf x a best.toNat)))=true then(b:Int)else best
end Go.Proofs.YtdlijlecpopadaaGreatDoor.Rx
end
section
namespace Go.Proofs.YtdlijlecpopadaaGreatDoor.Rx
open Go.Aw Go.Aw.D Go.Proofs Ty Go.Nu Go.So
open Sq (W eM dD gL NetOk dH)
open Nu (ltB geB)
open Mv (bZ cQ NC.pc aT)
structure Mom where
 time:Int
 driven:Int
structure RP where
 place:Int
 visits:Nat
 miles:Int
 moms:List Mom
 memory:Nat
 board:Nat
 load:List Int
 moved:Int
 other:Int
 dual:ByteArray
structure Rs where
 x:Instance
 t:VType
 kind:Nat
 near:List Int
 dual:List ByteArray
 most:Nat
 count:Int
 limited:Bool
 found:Bool
 least:ByteArray
section
variable(p:RP)
end
section
variable(w:Rs)
end
def akV(t:VType)(m:Mom):Mom:=⟨W (m.time+t.rest),0⟩
def eA(t:VType)(l:List Mom):List Mom:=l.flatMap fun m=>[m,akV t m]
def Xz(n:Network)(t:VType)(place goal close:Int)(s:List Mom×Int)(m:Mom):List Mom×Int:=
 (if(((dH n t.profile place goal m.time).2.2 == 0&&decide ((dH n t.profile place goal m.time).1<=close))&&decide (W (W (m.driven+(dH n t.profile place goal m.time).1)-m.time)<=t.drive))=true
  then s.1++[⟨(dH n t.profile place goal m.time).1,W (W (m.driven+(dH n t.profile place goal m.time).1)-m.time)⟩]else s.1,(dH n t.profile place goal m.time).2.1)
def kQ(n:Network)(t:VType)(place goal close:Int)(l:List Mom):List Mom×Int:=l.foldl (Xz n t place goal close) ([],0)
def cR(a b:List Int)(sg:Int):List Int:=List.zipWith (fun x y=>W (x+W (sg*y))) a b
def pG(a c:List Int):Bool:=(List.range a.length).all fun i=> !decide (a.getD i 0>c.getD i 0)
end Go.Proofs.YtdlijlecpopadaaGreatDoor.Rx
end
section
namespace Go.Aw
open Go.RowKit
section
variable{P:Program}{f:FuncId}{args:List AV}{H H1:aJ}{K:AV->aJ->Prop}{r:AV}
def MC(P:Program)(f:FuncId)(args:List AV)(H H1:aJ)(r:AV):Prop:=∀K:AV->aJ->Prop,K r H1->bA P f args H K
theorem MC.use(h:MC P f args H H1 r)(E:K r H1):bA P f args H K:=h K E
theorem bA.dataM(J:∀k,H k=none->H1 k=none)(h:bA P f args H (rA H1 r))(Y:K r H1):bA P f args H K:=by
 intro S w vals Z ha;refine(h S w vals Z ha).mono fun e w' ⟨v,x,H',S',he,⟨hm,l,O,hc⟩,F,X,hg,hn⟩=>?_
 obtain⟨h1,h2,h3⟩:=F.frz l;refine⟨v,r,H1,S'.froze _,he,Y,h1.drop (fun k row I=>?_),hc.rep h3 X,hg.trans h2,fun k _ h0=>J k h0⟩;have E:¬k∈l:=fun E=>by rw[O k E]at I;cases I
 show(if k∈l then none else H' k)=some row;rw[if_neg E];exact hm k row I
theorem MC.body{fn:Func}{c:Code}(mt:Nat->Bool)(E:∀k,H k=none->H1 k=none)(O:P.follows .mixedOrders=true)(I:P.funcs[f]?=some fn)(X:fn.body=some c)(J:zX fn c args.length=true)
 (h:awp P (bA P) (dG P) mt c (Fq P fn.results.toList (rA H1 r)) (Dt args) H):MC P f args H H1 r:=fun K F=>bA.dataM E (bA.body mt O I X J h) F
theorem LZ{H:aJ}{j:Nat}{a:Row}(h:H j=some a):aI H j (some a)=H:=funext fun k=>by
 by_cases e:k=j
 . subst e;rw[aA,h]
 . rw[aD _ _ _ _ e]
theorem UZ(H:aJ)(j:Nat)(a b:Option Row):aI (aI H j a) j b=aI H j b:=funext fun k=>by
 by_cases e:k=j
 . subst e;rw[aA,aA]
 . rw[aD _ _ _ _ e,aD _ _ _ _ e,aD _ _ _ _ e]
theorem Sup.set{H H':aJ}(h:Sup H H')(j:Nat)(a:Option Row):Sup (aI H j a) (aI H' j a):=fun k row E=>by
 by_cases e:k=j
 . subst e;rw[aA]at E |-;exact E
 . rw[aD _ _ _ _ e]at E |-;exact h k row E
theorem Sup.set2{H H':aJ}{j:Nat}{b:Option Row}(h:Sup (aI H j b) H')(a:Option Row):Sup (aI H j a) (aI H' j a):=by
 have:=Sup.set h j a
 rwa [UZ]at this
theorem Sd{H:aJ}{j:Nat}{a:Option Row}{b:Row}(h:H j=some b):∀k,H k=none->aI H j a k=none:=fun k E=>by
 by_cases e:k=j
 . subst e;rw[h]at E;cases E
 . rw[aD _ _ _ _ e,E]
theorem Cp{P:Program}{C:lW}{PC:FuncId->List AV->aJ->AV->Prop}{mt:Nat->Bool}{ops:List Oper}{K:Env->aJ->Prop}{m:Nat}{ρ:Env}{H:aJ}(l:List Nat)(t:Mx)(J:Env->aJ->Prop)(I:∀k,k∈l->(H k).isSome=true)(O:Cm ops.toArray t=true)
 (h:∀K':Env->aJ->Prop,(∀E H',J E H'->K' E H')->∀Hp F:aJ,(∀k,k∈l->Hp k=H k)->(∀k,k∉l->F k=H k)->(∀k,k∉l->Hp k=none)->(∀k,k∈l->F k=none)->nD P C PC mt ops.toArray (mY l H K') Hp t ρ F)
 (X:∀E H',J E H'->K E H'):tK P C PC mt ops.toArray K m ρ H:=Cn l t I O (h K X)
end
end Go.Aw
namespace Go.Proofs.YtdlijlecpopadaaGreatDoor.Rx
open Go.Aw Go.Aw.D Go.Proofs Ty Go.Nu Go.So
open Sq (W eM dD gL NetOk dH)
open Nu (ltB geB)
open Mv (bZ cQ NC.pc aT)
def akD(l:List Mom):Int:=(l.getD 0 ⟨0,0⟩).time
def afJ(l:List Mom):Int:=l.foldl (fun e m=>wF e m.time) (akD l)
def ZB(t:VType)(e:Int):Int:=W (e-t.start)
def azL(t:VType)(e miles:Int):Int:=W (W (t.fixed+W (t.perMile*miles))+W (t.perTick*ZB t e))
def anH(t:VType)(p:RP)(e miles:Int):Int:=
 W (W (W (W (W (W (azL t e (W (p.miles+miles))*16)+p.moved)*16)+p.other)*65536)+W (W (Int.tdiv (ZB t e) 64)*W (Int.tdiv (ZB t e) 64)))
def Ka(s:Rs)(v:ByteArray):Rs:=
 if(!s.found||decide (xW v s.least<0))=true then { s with count:=W (s.count+1),found:=true,least:=v }else { s with count:=W (s.count+1) }
end Go.Proofs.YtdlijlecpopadaaGreatDoor.Rx
end
section
namespace Go.Proofs.YtdlijlecpopadaaGreatDoor.Rx
open Go.Aw Go.Aw.D Go.Proofs Ty Go.Nu Go.So
open Sq (W eM dD gL NetOk dH)
open Nu (ltB geB)
open Mv (bZ cQ NC.pc aT)
def zR(a:Int)(kind:Nat)(n:Int):Int:=if(decide (a>=0)&&a != (kind:Int))=true then W (n+1)else n
def X4(s:Rs)(p:RP)(o:Nat):RP:={ p with memory:=Cy s.near p.memory o s.near.length,moved:=zR (aF s.x o).now s.kind p.moved,other:=zR (aF s.x o).last s.kind p.other,dual:=(Bb p.dual (s.dual.getD o ByteArray.empty)).1 }
structure RsOk(w:Rs):Prop where
 net:Sq.NetB w.x.net
 near:NearB w.near
 len:w.near.length=w.x.orders.length
 dlen:w.dual.length=w.x.orders.length
 dual:∀a∈w.dual,a.size<=1048576
end Go.Proofs.YtdlijlecpopadaaGreatDoor.Rx
end
section
namespace Go.Aw
end Go.Aw
namespace Go.Proofs.YtdlijlecpopadaaGreatDoor.Rx
open Go.Aw Go.Aw.D Go.Proofs Ty Go.Nu Go.So
open Sq (W eM dD gL NetOk dH)
open Nu (ltB geB)
open Mv (bZ cQ NC.pc aT)
def EX(s:Stop)(l:List Mom):List Mom:=l.map fun m=>⟨W (gA m.time s.start+s.service),m.driven⟩
def stR(o:Order)(d:Bool):Stop:=if d=true then o.drop else o.pick
def bQ(o:Order)(d:Bool):Bool:= !d|| !gO o
def rK(p:RP)(o:Nat)(st:Bool):Bool:=(st&&(kS p.memory o||kS p.board o))||(!st&& !kS p.board o)
def hY(p:RP)(od:Order)(d:Bool):List Int:=if d=false then cR p.load od.load 1 else if gO od=true then cR p.load od.load (-1)else p.load
def pH(s:Rs)(p:RP)(o:Nat)(d:Bool):RP:=
 if bQ (aF s.x o) d=true then(if gO (aF s.x o)=true then { X4 s p o with board:=p.board+2^o }else X4 s p o)else { p with board:=p.board-2^o }
def goR(s:Rs)(p:RP)(st:Stop)(miles:Int)(l:List Mom):RP:={ p with place:=st.place,visits:=p.visits+1,miles:=W (p.miles+miles),moms:=eA s.t (EX st l) }
def EY(s:Rs)(p:RP)(o:Nat)(d:Bool):RP×Bool:=
 if rK p o (bQ (aF s.x o) d)=true then(p,false)
 else
   let a:=kQ s.x.net s.t p.place (stR (aF s.x o) d).place (stR (aF s.x o) d).close p.moms
   if a.1.length=0 then(p,false)
   else
     let q:={ p with load:=hY p (aF s.x o) d }
     if pG q.load s.t.cap=true then(goR s (pH s q o d) (stR (aF s.x o) d) a.2 a.1,true)else(q,false)
end Go.Proofs.YtdlijlecpopadaaGreatDoor.Rx
end
