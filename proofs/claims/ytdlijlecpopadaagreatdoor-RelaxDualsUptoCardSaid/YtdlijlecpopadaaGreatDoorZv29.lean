/- Texts joined by a program: RxH, SoA. -/
import Derived.Lib.ItoaMem
import Derived.Test.YtdlijlecpopadaaGreatDoorZv28
set_option linter.unusedSimpArgs false
set_option linter.unusedVariables false
set_option maxRecDepth 100000
section
namespace Go.Proofs.YtdlijlecpopadaaGreatDoor.Rx
open Go.Aw Go.Aw.D Go.Proofs Ty Go.Nu
open Sq (W dX mR pU qV gK iP dN iV NetOk pW rH oZ pJ)
open Nu (qN uH wL ltB geB lF yY)
open Mv (fF eI NC.pc bK)
theorem P2{g:Nat}{cap:List AV}{p:Part→Bool}(l:List Part)(hl:l.length≤4000000000000000000)(hok:aC Tryz.prog g=true)(hg:∀v∈l,PC Tryz.prog g ((.agg (bS v))::cap) (boo (p v))):
   PC Tryz.prog 95 [.sl (l.map bS),.fn g cap] (int (pW p l 0)):=by
 refine PC.body (c:=Tryz.f95.body.getD .skip) (fun _=>false) mixed Tryz.func95 rfl (by kernel_rfl) ?_;unfold Tryz.f95;simp only[Option.getD_some];simp only[go_sem];refine⟨fun ρ _=>∃k:Nat,k≤l.length∧ρ 0=.sl (l.map bS)∧ρ 1=.fn g cap∧ρ 7=int l.length∧ρ 8=int k∧∀u∈l.take k,p u=false,fun ρ _=>l.length-bQ (ρ 8),⟨0,Nat.zero_le _,rfl,rfl,rfl,rfl,by simp⟩,?_⟩;rintro ρ H ⟨k,hk,h0,h1,h7,h8,hz⟩;simp only[go_sem,h0,h1,h7,h8];refine aA (fun hlt=>?_) (fun hge=>?_)
 · have hlt:=cA hlt
   obtain⟨u,hu⟩:=bC hlt;have b1:=inB hlt;simp only[go_sem,h0,h1,h7,h8,aH hu,b1,hok];refine PC.use (hg u (List.mem_of_getElem? hu)) ?_;simp only[go_sem,h0,h1,h7,h8];refine aA (fun hb=>?_) (fun hb=>?_)
   · simp only[go_sem,h8]
     exact fF (by rw[rH hz hu hb];omega)
   · simp only[go_sem,h0,h1,h7,h8,bG (show k≤4611686018427387904 by omega)]
     exact⟨⟨k+1,hlt,rfl,bK (p:=fun u=>p u=false) hu hb hz⟩,by simp only[aI];omega⟩
 · have hge:=cF hk hge
   subst hge;rw[List.take_length]at hz;simp only[go_sem];exact fF (by rw[oZ hz])
theorem RK{g:Nat}{cap:List AV}{p:Part→Bool}(l:List Part)(hl:l.length≤4000000000000000000)(hok:aC Tryz.prog g=true)(hg:∀v∈l,PC Tryz.prog g ((.agg (bS v))::cap) (boo (p v))):
   PC Tryz.prog 48 [.sl (l.map bS),.fn g cap] (boo (l.any p)):=by
 refine PC.body (c:=Tryz.f48.body.getD .skip) (fun _=>false) mixed Tryz.func48 rfl (by kernel_rfl) ?_;unfold Tryz.f48;simp only[Option.getD_some];simp only[go_sem];refine PC.use (P2 l hl hok hg) ?_;simp only[go_sem];exact eI (pJ l 0 (Int.le_refl _))
abbrev fZ(l:List Part):Row:=⟨94,7,l.map bS⟩
theorem EA(l:List Part)(q:Part):(⟨94,7,l.map bS++[bS q]⟩:Row)=fZ (l++[q]):=by
 show _=(⟨94,7,(l++[q]).map bS⟩:Row);rw[List.map_append];rfl
structure BH(H:aF)(w:Wk)(jw jk jm jf:Nat)(known more fresh:List Part):Prop where
 rw:H jw=some (kX w)
 rk:H jk=some (fZ known)
 rm:H jm=some (fZ more)
 rf:H jf=some (fZ fresh)
 km:jk≠jm
 kf:jk≠jf
 mf:jm≠jf
theorem VX{H:aF}{w:Wk}{i j:Nat}{l:List (List AV)}(hi:H i=some (kX w))(hj:H j=some ⟨94,7,l⟩):i≠j:=fun e=>by
 subst e;rw[hi]at hj;have:=congrArg Row.e (Option.some.inj hj);exact absurd (show(89:Nat)=94 from this) (by decide)
section
variable{H:aF}{w:Wk}{jw jk jm jf:Nat}{known more fresh:List Part}
theorem BH.mono(h:BH H w jw jk jm jf known more fresh){H':aF}(hm:∀k row,H k=some row→H' k=some row):BH H' w jw jk jm jf known more fresh:=
 ⟨hm _ _ h.rw,hm _ _ h.rk,hm _ _ h.rm,hm _ _ h.rf,h.km,h.kf,h.mf⟩
theorem BH.appK(h:BH H w jw jk jm jf known more fresh){j:Nat}(hj:H j=none)(q:Part):BH (aJ (aJ H jk none) j (some (fZ (known++[q])))) w jw j jm jf (known++[q]) more fresh:=by
 have nw:=VX h.rw h.rk;have n1:=aO h.rw hj;have n2:=aO h.rm hj;have n3:=aO h.rf hj;exact⟨by rw[aD _ _ _ _ n1,aD _ _ _ _ nw];exact h.rw,aB _ _ _,by rw[aD _ _ _ _ n2,aD _ _ _ _ h.km.symm];exact h.rm,by rw[aD _ _ _ _ n3,aD _ _ _ _ h.kf.symm];exact h.rf,n2.symm,n3.symm,h.mf⟩
theorem BH.appM(h:BH H w jw jk jm jf known more fresh){j:Nat}(hj:H j=none)(q:Part):BH (aJ (aJ H jm none) j (some (fZ (more++[q])))) w jw jk j jf known (more++[q]) fresh:=by
 have nw:=VX h.rw h.rm;have n1:=aO h.rw hj;have n2:=aO h.rk hj;have n3:=aO h.rf hj;exact⟨by rw[aD _ _ _ _ n1,aD _ _ _ _ nw];exact h.rw,by rw[aD _ _ _ _ n2,aD _ _ _ _ h.km];exact h.rk,aB _ _ _,by rw[aD _ _ _ _ n3,aD _ _ _ _ h.mf.symm];exact h.rf,n2,h.kf,n3.symm⟩
end
structure BI(H:aF)(jk jm i:Nat)(p:Part):Prop where
 ri:H i=some (eF p)
 ik:i≠jk
 im:i≠jm
theorem BI.mono{H H':aF}{jk jm i:Nat}{p:Part}(h:BI H jk jm i p)(hm:∀k row,H k=some row→H' k=some row):BI H' jk jm i p:=⟨hm _ _ h.ri,h.ik,h.im⟩
theorem BI.appK{H:aF}{jk jm i j:Nat}{p:Part}(h:BI H jk jm i p)(hj:H j=none)(a:Option Row):BI (aJ (aJ H jk none) j a) j jm i p:=by
 have n:=aO h.ri hj;exact⟨by rw[aD _ _ _ _ n,aD _ _ _ _ h.ik];exact h.ri,n,h.im⟩
theorem BI.appM{H:aF}{jk jm i j:Nat}{p:Part}(h:BI H jk jm i p)(hj:H j=none)(a:Option Row):BI (aJ (aJ H jm none) j a) jk j i p:=by
 have n:=aO h.ri hj;exact⟨by rw[aD _ _ _ _ n,aD _ _ _ _ h.im];exact h.ri,h.ik,n⟩
theorem cD{H:aF}{i:Nat}(hi:H i=none)(a:Option Row):∀k row,H k=some row→aJ H i a k=some row:=fun k row hk=>by
 rw[aD _ _ _ _ (fun e=>by subst e;rw[hi]at hk;cases hk)];exact hk
theorem xU{H:aF}{i:Nat}(hi:H i=none)(a b:Option Row):∀k row,H k=some row→aJ (aJ H i a) i b k=some row:=fun k row hk=>by
 rw[aD _ _ _ _ (fun e=>by subst e;rw[hi]at hk;cases hk)];exact cD hi a k row hk
theorem RD(p q:Part)(hp:p.memory<2^62)(hq:q.memory<2^62)(hpl:p.load.length≤1048576)(hpv:p.value.size≤1048576)(hqv:q.value.size≤1048576)(hpc:p.clocks.length≤4194304)(hqc:q.clocks.length≤4194304):
   PC Tryz.prog 49 [.agg (bS p),.rp (bS q) 0] (boo (qP p q)):=by
 refine PC.body (c:=Tryz.f49.body.getD .skip) (fun _=>false) mixed Tryz.func49 rfl (by kernel_rfl) ?_;unfold Tryz.f49;simp only[Option.getD_some];simp only[go_sem];refine PC.use (SB p q hp hq hpl hpv hqv hpc hqc) ?_;simp only[go_sem];exact .refl _
def frM(m:Nat)(x:AV)(H:aF):Nat:=match x with
 | .os j=>match H j with
   | some r=>if r.es.length=0 then 0 else m+1-bQ ((r.es.getD 0 []).getD 3 .any)
   | none=>0
 | _=>0
theorem RN{m:Nat}{H:aF}{j:Nat}{l:List Part}(h:H j=some (fZ l)):frM m (.os j) H=match l with|[]=>0|p::_=>m+1-p.visits:=by
 unfold frM;simp only[h];cases l with
 | nil=>rfl
 | cons p l=>rfl
theorem IB{m:Nat}{H:aF}{j:Nat}{l t:List Part}{p:Part}(h:H j=some (fZ l))(hl:p::t=l):frM m (.os j) H=m+1-p.visits:=by
 subst hl;exact RN h
theorem TW{m:Nat}{H:aF}{j:Nat}{l:List Part}(h:H j=some (fZ l))(hl:l=[]):frM m (.os j) H=0:=by
 subst hl;exact RN h
structure SI(D:Nat)(w:Wk)(r m K:Nat)(s:Srch):Prop where
 known:∀p∈s.known,PInv D p∧p.visits≤6
 more:∀p∈s.more,PInv D p∧p.visits=r+1∧r+1≤w.most
 ml:s.more.length≤m
 kl:s.known.length≤K+s.more.length
 best:s.best.size≤8194
theorem SI.le{D:Nat}{w:Wk}{r m m' K:Nat}{s:Srch}(h:SI D w r m K s)(hm:m≤m'):SI D w r m' K s:=⟨h.known,h.more,Nat.le_trans h.ml hm,h.kl,h.best⟩
theorem Hd(w:Wk)(q:Part)(e m:Int):(mM w q e m).size≤8194:=vP _ _
theorem Cd(w:Wk)(s:Srch)(q:Part):(xA w s q).known=s.known++[q]∧(xA w s q).more=s.more++[q]∧((xA w s q).best=s.best∨∃e m,(xA w s q).best=mM w q e m):=by
 unfold xA;simp only;split
 · exact⟨rfl,rfl,.inr ⟨_,_,rfl⟩⟩
 · exact⟨rfl,rfl,.inl rfl⟩
theorem SI.try{D:Nat}{w:Wk}{r m K:Nat}{s:Srch}(h:SI D w r m K s)(hw:WkB D w)(hm6:w.most≤6){p:Part}(hp:PInv D p)(hpr:p.visits=r){v:Visit}(hv:VisOk w.x v):SI D w r (m+1) K (rF w p s v):=by
 unfold rF;simp only;split
 · exact h.le (Nat.le_succ m)
 · next hc=>
   simp only[Bool.or_eq_true,not_or]at hc;have hq2:(bX w p v).2=true:=by simpa using hc.1
   obtain⟨q1,q2,q3⟩:=Am hw hp hv hq2;obtain⟨e1,e2,e3⟩:=Cd w s (bX w p v).1;refine⟨fun u hu=>?_,fun u hu=>?_,?_,?_,?_⟩
   · rw[e1]at hu
     rcases List.mem_append.1 hu with hu|hu
     · exact h.known u hu
     · rw[List.mem_singleton]at hu;subst hu;exact⟨q1,by omega⟩
   · rw[e2]at hu
     rcases List.mem_append.1 hu with hu|hu
     · exact h.more u hu
     · rw[List.mem_singleton]at hu;subst hu;exact⟨q1,by omega,by omega⟩
   · rw[e2,List.length_append,List.length_singleton];have:=h.ml;omega
   · rw[e1,e2,List.length_append,List.length_append];have:=h.kl;omega
   · rcases e3 with e3|⟨e,mm,e3⟩
     · rw[e3];exact h.best
     · rw[e3];exact Hd _ _ _ _
def afT(w:Wk)(vs:List Visit)(s:Srch)(p:Part):Srch:=vs.foldl (rF w p) s
def pC(x:Instance)(kind:Int)(dual:List ByteArray)(near:List Int):ByteArray×Bool×Int:=
 if(hJ x kind near||(dual.length:Int) != (x.orders.length:Int))=true then(emp,false,2)
 else if(dual.any fun a=> !cE a)=true then(emp,false,3)
 else
   let w:Wk:={ jW x kind.toNat near with dual:=some dual }
   let s:=iW w (cQ x) (w.most+1) ⟨[],[],emp,false⟩ [dY w]
   (s.best,s.found,0)
theorem Bq{D:Nat}(x:Instance)(h:XB D x)(h3:x.orders.length≤3)(kind:Int)(dual:List ByteArray)(near:List Int)(hnl:near.length≤1048576)(hdl:dual.length≤1048576)(hds:∀a∈dual,a.size≤1048576):
   PC Tryz.prog 19 [.agg (aQ x),int kind,.sl (dual.map Go.Aw.D.cV),.sl (near.map aM)] (.tup [str (pC x kind dual near).1,boo (pC x kind dual near).2.1,int (pC x kind dual near).2.2]):=by
 have hx:x.orders.length≤1048576:=by omega
 have eR:pC x kind dual near=if(hJ x kind near||(dual.length:Int) != (x.orders.length:Int))=true then(emp,false,2)
   else if(dual.any fun a=> !cE a)=true then(emp,false,3)
   else
     ((iW { jW x kind.toNat near with dual:=some dual } (cQ x) ((jW x kind.toNat near).most+1) ⟨[],[],emp,false⟩ [dY { jW x kind.toNat near with dual:=some dual }]).best,(iW { jW x kind.toNat near with dual:=some dual } (cQ x) ((jW x kind.toNat near).most+1) ⟨[],[],emp,false⟩ [dY { jW x kind.toNat near with dual:=some dual }]).found,0):=rfl
 generalize pC x kind dual near=R at eR;refine PC.body (c:=Tryz.f19.body.getD .skip) (fun t=>t == 18||t == 20||t == 66) mixed Tryz.func19 rfl (by kernel_rfl) ?_;unfold Tryz.f19;simp only[Option.getD_some];simp only[go_sem];by_cases hB:hJ x kind near=true
 · rw[if_pos (by rw[hB];rfl)]at eR
   subst eR;refine PC.use (HU x kind near hx hnl hB) ?_;simp only[go_sem];refine aA (fun hb=>?_) (fun hb=>nomatch hb);simp only[go_sem];exact .refl _
 have hB:hJ x kind near=false:=by simpa using hB
 rw[hB,Bool.false_or]at eR;obtain⟨kd,rfl⟩:∃k:Nat,kind=(k:Nat):=by
   have:=(vZ hB).1;simp at this;exact⟨kind.toNat,by omega⟩
 rw[Int.toNat_natCast]at eR;refine NC.use (Tc x kd near hx hnl hB) fun jw hjw=>?_
 have R0:aJ bT jw (some (kX (jW x kd near))) jw=some (kX (jW x kd near)):=aB _ _ _;generalize aJ bT jw _=H at R0 ⊢;simp only[go_sem];refine aA (fun hb=>?_) (fun hb=>?_)
 · rw[if_pos (by simpa using hb)]at eR
   subst eR;simp only[go_sem];exact .refl _
 rw[if_neg (by simpa using hb)]at eR;have hdo:dual.length=x.orders.length:=by simp at hb;omega
 simp only[go_sem];refine⟨fun ρ H=>∃(k:Nat),k≤dual.length∧ρ 2=.sl (dual.map Go.Aw.D.cV)∧ρ 4=.rp (aQ x) 0∧ρ 11=.op jw 0 0∧ρ 48=.sl (dual.map Go.Aw.D.cV)∧ρ 49=int (dual.length:Nat)∧ρ 50=int k∧(∀u∈dual.take k,(!cE u)=false)∧H jw=some (kX (jW x kd near)),fun ρ _=>dual.length-bQ (ρ 50),⟨0,Nat.zero_le _,by simp only[go_sem],by simp only[go_sem],by simp only[go_sem],by simp only[go_sem],by simp only[go_sem,List.length_map],(by simp only[go_sem];rfl),by simp,R0⟩,?_⟩;rintro ρ H ⟨k,hk,e2,e4,e11,e48,e49,e50,hz,R0⟩;simp only[go_sem,e2,e4,e11,e48,e49,e50];refine aA (fun hlt=>?_) (fun hge=>?_)
 · have hlt:=ltB (by simpa using hlt)
   obtain⟨a,ha⟩:=bC hlt;have b1:=inB hlt;simp only[go_sem,e2,e4,e11,e48,e49,e50,aH ha,b1];refine PC.use (yY a (hds a (List.mem_of_getElem? ha))) ?_;simp only[go_sem,e2,e4,e11,e48,e49,e50];refine aA (fun hb=>?_) (fun hb=>?_)
   · rw[if_pos (List.any_eq_true.2 ⟨a,List.mem_of_getElem? ha,hb⟩)]at eR
     subst eR;simp only[go_sem];exact .refl _
   · simp only[go_sem,e2,e4,e11,e48,e49,e50,bG (show k≤4611686018427387904 by omega)]
     exact⟨⟨k+1,hlt,rfl,bK (p:=fun u=>(!cE u)=false) ha hb hz,R0⟩,by simp only[aI];omega⟩
 have hge:=geB hk (by simpa using hge);subst hge;rw[List.take_length]at hz;rw[if_neg (by rw[Bool.not_eq_true,List.any_eq_false];intro a ha;rw[hz a ha];simp)]at eR;simp only[go_sem,e2,e4,e11,e48,e49,e50];obtain⟨hw,hcap⟩:=QP h hB (some dual) (fun l e=>by injection e with e;subst e;exact⟨hdo,hds⟩);refine dU X0 R0 (by simp[An]) ?_;have hWx:({ jW x kd near with dual:=some dual }:Wk).x=x:=rfl;have hWc:({ jW x kd near with dual:=some dual }:Wk).t.cap.length=D:=hcap;have hWm:({ jW x kd near with dual:=some dual }:Wk).most=(cQ x).length:=rfl;have hMm:(jW x kd near).most=(cQ x).length:=rfl;rw[hMm,←hWm]at eR;have hrow:aJ H jw (some (⟨89,24,[lT (iI (jW x kd near)) 22 [.sl (dual.map Go.Aw.D.cV)]]⟩:Row)) jw=some (kX { jW x kd near with dual:=some dual }):=by rw[aB];rfl
 generalize ({ jW x kd near with dual:=some dual }:Wk)=w at *;generalize hP:aJ H jw _=HP;have Rw:HP jw=some (kX w):=by rw[←hP];exact hrow
 clear hP hrow R0;simp only[go_sem,e2,e4,e11,e48,e49,e50];refine PC.use (Qe x hx) ?_;have hvs:∀v∈cQ x,VisOk w.x v:=by rw[hWx];exact MF x
 have hvl:(cQ x).length≤6:=by have:=yW x x.orders.length;unfold cQ;omega
 rw[hWm]at eR;generalize cQ x=vs at *;simp only[go_sem,e2,e4,e11,e48,e49,e50];refine aN fun jk hjk=>?_
 simp only[go_sem,e2,e4,e11,e48,e49,e50];have Rw1:=cD hjk (some (⟨94,7,[]⟩:Row)) _ _ Rw;have Rk1:aJ HP jk (some (⟨94,7,[]⟩:Row)) jk=some (fZ []):=aB _ _ _;generalize aJ HP jk _=H1 at Rw1 Rk1 ⊢;refine LC.use (Nm _ jw w Rw1 (by rw[hWc];exact h.D)) ?_;simp only[go_sem,e2,e4,e11,e48,e49,e50];refine aN fun jf hjf=>?_
 have nkf:=aO Rk1 hjf;have Rw2:=cD hjf (some (⟨94,7,[bS (dY w)]⟩:Row)) _ _ Rw1;have Rk2:=cD hjf (some (⟨94,7,[bS (dY w)]⟩:Row)) _ _ Rk1;have Rf2:aJ H1 jf (some (⟨94,7,[bS (dY w)]⟩:Row)) jf=some (fZ [dY w]):=aB _ _ _;generalize aJ H1 jf _=H2 at Rw2 Rk2 Rf2 ⊢;clear Rw1 Rk1 Rw hjf hjk;simp only[go_sem,e2,e4,e11,e48,e49,e50];refine⟨fun ρ H=>∃(jk jf:Nat) (s:Srch) (fresh:List Part) (r:Nat),ρ 11=.op jw 0 0∧ρ 15=.sl (vs.map cK)∧ρ 16=str s.best∧ρ 17=boo s.found∧ρ 18=.os jk∧ρ 19=.os jf∧H jw=some (kX w)∧H jk=some (fZ s.known)∧H jf=some (fZ fresh)∧jk≠jf∧r≤vs.length+1∧(∀p∈s.known,PInv D p∧p.visits≤6)∧(∀p∈fresh,PInv D p∧p.visits=r∧r≤w.most)∧fresh.length≤6^r∧s.known.length≤r*46656∧s.best.size≤8194∧iW w vs (vs.length+1) ⟨[],[],emp,false⟩ [dY w]=iW w vs (vs.length+1-r) s fresh,
   fun ρ H=>frM w.most (ρ 19) H,⟨jk,jf,⟨[],[],emp,false⟩,[dY w],0,by simp only[go_sem,e2,e4,e11,e48,e49,e50],by simp only[go_sem],by simp only[go_sem];rfl,by simp only[go_sem],by simp only[go_sem],by simp only[go_sem],Rw2,Rk2,Rf2,nkf,Nat.zero_le _,by simp,fun p hp=>?_,Nat.le_refl 1,Nat.zero_le _,Nat.zero_le _,rfl⟩,?_⟩
 · rw[List.mem_singleton]at hp;subst hp
   exact⟨Eg hWc,rfl,Nat.zero_le _⟩
 rintro ρ H ⟨jk,jf,s,fresh,r,e11,e15,e16,e17,e18,e19,Rw,Rk,Rf,nkf,hr7,hkn,hfr,hfl,hkl,hbs,hS⟩;simp only[go_sem,e11,e15,e16,e17,e18,e19,Rf,List.length_map];refine aA (fun hb=>?_) (fun hb=>?_)
 rotate_left
 · have hf0 : fresh = [] := by
     have:¬((fresh.length:Int)>0):=by simpa using hb
     exact List.length_eq_zero_iff.1 (by omega)
   subst hf0;have hSe:iW w vs (vs.length+1-r) s []=s:=by
     cases vs.length+1-r with
     | zero=>rfl
     | succ n=>exact if_pos rfl
   rw[hS,hSe]at eR;subst eR;simp only[go_sem,e16,e17];exact .refl _
 have hfn:fresh≠[]:=fun e=>by subst e;simp at hb
 obtain⟨p0,f0,rfl⟩:∃p0 f0,fresh=p0::f0:=by
   cases fresh with
   | nil=>exact absurd rfl hfn
   | cons a l=>exact⟨a,l,rfl⟩
 have hr6:r≤w.most:=(hfr p0 (by simp)).2.2;have hm6:w.most≤6:=by omega
 have hfuel:vs.length+1-r=(vs.length+1-(r+1))+1:=by omega
 rw[hfuel]at hS;have hS2:iW w vs (vs.length+1) ⟨[],[],emp,false⟩ [dY w]=iW w vs (vs.length+1-(r+1)) (xC w vs s (p0::f0)) (xC w vs s (p0::f0)).more:=hS.trans (if_neg hfn);generalize hfe:p0::f0=fresh at *;simp only[go_sem,e11,e15,e16,e17,e18,e19];refine aN fun jm hjm=>?_
 simp only[go_sem,e11,e15,e16,e17,e18,e19];have B:BH (aJ H jm (some (⟨94,7,[]⟩:Row))) w jw jk jm jf s.known [] fresh:=
   ⟨cD hjm _ _ _ Rw,cD hjm _ _ _ Rk,aB _ _ _,cD hjm _ _ _ Rf,aO Rk hjm,nkf,(aO Rf hjm).symm⟩
 generalize aJ H jm _=H3 at B ⊢;have h6r:6^r≤46656:=Nat.le_trans (Nat.pow_le_pow_right (by decide) (show r≤6 by omega)) (by decide);have I0:SI D w r 0 s.known.length { s with more:=[] }:=⟨hkn,by simp,Nat.le_refl 0,Nat.le_refl _,hbs⟩;simp only[go_sem,e11,e15,e16,e17,e18,e19,B.rf,List.length_map];refine⟨fun ρ H=>∃(k:Nat) (jk:Nat) (jm:Nat) (s2:Srch),k≤fresh.length∧ρ 11=.op jw 0 0∧ρ 15=.sl (vs.map cK)∧ρ 70=.os jf∧ρ 71=int (fresh.length:Nat)∧ρ 72=int k∧ρ 16=str s2.best∧ρ 17=boo s2.found∧ρ 18=.os jk∧ρ 20=.os jm∧s2=(fresh.take k).foldl (afT w vs) { s with more:=[] }∧SI D w r (6*k) s.known.length s2∧BH H w jw jk jm jf s2.known s2.more fresh,fun ρ _=>fresh.length-bQ (ρ 72),⟨0,jk,jm,{ s with more:=[] },Nat.zero_le _,by simp only[go_sem,e11,e15,e16,e17,e18,e19],by simp only[go_sem,e11,e15,e16,e17,e18,e19],by simp only[go_sem,e11,e15,e16,e17,e18,e19],by simp only[go_sem,List.length_map,e11,e15,e16,e17,e18,e19],(by simp only[go_sem,e11,e15,e16,e17,e18,e19];rfl),by simp only[go_sem,e16],by simp only[go_sem,e17],by simp only[go_sem,e18],by simp only[go_sem],rfl,I0,B⟩,?_⟩;rintro ρ H ⟨k,jk,jm,s2,hk,e11,e15,e70,e71,e72,e16,e17,e18,e20,hs2,I,B⟩;simp only[go_sem,e11,e15,e70,e71,e72,e16,e17,e18,e20];refine aA (fun hlt=>?_) (fun hge=>?_)
 · have hlt:=ltB (by simpa using hlt)
   obtain⟨p,hp⟩:=bC hlt;have b1:=inB hlt;have hst:=Sq.iQ (f:=afT w vs) (b:={ s with more:=[] }) hp;have hpf:=hfr p (List.mem_of_getElem? hp);simp only[go_sem,e11,e15,e70,e71,e72,e16,e17,e18,e20,B.rf,List.length_map,aH hp,b1];refine⟨by omega,aN fun i22 h22=>?_⟩;simp only[go_sem,e11,e15,e70,e71,e72,e16,e17,e18,e20];refine aU (aB _ _ _) (by simp[bO]) ?_;have B2:=B.mono (xU h22 (some (⟨94,7,[[int 0,int 0,int 0,int 0,.sl [],.sl [],str ByteArray.empty]]⟩:Row)) (some (eF p)));have C2:BI (aJ (aJ H i22 (some (⟨94,7,[[int 0,int 0,int 0,int 0,.sl [],.sl [],str ByteArray.empty]]⟩:Row))) i22 (some (eF p))) jk jm i22 p:=⟨aB _ _ _,(aO B.rk h22).symm,(aO B.rm h22).symm⟩;generalize hG:aJ (aJ H i22 _) i22 _=H4;replace B2:BH H4 w jw jk jm jf s2.known s2.more fresh:=by rw[←hG];exact B2
   replace C2:BI H4 jk jm i22 p:=by rw[←hG];exact C2
   clear hG h22 B;simp only[go_sem,e11,e15,e70,e71,e72,e16,e17,e18,e20,List.length_map];generalize hk0:k=k0 at *;refine⟨fun ρ H=>∃(k:Nat) (jk:Nat) (jm:Nat) (s3:Srch),k≤vs.length∧ρ 11=.op jw 0 0∧ρ 15=.sl (vs.map cK)∧ρ 22=.op i22 0 0∧ρ 70=.os jf∧ρ 71=int (fresh.length:Nat)∧ρ 72=int (k0:Nat)∧ρ 76=.sl (vs.map cK)∧ρ 77=int (vs.length:Nat)∧ρ 78=int k∧ρ 16=str s3.best∧ρ 17=boo s3.found∧ρ 18=.os jk∧ρ 20=.os jm∧s3=(vs.take k).foldl (rF w p) s2∧SI D w r (6*k0+k) s.known.length s3∧BH H w jw jk jm jf s3.known s3.more fresh∧BI H jk jm i22 p,fun ρ _=>vs.length-bQ (ρ 78),⟨0,jk,jm,s2,Nat.zero_le _,by simp only[go_sem,e11,e15,e70,e71,e72,e16,e17,e18,e20],by simp only[go_sem,e11,e15,e70,e71,e72,e16,e17,e18,e20],by simp only[go_sem,e11,e15,e70,e71,e72,e16,e17,e18,e20],by simp only[go_sem,e11,e15,e70,e71,e72,e16,e17,e18,e20],by simp only[go_sem,e11,e15,e70,e71,e72,e16,e17,e18,e20],by simp only[go_sem,e11,e15,e70,e71,e72,e16,e17,e18,e20],by simp only[go_sem,e11,e15,e70,e71,e72,e16,e17,e18,e20],by simp only[go_sem,List.length_map,e11,e15,e70,e71,e72,e16,e17,e18,e20],(by simp only[go_sem,e11,e15,e70,e71,e72,e16,e17,e18,e20];rfl),by simp only[go_sem,e16],by simp only[go_sem,e17],by simp only[go_sem,e18],by simp only[go_sem,e20],rfl,I,B2,C2⟩,?_⟩;rintro ρ H ⟨k,jk,jm,s3,hk,e11,e15,e22,e70,e71,e72,e76,e77,e78,e16,e17,e18,e20,hs3,I3,B,C⟩;simp only[go_sem,e11,e15,e22,e70,e71,e72,e76,e77,e78,e16,e17,e18,e20];refine aA (fun hlt=>?_) (fun hge=>?_)
   · have hlt3:=ltB (by simpa using hlt)
     obtain⟨v,hv⟩:=bC hlt3;have b2:=inB hlt3;have hst3:=Sq.iQ (f:=rF w p) (b:=s2) hv;rw[←hs3]at hst3;have hvo:=hvs v (List.mem_of_getElem? hv);obtain⟨o,hvo1,ho⟩:=hvo.ex;have hve:v=⟨(o:Nat),v.drop⟩:=by rw[←hvo1]
     have I4:=I3.try hw hm6 hpf.1 hpf.2.1 hvo;have hts:rF w p s3 v=if(!(bX w p v).2||s3.known.any fun k=>qP k (bX w p v).1)=true then s3 else xA w s3 (bX w p v).1:=rfl
     have hnt:=Am hw hpf.1 hvo;have hc20:p.clocks.length≤1048576:=Nat.le_trans hpf.1.clk (Nat.le_trans (Nat.pow_le_pow_right (by decide) (show p.visits≤16 by omega)) (by decide));simp only[go_sem,e11,e15,e22,e70,e71,e72,e76,e77,e78,e16,e17,e18,e20,aH hv,b2];refine aN fun i24 h24=>?_
     simp only[go_sem,e11,e15,e22,e70,e71,e72,e76,e77,e78,e16,e17,e18,e20];refine aU (aB _ _ _) (by simp[oM]) ?_;have B2:=B.mono (xU h24 (some (⟨97,2,[[int 0,boo false]]⟩:Row)) (some (sG v)));have C2:=C.mono (xU h24 (some (⟨97,2,[[int 0,boo false]]⟩:Row)) (some (sG v)));have R24:aJ (aJ H i24 (some (⟨97,2,[[int 0,boo false]]⟩:Row))) i24 (some (sG v)) i24=some (sG v):=aB _ _ _;generalize hG:aJ (aJ H i24 _) i24 _=H5;replace B2:BH H5 w jw jk jm jf s3.known s3.more fresh:=by rw[←hG];exact B2
     replace C2:BI H5 jk jm i22 p:=by rw[←hG];exact C2
     replace R24:H5 i24=some (sG v):=by rw[←hG];exact R24
     clear hG h24 B C;simp only[go_sem,e11,e15,e22,e70,e71,e72,e76,e77,e78,e16,e17,e18,e20,C2.ri,R24];rw[hve];refine LC.use (QY _ jw w B2.rw p o v.drop ho hw.ok hpf.1.ok (by have:=hw.n;omega) (by rw[hpf.1.load,hw.dim o ho]) (by rw[hpf.1.load];exact hw.D) hc20 (by omega)) ?_;rw[←hve];generalize bX w p v=q at *;simp only[go_sem,e11,e15,e22,e70,e71,e72,e76,e77,e78,e16,e17,e18,e20];refine aN fun i25 h25=>?_
     simp only[go_sem,e11,e15,e22,e70,e71,e72,e76,e77,e78,e16,e17,e18,e20];refine aU (aB _ _ _) (by simp[bO]) ?_;have B3:=B2.mono (xU h25 (some (⟨94,7,[[int 0,int 0,int 0,int 0,.sl [],.sl [],str ByteArray.empty]]⟩:Row)) (some (eF q.1)));have C3:=C2.mono (xU h25 (some (⟨94,7,[[int 0,int 0,int 0,int 0,.sl [],.sl [],str ByteArray.empty]]⟩:Row)) (some (eF q.1)));have E3:BI (aJ (aJ H5 i25 (some (⟨94,7,[[int 0,int 0,int 0,int 0,.sl [],.sl [],str ByteArray.empty]]⟩:Row))) i25 (some (eF q.1))) jk jm i25 q.1:=⟨aB _ _ _,(aO B2.rk h25).symm,(aO B2.rm h25).symm⟩;generalize hG:aJ (aJ H5 i25 _) i25 _=H6;replace B3:BH H6 w jw jk jm jf s3.known s3.more fresh:=by rw[←hG];exact B3
     replace C3:BI H6 jk jm i22 p:=by rw[←hG];exact C3
     replace E3:BI H6 jk jm i25 q.1:=by rw[←hG];exact E3
     clear hG h25 B2 C2 R24;simp only[go_sem,e11,e15,e22,e70,e71,e72,e76,e77,e78,e16,e17,e18,e20];refine⟨boo (s3.known.any fun k=>qP k q.1),fun hg=>.inl ⟨[.sl (s3.known.map bS),.fn 49 [.rp (bS q.1) 0]],.cons _ _ _ _ (.row _ _ _ B3.rk (ConvE.refl _)) (.cons _ _ _ _ (.fn _ _ _ (.cons _ _ _ _ (.ptr _ _ _ _ _ E3.ri (by simp) (ConvL.refl _)) .nil)) .nil),RK s3.known (by have:=I3.kl;have:=I3.ml;omega) (by kernel_rfl) (fun u hu=>?_),rfl⟩,?_⟩
     · have hq2:q.2=true:=by simpa using hg
       obtain⟨q1,q2,q3⟩:=hnt hq2;obtain⟨u1,u2⟩:=I3.known u hu;have hD:=hw.D;exact RD u q.1 u1.ok.mem q1.ok.mem (by rw[u1.load];exact hD) u1.ok.value q1.ok.value (Nat.le_trans u1.clk (Nat.le_trans (Nat.pow_le_pow_right (by decide) u2) (by decide))) (Nat.le_trans q1.clk (Nat.le_trans (Nat.pow_le_pow_right (by decide) (show q.1.visits≤6 by omega)) (by decide)))
     simp only[go_sem,e11,e15,e22,e70,e71,e72,e76,e77,e78,e16,e17,e18,e20];refine aA (fun hb=>?_) (fun hb=>?_)
     · rw[if_pos hb]at hts
       rw[hts]at I4 hst3;simp only[go_sem,e11,e15,e22,e70,e71,e72,e76,e77,e78,e16,e17,e18,e20,bG (show k≤4611686018427387904 by omega)];exact⟨⟨k+1,jk,jm,s3,hlt3,rfl,rfl,rfl,rfl,rfl,hst3.symm,I4,B3,C3⟩,by simp only[aI];omega⟩
     rw[if_neg (fun h=>Bool.noConfusion (hb.symm.trans h))]at hts;have hq2:q.2=true:=by
       have:=(Bool.or_eq_false_iff.1 hb).1;simpa using this
     obtain⟨q1,q2,q3⟩:=hnt hq2;have hkl3:s3.known.length≤1000000:=by have:=I3.kl;have:=I3.ml;omega
     have hml3:s3.more.length≤1000000:=by have:=I3.ml;omega
     simp only[go_sem,e11,e15,e22,e70,e71,e72,e76,e77,e78,e16,e17,e18,e20,E3.ri];refine bA B3.rk ⟨rfl,rfl⟩ (by simp only[go_sem,bO]) (by simp only[List.length_map,List.length_cons,List.length_nil];omega) (fun j1 hj1=>?_);simp only[go_sem,e11,e15,e22,e70,e71,e72,e76,e77,e78,e16,e17,e18,e20];rw[EA];have B4:=B3.appK hj1 q.1;have C4:=C3.appK hj1 (some (fZ (s3.known++[q.1])));have E4:=E3.appK hj1 (some (fZ (s3.known++[q.1])));generalize aJ (aJ H6 jk none) j1 _=H7 at B4 C4 E4 ⊢;clear B3 C3 E3 hj1;simp only[go_sem,e11,e15,e22,e70,e71,e72,e76,e77,e78,e16,e17,e18,e20,E4.ri];refine bA B4.rm ⟨rfl,rfl⟩ (by simp only[go_sem,bO]) (by simp only[List.length_map,List.length_cons,List.length_nil];omega) (fun j2 hj2=>?_);simp only[go_sem,e11,e15,e22,e70,e71,e72,e76,e77,e78,e16,e17,e18,e20];rw[EA];have B5:=B4.appM hj2 q.1;have C5:=C4.appM hj2 (some (fZ (s3.more++[q.1])));have E5:=E4.appM hj2 (some (fZ (s3.more++[q.1])));generalize aJ (aJ H7 jm none) j2 _=H8 at B5 C5 E5 ⊢;clear B4 C4 E4 hj2;have hc6:q.1.clocks.length≤1048576:=Nat.le_trans q1.clk (Nat.le_trans (Nat.pow_le_pow_right (by decide) (show q.1.visits≤16 by omega)) (by decide));have hsee:xA w s3 q.1=if((iB w q.1).2.2&&(!s3.found||decide (sY (mM w q.1 (iB w q.1).1 (iB w q.1).2.1) s3.best<0)))=true then { known:=s3.known++[q.1],more:=s3.more++[q.1],best:=mM w q.1 (iB w q.1).1 (iB w q.1).2.1,found:=true }else { s3 with known:=s3.known++[q.1],more:=s3.more++[q.1] }:=rfl
     rw[hts]at hst3 I4;simp only[go_sem,e11,e15,e22,e70,e71,e72,e76,e77,e78,e16,e17,e18,e20,E5.ri];refine LC.use (VY _ jw w B5.rw q.1 hw.ok hc6) ?_;have hps:=Hd w q.1 (iB w q.1).1 (iB w q.1).2.1;generalize iB w q.1=en at *;simp only[go_sem,e11,e15,e22,e70,e71,e72,e76,e77,e78,e16,e17,e18,e20];refine fU (fun ρ' H'=>ρ' 11=.op jw 0 0∧ρ' 15=.sl (vs.map cK)∧ρ' 22=.op i22 0 0∧ρ' 70=.os jf∧ρ' 71=int (fresh.length:Nat)∧ρ' 72=int (k0:Nat)∧ρ' 76=.sl (vs.map cK)∧ρ' 77=int (vs.length:Nat)∧ρ' 78=int k∧ρ' 18=.os j1∧ρ' 20=.os j2∧ρ' 16=str (xA w s3 q.1).best∧ρ' 17=boo (xA w s3 q.1).found∧(xA w s3 q.1).known=s3.known++[q.1]∧(xA w s3 q.1).more=s3.more++[q.1]∧H'=H8) ?_ fun K hK _ _=>aA (fun hb=>?_) (fun hb=>?_)
     rotate_left
     · simp only[go_sem,e11,e15,e22,e70,e71,e72,e76,e77,e78,e16,e17,e18,e20,E5.ri]
       refine LC.use (Vi _ jw w B5.rw q.1 en.1 en.2.1 q1.ok.value) ?_;generalize mM w q.1 en.1 en.2.1=pr at *;simp only[go_sem,e11,e15,e22,e70,e71,e72,e76,e77,e78,e16,e17,e18,e20];refine⟨_,fun _=>PC.q (lF pr s3.best (by omega) (by have:=I3.best;omega)) rfl,?_⟩;simp only[go_sem,e11,e15,e22,e70,e71,e72,e76,e77,e78,e16,e17,e18,e20];refine aA (fun hb2=>?_) (fun hb2=>?_)
       · rw[if_pos (by rw[hb,Bool.true_and];exact hb2)]at hsee
         rw[hsee]at hK;simp only[go_sem,e11,e15,e22,e70,e71,e72,e76,e77,e78,e16,e17,e18,e20];exact hK _ _ ⟨by simp only[go_sem,e11,e15,e22,e70,e71,e72,e76,e77,e78,e16,e17,e18,e20],by simp only[go_sem,e11,e15,e22,e70,e71,e72,e76,e77,e78,e16,e17,e18,e20],by simp only[go_sem,e11,e15,e22,e70,e71,e72,e76,e77,e78,e16,e17,e18,e20],by simp only[go_sem,e11,e15,e22,e70,e71,e72,e76,e77,e78,e16,e17,e18,e20],by simp only[go_sem,e11,e15,e22,e70,e71,e72,e76,e77,e78,e16,e17,e18,e20],by simp only[go_sem,e11,e15,e22,e70,e71,e72,e76,e77,e78,e16,e17,e18,e20],by simp only[go_sem,e11,e15,e22,e70,e71,e72,e76,e77,e78,e16,e17,e18,e20],by simp only[go_sem,e11,e15,e22,e70,e71,e72,e76,e77,e78,e16,e17,e18,e20],by simp only[go_sem,e11,e15,e22,e70,e71,e72,e76,e77,e78,e16,e17,e18,e20],by simp only[go_sem],by simp only[go_sem],by simp only[go_sem],by simp only[go_sem],rfl,rfl,rfl⟩
       · rw[if_neg (fun h=>by rw[hb,Bool.true_and]at h;exact Bool.noConfusion (hb2.symm.trans h))]at hsee
         rw[hsee]at hK;simp only[go_sem,e11,e15,e22,e70,e71,e72,e76,e77,e78,e16,e17,e18,e20];exact hK _ _ ⟨by simp only[go_sem,e11,e15,e22,e70,e71,e72,e76,e77,e78,e16,e17,e18,e20],by simp only[go_sem,e11,e15,e22,e70,e71,e72,e76,e77,e78,e16,e17,e18,e20],by simp only[go_sem,e11,e15,e22,e70,e71,e72,e76,e77,e78,e16,e17,e18,e20],by simp only[go_sem,e11,e15,e22,e70,e71,e72,e76,e77,e78,e16,e17,e18,e20],by simp only[go_sem,e11,e15,e22,e70,e71,e72,e76,e77,e78,e16,e17,e18,e20],by simp only[go_sem,e11,e15,e22,e70,e71,e72,e76,e77,e78,e16,e17,e18,e20],by simp only[go_sem,e11,e15,e22,e70,e71,e72,e76,e77,e78,e16,e17,e18,e20],by simp only[go_sem,e11,e15,e22,e70,e71,e72,e76,e77,e78,e16,e17,e18,e20],by simp only[go_sem,e11,e15,e22,e70,e71,e72,e76,e77,e78,e16,e17,e18,e20],by simp only[go_sem],by simp only[go_sem],by simp only[go_sem,e11,e15,e22,e70,e71,e72,e76,e77,e78,e16,e17,e18,e20],by simp only[go_sem,e11,e15,e22,e70,e71,e72,e76,e77,e78,e16,e17,e18,e20],rfl,rfl,rfl⟩
     · rw[if_neg (fun h=>by rw[hb,Bool.false_and]at h;cases h)]at hsee
       rw[hsee]at hK;simp only[go_sem];exact hK _ _ ⟨by simp only[go_sem,e11,e15,e22,e70,e71,e72,e76,e77,e78,e16,e17,e18,e20],by simp only[go_sem,e11,e15,e22,e70,e71,e72,e76,e77,e78,e16,e17,e18,e20],by simp only[go_sem,e11,e15,e22,e70,e71,e72,e76,e77,e78,e16,e17,e18,e20],by simp only[go_sem,e11,e15,e22,e70,e71,e72,e76,e77,e78,e16,e17,e18,e20],by simp only[go_sem,e11,e15,e22,e70,e71,e72,e76,e77,e78,e16,e17,e18,e20],by simp only[go_sem,e11,e15,e22,e70,e71,e72,e76,e77,e78,e16,e17,e18,e20],by simp only[go_sem,e11,e15,e22,e70,e71,e72,e76,e77,e78,e16,e17,e18,e20],by simp only[go_sem,e11,e15,e22,e70,e71,e72,e76,e77,e78,e16,e17,e18,e20],by simp only[go_sem,e11,e15,e22,e70,e71,e72,e76,e77,e78,e16,e17,e18,e20],by simp only[go_sem],by simp only[go_sem],by simp only[go_sem,e11,e15,e22,e70,e71,e72,e76,e77,e78,e16,e17,e18,e20],by simp only[go_sem,e11,e15,e22,e70,e71,e72,e76,e77,e78,e16,e17,e18,e20],rfl,rfl,rfl⟩
     rintro ρ H ⟨e11,e15,e22,e70,e71,e72,e76,e77,e78,e18,e20,e16,e17,s1,s2',rfl⟩;simp only[go_sem,e11,e15,e22,e70,e71,e72,e76,e77,e78,e16,e17,e18,e20,bG (show k≤4611686018427387904 by omega)];refine⟨⟨k+1,j1,j2,xA w s3 q.1,hlt3,rfl,rfl,rfl,rfl,rfl,hst3.symm,I4,?_,C5⟩,by simp only[aI];omega⟩;rw[s1,s2'];exact B5
   have hge3:=geB hk (by simpa using hge);subst hge3;rw[List.take_length]at hs3;simp only[go_sem,e11,e15,e22,e70,e71,e72,e76,e77,e78,e16,e17,e18,e20,bG (show k0≤4611686018427387904 by omega)];refine⟨⟨k0+1,jk,jm,s3,hlt,rfl,rfl,rfl,rfl,rfl,?_,I3.le (by omega),B⟩,by simp only[aI];omega⟩;rw[hst,←hs2];exact hs3
 have hge:=geB hk (by simpa using hge);subst hge;rw[List.take_length]at hs2;have hro:s2=xC w vs s fresh:=hs2;rw[←hro]at hS2;simp only[go_sem,e11,e15,e70,e71,e72,e16,e17,e18,e20];have hm46:s2.more.length≤46656:=by
   by_cases hne:s2.more=[]
   · rw[hne];exact Nat.zero_le _
   · obtain⟨a,ha⟩:=List.exists_mem_of_ne_nil _ hne
     have:=(I.more a ha).2.2;have h2:6^(r+1)≤46656:=Nat.le_trans (Nat.pow_le_pow_right (by decide) (show r+1≤6 by omega)) (by decide);have h3:=I.ml;rw[Nat.pow_succ]at h2;omega
 refine⟨⟨jk,jm,s2,s2.more,r+1,rfl,rfl,rfl,rfl,B.rw,B.rk,B.rm,B.km,by omega,I.known,fun p hp=>I.more p hp,?_,?_,I.best,hS2⟩,?_⟩
 · have h3:=I.ml
   rw[Nat.pow_succ];omega
 · have h3:=I.kl
   omega
 · rw[IB Rf hfe]
   have h0:=hfr p0 (by rw[←hfe];simp);have hmo:=I.more;cases hmm:s2.more with
   | nil=>rw[TW B.rm hmm];omega
   | cons a l=>
     have h1:=hmo a (by rw[hmm];simp);rw[IB B.rm hmm.symm];omega
end Go.Proofs.YtdlijlecpopadaaGreatDoor.Rx
end
section
namespace Go.So
variable{α:Type}
structure SWO(lt:α→α→Bool):Prop where
 asym:∀a b,lt a b=true→lt b a=false
 neg:∀a b c,lt a b=false→lt b c=false→lt a c=false
def tlt(lt:α→α→Bool)(p q:α×Nat):Prop:=lt p.1 q.1=true∨(lt q.1 p.1=false∧p.2<q.2)
section
variable{lt:α→α→Bool}(h:SWO lt)
include h
theorem abG{a b c:α}(h1:lt a b=true)(h2:lt c b=false):lt a c=true:=by
 cases hc:lt a c with
 | true=>rfl
 | false=>have:=h.neg _ _ _ hc h2;rw[h1]at this;cases this
theorem WM{a b c:α}(h1:lt a b=true)(h2:lt a c=false):lt c b=true:=by
 cases hc:lt c b with
 | true=>rfl
 | false=>have:=h.neg _ _ _ h2 hc;rw[h1]at this;cases this
theorem Mz{p q:α×Nat}(h1:tlt lt p q):lt q.1 p.1=false:=h1.elim (fun e=>h.asym _ _ e) (fun e=>e.1)
theorem zM{p q r:α×Nat}(h1:tlt lt p q)(h2:tlt lt q r):tlt lt p r:=by
 rcases h1 with h1|⟨h1,h1'⟩
 · exact .inl (abG h h1 (Mz h h2))
 · rcases h2 with h2|⟨h2,h2'⟩
   · exact .inl (WM h h2 h1)
   · exact .inr ⟨h.neg _ _ _ h2 h1,by omega⟩
theorem Qv{p q:α×Nat}(h1:tlt lt p q)(h2:tlt lt q p):False:=by
 rcases h1 with h1|⟨h1,h1'⟩
 · have:=Mz h h2;rw[h1]at this;cases this
 · rcases h2 with h2|⟨h2,h2'⟩
   · rw[h1]at h2;cases h2
   · omega
end
theorem AQ{R:α→α→Prop}(ha:∀a b,R a b→R b a→False):∀l1 l2:List α,l1.Perm l2→l1.Pairwise R→l2.Pairwise R→l1=l2
 | [],l2,hp,_,_=>(List.nil_perm.1 hp).symm
 | a::t,[],hp,_,_=>absurd hp.length_eq (by simp)
 | a::t,b::u,hp,h1,h2=>by
   have h1':=List.pairwise_cons.1 h1;have h2':=List.pairwise_cons.1 h2;by_cases e:a=b
   · subst e
     rw[AQ ha t u ((List.perm_cons a).1 hp) h1'.2 h2'.2]
   · have ma:a∈u:=(List.mem_cons.1 (hp.mem_iff.1 (List.mem_cons_self ..))).resolve_left e
     have mb:b∈t:=(List.mem_cons.1 (hp.mem_iff.2 (List.mem_cons_self ..))).resolve_left (fun x=>e x.symm);exact(ha a b (h1'.1 b mb) (h2'.1 a ma)).elim
def ins(lt:α→α→Bool)(x:α):List α→List α
 | []=>[x]
 | z::r=>if lt x z=true then x::z::r else z::ins lt x r
def kY(lt:α→α→Bool)(l:List α):List α:=l.foldl (fun acc x=>ins lt x acc) []
theorem yP(lt:α→α→Bool)(x:α):∀l:List α,(ins lt x l).Perm (x::l)
 | []=>.refl _
 | z::r=>by
   unfold ins;split
   · exact .refl _
   · exact((yP lt x r).cons z).trans (.swap x z r)
theorem MY{β:Type}(lt:α→α→Bool)(f:β→α)(x:β):∀l:List β,(ins (fun a b=>lt (f a) (f b)) x l).map f=ins lt (f x) (l.map f)
 | []=>rfl
 | z::r=>by
   rw[List.map_cons];unfold ins;split
   · rfl
   · rw[List.map_cons,MY lt f x r]
theorem Ny{lt:α→α→Bool}{x y:α}{l:List α}:y∈ins lt x l↔y=x∨y∈l:=by rw[(yP lt x l).mem_iff,List.mem_cons]
theorem Bt{lt:α→α→Bool}(h:SWO lt)(x:α×Nat):∀l:List (α×Nat),l.Pairwise (tlt lt)→(∀y∈l,y.2<x.2)→(ins (fun a b=>lt a.1 b.1) x l).Pairwise (tlt lt)
 | [],_,_=>by simp[ins]
 | z::r,hs,hr=>by
   have hs':=List.pairwise_cons.1 hs;unfold ins;split
   · next hx=>
     refine List.pairwise_cons.2 ⟨fun y hy=>?_,hs⟩;rcases List.mem_cons.1 hy with rfl|hy
     · exact .inl hx
     · exact zM h (.inl hx) (hs'.1 y hy)
   · next hx=>
     refine List.pairwise_cons.2 ⟨fun y hy=>?_,Bt h x r hs'.2 fun y hy=>hr y (List.mem_cons_of_mem _ hy)⟩;rcases Ny.1 hy with rfl|hy
     · exact .inr ⟨by simpa using hx,hr z (List.mem_cons_self ..)⟩
     · exact hs'.1 y hy
theorem E6{lt:α→α→Bool}(h:SWO lt):∀(l acc:List (α×Nat)) (k:Nat),acc.Pairwise (tlt lt)→(∀y∈acc,y.2<k)→(∀i (y:α×Nat),l[i]?=some y→y.2=k+i) →
   ((l.foldl (fun a x=>ins (fun a b=>lt a.1 b.1) x a) acc).Pairwise (tlt lt)∧(l.foldl (fun a x=>ins (fun a b=>lt a.1 b.1) x a) acc).Perm (acc++l)∧(l.foldl (fun a x=>ins (fun a b=>lt a.1 b.1) x a) acc).map Prod.fst=(l.map Prod.fst).foldl (fun a x=>ins lt x a) (acc.map Prod.fst))
 | [],acc,k,hs,_,_=>⟨hs,by simp,rfl⟩
 | x::l,acc,k,hs,hk,hl=>by
   have hx:x.2=k:=by have:=hl 0 x rfl;omega
   have ih:=E6 h l (ins (fun a b=>lt a.1 b.1) x acc) (k+1) (Bt h x acc hs fun y hy=>by have:=hk y hy;omega) (fun y hy=>by
     rcases Ny.1 hy with rfl|hy
     · omega
     · have:=hk y hy;omega) (fun i y hi=>by have:=hl (i+1) y (by simpa using hi);omega)
   rw[List.foldl_cons];refine⟨ih.1,ih.2.1.trans ?_,?_⟩
   · refine((yP _ x acc).append_right l).trans ?_
     exact List.perm_middle.symm
   · rw[ih.2.2,MY lt Prod.fst x acc,List.map_cons,List.foldl_cons]
def tag(l:List α):List (α×Nat):=l.zipIdx
theorem Fr(l:List α):(tag l).map Prod.fst=l:=by unfold tag;exact List.zipIdx_map_fst 0 l
theorem F2{l:List α}{i:Nat}{y:α×Nat}(h:(tag l)[i]?=some y):y.2=i:=by
 unfold tag at h;rw[List.getElem?_zipIdx]at h;cases hx:l[i]? with
 | none=>rw[hx]at h;cases h
 | some a=>rw[hx]at h;simp at h;rw[←h]
theorem UQ(l:List α):(tag l).length=l.length:=by unfold tag;exact List.length_zipIdx
theorem OF{lt:α→α→Bool}(h:SWO lt){l:List α}{L:List (α×Nat)}(hp:L.Perm (tag l))(hs:L.Pairwise (tlt lt)):L.map Prod.fst=kY lt l:=by
 have hf:=E6 h (tag l) [] 0 List.Pairwise.nil (by simp) (fun i y hi=>by have:=F2 hi;omega);rw[AQ (fun a b=>Qv h) L _ (hp.trans hf.2.1.symm) hs hf.1,hf.2.2,Fr];rfl
section
variable{lt:α→α→Bool}(h:SWO lt)
include h
theorem LR{Q B:List (α×Nat)}{x:α×Nat}(hs:(Q++B).Pairwise (tlt lt))(h1:∀y,Q.getLast?=some y→tlt lt y x)(h2:∀y,B.head?=some y→tlt lt x y):(Q++x::B).Pairwise (tlt lt):=by
 obtain⟨hQ,hB,hQB⟩:=List.pairwise_append.1 hs;have hxB:∀b∈B,tlt lt x b:=by
   intro b hb;cases B with
   | nil=>cases hb
   | cons y r=>
     rcases List.mem_cons.1 hb with rfl|hb
     · exact h2 b rfl
     · exact zM h (h2 y rfl) ((List.pairwise_cons.1 hB).1 b hb)
 have hQx:∀a∈Q,tlt lt a x:=by
   intro a ha;rcases List.eq_nil_or_concat Q with rfl|⟨Q',y,rfl⟩
   · cases ha
   · rw[List.concat_eq_append]at *
     have hy:=h1 y (by simp);rcases List.mem_append.1 ha with ha|ha
     · exact zM h ((List.pairwise_append.1 hQ).2.2 a ha y (by simp)) hy
     · rw[List.mem_singleton.1 ha];exact hy
 refine List.pairwise_append.2 ⟨hQ,List.pairwise_cons.2 ⟨hxB,hB⟩,fun a ha b hb=>?_⟩;rcases List.mem_cons.1 hb with rfl|hb
 · exact hQx a ha
 · exact hQB a ha b hb
end
def swp(l:List α)(i j:Nat):List α:=match l[i]?,l[j]? with
 | some x,some y=>(l.set i y).set j x
 | _,_=>l
theorem Xe{U V W:List α}{x y:α}{i j:Nat}(hi:i=U.length)(hj:j=U.length+1+V.length):swp (U++x::(V++y::W)) i j=U++y::(V++x::W):=by
 subst hi hj;unfold swp;have e1:(U++x::(V++y::W))[U.length]?=some x:=by simp
 have e2:(U++x::(V++y::W))[U.length+1+V.length]?=some y:=by
   rw[List.getElem?_append_right (by omega),show U.length+1+V.length-U.length=V.length+1 by omega,List.getElem?_cons_succ,List.getElem?_append_right (by omega)];simp
 rw[e1,e2];simp only;rw[List.set_append_right _ _ (by omega),show U.length-U.length=0 by omega,List.set_cons_zero,List.set_append_right _ _ (by omega),show U.length+1+V.length-U.length=V.length+1 by omega,List.set_cons_succ,List.set_append_right _ _ (by omega),Nat.sub_self,List.set_cons_zero]
theorem S4{U W:List α}{x y:α}{i j:Nat}(hi:i=U.length)(hj:j=U.length+1):swp (U++x::y::W) i j=U++y::x::W:=Xe (V:=[]) hi (by simpa using hj)
theorem SY(l:List α)(i j:Nat)(h:i≠j):swp l i j=swp l j i:=by
 unfold swp;cases l[i]? with
 | none=>cases l[j]? <;> rfl
 | some x=>cases l[j]? with
   | none=>rfl
   | some y=>exact List.set_comm _ _ h
def abK(A B:List (α×Nat)):Prop:=∀x∈A,∀y∈B,x.2<y.2
structure Good(lt:α→α→Bool)(R:List (List (α×Nat))):Prop where
 srt:∀A∈R,A.Pairwise (tlt lt)
 rk:R.Pairwise abK
end Go.So
end
