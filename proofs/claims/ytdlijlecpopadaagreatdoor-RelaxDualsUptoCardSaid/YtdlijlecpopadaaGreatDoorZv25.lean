/- Texts joined by a program: RxL, RxA, RxB. -/
import Derived.Test.YtdlijlecpopadaaGreatDoorZv16
import Derived.Test.YtdlijlecpopadaaGreatDoorZv23
import Derived.Test.YtdlijlecpopadaaGreatDoorZv24
set_option linter.unusedSimpArgs false
set_option linter.unusedVariables false
set_option maxRecDepth 100000
section
namespace Go.Aw
open Go.RowKit
section
variable{P:Program}{f:FuncId}{args:List AV}{H:aF}{K:AV→aF→Prop}{r:AV}
def Sup(H H':aF):Prop:=∀k row,H k=some row→H' k=some row
def rM(H:aF)(r:AV)(a:AV)(H':aF):Prop:=Sup H H'∧∃l:List Nat,(∀k,k∈l→H k=none)∧Conv (fun k=>if k∈l then H' k else none) a r
theorem bN.data(h:bN P f args H (rM H r))(hK:K r H):bN P f args H K:=by
 intro S w vals hS ha;refine(h S w vals hS ha).mono fun e w' ⟨v,x,H',S',he,⟨hm,l,hl,hc⟩,hS',hv,hg,hn⟩=>?_
 obtain⟨h1,h2,h3⟩:=hS'.frz l;refine⟨v,r,H,S'.froze _,he,hK,h1.drop (fun k row hk=>?_),hc.rep h3 hv,hg.trans h2,fun k _ h0=>h0⟩;have hkl:¬k∈l:=fun hkl=>by rw[hl k hkl]at hk;cases hk
 show(if k∈l then none else H' k)=some row;rw[if_neg hkl];exact hm k row hk
def LC(P:Program)(f:FuncId)(args:List AV)(H:aF)(r:AV):Prop:=∀K:AV→aF→Prop,K r H→bN P f args H K
theorem LC.use(h:LC P f args H r)(hK:K r H):bN P f args H K:=h K hK
theorem LC.body{fn:Func}{c:Code}(mt:Nat→Bool)(hm:P.follows .mixedOrders=true)(hf:P.funcs[f]?=some fn)(hb:fn.body=some c)(hc:Fm fn c args.length=true)
 (h:awp P (bN P) (dB P) mt c (N0 P fn.results.toList (rM H r)) (Hh args) H):LC P f args H r:=fun K hK=>bN.data (bN.body mt hm hf hb hc h) hK
theorem Sup.refl(H:aF):Sup H H:=fun _ _ h=>h
theorem Sup.upd{H H':aF}(h:Sup H H'){i:Nat}(hi:H i=none)(a:Option Row):Sup H (aJ H' i a):=fun k row hk=>by
 rw[aD _ _ _ _ (fun e=>by subst e;rw[hi]at hk;cases hk)];exact h k row hk
theorem Sup.none{H H':aF}(h:Sup H H'){i:Nat}(hi:H' i=none):H i=none:=by
 cases e:H i with
 | none=>rfl
 | some row=>rw[h i row e]at hi;cases hi
theorem Sup.eq{H A B:aF}(h:Sup H A)(e:A=B):Sup H B:=e▸h
theorem Sup.at{H H':aF}(h:Sup H H'){i:Nat}{row:Row}(hi:H i=some row):H' i=some row:=h i row hi
theorem Sup.ne{H H':aF}(h:Sup H H'){i j:Nat}{row:Row}(hi:H i=some row)(hj:H j=.none):i≠j:=fun e=>by subst e;rw[hi]at hj;cases hj
theorem rM.flat{H H':aF}(h:Sup H H')(r:AV):rM H r r H':=⟨h,[],by simp,.refl r⟩
theorem nY{l:List Nat}{H Hr:aF}{K:Env→aF→Prop}{ρ:Env}(hr:∀k,k∉l→Hr k=H k)(h:K ρ H):lZ l H K ρ Hr:=fun _ Hm h1 h2=>by
 have:Hm=H:=funext fun k=>by
   by_cases e:k∈l
   · exact h1 k e
   · rw[h2 k e,hr k e]
 rw[this];exact h
theorem lG{l:List Nat}{H Hr:aF}{K:Env→aF→Prop}{ρ:Env}{i:Nat}{r:Option Row}(hr:∀k,k∉l→Hr k=H k)(hi:i∉l)(h:K ρ (aJ H i r)):lZ l H K ρ (aJ Hr i r):=fun _ Hm h1 h2=>by
 have:Hm=aJ H i r:=funext fun k=>by
   by_cases e:k∈l
   · rw[h1 k e,aD _ _ _ _ (fun e2=>hi (by rw[←e2];exact e))]
   · rw[h2 k e]
     by_cases e2:k=i
     · subst e2;rw[aB,aB]
     · rw[aD _ _ _ _ e2,aD _ _ _ _ e2,hr k e]
 rw[this];exact h
theorem wX{l:List Nat}{H Hr:aF}{K:Env→aF→Prop}{ρ:Env}{i:Nat}{a:Option Row}{b:Row}(hr:∀k,k∉l→Hr k=H k)(hi:Hr i=none)(h:H i=none→K ρ (aJ (aJ H i a) i (some b))):lZ l H K ρ (aJ (aJ Hr i a) i (some b)):=fun h0 Hm h1 h2=>by
 have hil:i∉l:=fun e=>by have:=h0 i e;rw[aB]at this;cases this
 have:Hm=aJ (aJ H i a) i (some b):=funext fun k=>by
   by_cases e:k∈l
   · rw[h1 k e,aD _ _ _ _ (fun e2=>hil (by rw[←e2];exact e)),aD _ _ _ _ (fun e2=>hil (by rw[←e2];exact e))]
   · rw[h2 k e]
     by_cases e2:k=i
     · subst e2;rw[aB,aB]
     · rw[aD _ _ _ _ e2,aD _ _ _ _ e2,aD _ _ _ _ e2,aD _ _ _ _ e2,hr k e]
 rw[this];exact h ((hr i hil).symm.trans hi)
theorem Iw{S:Sg}{w:World}:∀(A B:List AV) (l:List Value),aS S w (A++B) l→aS S w A (l.take A.length)
 | [],_,l,_=>by simp only[List.length_nil,List.take_zero,aS]
 | x::A,B,l,h=>by
   simp only[List.cons_append,aS]at h ⊢;obtain⟨u,t,rfl,h1,h2⟩:=h;exact⟨u,t.take A.length,by rw[List.length_cons,List.take_succ_cons],h1,Iw A B t h2⟩
theorem DH{sz:Nat}:∀(es:List (List AV)) (i:Nat),(∀cs∈es,cs.length=sz)→i≤es.length→((es.take i).flatten).length=i*sz
 | _,0,_,_=>by simp
 | [],i+1,_,h=>by simp at h
 | c::es,i+1,hl,h=>by
   rw[List.take_succ_cons,List.flatten_cons,List.length_append,hl c (by simp),DH es i (fun cs hcs=>hl cs (by simp[hcs])) (by simpa using h),Nat.add_mul,Nat.one_mul,Nat.add_comm]
theorem St.cut{S:Sg}{w:World}{H:aF}(hS:St S w H){k i c n:Nat}{r:Row}{ad:Option Addr}(hk:H k=some r)(hl:S.loc k=.slice ad n c)(hi:i≤r.es.length):
   St (S.addRow (.slice ad i c) r.sz) w (aJ (aJ H k none) S.N (some ⟨r.e,r.sz,r.es.take i⟩))∧Grow S w (S.addRow (.slice ad i c) r.sz) w:=by
 have hR:=hS.rows k r hk;obtain⟨xs,ho,hr,h1⟩:=hR.sl hl;have hle:=S.le_addRow (.slice ad i c) r.sz;have hlocN:(S.addRow (.slice ad i c) r.sz).loc S.N=.slice ad i c:=by simp[Sg.addRow]
 have hloc:∀k,k<S.N→(S.addRow (.slice ad i c) r.sz).loc k=S.loc k:=hle.loc;have hkN:k≠S.N:=Nat.ne_of_lt hR.lt;have hold:∀q row,q≠S.N→aJ (aJ H k none) S.N (some ⟨r.e,r.sz,r.es.take i⟩) q=some row→H q=some row∧q≠k:=fun q row hq h=>by
   rw[aD _ _ _ _ hq]at h;by_cases e:q=k
   · subst e;rw[aB]at h;cases h
   · rw[aD _ _ _ _ e]at h;exact⟨h,e⟩
 have hblk:blk (.slice ad i c)=blk (S.loc k):=by rw[hl];cases ad <;> rfl
 refine⟨⟨hS.ro_fz,hS.fz_lt,?_,?_,?_,hS.tabs.keep hle (eT.refl S w)⟩,⟨hle,fun _ h=>h,rfl,rfl,rfl,Nat.le_refl _,fun _ _=>rfl,fun _ h=>.inl h⟩⟩
 · intro q row hq
   by_cases e0:q=S.N
   · subst e0
     rw[aB]at hq;injection hq with hq;subst hq;have hfl:=DH r.es i hR.len hi;have hlen:(r.es.take i).length=i:=by rw[List.length_take];omega
     have hxl:xs.length=r.es.length*r.sz:=ho.1;have hmul:i*r.sz≤r.es.length*r.sz:=Nat.mul_le_mul_right _ hi;refine⟨Nat.lt_succ_self _,by simp[Sg.addRow],hR.pos,fun cs hcs=>hR.len cs (List.mem_of_mem_take hcs),.inl ⟨xs.take (i*r.sz),⟨?_,?_⟩,?_,fun u hu=>h1 u (List.mem_of_mem_take hu)⟩⟩
     · show(xs.take (i*r.sz)).length=(r.es.take i).length*r.sz
       rw[List.length_take,hlen];omega
     · rw[hlocN]
       simp only[hlen];rcases ho.2 with⟨hv,hn⟩|⟨g,cap,cur,hv,hb,hg,hnc,hcm,hcs,htk⟩
       · rw[hl]at hv
         injection hv with e1 e2 e3;refine .inl ⟨?_,by omega⟩;rw[e1,e3,show i=0 by omega]
       · rw[hl]at hv
         injection hv with e1 e2 e3;refine .inr ⟨g,cap,cur,by rw[e1,e3],hb,hg,by omega,hcm,hcs,?_⟩;rw[←htk,List.take_take,Nat.min_eq_left hmul]
     · refine cX hle (eT.refl S w) _ _ ?_
       have:r.es.flatten=(r.es.take i).flatten++(r.es.drop i).flatten:=by rw[←List.flatten_append,List.take_append_drop]
       rw[this]at hr;have:=Iw _ _ _ hr;rw[hfl]at this;exact this
   · obtain⟨h2,_⟩:=hold q row e0 hq
     exact(hS.rows q row h2).keep hle (eT.refl S w) fun _ _=>rfl
 · intro q row hq g hg
   by_cases e0:q=S.N
   · subst e0
     rw[hlocN,hblk]at hg;exact hS.free k r hk g hg
   · obtain⟨h2,_⟩:=hold q row e0 hq
     rw[hloc q (hS.rows q row h2).lt]at hg;exact hS.free q row h2 g hg
 · intro q q' row row' hq hq' hne g hg hg'
   by_cases e0:q=S.N
   · subst e0
     rw[hlocN,hblk]at hg;obtain⟨h2,h3⟩:=hold q' row' (Ne.symm hne) hq';rw[hloc q' (hS.rows q' row' h2).lt]at hg';exact hS.disj k q' r row' hk h2 (Ne.symm h3) g hg hg'
   · obtain⟨h2,h3⟩:=hold q row e0 hq
     rw[hloc q (hS.rows q row h2).lt]at hg;by_cases e1:q'=S.N
     · subst e1
       rw[hlocN,hblk]at hg';exact hS.disj q k row r h2 hk h3 g hg hg'
     · obtain⟨h4,h5⟩:=hold q' row' e1 hq'
       rw[hloc q' (hS.rows q' row' h4).lt]at hg';exact hS.disj q q' row row' h2 h4 hne g hg hg'
end
end Go.Aw
end
section
namespace Go.Proofs.YtdlijlecpopadaaGreatDoor.Rx
open Go.Aw Go.Aw.D Go.Proofs Ty Go.Nu
open Sq (W dX mR pU qV gK iP dN iV NetOk)
structure Clk where
 ready:Int
 since:Int
structure Part where
 place:Int
 memory:Nat
 board:Nat
 visits:Nat
 load:List Int
 clocks:List Clk
 value:ByteArray
structure Wk where
 x:Instance
 kind:Nat
 t:VType
 near:List Int
 dual:Option (List ByteArray)
 most:Nat
def cH(c:Clk):List AV:=[int c.ready,int c.since]
theorem kD(c:Clk):(cH c).length=2:=(rfl)
theorem QX(c:Clk):(cH c).getD 0 .any=int c.ready:=(rfl)
theorem QF(c:Clk):(cH c).getD 1 .any=int c.since:=(rfl)
theorem KQ(c:Clk):(cH c).take 2=cH c:=(rfl)
def bS(p:Part):List AV:=[int p.place,int (p.memory:Nat),int (p.board:Nat),int (p.visits:Nat),.sl (p.load.map aM),.sl (p.clocks.map cH),str p.value]
theorem bO(p:Part):(bS p).length=7:=(rfl)
theorem NK(p:Part):(bS p).getD 0 .any=int p.place:=(rfl)
theorem Pk(p:Part):(bS p).getD 1 .any=int (p.memory:Nat):=(rfl)
theorem Po(p:Part):(bS p).getD 2 .any=int (p.board:Nat):=(rfl)
theorem Oa(p:Part):(bS p).getD 3 .any=int (p.visits:Nat):=(rfl)
theorem OR(p:Part):(bS p).getD 4 .any=.sl (p.load.map aM):=(rfl)
theorem Of(p:Part):(bS p).getD 5 .any=.sl (p.clocks.map cH):=(rfl)
theorem N2(p:Part):(bS p).getD 6 .any=str p.value:=(rfl)
theorem JC(p:Part):(bS p).take 7=bS p:=(rfl)
def MI:Option (List ByteArray)→AV
 | none=>.v (.slice none 0 0)
 | some l=>.sl (l.map Go.Aw.D.cV)
def iI(w:Wk):List AV:=aQ w.x++([int (w.kind:Nat)]++(bE w.t++[.sl (w.near.map aM),MI w.dual,int (w.most:Nat)]))
section
variable(w:Wk)
theorem An:(iI w).length=24:=(rfl)
theorem Ve:(iI w).getD 3 .any=.sl (w.x.orders.map aX):=(rfl)
theorem VB:(iI w).getD 6 .any=int (w.kind:Nat):=(rfl)
theorem TS:(iI w).getD 9 .any=int w.t.src:=(rfl)
theorem S5:(iI w).getD 10 .any=int w.t.dst:=(rfl)
theorem Sl:(iI w).getD 11 .any=.sl (w.t.cap.map aM):=(rfl)
theorem Pw:(iI w).getD 13 .any=int w.t.profile:=(rfl)
theorem Qk:(iI w).getD 14 .any=int w.t.start:=(rfl)
theorem PY:(iI w).getD 15 .any=int w.t.close:=(rfl)
theorem PV:(iI w).getD 16 .any=int w.t.drive:=(rfl)
theorem PU:(iI w).getD 17 .any=int w.t.rest:=(rfl)
theorem QH:(iI w).getD 18 .any=int w.t.fixed:=(rfl)
theorem Sp:(iI w).getD 19 .any=int w.t.perMile:=(rfl)
theorem PS:(iI w).getD 20 .any=int w.t.perTick:=(rfl)
theorem SG:(iI w).getD 21 .any=.sl (w.near.map aM):=(rfl)
theorem Jk:(iI w).getD 22 .any=MI w.dual:=(rfl)
theorem PJ:(iI w).getD 23 .any=int (w.most:Nat):=(rfl)
theorem Ot:(iI w).take 2=aP w.x.net:=(rfl)
theorem U3:(iI w).take 6=aQ w.x:=(rfl)
theorem T3:((iI w).drop 7).take 14=bE w.t:=(rfl)
theorem OG:(iI w).take 24=iI w:=(rfl)
end
attribute [go_sem] kD QX QF KQ bO NK Pk Po Oa OR Of N2 JC An Ve VB TS S5 Sl Pw Qk PY PV PU QH Sp PS SG Jk PJ Ot U3 T3 OG
def gF(c d:Clk):Bool:=c.ready == d.ready&&decide (c.since≤d.since)
def tS(n:Network)(t:VType)(place goal:Int)(s:List Clk×Int)(c:Clk):List Clk×Int:=
 if((dX n t.profile place goal c.ready).2.2 == 0&&decide (W (W (c.since+(dX n t.profile place goal c.ready).1)-c.ready)≤t.drive))=true
 then(s.1++[⟨(dX n t.profile place goal c.ready).1,W (W (c.since+(dX n t.profile place goal c.ready).1)-c.ready)⟩],(dX n t.profile place goal c.ready).2.1)else s
def mP(t:VType)(c:Clk):Clk:=⟨W (c.ready+t.rest),0⟩
def xJ(n:Network)(t:VType)(place goal:Int)(s:List Clk×Int)(c:Clk):List Clk×Int:=tS n t place goal (tS n t place goal s c) (mP t c)
def bF(n:Network)(t:VType)(place goal:Int)(l:List Clk):List Clk×Int:=l.foldl (xJ n t place goal) ([],0)
def iG(s:Stop)(a:Int):Int×Int:=if kC a s.start>s.close then(0,14)else(W (kC a s.start+s.service),0)
def wV(s:Stop)(out:List Clk)(c:Clk):List Clk:=
 if((iG s c.ready).2 != 0)=true then out
 else if(out.any fun d=>gF d ⟨(iG s c.ready).1,c.since⟩)=true then out
 else(out.filter fun d=> !gF ⟨(iG s c.ready).1,c.since⟩ d)++[⟨(iG s c.ready).1,c.since⟩]
def dP(s:Stop)(l:List Clk):List Clk:=l.foldl (wV s) []
def pM(near:List Int)(m o:Nat):Nat:=(m &&& (near.getD o 0).toNat) ||| 2^o
def eM(a:Int)(kind:Nat):Int:=if(a != -1&&a != (kind:Int))=true then 1 else 0
def addV(a:ByteArray)(n:Int):ByteArray:=(oF a (zed n)).1
def aG(x:Instance)(o:Nat):Order:=x.orders.getD o ⟨ByteArray.empty,[],⟨0,0,0,0⟩,⟨0,0,0,0⟩,0,0,0,0,0,false⟩
def wF(a:ByteArray)(o:Nat):Option (List ByteArray)→ByteArray
 | none=>a
 | some l=>(wB a (l.getD o ByteArray.empty)).1
def fH(w:Wk)(p:Part)(o:Nat):Part×Bool:=
 if(iV (p.memory:Nat) (o:Nat)||iV (p.board:Nat) (o:Nat))=true then(p,false)
 else({ p with memory:=pM w.near p.memory o,value:=wF (addV p.value ((eM (aG w.x o).now w.kind*16+eM (aG w.x o).last w.kind)*65536)) o w.dual },true)
def zK(b o:Nat):Nat:=b ^^^ (b &&& 2^o)
def kO(o:Order):Bool:=decide (o.pick.place≥0)&&decide (o.drop.place≥0)
def eO(w:Wk)(p:Part)(o:Nat)(drop:Bool):Part×Bool:=
 if drop=false then
   ({ p with load:=pU p.load (aG w.x o).load,board:=if kO (aG w.x o)=true then p.board ||| 2^o else p.board },gK (pU p.load (aG w.x o).load) w.t.cap)
 else if kO (aG w.x o)=true then
   if iV (p.board:Nat) (o:Nat)=true then({ p with load:=qV p.load (aG w.x o).load,board:=zK p.board o },gK (qV p.load (aG w.x o).load) w.t.cap)else(p,false)
 else(p,gK p.load w.t.cap)
def goP(w:Wk)(p:Part)(s:Stop):Part×Bool:=
 let d:=bF w.x.net w.t p.place s.place p.clocks
 ({ p with clocks:=dP s d.1,place:=s.place,visits:=p.visits+1,value:=addV p.value (W (W (w.t.perMile*d.2)*16777216)) },decide ((dP s d.1).length>0))
def bX(w:Wk)(p:Part)(v:Visit):Part×Bool:=
 if(decide ((p.visits:Int)≥(w.most:Int))||(aG w.x v.order.toNat).off|| !mR w.t.skills (aG w.x v.order.toNat).skills)=true then(p,false)
 else
   let s:=if(!v.drop||decide ((aG w.x v.order.toNat).pick.place<0))=true then fH w p v.order.toNat else(p,true)
   if s.2=true then
     let l:=eO w s.1 v.order.toNat v.drop
     if l.2=true then(if((dN w.x v).2 != 0)=true then(l.1,false)else goP w l.1 (dN w.x v).1)else(l.1,false)
   else(s.1,false)
def kZ(close:Int)(out:Int)(c:Clk):Int:=if(decide (c.ready≤close)&&(decide (out<0)||decide (c.ready<out)))=true then c.ready else out
def iB(w:Wk)(p:Part):Int×Int×Bool:=
 if((p.visits:Int) == 0||(p.board:Int) != 0)=true then(0,0,false)
 else
   let d:=bF w.x.net w.t p.place w.t.dst p.clocks
   (d.1.foldl (kZ w.t.close) (-1),d.2,decide (d.1.foldl (kZ w.t.close) (-1)≥0))
def DS(w:Wk)(e:Int):Int:=W (e-w.t.start)
def QU(w:Wk)(e miles:Int):Int:=W (W (w.t.fixed+W (w.t.perMile*miles))+W (w.t.perTick*DS w e))
def mM(w:Wk)(p:Part)(e miles:Int):ByteArray:=
 addV p.value (W (W (QU w e miles*16777216)+W (W (Int.tdiv (DS w e) 64)*W (Int.tdiv (DS w e) 64))))
def qP(p q:Part):Bool:=
 if(p.place != q.place||(p.board:Int) != (q.board:Int)|| !decide (p.memory &&& q.memory=p.memory)||decide ((p.visits:Int)>(q.visits:Int))|| !gK p.load q.load||decide (sY p.value q.value>0))=true then false
 else q.clocks.all fun d=>p.clocks.any fun c=>gF c d
def cQ(x:Instance):List Visit:=(List.range x.orders.length).flatMap fun i=>if(aG x i).off=true then[]else iP x.orders (i:Nat)
def dY(w:Wk):Part:=⟨w.t.src,0,0,0,List.replicate w.t.cap.length 0,[⟨w.t.start,0⟩],dec 0⟩
structure Srch where
 known:List Part
 more:List Part
 best:ByteArray
 found:Bool
def xA(w:Wk)(s:Srch)(q:Part):Srch:=
 let e:=iB w q
 let r:=mM w q e.1 e.2.1
 if(e.2.2&&(!s.found||decide (sY r s.best<0)))=true then { known:=s.known++[q],more:=s.more++[q],best:=r,found:=true }else { s with known:=s.known++[q],more:=s.more++[q] }
def rF(w:Wk)(p:Part)(s:Srch)(v:Visit):Srch:=
 let q:=bX w p v
 if(!q.2||s.known.any fun k=>qP k q.1)=true then s else xA w s q.1
def xC(w:Wk)(vs:List Visit)(s:Srch)(fresh:List Part):Srch:=fresh.foldl (fun s p=>vs.foldl (rF w p) s) { s with more:=[] }
def iW(w:Wk)(vs:List Visit):Nat→Srch→List Part→Srch
 | 0,s,_=>s
 | n+1,s,fresh=>if fresh=[]then s else iW w vs n (xC w vs s fresh) (xC w vs s fresh).more
end Go.Proofs.YtdlijlecpopadaaGreatDoor.Rx
end
section
namespace Go.Proofs.YtdlijlecpopadaaGreatDoor.Rx
open Go.Aw Go.Aw.D Go.Proofs Ty Go.Nu
open Sq (W dX mR pU qV gK iP dN iV NetOk)
open Nu (qN uH wL ltB geB)
theorem UL{a b:Nat}(ha:a<2^63)(hb:b<2^63):pV .and .i64 (a:Int) (b:Int)=((a &&& b:Nat):Int):=by
 have h:((BitVec.ofInt 64 (a:Int) &&& BitVec.ofInt 64 (b:Int)).toNat:Int)=((a &&& b:Nat):Int):=by
   rw[BitVec.toNat_and,BitVec.toNat_ofInt,BitVec.toNat_ofInt];have h1:((a:Int)%((2^64:Nat):Int)).toNat=a:=by omega
   have h2:((b:Int)%((2^64:Nat):Int)).toNat=b:=by omega
   rw[h1,h2]
 refine Eq.trans (congrArg IntKind.i64.wrap h) ?_;have:=Nat.and_lt_two_pow a hb;exact aT (by omega)
theorem D5(a:Int)(kind:Nat):PC Tryz.prog 148 [int a,int (kind:Nat)] (int (eM a kind)):=by
 have e:eM a kind=if(a != -1&&a != (kind:Int))=true then 1 else 0:=rfl
 generalize eM a kind=D at e;refine PC.body (c:=Tryz.f148.body.getD .skip) (fun _=>false) mixed Tryz.func148 rfl (by kernel_rfl) ?_;unfold Tryz.f148;simp only[Option.getD_some];simp only[go_sem];refine aA (fun hb=>?_) (fun hb=>?_)
 · rw[if_pos hb]at e
   subst e;simp only[go_sem];exact .refl _
 · rw[if_neg (by rw[hb];simp)]at e
   subst e;simp only[go_sem];exact .refl _
theorem Cl(c d:Clk):PC Tryz.prog 100 [.agg (cH c),.agg (cH d)] (boo (gF c d)):=by
 refine PC.body (c:=Tryz.f100.body.getD .skip) (fun _=>false) mixed Tryz.func100 rfl (by kernel_rfl) ?_;unfold Tryz.f100;simp only[Option.getD_some];simp only[go_sem];exact .refl _
theorem dO{H:aF}{i j:Nat}{a b:Row}(hi:H i=some a)(hj:H j=some b)(he:(a.e == b.e)=false):i≠j:=fun e=>by
 subst e;rw[hi]at hj;rw[congrArg Row.e (Option.some.inj hj)]at he;simp at he
structure NearB(near:List Int):Prop where
 len:near.length≤62
 num:∀n∈near,0≤n∧n<4611686018427387904
theorem Cc(near:List Int)(m o:Nat)(ho:o<near.length)(h:NearB near)(hm:m<2^62):PC Tryz.prog 15 [.sl (near.map aM),int (m:Nat),int (o:Nat)] (int (pM near m o:Nat)):=by
 obtain⟨n,hn1⟩:=bC ho;have b1:=inB ho;have hl:=h.len;have hn:=h.num n (List.mem_of_getElem? hn1);obtain⟨N,rfl⟩:=Int.eq_ofNat_of_zero_le hn.1;have hb:=inB ho;have e:pM near m o=(m &&& N) ||| 2^o:=by unfold pM;rw[List.getD,hn1];rfl
 generalize pM near m o=D at e;subst e;have hp:2^o<2^63:=Nat.pow_lt_pow_right (by decide) (by omega);have ha:m &&& N<2^63:=Nat.lt_of_le_of_lt Nat.and_le_left (Nat.lt_trans hm (by decide));refine PC.body (c:=Tryz.f15.body.getD .skip) (fun _=>false) mixed Tryz.func15 rfl (by kernel_rfl) ?_;unfold Tryz.f15;simp only[Option.getD_some];simp only[go_sem];refine aA (fun hb=>?_) (fun hb=>?_)
 · simp at hb;omega
 simp only[go_sem];refine kK [(0,true),(1,true),(2,true),(3,true),(4,true),(5,true),(6,true),(7,true),(8,true),(9,true)] (by kernel_rfl) ?_;simp only[go_sem,aH hn1,b1,Sq.LD (show o≤62 by omega),UL (show m<2^63 from Nat.lt_trans hm (by decide)) (show N<2^63 by omega),Sq.RG ha hp];exact .refl _
abbrev kX(w:Wk):Row:=⟨89,24,[iI w]⟩
abbrev vG(c:Clk):Row:=⟨157,2,[cH c]⟩
abbrev qK(l:List Clk):Row:=⟨157,2,l.map cH⟩
theorem Wr{n:Int}(h0: -9223372036854775808≤n)(h1:n≤9223372036854775807):(zed n).size≤8194:=by
 have:=Go.Nu.gI (m:=n) (uB (k:=20) (by omega) (by omega));omega
theorem Kr(H:aF)(pw:AV)(a:ByteArray)(n:Int)(ha:a.size≤1048576)(h0: -9223372036854775808≤n)(h1:n≤9223372036854775807):LC Tryz.prog 94 [pw,str a,int n] H (str (addV a n)):=by
 have hz:=Wr h0 h1;refine LC.body (c:=Tryz.f94.body.getD .skip) (fun _=>false) mixed Tryz.func94 rfl (by kernel_rfl) ?_;unfold Tryz.f94;simp only[Option.getD_some];simp only[go_sem];refine PC.use (wL n h0 h1) ?_;simp only[go_sem];refine PC.use (qN a (zed n) ha (by omega)) ?_;simp only[go_sem];exact rM.flat (Sup.refl _) _
def F5(n:Network)(t:VType)(place goal:Int)(s:List Clk×Int)(c:Clk):Nat→(List Clk×Int)×Clk
 | 0=>(s,c)
 | 1=>(tS n t place goal s c,c)
 | _=>(xJ n t place goal s c,mP t c)
theorem Bx(n:Network)(t:VType)(place goal:Int)(s:List Clk×Int)(c:Clk):(tS n t place goal s c).1.length≤s.1.length+1:=by
 unfold tS;split
 · simp
 · omega
theorem Hv(n:Network)(t:VType)(place goal:Int)(s:List Clk×Int)(c:Clk):∀k,(F5 n t place goal s c k).1.1.length≤s.1.length+k
 | 0=>Nat.le_refl _
 | 1=>Bx n t place goal s c
 | k+2=>by
   have h1:=Bx n t place goal s c;have h2:=Bx n t place goal (tS n t place goal s c) (mP t c);show(xJ n t place goal s c).1.length≤_;unfold xJ;omega
theorem yS(n:Network)(t:VType)(place goal:Int)(l:List Clk):∀k,((l.take k).foldl (xJ n t place goal) ([],0)).1.length≤2*k
 | 0=>by simp
 | k+1=>by
   have h:=yS n t place goal l k;by_cases hk:k<l.length
   · obtain⟨c,hc⟩:=bC hk
     rw[Sq.iQ hc];have:=Hv n t place goal ((l.take k).foldl (xJ n t place goal) ([],0)) c 2;exact Nat.le_trans this (by omega)
   · rw[List.take_of_length_le (by omega)]
     rw[List.take_of_length_le (by omega)]at h;omega
theorem Jt(l:List Clk)(a b:Int):(⟨157,2,l.map cH++[[int a,int b]]⟩:Row)=qK (l++[(⟨a,b⟩:Clk)]):=by
 show _=(⟨157,2,(l++[(⟨a,b⟩:Clk)]).map cH⟩:Row);rw[List.map_append];rfl
theorem NE(H0:aF)(jw:Nat)(w:Wk)(hw:H0 jw=some (kX w))(p:Part)(goal:Int)(hn:NetOk w.x.net)(hl:p.clocks.length≤1048576):
   LC Tryz.prog 92 [.op jw 0 0,.agg (bS p),int goal] H0 (.tup [.sl ((bF w.x.net w.t p.place goal p.clocks).1.map cH),int (bF w.x.net w.t p.place goal p.clocks).2]):=by
 refine LC.body (c:=Tryz.f92.body.getD .skip) (fun t=>t == 8) mixed Tryz.func92 rfl (by kernel_rfl) ?_;unfold Tryz.f92;simp only[Option.getD_some];simp only[go_sem];have U:=Sup.refl H0;refine aN fun j hj0=>?_
 have n_j:=U.none hj0;generalize hGj:aJ _ j _=HGj;replace U:=Sup.eq (U.upd n_j _) hGj;have R:HGj j=some (qK []):=by rw[←hGj,aB];try rfl
 clear hGj hj0;simp only[go_sem,R];refine⟨fun ρ H=>∃(k:Nat) (j:Nat),k≤p.clocks.length∧ρ 0=.op jw 0 0∧ρ 2=int goal∧ρ 4=.rp (bS p) 0∧ρ 19=.sl (p.clocks.map cH)∧ρ 20=int (p.clocks.length:Nat)∧ρ 21=int k∧ρ 8=.os j∧ρ 9=int ((p.clocks.take k).foldl (xJ w.x.net w.t p.place goal) ([],0)).2∧Sup H0 H∧H0 j=none∧H j=some (qK ((p.clocks.take k).foldl (xJ w.x.net w.t p.place goal) ([],0)).1),fun ρ _=>p.clocks.length-bQ (ρ 21),⟨0,j,Nat.zero_le _,by simp only[go_sem],by simp only[go_sem],by simp only[go_sem],by simp only[go_sem],by simp only[go_sem,List.length_map],(by simp only[go_sem];rfl),by simp only[go_sem],by simp only[go_sem];rfl,U,n_j,R⟩,?_⟩;rintro ρ H ⟨k,j,hk,e0,e2,e4,e19,e20,e21,e8,e9,U,nj,R⟩;simp only[go_sem,e0,e2,e4,e19,e20,e21,e8,e9];refine aA (fun hlt=>?_) (fun hge=>?_)
 · have hlt:=ltB (by simpa using hlt)
   obtain⟨c,hc⟩:=bC hlt;have b1:=inB hlt;have hs:=Sq.iQ (f:=xJ w.x.net w.t p.place goal) (b:=(([],0):List Clk×Int)) hc;have hlen:=yS w.x.net w.t p.place goal p.clocks k;generalize (p.clocks.take k).foldl (xJ w.x.net w.t p.place goal) ([],0)=s at *;simp only[go_sem,e0,e2,e4,e19,e20,e21,e8,e9,aH hc,b1];refine aN fun i11 hi110=>?_
   have ne_j_i11:j≠i11:=aO R hi110;simp only[go_sem,e0,e2,e4,e19,e20,e21,e8,e9,R];refine aU (aB _ _ _) (by simp[kD]) ?_;have n_i11:=U.none hi110;generalize hGi11:aJ (aJ _ i11 _) i11 _=HGi11;replace U:=Sup.eq ((U.upd n_i11 _).upd n_i11 _) hGi11;replace R:=(congrFun hGi11.symm j).trans ((aD _ _ _ _ ne_j_i11).trans ((aD _ _ _ _ ne_j_i11).trans R));have R11:HGi11 i11=some (vG c):=by rw[←hGi11,aB];try rfl
   clear hGi11 hi110;simp only[go_sem,e0,e2,e4,e19,e20,e21,e8,e9,R11,R];generalize hk0:k=k0 at *;refine⟨fun ρ H=>∃(k:Nat) (j:Nat),k≤2∧ρ 0=.op jw 0 0∧ρ 2=int goal∧ρ 4=.rp (bS p) 0∧ρ 11=.op i11 0 0∧ρ 19=.sl (p.clocks.map cH)∧ρ 20=int (p.clocks.length:Nat)∧ρ 21=int (k0:Nat)∧ρ 25=.sl [[.v (.bool false)],[.v (.bool true)]]∧ρ 26=int (2:Nat)∧ρ 27=int k∧ρ 8=.os j∧ρ 9=int (F5 w.x.net w.t p.place goal s c k).1.2∧Sup H0 H∧H0 j=none∧H j=some (qK (F5 w.x.net w.t p.place goal s c k).1.1)∧H i11=some (vG (F5 w.x.net w.t p.place goal s c k).2)∧j≠i11,fun ρ _=>2-bQ (ρ 27),⟨0,j,Nat.zero_le _,by simp only[go_sem,e0,e2,e4,e19,e20,e21,e8,e9],by simp only[go_sem,e0,e2,e4,e19,e20,e21,e8,e9],by simp only[go_sem,e0,e2,e4,e19,e20,e21,e8,e9],by simp only[go_sem,e0,e2,e4,e19,e20,e21,e8,e9],by simp only[go_sem,e0,e2,e4,e19,e20,e21,e8,e9],by simp only[go_sem,e0,e2,e4,e19,e20,e21,e8,e9],by simp only[go_sem,e0,e2,e4,e19,e20,e21,e8,e9],by simp only[go_sem,e0,e2,e4,e19,e20,e21,e8,e9],by simp only[go_sem,List.length_map,e0,e2,e4,e19,e20,e21,e8,e9],(by simp only[go_sem,e0,e2,e4,e19,e20,e21,e8,e9];rfl),by simp only[go_sem,e8],by simp only[go_sem,e9];rfl,U,nj,R,R11,ne_j_i11⟩,?_⟩;rintro ρ H ⟨k,j,hk,e0,e2,e4,e11,e19,e20,e21,e25,e26,e27,e8,e9,U,nj,R,R11,nej⟩;simp only[go_sem,e0,e2,e4,e11,e19,e20,e21,e25,e26,e27,e8,e9];refine aA (fun hlt=>?_) (fun hge=>?_)
   · have hlt2:k<2:=by have:=of_decide_eq_true hlt;omega
     have hjw:=U.at hw;have ne:jw≠i11:=Sup.ne (Sup.refl H0) hw n_i11;have b2:((0:Int)≤(k:Nat)∧((k:Nat):Int)<((2:Nat):Int)):=by omega
     have hlen2:(F5 w.x.net w.t p.place goal s c k).1.1.length≤2*k0+k:=by
       have:=Hv w.x.net w.t p.place goal s c k;omega
     have hstep:F5 w.x.net w.t p.place goal s c (k+1)=(tS w.x.net w.t p.place goal (F5 w.x.net w.t p.place goal s c k).1 (if k=0 then c else mP w.t c),if k=0 then c else mP w.t c):=by
       obtain rfl|rfl:k=0∨k=1:=by omega
       · rfl
       · rfl
     have hcl:(F5 w.x.net w.t p.place goal s c k).2=c:=by
       obtain rfl|rfl:k=0∨k=1:=by omega
       · rfl
       · rfl
     have hbool:([[.v (.bool false)],[.v (.bool true)]]:List (List AV)).getD k []=[.v (.bool (decide (k=1)))]:=by
       obtain rfl|rfl:k=0∨k=1:=by omega
       · rfl
       · rfl
     rw[hcl]at R11;generalize F5 w.x.net w.t p.place goal s c k=s2 at *;simp only[go_sem,e0,e2,e4,e11,e19,e20,e21,e25,e26,e27,e8,e9,hbool,b2,List.length_cons,List.length_nil];refine bD (fun ρ' H'=>ρ' 0=ρ 0∧ρ' 2=ρ 2∧ρ' 4=ρ 4∧ρ' 11=ρ 11∧ρ' 19=ρ 19∧ρ' 20=ρ 20∧ρ' 21=ρ 21∧ρ' 25=ρ 25∧ρ' 26=ρ 26∧ρ' 27=ρ 27∧ρ' 8=ρ 8∧ρ' 9=ρ 9∧H' i11=some (vG (if k=0 then c else mP w.t c))∧H' j=some (qK s2.1.1)∧Sup H0 H') ?_ fun K hK=>aA (fun hb=>?_) (fun hb=>?_)
     rotate_left
     · have hcc:(if k=0 then c else mP w.t c)=mP w.t c:=if_neg (show ¬k=0 by simp at hb;omega)
       rw[hcc]at hK;refine gE [jw] [(0,true),(2,true),(3,true),(4,true),(5,true),(6,true),(1,false),(7,false),(8,false),(9,false)] (by simp[hjw]) (by kernel_rfl) fun Hp Hr hp hr _ hr0=>?_
       have P_hjw:=(hp jw (by simp)).trans hjw;have Q_R11:=(hr i11 (by simp[ne.symm])).trans R11;simp only[go_sem,e0,e2,e4,e11,e19,e20,e21,e25,e26,e27,e8,e9,P_hjw,Q_R11];refine aU Q_R11 (by simp) ?_;refine lG hr (by simp[ne.symm]) ?_;refine hK _ _ ⟨by simp only[go_sem],by simp only[go_sem],by simp only[go_sem],by simp only[go_sem],by simp only[go_sem],by simp only[go_sem],by simp only[go_sem],by simp only[go_sem],by simp only[go_sem],by simp only[go_sem],by simp only[go_sem],by simp only[go_sem],aB _ _ _,(aD _ _ _ _ nej).trans R,U.upd n_i11 _⟩
     · have hcc:(if k=0 then c else mP w.t c)=c:=if_pos (show k=0 by simp at hb;omega)
       rw[hcc]at hK;refine hK _ _ ⟨by simp only[go_sem],by simp only[go_sem],by simp only[go_sem],by simp only[go_sem],by simp only[go_sem],by simp only[go_sem],by simp only[go_sem],by simp only[go_sem],by simp only[go_sem],by simp only[go_sem],by simp only[go_sem],by simp only[go_sem],R11,R,U⟩
     rintro ρ H ⟨k0,k2,k4,k11,k19,k20,k21,k25,k26,k27,k8,k9,R11,R,U⟩;replace e0:=k0.trans e0;clear k0;replace e2:=k2.trans e2;clear k2;replace e4:=k4.trans e4;clear k4;replace e11:=k11.trans e11;clear k11;replace e19:=k19.trans e19;clear k19;replace e20:=k20.trans e20;clear k20;replace e21:=k21.trans e21;clear k21;replace e25:=k25.trans e25;clear k25;replace e26:=k26.trans e26;clear k26;replace e27:=k27.trans e27;clear k27;replace e8:=k8.trans e8;clear k8;replace e9:=k9.trans e9;clear k9;generalize hcc:(if k=0 then c else mP w.t c)=cc at *;have hjw:=U.at hw;refine gE [jw] [(0,true),(1,true),(2,true),(3,true),(4,true),(5,true),(6,true),(7,true),(8,true),(9,true),(10,true),(11,true),(12,true),(13,false),(14,false),(15,false),(16,false),(17,true),(18,true),(19,true),(20,false),(21,false),(22,false)] (by simp[hjw]) (by kernel_rfl) fun Hp Hr hp hr _ hr0=>?_
     have P_hjw:=(hp jw (by simp)).trans hjw;have Q_R11:=(hr i11 (by simp[ne.symm])).trans R11;simp only[go_sem,e0,e2,e4,e11,e19,e20,e21,e25,e26,e27,e8,e9,P_hjw,Q_R11];refine PC.use (Sq.ZT w.x.net w.t.profile p.place goal cc.ready hn) ?_;simp only[go_sem,e0,e2,e4,e11,e19,e20,e21,e25,e26,e27,e8,e9,P_hjw,Q_R11];refine nY hr ?_;simp only[go_sem,e0,e2,e4,e11,e19,e20,e21,e25,e26,e27,e8,e9,R11,hjw];refine fU (fun ρ' H'=>∃(j':Nat),ρ' 0=ρ 0∧ρ' 2=ρ 2∧ρ' 4=ρ 4∧ρ' 11=ρ 11∧ρ' 19=ρ 19∧ρ' 20=ρ 20∧ρ' 21=ρ 21∧ρ' 25=ρ 25∧ρ' 26=ρ 26∧ρ' 27=ρ 27∧ρ' 8=.os j'∧ρ' 9=int (tS w.x.net w.t p.place goal s2.1 cc).2∧H' j'=some (qK (tS w.x.net w.t p.place goal s2.1 cc).1)∧Sup H0 H'∧H0 j'=none∧H' i11=some (vG cc)∧j'≠i11) ?_ fun K hK hKe hKr=>aA (fun hb=>?_) (fun hb=>?_)
     rotate_left
     · have hd:tS w.x.net w.t p.place goal s2.1 cc=(s2.1.1++[⟨(dX w.x.net w.t.profile p.place goal cc.ready).1,W (W (cc.since+(dX w.x.net w.t.profile p.place goal cc.ready).1)-cc.ready)⟩],(dX w.x.net w.t.profile p.place goal cc.ready).2.1):=if_pos hb
       rw[hd]at hK;simp only[go_sem,e0,e2,e4,e11,e19,e20,e21,e25,e26,e27,e8,e9];refine bA R ⟨rfl,rfl⟩ (by simp only[go_sem]) (by simp only[List.length_map,List.length_cons,List.length_nil];omega) (fun j' hj'=>?_);simp only[go_sem,e0,e2,e4,e11,e19,e20,e21,e25,e26,e27,e8,e9];refine hK _ _ ⟨j',by simp only[go_sem],by simp only[go_sem],by simp only[go_sem],by simp only[go_sem],by simp only[go_sem],by simp only[go_sem],by simp only[go_sem],by simp only[go_sem],by simp only[go_sem],by simp only[go_sem],by simp only[go_sem],by simp only[go_sem],(aB _ _ _).trans (congrArg some (Jt _ _ _)),(U.upd nj _).upd (U.none hj') _,U.none hj',(aD _ _ _ _ (aO R11 hj')).trans ((aD _ _ _ _ nej.symm).trans R11),(aO R11 hj').symm⟩
     · have hd:tS w.x.net w.t p.place goal s2.1 cc=s2.1:=if_neg (fun h=>Bool.noConfusion (hb.symm.trans h))
       rw[hd]at hK;refine hK _ _ ⟨j,by simp only[go_sem],by simp only[go_sem],by simp only[go_sem],by simp only[go_sem],by simp only[go_sem],by simp only[go_sem],by simp only[go_sem],by simp only[go_sem],by simp only[go_sem],by simp only[go_sem],by simp only[go_sem,e8],by simp only[go_sem,e9],R,U,nj,R11,nej⟩
     rintro ρ H ⟨j',k0,k2,k4,k11,k19,k20,k21,k25,k26,k27,e8,e9,R,U,nj,R11,nej⟩;replace e0:=k0.trans e0;clear k0;replace e2:=k2.trans e2;clear k2;replace e4:=k4.trans e4;clear k4;replace e11:=k11.trans e11;clear k11;replace e19:=k19.trans e19;clear k19;replace e20:=k20.trans e20;clear k20;replace e21:=k21.trans e21;clear k21;replace e25:=k25.trans e25;clear k25;replace e26:=k26.trans e26;clear k26;replace e27:=k27.trans e27;clear k27;simp only[go_sem,e0,e2,e4,e11,e19,e20,e21,e25,e26,e27,e8,e9,bG (show k≤4611686018427387904 by omega)];refine⟨⟨k+1,j',hlt2,rfl,?_⟩,by simp only[aI];omega⟩;rw[hstep];exact⟨rfl,rfl,U,nj,R,R11,nej⟩
   have hge:k=2:=by have:=of_decide_eq_false hge;omega
   subst hge;simp only[go_sem,e0,e2,e4,e19,e20,e21,e8,e9,bG (show k0≤4611686018427387904 by omega)];refine⟨⟨k0+1,j,hlt,rfl,rfl,?_⟩,by simp only[aI];omega⟩;rw[hs];exact⟨rfl,U,nj,R⟩
 have hge:=geB hk (by simpa using hge);subst hge;rw[List.take_length]at e9 R;simp only[go_sem,e0,e2,e4,e19,e20,e21,e8,e9];refine⟨U,[j],by simpa using nj,.tup _ _ (.cons _ _ _ _ (.row _ _ _ (by simp;exact R) (ConvE.refl _)) (.cons _ _ _ _ (.refl _) .nil))⟩
end Go.Proofs.YtdlijlecpopadaaGreatDoor.Rx
end
