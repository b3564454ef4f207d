/- Texts joined by a program: RyF, RyG. -/
import Derived.Test.YtdlijlecpopadaaGreatDoorZv33
set_option linter.unusedSimpArgs false
set_option linter.unusedVariables false
set_option maxRecDepth 100000
section
namespace Go.Proofs.YtdlijlecpopadaaGreatDoor.Rx
open Go.Aw Go.Aw.D Go.Proofs Ty
open Sq
open Go.Nu
theorem Ux{p q:Point}{t:Int}(hp:0≤p.t∧p.t≤4096∧p.t≤p.a∧p.a≤p.t+4096)(hq:0≤q.t∧q.t≤4096∧q.t≤q.a∧q.a≤q.t+4096)(ha:p.a≤q.a)(h1:p.t≤t)(h2:t<q.t):t≤A6 p q t:=by
 unfold A6;have hx:0≤t-p.t∧t-p.t≤4096:=by omega
 have hy:0≤q.a-p.a∧q.a-p.a≤8192:=by omega
 have hm0:0≤(t-p.t)*(q.a-p.a):=Int.mul_nonneg hx.1 hy.1;have hm1:(t-p.t)*(q.a-p.a)≤4096*8192:=Int.mul_le_mul hx.2 hy.2 hy.1 (by omega);have k1:(t-p.t)*((q.t-p.t)-(p.a-p.t))≤(t-p.t)*(q.a-p.a):=Int.mul_le_mul_of_nonneg_left (by omega) hx.1;have k2:(p.a-p.t)*(t-p.t)≤(p.a-p.t)*(q.t-p.t):=Int.mul_le_mul_of_nonneg_left (by omega) (by omega);have k3:(t-p.t)*((q.t-p.t)-(p.a-p.t))=(t-p.t)*(q.t-p.t)-(p.a-p.t)*(t-p.t):=by rw[Int.mul_sub,Int.mul_comm (t-p.t) (p.a-p.t)]
 have k4:((t-p.t)-(p.a-p.t))*(q.t-p.t)=(t-p.t)*(q.t-p.t)-(p.a-p.t)*(q.t-p.t):=Int.sub_mul _ _ _;rw[bU (n:=t-p.t) (by omega),bU (n:=q.a-p.a) (by omega),bU (n:=(t-p.t)*(q.a-p.a)) (by omega),bU (n:=q.t-p.t) (by omega)];have key:(t-p.t)-(p.a-p.t)≤((t-p.t)*(q.a-p.a)+q.t-p.t-1)/(q.t-p.t):=by
   rw[Int.le_ediv_iff_mul_le (by omega)];omega
 generalize (t-p.t)*(q.a-p.a)=m at *;rw[bU (n:=m+q.t) (by omega),bU (n:=m+q.t-p.t) (by omega),bU (n:=m+q.t-p.t-1) (by omega),Int.tdiv_eq_ediv_of_nonneg (by omega)];have d0:0≤(m+q.t-p.t-1)/(q.t-p.t):=Int.ediv_nonneg (by omega) (by omega);have d1:(m+q.t-p.t-1)/(q.t-p.t)≤m+q.t-p.t-1:=Int.ediv_le_self _ (by omega);have e:IntKind.i64.wrap ((m+q.t-p.t-1)/(q.t-p.t))=(m+q.t-p.t-1)/(q.t-p.t):=bU (by omega);rw[e,bU (by omega)];omega
theorem Mt{p:Point}{t:Int}(hp:0≤p.t∧p.t≤4096∧p.t≤p.a∧p.a≤p.t+4096)(ht:0≤t∧t≤12288):t≤sC p t:=by
 unfold sC;rw[bU (n:=t+p.a) (by omega),bU (by omega)];omega
theorem Wb{l:List Point}{t:Int}(h:hY l=[])(ht:0≤t∧t≤12288):t≤iH l t:=by
 have hb:=Gi h;have hl:=hb.len;unfold iH;rw[if_neg (by unfold wZ;rw[h];simp;omega)];split
 · rename_i k hk
   have hs:=List.find?_some hk;have hm:=List.mem_range.1 (List.mem_of_find?_eq_some hk);simp only[mQ,Bool.and_eq_true,decide_eq_true_eq]at hs;have:=hb.mono k (by omega);exact Ux (hb.pt _ (nW (by omega))) (hb.pt _ (nW (by omega))) this.2 hs.1 hs.2
 · split
   · exact Mt (hb.pt _ (nW (by omega))) ht
   · exact Mt (hb.pt _ (nW (by omega))) ht
theorem Nb{t:Int}:∀(l:List Point) (s B:Int),(∀p∈l,0≤p.a∧p.a≤4096)→0≤s∧s≤B→B+4096*l.length≤1000000000000→s≤l.foldl (mF t) s
 | [],s,B,_,hs,_=>Int.le_refl _
 | p::l,s,B,hp,hs,hB=>by
   have h1:=hp p (by simp);simp only[List.length_cons,List.foldl_cons]at hB ⊢;have e:s≤mF t s p∧mF t s p≤B+4096:=by
     unfold mF;split
     · rw[bU (by omega)];omega
     · omega
   have:=Nb (t:=t) l (mF t s p) (B+4096) (fun q hq=>hp q (by simp[hq])) (by omega) (by omega);omega
theorem NQ{a:Arc}{t:Int}(h:ArcOk a)(ht:0≤t∧t≤12288):t≤nZ a t:=by
 have h1:=MO h.travel ht;have h2:=h.slow;have h3:=Wb h.travel ht;have:=Nb (t:=t) a.slow _ 100000000 (fun p hp=>(h.pt p hp).2) h1 (by omega);unfold nZ;omega
theorem YV{n:Network}(hn:∀a∈n.arcs,ArcOk a){p f g t:Int}(ht:0≤t∧t≤12288)(h:(dX n p f g t).2.2=0):t≤(dX n p f g t).1:=by
 unfold dX at h ⊢;split
 · rename_i h1;rw[if_pos h1]at h;cases h
 · rename_i h1
   rw[if_neg h1]at h;split
   · exact Int.le_refl _
   · rename_i h2
     rw[if_neg h2]at h;cases e:lI n p f g with
     | none=>rw[e]at h;cases h
     | some a=>
       have hm:a∈n.arcs:=by
         unfold lI at e;exact List.mem_of_find?_eq_some e
       exact NQ (hn a hm) ht
theorem GA{s B:Int}(hs:s=1∨s= -1)(hB:0≤B∧B≤100000):∀{a b:List Int},(∀n∈b,0≤n∧n≤1000)→(∀n∈a,-B≤n∧n≤B)→∀n∈dA a b s,-(B+1000)≤n∧n≤B+1000
 | [],b,_,_=>by intro n hn;simp[dA]at hn
 | u::a,[],_,_=>by intro n hn;simp[dA]at hn
 | u::a,v::b,hb,ha=>by
   have h1:=hb v (by simp);have h2:=ha u (by simp);intro n hn;rcases List.mem_cons.1 (show n∈W (u+W (s*v))::dA a b s from hn)with rfl|hn
   · rcases hs with rfl|rfl
     · rw[Int.one_mul,bU (n:=v) (by omega),bU (by omega)];omega
     · rw[show(-1:Int)*v= -v by omega,bU (n:= -v) (by omega),bU (by omega)];omega
   · exact GA hs hB (fun m hm=>hb m (by simp[hm])) (fun m hm=>ha m (by simp[hm])) n hn
theorem FG{s B:Int}(hs:s=1∨s= -1)(hB:0≤B∧B≤100000):∀{a a' b:List Int},(∀n∈b,0≤n∧n≤1000)→(∀n∈a,-B≤n∧n≤B)→(∀n∈a',-B≤n∧n≤B)→a.length=a'.length→(∀i,a.getD i 0≤a'.getD i 0) →
   (dA a b s).length=(dA a' b s).length∧∀i,(dA a b s).getD i 0≤(dA a' b s).getD i 0
 | [],[],b,_,_,_,_,_=>⟨rfl,fun i=>Int.le_refl _⟩
 | [],_::_,_,_,_,_,hl,_=>by simp at hl
 | _::_,[],_,_,_,_,hl,_=>by simp at hl
 | u::a,u'::a',[],_,_,_,_,_=>⟨rfl,fun i=>Int.le_refl _⟩
 | u::a,u'::a',v::b,hb,ha,ha',hl,hle=>by
   have h1:=hb v (by simp);have h2:=ha u (by simp);have h3:=ha' u' (by simp);have h4:u≤u':=hle 0;obtain⟨q1,q2⟩:=FG (b:=b) hs hB (fun m hm=>hb m (by simp[hm])) (fun m hm=>ha m (by simp[hm])) (fun m hm=>ha' m (by simp[hm])) (show a.length=a'.length by simpa using hl) (fun i=>hle (i+1));refine⟨by show(dA a b s).length+1=(dA a' b s).length+1;rw[q1],fun i=>?_⟩;cases i with
   | zero=>
     show W (u+W (s*v))≤W (u'+W (s*v));rcases hs with rfl|rfl
     · rw[Int.one_mul,bU (n:=v) (by omega),bU (by omega),bU (by omega)];omega
     · rw[show(-1:Int)*v= -v by omega,bU (n:= -v) (by omega),bU (by omega),bU (by omega)];omega
   | succ i=>exact q2 i
theorem Qx{a b c:List Int}(hl:a.length=b.length)(h:∀i,a.getD i 0≤b.getD i 0)(hf:oI b c=true):oI a c=true:=by
 unfold oI at *;rw[List.all_eq_true]at *;intro i hi;have:=hf i (by rw[←hl];exact hi);have:=h i;simp only[Bool.not_eq_true',decide_eq_false_iff_not]at *;omega
structure Good(x:Instance)(k M:Nat)(p:Part):Prop where
 ok:Ok x k M p
 lb:∀n∈p.load,-(1000*(p.visits:Int))≤n∧n≤1000*(p.visits:Int)
 sb:∀c∈p.clocks,(aE x k).start≤c.ready
structure Dom(fl:Bool)(p q:Part):Prop where
 place:p.place=q.place
 board:p.board=q.board
 mem:∀i,p.memory.testBit i=true→q.memory.testBit i=true
 visits:p.visits≤q.visits
 pos:0<q.visits→0<p.visits
 ll:p.load.length=q.load.length
 load:∀i,p.load.getD i 0≤q.load.getD i 0
 val:fl=true→gR p.value≤gR q.value
 clk:∀d∈q.clocks,∃c∈p.clocks,c.ready=d.ready∧c.since≤d.since
theorem Dom.refl(fl:Bool)(p:Part):Dom fl p p:=⟨rfl,rfl,fun _ h=>h,Nat.le_refl _,fun h=>h,rfl,fun _=>Int.le_refl _,fun _=>Rat.le_refl,fun d hd=>⟨d,hd,rfl,Int.le_refl _⟩⟩
theorem Dom.trans{fl:Bool}{p q r:Part}(h:Dom fl p q)(g:Dom fl q r):Dom fl p r:=
 ⟨h.place.trans g.place,h.board.trans g.board,fun i hi=>g.mem i (h.mem i hi),Nat.le_trans h.visits g.visits,fun h0=>h.pos (g.pos h0),h.ll.trans g.ll,fun i=>Int.le_trans (h.load i) (g.load i),fun e=>Rat.le_trans (h.val e) (g.val e),fun d hd=>by
   obtain⟨c,hc,h1,h2⟩:=g.clk d hd;obtain⟨b,hb,h3,h4⟩:=h.clk c hc;exact⟨b,hb,by omega,by omega⟩⟩
def duV(du:Option (List ByteArray))(o:Nat):Rat:=match du with|none=>0|some l=>gR (l.getD o ByteArray.empty)
section
variable{x:Instance}{k:Nat}{near near':List Int}{du du':Option (List ByteArray)}{dl dl':List ByteArray}{M:Nat}{cn:Int}{lim fnd:Bool}{le:ByteArray}{p p':Part}{q q':RP}{o:Nat}{dr:Bool}{v d:Rat}{miles:Int}
theorem RO(hd:DuB x.orders.length du dl)(ho:o<x.orders.length){n:Nat}{a:ByteArray}(ha:Vl n a v)(hn:n≤50):Vl (n+1) (wF a o du) (v-duV du o):=by
 have hD:=hd.at ho;have hDr:=hd.right _ hD;cases du with
 | none=>
   show Vl (n+1) a (v-0);rw[Rat.sub_eq_add_neg,Rat.neg_zero,Rat.add_zero];exact ha.mono (by omega)
 | some l=>
   have hl:=hd.some l rfl;subst hl;exact(ha.sub hDr (by omega)).2
theorem zY(h:Ctx x k near)(r:Rel x (aE x k) p q)(ho:o<x.orders.length)(hp:(stR (aG x o) dr).place≥0)(hoff:(aG x o).off=false)(hn:(bX (wOf x k near du M) p ⟨(o:Nat),dr⟩).2=true):
   pP (aE x k).skills (aG x o).skills=true∧p.visits<M∧qE q o (cM (aG x o) dr)=false∧oI (gN q (aG x o) dr) (aE x k).cap=true∧bX (wOf x k near du M) p ⟨(o:Nat),dr⟩=goP (wOf x k near du M) (pE x k near du p q o dr) (stR (aG x o) dr):=by
 obtain⟨ha,hl⟩:=Aq hn;have ha:mR (aE x k).skills (aG x ((o:Nat):Int).toNat).skills=true:=ha;have hl:p.visits<M:=hl;rw[Int.toNat_natCast,zG h.ty.skills (h.acc.order _ (kL ho)).skills]at ha;obtain⟨n1,n2,n3⟩:=BM (near:=near) (du:=du) (M:=M) h r ho hp hoff ha hl;cases hs:qE q o (cM (aG x o) dr)with
 | true=>rw[n1 hs]at hn;cases hn
 | false=>
   cases hf:oI (gN q (aG x o) dr) (aE x k).cap with
   | false=>rw[n2 hs hf]at hn;cases hn
   | true=>exact⟨ha,hl,rfl,rfl,n3 hs hf⟩
theorem yB(p:Part)(q:RP)(o:Nat)(dr:Bool)(st:Stop):goP (wOf x k near du M) (pE x k near du p q o dr) st=({ pE x k near du p q o dr with clocks:=dP st (bF x.net (aE x k) p.place st.place p.clocks).1,place:=st.place,visits:=p.visits+1,value:=addV (pE x k near du p q o dr).value (W (W ((aE x k).perMile*(bF x.net (aE x k) p.place st.place p.clocks).2)*16777216)) },decide ((dP st (bF x.net (aE x k) p.place st.place p.clocks).1).length>0)):=rfl
theorem Ge(r:Rel x (aE x k) p q){c:Clk}(hc:c∈p.clocks):(0≤c.ready∧c.ready≤8192)∧ -(12288*(p.visits:Int))≤c.since∧c.since≤4096:=by
 obtain⟨R,hR,_⟩:=r.clk;exact hR.rng _ (hR.sub c hc)
theorem Cs(h:Ctx x k near)(r:Rel x (aE x k) p q){c:Clk}(hc:c∈both (aE x k) p.clocks):(0≤c.ready∧c.ready≤12288)∧ -(12288*(p.visits:Int))≤c.since∧c.since≤4096:=by
 have hr:=h.ty.rest;obtain⟨e,he,rfl|rfl⟩:=nS.1 hc
 · have:=Ge r he;omega
 · have:=Ge r he
   show(0≤W (e.ready+(aE x k).rest)∧W (e.ready+(aE x k).rest)≤12288)∧ -(12288*(p.visits:Int))≤0∧(0:Int)≤4096;rw[bU (by omega)];omega
theorem Si(h:Ctx x k near)(ho:o<x.orders.length)(hp:(stR (aG x o) dr).place≥0):(0≤(stR (aG x o) dr).start∧(stR (aG x o) dr).start≤(stR (aG x o) dr).close)∧(stR (aG x o) dr).close≤4096∧0≤(stR (aG x o) dr).service∧(stR (aG x o) dr).service≤4096:=by
 have hO:=h.acc.order _ (kL ho);have hw:dW (stR (aG x o) dr)=0:=by
   unfold stR;split
   · exact hO.wdrop
   · exact hO.wpick
 exact J9 hw hp
theorem uX(h:Ctx x k near)(r:Rel x (aE x k) p q)(sb:∀c∈p.clocks,(aE x k).start≤c.ready)(goal:Int):∀c∈(bF x.net (aE x k) p.place goal p.clocks).1,(aE x k).start≤c.ready:=by
 intro c hc;rw[(kE _ _ _ _ _).1]at hc;obtain⟨b,hb,hf⟩:=List.mem_filterMap.1 hc;obtain⟨h1,h2,_⟩:=vI hf;have hbr:=Cs h r hb;have:=YV (fun a ha=>h.acc.arc a ha) hbr.1 h1;rw[←h2]at this;have hr:=h.ty.rest;have:(aE x k).start≤b.ready:=by
   obtain⟨e,he,rfl|rfl⟩:=nS.1 hb
   · exact sb _ he
   · have h3:=sb _ he
     have h4:=Ge r he;show _≤W (e.ready+(aE x k).rest);rw[bU (by omega)];omega
 omega
theorem PL(h:Ctx x k near)(r:Rel x (aE x k) p q)(lb:∀n∈p.load,-(1000*(p.visits:Int))≤n∧n≤1000*(p.visits:Int))(hv:p.visits≤16)(ho:o<x.orders.length):
   ∀n∈gN q (aG x o) dr,-(1000*((p.visits+1:Nat):Int))≤n∧n≤1000*((p.visits+1:Nat):Int):=by
 have hO:=h.acc.order _ (kL ho);have hld:=(sZ hO.load).2;rw[r.load]at lb;unfold gN;split
 · intro n hn
   have:=GA (s:=1) (.inl rfl) (B:=1000*(p.visits:Int)) (by omega) hld lb n hn;omega
 · split
   · intro n hn
     have:=GA (s:= -1) (.inr rfl) (B:=1000*(p.visits:Int)) (by omega) hld lb n hn;omega
   · intro n hn
     have:=lb n hn;omega
theorem pN(h:Ctx x k near):Good x k M (dY (wOf x k near du M)):=by
 refine⟨Bz h,fun n hn=>?_,fun c hc=>?_⟩
 · rw[List.eq_of_mem_replicate (show n∈List.replicate (aE x k).cap.length (0:Int)from hn)]
   show -(1000*((0:Nat):Int))≤0∧(0:Int)≤1000*((0:Nat):Int);omega
 · rw[List.mem_singleton.1 (show c∈[(⟨(aE x k).start,0⟩:Clk)]from hc)]
   exact Int.le_refl _
theorem vX(h:Ctx x k near)(hd:DuB x.orders.length du dl)(hM:M≤15)(hp:Good x k M p){u:Visit}(hu:Vis x u)(hn:(bX (wOf x k near du M) p u).2=true):
   Good x k M (bX (wOf x k near du M) p u).1∧(bX (wOf x k near du M) p u).1.visits=p.visits+1:=by
 obtain⟨h1,h2⟩:=MC h hd hM hp.ok hu hn;refine⟨⟨h1,?_,?_⟩,h2⟩
 · rw[h2]
   obtain⟨q,r,_,hq⟩:=hp.ok;have hv:=r.visits;obtain⟨i,dr,rfl,hi,hpl,hof⟩:=hu;obtain⟨_,_,_,_,e⟩:=zY h r hi hpl hof hn;rw[e,yB];exact PL h r hp.lb (by omega) hi
 · obtain⟨q,r,_,hq⟩:=hp.ok
   obtain⟨i,dr,rfl,hi,hpl,hof⟩:=hu;obtain⟨_,_,_,_,e⟩:=zY h r hi hpl hof hn;rw[e,yB];intro c hc;obtain⟨b,hb,hok,rfl⟩:=(qA _ _).1 c hc;have h3:=uX h r hp.sb _ b hb;have hw:=Si h hi hpl;have h5:=Mw b.ready (stR (aG x i) dr).start;have h6:kC b.ready (stR (aG x i) dr).start≤(stR (aG x i) dr).close:=hok;have h0:=h.ty.start;show _≤W (kC b.ready (stR (aG x i) dr).start+(stR (aG x i) dr).service);rw[bU (by omega)];omega
end
end Go.Proofs.YtdlijlecpopadaaGreatDoor.Rx
end
section
namespace Go.Proofs.YtdlijlecpopadaaGreatDoor.Rx
open Go.Aw Go.Aw.D Go.Proofs Ty
open Sq
open Go.Nu
section
variable{x:Instance}{k:Nat}{near near':List Int}{du du':Option (List ByteArray)}{dl dl':List ByteArray}{M:Nat}{cn:Int}{lim fnd:Bool}{le:ByteArray}{p q:Part}{a b:RP}{o:Nat}{dr:Bool}{v d:Rat}{miles:Int}{fl:Bool}
theorem Ej(h:Ctx x k near)(ra:Rel x (aE x k) p a)(rb:Rel x (aE x k) q b)(hv:q.visits≤16)(D:Dom fl p q)(goal:Int):
   ∀e∈(bF x.net (aE x k) q.place goal q.clocks).1,∃c∈(bF x.net (aE x k) p.place goal p.clocks).1,c.ready=e.ready∧c.since≤e.since:=by
 intro e he;rw[(kE _ _ _ _ _).1]at he;rw[(kE _ _ _ _ _).1];obtain⟨e0,he0,hf⟩:=List.mem_filterMap.1 he;obtain⟨h1,h2,h3,h4⟩:=vI hf;have hb:=Cs h rb he0;have hgr:=LX (fun a ha=>h.acc.arc a ha) hb.1 h1;have hpv:=D.visits;have key:∃c0∈both (aE x k) p.clocks,c0.ready=e0.ready∧c0.since≤e0.since:=by
   obtain⟨d0,hd0,rfl|rfl⟩:=nS.1 he0
   · obtain⟨c0,hc0,g1,g2⟩:=D.clk _ hd0
     exact⟨c0,nS.2 ⟨c0,hc0,.inl rfl⟩,g1,g2⟩
   · obtain⟨c0,hc0,g1,g2⟩:=D.clk _ hd0
     exact⟨mP (aE x k) c0,nS.2 ⟨c0,hc0,.inr rfl⟩,by show W (c0.ready+_)=W (d0.ready+_);rw[g1],Int.le_refl _⟩
 obtain⟨c0,hc0,g1,g2⟩:=key;have hc:=Cs h ra hc0;have e1:W (W (e0.since+e.ready)-e0.ready)=e0.since+e.ready-e0.ready:=by rw[bU (n:=e0.since+e.ready) (by omega),bU (by omega)]
 have e2:W (W (c0.since+e.ready)-c0.ready)=c0.since+e.ready-c0.ready:=by rw[bU (n:=c0.since+e.ready) (by omega),bU (by omega)]
 refine⟨⟨e.ready,W (W (c0.since+e.ready)-c0.ready)⟩,List.mem_filterMap.2 ⟨c0,hc0,?_⟩,rfl,?_⟩
 · unfold A2
   rw[D.place,g1,h1,←h2];rw[g1]at e2;rw[if_pos];simp only[beq_self_eq_true,Bool.true_and,decide_eq_true_eq];rw[e2];rw[h3,e1]at h4;omega
 · show W (W (c0.since+e.ready)-c0.ready)≤e.since
   rw[e2,h3,e1];omega
theorem Ld{s:Stop}{l l':List Clk}(h:∀e∈l',∃c∈l,c.ready=e.ready∧c.since≤e.since):∀e∈dP s l',∃c∈dP s l,c.ready=e.ready∧c.since≤e.since:=by
 intro e he;obtain⟨e0,he0,hok,rfl⟩:=(qA s l').1 e he;obtain⟨c0,hc0,g1,g2⟩:=h e0 he0;obtain⟨c,hc,hb⟩:=(qA s l).2 c0 hc0 (by unfold okC at *;rw[g1];exact hok);have hb:=nA.1 hb;refine⟨c,hc,?_,?_⟩
 · rw[hb.1];show W (kC c0.ready s.start+s.service)=W (kC e0.ready s.start+s.service);rw[g1]
 · have h1:c.since≤c0.since:=hb.2
   show c.since≤e0.since;omega
theorem Qg(h:Ctx x k near)(ra:Rel x (aE x k) p a)(rb:Rel x (aE x k) q b)(gp:∀n∈p.load,-(1000*(p.visits:Int))≤n∧n≤1000*(p.visits:Int))(gq:∀n∈q.load,-(1000*(q.visits:Int))≤n∧n≤1000*(q.visits:Int))(hv:q.visits≤16)(D:Dom fl p q)(ho:o<x.orders.length):
   (gN a (aG x o) dr).length=(gN b (aG x o) dr).length∧∀i,(gN a (aG x o) dr).getD i 0≤(gN b (aG x o) dr).getD i 0:=by
 have hO:=h.acc.order _ (kL ho);have hld:=(sZ hO.load).2;have hpv:=D.visits;have hll:=D.ll;have hle:=D.load;rw[ra.load]at gp hll hle;rw[rb.load]at gq hll hle;have g1:∀n∈a.load,-(16000:Int)≤n∧n≤16000:=fun n hn=>by have:=gp n hn;omega
 have g2:∀n∈b.load,-(16000:Int)≤n∧n≤16000:=fun n hn=>by have:=gq n hn;omega
 unfold gN;split
 · exact FG (.inl rfl) (by omega) hld g1 g2 hll hle
 · split
   · exact FG (.inr rfl) (by omega) hld g1 g2 hll hle
   · exact⟨hll,hle⟩
def CU(x:Instance)(k:Nat)(du:Option (List ByteArray))(o:Nat)(dr:Bool):Rat:=
 if cM (aG x o) dr=true then(((eM (aG x o).now k*16+eM (aG x o).last k)*65536:Int):Rat)-duV du o else 0
theorem IW{a:Int}:0≤eM a k∧eM a k≤1:=by unfold eM;split <;> omega
theorem Nk(hd:DuB x.orders.length du dl)(ho:o<x.orders.length){n:Nat}(hn:n≤48)(hv:Vl n p.value v):Vl (n+2) (pE x k near du p a o dr).value (v+CU x k du o dr):=by
 unfold pE CU;simp only;by_cases hs:cM (aG x o) dr=true
 · rw[if_pos hs,if_pos hs]
   have b1:=IW (k:=k) (a:=(aG x o).now);have b2:=IW (k:=k) (a:=(aG x o).last);have w1:=hv.addV (n:=(eM (aG x o).now k*16+eM (aG x o).last k)*65536) (by omega) (by omega);have w2:=RO hd ho w1 (by omega);have e:v+(((eM (aG x o).now k*16+eM (aG x o).last k)*65536:Int):Rat)-duV du o=v+((((eM (aG x o).now k*16+eM (aG x o).last k)*65536:Int):Rat)-duV du o):=by
     generalize (((eM (aG x o).now k*16+eM (aG x o).last k)*65536:Int):Rat)=z;generalize duV du o=y
     grind
   rw[←e];exact w2
 · rw[if_neg hs,if_neg hs,Rat.add_zero]
   exact hv.mono (by omega)
theorem Iy(h:Ctx x k near)(h':Ctx x k near')(hd:DuB x.orders.length du dl)(hd':DuB x.orders.length du' dl')(hM:M≤15)
   (hN:∀o,o<x.orders.length→∀i,(near.getD o 0).toNat.testBit i=true→(near'.getD o 0).toNat.testBit i=true)
   (hD:fl=true→∀o,o<x.orders.length→duV du' o≤duV du o)
   (gp:Good x k M p) (gq:Good x k M q) (D:Dom fl p q) {u:Visit} (hu:Vis x u) (hn:(bX (wOf x k near' du' M) q u).2=true):
   (bX (wOf x k near du M) p u).2=true∧Dom fl (bX (wOf x k near du M) p u).1 (bX (wOf x k near' du' M) q u).1:=by
 obtain⟨a,ra,⟨va,da,hva⟩,hqa⟩:=gp.ok;obtain⟨b,rb,⟨vb,db,hvb⟩,hqb⟩:=gq.ok;obtain⟨i,dr,rfl,hi,hpl,hof⟩:=hu;obtain⟨hab,hl,hsh,hf,e⟩:=zY h' rb hi hpl hof hn;have hvb2:=rb.visits;have hva2:=ra.visits;have hpv:=D.visits;obtain⟨l1,l2⟩:=Qg (dr:=dr) h ra rb gp.lb gq.lb (by omega) D hi;have fa:=Qx l1 l2 hf;have sa:qE a i (cM (aG x i) dr)=false:=by
   have hmem:=D.mem i;have hbd:=D.board;rw[ra.memory,rb.memory,←nT,←nT]at hmem;rw[ra.board,rb.board]at hbd;unfold qE at hsh ⊢;rw[hbd];cases hma:jK a.memory i with
   | false=>
     cases hmb:jK b.memory i with
     | false=>rw[hmb]at hsh;exact hsh
     | true=>
       rw[hmb]at hsh;cases hst:cM (aG x i) dr with
       | true=>rw[hst]at hsh;cases jK b.board i <;> exact Bool.noConfusion hsh
       | false=>rw[hst]at hsh;cases hbb:jK b.board i <;> rw[hbb]at hsh <;> first|rfl|exact hsh
   | true=>
     rw[hmem hma]at hsh;exact hsh
 have n3:=(BM (near:=near) (du:=du) (M:=M) h ra hi hpl hof hab (by omega)).2.2 sa fa;rw[e,yB]at hn;rw[n3,yB,e,yB];have hdd:=Ej h ra rb (by omega) D (stR (aG x i) dr).place;have hsd:=Ld (s:=stR (aG x i) dr) hdd;have hne:(dP (stR (aG x i) dr) (bF x.net (aE x k) q.place (stR (aG x i) dr).place q.clocks).1)≠[]:=by
   have:(dP (stR (aG x i) dr) (bF x.net (aE x k) q.place (stR (aG x i) dr).place q.clocks).1).length>0:=of_decide_eq_true hn;exact List.length_pos_iff.1 this
 have hnp:(dP (stR (aG x i) dr) (bF x.net (aE x k) p.place (stR (aG x i) dr).place p.clocks).1)≠[]:=by
   obtain⟨e0,l,he⟩:=List.exists_cons_of_ne_nil hne;obtain⟨c,hc,_⟩:=hsd e0 (by rw[he];simp);intro h0;rw[h0]at hc;cases hc
 have hdq:=(kE x.net (aE x k) q.place (stR (aG x i) dr).place q.clocks).2 (fun e=>hne (by rw[e];rfl));have hdp:=(kE x.net (aE x k) p.place (stR (aG x i) dr).place p.clocks).2 (fun e=>hnp (by rw[e];rfl));refine⟨decide_eq_true (List.length_pos_iff.2 hnp),⟨rfl,?_,?_,?_,fun _=>Nat.succ_pos _,?_,?_,?_,hsd⟩⟩
 · show(if cM (aG x i) dr=true then(if kO (aG x i)=true then p.board+2^i else p.board)else p.board-2^i)=(if cM (aG x i) dr=true then(if kO (aG x i)=true then q.board+2^i else q.board)else q.board-2^i)
   rw[D.board]
 · intro j
   show(if cM (aG x i) dr=true then pM near p.memory i else p.memory).testBit j=true→(if cM (aG x i) dr=true then pM near' q.memory i else q.memory).testBit j=true;split
   · unfold pM
     rw[Nat.testBit_or,Nat.testBit_and,Nat.testBit_or,Nat.testBit_and];simp only[Bool.or_eq_true,Bool.and_eq_true];rintro(⟨m1,m2⟩|m3)
     · exact .inl ⟨D.mem j m1,hN i hi j m2⟩
     · exact .inr m3
   · exact D.mem j
 · show p.visits+1≤q.visits+1
   omega
 · exact l1
 · exact l2
 · intro hfl
   have hval:=D.val hfl;have hdu:=hD hfl i hi;have b0:=xM h.money.2.1 (Fu h.mil (aE x k) q.place (stR (aG x i) dr).place);show gR (addV (pE x k near du p a i dr).value (W (W ((aE x k).perMile*(bF x.net (aE x k) p.place (stR (aG x i) dr).place p.clocks).2)*16777216)))≤gR (addV (pE x k near' du' q b i dr).value (W (W ((aE x k).perMile*(bF x.net (aE x k) q.place (stR (aG x i) dr).place q.clocks).2)*16777216)));rw[hdp,hdq,D.place];generalize (aE x k).perMile*mil x.net (aE x k) q.place (stR (aG x i) dr).place=pm at *;rw[bU (n:=pm) (by omega),bU (n:=pm*16777216) (by omega)];have wp:=(Nk (k:=k) (near:=near) (a:=a) (dr:=dr) hd hi (by omega) hva.own).addV (n:=pm*16777216) (by omega) (by omega);have wq:=(Nk (k:=k) (near:=near') (a:=b) (dr:=dr) hd' hi (by omega) hvb.own).addV (n:=pm*16777216) (by omega) (by omega);rw[wp.val,wq.val];rw[hva.own.val,hvb.own.val]at hval;have hdel:CU x k du i dr≤CU x k du' i dr:=by
     unfold CU;split
     · generalize (((eM (aG x i).now k*16+eM (aG x i).last k)*65536:Int):Rat)=z
       generalize duV du i=y1 at *;generalize duV du' i=y2 at *
       grind
     · exact Rat.le_refl
   generalize CU x k du i dr=y1 at *;generalize CU x k du' i dr=y2 at *;generalize ((pm*16777216:Int):Rat)=z
   grind
theorem Ss{e e' s:Int}(h0:s≤e)(h1:e≤e'):sqW e s≤sqW e' s:=by
 unfold sqW;rw[Int.tdiv_eq_ediv_of_nonneg (by omega),Int.tdiv_eq_ediv_of_nonneg (by omega)];have a1:0≤(e-s)/64:=by omega
 have a2:(e-s)/64≤(e'-s)/64:=by omega
 exact Int.mul_le_mul a2 a2 a1 (by omega)
theorem SA(h:Ctx x k near)(h':Ctx x k near')(hM:M≤15)(gp:Good x k M p)(gq:Good x k M q)(D:Dom fl p q)(hn:(iB (wOf x k near' du' M) q).2.2=true):
   (iB (wOf x k near du M) p).2.2=true∧(fl=true→gR (mM (wOf x k near du M) p (iB (wOf x k near du M) p).1 (iB (wOf x k near du M) p).2.1)≤gR (mM (wOf x k near' du' M) q (iB (wOf x k near' du' M) q).1 (iB (wOf x k near' du' M) q).2.1)):=by
 obtain⟨a,ra,_,hqa⟩:=gp.ok;obtain⟨b,rb,_,hqb⟩:=gq.ok;have hvb2:=rb.visits;have hva2:=ra.visits;have hpv:=D.visits;have eP:iB (wOf x k near du M) p=if((p.visits:Int) == 0||(p.board:Int) != 0)=true then(0,0,false)
   else((bF x.net (aE x k) p.place (aE x k).dst p.clocks).1.foldl (kZ (aE x k).close) (-1),(bF x.net (aE x k) p.place (aE x k).dst p.clocks).2,decide ((bF x.net (aE x k) p.place (aE x k).dst p.clocks).1.foldl (kZ (aE x k).close) (-1)≥0)):=rfl
 have eQ:iB (wOf x k near' du' M) q=if((q.visits:Int) == 0||(q.board:Int) != 0)=true then(0,0,false)
   else((bF x.net (aE x k) q.place (aE x k).dst q.clocks).1.foldl (kZ (aE x k).close) (-1),(bF x.net (aE x k) q.place (aE x k).dst q.clocks).2,decide ((bF x.net (aE x k) q.place (aE x k).dst q.clocks).1.foldl (kZ (aE x k).close) (-1)≥0)):=rfl
 have hbq:¬((q.visits:Int) == 0||(q.board:Int) != 0)=true:=fun hb=>by rw[eQ,if_pos hb]at hn;cases hn
 have hbp:¬((p.visits:Int) == 0||(p.board:Int) != 0)=true:=by
   have:=D.pos;rw[D.board];simp only[Bool.or_eq_true,not_or,beq_iff_eq,bne_iff_ne,ne_eq,Decidable.not_not]at hbq ⊢;exact⟨by omega,hbq.2⟩
 rw[if_neg hbq]at eQ;rw[if_neg hbp]at eP;have hn0:=hn;rw[eQ]at hn;have hn1:=of_decide_eq_true hn;have hdd:=Ej h ra rb (by omega) D (aE x k).dst;have sp:=uX h ra gp.sb (aE x k).dst;have sq:=uX h rb gq.sb (aE x k).dst;have hs:=h.ty.start;have hP:=vU (aE x k).close (bF x.net (aE x k) p.place (aE x k).dst p.clocks).1 [] (-1) (by simp) (fun c hc=>by have:=sp c hc;omega) (.inl ⟨rfl,by simp⟩);have hQ:=vU (aE x k).close (bF x.net (aE x k) q.place (aE x k).dst q.clocks).1 [] (-1) (by simp) (fun c hc=>by have:=sq c hc;omega) (.inl ⟨rfl,by simp⟩);rw[List.nil_append]at hP hQ;have key:(aE x k).start≤(bF x.net (aE x k) p.place (aE x k).dst p.clocks).1.foldl (kZ (aE x k).close) (-1)∧(bF x.net (aE x k) p.place (aE x k).dst p.clocks).1.foldl (kZ (aE x k).close) (-1)≤(bF x.net (aE x k) q.place (aE x k).dst q.clocks).1.foldl (kZ (aE x k).close) (-1):=by
   rcases hQ with⟨q1,_⟩|⟨⟨e,he,q1,q2⟩,_⟩
   · rw[q1]at hn1;omega
   · obtain⟨c,hc,g1,g2⟩:=hdd e he
     rcases hP with⟨_,p2⟩|⟨⟨c',hc',p1,p2⟩,p3⟩
     · exact absurd (by omega) (p2 c hc)
     · have:=p3 c hc (by omega)
       have:=sp c' hc';omega
 have hpt:(iB (wOf x k near du M) p).2.2=true:=by
   rw[eP];exact decide_eq_true (by omega)
 refine⟨hpt,fun hfl=>?_⟩;obtain⟨vp,mp,p1,p2,p3,p4,p5⟩:=CV h hM gp.ok hpt;obtain⟨vq,mq,q1,q2,q3,q4,q5⟩:=CV h' hM gq.ok hn0;have hval:=D.val hfl;rw[p1.val,q1.val]at hval;rw[←p3,←q3,(zJ h (by omega) p1 p2 p5).val,(zJ h' (by omega) q1 q2 q5).val];have e1:(iB (wOf x k near du M) p).1=(bF x.net (aE x k) p.place (aE x k).dst p.clocks).1.foldl (kZ (aE x k).close) (-1):=by rw[eP]
 have e2:(iB (wOf x k near' du' M) q).1=(bF x.net (aE x k) q.place (aE x k).dst q.clocks).1.foldl (kZ (aE x k).close) (-1):=by rw[eQ]
 rw[←e1,←e2]at key;have hm:mp=mq:=by rw[p4,q4,D.place]
 subst hm;generalize (iB (wOf x k near du M) p).1=ep at *;generalize (iB (wOf x k near' du' M) q).1=eq at *;have k1:=Ss key.1 key.2;have k2:(aE x k).perTick*(ep-(aE x k).start)≤(aE x k).perTick*(eq-(aE x k).start):=Int.mul_le_mul_of_nonneg_left (by omega) h.money.2.2.1;have k3:((aE x k).fixed+(aE x k).perMile*mp+(aE x k).perTick*(ep-(aE x k).start))*16777216+sqW ep (aE x k).start≤((aE x k).fixed+(aE x k).perMile*mp+(aE x k).perTick*(eq-(aE x k).start))*16777216+sqW eq (aE x k).start:=by
   generalize (aE x k).perTick*(ep-(aE x k).start)=t1 at *;generalize (aE x k).perTick*(eq-(aE x k).start)=t2 at *;generalize (aE x k).perMile*mp=t3 at *;omega
 have k4:=Rat.intCast_le_intCast.2 k3;generalize (((((aE x k).fixed+(aE x k).perMile*mp+(aE x k).perTick*(ep-(aE x k).start))*16777216+sqW ep (aE x k).start:Int)):Rat)=z1 at *;generalize (((((aE x k).fixed+(aE x k).perMile*mp+(aE x k).perTick*(eq-(aE x k).start))*16777216+sqW eq (aE x k).start:Int)):Rat)=z2 at *
 grind
theorem jL{α β:Type}{f g:α→List β}:∀{l:List α},(∀a∈l,(f a).length≤(g a).length)→(l.flatMap f).length≤(l.flatMap g).length
 | [],_=>Nat.le_refl _
 | a::l,h=>by
   rw[List.flatMap_cons,List.flatMap_cons,List.length_append,List.length_append];have h1:=h a (by simp);have h2:=jL (l:=l) (fun b hb=>h b (by simp[hb]));omega
theorem Ah(h:Ctx x k near)(h':Ctx x k near')(hM:M≤15)(gp:Good x k M p)(gq:Good x k M q)(D:Dom fl p q):
   (jU (wOf x k near' du' M) q).length≤(jU (wOf x k near du M) p).length∧(fl=true→∀r∈jU (wOf x k near' du' M) q,∃r'∈jU (wOf x k near du M) p,gR r'≤gR r):=by
 unfold jU;by_cases hn:(iB (wOf x k near' du' M) q).2.2=true
 · obtain⟨k1,k2⟩:=SA (du:=du) h h' hM gp gq D hn
   rw[if_pos hn,if_pos k1];refine⟨Nat.le_refl _,fun hfl r hr=>⟨_,List.mem_singleton.2 rfl,?_⟩⟩;rw[List.mem_singleton.1 hr];exact k2 hfl
 · rw[if_neg hn]
   exact⟨Nat.zero_le _,fun _ r hr=>by cases hr⟩
theorem BC(h:Ctx x k near)(h':Ctx x k near')(hd:DuB x.orders.length du dl)(hd':DuB x.orders.length du' dl')(hM:M≤15)
   (hN:∀o,o<x.orders.length→∀i,(near.getD o 0).toNat.testBit i=true→(near'.getD o 0).toNat.testBit i=true)
   (hD:fl=true→∀o,o<x.orders.length→duV du' o≤duV du o):
   ∀(f:Nat) (p q:Part),Good x k M p→Good x k M q→Dom fl p q →
     (mK (wOf x k near' du' M) (cQ x) f q).length≤(mK (wOf x k near du M) (cQ x) f p).length∧(fl=true→∀r∈mK (wOf x k near' du' M) (cQ x) f q,∃r'∈mK (wOf x k near du M) (cQ x) f p,gR r'≤gR r)
 | 0,p,q,gp,gq,D=>Ah h h' hM gp gq D
 | f+1,p,q,gp,gq,D=>by
   obtain⟨l1,l2⟩:=Ah (du:=du) (du':=du') h h' hM gp gq D;have hst:=fun u (hu:u∈cQ x) (hn:(bX (wOf x k near' du' M) q u).2=true)=>Iy h h' hd hd' hM hN hD gp gq D (sK hu) hn
   have hrec:=fun u (hu:u∈cQ x) (hn:(bX (wOf x k near' du' M) q u).2=true)=>
     BC h h' hd hd' hM hN hD f _ _ (vX h hd hM gp (sK hu) (hst u hu hn).1).1 (vX h' hd' hM gq (sK hu) hn).1 (hst u hu hn).2
   show(jU (wOf x k near' du' M) q++(cQ x).flatMap fun v=>if(bX (wOf x k near' du' M) q v).2=true then mK (wOf x k near' du' M) (cQ x) f (bX (wOf x k near' du' M) q v).1 else[]).length≤(jU (wOf x k near du M) p++(cQ x).flatMap fun v=>if(bX (wOf x k near du M) p v).2=true then mK (wOf x k near du M) (cQ x) f (bX (wOf x k near du M) p v).1 else[]).length ∧
     (fl=true→∀r∈(jU (wOf x k near' du' M) q++(cQ x).flatMap fun v=>if(bX (wOf x k near' du' M) q v).2=true then mK (wOf x k near' du' M) (cQ x) f (bX (wOf x k near' du' M) q v).1 else[]),∃r'∈(jU (wOf x k near du M) p++(cQ x).flatMap fun v=>if(bX (wOf x k near du M) p v).2=true then mK (wOf x k near du M) (cQ x) f (bX (wOf x k near du M) p v).1 else[]),gR r'≤gR r)
   refine⟨?_,fun hfl r hr=>?_⟩
   · rw[List.length_append,List.length_append]
     refine Nat.add_le_add l1 (jL fun u hu=>?_);by_cases hn:(bX (wOf x k near' du' M) q u).2=true
     · rw[if_pos hn,if_pos (hst u hu hn).1]
       exact(hrec u hu hn).1
     · rw[if_neg hn];exact Nat.zero_le _
   · rcases List.mem_append.1 hr with hr|hr
     · obtain⟨r',h1,h2⟩:=l2 hfl r hr
       exact⟨r',List.mem_append_left _ h1,h2⟩
     · obtain⟨u,hu,hr⟩:=List.mem_flatMap.1 hr
       split at hr
       · next hn=>
         obtain⟨r',h1,h2⟩:=(hrec u hu hn).2 hfl r hr;exact⟨r',List.mem_append_right _ (List.mem_flatMap.2 ⟨u,hu,by rw[if_pos (hst u hu hn).1];exact h1⟩),h2⟩
       · cases hr
end
end Go.Proofs.YtdlijlecpopadaaGreatDoor.Rx
end
