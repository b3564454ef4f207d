/- Texts joined by a program: RyF, RyG, RyH. -/
import Derived.Test.YtdlijlecpopadaaGreatDoorZz37

section
set_option linter.unusedSimpArgs false
set_option linter.unusedVariables false
namespace Go.Proofs.YtdlijlecpopadaaGreatDoor.Rx
open Go.Aw Go.Aw.D Go.Proofs Ty
open Sq
open Go.Nu
set_option maxRecDepth 100000
theorem Yr{p q:Point}{t:Int}(hp:0≤p.t∧p.t≤4096∧p.t≤p.a∧p.a≤p.t+4096)(hq:0≤q.t∧q.t≤4096∧q.t≤q.a∧q.a≤q.t+4096)(ha:p.a≤q.a)(h1:p.t≤t)(h2:t<q.t):t≤Bb p q t:=by
 unfold Bb;have hx:0≤t-p.t∧t-p.t≤4096:=by omega
 have hy:0≤q.a-p.a∧q.a-p.a≤8192:=by omega
 have hm0:0≤(t-p.t)*(q.a-p.a):=Int.mul_nonneg hx.1 hy.1;have hm1:(t-p.t)*(q.a-p.a)≤4096*8192:=Int.mul_le_mul hx.2 hy.2 hy.1 (by omega);have k1:(t-p.t)*((q.t-p.t)-(p.a-p.t))≤(t-p.t)*(q.a-p.a):=Int.mul_le_mul_of_nonneg_left (by omega) hx.1;have k2:(p.a-p.t)*(t-p.t)≤(p.a-p.t)*(q.t-p.t):=Int.mul_le_mul_of_nonneg_left (by omega) (by omega);have k3:(t-p.t)*((q.t-p.t)-(p.a-p.t))=(t-p.t)*(q.t-p.t)-(p.a-p.t)*(t-p.t):=by rw[Int.mul_sub,Int.mul_comm (t-p.t) (p.a-p.t)]
 have k4:((t-p.t)-(p.a-p.t))*(q.t-p.t)=(t-p.t)*(q.t-p.t)-(p.a-p.t)*(q.t-p.t):=Int.sub_mul _ _ _;rw[bP (n:=t-p.t) (by omega),bP (n:=q.a-p.a) (by omega),bP (n:=(t-p.t)*(q.a-p.a)) (by omega),bP (n:=q.t-p.t) (by omega)];have key:(t-p.t)-(p.a-p.t)≤((t-p.t)*(q.a-p.a)+q.t-p.t-1)/(q.t-p.t):=by
   rw[Int.le_ediv_iff_mul_le (by omega)];omega
 generalize (t-p.t)*(q.a-p.a)=m at *;rw[bP (n:=m+q.t) (by omega),bP (n:=m+q.t-p.t) (by omega),bP (n:=m+q.t-p.t-1) (by omega),Int.tdiv_eq_ediv_of_nonneg (by omega)];have d0:0≤(m+q.t-p.t-1)/(q.t-p.t):=Int.ediv_nonneg (by omega) (by omega);have d1:(m+q.t-p.t-1)/(q.t-p.t)≤m+q.t-p.t-1:=Int.ediv_le_self _ (by omega);have e:IntKind.i64.wrap ((m+q.t-p.t-1)/(q.t-p.t))=(m+q.t-p.t-1)/(q.t-p.t):=bP (by omega);rw[e,bP (by omega)];omega
theorem OB{p:Point}{t:Int}(hp:0≤p.t∧p.t≤4096∧p.t≤p.a∧p.a≤p.t+4096)(ht:0≤t∧t≤12288):t≤sN p t:=by
 unfold sN;rw[bP (n:=t+p.a) (by omega),bP (by omega)];omega
theorem aaN{l:List Point}{t:Int}(h:hU l=[])(ht:0≤t∧t≤12288):t≤eY l t:=by
 have hb:=CS h;have hl:=hb.len;unfold eY;rw[if_neg (by unfold oT;rw[h];simp;omega)];split
 · rename_i k hk
   have hs:=List.find?_some hk;have hm:=List.mem_range.1 (List.mem_of_find?_eq_some hk);simp only[kS,Bool.and_eq_true,decide_eq_true_eq]at hs;have:=hb.mono k (by omega);exact Yr (hb.pt _ (pM (by omega))) (hb.pt _ (pM (by omega))) this.2 hs.1 hs.2
 · split
   · exact OB (hb.pt _ (pM (by omega))) ht
   · exact OB (hb.pt _ (pM (by omega))) ht
theorem PE{t:Int}:∀(l:List Point) (s B:Int),(∀p∈l,0≤p.a∧p.a≤4096)→0≤s∧s≤B→B+4096*l.length≤1000000000000→s≤l.foldl (kG t) s
 | [],s,B,_,hs,_=>Int.le_refl _
 | p::l,s,B,hp,hs,hB=>by
   have h1:=hp p (by simp);simp only[List.length_cons,List.foldl_cons]at hB ⊢;have e:s≤kG t s p∧kG t s p≤B+4096:=by
     unfold kG;split
     · rw[bP (by omega)];omega
     · omega
   have:=PE (t:=t) l (kG t s p) (B+4096) (fun q hq=>hp q (by simp[hq])) (by omega) (by omega);omega
theorem Qz{a:Arc}{t:Int}(h:ArcOk a)(ht:0≤t∧t≤12288):t≤mM a t:=by
 have h1:=PO h.travel ht;have h2:=h.slow;have h3:=aaN h.travel ht;have:=PE (t:=t) a.slow _ 100000000 (fun p hp=>(h.pt p hp).2) h1 (by omega);unfold mM;omega
theorem afK{n:Network}(hn:∀a∈n.arcs,ArcOk a){p f g t:Int}(ht:0≤t∧t≤12288)(h:(dM n p f g t).2.2=0):t≤(dM n p f g t).1:=by
 unfold dM at h ⊢;split
 · rename_i h1;rw[if_pos h1]at h;cases h
 · rename_i h1
   rw[if_neg h1]at h;split
   · exact Int.le_refl _
   · rename_i h2
     rw[if_neg h2]at h;cases e:jP n p f g with
     | none=>rw[e]at h;cases h
     | some a=>
       have hm:a∈n.arcs:=by
         unfold jP at e;exact List.mem_of_find?_eq_some e
       exact Qz (hn a hm) ht
theorem I7{s B:Int}(hs:s=1∨s= -1)(hB:0≤B∧B≤100000):∀{a b:List Int},(∀n∈b,0≤n∧n≤1000)→(∀n∈a,-B≤n∧n≤B)→∀n∈cP a b s,-(B+1000)≤n∧n≤B+1000
 | [],b,_,_=>by intro n hn;simp[cP]at hn
 | u::a,[],_,_=>by intro n hn;simp[cP]at hn
 | u::a,v::b,hb,ha=>by
   have h1:=hb v (by simp);have h2:=ha u (by simp);intro n hn;rcases List.mem_cons.1 (show n∈W (u+W (s*v))::cP a b s from hn)with rfl|hn
   · rcases hs with rfl|rfl
     · rw[Int.one_mul,bP (n:=v) (by omega),bP (by omega)];omega
     · rw[show(-1:Int)*v= -v by omega,bP (n:= -v) (by omega),bP (by omega)];omega
   · exact I7 hs hB (fun m hm=>hb m (by simp[hm])) (fun m hm=>ha m (by simp[hm])) n hn
theorem IP{s B : Int}(hs : s = 1 ∨ s = -1)(hB : 0 ≤ B ∧ B ≤ 100000): ∀ {a a' b : List Int}, (∀ n ∈ b, 0 ≤ n ∧ n ≤ 1000) → (∀ n ∈ a, -B ≤ n ∧ n ≤ B) → (∀ n ∈ a', -B ≤ n ∧ n ≤ B) → a.length = a'.length → (∀ i, a.getD i 0 ≤ a'.getD i 0) →
   (cP a b s).length=(cP a' b s).length∧∀i,(cP a b s).getD i 0≤(cP a' b s).getD i 0
 | [],[],b,_,_,_,_,_=>⟨rfl,fun i=>Int.le_refl _⟩
 | [],_::_,_,_,_,_,hl,_=>by simp at hl
 | _::_,[],_,_,_,_,hl,_=>by simp at hl
 | u::a,u'::a',[],_,_,_,_,_=>⟨rfl,fun i=>Int.le_refl _⟩
 | u::a,u'::a',v::b,hb,ha,ha',hl,hle=>by
   have h1:=hb v (by simp);have h2:=ha u (by simp);have h3:=ha' u' (by simp);have h4:u≤u':=hle 0;obtain⟨q1,q2⟩:=IP (b:=b) hs hB (fun m hm=>hb m (by simp[hm])) (fun m hm=>ha m (by simp[hm])) (fun m hm=>ha' m (by simp[hm])) (show a.length=a'.length by simpa using hl) (fun i=>hle (i+1));refine⟨by show(cP a b s).length+1=(cP a' b s).length+1;rw[q1],fun i=>?_⟩;cases i with
   | zero=>
     show W (u+W (s*v))≤W (u'+W (s*v));rcases hs with rfl|rfl
     · rw[Int.one_mul,bP (n:=v) (by omega),bP (by omega),bP (by omega)];omega
     · rw[show(-1:Int)*v= -v by omega,bP (n:= -v) (by omega),bP (by omega),bP (by omega)];omega
   | succ i=>exact q2 i
theorem RV{a b c:List Int}(hl:a.length=b.length)(h:∀i,a.getD i 0≤b.getD i 0)(hf:lY b c=true):lY a c=true:=by
 unfold lY at *;rw[List.all_eq_true]at *;intro i hi;have:=hf i (by rw[←hl];exact hi);have:=h i;simp only[Bool.not_eq_true',decide_eq_false_iff_not]at *;omega
structure Good(x:Instance)(k M:Nat)(p:Part):Prop where
 ok:Ok x k M p
 lb:∀n∈p.load,-(1000*(p.visits:Int))≤n∧n≤1000*(p.visits:Int)
 sb:∀c∈p.clocks,(aD x k).start≤c.ready
structure Dom(fl:Bool)(p q:Part):Prop where
 place:p.place=q.place
 board:p.board=q.board
 mem:∀i,p.memory.testBit i=true→q.memory.testBit i=true
 visits:p.visits≤q.visits
 pos:0<q.visits→0<p.visits
 ll:p.load.length=q.load.length
 load:∀i,p.load.getD i 0≤q.load.getD i 0
 val:fl=true→lF p.value≤lF q.value
 clk:∀d∈q.clocks,∃c∈p.clocks,c.ready=d.ready∧c.since≤d.since
theorem Dom.refl(fl:Bool)(p:Part):Dom fl p p:=⟨rfl,rfl,fun _ h=>h,Nat.le_refl _,fun h=>h,rfl,fun _=>Int.le_refl _,fun _=>Rat.le_refl,fun d hd=>⟨d,hd,rfl,Int.le_refl _⟩⟩
theorem Dom.trans{fl:Bool}{p q r:Part}(h:Dom fl p q)(g:Dom fl q r):Dom fl p r:=
 ⟨h.place.trans g.place,h.board.trans g.board,fun i hi=>g.mem i (h.mem i hi),Nat.le_trans h.visits g.visits,fun h0=>h.pos (g.pos h0),h.ll.trans g.ll,fun i=>Int.le_trans (h.load i) (g.load i),fun e=>Rat.le_trans (h.val e) (g.val e),fun d hd=>by
   obtain⟨c,hc,h1,h2⟩:=g.clk d hd;obtain⟨b,hb,h3,h4⟩:=h.clk c hc;exact⟨b,hb,by omega,by omega⟩⟩
def duV(du:Option (List ByteArray))(o:Nat):Rat:=match du with|none=>0|some l=>lF (l.getD o ByteArray.empty)
section
variable{x:Instance}{k:Nat}{near near':List Int}{du du':Option (List ByteArray)}{dl dl':List ByteArray}{M:Nat}{cn:Int}{lim fnd:Bool}{le:ByteArray}{p p':Part}{q q':RP}{o:Nat}{dr:Bool}{v d:Rat}{miles:Int}
theorem UJ(hd:DuB x.orders.length du dl)(ho:o<x.orders.length){n:Nat}{a:ByteArray}(ha:Vl n a v)(hn:n≤50):Vl (n+1) (yH a o du) (v-duV du o):=by
 have hD:=hd.at ho;have hDr:=hd.right _ hD;cases du with
 | none=>
   show Vl (n+1) a (v-0);rw[Rat.sub_eq_add_neg,Rat.neg_zero,Rat.add_zero];exact ha.mono (by omega)
 | some l=>
   have hl:=hd.some l rfl;subst hl;exact(ha.sub hDr (by omega)).2
theorem Bd(h : Ctx x k near)(r : Rel x (aD x k) p q)(ho : o < x.orders.length)(hp : (stR (aF x o) dr).place ≥ 0)(hoff : (aF x o).off = false)(hn : (cR (wOf x k near du M) p ⟨(o : Nat), dr⟩).2 = true):
   jU (aD x k).skills (aF x o).skills=true∧p.visits<M∧mX q o (cQ (aF x o) dr)=false∧lY (dY q (aF x o) dr) (aD x k).cap=true∧cR (wOf x k near du M) p ⟨(o:Nat),dr⟩=goP (wOf x k near du M) (rC x k near du p q o dr) (stR (aF x o) dr):=by
 obtain⟨ha,hl⟩:=BS hn;have ha:nN (aD x k).skills (aF x ((o:Nat):Int).toNat).skills=true:=ha;have hl:p.visits<M:=hl;rw[Int.toNat_natCast,yC h.ty.skills (h.acc.order _ (kU ho)).skills]at ha;obtain⟨n1,n2,n3⟩:=DP (near:=near) (du:=du) (M:=M) h r ho hp hoff ha hl;cases hs:mX q o (cQ (aF x o) dr)with
 | true=>rw[n1 hs]at hn;cases hn
 | false=>
   cases hf:lY (dY q (aF x o) dr) (aD x k).cap with
   | false=>rw[n2 hs hf]at hn;cases hn
   | true=>exact⟨ha,hl,rfl,rfl,n3 hs hf⟩
theorem zR(p:Part)(q:RP)(o:Nat)(dr:Bool)(st:Stop):goP (wOf x k near du M) (rC x k near du p q o dr) st=({ rC x k near du p q o dr with clocks:=eA st (bH x.net (aD x k) p.place st.place p.clocks).1,place:=st.place,visits:=p.visits+1,value:=addV (rC x k near du p q o dr).value (W (W ((aD x k).perMile*(bH x.net (aD x k) p.place st.place p.clocks).2)*16777216)) },decide ((eA st (bH x.net (aD x k) p.place st.place p.clocks).1).length>0)):=rfl
theorem Iq(r:Rel x (aD x k) p q){c:Clk}(hc:c∈p.clocks):(0≤c.ready∧c.ready≤8192)∧ -(12288*(p.visits:Int))≤c.since∧c.since≤4096:=by
 obtain⟨R,hR,_⟩:=r.clk;exact hR.rng _ (hR.sub c hc)
theorem DN(h:Ctx x k near)(r:Rel x (aD x k) p q){c:Clk}(hc:c∈both (aD x k) p.clocks):(0≤c.ready∧c.ready≤12288)∧ -(12288*(p.visits:Int))≤c.since∧c.since≤4096:=by
 have hr:=h.ty.rest;obtain⟨e,he,rfl|rfl⟩:=pN.1 hc
 · have:=Iq r he;omega
 · have:=Iq r he
   show(0≤W (e.ready+(aD x k).rest)∧W (e.ready+(aD x k).rest)≤12288)∧ -(12288*(p.visits:Int))≤0∧(0:Int)≤4096;rw[bP (by omega)];omega
theorem Tq(h:Ctx x k near)(ho:o<x.orders.length)(hp:(stR (aF x o) dr).place≥0):(0≤(stR (aF x o) dr).start∧(stR (aF x o) dr).start≤(stR (aF x o) dr).close)∧(stR (aF x o) dr).close≤4096∧0≤(stR (aF x o) dr).service∧(stR (aF x o) dr).service≤4096:=by
 have hO:=h.acc.order _ (kU ho);have hw:fB (stR (aF x o) dr)=0:=by
   unfold stR;split
   · exact hO.wdrop
   · exact hO.wpick
 exact Je hw hp
theorem wQ(h:Ctx x k near)(r:Rel x (aD x k) p q)(sb:∀c∈p.clocks,(aD x k).start≤c.ready)(goal:Int):∀c∈(bH x.net (aD x k) p.place goal p.clocks).1,(aD x k).start≤c.ready:=by
 intro c hc;rw[(lI _ _ _ _ _).1]at hc;obtain⟨b,hb,hf⟩:=List.mem_filterMap.1 hc;obtain⟨h1,h2,_⟩:=yD hf;have hbr:=DN h r hb;have:=afK (fun a ha=>h.acc.arc a ha) hbr.1 h1;rw[←h2]at this;have hr:=h.ty.rest;have:(aD x k).start≤b.ready:=by
   obtain⟨e,he,rfl|rfl⟩:=pN.1 hb
   · exact sb _ he
   · have h3:=sb _ he
     have h4:=Iq r he;show _≤W (e.ready+(aD x k).rest);rw[bP (by omega)];omega
 omega
theorem SQ(h : Ctx x k near)(r : Rel x (aD x k) p q)(lb : ∀ n ∈ p.load, -(1000 * (p.visits : Int)) ≤ n ∧ n ≤ 1000 * (p.visits : Int))(hv : p.visits ≤ 16)(ho : o < x.orders.length):
   ∀n∈dY q (aF x o) dr,-(1000*((p.visits+1:Nat):Int))≤n∧n≤1000*((p.visits+1:Nat):Int):=by
 have hO:=h.acc.order _ (kU ho);have hld:=(uR hO.load).2;rw[r.load]at lb;unfold dY;split
 · intro n hn
   have:=I7 (s:=1) (.inl rfl) (B:=1000*(p.visits:Int)) (by omega) hld lb n hn;omega
 · split
   · intro n hn
     have:=I7 (s:= -1) (.inr rfl) (B:=1000*(p.visits:Int)) (by omega) hld lb n hn;omega
   · intro n hn
     have:=lb n hn;omega
theorem Ni(h:Ctx x k near):Good x k M (eU (wOf x k near du M)):=by
 refine⟨Ag h,fun n hn=>?_,fun c hc=>?_⟩
 · rw[List.eq_of_mem_replicate (show n∈List.replicate (aD x k).cap.length (0:Int)from hn)]
   show -(1000*((0:Nat):Int))≤0∧(0:Int)≤1000*((0:Nat):Int);omega
 · rw[List.mem_singleton.1 (show c∈[(⟨(aD x k).start,0⟩:Clk)]from hc)]
   exact Int.le_refl _
theorem FJ(h : Ctx x k near)(hd : DuB x.orders.length du dl)(hM : M ≤ 15)(hp : Good x k M p){u : Visit}(hu : Vis x u)(hn : (cR (wOf x k near du M) p u).2 = true):
   Good x k M (cR (wOf x k near du M) p u).1∧(cR (wOf x k near du M) p u).1.visits=p.visits+1:=by
 obtain⟨h1,h2⟩:=OM h hd hM hp.ok hu hn;refine⟨⟨h1,?_,?_⟩,h2⟩
 · rw[h2]
   obtain⟨q,r,_,hq⟩:=hp.ok;have hv:=r.visits;obtain⟨i,dr,rfl,hi,hpl,hof⟩:=hu;obtain⟨_,_,_,_,e⟩:=Bd h r hi hpl hof hn;rw[e,zR];exact SQ h r hp.lb (by omega) hi
 · obtain⟨q,r,_,hq⟩:=hp.ok
   obtain⟨i,dr,rfl,hi,hpl,hof⟩:=hu;obtain⟨_,_,_,_,e⟩:=Bd h r hi hpl hof hn;rw[e,zR];intro c hc;obtain⟨b,hb,hok,rfl⟩:=(rQ _ _).1 c hc;have h3:=wQ h r hp.sb _ b hb;have hw:=Tq h hi hpl;have h5:=OF b.ready (stR (aF x i) dr).start;have h6:kF b.ready (stR (aF x i) dr).start≤(stR (aF x i) dr).close:=hok;have h0:=h.ty.start;show _≤W (kF b.ready (stR (aF x i) dr).start+(stR (aF x i) dr).service);rw[bP (by omega)];omega
end
end Go.Proofs.YtdlijlecpopadaaGreatDoor.Rx
end

section
set_option linter.unusedSimpArgs false
set_option linter.unusedVariables false
namespace Go.Proofs.YtdlijlecpopadaaGreatDoor.Rx
open Go.Aw Go.Aw.D Go.Proofs Ty
open Sq
open Go.Nu
set_option maxRecDepth 100000
section
variable{x:Instance}{k:Nat}{near near':List Int}{du du':Option (List ByteArray)}{dl dl':List ByteArray}{M:Nat}{cn:Int}{lim fnd:Bool}{le:ByteArray}{p q:Part}{a b:RP}{o:Nat}{dr:Bool}{v d:Rat}{miles:Int}{fl:Bool}
theorem GB(h : Ctx x k near)(ra : Rel x (aD x k) p a)(rb : Rel x (aD x k) q b)(hv : q.visits ≤ 16)(D : Dom fl p q)(goal : Int):
   ∀e∈(bH x.net (aD x k) q.place goal q.clocks).1,∃c∈(bH x.net (aD x k) p.place goal p.clocks).1,c.ready=e.ready∧c.since≤e.since:=by
 intro e he;rw[(lI _ _ _ _ _).1]at he;rw[(lI _ _ _ _ _).1];obtain⟨e0,he0,hf⟩:=List.mem_filterMap.1 he;obtain⟨h1,h2,h3,h4⟩:=yD hf;have hb:=DN h rb he0;have hgr:=M7 (fun a ha=>h.acc.arc a ha) hb.1 h1;have hpv:=D.visits;have key:∃c0∈both (aD x k) p.clocks,c0.ready=e0.ready∧c0.since≤e0.since:=by
   obtain⟨d0,hd0,rfl|rfl⟩:=pN.1 he0
   · obtain⟨c0,hc0,g1,g2⟩:=D.clk _ hd0
     exact⟨c0,pN.2 ⟨c0,hc0,.inl rfl⟩,g1,g2⟩
   · obtain⟨c0,hc0,g1,g2⟩:=D.clk _ hd0
     exact⟨oE (aD x k) c0,pN.2 ⟨c0,hc0,.inr rfl⟩,by show W (c0.ready+_)=W (d0.ready+_);rw[g1],Int.le_refl _⟩
 obtain⟨c0,hc0,g1,g2⟩:=key;have hc:=DN h ra hc0;have e1:W (W (e0.since+e.ready)-e0.ready)=e0.since+e.ready-e0.ready:=by rw[bP (n:=e0.since+e.ready) (by omega),bP (by omega)]
 have e2:W (W (c0.since+e.ready)-c0.ready)=c0.since+e.ready-c0.ready:=by rw[bP (n:=c0.since+e.ready) (by omega),bP (by omega)]
 refine⟨⟨e.ready,W (W (c0.since+e.ready)-c0.ready)⟩,List.mem_filterMap.2 ⟨c0,hc0,?_⟩,rfl,?_⟩
 · unfold CF
   rw[D.place,g1,h1,←h2];rw[g1]at e2;rw[if_pos];simp only[beq_self_eq_true,Bool.true_and,decide_eq_true_eq];rw[e2];rw[h3,e1]at h4;omega
 · show W (W (c0.since+e.ready)-c0.ready)≤e.since
   rw[e2,h3,e1];omega
theorem N8{s:Stop}{l l':List Clk}(h:∀e∈l',∃c∈l,c.ready=e.ready∧c.since≤e.since):∀e∈eA s l',∃c∈eA s l,c.ready=e.ready∧c.since≤e.since:=by
 intro e he;obtain⟨e0,he0,hok,rfl⟩:=(rQ s l').1 e he;obtain⟨c0,hc0,g1,g2⟩:=h e0 he0;obtain⟨c,hc,hb⟩:=(rQ s l).2 c0 hc0 (by unfold okC at *;rw[g1];exact hok);have hb:=oX.1 hb;refine⟨c,hc,?_,?_⟩
 · rw[hb.1];show W (kF c0.ready s.start+s.service)=W (kF e0.ready s.start+s.service);rw[g1]
 · have h1:c.since≤c0.since:=hb.2
   show c.since≤e0.since;omega
theorem Sd(h : Ctx x k near)(ra : Rel x (aD x k) p a)(rb : Rel x (aD x k) q b)(gp : ∀ n ∈ p.load, -(1000 * (p.visits : Int)) ≤ n ∧ n ≤ 1000 * (p.visits : Int))(gq : ∀ n ∈ q.load, -(1000 * (q.visits : Int)) ≤ n ∧ n ≤ 1000 * (q.visits : Int))(hv : q.visits ≤ 16)(D : Dom fl p q)(ho : o < x.orders.length):
   (dY a (aF x o) dr).length=(dY b (aF x o) dr).length∧∀i,(dY a (aF x o) dr).getD i 0≤(dY b (aF x o) dr).getD i 0:=by
 have hO:=h.acc.order _ (kU ho);have hld:=(uR hO.load).2;have hpv:=D.visits;have hll:=D.ll;have hle:=D.load;rw[ra.load]at gp hll hle;rw[rb.load]at gq hll hle;have g1:∀n∈a.load,-(16000:Int)≤n∧n≤16000:=fun n hn=>by have:=gp n hn;omega
 have g2:∀n∈b.load,-(16000:Int)≤n∧n≤16000:=fun n hn=>by have:=gq n hn;omega
 unfold dY;split
 · exact IP (.inl rfl) (by omega) hld g1 g2 hll hle
 · split
   · exact IP (.inr rfl) (by omega) hld g1 g2 hll hle
   · exact⟨hll,hle⟩
def DL(x:Instance)(k:Nat)(du:Option (List ByteArray))(o:Nat)(dr:Bool):Rat:=
 if cQ (aF x o) dr=true then(((fM (aF x o).now k*16+fM (aF x o).last k)*65536:Int):Rat)-duV du o else 0
theorem Kw{a:Int}:0≤fM a k∧fM a k≤1:=by unfold fM;split <;> omega
theorem On(hd:DuB x.orders.length du dl)(ho:o<x.orders.length){n:Nat}(hn:n≤48)(hv:Vl n p.value v):Vl (n+2) (rC x k near du p a o dr).value (v+DL x k du o dr):=by
 unfold rC DL;simp only;by_cases hs:cQ (aF x o) dr=true
 · rw[if_pos hs,if_pos hs]
   have b1:=Kw (k:=k) (a:=(aF x o).now);have b2:=Kw (k:=k) (a:=(aF x o).last);have w1:=hv.addV (n:=(fM (aF x o).now k*16+fM (aF x o).last k)*65536) (by omega) (by omega);have w2:=UJ hd ho w1 (by omega);have e:v+(((fM (aF x o).now k*16+fM (aF x o).last k)*65536:Int):Rat)-duV du o=v+((((fM (aF x o).now k*16+fM (aF x o).last k)*65536:Int):Rat)-duV du o):=by
     generalize (((fM (aF x o).now k*16+fM (aF x o).last k)*65536:Int):Rat)=z;generalize duV du o=y
     grind
   rw[←e];exact w2
 · rw[if_neg hs,if_neg hs,Rat.add_zero]
   exact hv.mono (by omega)
theorem SA(h : Ctx x k near)(h' : Ctx x k near')(hd : DuB x.orders.length du dl)(hd' : DuB x.orders.length du' dl')(hM : M ≤ 15)
   (hN:∀o,o<x.orders.length→∀i,(near.getD o 0).toNat.testBit i=true→(near'.getD o 0).toNat.testBit i=true)
   (hD:fl=true→∀o,o<x.orders.length→duV du' o≤duV du o)
   (gp:Good x k M p) (gq:Good x k M q) (D:Dom fl p q) {u:Visit} (hu:Vis x u) (hn:(cR (wOf x k near' du' M) q u).2=true):
   (cR (wOf x k near du M) p u).2=true∧Dom fl (cR (wOf x k near du M) p u).1 (cR (wOf x k near' du' M) q u).1:=by
 obtain⟨a,ra,⟨va,da,hva⟩,hqa⟩:=gp.ok;obtain⟨b,rb,⟨vb,db,hvb⟩,hqb⟩:=gq.ok;obtain⟨i,dr,rfl,hi,hpl,hof⟩:=hu;obtain⟨hab,hl,hsh,hf,e⟩:=Bd h' rb hi hpl hof hn;have hvb2:=rb.visits;have hva2:=ra.visits;have hpv:=D.visits;obtain⟨l1,l2⟩:=Sd (dr:=dr) h ra rb gp.lb gq.lb (by omega) D hi;have fa:=RV l1 l2 hf;have sa:mX a i (cQ (aF x i) dr)=false:=by
   have hmem:=D.mem i;have hbd:=D.board;rw[ra.memory,rb.memory,←nL,←nL]at hmem;rw[ra.board,rb.board]at hbd;unfold mX at hsh ⊢;rw[hbd];cases hma:jK a.memory i with
   | false=>
     cases hmb:jK b.memory i with
     | false=>rw[hmb]at hsh;exact hsh
     | true=>
       rw[hmb]at hsh;cases hst:cQ (aF x i) dr with
       | true=>rw[hst]at hsh;cases jK b.board i <;> exact Bool.noConfusion hsh
       | false=>rw[hst]at hsh;cases hbb:jK b.board i <;> rw[hbb]at hsh <;> first|rfl|exact hsh
   | true=>
     rw[hmem hma]at hsh;exact hsh
 have n3:=(DP (near:=near) (du:=du) (M:=M) h ra hi hpl hof hab (by omega)).2.2 sa fa;rw[e,zR]at hn;rw[n3,zR,e,zR];have hdd:=GB h ra rb (by omega) D (stR (aF x i) dr).place;have hsd:=N8 (s:=stR (aF x i) dr) hdd;have hne:(eA (stR (aF x i) dr) (bH x.net (aD x k) q.place (stR (aF x i) dr).place q.clocks).1)≠[]:=by
   have:(eA (stR (aF x i) dr) (bH x.net (aD x k) q.place (stR (aF x i) dr).place q.clocks).1).length>0:=of_decide_eq_true hn;exact List.length_pos_iff.1 this
 have hnp:(eA (stR (aF x i) dr) (bH x.net (aD x k) p.place (stR (aF x i) dr).place p.clocks).1)≠[]:=by
   obtain⟨e0,l,he⟩:=List.exists_cons_of_ne_nil hne;obtain⟨c,hc,_⟩:=hsd e0 (by rw[he];simp);intro h0;rw[h0]at hc;cases hc
 have hdq:=(lI x.net (aD x k) q.place (stR (aF x i) dr).place q.clocks).2 (fun e=>hne (by rw[e];rfl));have hdp:=(lI x.net (aD x k) p.place (stR (aF x i) dr).place p.clocks).2 (fun e=>hnp (by rw[e];rfl));refine⟨decide_eq_true (List.length_pos_iff.2 hnp),⟨rfl,?_,?_,?_,fun _=>Nat.succ_pos _,?_,?_,?_,hsd⟩⟩
 · show(if cQ (aF x i) dr=true then(if iQ (aF x i)=true then p.board+2^i else p.board)else p.board-2^i)=(if cQ (aF x i) dr=true then(if iQ (aF x i)=true then q.board+2^i else q.board)else q.board-2^i)
   rw[D.board]
 · intro j
   show(if cQ (aF x i) dr=true then qZ near p.memory i else p.memory).testBit j=true→(if cQ (aF x i) dr=true then qZ near' q.memory i else q.memory).testBit j=true;split
   · unfold qZ
     rw[Nat.testBit_or,Nat.testBit_and,Nat.testBit_or,Nat.testBit_and];simp only[Bool.or_eq_true,Bool.and_eq_true];rintro(⟨m1,m2⟩|m3)
     · exact .inl ⟨D.mem j m1,hN i hi j m2⟩
     · exact .inr m3
   · exact D.mem j
 · show p.visits+1≤q.visits+1
   omega
 · exact l1
 · exact l2
 · intro hfl
   have hval:=D.val hfl;have hdu:=hD hfl i hi;have b0:=qE h.money.2.1 (CX h.mil (aD x k) q.place (stR (aF x i) dr).place);show lF (addV (rC x k near du p a i dr).value (W (W ((aD x k).perMile*(bH x.net (aD x k) p.place (stR (aF x i) dr).place p.clocks).2)*16777216)))≤lF (addV (rC x k near' du' q b i dr).value (W (W ((aD x k).perMile*(bH x.net (aD x k) q.place (stR (aF x i) dr).place q.clocks).2)*16777216)));rw[hdp,hdq,D.place];generalize (aD x k).perMile*mil x.net (aD x k) q.place (stR (aF x i) dr).place=pm at *;rw[bP (n:=pm) (by omega),bP (n:=pm*16777216) (by omega)];have wp:=(On (k:=k) (near:=near) (a:=a) (dr:=dr) hd hi (by omega) hva.own).addV (n:=pm*16777216) (by omega) (by omega);have wq:=(On (k:=k) (near:=near') (a:=b) (dr:=dr) hd' hi (by omega) hvb.own).addV (n:=pm*16777216) (by omega) (by omega);rw[wp.val,wq.val];rw[hva.own.val,hvb.own.val]at hval;have hdel:DL x k du i dr≤DL x k du' i dr:=by
     unfold DL;split
     · generalize (((fM (aF x i).now k*16+fM (aF x i).last k)*65536:Int):Rat)=z
       generalize duV du i=y1 at *;generalize duV du' i=y2 at *
       grind
     · exact Rat.le_refl
   generalize DL x k du i dr=y1 at *;generalize DL x k du' i dr=y2 at *;generalize ((pm*16777216:Int):Rat)=z
   grind
theorem SV{e e' s:Int}(h0:s≤e)(h1:e≤e'):sqW e s≤sqW e' s:=by
 unfold sqW;rw[Int.tdiv_eq_ediv_of_nonneg (by omega),Int.tdiv_eq_ediv_of_nonneg (by omega)];have a1:0≤(e-s)/64:=by omega
 have a2:(e-s)/64≤(e'-s)/64:=by omega
 exact Int.mul_le_mul a2 a2 a1 (by omega)
theorem UD(h : Ctx x k near)(h' : Ctx x k near')(hM : M ≤ 15)(gp : Good x k M p)(gq : Good x k M q)(D : Dom fl p q)(hn : (iU (wOf x k near' du' M) q).2.2 = true):
   (iU (wOf x k near du M) p).2.2=true∧(fl=true→lF (nS (wOf x k near du M) p (iU (wOf x k near du M) p).1 (iU (wOf x k near du M) p).2.1)≤lF (nS (wOf x k near' du' M) q (iU (wOf x k near' du' M) q).1 (iU (wOf x k near' du' M) q).2.1)):=by
 obtain⟨a,ra,_,hqa⟩:=gp.ok;obtain⟨b,rb,_,hqb⟩:=gq.ok;have hvb2:=rb.visits;have hva2:=ra.visits;have hpv:=D.visits;have eP:iU (wOf x k near du M) p=if((p.visits:Int) == 0||(p.board:Int) != 0)=true then(0,0,false)
   else((bH x.net (aD x k) p.place (aD x k).dst p.clocks).1.foldl (lJ (aD x k).close) (-1),(bH x.net (aD x k) p.place (aD x k).dst p.clocks).2,decide ((bH x.net (aD x k) p.place (aD x k).dst p.clocks).1.foldl (lJ (aD x k).close) (-1)≥0)):=rfl
 have eQ:iU (wOf x k near' du' M) q=if((q.visits:Int) == 0||(q.board:Int) != 0)=true then(0,0,false)
   else((bH x.net (aD x k) q.place (aD x k).dst q.clocks).1.foldl (lJ (aD x k).close) (-1),(bH x.net (aD x k) q.place (aD x k).dst q.clocks).2,decide ((bH x.net (aD x k) q.place (aD x k).dst q.clocks).1.foldl (lJ (aD x k).close) (-1)≥0)):=rfl
 have hbq:¬((q.visits:Int) == 0||(q.board:Int) != 0)=true:=fun hb=>by rw[eQ,if_pos hb]at hn;cases hn
 have hbp:¬((p.visits:Int) == 0||(p.board:Int) != 0)=true:=by
   have:=D.pos;rw[D.board];simp only[Bool.or_eq_true,not_or,beq_iff_eq,bne_iff_ne,ne_eq,Decidable.not_not]at hbq ⊢;exact⟨by omega,hbq.2⟩
 rw[if_neg hbq]at eQ;rw[if_neg hbp]at eP;have hn0:=hn;rw[eQ]at hn;have hn1:=of_decide_eq_true hn;have hdd:=GB h ra rb (by omega) D (aD x k).dst;have sp:=wQ h ra gp.sb (aD x k).dst;have sq:=wQ h rb gq.sb (aD x k).dst;have hs:=h.ty.start;have hP:=xS (aD x k).close (bH x.net (aD x k) p.place (aD x k).dst p.clocks).1 [] (-1) (by simp) (fun c hc=>by have:=sp c hc;omega) (.inl ⟨rfl,by simp⟩);have hQ:=xS (aD x k).close (bH x.net (aD x k) q.place (aD x k).dst q.clocks).1 [] (-1) (by simp) (fun c hc=>by have:=sq c hc;omega) (.inl ⟨rfl,by simp⟩);rw[List.nil_append]at hP hQ;have key:(aD x k).start≤(bH x.net (aD x k) p.place (aD x k).dst p.clocks).1.foldl (lJ (aD x k).close) (-1)∧(bH x.net (aD x k) p.place (aD x k).dst p.clocks).1.foldl (lJ (aD x k).close) (-1)≤(bH x.net (aD x k) q.place (aD x k).dst q.clocks).1.foldl (lJ (aD x k).close) (-1):=by
   rcases hQ with⟨q1,_⟩|⟨⟨e,he,q1,q2⟩,_⟩
   · rw[q1]at hn1;omega
   · obtain⟨c,hc,g1,g2⟩:=hdd e he
     rcases hP with⟨_,p2⟩|⟨⟨c',hc',p1,p2⟩,p3⟩
     · exact absurd (by omega) (p2 c hc)
     · have:=p3 c hc (by omega)
       have:=sp c' hc';omega
 have hpt:(iU (wOf x k near du M) p).2.2=true:=by
   rw[eP];exact decide_eq_true (by omega)
 refine⟨hpt,fun hfl=>?_⟩;obtain⟨vp,mp,p1,p2,p3,p4,p5⟩:=C8 h hM gp.ok hpt;obtain⟨vq,mq,q1,q2,q3,q4,q5⟩:=C8 h' hM gq.ok hn0;have hval:=D.val hfl;rw[p1.val,q1.val]at hval;rw[←p3,←q3,(xI h (by omega) p1 p2 p5).val,(xI h' (by omega) q1 q2 q5).val];have e1:(iU (wOf x k near du M) p).1=(bH x.net (aD x k) p.place (aD x k).dst p.clocks).1.foldl (lJ (aD x k).close) (-1):=by rw[eP]
 have e2:(iU (wOf x k near' du' M) q).1=(bH x.net (aD x k) q.place (aD x k).dst q.clocks).1.foldl (lJ (aD x k).close) (-1):=by rw[eQ]
 rw[←e1,←e2]at key;have hm:mp=mq:=by rw[p4,q4,D.place]
 subst hm;generalize (iU (wOf x k near du M) p).1=ep at *;generalize (iU (wOf x k near' du' M) q).1=eq at *;have k1:=SV key.1 key.2;have k2:(aD x k).perTick*(ep-(aD x k).start)≤(aD x k).perTick*(eq-(aD x k).start):=Int.mul_le_mul_of_nonneg_left (by omega) h.money.2.2.1;have k3:((aD x k).fixed+(aD x k).perMile*mp+(aD x k).perTick*(ep-(aD x k).start))*16777216+sqW ep (aD x k).start≤((aD x k).fixed+(aD x k).perMile*mp+(aD x k).perTick*(eq-(aD x k).start))*16777216+sqW eq (aD x k).start:=by
   generalize (aD x k).perTick*(ep-(aD x k).start)=t1 at *;generalize (aD x k).perTick*(eq-(aD x k).start)=t2 at *;generalize (aD x k).perMile*mp=t3 at *;omega
 have k4:=Rat.intCast_le_intCast.2 k3;generalize (((((aD x k).fixed+(aD x k).perMile*mp+(aD x k).perTick*(ep-(aD x k).start))*16777216+sqW ep (aD x k).start:Int)):Rat)=z1 at *;generalize (((((aD x k).fixed+(aD x k).perMile*mp+(aD x k).perTick*(eq-(aD x k).start))*16777216+sqW eq (aD x k).start:Int)):Rat)=z2 at *
 grind
theorem Q1(h : Ctx x k near)(h' : Ctx x k near')(hM : M ≤ 15)(gp : Good x k M p)(gq : Good x k M q)(D : Dom fl p q):
   (lO (wOf x k near' du' M) q).length≤(lO (wOf x k near du M) p).length∧(fl=true→∀r∈lO (wOf x k near' du' M) q,∃r'∈lO (wOf x k near du M) p,lF r'≤lF r):=by
 unfold lO;by_cases hn:(iU (wOf x k near' du' M) q).2.2=true
 · obtain⟨k1,k2⟩:=UD (du:=du) h h' hM gp gq D hn
   rw[if_pos hn,if_pos k1];refine⟨Nat.le_refl _,fun hfl r hr=>⟨_,List.mem_singleton.2 rfl,?_⟩⟩;rw[List.mem_singleton.1 hr];exact k2 hfl
 · rw[if_neg hn]
   exact⟨Nat.zero_le _,fun _ r hr=>by cases hr⟩
end
end Go.Proofs.YtdlijlecpopadaaGreatDoor.Rx
end

section
set_option linter.unusedSimpArgs false
set_option linter.unusedVariables false
namespace Go.Proofs.YtdlijlecpopadaaGreatDoor.Rx
open Go.Aw Go.Aw.D Go.Proofs Ty
open Sq
open Go.Nu
set_option maxRecDepth 100000
section
variable{x:Instance}{k:Nat}{near near':List Int}{du du':Option (List ByteArray)}{dl dl':List ByteArray}{M:Nat}{cn:Int}{lim fnd:Bool}{le:ByteArray}{p q:Part}{a b:RP}{o:Nat}{dr:Bool}{v d:Rat}{miles:Int}{fl:Bool}
theorem Good.num(g:Good x k M p)(hM:M≤15):bS p.value=true:=by
 obtain⟨a,ra,⟨va,da,hva⟩,hqa⟩:=g.ok;exact hva.own.right (by omega)
theorem QB(h:Ctx x k near)(hM:M≤15)(gp:Good x k M p)(gq:Good x k M q)(h0:0<p.visits)(hb:sK p q=true):Dom true p q:=by
 have np:=gp.num hM;have nq:=gq.num hM;obtain⟨a,ra,_,hqa⟩:=gp.ok;obtain⟨b,rb,_,hqb⟩:=gq.ok;unfold sK at hb;split at hb
 · cases hb
 next hc=>
 simp only[Bool.or_eq_true,not_or,bne_iff_ne,ne_eq,Decidable.not_not,Bool.not_eq_true',Bool.not_eq_false,decide_eq_true_eq]at hc;obtain⟨⟨⟨⟨⟨c1,c2⟩,c3⟩,c4⟩,c5⟩,c6⟩:=hc;have hl:p.load.length=q.load.length:=by rw[ra.load,rb.load,ra.ll,rb.ll]
 refine⟨c1,by omega,fun i hi=>?_,by omega,fun _=>h0,hl,fun i=>?_,fun _=>?_,fun e he=>?_⟩
 · have c3:p.memory &&& q.memory=p.memory:=by simpa using c3
   rw[←c3,Nat.testBit_and,Bool.and_eq_true]at hi;exact hi.2
 · have c5:iJ p.load q.load=true:=by simpa using c5
   rw[xT hl]at c5;unfold lY at c5;rw[List.all_eq_true]at c5;by_cases hi:i<p.load.length
   · have:=c5 i (List.mem_range.2 hi)
     simp only[Bool.not_eq_true',decide_eq_false_iff_not]at this;omega
   · rw[List.getD,List.getD,List.getElem?_eq_none (by omega),List.getElem?_eq_none (by omega)]
     exact Int.le_refl _
 · rw[←YX np nq];omega
 · obtain⟨c,hc,hcb⟩:=List.any_eq_true.1 (List.all_eq_true.1 hb e he)
   have:=oX.1 hcb;exact⟨c,hc,this.1,this.2⟩
def Sub(w:Wk)(T:List ByteArray)(p:Part):Prop:=∀r∈vH w (cZ w.x) (w.most-p.visits) p,r∈T
theorem xX{w:Wk}{vs:List Visit}{f:Nat}{r:ByteArray}(h:r∈lO w p):r∈vH w vs f p:=by
 cases f with
 | zero=>exact h
 | succ f=>exact List.mem_append_left _ h
structure SInv(x:Instance)(k:Nat)(near:List Int)(du:Option (List ByteArray))(M:Nat)(T:List ByteArray)(s:Srch):Prop where
 kn:∀u∈s.known,Good x k M u∧0<u.visits∧Sub (wOf x k near du M) T u
 mem:s.found=true→s.best∈T
 no:s.found=false→s.best=ByteArray.empty
 min:∀u∈s.known,∀r∈lO (wOf x k near du M) u,s.found=true∧¬qD r s.best<0
structure SExt(x:Instance)(k:Nat)(near:List Int)(du:Option (List ByteArray))(M:Nat)(T:List ByteArray)(r:Nat)(s t:Srch):Prop where
 kn:∀u∈s.known,u∈t.known
 mo:∀u∈s.more,u∈t.more
 nw:∀u∈t.known,u∈s.known∨u∈t.more
 nm:∀u∈t.more,u∈s.more∨(Good x k M u∧Sub (wOf x k near du M) T u∧u.visits=r+1)
theorem SExt.refl{T:List ByteArray}{r:Nat}(s:Srch):SExt x k near du M T r s s:=⟨fun _ h=>h,fun _ h=>h,fun _ h=>.inl h,fun _ h=>.inl h⟩
theorem SExt.trans{T:List ByteArray}{r:Nat}{s t u:Srch}(h:SExt x k near du M T r s t)(g:SExt x k near du M T r t u):SExt x k near du M T r s u:=
 ⟨fun a ha=>g.kn a (h.kn a ha),fun a ha=>g.mo a (h.mo a ha),fun a ha=>by
   rcases g.nw a ha with ha|ha
   · rcases h.nw a ha with ha|ha
     · exact .inl ha
     · exact .inr (g.mo a ha)
   · exact .inr ha,fun a ha=>by
   rcases g.nm a ha with ha|ha
   · exact h.nm a ha
   · exact .inr ha⟩
theorem VK{T:List ByteArray}{w:Wk}{u:Visit}(hu:u∈cZ w.x)(h:Sub w T p)(hn:(cR w p u).2=true)(hv:(cR w p u).1.visits=p.visits+1)(hm:p.visits<w.most):Sub w T (cR w p u).1:=by
 intro r hr;refine h r ?_;have e:w.most-p.visits=(w.most-(cR w p u).1.visits)+1:=by omega
 rw[e];exact List.mem_append_right _ (List.mem_flatMap.2 ⟨u,hu,by rw[if_pos hn];exact hr⟩)
theorem WX(h : Ctx x k near)(hM : M ≤ 15){T : List ByteArray}(hT : Fe T){s : Srch}(hi : SInv x k near du M T s)(gq : Good x k M q)(h0 : 0 < q.visits)(hs : Sub (wOf x k near du M) T q):
   SInv x k near du M T (zI (wOf x k near du M) s q):=by
 have hlf:lO (wOf x k near du M) q=if(iU (wOf x k near du M) q).2.2=true then[nS (wOf x k near du M) q (iU (wOf x k near du M) q).1 (iU (wOf x k near du M) q).2.1]else[]:=rfl;have hsub:∀r∈lO (wOf x k near du M) q,r∈T:=fun r hr=>hs r (xX hr)
 have hk:∀u∈s.known++[q],Good x k M u∧0<u.visits∧Sub (wOf x k near du M) T u:=fun u hu=>by
   rcases List.mem_append.1 hu with hu|hu
   · exact hi.kn u hu
   · rw[List.mem_singleton.1 hu];exact⟨gq,h0,hs⟩
 have hT2:∀u∈s.known,∀r∈lO (wOf x k near du M) u,r∈T:=fun u hu r hr=>(hi.kn u hu).2.2 r (xX hr)
 unfold zI;simp only;generalize nS (wOf x k near du M) q (iU (wOf x k near du M) q).1 (iU (wOf x k near du M) q).2.1=pr at *;by_cases he:(iU (wOf x k near du M) q).2.2=true
 · rw[if_pos he]at hlf
   have hpT:pr∈T:=hsub pr (by rw[hlf];simp);rw[he,Bool.true_and];split
   · next hc=>
     refine⟨hk,fun _=>hpT,fun e=>(by cases e),fun u hu r hr=>⟨rfl,?_⟩⟩;show ¬qD r pr<0;rcases List.mem_append.1 hu with hu|hu
     · obtain⟨f1,f2⟩:=hi.min u hu r hr
       have hbT:=hi.mem f1;rw[f1]at hc;have hc:qD pr s.best<0:=by simpa using hc
       have hr2:=hT2 u hu r hr;rw[pT (hT _ hr2) (hT _ hpT)];have q1:=(pT (hT _ hr2) (hT _ hbT)).1 f2;have q2:¬lF s.best≤lF pr:=fun hx=>(pT (hT _ hpT) (hT _ hbT)).2 hx hc
       grind
     · rw[List.mem_singleton.1 hu,hlf]at hr
       rw[List.mem_singleton.1 hr,pT (hT _ hpT) (hT _ hpT)];exact Rat.le_refl
   · next hc=>
     simp only[Bool.or_eq_true,not_or,Bool.not_eq_true',decide_eq_true_eq]at hc;have hf:s.found=true:=by simpa using hc.1
     refine⟨hk,hi.mem,hi.no,fun u hu r hr=>?_⟩;rcases List.mem_append.1 hu with hu|hu
     · exact hi.min u hu r hr
     · rw[List.mem_singleton.1 hu,hlf]at hr
       rw[List.mem_singleton.1 hr];exact⟨hf,hc.2⟩
 · rw[if_neg he]at hlf
   have he:(iU (wOf x k near du M) q).2.2=false:=by simpa using he
   rw[he,Bool.false_and,if_neg (by simp)];refine⟨hk,hi.mem,hi.no,fun u hu r hr=>?_⟩;rcases List.mem_append.1 hu with hu|hu
   · exact hi.min u hu r hr
   · rw[List.mem_singleton.1 hu,hlf]at hr
     cases hr
theorem Xx(h : Ctx x k near)(hd : DuB x.orders.length du dl)(hM : M ≤ 15){T : List ByteArray}(hT : Fe T){s : Srch}{r : Nat}(hi : SInv x k near du M T s)(gp : Good x k M p)(hs : Sub (wOf x k near du M) T p)(hr : p.visits = r){u : Visit}(hu : u ∈ cZ x):
   SInv x k near du M T (tN (wOf x k near du M) p s u)∧SExt x k near du M T r s (tN (wOf x k near du M) p s u) ∧
   ((cR (wOf x k near du M) p u).2=true→∃z∈(tN (wOf x k near du M) p s u).known,Dom true z (cR (wOf x k near du M) p u).1):=by
 by_cases hn:(cR (wOf x k near du M) p u).2=true
 case neg=>
   have hn2:(cR (wOf x k near du M) p u).2=false:=by simpa using hn
   have e:tN (wOf x k near du M) p s u=s:=by unfold tN;simp only[hn2,Bool.not_false,Bool.true_or,if_true]
   rw[e];exact⟨hi,.refl s,fun h=>absurd h hn⟩
 obtain⟨g1,v1⟩:=FJ h hd hM gp (CK hu) hn;have s1:=VK (w:=wOf x k near du M) hu hs hn v1 (BS hn).2;unfold tN;simp only[hn,Bool.not_true,Bool.false_or];generalize (cR (wOf x k near du M) p u).1=z at *;by_cases hk:(s.known.any fun k=>sK k z)=true
 · rw[if_pos hk]
   refine⟨hi,.refl s,fun _=>?_⟩;obtain⟨y,hy,hb⟩:=List.any_eq_true.1 hk;obtain⟨y1,y2,_⟩:=hi.kn y hy;exact⟨y,hy,QB h hM y1 g1 y2 hb⟩
 · rw[if_neg hk]
   obtain⟨e1,e2,_⟩:=Eu (wOf x k near du M) s z;refine⟨WX h hM hT hi g1 (by omega) s1,⟨fun a ha=>by rw[e1];exact List.mem_append_left _ ha,fun a ha=>by rw[e2];exact List.mem_append_left _ ha,fun a ha=>?_,fun a ha=>?_⟩,fun _=>⟨z,by rw[e1];simp,.refl true z⟩⟩
   · rw[e1]at ha
     rcases List.mem_append.1 ha with ha|ha
     · exact .inl ha
     · rw[e2];exact .inr (List.mem_append_right _ ha)
   · rw[e2]at ha
     rcases List.mem_append.1 ha with ha|ha
     · exact .inl ha
     · rw[List.mem_singleton.1 ha];exact .inr ⟨g1,s1,by omega⟩
def KZ(x:Instance)(k:Nat)(near:List Int)(du:Option (List ByteArray))(M:Nat)(s:Srch)(vs:List Visit)(p:Part):Prop:=
 ∀u∈vs,(cR (wOf x k near du M) p u).2=true→∃z∈s.known,Dom true z (cR (wOf x k near du M) p u).1
theorem KZ.ext{T:List ByteArray}{r:Nat}{s t:Srch}{vs:List Visit}(h:KZ x k near du M s vs p)(g:SExt x k near du M T r s t):KZ x k near du M t vs p:=fun u hu hn=>by
 obtain⟨z,hz,D⟩:=h u hu hn;exact⟨z,g.kn z hz,D⟩
theorem LA(h : Ctx x k near)(hd : DuB x.orders.length du dl)(hM : M ≤ 15){T : List ByteArray}(hT : Fe T){r : Nat}(gp : Good x k M p)(hs : Sub (wOf x k near du M) T p)(hr : p.visits = r):
   ∀(l:List Visit),(∀u∈l,u∈cZ x)→∀(s:Srch),SInv x k near du M T s →
     SInv x k near du M T (l.foldl (tN (wOf x k near du M) p) s)∧SExt x k near du M T r s (l.foldl (tN (wOf x k near du M) p) s)∧KZ x k near du M (l.foldl (tN (wOf x k near du M) p) s) l p
 | [],_,s,hi=>⟨hi,.refl s,fun u hu=>by cases hu⟩
 | u::l,hl,s,hi=>by
   obtain⟨i1,e1,d1⟩:=Xx h hd hM hT hi gp hs hr (hl u (by simp));obtain⟨i2,e2,d2⟩:=LA h hd hM hT gp hs hr l (fun a ha=>hl a (by simp[ha])) _ i1;refine⟨i2,e1.trans e2,fun a ha hn=>?_⟩;rcases List.mem_cons.1 ha with rfl|ha
   · obtain⟨z,hz,D⟩:=d1 hn
     exact⟨z,e2.kn z hz,D⟩
   · exact d2 a ha hn
theorem Gx(h : Ctx x k near)(hd : DuB x.orders.length du dl)(hM : M ≤ 15){T : List ByteArray}(hT : Fe T){r : Nat}:
   ∀(l:List Part),(∀p∈l,Good x k M p∧Sub (wOf x k near du M) T p∧p.visits=r)→∀(s:Srch),SInv x k near du M T s →
     SInv x k near du M T (l.foldl (fun s p=>(cZ x).foldl (tN (wOf x k near du M) p) s) s)∧SExt x k near du M T r s (l.foldl (fun s p=>(cZ x).foldl (tN (wOf x k near du M) p) s) s) ∧
     ∀p∈l,KZ x k near du M (l.foldl (fun s p=>(cZ x).foldl (tN (wOf x k near du M) p) s) s) (cZ x) p
 | [],_,s,hi=>⟨hi,.refl s,fun u hu=>by cases hu⟩
 | p::l,hl,s,hi=>by
   obtain⟨g,hs,hr⟩:=hl p (by simp);obtain⟨i1,e1,d1⟩:=LA h hd hM hT g hs hr (cZ x) (fun _ hu=>hu) s hi;obtain⟨i2,e2,d2⟩:=Gx h hd hM hT l (fun a ha=>hl a (by simp[ha])) _ i1;refine⟨i2,e1.trans e2,fun a ha=>?_⟩;rcases List.mem_cons.1 ha with rfl|ha
   · exact d1.ext e2
   · exact d2 a ha
theorem D9(h : Ctx x k near)(hd : DuB x.orders.length du dl)(hM : M ≤ 15){T : List ByteArray}(hT : Fe T){B : Part}:
   ∀(n r:Nat) (s:Srch) (fresh:List Part),r+n=M+1→SInv x k near du M T s→(∀p∈fresh,Good x k M p∧Sub (wOf x k near du M) T p∧p.visits=r) →
     (∀u,u∈s.known∨u=B→KZ x k near du M s (cZ x) u∨u∈fresh) →
     SInv x k near du M T (iW (wOf x k near du M) (cZ x) n s fresh)∧∀u,u∈(iW (wOf x k near du M) (cZ x) n s fresh).known∨u=B→KZ x k near du M (iW (wOf x k near du M) (cZ x) n s fresh) (cZ x) u
 | 0,r,s,fresh,hn,hi,hf,hc=>by
   refine⟨hi,fun u hu=>?_⟩;rcases hc u hu with hc|hc
   · exact hc
   · obtain⟨⟨q,rq,_,hq⟩,_⟩:=(hf u hc).1
     have:=rq.visits;have:=(hf u hc).2.2;omega
 | n+1,r,s,fresh,hn,hi,hf,hc=>by
   unfold iW;by_cases he:fresh=[]
   · rw[if_pos he]
     refine⟨hi,fun u hu=>?_⟩;rcases hc u hu with hc|hc
     · exact hc
     · rw[he]at hc;cases hc
   rw[if_neg he];have hi0:SInv x k near du M T { s with more:=[] }:=⟨hi.kn,hi.mem,hi.no,hi.min⟩;obtain⟨i1,e1,d1⟩:=Gx h hd hM hT fresh hf { s with more:=[] } hi0;have hR:zG (wOf x k near du M) (cZ x) s fresh=fresh.foldl (fun s p=>(cZ x).foldl (tN (wOf x k near du M) p) s) { s with more:=[] }:=rfl;rw[←hR]at i1 e1 d1;refine D9 h hd hM hT n (r+1) _ _ (by omega) i1 (fun p hp=>?_) (fun u hu=>?_)
   · rcases e1.nm p hp with hp|hp
     · cases hp
     · exact hp
   · have key : (u ∈ s.known ∨ u = B) ∨ u ∈ (zG (wOf x k near du M) (cZ x) s fresh).more := by
       rcases hu with hu|hu
       · rcases e1.nw u hu with hu|hu
         · exact .inl (.inl hu)
         · exact .inr hu
       · exact .inl (.inr hu)
     rcases key with hk|hk
     · rcases hc u hk with hc|hc
       · refine .inl fun a ha hn=>?_
         obtain⟨z,hz,D⟩:=hc a ha hn;exact⟨z,e1.kn z hz,D⟩
       · exact .inl (d1 u hc)
     · exact .inr hk
theorem Sv(h : Ctx x k near)(hd : DuB x.orders.length du dl)(hM : M ≤ 15){T : List ByteArray}(hT : Fe T){s : Srch}{B : Part}(hB : Good x k M B)(hB0 : B.visits = 0)(hi : SInv x k near du M T s)(hc : ∀ u, u ∈ s.known ∨ u = B → KZ x k near du M s (cZ x) u):
   ∀(f:Nat) (q:Part),Good x k M q→(∀r∈vH (wOf x k near du M) (cZ x) f q,r∈T)→∀u,u∈s.known∨u=B→Dom true u q→∀r∈vH (wOf x k near du M) (cZ x) f q,s.found=true∧¬qD r s.best<0:=by
 have leaf:∀(q:Part),Good x k M q→(∀r∈lO (wOf x k near du M) q,r∈T)→∀u,u∈s.known∨u=B→Dom true u q→∀r∈lO (wOf x k near du M) q,s.found=true∧¬qD r s.best<0:=by
   intro q gq hqT u hu D r hr;have gu:Good x k M u:=by
     rcases hu with hu|rfl
     · exact(hi.kn u hu).1
     · exact hB
   obtain⟨r',h1,h2⟩:=(Q1 (du:=du) (du':=du) h h hM gu gq D).2 rfl r hr;have huk:u∈s.known:=by
     rcases hu with hu|rfl
     · exact hu
     · exfalso
       unfold lO at h1;have:(iU (wOf x k near du M) u).2.2=false:=by
         unfold iU;rw[if_pos (by rw[hB0];rfl)]
       rw[this]at h1;simp at h1
   obtain⟨f1,f2⟩:=hi.min u huk r' h1;refine⟨f1,?_⟩;have hbT:=hi.mem f1;have hrT:=hqT r hr;have hr'T:=(hi.kn u huk).2.2 r' (xX h1);rw[pT (hT _ hrT) (hT _ hbT)];exact Rat.le_trans ((pT (hT _ hr'T) (hT _ hbT)).1 f2) h2
 intro f;induction f with
 | zero=>exact leaf
 | succ f ih=>
   intro q gq hqT u hu D r hr;have hqT1:∀r∈lO (wOf x k near du M) q,r∈T:=fun r hr=>hqT r (xX hr)
   rcases List.mem_append.1 (show r∈lO (wOf x k near du M) q++(cZ x).flatMap fun v=>if(cR (wOf x k near du M) q v).2=true then vH (wOf x k near du M) (cZ x) f (cR (wOf x k near du M) q v).1 else[]from hr)with hr|hr
   · exact leaf q gq hqT1 u hu D r hr
   · obtain⟨a,ha,hr⟩:=List.mem_flatMap.1 hr
     split at hr
     · next hn=>
       have gu:Good x k M u:=by
         rcases hu with hu|rfl
         · exact(hi.kn u hu).1
         · exact hB
       obtain⟨n1,D1⟩:=SA h h hd hd hM (fun _ _ _ h=>h) (fun _ _ _=>Rat.le_refl) gu gq D (CK ha) hn;obtain⟨z,hz,D2⟩:=hc u hu a ha n1;refine ih _ (FJ h hd hM gq (CK ha) hn).1 (fun r hr=>hqT r (List.mem_append_right _ (List.mem_flatMap.2 ⟨a,ha,by rw[if_pos hn];exact hr⟩))) z (.inl hz) (D2.trans D1) r hr
     · cases hr
theorem X0(h : Ctx x k near)(hd : DuB x.orders.length du dl)(hM : M ≤ 15):
   Min (vH (wOf x k near du M) (cZ x) M (eU (wOf x k near du M))) (iW (wOf x k near du M) (cZ x) (M+1) ⟨[],[],emp,false⟩ [eU (wOf x k near du M)]).found (iW (wOf x k near du M) (cZ x) (M+1) ⟨[],[],emp,false⟩ [eU (wOf x k near du M)]).best:=by
 have hT:=yF h hd hM M _ (Ag (du:=du) (M:=M) h);have hB:Good x k M (eU (wOf x k near du M)):=Ni h;generalize hTT:vH (wOf x k near du M) (cZ x) M (eU (wOf x k near du M))=T at *;obtain⟨i1,c1⟩:=D9 (B:=eU (wOf x k near du M)) h hd hM hT (M+1) 0 ⟨[],[],emp,false⟩ [eU (wOf x k near du M)] (by omega)
   ⟨fun u hu=>(by cases hu),fun e=>(by cases e),fun _=>rfl,fun u hu=>(by cases hu)⟩
   (fun p hp=>by
     rw[List.mem_singleton.1 hp];exact⟨hB,fun r hr=>by rw[←hTT];exact hr,rfl⟩)
   (fun u hu=>by
     rcases hu with hu|hu
     · cases hu
     · exact .inr (by rw[hu];simp))
 have hall:=Sv h hd hM hT hB rfl i1 c1 M (eU (wOf x k near du M)) hB (fun r hr=>by rw[←hTT];exact hr) _ (.inr rfl) (.refl true _);rw[hTT]at hall;generalize iW (wOf x k near du M) (cZ x) (M+1) ⟨[],[],emp,false⟩ [eU (wOf x k near du M)]=s at *;refine⟨fun hf=>⟨?_,i1.no hf⟩,fun hf=>⟨i1.mem hf,fun r hr=>(hall r hr).2⟩⟩;cases T with
 | nil=>rfl
 | cons r l=>
   have:=(hall r (by simp)).1;rw[hf]at this;cases this
end
theorem Wz{n:Nat}{dl:List ByteArray}(hl:dl.length=n)(hr:∀a∈dl,Vl 1 a (lF a)):DuB n (some dl) dl:=
 ⟨hl,fun l e=>by injection e with e;exact e.symm,fun e=>(by cases e),hr⟩
theorem Mh{x:Instance}(h:mG x=[])(hn:x.orders.length≤3)(kind:Int)(dual:List ByteArray)(near:List Int)(hs:∀a∈dual,a.size≤60):vA x kind dual near=pH x kind dual near:=by
 unfold vA pH;rw[Q5 (by omega)];have e0:(AY x kind|| !kZ x near||(dual.length:Int) != (x.orders.length:Int))=(AY x kind||(dual.length:Int) != (x.orders.length:Int)|| !kZ x near):=by
   cases AY x kind <;> cases kZ x near <;> cases((dual.length:Int) != (x.orders.length:Int)) <;> rfl
 rw[e0];by_cases hb:(AY x kind||(dual.length:Int) != (x.orders.length:Int)|| !kZ x near)=true
 · rw[if_pos hb,if_pos hb]
 rw[if_neg hb,if_neg hb];by_cases hr:(dual.any fun a=> !bS a)=true
 · rw[if_pos hr,if_pos hr]
 rw[if_neg hr,if_neg hr];simp only[Bool.or_eq_true,not_or,Bool.not_eq_true,Bool.not_eq_false']at hb;obtain⟨⟨hb1,hb2⟩,hb3⟩:=hb;obtain⟨k,rfl,hk⟩:=TO hb1;have hl:kZ x near=true:=by simpa using hb3
 have hdl:dual.length=x.orders.length:=by simp at hb2;omega
 obtain⟨l1,_⟩:=Fz hl (by omega);have hc:=Zm h hk (by omega) l1;have h6:=WJ hn;have hd:DuB x.orders.length (some dual) dual:=Wz hdl fun a ha=>Vl.text (by
   refine Decidable.byContradiction fun hx=>hr (List.any_eq_true.2 ⟨a,ha,?_⟩)
   have:bS a=false:=by simpa using hx
   rw[this];rfl) (hs a ha)
 rw[Int.toNat_natCast];have m1:=X0 (M:=(cZ x).length) hc hd (by omega);have m2:=WO hc hd (by omega);have hT:=yF hc hd (show(cZ x).length≤15 by omega) (cZ x).length _ (Ag (du:=some dual) (M:=(cZ x).length) hc);obtain⟨u1,u2⟩:=m1.uniq hT m2;have hw:({ kY x k near with dual:=some dual }:Wk)=wOf x k near (some dual) (cZ x).length:=rfl;simp only[hw];show((iW (wOf x k near (some dual) (cZ x).length) (cZ x) ((cZ x).length+1) ⟨[],[],emp,false⟩ [eU (wOf x k near (some dual) (cZ x).length)]).best,(iW (wOf x k near (some dual) (cZ x).length) (cZ x) ((cZ x).length+1) ⟨[],[],emp,false⟩ [eU (wOf x k near (some dual) (cZ x).length)]).found,(0:Int))=_;rw[u1,u2]
end Go.Proofs.YtdlijlecpopadaaGreatDoor.Rx
end
