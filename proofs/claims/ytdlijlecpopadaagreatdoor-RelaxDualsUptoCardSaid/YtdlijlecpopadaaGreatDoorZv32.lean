/- Texts joined by a program: RxX, RxY. -/
import Derived.Test.YtdlijlecpopadaaGreatDoorZv31
set_option linter.unusedSimpArgs false
set_option linter.unusedVariables false
set_option maxRecDepth 100000
section
namespace Go.Proofs.YtdlijlecpopadaaGreatDoor.Rx
open Go.Aw Go.Aw.D Go.Proofs Ty
open Sq
theorem nW{l:List Point}{i:Nat}(h:i<l.length):dC l i∈l:=by
 rw[dD (List.getElem?_eq_getElem h)];exact List.getElem_mem h
theorem J5{p:Point}{t:Int}(hp:0≤p.t∧p.t≤4096∧p.t≤p.a∧p.a≤p.t+4096)(ht:0≤t∧t≤12288):0≤sC p t∧sC p t≤100000000:=by
 unfold sC;rw[bU (n:=t+p.a) (by omega),bU (by omega)];omega
theorem Qn{p q:Point}{t:Int}(hp:0≤p.t∧p.t≤4096∧p.t≤p.a∧p.a≤p.t+4096)(hq:0≤q.t∧q.t≤4096∧q.t≤q.a∧q.a≤q.t+4096)(ha:p.a≤q.a)(h1:p.t≤t)(h2:t<q.t):0≤A6 p q t∧A6 p q t≤100000000:=by
 unfold A6;have hx:0≤t-p.t∧t-p.t≤4096:=by omega
 have hy:0≤q.a-p.a∧q.a-p.a≤8192:=by omega
 have hm0:0≤(t-p.t)*(q.a-p.a):=Int.mul_nonneg hx.1 hy.1;have hm1:(t-p.t)*(q.a-p.a)≤4096*8192:=Int.mul_le_mul hx.2 hy.2 hy.1 (by omega);rw[bU (n:=t-p.t) (by omega),bU (n:=q.a-p.a) (by omega),bU (n:=(t-p.t)*(q.a-p.a)) (by omega),bU (n:=q.t-p.t) (by omega)];generalize (t-p.t)*(q.a-p.a)=m at hm0 hm1;rw[bU (n:=m+q.t) (by omega),bU (n:=m+q.t-p.t) (by omega),bU (n:=m+q.t-p.t-1) (by omega),Int.tdiv_eq_ediv_of_nonneg (by omega)];have d0:0≤(m+q.t-p.t-1)/(q.t-p.t):=Int.ediv_nonneg (by omega) (by omega);have d1:(m+q.t-p.t-1)/(q.t-p.t)≤m+q.t-p.t-1:=Int.ediv_le_self _ (by omega);have e:IntKind.i64.wrap ((m+q.t-p.t-1)/(q.t-p.t))=(m+q.t-p.t-1)/(q.t-p.t):=bU (by omega);rw[e,bU (by omega)];omega
theorem MO{l:List Point}{t:Int}(h:hY l=[])(ht:0≤t∧t≤12288):0≤iH l t∧iH l t≤100000000:=by
 have hb:=Gi h;have hl:=hb.len;unfold iH;split
 · omega
 · split
   · rename_i k hk
     have hs:=List.find?_some hk;have hm:=List.mem_range.1 (List.mem_of_find?_eq_some hk);simp only[mQ,Bool.and_eq_true,decide_eq_true_eq]at hs;have:=hb.mono k (by omega);exact Qn (hb.pt _ (nW (by omega))) (hb.pt _ (nW (by omega))) this.2 hs.1 hs.2
   · split
     · exact J5 (hb.pt _ (nW (by omega))) ht
     · exact J5 (hb.pt _ (nW (by omega))) ht
theorem G4{t:Int}:∀(l:List Point) (s B:Int),(∀p∈l,0≤p.a∧p.a≤4096)→0≤s∧s≤B→B+4096*l.length≤1000000000000→0≤l.foldl (mF t) s∧l.foldl (mF t) s≤B+4096*l.length
 | [],s,B,_,hs,_=>by simpa using hs
 | p::l,s,B,hp,hs,hB=>by
   have h1:=hp p (by simp);simp only[List.length_cons,List.foldl_cons]at hB ⊢;have e:0≤mF t s p∧mF t s p≤B+4096:=by
     unfold mF;split
     · rw[bU (by omega)];omega
     · omega
   have:=G4 (t:=t) l (mF t s p) (B+4096) (fun q hq=>hp q (by simp[hq])) e (by omega);omega
theorem Lq{a:Arc}{t:Int}(h:ArcOk a)(ht:0≤t∧t≤12288):0≤nZ a t∧nZ a t≤1000000000:=by
 have h1:=MO h.travel ht;have h2:=h.slow;have:=G4 (t:=t) a.slow _ 100000000 (fun p hp=>(h.pt p hp).2) h1 (by omega);unfold nZ;omega
theorem ZX{s c:Nat}(hs:s<2^63)(hc:c<2^63):pV .andNot .i64 (s:Int) (c:Int)=0↔∀i,i<63→¬(s.testBit i=true∧c.testBit i=false):=by
 have h1:((s:Int)%((2^64:Nat):Int)).toNat=s:=by omega
 have h2:((c:Int)%((2^64:Nat):Int)).toNat=c:=by omega
 have hm:(BitVec.ofInt 64 (s:Int) &&& ~~~(BitVec.ofInt 64 (c:Int))).toNat<2^63:=by
   rw[BitVec.toNat_and,BitVec.toNat_ofInt,h1];exact Nat.lt_of_le_of_lt Nat.and_le_left hs
 have e:pV .andNot .i64 (s:Int) (c:Int)=(((BitVec.ofInt 64 (s:Int) &&& ~~~(BitVec.ofInt 64 (c:Int))).toNat:Nat):Int):=by
   exact aT (n:=(((BitVec.ofInt 64 (s:Int) &&& ~~~(BitVec.ofInt 64 (c:Int))).toNat:Nat):Int)) (by omega)
 have hbit:∀i,i<64→(BitVec.ofInt 64 (s:Int) &&& ~~~(BitVec.ofInt 64 (c:Int))).toNat.testBit i=(s.testBit i&& !c.testBit i):=fun i hi=>by
   rw[BitVec.testBit_toNat,BitVec.getLsbD_and,BitVec.getLsbD_not];have a1:(BitVec.ofInt 64 (s:Int)).getLsbD i=s.testBit i:=by rw[←BitVec.testBit_toNat,BitVec.toNat_ofInt,h1]
   have a2:(BitVec.ofInt 64 (c:Int)).getLsbD i=c.testBit i:=by rw[←BitVec.testBit_toNat,BitVec.toNat_ofInt,h2]
   rw[a1,a2,decide_eq_true hi];simp
 rw[e];constructor
 · intro h0 i hi hc2
   have h0:(BitVec.ofInt 64 (s:Int) &&& ~~~(BitVec.ofInt 64 (c:Int))).toNat=0:=by omega
   have:=hbit i (by omega);rw[h0,hc2.1,hc2.2]at this;simp at this
 · intro hz
   have:(BitVec.ofInt 64 (s:Int) &&& ~~~(BitVec.ofInt 64 (c:Int))).toNat=0:=by
     refine Nat.eq_of_testBit_eq fun i=>?_
     rw[Nat.zero_testBit];by_cases hi:i<63
     · rw[hbit i (by omega)]
       have:=hz i hi;cases h3:s.testBit i <;> cases h4:c.testBit i <;> simp_all
     · refine Nat.testBit_lt_two_pow (Nat.lt_of_lt_of_le hm (Nat.pow_le_pow_right (by decide) (by omega)))
   omega
theorem GF{s i:Nat}(hs:s<2^63):((IntKind.i64.wrap (Int.tdiv (s:Int) ((2^i:Nat):Int))).tmod 2 == 1)=s.testBit i:=by
 have e:Int.tdiv (s:Int) ((2^i:Nat):Int)=((s/2^i:Nat):Int):=by
   rw[Int.tdiv_eq_ediv_of_nonneg (by omega)];norm_cast
 have hle:s/2^i≤s:=Nat.div_le_self _ _;rw[e,Nat.testBit_eq_decide_div_mod_eq];generalize s/2^i=q at hle;rw[show IntKind.i64.wrap (q:Int)=(q:Int)from aT (by omega),Int.tmod_eq_emod_of_nonneg (by omega)];rw[Bool.eq_iff_iff];simp only[beq_iff_eq,decide_eq_true_eq];omega
theorem Fe{s i:Nat}(hs:s<2^63):((IntKind.i64.wrap (Int.tdiv (s:Int) ((2^i:Nat):Int))).tmod 2 == 0)= !s.testBit i:=by
 rw[←GF hs];have e:Int.tdiv (s:Int) ((2^i:Nat):Int)=((s/2^i:Nat):Int):=by
   rw[Int.tdiv_eq_ediv_of_nonneg (by omega)];norm_cast
 have hle:s/2^i≤s:=Nat.div_le_self _ _;rw[e];generalize s/2^i=q at hle;rw[show IntKind.i64.wrap (q:Int)=(q:Int)from aT (by omega),Int.tmod_eq_emod_of_nonneg (by omega)];rw[Bool.eq_iff_iff];simp only[beq_iff_eq,Bool.not_eq_true',beq_eq_false_iff_ne,ne_eq];omega
theorem zG{c s:Int}(hc:0≤c∧c≤1073741823)(hs:0≤s∧s≤1073741823):mR c s=pP c s:=by
 obtain⟨c,rfl⟩:=Int.eq_ofNat_of_zero_le hc.1;obtain⟨s,rfl⟩:=Int.eq_ofNat_of_zero_le hs.1;have hc2:c<2^63:=by omega
 have hs2:s<2^63:=by omega
 unfold mR pP;rw[show decide ((c:Int)≥0)=true by simp,show decide ((s:Int)≥0)=true by simp,show decide ((c:Int)<0)=false by simp,show decide ((s:Int)<0)=false by simp];simp only[Bool.true_and,Bool.or_self,Bool.not_false];rw[Bool.eq_iff_iff,beq_iff_eq,ZX hs2 hc2,List.all_eq_true];constructor
 · intro h i hi
   have:=h i (List.mem_range.1 hi);unfold GD;rw[GF hs2,Fe hc2];cases h1:s.testBit i <;> cases h2:c.testBit i <;> simp_all
 · intro h i hi
   have:=h i (List.mem_range.2 hi);unfold GD at this;rw[GF hs2,Fe hc2]at this;cases h1:s.testBit i <;> cases h2:c.testBit i <;> simp_all
theorem J9{s:Stop}(h:dW s=0)(h2:0≤s.place):(0≤s.start∧s.start≤s.close)∧s.close≤4096∧0≤s.service∧s.service≤4096:=by
 unfold dW at h;split at h
 · rename_i hz
   simp only[Go.Proofs.YtdlijlecpopadaaGreatDoor.jM,Bool.and_eq_true,beq_iff_eq]at hz;omega
 · split at h
   · cases h
   · rename_i hb
     simp only[F1,Bool.or_eq_true,decide_eq_true_eq]at hb;omega
theorem OB{x:Instance}(h:Acc x):NetOk x.net:=⟨by have:=h.arcs;omega,fun a ha=>(h.arc a ha).travel,fun a ha=>by have:=(h.arc a ha).slow;omega⟩
theorem kL{x:Instance}{o:Nat}(h:o<x.orders.length):aG x o∈x.orders:=List.mem_of_getElem? (mU h)
theorem tI{x:Instance}{k:Nat}(h:k<x.types.length):aE x k∈x.types:=by
 unfold aE;rw[List.getD,List.getElem?_eq_getElem h];exact List.getElem_mem h
def A3(x:Instance):Nat:=(kW x.types).toNat
theorem GN{x:Instance}(h:Acc x){k:Nat}(hk:k<x.types.length):(aE x k).cap.length=A3 x:=by
 have:=Je (h.type _ (tI hk)).cap;unfold A3;omega
theorem B8{x:Instance}(h:Acc x){o:Nat}(ho:o<x.orders.length):(aG x o).load.length=A3 x:=by
 have h1:=(sZ (h.order _ (kL ho)).load).1;unfold A3;omega
theorem VG{x:Instance}(h:Acc x):A3 x≤3:=by
 have h1:=h.types;have:=Je (h.type _ (tI (show 0<x.types.length by omega))).cap;unfold A3;omega
theorem WP{x:Instance}(h:Acc x)(hn:x.orders.length≤8):XB (A3 x) x:=⟨OB h,fun _ ho=>B8 h ho,fun _ hk=>GN h hk,by have:=VG h;omega,hn,by have:=h.types;omega⟩
theorem Ig{n:Nat}{near:List Int}(hl:near.length=n)(hn:n≤8)(i:Nat)(hi:i<n):nH n near i=oQ near i:=by
 unfold nH oQ;by_cases h0:near.getD i 0<0
 · rw[decide_eq_true h0];simp
 rw[decide_eq_false h0,Bool.false_or,Bool.false_or];obtain⟨m,hm⟩:=Int.eq_ofNat_of_zero_le (show 0≤near.getD i 0 by omega);rw[hm,hl,Kd (by omega) (by omega),LL (by omega),Int.toNat_natCast,Int.toNat_natCast,nT,Bool.or_comm]
 congr 1
 rw[Bool.eq_iff_iff];have e:(m:Int)/2^n=((m/2^n:Nat):Int):=by norm_cast
 rw[e];simp only[bne_iff_ne,ne_eq,decide_eq_true_eq];have hp:0<2^n:=Nat.two_pow_pos n;have hd:m/2^n=0↔m<2^n:=by rw[Nat.div_eq_zero_iff];omega
 generalize 2^n=z at *;generalize m/z=y at *;omega
theorem O2{x:Instance}(hn:x.orders.length≤8)(kind:Int)(near:List Int):hJ x kind near=(Up x kind|| !lV x near):=by
 unfold hJ Up lV;by_cases hl:near.length=x.orders.length
 · have e:((near.length:Int) != (x.orders.length:Int))=false:=by rw[hl];simp
   rw[e,Bool.or_false,Bool.not_false,Bool.true_and]
   congr 1
   rw[Bool.eq_iff_iff];simp only[List.any_eq_true,Bool.not_eq_true',List.all_eq_false];constructor
   · rintro⟨i,hi,h⟩
     rw[Ig hl hn i (by have:=List.mem_range.1 hi;omega)]at h;exact⟨i,hi,by rw[h];simp⟩
   · rintro⟨i,hi,h⟩
     refine⟨i,hi,?_⟩;rw[Ig hl hn i (by have:=List.mem_range.1 hi;omega)];simpa using h
 · have e:((near.length:Int) != (x.orders.length:Int))=true:=by simp;omega
   rw[e];simp
end Go.Proofs.YtdlijlecpopadaaGreatDoor.Rx
end
section
namespace Go.Proofs.YtdlijlecpopadaaGreatDoor.Rx
open Go.Aw Go.Aw.D Go.Proofs Ty
open Sq
theorem Sk(n:Network)(p f g a b:Int):(dX n p f g a).2=(dX n p f g b).2:=by
 unfold dX;split
 · rfl
 · split
   · rfl
   · cases lI n p f g <;> rfl
theorem LX{n:Network}(hn:∀a∈n.arcs,ArcOk a){p f g t:Int}(ht:0≤t∧t≤12288)(h:(dX n p f g t).2.2=0):0≤(dX n p f g t).1∧(dX n p f g t).1≤1000000000:=by
 unfold dX at h ⊢;split
 · rename_i h1;rw[if_pos h1]at h;cases h
 · rename_i h1
   rw[if_neg h1]at h;split
   · simp only;omega
   · rename_i h2
     rw[if_neg h2]at h;cases e:lI n p f g with
     | none=>rw[e]at h;cases h
     | some a=>
       have hm:a∈n.arcs:=by
         unfold lI at e;exact List.mem_of_find?_eq_some e
       exact Lq (hn a hm) ht
def mil(n:Network)(t:VType)(place goal:Int):Int:=(dX n t.profile place goal 0).2.1
def A2(n:Network)(t:VType)(place goal:Int)(c:Clk):Option Clk:=
 if((dX n t.profile place goal c.ready).2.2 == 0&&decide (W (W (c.since+(dX n t.profile place goal c.ready).1)-c.ready)≤t.drive))=true
 then some ⟨(dX n t.profile place goal c.ready).1,W (W (c.since+(dX n t.profile place goal c.ready).1)-c.ready)⟩else none
def both(t:VType)(l:List Clk):List Clk:=l.flatMap fun c=>[c,mP t c]
theorem JW(n:Network)(t:VType)(place goal:Int)(s:List Clk×Int)(c:Clk)(hs:s.1≠[]→s.2=mil n t place goal):
   (tS n t place goal s c).1=s.1++(A2 n t place goal c).toList∧((tS n t place goal s c).1≠[]→(tS n t place goal s c).2=mil n t place goal):=by
 unfold tS A2;split
 · exact⟨rfl,fun _=>by show(dX n t.profile place goal c.ready).2.1=_;rw[Sk n t.profile place goal c.ready 0];rfl⟩
 · exact⟨by simp,hs⟩
theorem BX(n:Network)(t:VType)(place goal:Int):∀(l:List Clk) (s:List Clk×Int),(s.1≠[]→s.2=mil n t place goal) →
   (l.foldl (xJ n t place goal) s).1=s.1++(both t l).filterMap (A2 n t place goal)∧((l.foldl (xJ n t place goal) s).1≠[]→(l.foldl (xJ n t place goal) s).2=mil n t place goal)
 | [],s,hs=>⟨by simp[both],hs⟩
 | c::l,s,hs=>by
   obtain⟨a1,a2⟩:=JW n t place goal s c hs;obtain⟨b1,b2⟩:=JW n t place goal (tS n t place goal s c) (mP t c) a2;obtain⟨c1,c2⟩:=BX n t place goal l (xJ n t place goal s c) b2;refine⟨?_,c2⟩;rw[List.foldl_cons,c1];show(tS n t place goal (tS n t place goal s c) (mP t c)).1++_=_;rw[b1,a1];have e:both t (c::l)=c::mP t c::both t l:=rfl;rw[e,List.filterMap_cons,List.filterMap_cons];cases A2 n t place goal c <;> cases A2 n t place goal (mP t c) <;> simp
theorem kE(n:Network)(t:VType)(place goal:Int)(l:List Clk):(bF n t place goal l).1=(both t l).filterMap (A2 n t place goal)∧((bF n t place goal l).1≠[]→(bF n t place goal l).2=mil n t place goal):=by
 have:=BX n t place goal l ([],0) (fun h=>absurd rfl h);exact⟨by unfold bF;rw[this.1];rfl,this.2⟩
def xT(n:Network)(t:VType)(place goal close:Int)(m:Mom):Option Mom:=
 if(((dX n t.profile place goal m.time).2.2 == 0&&decide ((dX n t.profile place goal m.time).1≤close))&&decide (W (W (m.driven+(dX n t.profile place goal m.time).1)-m.time)≤t.drive))=true
 then some ⟨(dX n t.profile place goal m.time).1,W (W (m.driven+(dX n t.profile place goal m.time).1)-m.time)⟩else none
theorem IF(n:Network)(t:VType)(place goal close:Int):∀(l:List Mom) (s:List Mom×Int),
   (l.foldl (QC n t place goal close) s).1=s.1++l.filterMap (xT n t place goal close)∧(l≠[]→(l.foldl (QC n t place goal close) s).2=mil n t place goal)
 | [],s=>⟨by simp,fun h=>absurd rfl h⟩
 | m::l,s=>by
   obtain⟨c1,c2⟩:=IF n t place goal close l (QC n t place goal close s m);refine⟨?_,fun _=>?_⟩
   · rw[List.foldl_cons,c1,List.filterMap_cons]
     unfold QC xT;simp only;split <;> simp
   · rw[List.foldl_cons]
     by_cases hl:l=[]
     · subst hl
       show(dX n t.profile place goal m.time).2.1=_;rw[Sk n t.profile place goal m.time 0];rfl
     · exact c2 hl
theorem zB(n:Network)(t:VType)(place goal close:Int)(l:List Mom):(jA n t place goal close l).1=l.filterMap (xT n t place goal close)∧((jA n t place goal close l).1≠[]→(jA n t place goal close l).2=mil n t place goal):=by
 have:=IF n t place goal close l ([],0);have h1:(jA n t place goal close l).1=l.filterMap (xT n t place goal close):=by unfold jA;rw[this.1];rfl
 refine⟨h1,fun h=>this.2 fun e=>?_⟩;rw[h1,e]at h;exact h rfl
def okC(s:Stop)(c:Clk):Prop:=kC c.ready s.start≤s.close
def Ao(s:Stop)(c:Clk):Clk:=⟨W (kC c.ready s.start+s.service),c.since⟩
theorem NY{s:Stop}{c:Clk}(h:okC s c):iG s c.ready=(W (kC c.ready s.start+s.service),0):=by
 unfold iG okC at *;rw[if_neg (by omega)]
theorem NP{s:Stop}{c:Clk}(h:¬okC s c):(iG s c.ready).2=14:=by
 unfold iG okC at *;rw[if_pos (by omega)]
theorem nA{c d:Clk}:gF c d=true↔c.ready=d.ready∧c.since≤d.since:=by
 unfold gF;simp
theorem AU(s:Stop):∀(l:List Clk) (out P:List Clk),(∀e∈out,∃c∈P,okC s c∧e=Ao s c)→(∀c∈P,okC s c→∃e∈out,gF e (Ao s c)=true) →
   (∀e∈l.foldl (wV s) out,∃c∈P++l,okC s c∧e=Ao s c)∧(∀c∈P++l,okC s c→∃e∈l.foldl (wV s) out,gF e (Ao s c)=true)
 | [],out,P,h1,h2=>by simpa using⟨h1,h2⟩
 | c::l,out,P,h1,h2=>by
   have key:(∀e∈wV s out c,∃d∈P++[c],okC s d∧e=Ao s d)∧(∀d∈P++[c],okC s d→∃e∈wV s out c,gF e (Ao s d)=true):=by
     have sub:∀e∈out,∃d∈P++[c],okC s d∧e=Ao s d:=fun e he=>by
       obtain⟨d,hd,h⟩:=h1 e he;exact⟨d,List.mem_append_left _ hd,h⟩
     by_cases hok:okC s c
     · have hdp:=NY hok
       unfold wV;rw[hdp];simp only[bne_self_eq_false,Bool.false_eq_true,if_false];have hn:(⟨W (kC c.ready s.start+s.service),c.since⟩:Clk)=Ao s c:=rfl;rw[hn];split
       · rename_i hb
         obtain⟨e,he,hbe⟩:=List.any_eq_true.1 hb;refine⟨sub,fun d hd hdo=>?_⟩;rcases List.mem_append.1 hd with hd|hd
         · exact h2 d hd hdo
         · rw[List.mem_singleton.1 hd];exact⟨e,he,hbe⟩
       · refine⟨fun e he=>?_,fun d hd hdo=>?_⟩
         · rcases List.mem_append.1 he with he|he
           · exact sub e (List.mem_filter.1 he).1
           · rw[List.mem_singleton.1 he];exact⟨c,by simp,hok,rfl⟩
         · rcases List.mem_append.1 hd with hd|hd
           · obtain⟨e,he,hbe⟩:=h2 d hd hdo
             by_cases hbn:gF (Ao s c) e=true
             · refine⟨Ao s c,by simp,?_⟩
               have q1:=nA.1 hbn;have q2:=nA.1 hbe;exact nA.2 ⟨q1.1.trans q2.1,by omega⟩
             · exact⟨e,List.mem_append_left _ (List.mem_filter.2 ⟨he,by simp[hbn]⟩),hbe⟩
           · rw[List.mem_singleton.1 hd]
             exact⟨Ao s c,by simp,nA.2 ⟨rfl,Int.le_refl _⟩⟩
     · have hdp:=NP hok
       unfold wV;rw[hdp];simp only[show((14:Int) != 0)=true from rfl,if_true];refine⟨sub,fun d hd hdo=>?_⟩;rcases List.mem_append.1 hd with hd|hd
       · exact h2 d hd hdo
       · rw[List.mem_singleton.1 hd]at hdo;exact absurd hdo hok
   have:=AU s l (wV s out c) (P++[c]) key.1 key.2;rw[List.append_assoc]at this;exact this
theorem qA(s:Stop)(l:List Clk):(∀e∈dP s l,∃c∈l,okC s c∧e=Ao s c)∧(∀c∈l,okC s c→∃e∈dP s l,gF e (Ao s c)=true):=by
 have:=AU s l [] [] (by simp) (by simp);simpa[dP]using this
structure Cr(k:Nat)(cs:List Clk)(R:List Mom):Prop where
 sub:∀c∈cs,(⟨c.ready,c.since⟩:Mom)∈R
 dom:∀m∈R,∃c∈cs,c.ready=m.time∧c.since≤m.driven
 rng:∀m∈R,(0≤m.time∧m.time≤8192)∧ -(12288*(k:Int))≤m.driven∧m.driven≤4096
theorem nS{t:VType}{l:List Clk}{c:Clk}:c∈both t l↔∃d∈l,c=d∨c=mP t d:=by
 unfold both;simp[List.mem_flatMap]
theorem sN{t:VType}{l:List Mom}{m:Mom}:m∈dG t l↔∃d∈l,m=d∨m=VL t d:=by
 unfold dG;simp[List.mem_flatMap]
section
variable{n:Network}{t:VType}{place goal:Int}{k:Nat}{cs:List Clk}{R:List Mom}
theorem xB(ht:0≤t.rest∧t.rest≤4096)(h:Cr k cs R){m:Mom}(hm:m∈dG t R):(0≤m.time∧m.time≤12288)∧ -(12288*(k:Int))≤m.driven∧m.driven≤4096:=by
 obtain⟨d,hd,rfl|rfl⟩:=sN.1 hm
 · have:=h.rng _ hd;omega
 · have:=h.rng d hd
   show(0≤W (d.time+t.rest)∧W (d.time+t.rest)≤12288)∧ -(12288*(k:Int))≤0∧(0:Int)≤4096;rw[bU (by omega)];omega
theorem uK(h:Cr k cs R){c:Clk}(hc:c∈both t cs):(⟨c.ready,c.since⟩:Mom)∈dG t R:=by
 obtain⟨d,hd,rfl|rfl⟩:=nS.1 hc
 · exact sN.2 ⟨_,h.sub c hd,.inl rfl⟩
 · exact sN.2 ⟨_,h.sub d hd,.inr rfl⟩
theorem JS(h:Cr k cs R){m:Mom}(hm:m∈dG t R):∃c∈both t cs,c.ready=m.time∧c.since≤m.driven:=by
 obtain⟨d,hd,rfl|rfl⟩:=sN.1 hm
 · obtain⟨c,hc,h1,h2⟩:=h.dom m hd
   exact⟨c,nS.2 ⟨c,hc,.inl rfl⟩,h1,h2⟩
 · obtain⟨c,hc,h1,h2⟩:=h.dom d hd
   exact⟨mP t c,nS.2 ⟨c,hc,.inr rfl⟩,by show W (c.ready+t.rest)=W (d.time+t.rest);rw[h1],Int.le_refl _⟩
theorem KZ{close:Int}{m a:Mom}(h:xT n t place goal close m=some a):
   (dX n t.profile place goal m.time).2.2=0∧a.time=(dX n t.profile place goal m.time).1∧a.time≤close∧a.driven=W (W (m.driven+a.time)-m.time)∧a.driven≤t.drive:=by
 unfold xT at h;split at h
 · rename_i hb
   simp only[Bool.and_eq_true,beq_iff_eq,decide_eq_true_eq]at hb;injection h with h;subst h;exact⟨hb.1.1,rfl,hb.1.2,rfl,hb.2⟩
 · cases h
theorem vI{c a:Clk}(h:A2 n t place goal c=some a):
   (dX n t.profile place goal c.ready).2.2=0∧a.ready=(dX n t.profile place goal c.ready).1∧a.since=W (W (c.since+a.ready)-c.ready)∧a.since≤t.drive:=by
 unfold A2 at h;split at h
 · rename_i hb
   simp only[Bool.and_eq_true,beq_iff_eq,decide_eq_true_eq]at hb;injection h with h;subst h;exact⟨hb.1,rfl,rfl,hb.2⟩
 · cases h
theorem LS(ha:∀a∈n.arcs,ArcOk a)(ht:0≤t.rest∧t.rest≤4096)(hk:k≤16)(h:Cr k cs R){close:Int}{a:Mom}(hm:a∈(dG t R).filterMap (xT n t place goal close)):
   a.time≤close∧(0≤a.time∧a.time≤1000000000)∧(-(12288*((k+1:Nat):Int))≤a.driven∧a.driven≤t.drive)∧∃d∈(both t cs).filterMap (A2 n t place goal),d.ready=a.time∧d.since≤a.driven:=by
 obtain⟨m,hm,hf⟩:=List.mem_filterMap.1 hm;obtain⟨h1,h2,h3,h4,h5⟩:=KZ hf;have hr:=xB ht h hm;have hg:=LX ha hr.1 h1;rw[←h2]at hg;obtain⟨c,hc,c1,c2⟩:=JS (t:=t) h hm;have hcr:=xB ht h (uK h hc);simp only at hcr;have e1:W (W (m.driven+a.time)-m.time)=m.driven+a.time-m.time:=by rw[bU (n:=m.driven+a.time) (by omega),bU (by omega)]
 have e2:W (W (c.since+a.time)-c.ready)=c.since+a.time-c.ready:=by rw[bU (n:=c.since+a.time) (by omega),bU (by omega)]
 refine⟨h3,hg,⟨?_,h5⟩,⟨⟨a.time,W (W (c.since+a.time)-c.ready)⟩,List.mem_filterMap.2 ⟨c,hc,?_⟩,rfl,?_⟩⟩
 · rw[h4,e1];omega
 · unfold A2
   rw[c1,h1,←h2];rw[c1]at e2;rw[if_pos];simp only[beq_self_eq_true,Bool.true_and,decide_eq_true_eq];rw[e2];rw[h4,e1]at h5;omega
 · show W (W (c.since+a.time)-c.ready)≤a.driven
   rw[e2,h4,e1];omega
theorem Qh(h:Cr k cs R){close:Int}{d:Clk}(hd:d∈(both t cs).filterMap (A2 n t place goal))(hc:d.ready≤close):(⟨d.ready,d.since⟩:Mom)∈(dG t R).filterMap (xT n t place goal close):=by
 obtain⟨c,hcb,hf⟩:=List.mem_filterMap.1 hd;obtain⟨h1,h2,h3,h4⟩:=vI hf;refine List.mem_filterMap.2 ⟨_,uK h hcb,?_⟩;unfold xT;simp only;rw[←h2,h1,←h3,if_pos];simp only[beq_self_eq_true,Bool.true_and,Bool.and_eq_true,decide_eq_true_eq];exact⟨hc,h4⟩
theorem Fo{a b c:Int}:kC a b≤c↔a≤c∧b≤c:=by unfold kC;split <;> omega
theorem Mw(a b:Int):a≤kC a b∧b≤kC a b:=by unfold kC;split <;> omega
theorem Se(ha:∀a∈n.arcs,ArcOk a)(ht:0≤t.rest∧t.rest≤4096)(hdr:t.drive≤4096)(hk:k≤16)(h:Cr k cs R){s:Stop}(hs:(0≤s.start∧s.start≤s.close)∧s.close≤4096∧0≤s.service∧s.service≤4096):
   Cr (k+1) (dP s (bF n t place goal cs).1) (BD s (jA n t place goal s.close (dG t R)).1)∧(dP s (bF n t place goal cs).1=[]↔(jA n t place goal s.close (dG t R)).1=[]) ∧
   ((jA n t place goal s.close (dG t R)).1≠[]→(bF n t place goal cs).2=(jA n t place goal s.close (dG t R)).2):=by
 obtain⟨d1,d2⟩:=kE n t place goal cs;obtain⟨a1,a2⟩:=zB n t place goal s.close (dG t R);obtain⟨s1,s2⟩:=qA s (bF n t place goal cs).1;rw[d1]at s1 s2;have hsub:∀e∈dP s (bF n t place goal cs).1,∃a∈(jA n t place goal s.close (dG t R)).1,(⟨e.ready,e.since⟩:Mom)=⟨W (kC a.time s.start+s.service),a.driven⟩:=fun e he=>by
   obtain⟨c,hc,hok,rfl⟩:=s1 e (by rw[←d1];exact he);have hcl:c.ready≤s.close:=(Fo.1 hok).1;exact⟨⟨c.ready,c.since⟩,by rw[a1];exact Qh h hc hcl,rfl⟩
 have hdom:∀a∈(jA n t place goal s.close (dG t R)).1,((0≤a.time∧a.time≤s.close)∧(-(12288*((k+1:Nat):Int))≤a.driven∧a.driven≤t.drive))∧∃e∈dP s (bF n t place goal cs).1,e.ready=W (kC a.time s.start+s.service)∧e.since≤a.driven:=fun a hm=>by
   rw[a1]at hm;obtain⟨h1,h2,h3,d,hd,q1,q2⟩:=LS ha ht hk h hm;refine⟨⟨⟨h2.1,h1⟩,h3⟩,?_⟩;obtain⟨e,he,hb⟩:=s2 d hd (by unfold okC;rw[q1];exact Fo.2 ⟨h1,hs.1.2⟩);have hb:=nA.1 hb;refine⟨e,by rw[d1];exact he,?_,?_⟩
   · rw[hb.1];show W (kC d.ready s.start+s.service)=_;rw[q1]
   · have:e.since≤d.since:=hb.2
     omega
 refine⟨⟨fun e he=>?_,fun m hm=>?_,fun m hm=>?_⟩,⟨fun he=>?_,fun he=>?_⟩,fun hne=>?_⟩
 · obtain⟨a,hm,he2⟩:=hsub e he
   rw[he2];unfold BD;exact List.mem_map.2 ⟨a,hm,rfl⟩
 · unfold BD at hm
   obtain⟨a,ham,rfl⟩:=List.mem_map.1 hm;exact(hdom a ham).2
 · unfold BD at hm
   obtain⟨a,ham,rfl⟩:=List.mem_map.1 hm;obtain⟨⟨h1,h2⟩,_⟩:=hdom a ham;have hi:=Mw a.time s.start;have hi2:kC a.time s.start≤4096:=Fo.2 ⟨by omega,by omega⟩;show(0≤W (kC a.time s.start+s.service)∧W (kC a.time s.start+s.service)≤8192)∧ -(12288*((k+1:Nat):Int))≤a.driven∧a.driven≤4096;rw[bU (by omega)];omega
 · cases hA:(jA n t place goal s.close (dG t R)).1 with
   | nil=>rfl
   | cons a l=>
     obtain⟨_,e,he2,_⟩:=hdom a (by rw[hA];simp);rw[he]at he2;cases he2
 · cases hA:dP s (bF n t place goal cs).1 with
   | nil=>rfl
   | cons e l=>
     obtain⟨a,hm,_⟩:=hsub e (by rw[hA];simp);rw[he]at hm;cases hm
 · rw[a2 hne,d2]
   intro hd0;cases hA:(jA n t place goal s.close (dG t R)).1 with
   | nil=>exact hne hA
   | cons a l=>
     obtain⟨_,e,he2,_⟩:=hdom a (by rw[hA];simp);rw[hd0]at he2;cases he2
theorem vU(close:Int):∀(l P:List Clk) (o:Int),(∀c∈P,0≤c.ready)→(∀c∈l,0≤c.ready) →
   ((o= -1∧∀c∈P,¬c.ready≤close)∨((∃c∈P,c.ready=o∧o≤close)∧∀c∈P,c.ready≤close→o≤c.ready)) →
   ((l.foldl (kZ close) o= -1∧∀c∈P++l,¬c.ready≤close)∨((∃c∈P++l,c.ready=l.foldl (kZ close) o∧l.foldl (kZ close) o≤close)∧∀c∈P++l,c.ready≤close→l.foldl (kZ close) o≤c.ready))
 | [],P,o,_,_,h=>by simpa using h
 | c::l,P,o,hP,hl,h=>by
   have hc:=hl c (by simp);have key:((kZ close o c= -1∧∀d∈P++[c],¬d.ready≤close)∨((∃d∈P++[c],d.ready=kZ close o c∧kZ close o c≤close)∧∀d∈P++[c],d.ready≤close→kZ close o c≤d.ready)):=by
     unfold kZ;split
     · rename_i hb
       simp only[Bool.and_eq_true,Bool.or_eq_true,decide_eq_true_eq]at hb;right;refine⟨⟨c,by simp,rfl,hb.1⟩,fun d hd hdc=>?_⟩;rcases List.mem_append.1 hd with hd|hd
       · rcases h with⟨h1,h2⟩|⟨⟨e,he,h1,h2⟩,h3⟩
         · exact absurd hdc (h2 d hd)
         · have:=h3 d hd hdc
           have:=hP e he;omega
       · rw[List.mem_singleton.1 hd];exact Int.le_refl _
     · rename_i hb
       simp only[Bool.and_eq_true,Bool.or_eq_true,decide_eq_true_eq]at hb;rcases h with⟨h1,h2⟩|⟨⟨e,he,h1,h2⟩,h3⟩
       · left
         refine⟨h1,fun d hd=>?_⟩;rcases List.mem_append.1 hd with hd|hd
         · exact h2 d hd
         · rw[List.mem_singleton.1 hd];intro h4;exact hb ⟨h4,.inl (by omega)⟩
       · right
         refine⟨⟨e,List.mem_append_left _ he,h1,h2⟩,fun d hd hdc=>?_⟩;rcases List.mem_append.1 hd with hd|hd
         · exact h3 d hd hdc
         · rw[List.mem_singleton.1 hd]at hdc ⊢
           have:¬c.ready<o:=fun h4=>hb ⟨hdc,.inr h4⟩
           omega
   have:=vU close l (P++[c]) (kZ close o c) (fun d hd=>by
     rcases List.mem_append.1 hd with hd|hd
     · exact hP d hd
     · rw[List.mem_singleton.1 hd];exact hc) (fun d hd=>hl d (by simp[hd])) key
   rw[List.append_assoc]at this;exact this
theorem EU:∀(l:List Mom) (e:Int),(l.foldl (fun e m=>tQ e m.time) e=e∨∃m∈l,m.time=l.foldl (fun e m=>tQ e m.time) e)∧l.foldl (fun e m=>tQ e m.time) e≤e∧∀m∈l,l.foldl (fun e m=>tQ e m.time) e≤m.time
 | [],e=>⟨.inl rfl,Int.le_refl _,by simp⟩
 | m::l,e=>by
   obtain⟨h1,h2,h3⟩:=EU l (tQ e m.time);have hi:tQ e m.time≤e∧tQ e m.time≤m.time∧(tQ e m.time=e∨tQ e m.time=m.time):=by unfold tQ;split <;> omega
   rw[List.foldl_cons];refine⟨?_,by omega,fun d hd=>?_⟩
   · rcases h1 with h1|⟨d,hd,h1⟩
     · rcases hi.2.2 with h4|h4
       · exact .inl (h1.trans h4)
       · exact .inr ⟨m,by simp,by rw[h1,h4]⟩
     · exact .inr ⟨d,by simp[hd],h1⟩
   · rcases List.mem_cons.1 hd with rfl|hd
     · omega
     · exact h3 d hd
theorem DZ{l:List Mom}(h:l≠[]):(∃m∈l,m.time=VE l)∧∀m∈l,VE l≤m.time:=by
 cases l with
 | nil=>exact absurd rfl h
 | cons a l=>
   obtain⟨h1,h2,h3⟩:=EU (a::l) (VV (a::l));refine⟨?_,h3⟩;rcases h1 with h1|h1
   · exact⟨a,by simp,h1.symm⟩
   · exact h1
theorem TF(ha:∀a∈n.arcs,ArcOk a)(ht:0≤t.rest∧t.rest≤4096)(hk:k≤16)(h:Cr k cs R)(close:Int):
   ((bF n t place goal cs).1.foldl (kZ close) (-1)≥0↔(jA n t place goal close (dG t R)).1≠[]) ∧
   ((jA n t place goal close (dG t R)).1≠[]→(bF n t place goal cs).1.foldl (kZ close) (-1)=VE (jA n t place goal close (dG t R)).1∧(bF n t place goal cs).2=(jA n t place goal close (dG t R)).2):=by
 obtain⟨d1,d2⟩:=kE n t place goal cs;obtain⟨a1,a2⟩:=zB n t place goal close (dG t R);have hpos:∀d∈(bF n t place goal cs).1,0≤d.ready:=fun d hd=>by
   rw[d1]at hd;obtain⟨c,hc,hf⟩:=List.mem_filterMap.1 hd;obtain⟨h1,h2,_⟩:=vI hf;have hcr:=xB ht h (uK h hc);simp only at hcr;have:=LX ha hcr.1 h1;rw[h2];exact this.1
 have hsub:∀d∈(bF n t place goal cs).1,d.ready≤close→(⟨d.ready,d.since⟩:Mom)∈(jA n t place goal close (dG t R)).1:=fun d hd hc=>by
   rw[d1]at hd;rw[a1];exact Qh h hd hc
 have hdom:∀a∈(jA n t place goal close (dG t R)).1,a.time≤close∧∃d∈(bF n t place goal cs).1,d.ready=a.time:=fun a hm=>by
   rw[a1]at hm;obtain⟨h1,_,_,d,hd,q1,_⟩:=LS ha ht hk h hm;exact⟨h1,d,by rw[d1];exact hd,q1⟩
 have hE:=vU close (bF n t place goal cs).1 [] (-1) (by simp) hpos (.inl ⟨rfl,by simp⟩);rw[List.nil_append]at hE;generalize hD:(bF n t place goal cs).1=D at *;generalize hA:(jA n t place goal close (dG t R)).1=A at *;rcases hE with⟨e1,e2⟩|⟨⟨c,hc,e1,e2⟩,e3⟩
 · have hnil : A = [] := by
     cases A with
     | nil=>rfl
     | cons a l=>
       obtain⟨q1,d,hd,q2⟩:=hdom a (by simp);exact absurd (by omega) (e2 d hd)
   refine⟨⟨fun h=>by rw[e1]at h;omega,fun h=>absurd hnil h⟩,fun h=>absurd hnil h⟩
 · have hne : A ≠ [] := fun e => by
     have:=hsub c hc (by omega);rw[e]at this;cases this
   have hc0:=hpos c hc;refine⟨⟨fun _=>hne,fun _=>by omega⟩,fun _=>⟨?_,?_⟩⟩
   · obtain⟨⟨m,hm,m1⟩,m2⟩:=DZ hne
     have h1:=m2 _ (hsub c hc (by omega));simp only at h1;obtain⟨q1,d,hd,q2⟩:=hdom m hm;have h2:=e3 d hd (by omega);omega
   · rw[a2 hne,d2 (fun e=>by rw[e]at hc;cases hc)]
end
end Go.Proofs.YtdlijlecpopadaaGreatDoor.Rx
end
