/- Texts joined by a program: RxZ, RyS, RyA, RyB, RyC. -/
import Derived.Test.YtdlijlecpopadaaGreatDoorZw32
set_option linter.unusedSimpArgs false
set_option linter.unusedVariables false
set_option maxRecDepth 100000
section
namespace Go.Proofs.YtdlijlecpopadaaGreatDoor.Rx
open Go.Aw Go.Aw.D Go.Proofs Ty
open Sq
open Go.Nu (xC)
structure Ctx(x:Instance)(k:Nat)(near:List Int):Prop where
 acc:Acc x
 kind:k<x.types.length
 n:x.orders.length≤8
 len:near.length=x.orders.length
 mil:∀c∈x.net.arcs,0≤c.miles∧c.miles≤10000
 money:(0≤(aE x k).fixed∧(aE x k).fixed≤100000)∧(0≤(aE x k).perMile∧(aE x k).perMile≤100)∧0≤(aE x k).perTick∧(aE x k).perTick≤100
 led:∀o∈x.orders,-1≤o.last∧ -1≤o.now
theorem WG{x:Instance}(h:jE x=[]):∀o∈x.orders,-1≤o.last∧ -1≤o.now:=by
 unfold jE at h;simp only[List.append_eq_nil_iff,List.map_eq_nil_iff]at h;obtain⟨⟨⟨_,_⟩,ho⟩,_⟩:=h;unfold nN at ho;rw[List.append_eq_nil_iff]at ho;intro o hom;obtain⟨i,hi,rfl⟩:=List.getElem_of_mem hom;have h:=List.flatMap_eq_nil_iff.1 ho.2 i (List.mem_range.2 hi);unfold fD at h;rw[List.map_eq_nil_iff,Cl (List.getElem?_eq_getElem hi)]at h;unfold jA at h;simp only[List.nil_append,List.append_eq_nil_iff]at h;obtain⟨_,h8⟩:=h;have e8:=eO h8;simp only[Bool.or_eq_false_iff,decide_eq_false_iff_not]at e8;omega
theorem SG{x:Instance}(h:jE x=[]):∀t∈x.types,(0≤t.fixed∧t.fixed≤100000)∧(0≤t.perMile∧t.perMile≤100)∧0≤t.perTick∧t.perTick≤100:=by
 unfold jE at h;simp only[List.append_eq_nil_iff,List.map_eq_nil_iff]at h;obtain⟨⟨⟨_,ht⟩,_⟩,_⟩:=h;unfold pG at ht;rw[List.append_eq_nil_iff]at ht;intro t htm;obtain⟨i,hi,rfl⟩:=List.getElem_of_mem htm;have h:=List.flatMap_eq_nil_iff.1 ht.2 i (List.mem_range.2 hi);unfold gH at h;rw[List.map_eq_nil_iff,CQ (List.getElem?_eq_getElem hi)]at h;unfold kC at h;simp only[List.nil_append,List.append_eq_nil_iff]at h;obtain⟨_,h9⟩:=h;have e9:=eO h9;simp only[Bool.or_eq_false_iff]at e9;have a1:=iX.1 (mT e9.1.1.2);have a2:=iX.1 (mT e9.1.2);have a3:=iX.1 (mT e9.2);exact⟨a1,a2,a3⟩
theorem Cu{x:Instance}(h:jE x=[]){k:Nat}(hk:k<x.types.length)(hn:x.orders.length≤8){near:List Int}(hl:near.length=x.orders.length):Ctx x k near:=
 ⟨Q4 h,hk,hn,hl,Qc h,SG h _ (tA hk),WG h⟩
theorem FH{n:Network}(hm:∀c∈n.arcs,0≤c.miles∧c.miles≤10000)(t:VType)(p g:Int):0≤mil n t p g∧mil n t p g≤10000:=by
 unfold mil dW;split
 · exact⟨Int.le_refl 0,by decide⟩
 · split
   · exact⟨Int.le_refl 0,by decide⟩
   · cases e:lK n t.profile p g with
     | none=>exact⟨Int.le_refl 0,by decide⟩
     | some a=>
       unfold lK at e;exact hm a (List.mem_of_find?_eq_some e)
theorem Ctx.ty{x:Instance}{k:Nat}{near:List Int}(h:Ctx x k near):TypeB (aE x k) (lD x.types):=h.acc.type _ (tA h.kind)
structure Rel(x:Instance)(t:VType)(p:Part)(q:RP):Prop where
 place:p.place=q.place
 memory:p.memory=q.memory
 board:p.board=q.board
 visits:p.visits=q.visits
 load:p.load=q.load
 ll:q.load.length=Bc x
 mem:q.memory<2^x.orders.length
 clk:∃R,Cr p.visits p.clocks R∧q.moms=dF t R
theorem PD{s o:Nat}(h:o≤62):iV (s:Nat) (o:Nat)=jQ s o:=by
 rw[G9 (by omega) (by omega),Int.toNat_natCast,lA]
theorem SU{b o:Nat}(h:jQ b o=true):Av b o=b-2^o:=by
 rw[lA]at h;have e:b &&& 2^o=2^o:=by
   apply Nat.eq_of_testBit_eq;intro i;rw[Nat.testBit_and];by_cases hi:o=i
   · subst hi;rw[h,Nat.testBit_two_pow_self];rfl
   · rw[Nat.testBit_two_pow_of_ne hi];simp
 unfold Av;rw[e];have hb:(b ^^^ 2^o).testBit o=false:=by rw[Nat.testBit_xor,h,Nat.testBit_two_pow_self];rfl
 have ha:=Fz hb;have hc:(b ^^^ 2^o) ||| 2^o=b:=by
   apply Nat.eq_of_testBit_eq;intro i;rw[Nat.testBit_or,Nat.testBit_xor];by_cases hi:o=i
   · subst hi;rw[h,Nat.testBit_two_pow_self];rfl
   · rw[Nat.testBit_two_pow_of_ne hi];simp
 rw[hc]at ha;omega
theorem QQ{b o:Nat}(h:jQ b o=false):b ||| 2^o=b+2^o:=(Fz (by rw[←lA];exact h)).symm
theorem P9{a b:List Int}(hb:∀n∈b,0≤n∧n≤1000):pX a b=cX a b 1:=by
 unfold pX cX;induction a generalizing b with
 | nil=>rfl
 | cons u a ih=>
   cases b with
   | nil=>rfl
   | cons v b=>
     have hv:=hb v (by simp);rw[List.zipWith_cons_cons,List.zipWith_cons_cons,ih (fun n hn=>hb n (by simp[hn]))]
     congr 1
     rw[bV (n:=1*v) (by omega),Int.one_mul];rfl
theorem QP{a b:List Int}(hb:∀n∈b,0≤n∧n≤1000):qV a b=cX a b (-1):=by
 unfold qV cX;induction a generalizing b with
 | nil=>rfl
 | cons u a ih=>
   cases b with
   | nil=>rfl
   | cons v b=>
     have hv:=hb v (by simp);rw[List.zipWith_cons_cons,List.zipWith_cons_cons,ih (fun n hn=>hb n (by simp[hn]))]
     congr 1
     rw[bV (n:= -1*v) (by omega)];show W (u-v)=_
     congr 1
     omega
theorem vP{a c:List Int}(h:a.length=c.length):gL a c=oJ a c:=by
 unfold gL oJ;rw[h];simp
section
variable{x:Instance}{k:Nat}{near:List Int}{du:Option (List ByteArray)}{dl:List ByteArray}{M:Nat}{cn:Int}{lim fnd:Bool}{le:ByteArray}{p:Part}{q:RP}{o:Nat}{d:Bool}
abbrev wOf(x:Instance)(k:Nat)(near:List Int)(du:Option (List ByteArray))(M:Nat):Wk:=⟨x,k,aE x k,near,du,M⟩
abbrev sOf(x:Instance)(k:Nat)(near:List Int)(dl:List ByteArray)(M:Nat)(cn:Int)(lim fnd:Bool)(le:ByteArray):Rs:=⟨x,aE x k,k,near,dl,M,cn,lim,fnd,le⟩
def pO(x:Instance)(k:Nat)(near:List Int)(du:Option (List ByteArray))(p:Part)(q:RP)(o:Nat)(d:Bool):Part:=
 { p with
   memory:=if cO (aG x o) d=true then pN near p.memory o else p.memory
   value:=if cO (aG x o) d=true then wL (addV p.value ((eK (aG x o).now k*16+eK (aG x o).last k)*65536)) o du else p.value
   board:=if cO (aG x o) d=true then(if kV (aG x o)=true then p.board+2^o else p.board)else p.board-2^o
   load:=gM q (aG x o) d }
theorem Cf(h:Ctx x k near)(r:Rel x (aE x k) p q)(ho:o<x.orders.length)(hp:(stR (aG x o) d).place≥0)(hoff:(aG x o).off=false)(hab:pJ (aE x k).skills (aG x o).skills=true)(hM:p.visits<M):
   (qK q o (cO (aG x o) d)=true→(bK (wOf x k near du M) p ⟨(o:Nat),d⟩).2=false) ∧
   (qK q o (cO (aG x o) d)=false→oJ (gM q (aG x o) d) (aE x k).cap=false→(bK (wOf x k near du M) p ⟨(o:Nat),d⟩).2=false) ∧
   (qK q o (cO (aG x o) d)=false→oJ (gM q (aG x o) d) (aE x k).cap=true→bK (wOf x k near du M) p ⟨(o:Nat),d⟩=goP (wOf x k near du M) (pO x k near du p q o d) (stR (aG x o) d)):=by
 have hn:=h.n;have hO:=h.acc.order _ (kN ho);have hld:=(sS hO.load).2;have hstop:dK x ⟨(o:Nat),d⟩=(stR (aG x o) d,0):=S6 ho hp;have hll:=r.ll;have hol:=BD h.acc ho;have hcp:=Gu h.acc h.kind;have hA:=P9 (a:=q.load) hld;have hS:=QP (a:=q.load) hld;have hal:(cX q.load (aG x o).load 1).length=(aE x k).cap.length:=by unfold cX;rw[List.length_zipWith];omega
 have hsl:(cX q.load (aG x o).load (-1)).length=(aE x k).cap.length:=by unfold cX;rw[List.length_zipWith];omega
 have hql:q.load.length=(aE x k).cap.length:=by omega
 have hne : bK (wOf x k near du M) p ⟨(o : Nat), d⟩ =
     (let s:=if(!d||decide ((aG x o).pick.place<0))=true then fF (wOf x k near du M) p o else(p,true)
      if s.2=true then
        let l:=eS (wOf x k near du M) s.1 o d
        if l.2=true then goP (wOf x k near du M) l.1 (stR (aG x o) d)else(l.1,false)
      else(s.1,false)):=by
   unfold bK;have e0:(⟨(o:Nat),d⟩:Visit).order.toNat=o:=Int.toNat_natCast o;rw[e0,hstop];rw[if_neg]
   · rfl
   · rw[hoff,zY h.ty.skills hO.skills,hab]
     simp;omega
 rw[hne];clear hne hstop;have bM:iV (p.memory:Nat) (o:Nat)=jQ q.memory o:=by rw[r.memory];exact PD (by omega)
 have bB:iV (p.board:Nat) (o:Nat)=jQ q.board o:=by rw[r.board];exact PD (by omega)
 have st1:(jQ q.memory o||jQ q.board o)=true→fF (wOf x k near du M) p o=(p,false):=fun hs=>by
   unfold fF;rw[bM,bB,if_pos hs]
 have st2:(jQ q.memory o||jQ q.board o)=false→fF (wOf x k near du M) p o=({ p with memory:=pN near p.memory o,value:=wL (addV p.value ((eK (aG x o).now k*16+eK (aG x o).last k)*65536)) o du },true):=fun hs=>by
   unfold fF;rw[bM,bB,if_neg (by rw[hs];simp)]
 have e3:qK q o true=(jQ q.memory o||jQ q.board o):=by unfold qK;simp
 have e4:qK q o false= !jQ q.board o:=by unfold qK;simp
 cases d with
 | false=>
   have e1:cO (aG x o) false=true:=rfl;have e2:gM q (aG x o) false=cX q.load (aG x o).load 1:=rfl;rw[e1,e2,e3];have c1:(!false||decide ((aG x o).pick.place<0))=true:=rfl;rw[if_pos c1];cases hs:(jQ q.memory o||jQ q.board o)with
   | true=>
     rw[st1 hs];exact⟨fun _=>rfl,fun h1=>(by cases h1),fun h1=>(by cases h1)⟩
   | false=>
     have hb:jQ q.board o=false:=(Bool.or_eq_false_iff.1 hs).2;have hl : eS (wOf x k near du M) { p with memory := pN near p.memory o, value := wL (addV p.value ((eK (aG x o).now k * 16 + eK (aG x o).last k) * 65536)) o du } o false =
         (pO x k near du p q o false,oJ (cX q.load (aG x o).load 1) (aE x k).cap):=by
       unfold eS pO;rw[if_pos rfl,e1,e2];simp only[if_true,r.load,r.board,hA,vP hal,QQ hb]
     rw[st2 hs];dsimp only;rw[if_pos rfl,hl];dsimp only;refine⟨fun h1=>(by cases h1),fun _ h2=>?_,fun _ h2=>?_⟩
     · rw[h2];rfl
     · rw[h2];rfl
 | true=>
   have hdp:(aG x o).drop.place≥0:=hp;by_cases hb:kV (aG x o)=true
   · have hpk : ¬ (aG x o).pick.place < 0 := by
       unfold kV at hb;simp at hb;omega
     have e1:cO (aG x o) true=false:=by unfold cO;rw[hb];rfl
     have e2:gM q (aG x o) true=cX q.load (aG x o).load (-1):=by unfold gM;rw[if_neg (by simp),if_pos hb]
     have c1:(!true||decide ((aG x o).pick.place<0))=false:=by rw[decide_eq_false hpk];rfl
     have hif:(if(!true||decide ((aG x o).pick.place<0))=true then fF (wOf x k near du M) p o else(p,true))=(p,true):=if_neg (fun h=>Bool.noConfusion (c1.symm.trans h));rw[e1,e2,e4,hif];cases hs:jQ q.board o with
     | true=>
       have hl:eS (wOf x k near du M) p o true=(pO x k near du p q o true,oJ (cX q.load (aG x o).load (-1)) (aE x k).cap):=by
         unfold eS pO;rw[if_neg (by simp),if_pos hb,bB,if_pos hs,e1,e2];simp only[Bool.false_eq_true,if_false,r.load,r.board,hS,vP hsl,SU hs]
       dsimp only;rw[if_pos rfl,hl];dsimp only;refine⟨fun h1=>(by cases h1),fun _ h2=>?_,fun _ h2=>?_⟩
       · rw[h2];rfl
       · rw[h2];rfl
     | false=>
       have hl:eS (wOf x k near du M) p o true=(p,false):=by
         unfold eS;rw[if_neg (by simp),if_pos hb,bB,if_neg (by rw[hs];simp)]
       dsimp only;rw[if_pos rfl,hl];dsimp only;exact⟨fun _=>rfl,fun h1=>(by cases h1),fun h1=>(by cases h1)⟩
   · have hb:kV (aG x o)=false:=by simpa using hb
     have hpk:(aG x o).pick.place<0:=by
       unfold kV at hb;simp at hb;omega
     have e1:cO (aG x o) true=true:=by unfold cO;rw[hb];rfl
     have e2:gM q (aG x o) true=q.load:=by unfold gM;rw[if_neg (by simp),if_neg (by rw[hb];simp)]
     have c1:(!true||decide ((aG x o).pick.place<0))=true:=by rw[decide_eq_true hpk];rfl
     rw[e1,e2,e3,if_pos c1];cases hs:(jQ q.memory o||jQ q.board o)with
     | true=>
       rw[st1 hs];exact⟨fun _=>rfl,fun h1=>(by cases h1),fun h1=>(by cases h1)⟩
     | false=>
       have hl : eS (wOf x k near du M) { p with memory := pN near p.memory o, value := wL (addV p.value ((eK (aG x o).now k * 16 + eK (aG x o).last k) * 65536)) o du } o true =
           (pO x k near du p q o true,oJ q.load (aE x k).cap):=by
         unfold eS pO;rw[if_neg (by simp),if_neg (by rw[hb];simp),e1,e2,hb];simp only[if_true,Bool.false_eq_true,if_false,r.load,vP hql]
       rw[st2 hs];dsimp only;rw[if_pos rfl,hl];dsimp only;refine⟨fun h1=>(by cases h1),fun _ h2=>?_,fun _ h2=>?_⟩
       · rw[h2];rfl
       · rw[h2];rfl
theorem rA:(mV (sOf x k near dl M cn lim fnd le) q o d).memory=(if cO (aG x o) d=true then yA near q.memory o near.length else q.memory) ∧
   (mV (sOf x k near dl M cn lim fnd le) q o d).board=(if cO (aG x o) d=true then(if kV (aG x o)=true then q.board+2^o else q.board)else q.board-2^o) ∧
   (mV (sOf x k near dl M cn lim fnd le) q o d).load=q.load∧(mV (sOf x k near dl M cn lim fnd le) q o d).visits=q.visits∧(mV (sOf x k near dl M cn lim fnd le) q o d).miles=q.miles ∧
   (mV (sOf x k near dl M cn lim fnd le) q o d).dual=(if cO (aG x o) d=true then(xC q.dual (dl.getD o ByteArray.empty)).1 else q.dual) ∧
   (mV (sOf x k near dl M cn lim fnd le) q o d).moved=(if cO (aG x o) d=true then uH (aG x o).now k q.moved else q.moved) ∧
   (mV (sOf x k near dl M cn lim fnd le) q o d).other=(if cO (aG x o) d=true then uH (aG x o).last k q.other else q.other):=by
 unfold mV;cases cO (aG x o) d with
 | true=>
   cases hb:kV (aG x o)with
   | true=>exact⟨rfl,rfl,rfl,rfl,rfl,rfl,rfl,rfl⟩
   | false=>exact⟨rfl,rfl,rfl,rfl,rfl,rfl,rfl,rfl⟩
 | false=>exact⟨rfl,rfl,rfl,rfl,rfl,rfl,rfl,rfl⟩
structure Adds(x:Instance)(k:Nat)(dl:List ByteArray)(p p':Part)(q q':RP)(o:Nat)(d:Bool)(B:ByteArray)(miles:Int):Prop where
 rng:0≤miles∧miles≤10000
 value:p'.value=addV B (W (W ((aE x k).perMile*miles)*16777216))
 miles:q'.miles=W (q.miles+miles)
 dual:q'.dual=if cO (aG x o) d=true then(xC q.dual (dl.getD o ByteArray.empty)).1 else q.dual
 moved:q'.moved=if cO (aG x o) d=true then uH (aG x o).now k q.moved else q.moved
 other:q'.other=if cO (aG x o) d=true then uH (aG x o).last k q.other else q.other
theorem SZ(h:Ctx x k near)(r:Rel x (aE x k) p q)(ho:o<x.orders.length)(hp:(stR (aG x o) d).place≥0)(hoff:(aG x o).off=false)(hab:pJ (aE x k).skills (aG x o).skills=true)(hM:p.visits<M)(hM16:M≤16):
   (bK (wOf x k near du M) p ⟨(o:Nat),d⟩).2=(BG (sOf x k near dl M cn lim fnd le) q o d).2 ∧
   ((bK (wOf x k near du M) p ⟨(o:Nat),d⟩).2=true→Rel x (aE x k) (bK (wOf x k near du M) p ⟨(o:Nat),d⟩).1 (BG (sOf x k near dl M cn lim fnd le) q o d).1∧(bK (wOf x k near du M) p ⟨(o:Nat),d⟩).1.visits=p.visits+1 ∧
     ∃miles,Adds x k dl p (bK (wOf x k near du M) p ⟨(o:Nat),d⟩).1 q (BG (sOf x k near dl M cn lim fnd le) q o d).1 o d (pO x k near du p q o d).value miles):=by
 obtain⟨n1,n2,n3⟩:=Cf (near:=near) (du:=du) (M:=M) h r ho hp hoff hab hM;obtain⟨R,hR,hq⟩:=r.clk;have hT:=h.ty;have hO:=h.acc.order _ (kN ho);have hw:dU (stR (aG x o) d)=0:=by
   unfold stR;split
   · exact hO.wdrop
   · exact hO.wpick
 have hws:=JP hw hp;obtain⟨c1,c2,c3⟩:=QS (place:=p.place) (goal:=(stR (aG x o) d).place) (fun a ha=>h.acc.arc a ha) hT.rest hT.drive.2 (show p.visits≤16 by omega) hR hws;rw[←hq]at c1 c2 c3;have hV:BG (sOf x k near dl M cn lim fnd le) q o d=if qK q o (cO (aG x o) d)=true then(q,false)
   else
     if(jB x.net (aE x k) p.place (stR (aG x o) d).place (stR (aG x o) d).close q.moms).1.length=0 then(q,false)
     else if oJ (gM q (aG x o) d) (aE x k).cap=true then(goR (sOf x k near dl M cn lim fnd le) (mV (sOf x k near dl M cn lim fnd le) { q with load:=gM q (aG x o) d } o d) (stR (aG x o) d) (jB x.net (aE x k) p.place (stR (aG x o) d).place (stR (aG x o) d).close q.moms).2 (jB x.net (aE x k) p.place (stR (aG x o) d).place (stR (aG x o) d).close q.moms).1,true)
     else({ q with load:=gM q (aG x o) d },false):=by rw[r.place];rfl
 cases hs:qK q o (cO (aG x o) d)with
 | true=>
   rw[hV,if_pos hs,n1 hs];exact⟨rfl,fun h=>by cases h⟩
 | false=>
   rw[if_neg (by rw[hs];simp)]at hV;cases hf:oJ (gM q (aG x o) d) (aE x k).cap with
   | false=>
     rw[n2 hs hf];refine⟨?_,fun h=>by cases h⟩;rw[hV];split
     · rfl
     · rw[if_neg (by rw[hf];simp)]
   | true=>
     rw[n3 hs hf];rw[if_pos hf]at hV;have hG:goP (wOf x k near du M) (pO x k near du p q o d) (stR (aG x o) d)=({ pO x k near du p q o d with clocks:=dN (stR (aG x o) d) (bF x.net (aE x k) p.place (stR (aG x o) d).place p.clocks).1,place:=(stR (aG x o) d).place,visits:=p.visits+1,value:=addV (pO x k near du p q o d).value (W (W ((aE x k).perMile*(bF x.net (aE x k) p.place (stR (aG x o) d).place p.clocks).2)*16777216)) },decide ((dN (stR (aG x o) d) (bF x.net (aE x k) p.place (stR (aG x o) d).place p.clocks).1).length>0)):=rfl;rw[hG];clear hG;have hDm:∀s,dN s (bF x.net (aE x k) p.place (stR (aG x o) d).place p.clocks).1≠[]→0≤(bF x.net (aE x k) p.place (stR (aG x o) d).place p.clocks).2∧(bF x.net (aE x k) p.place (stR (aG x o) d).place p.clocks).2≤10000:=fun s hs=>by
       rw[(kA x.net (aE x k) p.place (stR (aG x o) d).place p.clocks).2 (fun e=>hs (by rw[e];rfl))];exact FH h.mil _ _ _
     generalize bF x.net (aE x k) p.place (stR (aG x o) d).place p.clocks=D at *;generalize jB x.net (aE x k) p.place (stR (aG x o) d).place (stR (aG x o) d).close q.moms=A at *;by_cases hA:A.1=[]
     · rw[if_pos (by rw[hA];rfl)]at hV
       rw[hV,c2.2 hA];exact⟨rfl,fun h=>by cases h⟩
     · have hSv:¬dN (stR (aG x o) d) D.1=[]:=fun e=>hA (c2.1 e)
       have hA0:¬A.1.length=0:=fun e=>hA (List.length_eq_zero_iff.1 e)
       rw[if_neg hA0]at hV;have hpos:(dN (stR (aG x o) d) D.1).length>0:=List.length_pos_iff.2 hSv;rw[hV];refine⟨decide_eq_true hpos,fun _=>⟨⟨?_,?_,?_,?_,?_,?_,?_,?_⟩,rfl,D.2,⟨hDm _ hSv,rfl,?_,?_,?_,?_⟩⟩⟩
       · rfl
       · show(if cO (aG x o) d=true then pN near p.memory o else p.memory)=(mV (sOf x k near dl M cn lim fnd le) { q with load:=gM q (aG x o) d } o d).memory
         rw[(rA).1,r.memory,QH (by rw[h.len];exact ho) (by rw[h.len];exact r.mem)]
       · show(if cO (aG x o) d=true then(if kV (aG x o)=true then p.board+2^o else p.board)else p.board-2^o)=(mV (sOf x k near dl M cn lim fnd le) { q with load:=gM q (aG x o) d } o d).board
         rw[(rA).2.1,r.board]
       · show p.visits+1=(mV (sOf x k near dl M cn lim fnd le) { q with load:=gM q (aG x o) d } o d).visits+1
         rw[(rA).2.2.2.1,r.visits]
       · show gM q (aG x o) d=(mV (sOf x k near dl M cn lim fnd le) { q with load:=gM q (aG x o) d } o d).load
         rw[(rA).2.2.1]
       · show(mV (sOf x k near dl M cn lim fnd le) { q with load:=gM q (aG x o) d } o d).load.length=Bc x
         rw[(rA).2.2.1];have hol:=BD h.acc ho;have hll:=r.ll;have hc:∀s,(cX q.load (aG x o).load s).length=Bc x:=fun s=>by unfold cX;rw[List.length_zipWith];omega
         show(gM q (aG x o) d).length=Bc x;unfold gM;split
         · exact hc 1
         · split
           · exact hc (-1)
           · exact hll
       · show(mV (sOf x k near dl M cn lim fnd le) { q with load:=gM q (aG x o) d } o d).memory<2^x.orders.length
         rw[(rA).1];split
         · have:=BP near q.memory o near.length
           rw[h.len]at this ⊢;exact this
         · exact r.mem
       · exact⟨_,c1,rfl⟩
       · show W ((mV (sOf x k near dl M cn lim fnd le) { q with load:=gM q (aG x o) d } o d).miles+A.2)=_
         rw[(rA).2.2.2.2.1,c3 hA]
       · exact(rA).2.2.2.2.2.1
       · exact(rA).2.2.2.2.2.2.1
       · exact(rA).2.2.2.2.2.2.2
end
end Go.Proofs.YtdlijlecpopadaaGreatDoor.Rx
end
section
namespace Go.Proofs.YtdlijlecpopadaaGreatDoor.Rx
open Go.Aw Go.Aw.D Go.Proofs Ty Go.Nu
theorem Hd(n:Int):lW (n:Rat)=zed n:=by unfold lW;rw[if_pos (Rat.den_intCast n),Rat.num_intCast]
def Sm(A D:Nat)(x:Rat):Prop:=x.den≤D∧x.num.natAbs≤A*x.den
theorem RO{n:Int}{d:Nat}(hd:d≠0):∃g:Nat,0<g∧n.natAbs=(mkRat n d).num.natAbs*g∧d=(mkRat n d).den*g:=by
 have h1:=Mo (n:=n) hd;have h2:=Nb (n:=n) hd;have hg:=ND (n:=n) hd;have dn:=Nat.gcd_dvd_left n.natAbs d;have dd:=Nat.gcd_dvd_right n.natAbs d;refine⟨Nat.gcd n.natAbs d,hg,?_,?_⟩
 · generalize Nat.gcd n.natAbs d=g at *
   rw[←h1,Int.fdiv_eq_ediv_of_nonneg _ (Int.natCast_nonneg g)];have hdvd:(g:Int)∣n:=Int.dvd_natAbs.1 (Int.natCast_dvd_natCast.2 dn);rw[Int.natAbs_ediv_of_dvd hdvd,Int.natAbs_natCast];exact(Nat.div_mul_cancel dn).symm
 · generalize Nat.gcd n.natAbs d=g at *
   rw[Int.fdiv_eq_ediv_of_nonneg _ (Int.natCast_nonneg g),←Int.natCast_ediv]at h2;have:d/g=(mkRat n d).den:=Int.ofNat.inj h2;rw[←this];exact(Nat.div_mul_cancel dd).symm
theorem PJ{A B D F:Nat}{x y:Rat}(hx:Sm A D x)(hy:Sm B F y):Sm (A+B) (D*F) (x+y):=by
 obtain⟨g,hg,e1,e2⟩:=RO (n:=x.num*y.den+y.num*x.den) (KI x y)
 rw[←GG]at e1 e2
 have hb:(x.num*y.den+y.num*x.den).natAbs≤(A+B)*(x.den*y.den):=by
   refine Nat.le_trans (Int.natAbs_add_le _ _) ?_
   rw[Int.natAbs_mul,Int.natAbs_mul,Int.natAbs_natCast,Int.natAbs_natCast,Nat.add_mul]
   refine Nat.add_le_add ?_ ?_
   · rw[←Nat.mul_assoc];exact Nat.mul_le_mul_right _ hx.2
   · rw[Nat.mul_comm x.den,←Nat.mul_assoc];exact Nat.mul_le_mul_right _ hy.2
 refine⟨?_,?_⟩
 · have : (x + y).den ≤ x.den * y.den := by
     calc (x+y).den≤(x+y).den*g:=Nat.le_mul_of_pos_right _ hg
       _=x.den*y.den:=e2.symm
   exact Nat.le_trans this (Nat.mul_le_mul hx.1 hy.1)
 · rw[e1,e2,←Nat.mul_assoc]at hb
   exact Nat.le_of_mul_le_mul_right hb hg
theorem MA{A B D F:Nat}{x:Rat}(h:Sm A D x)(h1:A≤B)(h2:D≤F):Sm B F x:=⟨Nat.le_trans h.1 h2,Nat.le_trans h.2 (Nat.mul_le_mul_right _ h1)⟩
theorem QK{A D:Nat}{x:Rat}(h:Sm A D x)(h1:A*D<cD)(h2:D<cD):pR x:=
 ⟨Nat.lt_of_le_of_lt (Nat.le_trans h.2 (Nat.mul_le_mul_left _ h.1)) h1,Nat.lt_of_le_of_lt h.1 h2⟩
theorem Hw{A B D F:Nat}{x y:Rat}(hx:Sm A D x)(hy:Sm B F y):(x.num*y.den).natAbs≤A*(D*F)∧(y.num*x.den).natAbs≤B*(D*F)∧(x.num*y.den+y.num*x.den).natAbs≤(A+B)*(D*F)∧x.den*y.den≤D*F:=by
 have hd:=Nat.mul_le_mul hx.1 hy.1;have h1:(x.num*y.den).natAbs≤A*(x.den*y.den):=by
   rw[Int.natAbs_mul,Int.natAbs_natCast,←Nat.mul_assoc];exact Nat.mul_le_mul_right _ hx.2
 have h2:(y.num*x.den).natAbs≤B*(x.den*y.den):=by
   rw[Int.natAbs_mul,Int.natAbs_natCast,Nat.mul_comm x.den,←Nat.mul_assoc];exact Nat.mul_le_mul_right _ hy.2
 refine⟨Nat.le_trans h1 (Nat.mul_le_mul_left _ hd),Nat.le_trans h2 (Nat.mul_le_mul_left _ hd),?_,hd⟩;refine Nat.le_trans (Int.natAbs_add_le _ _) ?_;rw[Nat.add_mul];exact Nat.add_le_add (Nat.le_trans h1 (Nat.mul_le_mul_left _ hd)) (Nat.le_trans h2 (Nat.mul_le_mul_left _ hd))
theorem Uj{A B D F:Nat}{x y:Rat}(hx:Sm A D x)(hy:Sm B F y)(h:(A+B)*(D*F)<cD)(h2:D*F<cD)(sx:pR x)(sy:pR y):xC (lW x) (lW y)=(lW (x+y),0):=by
 obtain⟨p1,p2,p3,p4⟩:=Hw hx hy;unfold xC;rw[lN sx,lN sy,Bool.and_self,if_pos rfl,jD,jD];refine Nl (Nat.lt_of_le_of_lt p1 (Nat.lt_of_le_of_lt (Nat.mul_le_mul_right _ (Nat.le_add_right _ _)) h)) (Nat.lt_of_le_of_lt p2 (Nat.lt_of_le_of_lt (Nat.mul_le_mul_right _ (Nat.le_add_left _ _)) h)) (Nat.lt_of_le_of_lt p3 h) (Nat.lt_of_le_of_lt p4 h2)
theorem Vp{s:ByteArray}(hr:cM s=true)(hs:s.size≤60):Sm (10^60) (10^60) (iT s):=by
 obtain⟨x,rfl,_,_,_⟩:=kB hr;rw[jD];have hz:∀n:Int,n.natAbs<10^60∨60<(zed n).size:=by
   intro n;by_cases h:(Lib.decDigits n.natAbs).length≤60
   · exact .inl ((gG (by decide)).1 h)
   · refine .inr ?_
     have h1:(dA (zed n)).size=(Lib.decDigits n.natAbs).length:=by rw[iF,fS]
     have h2:(dA (zed n)).size≤(zed n).size:=by
       unfold dA;split
       · rw[←bY,gS,List.length_drop,bY];omega
       · exact Nat.le_refl _
     omega
 have hden:1≤x.den:=x.den_pos;have key:x.num.natAbs<10^60∧x.den≤10^60:=by
   unfold lW at hs;split at hs
   · next h1=>
     refine⟨(hz x.num).resolve_right (by omega),?_⟩;rw[h1];exact Nat.pow_pos (by decide)
   · rw[ByteArray.size_append,ByteArray.size_append]at hs
     refine⟨(hz x.num).resolve_right (by omega),?_⟩;have:(dec x.den).size≤60:=by omega
     rw[fS]at this;exact Nat.le_of_lt ((gG (by decide)).1 this)
 refine⟨key.2,?_⟩;exact Nat.le_trans (Nat.le_of_lt key.1) (Nat.le_mul_of_pos_right _ hden)
theorem T9{A D:Nat}(h:1≤D):Sm A D 0:=⟨h,Nat.zero_le _⟩
theorem OV(c e k:Nat)(hc:c<100)(h:2+(e+e*k)≤4096):c*10^e*(10^e)^k<cD:=by
 refine FF (k:=2+(e+e*k)) ?_ h;rw[←Nat.pow_mul,Nat.mul_assoc,←Nat.pow_add,Nat.pow_add 10 2];exact Nat.mul_lt_mul_of_pos_right hc (Nat.pow_pos (by decide))
theorem LV(e k:Nat)(h:2+(e+e*k)≤4096):(10^e)^k<cD:=by
 refine FF (k:=e*k+1) ?_ (by omega);rw[←Nat.pow_mul];exact Nat.pow_lt_pow_right (by decide) (Nat.lt_succ_self _)
theorem SO{A D:Nat}{x:Rat}(h:Sm A D x):Sm A D (-x):=by
 unfold Sm;rw[Rat.neg_num,Rat.neg_den,Int.natAbs_neg];exact h
theorem WE{n:Int}{A:Nat}(h:n.natAbs≤A):Sm A 1 (n:Rat):=by
 unfold Sm;rw[Rat.num_intCast,Rat.den_intCast];omega
theorem TR{A B D F:Nat}{x y:Rat}(hx:Sm A D x)(hy:Sm B F y)(h:(A+B)*(D*F)<cD)(h2:D*F<cD)(sx:pR x)(sy:pR y):wC (lW x) (lW y)=(lW (x-y),0):=by
 obtain⟨p1,p2,p3,p4⟩:=Hw hx (SO hy);unfold wC;rw[lN sx,lN sy,Bool.and_self,if_pos rfl,jD,jD,Nl (Nat.lt_of_le_of_lt p1 (Nat.lt_of_le_of_lt (Nat.mul_le_mul_right _ (Nat.le_add_right _ _)) h)) (Nat.lt_of_le_of_lt p2 (Nat.lt_of_le_of_lt (Nat.mul_le_mul_right _ (Nat.le_add_left _ _)) h)) (Nat.lt_of_le_of_lt p3 h) (Nat.lt_of_le_of_lt p4 h2),Rat.sub_eq_add_neg]
def EE:Nat:=10^60
structure Vl(v:Nat)(a:ByteArray)(r:Rat):Prop where
 eq:a=lW r
 sm:Sm (v*EE) (EE^v) r
theorem Qs:1≤EE:=Nat.pow_pos (by decide)
theorem xM{v:Nat}(h:v≤60):v*EE*EE^v<cD∧EE^v<cD:=by
 have b1:=OV v 60 v (by omega) (by omega);have b2:=LV 60 v (by omega);exact⟨b1,b2⟩
theorem Vl.small{v:Nat}{a:ByteArray}{r:Rat}(h:Vl v a r)(hv:v≤60):pR r:=QK h.sm (xM hv).1 (xM hv).2
theorem Vl.right{v:Nat}{a:ByteArray}{r:Rat}(h:Vl v a r)(hv:v≤60):cM a=true:=by rw[h.eq];exact lN (h.small hv)
theorem Vl.val{v:Nat}{a:ByteArray}{r:Rat}(h:Vl v a r):iT a=r:=by rw[h.eq,jD]
theorem Vl.mono{v u:Nat}{a:ByteArray}{r:Rat}(h:Vl v a r)(hv:v≤u):Vl u a r:=⟨h.eq,MA h.sm (Nat.mul_le_mul_right _ hv) (Nat.pow_le_pow_right Qs hv)⟩
theorem Vl.add{u v:Nat}{a b:ByteArray}{r s:Rat}(ha:Vl u a r)(hb:Vl v b s)(h:u+v≤60):(xC a b).2=0∧Vl (u+v) (xC a b).1 (r+s):=by
 have hb1:=xM h;have e1:u*EE+v*EE=(u+v)*EE:=(Nat.add_mul _ _ _).symm;have e2:EE^u*EE^v=EE^(u+v):=(Nat.pow_add _ _ _).symm;have:=Uj ha.sm hb.sm (by rw[e1,e2];exact hb1.1) (by rw[e2];exact hb1.2) (ha.small (by omega)) (hb.small (by omega));rw[←ha.eq,←hb.eq]at this;rw[this];refine⟨rfl,rfl,?_⟩;have hs:=PJ ha.sm hb.sm;rw[e1,e2]at hs;exact hs
theorem Vl.sub{u v:Nat}{a b:ByteArray}{r s:Rat}(ha:Vl u a r)(hb:Vl v b s)(h:u+v≤60):(wC a b).2=0∧Vl (u+v) (wC a b).1 (r-s):=by
 have hb1:=xM h;have e1:u*EE+v*EE=(u+v)*EE:=(Nat.add_mul _ _ _).symm;have e2:EE^u*EE^v=EE^(u+v):=(Nat.pow_add _ _ _).symm;have:=TR ha.sm hb.sm (by rw[e1,e2];exact hb1.1) (by rw[e2];exact hb1.2) (ha.small (by omega)) (hb.small (by omega));rw[←ha.eq,←hb.eq]at this;rw[this];refine⟨rfl,rfl,?_⟩;have hs:=PJ ha.sm (SO hb.sm);rw[e1,e2,←Rat.sub_eq_add_neg]at hs;exact hs
theorem Vl.int{n:Int}(h:n.natAbs≤EE):Vl 1 (zed n) (n:Rat):=⟨(Hd n).symm,by rw[Nat.one_mul,Nat.pow_one];exact MA (WE h) (Nat.le_refl _) Qs⟩
theorem Ww{n:Int}(h:n.natAbs≤9223372036854775808):n.natAbs≤EE:=Nat.le_trans h (by decide)
theorem Vl.text{s:ByteArray}(hr:cM s=true)(hs:s.size≤60):Vl 1 s (iT s):=⟨(O2 hr).symm,by rw[Nat.one_mul,Nat.pow_one];exact Vp hr hs⟩
theorem Vl.addV{u:Nat}{a:ByteArray}{r:Rat}{n:Int}(ha:Vl u a r)(hn:n.natAbs≤9223372036854775808)(h:u+1≤60):Vl (u+1) (addV a n) (r+(n:Rat)):=(ha.add (Vl.int (Ww hn)) h).2
theorem xA{a b:ByteArray}(ha:cM a=true)(hb:cM b=true):¬tC a b<0↔iT b≤iT a:=by
 unfold tC Pf;rw[ha,hb,Bool.and_self,if_pos rfl];split
 · next h=>exact⟨fun h2=>absurd (by decide) h2,fun h2=>absurd h (Rat.not_lt.2 h2)⟩
 · next h=>
   refine⟨fun _=>Rat.not_lt.1 h,fun _=>?_⟩;split <;> decide
theorem Ms{a b:ByteArray}(ha:cM a=true)(hb:cM b=true):tC a b≤0↔iT a≤iT b:=by
 unfold tC Pf;rw[ha,hb,Bool.and_self,if_pos rfl];split
 · next h=>exact⟨fun _=>Rat.le_of_lt h,fun _=>by decide⟩
 · next h=>
   split
   · next h2=>exact⟨fun h3=>absurd h3 (by decide),fun h3=>absurd h2 (Rat.not_lt.2 h3)⟩
   · next h2=>exact⟨fun _=>Rat.not_lt.1 h2,fun _=>by decide⟩
end Go.Proofs.YtdlijlecpopadaaGreatDoor.Rx
end
section
namespace Go.Proofs.YtdlijlecpopadaaGreatDoor.Rx
open Go.Aw Go.Aw.D Go.Proofs Ty
open Sq
open Go.Nu
def V2(s:Rs)(q:RP):List ByteArray:=
 if((q.visits:Int) == 0||(q.board:Int) != 0)=true then[]
 else if(jB s.x.net s.t q.place s.t.dst s.t.close q.moms).1.length=0 then[]
 else[(wC (zed (WA s.t q (VD (jB s.x.net s.t q.place s.t.dst s.t.close q.moms).1) (jB s.x.net s.t q.place s.t.dst s.t.close q.moms).2)) q.dual).1]
def gU(w:Wk)(p:Part):List ByteArray:=if(iA w p).2.2=true then[mA w p (iA w p).1 (iA w p).2.1]else[]
def jF(w:Wk)(vs:List Visit):Nat→Part→List ByteArray
 | 0,p=>gU w p
 | f+1,p=>gU w p++vs.flatMap fun v=>if(bK w p v).2=true then jF w vs f (bK w p v).1 else[]
theorem Cq{a:Int}{k:Nat}{n:Int}(ha: -1≤a)(hn:0≤n∧n≤1000):uH a k n=n+eK a k∧0≤eK a k∧eK a k≤1:=by
 unfold uH eK;by_cases h1:a= -1
 · subst h1
   rw[if_neg (by simp),if_neg (by simp)];omega
 · by_cases h2:a=(k:Int)
   · rw[if_neg (by simp[h2]),if_neg (by simp[h2])]
     omega
   · have h3:a≥0:=by omega
     rw[if_pos (by simp[h2,h3]),if_pos (by simp[h1,h2]),bV (by omega)];omega
structure DuB(n:Nat)(du:Option (List ByteArray))(dl:List ByteArray):Prop where
 len:dl.length=n
 some:∀l,du=some l→l=dl
 none:du=none→∀a∈dl,a=dec 0
 right:∀a∈dl,Vl 1 a (iT a)
theorem DuB.at{n:Nat}{du:Option (List ByteArray)}{dl:List ByteArray}(h:DuB n du dl){o:Nat}(ho:o<n):dl.getD o ByteArray.empty∈dl:=by
 rw[List.getD,List.getElem?_eq_getElem (by rw[h.len];exact ho)];exact List.getElem_mem _
theorem PV:dec 0=lW 0:=by
 have h1:=Hd 0;rw[show zed 0=dec 0 from fO 0]at h1;exact h1.symm
theorem qB:Vl 0 (dec 0) 0:=⟨PV,T9 (Nat.le_of_eq (Nat.pow_zero _).symm)⟩
theorem xW:iT (dec 0)=0:=qB.val
structure Val(x:Instance)(k:Nat)(p:Part)(q:RP)(v d:Rat):Prop where
 own:Vl (3*q.visits+1) p.value v
 ref:Vl (q.visits+1) q.dual d
 eq:v=((((aE x k).perMile*q.miles)*16777216+(q.moved*16+q.other)*65536:Int):Rat)-d
 miles:0≤q.miles∧q.miles≤10000*(q.visits:Int)
 moved:0≤q.moved∧q.moved≤(q.visits:Int)
 other:0≤q.other∧q.other≤(q.visits:Int)
section
variable{x:Instance}{k:Nat}{near:List Int}{du:Option (List ByteArray)}{dl:List ByteArray}{M:Nat}{cn:Int}{lim fnd:Bool}{le:ByteArray}{p p':Part}{q q':RP}{o:Nat}{dr:Bool}{v d:Rat}{miles:Int}
theorem yK{a b:Int}(ha:0≤a∧a≤100){c:Int}(hb:0≤b∧b≤c):0≤a*b∧a*b≤100*c:=⟨Int.mul_nonneg ha.1 hb.1,Int.mul_le_mul ha.2 hb.2 hb.1 (by decide)⟩
theorem O1(h:Ctx x k near)(hd:DuB x.orders.length du dl)(ho:o<x.orders.length)(hv:Val x k p q v d)(h16:q.visits≤15)(a:Adds x k dl p p' q q' o dr (pO x k near du p q o dr).value miles):
   ∃vb db,Vl (3*q.visits+3) (pO x k near du p q o dr).value vb∧Vl (q.visits+2) q'.dual db∧vb=((((aE x k).perMile*q.miles)*16777216+(q'.moved*16+q'.other)*65536:Int):Rat)-db ∧
     (0≤q'.moved∧q'.moved≤(q.visits:Int)+1)∧(0≤q'.other∧q'.other≤(q.visits:Int)+1):=by
 have hm:=hv.moved;have ho2:=hv.other;have hO:=h.led _ (kN ho);have hD:=hd.at ho;have hDr:=hd.right _ hD;have a1:=a.dual;have a2:=a.moved;have a3:=a.other;unfold pO;simp only;cases hs:cO (aG x o) dr with
 | false=>
   rw[hs]at a1 a2 a3;simp only[Bool.false_eq_true,if_false]at a1 a2 a3 ⊢;rw[a1,a2,a3];exact⟨v,d,hv.own.mono (by omega),hv.ref.mono (by omega),hv.eq,by omega,by omega⟩
 | true=>
   rw[hs]at a1 a2 a3;simp only[if_true]at a1 a2 a3 ⊢;obtain⟨m1,m2⟩:=Cq (k:=k) hO.2 (show 0≤q.moved∧q.moved≤1000 by omega);obtain⟨m3,m4⟩:=Cq (k:=k) hO.1 (show 0≤q.other∧q.other≤1000 by omega);rw[m1]at a2;rw[m3]at a3;rw[a1,a2,a3];have e:=hv.eq;generalize eK (aG x o).now k=dn at *;generalize eK (aG x o).last k=dl2 at *;have hT:=hDr;have w1:=hv.own.addV (n:=(dn*16+dl2)*65536) (by omega) (by omega);have w2:=(hv.ref.add hT (by omega)).2;have hnone:du=none→dl.getD o ByteArray.empty=dec 0:=fun e=>hd.none e _ hD
   have hsome:=hd.some;generalize hDD:dl.getD o ByteArray.empty=D at *;have key:Vl (3*q.visits+1+1+1) (wL (addV p.value ((dn*16+dl2)*65536)) o du) (v+(((dn*16+dl2)*65536:Int):Rat)-iT D):=by
     cases du with
     | none=>
       rw[hnone rfl,xW,Rat.sub_eq_add_neg,Rat.neg_zero,Rat.add_zero];exact w1.mono (by omega)
     | some l=>
       have hl:=hsome l rfl;subst hl;show Vl _ (wC (addV p.value ((dn*16+dl2)*65536)) (l.getD o ByteArray.empty)).1 _;rw[hDD];exact(w1.sub hT (by omega)).2
   refine⟨_,_,key.mono (by omega),w2.mono (by omega),?_,by omega,by omega⟩;generalize iT D=rD at *;generalize (aE x k).perMile*q.miles=PM at *;have e2:PM*16777216+((q.moved+dn)*16+(q.other+dl2))*65536=(PM*16777216+(q.moved*16+q.other)*65536)+(dn*16+dl2)*65536:=by omega
   rw[e2];generalize PM*16777216+(q.moved*16+q.other)*65536=z at *;generalize (dn*16+dl2)*65536=y at *
   grind
theorem RD(h:Ctx x k near)(hd:DuB x.orders.length du dl)(ho:o<x.orders.length)(hv:Val x k p q v d)(h16:q.visits≤15)(hq:q'.visits=q.visits+1)(a:Adds x k dl p p' q q' o dr (pO x k near du p q o dr).value miles):
   ∃v' d',Val x k p' q' v' d':=by
 obtain⟨vb,db,b1,b2,b3,b4,b5⟩:=O1 h hd ho hv h16 a;have hp:=h.money.2.1;have hr:=a.rng;have hm:=hv.miles;have hbx:=yK hp hr;have a1:=a.value;have a2:=a.miles;rw[bV (by omega)]at a2;have e1:W ((aE x k).perMile*miles)=(aE x k).perMile*miles:=bV (by omega);have e3:=Int.mul_add (aE x k).perMile q.miles miles;rw[e1]at a1;rw[←a2]at e3;generalize (aE x k).perMile*q.miles=PM at *;generalize hpm:(aE x k).perMile*miles=pm at *;have e2:W (pm*16777216)=pm*16777216:=bV (by omega);rw[e2]at a1;have w:=b1.addV (n:=pm*16777216) (by omega) (by omega);rw[←a1]at w;refine⟨_,db,w.mono (by omega),b2.mono (by omega),?_,by omega,by omega,by omega⟩;rw[e3,b3];have e4:(PM+pm)*16777216+(q'.moved*16+q'.other)*65536=(PM*16777216+(q'.moved*16+q'.other)*65536)+pm*16777216:=by omega
 rw[e4];generalize PM*16777216+(q'.moved*16+q'.other)*65536=z at *;generalize pm*16777216=y at *
 grind
end
end Go.Proofs.YtdlijlecpopadaaGreatDoor.Rx
end
section
namespace Go.Proofs.YtdlijlecpopadaaGreatDoor.Rx
open Go.Aw Go.Aw.D Go.Proofs Ty
open Sq
open Go.Nu
theorem Xe{n:Int}(h: -4096≤n∧n≤4096): -64≤Int.tdiv n 64∧Int.tdiv n 64≤64:=by
 by_cases h0:0≤n
 · rw[Int.tdiv_eq_ediv_of_nonneg h0];omega
 · have e:Int.tdiv n 64= -(Int.tdiv (-n) 64):=by rw[Int.neg_tdiv];omega
   rw[e,Int.tdiv_eq_ediv_of_nonneg (by omega)];omega
theorem WO{n:Int}(h: -64≤n∧n≤64):0≤n*n∧n*n≤4096:=by
 have e:n*n=((n.natAbs*n.natAbs:Nat):Int):=by rw[Int.natCast_mul,Int.natAbs_mul_self']
 have:=Nat.mul_le_mul (show n.natAbs≤64 by omega) (show n.natAbs≤64 by omega);rw[e];omega
def sqW(e s:Int):Int:=Int.tdiv (e-s) 64*Int.tdiv (e-s) 64
section
variable{x:Instance}{k:Nat}{near:List Int}{du:Option (List ByteArray)}{dl:List ByteArray}{M:Nat}{cn:Int}{lim fnd:Bool}{le:ByteArray}{p p':Part}{q q':RP}{o:Nat}{dr:Bool}{v d:Rat}{miles:Int}
theorem Aq(h:Ctx x k near){n:Nat}(hn:n≤50)(hv:Vl n p.value v){e m:Int}(he:0≤e∧e≤4096)(hm:0≤m∧m≤10000):
   Vl (n+1) (mA (wOf x k near du M) p e m) (v+(((((aE x k).fixed+(aE x k).perMile*m)+(aE x k).perTick*(e-(aE x k).start))*16777216+sqW e (aE x k).start:Int):Rat)):=by
 have hT:=h.ty;have h1:=hT.start;have h2:=hT.close;obtain⟨f1,f2,f3⟩:=h.money;have b1:=yK f2 hm;have hw: -4096≤e-(aE x k).start∧e-(aE x k).start≤4096:=by omega
 have b2: -409600≤(aE x k).perTick*(e-(aE x k).start)∧(aE x k).perTick*(e-(aE x k).start)≤409600:=by
   by_cases h0:0≤e-(aE x k).start
   · have:=yK f3 (c:=4096) ⟨h0,hw.2⟩;omega
   · have:=yK f3 (b:= -(e-(aE x k).start)) (c:=4096) ⟨by omega,by omega⟩
     rw[Int.mul_neg]at this;omega
 have b3:=Xe hw;have b4:=WO b3;unfold mA QN Et;show Vl (n+1) (addV p.value (W (W (W (W ((aE x k).fixed+W ((aE x k).perMile*m))+W ((aE x k).perTick*W (e-(aE x k).start)))*16777216)+W (W (Int.tdiv (W (e-(aE x k).start)) 64)*W (Int.tdiv (W (e-(aE x k).start)) 64))))) _;rw[bV (n:=e-(aE x k).start) (by omega)];unfold sqW;generalize (aE x k).perTick*(e-(aE x k).start)=pt at *;generalize (aE x k).perMile*m=pm at *;generalize Int.tdiv (e-(aE x k).start) 64=tt at *;rw[bV (n:=tt) (by omega)];generalize tt*tt=t2 at *;rw[bV (n:=pm) (by omega),bV (n:=pt) (by omega),bV (n:=t2) (by omega),bV (n:=(aE x k).fixed+pm) (by omega),bV (n:=(aE x k).fixed+pm+pt) (by omega),bV (n:=((aE x k).fixed+pm+pt)*16777216) (by omega),bV (n:=((aE x k).fixed+pm+pt)*16777216+t2) (by omega)];exact hv.addV (by omega) (by omega)
theorem VF{O:Order}{i:Nat}{v:Visit}(h:v∈jH O (i:Nat)):∃d,v=⟨(i:Nat),d⟩∧(stR O d).place≥0:=by
 unfold jH at h;rcases List.mem_append.1 h with h|h
 · split at h
   · next hb=>exact⟨false,by simpa using h,by simpa[stR]using hb⟩
   · cases h
 · split at h
   · next hb=>exact⟨true,by simpa using h,by simpa[stR]using hb⟩
   · cases h
theorem Qx{w:Wk}{p:Part}{v:Visit}(h:((aG w.x v.order.toNat).off|| !mU w.t.skills (aG w.x v.order.toNat).skills)=true):(bK w p v).2=false:=by
 unfold bK;rw[if_pos (by rw[Bool.or_assoc,h,Bool.or_true])]
theorem OM(h:Ctx x k near):Rel x (aE x k) (dQ (wOf x k near du M)) (Qz (aE x k) (aE x k).cap.length)∧Val x k (dQ (wOf x k near du M)) (Qz (aE x k) (aE x k).cap.length) 0 0:=by
 have hT:=h.ty;have h1:=hT.start;have h2:=hT.close;refine⟨⟨rfl,rfl,rfl,rfl,rfl,?_,Nat.two_pow_pos _,⟨[⟨(aE x k).start,0⟩],⟨?_,?_,?_⟩,rfl⟩⟩,⟨qB.mono (by omega),qB.mono (by omega),?_,?_,?_,?_⟩⟩
 · show(List.replicate (aE x k).cap.length (0:Int)).length=Bc x
   rw[List.length_replicate,Gu h.acc h.kind]
 · intro c hc
   have:c=⟨(aE x k).start,0⟩:=List.mem_singleton.1 hc;rw[this];exact List.mem_singleton.2 rfl
 · intro m hm
   rw[List.mem_singleton.1 hm];exact⟨⟨(aE x k).start,0⟩,List.mem_singleton.2 rfl,rfl,Int.le_refl _⟩
 · intro m hm
   rw[List.mem_singleton.1 hm];refine⟨⟨h1.1,by show(aE x k).start≤8192;omega⟩,?_,by show(0:Int)≤4096;decide⟩;show -(12288*((0:Nat):Int))≤0;omega
 · show(0:Rat)=(((aE x k).perMile*0*16777216+(0*16+0)*65536:Int):Rat)-0
   rw[Int.mul_zero];grind
 · exact⟨Int.le_refl 0,by show(0:Int)≤10000*((0:Nat):Int);omega⟩
 · exact⟨Int.le_refl 0,by show(0:Int)≤((0:Nat):Int);omega⟩
 · exact⟨Int.le_refl 0,by show(0:Int)≤((0:Nat):Int);omega⟩
end
end Go.Proofs.YtdlijlecpopadaaGreatDoor.Rx
end
section
namespace Go.Proofs.YtdlijlecpopadaaGreatDoor.Rx
open Go.Aw Go.Aw.D Go.Proofs Ty
open Sq
open Go.Nu
structure Cap(n:Int)(t:Nat)(r:Int):Prop where
 lo:n≤r
 hi:r≤n+t
 eq:n+t≤8192→r=n+t
 gt:n+t>8192→r>8192
theorem Cap.refl(n:Int):Cap n 0 n:=⟨Int.le_refl _,by omega,by omega,by omega⟩
theorem Cap.big{n:Int}(h:n>8192)(t:Nat):Cap n t n:=⟨Int.le_refl _,by omega,by omega,by omega⟩
theorem Cap.trans{n m r:Int}{t u:Nat}(h:Cap n t m)(g:Cap m u r):Cap n (t+u) r:=by
 obtain⟨h1,h2,h3,h4⟩:=h;obtain⟨g1,g2,g3,g4⟩:=g;exact⟨by omega,by omega,by omega,by omega⟩
theorem Hk{α β γ:Type}(cnt:γ→Int)(I:γ→Prop)(step:γ→α→γ)(f:α→List β)(B:Int):∀(l:List α) (a:γ),
   (∀a v,v∈l→I a→0≤cnt a→cnt a+(f v).length≤B→I (step a v)∧Cap (cnt a) (f v).length (cnt (step a v)))→I a→0≤cnt a→cnt a+(l.flatMap f).length≤B →
   I (l.foldl step a)∧Cap (cnt a) (l.flatMap f).length (cnt (l.foldl step a))
 | [],a,_,hI,_,_=>⟨hI,.refl _⟩
 | v::l,a,h,hI,h0,hB=>by
   rw[List.flatMap_cons,List.length_append]at hB;obtain⟨i1,c1⟩:=h a v (by simp) hI h0 (by omega);have c1h:=c1.hi;have c1l:=c1.lo;obtain⟨i2,c2⟩:=Hk cnt I step f B l (step a v) (fun b u hu=>h b u (by simp[hu])) i1 (by omega) (by omega);refine⟨i2,?_⟩;rw[List.flatMap_cons,List.length_append];exact c1.trans c2
theorem Jz{w:Wk}{p:Part}{n:Int}(h0:0≤n)(hB:n+(gU w p).length≤1099511627776):Cap n (gU w p).length (A5 w p n):=by
 unfold A5 gU at *;split
 · next h=>rw[if_pos h]at hB;rw[bV (by simp at hB;omega)];exact⟨by omega,by simp,by simp,by simp⟩
 · exact .refl n
theorem MQ(w:Wk)(vs:List Visit):∀(f:Nat) (p:Part) (n:Int),0≤n→n+(jF w vs f p).length≤1099511627776→Cap n (jF w vs f p).length (lZ w vs f p n)
 | 0,p,n,h0,hB=>Jz h0 hB
 | f+1,p,n,h0,hB=>by
   have e:jF w vs (f+1) p=gU w p++vs.flatMap fun v=>if(bK w p v).2=true then jF w vs f (bK w p v).1 else[]:=rfl
   rw[e,List.length_append]at hB ⊢;have c1:=Jz (w:=w) (p:=p) h0 (by omega);have h1:=c1.lo;have h2:=c1.hi;refine c1.trans ?_;exact(Hk (γ:=Int) id (fun _=>True) (fun n v=>if n>8192 then n else if(bK w p v).2=true then lZ w vs f (bK w p v).1 n else n) (fun v=>if(bK w p v).2=true then jF w vs f (bK w p v).1 else[]) 1099511627776 vs (A5 w p n) (fun a v _ _ ha hb=>⟨trivial,by
     show Cap a _ (if a>8192 then a else if(bK w p v).2=true then lZ w vs f (bK w p v).1 a else a);by_cases hc:a>8192
     · rw[if_pos hc];exact .big hc _
     · rw[if_neg hc]
       by_cases hn:(bK w p v).2=true
       · rw[if_pos hn,if_pos hn]
         rw[if_pos hn]at hb;exact MQ w vs f _ a ha hb
       · rw[if_neg hn,if_neg hn];exact .refl a⟩) trivial (by show 0≤A5 w p n;omega) (by show A5 w p n+_≤_;omega)).2
theorem Same.leaf{w a:Rs}(h:Same w a)(q:RP):V2 a q=V2 w q:=by
 obtain⟨c,f,l,rfl⟩:=h.ex;rfl
theorem M0{α β:Type}{f:α→List β}{B:Nat}:∀{l:List α},(∀a∈l,(f a).length≤B)→(l.flatMap f).length≤l.length*B
 | [],_=>by simp
 | a::l,h=>by
   rw[List.flatMap_cons,List.length_append,List.length_cons,Nat.succ_mul];have h1:=h a (by simp);have h2:=M0 (l:=l) (fun b hb=>h b (by simp[hb]));omega
theorem IG(w:Wk)(p:Part):(gU w p).length≤1:=by unfold gU;split <;> simp
theorem M7(w:Wk)(vs:List Visit)(h:vs.length≤6):∀(f:Nat) (p:Part),(jF w vs f p).length≤7^f
 | 0,p=>IG w p
 | f+1,p=>by
   show(gU w p++vs.flatMap fun v=>if(bK w p v).2=true then jF w vs f (bK w p v).1 else[]).length≤7^(f+1);rw[List.length_append];have h1:=IG w p;have h2:=M0 (l:=vs) (f:=fun v=>if(bK w p v).2=true then jF w vs f (bK w p v).1 else[]) (B:=7^f) (fun v _=>by
     split
     · exact M7 w vs h f _
     · simp)
   have h3:vs.length*7^f≤6*7^f:=Nat.mul_le_mul_right _ h;have h4:7^(f+1)=6*7^f+7^f:=by rw[Nat.pow_succ];omega
   have h5:0<7^f:=Nat.pow_pos (by decide);omega
theorem Bf{x:Instance}(hn:x.orders.length≤3):(cL x).length≤6:=by
 have:=yX x x.orders.length;unfold cL;omega
theorem Qk(n:Nat):DuB n none (List.replicate n (dec 0)):=
 ⟨List.length_replicate,fun _ e=>(by cases e),fun _ a ha=>List.eq_of_mem_replicate ha,fun a ha=>by rw[List.eq_of_mem_replicate ha,xW];exact qB.mono (by decide)⟩
end Go.Proofs.YtdlijlecpopadaaGreatDoor.Rx
end
