/- Texts joined by a program: RxZ, RyS, RyA, RyB, RyC, RyE. -/
import Derived.Test.YtdlijlecpopadaaGreatDoorZv32
set_option linter.unusedSimpArgs false
set_option linter.unusedVariables false
set_option maxRecDepth 100000
section
namespace Go.Proofs.YtdlijlecpopadaaGreatDoor.Rx
open Go.Aw Go.Aw.D Go.Proofs Ty
open Sq
open Go.Nu (oF)
structure Ctx(x:Instance)(k:Nat)(near:List Int):Prop where
 acc:Acc x
 kind:k<x.types.length
 n:x.orders.length≤8
 len:near.length=x.orders.length
 mil:∀c∈x.net.arcs,0≤c.miles∧c.miles≤10000
 money:(0≤(aE x k).fixed∧(aE x k).fixed≤100000)∧(0≤(aE x k).perMile∧(aE x k).perMile≤100)∧0≤(aE x k).perTick∧(aE x k).perTick≤100
 led:∀o∈x.orders,-1≤o.last∧ -1≤o.now
theorem Xh{x:Instance}(h:jE x=[]):∀o∈x.orders,-1≤o.last∧ -1≤o.now:=by
 unfold jE at h;simp only[List.append_eq_nil_iff,List.map_eq_nil_iff]at h;obtain⟨⟨⟨_,_⟩,ho⟩,_⟩:=h;unfold nI at ho;rw[List.append_eq_nil_iff]at ho;intro o hom;obtain⟨i,hi,rfl⟩:=List.getElem_of_mem hom;have h:=List.flatMap_eq_nil_iff.1 ho.2 i (List.mem_range.2 hi);unfold fD at h;rw[List.map_eq_nil_iff,Cm (List.getElem?_eq_getElem hi)]at h;unfold jB at h;simp only[List.nil_append,List.append_eq_nil_iff]at h;obtain⟨_,h8⟩:=h;have e8:=eS h8;simp only[Bool.or_eq_false_iff,decide_eq_false_iff_not]at e8;omega
theorem PR{x:Instance}(h:jE x=[]):∀t∈x.types,(0≤t.fixed∧t.fixed≤100000)∧(0≤t.perMile∧t.perMile≤100)∧0≤t.perTick∧t.perTick≤100:=by
 unfold jE at h;simp only[List.append_eq_nil_iff,List.map_eq_nil_iff]at h;obtain⟨⟨⟨_,ht⟩,_⟩,_⟩:=h;unfold pI at ht;rw[List.append_eq_nil_iff]at ht;intro t htm;obtain⟨i,hi,rfl⟩:=List.getElem_of_mem htm;have h:=List.flatMap_eq_nil_iff.1 ht.2 i (List.mem_range.2 hi);unfold gH at h;rw[List.map_eq_nil_iff,BJ (List.getElem?_eq_getElem hi)]at h;unfold kB at h;simp only[List.nil_append,List.append_eq_nil_iff]at h;obtain⟨_,h9⟩:=h;have e9:=eS h9;simp only[Bool.or_eq_false_iff]at e9;have a1:=iY.1 (mO e9.1.1.2);have a2:=iY.1 (mO e9.1.2);have a3:=iY.1 (mO e9.2);exact⟨a1,a2,a3⟩
theorem BL{x:Instance}(h:jE x=[]){k:Nat}(hk:k<x.types.length)(hn:x.orders.length≤8){near:List Int}(hl:near.length=x.orders.length):Ctx x k near:=
 ⟨Ta h,hk,hn,hl,PO h,PR h _ (tI hk),Xh h⟩
theorem Fu{n:Network}(hm:∀c∈n.arcs,0≤c.miles∧c.miles≤10000)(t:VType)(p g:Int):0≤mil n t p g∧mil n t p g≤10000:=by
 unfold mil dX;split
 · exact⟨Int.le_refl 0,by decide⟩
 · split
   · exact⟨Int.le_refl 0,by decide⟩
   · cases e:lI n t.profile p g with
     | none=>exact⟨Int.le_refl 0,by decide⟩
     | some a=>
       unfold lI at e;exact hm a (List.mem_of_find?_eq_some e)
theorem Ctx.ty{x:Instance}{k:Nat}{near:List Int}(h:Ctx x k near):TypeB (aE x k) (kW x.types):=h.acc.type _ (tI h.kind)
structure Rel(x:Instance)(t:VType)(p:Part)(q:RP):Prop where
 place:p.place=q.place
 memory:p.memory=q.memory
 board:p.board=q.board
 visits:p.visits=q.visits
 load:p.load=q.load
 ll:q.load.length=A3 x
 mem:q.memory<2^x.orders.length
 clk:∃R,Cr p.visits p.clocks R∧q.moms=dG t R
theorem Py{s o:Nat}(h:o≤62):iV (s:Nat) (o:Nat)=jK s o:=by
 rw[Kd (by omega) (by omega),Int.toNat_natCast,nT]
theorem QO{b o:Nat}(h:jK b o=true):zK b o=b-2^o:=by
 rw[nT]at h;have e:b &&& 2^o=2^o:=by
   apply Nat.eq_of_testBit_eq;intro i;rw[Nat.testBit_and];by_cases hi:o=i
   · subst hi;rw[h,Nat.testBit_two_pow_self];rfl
   · rw[Nat.testBit_two_pow_of_ne hi];simp
 unfold zK;rw[e];have hb:(b ^^^ 2^o).testBit o=false:=by rw[Nat.testBit_xor,h,Nat.testBit_two_pow_self];rfl
 have ha:=Gk hb;have hc:(b ^^^ 2^o) ||| 2^o=b:=by
   apply Nat.eq_of_testBit_eq;intro i;rw[Nat.testBit_or,Nat.testBit_xor];by_cases hi:o=i
   · subst hi;rw[h,Nat.testBit_two_pow_self];rfl
   · rw[Nat.testBit_two_pow_of_ne hi];simp
 rw[hc]at ha;omega
theorem Tp{b o:Nat}(h:jK b o=false):b ||| 2^o=b+2^o:=(Gk (by rw[←nT];exact h)).symm
theorem SP{a b:List Int}(hb:∀n∈b,0≤n∧n≤1000):pU a b=dA a b 1:=by
 unfold pU dA;induction a generalizing b with
 | nil=>rfl
 | cons u a ih=>
   cases b with
   | nil=>rfl
   | cons v b=>
     have hv:=hb v (by simp);rw[List.zipWith_cons_cons,List.zipWith_cons_cons,ih (fun n hn=>hb n (by simp[hn]))]
     congr 1
     rw[bU (n:=1*v) (by omega),Int.one_mul];rfl
theorem Ts{a b:List Int}(hb:∀n∈b,0≤n∧n≤1000):qV a b=dA a b (-1):=by
 unfold qV dA;induction a generalizing b with
 | nil=>rfl
 | cons u a ih=>
   cases b with
   | nil=>rfl
   | cons v b=>
     have hv:=hb v (by simp);rw[List.zipWith_cons_cons,List.zipWith_cons_cons,ih (fun n hn=>hb n (by simp[hn]))]
     congr 1
     rw[bU (n:= -1*v) (by omega)];show W (u-v)=_
     congr 1
     omega
theorem vY{a c:List Int}(h:a.length=c.length):gK a c=oI a c:=by
 unfold gK oI;rw[h];simp
section
variable{x:Instance}{k:Nat}{near:List Int}{du:Option (List ByteArray)}{dl:List ByteArray}{M:Nat}{cn:Int}{lim fnd:Bool}{le:ByteArray}{p:Part}{q:RP}{o:Nat}{d:Bool}
abbrev wOf(x:Instance)(k:Nat)(near:List Int)(du:Option (List ByteArray))(M:Nat):Wk:=⟨x,k,aE x k,near,du,M⟩
abbrev sOf(x:Instance)(k:Nat)(near:List Int)(dl:List ByteArray)(M:Nat)(cn:Int)(lim fnd:Bool)(le:ByteArray):Rs:=⟨x,aE x k,k,near,dl,M,cn,lim,fnd,le⟩
def pE(x:Instance)(k:Nat)(near:List Int)(du:Option (List ByteArray))(p:Part)(q:RP)(o:Nat)(d:Bool):Part:=
 { p with
   memory:=if cM (aG x o) d=true then pM near p.memory o else p.memory
   value:=if cM (aG x o) d=true then wF (addV p.value ((eM (aG x o).now k*16+eM (aG x o).last k)*65536)) o du else p.value
   board:=if cM (aG x o) d=true then(if kO (aG x o)=true then p.board+2^o else p.board)else p.board-2^o
   load:=gN q (aG x o) d }
theorem BM(h:Ctx x k near)(r:Rel x (aE x k) p q)(ho:o<x.orders.length)(hp:(stR (aG x o) d).place≥0)(hoff:(aG x o).off=false)(hab:pP (aE x k).skills (aG x o).skills=true)(hM:p.visits<M):
   (qE q o (cM (aG x o) d)=true→(bX (wOf x k near du M) p ⟨(o:Nat),d⟩).2=false) ∧
   (qE q o (cM (aG x o) d)=false→oI (gN q (aG x o) d) (aE x k).cap=false→(bX (wOf x k near du M) p ⟨(o:Nat),d⟩).2=false) ∧
   (qE q o (cM (aG x o) d)=false→oI (gN q (aG x o) d) (aE x k).cap=true→bX (wOf x k near du M) p ⟨(o:Nat),d⟩=goP (wOf x k near du M) (pE x k near du p q o d) (stR (aG x o) d)):=by
 have hn:=h.n;have hO:=h.acc.order _ (kL ho);have hld:=(sZ hO.load).2;have hstop:dN x ⟨(o:Nat),d⟩=(stR (aG x o) d,0):=Sc ho hp;have hll:=r.ll;have hol:=B8 h.acc ho;have hcp:=GN h.acc h.kind;have hA:=SP (a:=q.load) hld;have hS:=Ts (a:=q.load) hld;have hal:(dA q.load (aG x o).load 1).length=(aE x k).cap.length:=by unfold dA;rw[List.length_zipWith];omega
 have hsl:(dA q.load (aG x o).load (-1)).length=(aE x k).cap.length:=by unfold dA;rw[List.length_zipWith];omega
 have hql:q.load.length=(aE x k).cap.length:=by omega
 have hne : bX (wOf x k near du M) p ⟨(o : Nat), d⟩ =
     (let s:=if(!d||decide ((aG x o).pick.place<0))=true then fH (wOf x k near du M) p o else(p,true)
      if s.2=true then
        let l:=eO (wOf x k near du M) s.1 o d
        if l.2=true then goP (wOf x k near du M) l.1 (stR (aG x o) d)else(l.1,false)
      else(s.1,false)):=by
   unfold bX;have e0:(⟨(o:Nat),d⟩:Visit).order.toNat=o:=Int.toNat_natCast o;rw[e0,hstop];rw[if_neg]
   · rfl
   · rw[hoff,zG h.ty.skills hO.skills,hab]
     simp;omega
 rw[hne];clear hne hstop;have bM:iV (p.memory:Nat) (o:Nat)=jK q.memory o:=by rw[r.memory];exact Py (by omega)
 have bB:iV (p.board:Nat) (o:Nat)=jK q.board o:=by rw[r.board];exact Py (by omega)
 have st1:(jK q.memory o||jK q.board o)=true→fH (wOf x k near du M) p o=(p,false):=fun hs=>by
   unfold fH;rw[bM,bB,if_pos hs]
 have st2:(jK q.memory o||jK q.board o)=false→fH (wOf x k near du M) p o=({ p with memory:=pM near p.memory o,value:=wF (addV p.value ((eM (aG x o).now k*16+eM (aG x o).last k)*65536)) o du },true):=fun hs=>by
   unfold fH;rw[bM,bB,if_neg (by rw[hs];simp)]
 have e3:qE q o true=(jK q.memory o||jK q.board o):=by unfold qE;simp
 have e4:qE q o false= !jK q.board o:=by unfold qE;simp
 cases d with
 | false=>
   have e1:cM (aG x o) false=true:=rfl;have e2:gN q (aG x o) false=dA q.load (aG x o).load 1:=rfl;rw[e1,e2,e3];have c1:(!false||decide ((aG x o).pick.place<0))=true:=rfl;rw[if_pos c1];cases hs:(jK q.memory o||jK q.board o)with
   | true=>
     rw[st1 hs];exact⟨fun _=>rfl,fun h1=>(by cases h1),fun h1=>(by cases h1)⟩
   | false=>
     have hb:jK q.board o=false:=(Bool.or_eq_false_iff.1 hs).2;have hl : eO (wOf x k near du M) { p with memory := pM near p.memory o, value := wF (addV p.value ((eM (aG x o).now k * 16 + eM (aG x o).last k) * 65536)) o du } o false =
         (pE x k near du p q o false,oI (dA q.load (aG x o).load 1) (aE x k).cap):=by
       unfold eO pE;rw[if_pos rfl,e1,e2];simp only[if_true,r.load,r.board,hA,vY hal,Tp hb]
     rw[st2 hs];dsimp only;rw[if_pos rfl,hl];dsimp only;refine⟨fun h1=>(by cases h1),fun _ h2=>?_,fun _ h2=>?_⟩
     · rw[h2];rfl
     · rw[h2];rfl
 | true=>
   have hdp:(aG x o).drop.place≥0:=hp;by_cases hb:kO (aG x o)=true
   · have hpk : ¬ (aG x o).pick.place < 0 := by
       unfold kO at hb;simp at hb;omega
     have e1:cM (aG x o) true=false:=by unfold cM;rw[hb];rfl
     have e2:gN q (aG x o) true=dA q.load (aG x o).load (-1):=by unfold gN;rw[if_neg (by simp),if_pos hb]
     have c1:(!true||decide ((aG x o).pick.place<0))=false:=by rw[decide_eq_false hpk];rfl
     have hif:(if(!true||decide ((aG x o).pick.place<0))=true then fH (wOf x k near du M) p o else(p,true))=(p,true):=if_neg (fun h=>Bool.noConfusion (c1.symm.trans h));rw[e1,e2,e4,hif];cases hs:jK q.board o with
     | true=>
       have hl:eO (wOf x k near du M) p o true=(pE x k near du p q o true,oI (dA q.load (aG x o).load (-1)) (aE x k).cap):=by
         unfold eO pE;rw[if_neg (by simp),if_pos hb,bB,if_pos hs,e1,e2];simp only[Bool.false_eq_true,if_false,r.load,r.board,hS,vY hsl,QO hs]
       dsimp only;rw[if_pos rfl,hl];dsimp only;refine⟨fun h1=>(by cases h1),fun _ h2=>?_,fun _ h2=>?_⟩
       · rw[h2];rfl
       · rw[h2];rfl
     | false=>
       have hl:eO (wOf x k near du M) p o true=(p,false):=by
         unfold eO;rw[if_neg (by simp),if_pos hb,bB,if_neg (by rw[hs];simp)]
       dsimp only;rw[if_pos rfl,hl];dsimp only;exact⟨fun _=>rfl,fun h1=>(by cases h1),fun h1=>(by cases h1)⟩
   · have hb:kO (aG x o)=false:=by simpa using hb
     have hpk:(aG x o).pick.place<0:=by
       unfold kO at hb;simp at hb;omega
     have e1:cM (aG x o) true=true:=by unfold cM;rw[hb];rfl
     have e2:gN q (aG x o) true=q.load:=by unfold gN;rw[if_neg (by simp),if_neg (by rw[hb];simp)]
     have c1:(!true||decide ((aG x o).pick.place<0))=true:=by rw[decide_eq_true hpk];rfl
     rw[e1,e2,e3,if_pos c1];cases hs:(jK q.memory o||jK q.board o)with
     | true=>
       rw[st1 hs];exact⟨fun _=>rfl,fun h1=>(by cases h1),fun h1=>(by cases h1)⟩
     | false=>
       have hl : eO (wOf x k near du M) { p with memory := pM near p.memory o, value := wF (addV p.value ((eM (aG x o).now k * 16 + eM (aG x o).last k) * 65536)) o du } o true =
           (pE x k near du p q o true,oI q.load (aE x k).cap):=by
         unfold eO pE;rw[if_neg (by simp),if_neg (by rw[hb];simp),e1,e2,hb];simp only[if_true,Bool.false_eq_true,if_false,r.load,vY hql]
       rw[st2 hs];dsimp only;rw[if_pos rfl,hl];dsimp only;refine⟨fun h1=>(by cases h1),fun _ h2=>?_,fun _ h2=>?_⟩
       · rw[h2];rfl
       · rw[h2];rfl
theorem qR:(mN (sOf x k near dl M cn lim fnd le) q o d).memory=(if cM (aG x o) d=true then yE near q.memory o near.length else q.memory) ∧
   (mN (sOf x k near dl M cn lim fnd le) q o d).board=(if cM (aG x o) d=true then(if kO (aG x o)=true then q.board+2^o else q.board)else q.board-2^o) ∧
   (mN (sOf x k near dl M cn lim fnd le) q o d).load=q.load∧(mN (sOf x k near dl M cn lim fnd le) q o d).visits=q.visits∧(mN (sOf x k near dl M cn lim fnd le) q o d).miles=q.miles ∧
   (mN (sOf x k near dl M cn lim fnd le) q o d).dual=(if cM (aG x o) d=true then(oF q.dual (dl.getD o ByteArray.empty)).1 else q.dual) ∧
   (mN (sOf x k near dl M cn lim fnd le) q o d).moved=(if cM (aG x o) d=true then uO (aG x o).now k q.moved else q.moved) ∧
   (mN (sOf x k near dl M cn lim fnd le) q o d).other=(if cM (aG x o) d=true then uO (aG x o).last k q.other else q.other):=by
 unfold mN;cases cM (aG x o) d with
 | true=>
   cases hb:kO (aG x o)with
   | true=>exact⟨rfl,rfl,rfl,rfl,rfl,rfl,rfl,rfl⟩
   | false=>exact⟨rfl,rfl,rfl,rfl,rfl,rfl,rfl,rfl⟩
 | false=>exact⟨rfl,rfl,rfl,rfl,rfl,rfl,rfl,rfl⟩
structure Adds(x:Instance)(k:Nat)(dl:List ByteArray)(p p':Part)(q q':RP)(o:Nat)(d:Bool)(B:ByteArray)(miles:Int):Prop where
 rng:0≤miles∧miles≤10000
 value:p'.value=addV B (W (W ((aE x k).perMile*miles)*16777216))
 miles:q'.miles=W (q.miles+miles)
 dual:q'.dual=if cM (aG x o) d=true then(oF q.dual (dl.getD o ByteArray.empty)).1 else q.dual
 moved:q'.moved=if cM (aG x o) d=true then uO (aG x o).now k q.moved else q.moved
 other:q'.other=if cM (aG x o) d=true then uO (aG x o).last k q.other else q.other
theorem Rl(h:Ctx x k near)(r:Rel x (aE x k) p q)(ho:o<x.orders.length)(hp:(stR (aG x o) d).place≥0)(hoff:(aG x o).off=false)(hab:pP (aE x k).skills (aG x o).skills=true)(hM:p.visits<M)(hM16:M≤16):
   (bX (wOf x k near du M) p ⟨(o:Nat),d⟩).2=(BU (sOf x k near dl M cn lim fnd le) q o d).2 ∧
   ((bX (wOf x k near du M) p ⟨(o:Nat),d⟩).2=true→Rel x (aE x k) (bX (wOf x k near du M) p ⟨(o:Nat),d⟩).1 (BU (sOf x k near dl M cn lim fnd le) q o d).1∧(bX (wOf x k near du M) p ⟨(o:Nat),d⟩).1.visits=p.visits+1 ∧
     ∃miles,Adds x k dl p (bX (wOf x k near du M) p ⟨(o:Nat),d⟩).1 q (BU (sOf x k near dl M cn lim fnd le) q o d).1 o d (pE x k near du p q o d).value miles):=by
 obtain⟨n1,n2,n3⟩:=BM (near:=near) (du:=du) (M:=M) h r ho hp hoff hab hM;obtain⟨R,hR,hq⟩:=r.clk;have hT:=h.ty;have hO:=h.acc.order _ (kL ho);have hw:dW (stR (aG x o) d)=0:=by
   unfold stR;split
   · exact hO.wdrop
   · exact hO.wpick
 have hws:=J9 hw hp;obtain⟨c1,c2,c3⟩:=Se (place:=p.place) (goal:=(stR (aG x o) d).place) (fun a ha=>h.acc.arc a ha) hT.rest hT.drive.2 (show p.visits≤16 by omega) hR hws;rw[←hq]at c1 c2 c3;have hV:BU (sOf x k near dl M cn lim fnd le) q o d=if qE q o (cM (aG x o) d)=true then(q,false)
   else
     if(jA x.net (aE x k) p.place (stR (aG x o) d).place (stR (aG x o) d).close q.moms).1.length=0 then(q,false)
     else if oI (gN q (aG x o) d) (aE x k).cap=true then(goR (sOf x k near dl M cn lim fnd le) (mN (sOf x k near dl M cn lim fnd le) { q with load:=gN q (aG x o) d } o d) (stR (aG x o) d) (jA x.net (aE x k) p.place (stR (aG x o) d).place (stR (aG x o) d).close q.moms).2 (jA x.net (aE x k) p.place (stR (aG x o) d).place (stR (aG x o) d).close q.moms).1,true)
     else({ q with load:=gN q (aG x o) d },false):=by rw[r.place];rfl
 cases hs:qE q o (cM (aG x o) d)with
 | true=>
   rw[hV,if_pos hs,n1 hs];exact⟨rfl,fun h=>by cases h⟩
 | false=>
   rw[if_neg (by rw[hs];simp)]at hV;cases hf:oI (gN q (aG x o) d) (aE x k).cap with
   | false=>
     rw[n2 hs hf];refine⟨?_,fun h=>by cases h⟩;rw[hV];split
     · rfl
     · rw[if_neg (by rw[hf];simp)]
   | true=>
     rw[n3 hs hf];rw[if_pos hf]at hV;have hG:goP (wOf x k near du M) (pE x k near du p q o d) (stR (aG x o) d)=({ pE x k near du p q o d with clocks:=dP (stR (aG x o) d) (bF x.net (aE x k) p.place (stR (aG x o) d).place p.clocks).1,place:=(stR (aG x o) d).place,visits:=p.visits+1,value:=addV (pE x k near du p q o d).value (W (W ((aE x k).perMile*(bF x.net (aE x k) p.place (stR (aG x o) d).place p.clocks).2)*16777216)) },decide ((dP (stR (aG x o) d) (bF x.net (aE x k) p.place (stR (aG x o) d).place p.clocks).1).length>0)):=rfl;rw[hG];clear hG;have hDm:∀s,dP s (bF x.net (aE x k) p.place (stR (aG x o) d).place p.clocks).1≠[]→0≤(bF x.net (aE x k) p.place (stR (aG x o) d).place p.clocks).2∧(bF x.net (aE x k) p.place (stR (aG x o) d).place p.clocks).2≤10000:=fun s hs=>by
       rw[(kE x.net (aE x k) p.place (stR (aG x o) d).place p.clocks).2 (fun e=>hs (by rw[e];rfl))];exact Fu h.mil _ _ _
     generalize bF x.net (aE x k) p.place (stR (aG x o) d).place p.clocks=D at *;generalize jA x.net (aE x k) p.place (stR (aG x o) d).place (stR (aG x o) d).close q.moms=A at *;by_cases hA:A.1=[]
     · rw[if_pos (by rw[hA];rfl)]at hV
       rw[hV,c2.2 hA];exact⟨rfl,fun h=>by cases h⟩
     · have hSv:¬dP (stR (aG x o) d) D.1=[]:=fun e=>hA (c2.1 e)
       have hA0:¬A.1.length=0:=fun e=>hA (List.length_eq_zero_iff.1 e)
       rw[if_neg hA0]at hV;have hpos:(dP (stR (aG x o) d) D.1).length>0:=List.length_pos_iff.2 hSv;rw[hV];refine⟨decide_eq_true hpos,fun _=>⟨⟨?_,?_,?_,?_,?_,?_,?_,?_⟩,rfl,D.2,⟨hDm _ hSv,rfl,?_,?_,?_,?_⟩⟩⟩
       · rfl
       · show(if cM (aG x o) d=true then pM near p.memory o else p.memory)=(mN (sOf x k near dl M cn lim fnd le) { q with load:=gN q (aG x o) d } o d).memory
         rw[(qR).1,r.memory,QG (by rw[h.len];exact ho) (by rw[h.len];exact r.mem)]
       · show(if cM (aG x o) d=true then(if kO (aG x o)=true then p.board+2^o else p.board)else p.board-2^o)=(mN (sOf x k near dl M cn lim fnd le) { q with load:=gN q (aG x o) d } o d).board
         rw[(qR).2.1,r.board]
       · show p.visits+1=(mN (sOf x k near dl M cn lim fnd le) { q with load:=gN q (aG x o) d } o d).visits+1
         rw[(qR).2.2.2.1,r.visits]
       · show gN q (aG x o) d=(mN (sOf x k near dl M cn lim fnd le) { q with load:=gN q (aG x o) d } o d).load
         rw[(qR).2.2.1]
       · show(mN (sOf x k near dl M cn lim fnd le) { q with load:=gN q (aG x o) d } o d).load.length=A3 x
         rw[(qR).2.2.1];have hol:=B8 h.acc ho;have hll:=r.ll;have hc:∀s,(dA q.load (aG x o).load s).length=A3 x:=fun s=>by unfold dA;rw[List.length_zipWith];omega
         show(gN q (aG x o) d).length=A3 x;unfold gN;split
         · exact hc 1
         · split
           · exact hc (-1)
           · exact hll
       · show(mN (sOf x k near dl M cn lim fnd le) { q with load:=gN q (aG x o) d } o d).memory<2^x.orders.length
         rw[(qR).1];split
         · have:=B7 near q.memory o near.length
           rw[h.len]at this ⊢;exact this
         · exact r.mem
       · exact⟨_,c1,rfl⟩
       · show W ((mN (sOf x k near dl M cn lim fnd le) { q with load:=gN q (aG x o) d } o d).miles+A.2)=_
         rw[(qR).2.2.2.2.1,c3 hA]
       · exact(qR).2.2.2.2.2.1
       · exact(qR).2.2.2.2.2.2.1
       · exact(qR).2.2.2.2.2.2.2
end
end Go.Proofs.YtdlijlecpopadaaGreatDoor.Rx
end
section
namespace Go.Proofs.YtdlijlecpopadaaGreatDoor.Rx
open Go.Aw Go.Aw.D Go.Proofs Ty Go.Nu
theorem Cp(n:Int):lH (n:Rat)=zed n:=by unfold lH;rw[if_pos (Rat.den_intCast n),Rat.num_intCast]
theorem Ox{n:Int}(h:n.natAbs<cC):mX (n:Rat):=⟨by rw[Rat.num_intCast];exact h,by rw[Rat.den_intCast];exact uB (k:=1) (by decide) (by decide)⟩
theorem Mh{n:Int}(h:n.natAbs≤1000000000000000000000000000000000000000000):n.natAbs<cC:=uB (k:=43) (Nat.lt_of_le_of_lt h (by decide)) (by decide)
def Sm(A D:Nat)(x:Rat):Prop:=x.den≤D∧x.num.natAbs≤A*x.den
theorem Pv{n:Int}{d:Nat}(hd:d≠0):∃g:Nat,0<g∧n.natAbs=(mkRat n d).num.natAbs*g∧d=(mkRat n d).den*g:=by
 have h1:=MT (n:=n) hd;have h2:=M0 (n:=n) hd;have hg:=Mp (n:=n) hd;have dn:=Nat.gcd_dvd_left n.natAbs d;have dd:=Nat.gcd_dvd_right n.natAbs d;refine⟨Nat.gcd n.natAbs d,hg,?_,?_⟩
 · generalize Nat.gcd n.natAbs d=g at *
   rw[←h1,Int.fdiv_eq_ediv_of_nonneg _ (Int.natCast_nonneg g)];have hdvd:(g:Int)∣n:=Int.dvd_natAbs.1 (Int.natCast_dvd_natCast.2 dn);rw[Int.natAbs_ediv_of_dvd hdvd,Int.natAbs_natCast];exact(Nat.div_mul_cancel dn).symm
 · generalize Nat.gcd n.natAbs d=g at *
   rw[Int.fdiv_eq_ediv_of_nonneg _ (Int.natCast_nonneg g),←Int.natCast_ediv]at h2;have:d/g=(mkRat n d).den:=Int.ofNat.inj h2;rw[←this];exact(Nat.div_mul_cancel dd).symm
theorem Kn{A B D F:Nat}{x y:Rat}(hx:Sm A D x)(hy:Sm B F y):Sm (A+B) (D*F) (x+y):=by
 obtain⟨g,hg,e1,e2⟩:=Pv (n:=x.num*y.den+y.num*x.den) (Lj x y)
 rw[←F8]at e1 e2
 have hb:(x.num*y.den+y.num*x.den).natAbs≤(A+B)*(x.den*y.den):=by
   refine Nat.le_trans (Int.natAbs_add_le _ _) ?_
   rw[Int.natAbs_mul,Int.natAbs_mul,Int.natAbs_natCast,Int.natAbs_natCast,Nat.add_mul]
   refine Nat.add_le_add ?_ ?_
   · rw[←Nat.mul_assoc];exact Nat.mul_le_mul_right _ hx.2
   · rw[Nat.mul_comm x.den,←Nat.mul_assoc];exact Nat.mul_le_mul_right _ hy.2
 refine⟨?_,?_⟩
 · have : (x + y).den ≤ x.den * y.den := by
     calc (x+y).den≤(x+y).den*g:=Nat.le_mul_of_pos_right _ hg
       _=x.den*y.den:=e2.symm
   exact Nat.le_trans this (Nat.mul_le_mul hx.1 hy.1)
 · rw[e1,e2,←Nat.mul_assoc]at hb
   exact Nat.le_of_mul_le_mul_right hb hg
theorem Gm{A B D F:Nat}{x:Rat}(h:Sm A D x)(h1:A≤B)(h2:D≤F):Sm B F x:=⟨Nat.le_trans h.1 h2,Nat.le_trans h.2 (Nat.mul_le_mul_right _ h1)⟩
theorem R9{A D:Nat}{x:Rat}(h:Sm A D x)(h1:A*D<cC)(h2:D<cC):mX x:=
 ⟨Nat.lt_of_le_of_lt (Nat.le_trans h.2 (Nat.mul_le_mul_left _ h.1)) h1,Nat.lt_of_le_of_lt h.1 h2⟩
theorem Jr{A B D F:Nat}{x y:Rat}(hx:Sm A D x)(hy:Sm B F y):(x.num*y.den).natAbs≤A*(D*F)∧(y.num*x.den).natAbs≤B*(D*F)∧(x.num*y.den+y.num*x.den).natAbs≤(A+B)*(D*F)∧x.den*y.den≤D*F:=by
 have hd:=Nat.mul_le_mul hx.1 hy.1;have h1:(x.num*y.den).natAbs≤A*(x.den*y.den):=by
   rw[Int.natAbs_mul,Int.natAbs_natCast,←Nat.mul_assoc];exact Nat.mul_le_mul_right _ hx.2
 have h2:(y.num*x.den).natAbs≤B*(x.den*y.den):=by
   rw[Int.natAbs_mul,Int.natAbs_natCast,Nat.mul_comm x.den,←Nat.mul_assoc];exact Nat.mul_le_mul_right _ hy.2
 refine⟨Nat.le_trans h1 (Nat.mul_le_mul_left _ hd),Nat.le_trans h2 (Nat.mul_le_mul_left _ hd),?_,hd⟩;refine Nat.le_trans (Int.natAbs_add_le _ _) ?_;rw[Nat.add_mul];exact Nat.add_le_add (Nat.le_trans h1 (Nat.mul_le_mul_left _ hd)) (Nat.le_trans h2 (Nat.mul_le_mul_left _ hd))
theorem MP{A B D F:Nat}{x y:Rat}(hx:Sm A D x)(hy:Sm B F y)(h:(A+B)*(D*F)<cC)(h2:D*F<cC)(sx:mX x)(sy:mX y):oF (lH x) (lH y)=(lH (x+y),0):=by
 obtain⟨p1,p2,p3,p4⟩:=Jr hx hy;unfold oF;rw[lL sx,lL sy,Bool.and_self,if_pos rfl,gS,gS];refine Na (Nat.lt_of_le_of_lt p1 (Nat.lt_of_le_of_lt (Nat.mul_le_mul_right _ (Nat.le_add_right _ _)) h)) (Nat.lt_of_le_of_lt p2 (Nat.lt_of_le_of_lt (Nat.mul_le_mul_right _ (Nat.le_add_left _ _)) h)) (Nat.lt_of_le_of_lt p3 h) (Nat.lt_of_le_of_lt p4 h2)
theorem UR{s:ByteArray}(hr:cE s=true)(hs:s.size≤60):Sm (10^60) (10^60) (gR s):=by
 obtain⟨x,rfl,_,_,_⟩:=iK hr;rw[gS];have hz:∀n:Int,n.natAbs<10^60∨60<(zed n).size:=by
   intro n;by_cases h:(Lib.decDigits n.natAbs).length≤60
   · exact .inl ((eW (by decide)).1 h)
   · refine .inr ?_
     have h1:(cY (zed n)).size=(Lib.decDigits n.natAbs).length:=by rw[gU,eY]
     have h2:(cY (zed n)).size≤(zed n).size:=by
       unfold cY;split
       · rw[←bV,gM,List.length_drop,bV];omega
       · exact Nat.le_refl _
     omega
 have hden:1≤x.den:=x.den_pos;have key:x.num.natAbs<10^60∧x.den≤10^60:=by
   unfold lH at hs;split at hs
   · next h1=>
     refine⟨(hz x.num).resolve_right (by omega),?_⟩;rw[h1];exact Nat.pow_pos (by decide)
   · rw[ByteArray.size_append,ByteArray.size_append]at hs
     refine⟨(hz x.num).resolve_right (by omega),?_⟩;have:(dec x.den).size≤60:=by omega
     rw[eY]at this;exact Nat.le_of_lt ((eW (by decide)).1 this)
 refine⟨key.2,?_⟩;exact Nat.le_trans (Nat.le_of_lt key.1) (Nat.le_mul_of_pos_right _ hden)
theorem U0{A D:Nat}(h:1≤D):Sm A D 0:=⟨h,Nat.zero_le _⟩
theorem OT(c e k:Nat)(hc:c<100)(h:2+(e+e*k)≤4096):c*10^e*(10^e)^k<cC:=by
 refine uB (k:=2+(e+e*k)) ?_ h;rw[←Nat.pow_mul,Nat.mul_assoc,←Nat.pow_add,Nat.pow_add 10 2];exact Nat.mul_lt_mul_of_pos_right hc (Nat.pow_pos (by decide))
theorem Ln(e k:Nat)(h:2+(e+e*k)≤4096):(10^e)^k<cC:=by
 refine uB (k:=e*k+1) ?_ (by omega);rw[←Nat.pow_mul];exact Nat.pow_lt_pow_right (by decide) (Nat.lt_succ_self _)
theorem Qy{A D:Nat}{x:Rat}(h:Sm A D x):Sm A D (-x):=by
 unfold Sm;rw[Rat.neg_num,Rat.neg_den,Int.natAbs_neg];exact h
theorem SQ{n:Int}{A:Nat}(h:n.natAbs≤A):Sm A 1 (n:Rat):=by
 unfold Sm;rw[Rat.num_intCast,Rat.den_intCast];omega
theorem T5{A B D F:Nat}{x y:Rat}(hx:Sm A D x)(hy:Sm B F y)(h:(A+B)*(D*F)<cC)(h2:D*F<cC)(sx:mX x)(sy:mX y):wB (lH x) (lH y)=(lH (x-y),0):=by
 obtain⟨p1,p2,p3,p4⟩:=Jr hx (Qy hy);unfold wB;rw[lL sx,lL sy,Bool.and_self,if_pos rfl,gS,gS,Na (Nat.lt_of_le_of_lt p1 (Nat.lt_of_le_of_lt (Nat.mul_le_mul_right _ (Nat.le_add_right _ _)) h)) (Nat.lt_of_le_of_lt p2 (Nat.lt_of_le_of_lt (Nat.mul_le_mul_right _ (Nat.le_add_left _ _)) h)) (Nat.lt_of_le_of_lt p3 h) (Nat.lt_of_le_of_lt p4 h2),Rat.sub_eq_add_neg]
def EE:Nat:=10^60
structure Vl(v:Nat)(a:ByteArray)(r:Rat):Prop where
 eq:a=lH r
 sm:Sm (v*EE) (EE^v) r
theorem PH:1≤EE:=Nat.pow_pos (by decide)
theorem xI{v:Nat}(h:v≤60):v*EE*EE^v<cC∧EE^v<cC:=by
 have b1:=OT v 60 v (by omega) (by omega);have b2:=Ln 60 v (by omega);exact⟨b1,b2⟩
theorem Vl.small{v:Nat}{a:ByteArray}{r:Rat}(h:Vl v a r)(hv:v≤60):mX r:=R9 h.sm (xI hv).1 (xI hv).2
theorem Vl.right{v:Nat}{a:ByteArray}{r:Rat}(h:Vl v a r)(hv:v≤60):cE a=true:=by rw[h.eq];exact lL (h.small hv)
theorem Vl.val{v:Nat}{a:ByteArray}{r:Rat}(h:Vl v a r):gR a=r:=by rw[h.eq,gS]
theorem Vl.mono{v u:Nat}{a:ByteArray}{r:Rat}(h:Vl v a r)(hv:v≤u):Vl u a r:=⟨h.eq,Gm h.sm (Nat.mul_le_mul_right _ hv) (Nat.pow_le_pow_right PH hv)⟩
theorem Vl.add{u v:Nat}{a b:ByteArray}{r s:Rat}(ha:Vl u a r)(hb:Vl v b s)(h:u+v≤60):(oF a b).2=0∧Vl (u+v) (oF a b).1 (r+s):=by
 have hb1:=xI h;have e1:u*EE+v*EE=(u+v)*EE:=(Nat.add_mul _ _ _).symm;have e2:EE^u*EE^v=EE^(u+v):=(Nat.pow_add _ _ _).symm;have:=MP ha.sm hb.sm (by rw[e1,e2];exact hb1.1) (by rw[e2];exact hb1.2) (ha.small (by omega)) (hb.small (by omega));rw[←ha.eq,←hb.eq]at this;rw[this];refine⟨rfl,rfl,?_⟩;have hs:=Kn ha.sm hb.sm;rw[e1,e2]at hs;exact hs
theorem Vl.sub{u v:Nat}{a b:ByteArray}{r s:Rat}(ha:Vl u a r)(hb:Vl v b s)(h:u+v≤60):(wB a b).2=0∧Vl (u+v) (wB a b).1 (r-s):=by
 have hb1:=xI h;have e1:u*EE+v*EE=(u+v)*EE:=(Nat.add_mul _ _ _).symm;have e2:EE^u*EE^v=EE^(u+v):=(Nat.pow_add _ _ _).symm;have:=T5 ha.sm hb.sm (by rw[e1,e2];exact hb1.1) (by rw[e2];exact hb1.2) (ha.small (by omega)) (hb.small (by omega));rw[←ha.eq,←hb.eq]at this;rw[this];refine⟨rfl,rfl,?_⟩;have hs:=Kn ha.sm (Qy hb.sm);rw[e1,e2,←Rat.sub_eq_add_neg]at hs;exact hs
theorem Vl.int{n:Int}(h:n.natAbs≤EE):Vl 1 (zed n) (n:Rat):=⟨(Cp n).symm,by rw[Nat.one_mul,Nat.pow_one];exact Gm (SQ h) (Nat.le_refl _) PH⟩
theorem WY{n:Int}(h:n.natAbs≤9223372036854775808):n.natAbs≤EE:=Nat.le_trans h (by decide)
theorem Vl.text{s:ByteArray}(hr:cE s=true)(hs:s.size≤60):Vl 1 s (gR s):=⟨(Dt hr).symm,by rw[Nat.one_mul,Nat.pow_one];exact UR hr hs⟩
theorem Vl.addV{u:Nat}{a:ByteArray}{r:Rat}{n:Int}(ha:Vl u a r)(hn:n.natAbs≤9223372036854775808)(h:u+1≤60):Vl (u+1) (addV a n) (r+(n:Rat)):=(ha.add (Vl.int (WY hn)) h).2
theorem wT{a b:ByteArray}(ha:cE a=true)(hb:cE b=true):¬sY a b<0↔gR b≤gR a:=by
 unfold sY OU;rw[ha,hb,Bool.and_self,if_pos rfl];split
 · next h=>exact⟨fun h2=>absurd (by decide) h2,fun h2=>absurd h (Rat.not_lt.2 h2)⟩
 · next h=>
   refine⟨fun _=>Rat.not_lt.1 h,fun _=>?_⟩;split <;> decide
theorem MW{a b:ByteArray}(ha:cE a=true)(hb:cE b=true):sY a b≤0↔gR a≤gR b:=by
 unfold sY OU;rw[ha,hb,Bool.and_self,if_pos rfl];split
 · next h=>exact⟨fun _=>Rat.le_of_lt h,fun _=>by decide⟩
 · next h=>
   split
   · next h2=>exact⟨fun h3=>absurd h3 (by decide),fun h3=>absurd h2 (Rat.not_lt.2 h3)⟩
   · next h2=>exact⟨fun _=>Rat.not_lt.1 h2,fun _=>by decide⟩
end Go.Proofs.YtdlijlecpopadaaGreatDoor.Rx
end
section
namespace Go.Proofs.YtdlijlecpopadaaGreatDoor.Rx
open Go.Aw Go.Aw.D Go.Proofs Ty
open Sq
open Go.Nu
def V0(s:Rs)(q:RP):List ByteArray:=
 if((q.visits:Int) == 0||(q.board:Int) != 0)=true then[]
 else if(jA s.x.net s.t q.place s.t.dst s.t.close q.moms).1.length=0 then[]
 else[(wB (zed (WU s.t q (VE (jA s.x.net s.t q.place s.t.dst s.t.close q.moms).1) (jA s.x.net s.t q.place s.t.dst s.t.close q.moms).2)) q.dual).1]
def jU(w:Wk)(p:Part):List ByteArray:=if(iB w p).2.2=true then[mM w p (iB w p).1 (iB w p).2.1]else[]
def mK(w:Wk)(vs:List Visit):Nat→Part→List ByteArray
 | 0,p=>jU w p
 | f+1,p=>jU w p++vs.flatMap fun v=>if(bX w p v).2=true then mK w vs f (bX w p v).1 else[]
theorem Cf{a:Int}{k:Nat}{n:Int}(ha: -1≤a)(hn:0≤n∧n≤1000):uO a k n=n+eM a k∧0≤eM a k∧eM a k≤1:=by
 unfold uO eM;by_cases h1:a= -1
 · subst h1
   rw[if_neg (by simp),if_neg (by simp)];omega
 · by_cases h2:a=(k:Int)
   · rw[if_neg (by simp[h2]),if_neg (by simp[h2])]
     omega
   · have h3:a≥0:=by omega
     rw[if_pos (by simp[h2,h3]),if_pos (by simp[h1,h2]),bU (by omega)];omega
structure DuB(n:Nat)(du:Option (List ByteArray))(dl:List ByteArray):Prop where
 len:dl.length=n
 some:∀l,du=some l→l=dl
 none:du=none→∀a∈dl,a=dec 0
 right:∀a∈dl,Vl 1 a (gR a)
theorem DuB.at{n:Nat}{du:Option (List ByteArray)}{dl:List ByteArray}(h:DuB n du dl){o:Nat}(ho:o<n):dl.getD o ByteArray.empty∈dl:=by
 rw[List.getD,List.getElem?_eq_getElem (by rw[h.len];exact ho)];exact List.getElem_mem _
theorem Sn:dec 0=lH 0:=by
 have h1:=Cp 0;rw[show zed 0=dec 0 from fM 0]at h1;exact h1.symm
theorem vE:Vl 0 (dec 0) 0:=⟨Sn,U0 (Nat.le_of_eq (Nat.pow_zero _).symm)⟩
theorem Gt:gR (dec 0)=0:=vE.val
structure Val(x:Instance)(k:Nat)(p:Part)(q:RP)(v d:Rat):Prop where
 own:Vl (3*q.visits+1) p.value v
 ref:Vl (q.visits+1) q.dual d
 eq:v=((((aE x k).perMile*q.miles)*16777216+(q.moved*16+q.other)*65536:Int):Rat)-d
 miles:0≤q.miles∧q.miles≤10000*(q.visits:Int)
 moved:0≤q.moved∧q.moved≤(q.visits:Int)
 other:0≤q.other∧q.other≤(q.visits:Int)
section
variable{x:Instance}{k:Nat}{near:List Int}{du:Option (List ByteArray)}{dl:List ByteArray}{M:Nat}{cn:Int}{lim fnd:Bool}{le:ByteArray}{p p':Part}{q q':RP}{o:Nat}{dr:Bool}{v d:Rat}{miles:Int}
theorem xM{a b:Int}(ha:0≤a∧a≤100){c:Int}(hb:0≤b∧b≤c):0≤a*b∧a*b≤100*c:=⟨Int.mul_nonneg ha.1 hb.1,Int.mul_le_mul ha.2 hb.2 hb.1 (by decide)⟩
theorem OS(h:Ctx x k near)(hd:DuB x.orders.length du dl)(ho:o<x.orders.length)(hv:Val x k p q v d)(h16:q.visits≤15)(a:Adds x k dl p p' q q' o dr (pE x k near du p q o dr).value miles):
   ∃vb db,Vl (3*q.visits+3) (pE x k near du p q o dr).value vb∧Vl (q.visits+2) q'.dual db∧vb=((((aE x k).perMile*q.miles)*16777216+(q'.moved*16+q'.other)*65536:Int):Rat)-db ∧
     (0≤q'.moved∧q'.moved≤(q.visits:Int)+1)∧(0≤q'.other∧q'.other≤(q.visits:Int)+1):=by
 have hm:=hv.moved;have ho2:=hv.other;have hO:=h.led _ (kL ho);have hD:=hd.at ho;have hDr:=hd.right _ hD;have a1:=a.dual;have a2:=a.moved;have a3:=a.other;unfold pE;simp only;cases hs:cM (aG x o) dr with
 | false=>
   rw[hs]at a1 a2 a3;simp only[Bool.false_eq_true,if_false]at a1 a2 a3 ⊢;rw[a1,a2,a3];exact⟨v,d,hv.own.mono (by omega),hv.ref.mono (by omega),hv.eq,by omega,by omega⟩
 | true=>
   rw[hs]at a1 a2 a3;simp only[if_true]at a1 a2 a3 ⊢;obtain⟨m1,m2⟩:=Cf (k:=k) hO.2 (show 0≤q.moved∧q.moved≤1000 by omega);obtain⟨m3,m4⟩:=Cf (k:=k) hO.1 (show 0≤q.other∧q.other≤1000 by omega);rw[m1]at a2;rw[m3]at a3;rw[a1,a2,a3];have e:=hv.eq;generalize eM (aG x o).now k=dn at *;generalize eM (aG x o).last k=dl2 at *;have hT:=hDr;have w1:=hv.own.addV (n:=(dn*16+dl2)*65536) (by omega) (by omega);have w2:=(hv.ref.add hT (by omega)).2;have hnone:du=none→dl.getD o ByteArray.empty=dec 0:=fun e=>hd.none e _ hD
   have hsome:=hd.some;generalize hDD:dl.getD o ByteArray.empty=D at *;have key:Vl (3*q.visits+1+1+1) (wF (addV p.value ((dn*16+dl2)*65536)) o du) (v+(((dn*16+dl2)*65536:Int):Rat)-gR D):=by
     cases du with
     | none=>
       rw[hnone rfl,Gt,Rat.sub_eq_add_neg,Rat.neg_zero,Rat.add_zero];exact w1.mono (by omega)
     | some l=>
       have hl:=hsome l rfl;subst hl;show Vl _ (wB (addV p.value ((dn*16+dl2)*65536)) (l.getD o ByteArray.empty)).1 _;rw[hDD];exact(w1.sub hT (by omega)).2
   refine⟨_,_,key.mono (by omega),w2.mono (by omega),?_,by omega,by omega⟩;generalize gR D=rD at *;generalize (aE x k).perMile*q.miles=PM at *;have e2:PM*16777216+((q.moved+dn)*16+(q.other+dl2))*65536=(PM*16777216+(q.moved*16+q.other)*65536)+(dn*16+dl2)*65536:=by omega
   rw[e2];generalize PM*16777216+(q.moved*16+q.other)*65536=z at *;generalize (dn*16+dl2)*65536=y at *
   grind
theorem QE(h:Ctx x k near)(hd:DuB x.orders.length du dl)(ho:o<x.orders.length)(hv:Val x k p q v d)(h16:q.visits≤15)(hq:q'.visits=q.visits+1)(a:Adds x k dl p p' q q' o dr (pE x k near du p q o dr).value miles):
   ∃v' d',Val x k p' q' v' d':=by
 obtain⟨vb,db,b1,b2,b3,b4,b5⟩:=OS h hd ho hv h16 a;have hp:=h.money.2.1;have hr:=a.rng;have hm:=hv.miles;have hbx:=xM hp hr;have a1:=a.value;have a2:=a.miles;rw[bU (by omega)]at a2;have e1:W ((aE x k).perMile*miles)=(aE x k).perMile*miles:=bU (by omega);have e3:=Int.mul_add (aE x k).perMile q.miles miles;rw[e1]at a1;rw[←a2]at e3;generalize (aE x k).perMile*q.miles=PM at *;generalize hpm:(aE x k).perMile*miles=pm at *;have e2:W (pm*16777216)=pm*16777216:=bU (by omega);rw[e2]at a1;have w:=b1.addV (n:=pm*16777216) (by omega) (by omega);rw[←a1]at w;refine⟨_,db,w.mono (by omega),b2.mono (by omega),?_,by omega,by omega,by omega⟩;rw[e3,b3];have e4:(PM+pm)*16777216+(q'.moved*16+q'.other)*65536=(PM*16777216+(q'.moved*16+q'.other)*65536)+pm*16777216:=by omega
 rw[e4];generalize PM*16777216+(q'.moved*16+q'.other)*65536=z at *;generalize pm*16777216=y at *
 grind
end
end Go.Proofs.YtdlijlecpopadaaGreatDoor.Rx
end
section
namespace Go.Proofs.YtdlijlecpopadaaGreatDoor.Rx
open Go.Aw Go.Aw.D Go.Proofs Ty
open Sq
open Go.Nu
theorem Wu{n:Int}(h: -4096≤n∧n≤4096): -64≤Int.tdiv n 64∧Int.tdiv n 64≤64:=by
 by_cases h0:0≤n
 · rw[Int.tdiv_eq_ediv_of_nonneg h0];omega
 · have e:Int.tdiv n 64= -(Int.tdiv (-n) 64):=by rw[Int.neg_tdiv];omega
   rw[e,Int.tdiv_eq_ediv_of_nonneg (by omega)];omega
theorem Wc{n:Int}(h: -64≤n∧n≤64):0≤n*n∧n*n≤4096:=by
 have e:n*n=((n.natAbs*n.natAbs:Nat):Int):=by rw[Int.natCast_mul,Int.natAbs_mul_self']
 have:=Nat.mul_le_mul (show n.natAbs≤64 by omega) (show n.natAbs≤64 by omega);rw[e];omega
def sqW(e s:Int):Int:=Int.tdiv (e-s) 64*Int.tdiv (e-s) 64
section
variable{x:Instance}{k:Nat}{near:List Int}{du:Option (List ByteArray)}{dl:List ByteArray}{M:Nat}{cn:Int}{lim fnd:Bool}{le:ByteArray}{p p':Part}{q q':RP}{o:Nat}{dr:Bool}{v d:Rat}{miles:Int}
theorem zJ(h:Ctx x k near){n:Nat}(hn:n≤50)(hv:Vl n p.value v){e m:Int}(he:0≤e∧e≤4096)(hm:0≤m∧m≤10000):
   Vl (n+1) (mM (wOf x k near du M) p e m) (v+(((((aE x k).fixed+(aE x k).perMile*m)+(aE x k).perTick*(e-(aE x k).start))*16777216+sqW e (aE x k).start:Int):Rat)):=by
 have hT:=h.ty;have h1:=hT.start;have h2:=hT.close;obtain⟨f1,f2,f3⟩:=h.money;have b1:=xM f2 hm;have hw: -4096≤e-(aE x k).start∧e-(aE x k).start≤4096:=by omega
 have b2: -409600≤(aE x k).perTick*(e-(aE x k).start)∧(aE x k).perTick*(e-(aE x k).start)≤409600:=by
   by_cases h0:0≤e-(aE x k).start
   · have:=xM f3 (c:=4096) ⟨h0,hw.2⟩;omega
   · have:=xM f3 (b:= -(e-(aE x k).start)) (c:=4096) ⟨by omega,by omega⟩
     rw[Int.mul_neg]at this;omega
 have b3:=Wu hw;have b4:=Wc b3;unfold mM QU DS;show Vl (n+1) (addV p.value (W (W (W (W ((aE x k).fixed+W ((aE x k).perMile*m))+W ((aE x k).perTick*W (e-(aE x k).start)))*16777216)+W (W (Int.tdiv (W (e-(aE x k).start)) 64)*W (Int.tdiv (W (e-(aE x k).start)) 64))))) _;rw[bU (n:=e-(aE x k).start) (by omega)];unfold sqW;generalize (aE x k).perTick*(e-(aE x k).start)=pt at *;generalize (aE x k).perMile*m=pm at *;generalize Int.tdiv (e-(aE x k).start) 64=tt at *;rw[bU (n:=tt) (by omega)];generalize tt*tt=t2 at *;rw[bU (n:=pm) (by omega),bU (n:=pt) (by omega),bU (n:=t2) (by omega),bU (n:=(aE x k).fixed+pm) (by omega),bU (n:=(aE x k).fixed+pm+pt) (by omega),bU (n:=((aE x k).fixed+pm+pt)*16777216) (by omega),bU (n:=((aE x k).fixed+pm+pt)*16777216+t2) (by omega)];exact hv.addV (by omega) (by omega)
theorem Uj{O:Order}{i:Nat}{v:Visit}(h:v∈jH O (i:Nat)):∃d,v=⟨(i:Nat),d⟩∧(stR O d).place≥0:=by
 unfold jH at h;rcases List.mem_append.1 h with h|h
 · split at h
   · next hb=>exact⟨false,by simpa using h,by simpa[stR]using hb⟩
   · cases h
 · split at h
   · next hb=>exact⟨true,by simpa using h,by simpa[stR]using hb⟩
   · cases h
theorem Q3{w:Wk}{p:Part}{v:Visit}(h:((aG w.x v.order.toNat).off|| !mR w.t.skills (aG w.x v.order.toNat).skills)=true):(bX w p v).2=false:=by
 unfold bX;rw[if_pos (by rw[Bool.or_assoc,h,Bool.or_true])]
theorem Oi(h:Ctx x k near):Rel x (aE x k) (dY (wOf x k near du M)) (PN (aE x k) (aE x k).cap.length)∧Val x k (dY (wOf x k near du M)) (PN (aE x k) (aE x k).cap.length) 0 0:=by
 have hT:=h.ty;have h1:=hT.start;have h2:=hT.close;refine⟨⟨rfl,rfl,rfl,rfl,rfl,?_,Nat.two_pow_pos _,⟨[⟨(aE x k).start,0⟩],⟨?_,?_,?_⟩,rfl⟩⟩,⟨vE.mono (by omega),vE.mono (by omega),?_,?_,?_,?_⟩⟩
 · show(List.replicate (aE x k).cap.length (0:Int)).length=A3 x
   rw[List.length_replicate,GN h.acc h.kind]
 · intro c hc
   have:c=⟨(aE x k).start,0⟩:=List.mem_singleton.1 hc;rw[this];exact List.mem_singleton.2 rfl
 · intro m hm
   rw[List.mem_singleton.1 hm];exact⟨⟨(aE x k).start,0⟩,List.mem_singleton.2 rfl,rfl,Int.le_refl _⟩
 · intro m hm
   rw[List.mem_singleton.1 hm];refine⟨⟨h1.1,by show(aE x k).start≤8192;omega⟩,?_,by show(0:Int)≤4096;decide⟩;show -(12288*((0:Nat):Int))≤0;omega
 · show(0:Rat)=(((aE x k).perMile*0*16777216+(0*16+0)*65536:Int):Rat)-0
   rw[Int.mul_zero];grind
 · exact⟨Int.le_refl 0,by show(0:Int)≤10000*((0:Nat):Int);omega⟩
 · exact⟨Int.le_refl 0,by show(0:Int)≤((0:Nat):Int);omega⟩
 · exact⟨Int.le_refl 0,by show(0:Int)≤((0:Nat):Int);omega⟩
end
end Go.Proofs.YtdlijlecpopadaaGreatDoor.Rx
end
section
namespace Go.Proofs.YtdlijlecpopadaaGreatDoor.Rx
open Go.Aw Go.Aw.D Go.Proofs Ty
open Sq
open Go.Nu
structure Cap(n:Int)(t:Nat)(r:Int):Prop where
 lo:n≤r
 hi:r≤n+t
 eq:n+t≤8192→r=n+t
 gt:n+t>8192→r>8192
theorem Same.leaf{w a:Rs}(h:Same w a)(q:RP):V0 a q=V0 w q:=by
 obtain⟨c,f,l,rfl⟩:=h.ex;rfl
theorem Gr{x:Instance}(hn:x.orders.length≤3):(cQ x).length≤6:=by
 have:=yW x x.orders.length;unfold cQ;omega
end Go.Proofs.YtdlijlecpopadaaGreatDoor.Rx
end
section
namespace Go.Proofs.YtdlijlecpopadaaGreatDoor.Rx
open Go.Aw Go.Aw.D Go.Proofs Ty
open Sq
open Go.Nu
structure Min(l:List ByteArray)(found:Bool)(best:ByteArray):Prop where
 no:found=false→l=[]∧best=ByteArray.empty
 yes:found=true→best∈l∧∀r∈l,¬sY r best<0
def AY(l:List ByteArray):Prop:=∀a∈l,cE a=true
section
variable{x:Instance}{k:Nat}{near:List Int}{du:Option (List ByteArray)}{dl:List ByteArray}{M:Nat}{cn:Int}{lim fnd:Bool}{le:ByteArray}{p p':Part}{q q':RP}{o:Nat}{dr:Bool}{v d:Rat}{miles:Int}
def Ok(x:Instance)(k:Nat)(M:Nat)(p:Part):Prop:=∃q,Rel x (aE x k) p q∧(∃v d,Val x k p q v d)∧q.visits≤M
theorem Bz(h:Ctx x k near):Ok x k M (dY (wOf x k near du M)):=by
 obtain⟨r,v⟩:=Oi (du:=du) (M:=M) h;exact⟨_,r,⟨_,_,v⟩,Nat.zero_le _⟩
def Vis(x:Instance)(v:Visit):Prop:=∃i d,v=⟨(i:Nat),d⟩∧i<x.orders.length∧(stR (aG x i) d).place≥0∧(aG x i).off=false
theorem sK{v:Visit}(hv:v∈cQ x):Vis x v:=by
 unfold cQ at hv;obtain⟨i,hi,hv⟩:=List.mem_flatMap.1 hv;have hi:=List.mem_range.1 hi;split at hv
 · cases hv
 · next ho=>
   rw[VJ hi]at hv;obtain⟨d,e,hp⟩:=Uj hv;exact⟨i,d,e,hi,hp,by simpa using ho⟩
theorem Aq{w:Wk}{p:Part}{v:Visit}(h:(bX w p v).2=true):mR w.t.skills (aG w.x v.order.toNat).skills=true∧p.visits<w.most:=by
 refine⟨?_,?_⟩
 · rw[←Bool.not_eq_false]
   intro e;rw[Q3 (by rw[e];simp)]at h;cases h
 · rcases Nat.lt_or_ge p.visits w.most with h1|h1
   · exact h1
   · rw[GW h1]at h;cases h
theorem MC(h:Ctx x k near)(hd:DuB x.orders.length du dl)(hM:M≤15)(hp:Ok x k M p){u:Visit}(hu:Vis x u)(hn:(bX (wOf x k near du M) p u).2=true):
   Ok x k M (bX (wOf x k near du M) p u).1∧(bX (wOf x k near du M) p u).1.visits=p.visits+1:=by
 obtain⟨q,r,⟨v,d,hv⟩,hq⟩:=hp;obtain⟨i,dr,rfl,hi,hpl,hof⟩:=hu;obtain⟨ha,hl⟩:=Aq hn;have ha:mR (aE x k).skills (aG x ((i:Nat):Int).toNat).skills=true:=ha;have hl:p.visits<M:=hl;rw[Int.toNat_natCast,zG h.ty.skills (h.acc.order _ (kL hi)).skills]at ha;obtain⟨n1,n2⟩:=Rl (near:=near) (du:=du) (dl:=dl) (M:=M) (cn:=0) (lim:=false) (fnd:=false) (le:=ByteArray.empty) h r hi hpl hof ha hl (by omega);obtain⟨r',v1,miles,a⟩:=n2 hn;have hv0:=r.visits;have hqv:(BU (sOf x k near dl M 0 false false ByteArray.empty) q i dr).1.visits=q.visits+1:=by rw[←r'.visits,v1,r.visits]
 exact⟨⟨_,r',QE h hd hi hv (by omega) hqv a,by omega⟩,v1⟩
theorem CV(h:Ctx x k near)(hM:M≤15)(hp:Ok x k M p)(he:(iB (wOf x k near du M) p).2.2=true):∃v m,Vl (3*p.visits+1) p.value v∧(0≤(iB (wOf x k near du M) p).1∧(iB (wOf x k near du M) p).1≤4096)∧m=(iB (wOf x k near du M) p).2.1∧m=mil x.net (aE x k) p.place (aE x k).dst∧(0≤m∧m≤10000):=by
 obtain⟨q,r,⟨v,d,hv⟩,hq⟩:=hp;obtain⟨R,hR,hq2⟩:=r.clk;have hT:=h.ty;have hpv:=r.visits;obtain⟨c1,c2⟩:=TF (place:=p.place) (goal:=(aE x k).dst) (fun a ha=>h.acc.arc a ha) hT.rest (show p.visits≤16 by omega) hR (aE x k).close;have hra:∀a∈(jA x.net (aE x k) p.place (aE x k).dst (aE x k).close (dG (aE x k) R)).1,0≤a.time∧a.time≤4096:=fun a hm=>by
   rw[(zB _ _ _ _ _ _).1]at hm;obtain⟨g1,g2,_⟩:=LS (fun a ha=>h.acc.arc a ha) hT.rest (show p.visits≤16 by omega) hR hm;have:=hT.close;omega
 have hmi:(jA x.net (aE x k) p.place (aE x k).dst (aE x k).close (dG (aE x k) R)).1≠[]→(jA x.net (aE x k) p.place (aE x k).dst (aE x k).close (dG (aE x k) R)).2=mil x.net (aE x k) p.place (aE x k).dst:=fun hne=>(zB _ _ _ _ _ _).2 hne
 have eE:iB (wOf x k near du M) p=if((p.visits:Int) == 0||(p.board:Int) != 0)=true then(0,0,false)
   else((bF x.net (aE x k) p.place (aE x k).dst p.clocks).1.foldl (kZ (aE x k).close) (-1),(bF x.net (aE x k) p.place (aE x k).dst p.clocks).2,decide ((bF x.net (aE x k) p.place (aE x k).dst p.clocks).1.foldl (kZ (aE x k).close) (-1)≥0)):=rfl
 rw[eE]at he ⊢;by_cases hb:((p.visits:Int) == 0||(p.board:Int) != 0)=true
 · rw[if_pos hb]at he;cases he
 rw[if_neg hb]at he ⊢;have hA:=c1.1 (of_decide_eq_true he);obtain⟨c3,c4⟩:=c2 hA;obtain⟨⟨a,ha,hae⟩,_⟩:=DZ hA;have hh:=hra a ha;rw[hae,←c3]at hh;have hmr:=Fu h.mil (aE x k) p.place (aE x k).dst;refine⟨v,_,by rw[hpv];exact hv.own,hh,rfl,?_,?_⟩
 · show(bF x.net (aE x k) p.place (aE x k).dst p.clocks).2=_
   rw[c4,hmi hA]
 · show 0≤(bF x.net (aE x k) p.place (aE x k).dst p.clocks).2∧(bF x.net (aE x k) p.place (aE x k).dst p.clocks).2≤_
   rw[c4,hmi hA];exact hmr
theorem Ca(h:Ctx x k near)(hM:M≤15)(hp:Ok x k M p):AY (jU (wOf x k near du M) p):=by
 intro a ha;unfold jU at ha;split at ha
 · next he=>
   obtain⟨v,m,h1,h2,h3,h4,h5⟩:=CV h hM hp he;obtain⟨q,r,_,hq⟩:=hp;have hpv:=r.visits;rw[List.mem_singleton.1 ha,←h3];exact(zJ h (by omega) h1 h2 h5).right (by omega)
 · cases ha
theorem Aa(h:Ctx x k near)(hd:DuB x.orders.length du dl)(hM:M≤15):∀(f:Nat) (p:Part),Ok x k M p→AY (mK (wOf x k near du M) (cQ x) f p)
 | 0,p,hp=>Ca h hM hp
 | f+1,p,hp=>by
   intro a ha;rcases List.mem_append.1 (show a∈jU (wOf x k near du M) p++(cQ x).flatMap fun v=>if(bX (wOf x k near du M) p v).2=true then mK (wOf x k near du M) (cQ x) f (bX (wOf x k near du M) p v).1 else[]from ha)with ha|ha
   · exact Ca h hM hp a ha
   · obtain⟨v,hv,ha⟩:=List.mem_flatMap.1 ha
     split at ha
     · next hn=>exact Aa h hd hM f _ (MC h hd hM hp (sK hv) hn).1 a ha
     · cases ha
end
end Go.Proofs.YtdlijlecpopadaaGreatDoor.Rx
end
