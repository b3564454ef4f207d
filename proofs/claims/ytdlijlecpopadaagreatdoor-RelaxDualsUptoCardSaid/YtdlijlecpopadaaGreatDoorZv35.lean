/- Texts joined by a program: RyH, RyD, RyI, RyJ, RyL, CuR, CuU. -/
import Derived.Lib.LaidIn
import Derived.MakeChecks
import Derived.Stop.LaidErr
import Derived.Test.YtdlijlecpopadaaGreatDoorZv34
set_option linter.unusedSimpArgs false
set_option linter.unusedVariables false
set_option maxRecDepth 100000
section
namespace Go.Proofs.YtdlijlecpopadaaGreatDoor.Rx
open Go.Aw Go.Aw.D Go.Proofs Ty
open Sq
open Go.Nu
section
variable{x:Instance}{k:Nat}{near near':List Int}{du du':Option (List ByteArray)}{dl dl':List ByteArray}{M:Nat}{cn:Int}{lim fnd:Bool}{le:ByteArray}{p q:Part}{a b:RP}{o:Nat}{dr:Bool}{v d:Rat}{miles:Int}{fl:Bool}
theorem Good.num(g:Good x k M p)(hM:M≤15):cE p.value=true:=by
 obtain⟨a,ra,⟨va,da,hva⟩,hqa⟩:=g.ok;exact hva.own.right (by omega)
theorem NV(h:Ctx x k near)(hM:M≤15)(gp:Good x k M p)(gq:Good x k M q)(h0:0<p.visits)(hb:qP p q=true):Dom true p q:=by
 have np:=gp.num hM;have nq:=gq.num hM;obtain⟨a,ra,_,hqa⟩:=gp.ok;obtain⟨b,rb,_,hqb⟩:=gq.ok;unfold qP at hb;split at hb
 · cases hb
 next hc=>
 simp only[Bool.or_eq_true,not_or,bne_iff_ne,ne_eq,Decidable.not_not,Bool.not_eq_true',Bool.not_eq_false,decide_eq_true_eq]at hc;obtain⟨⟨⟨⟨⟨c1,c2⟩,c3⟩,c4⟩,c5⟩,c6⟩:=hc;have hl:p.load.length=q.load.length:=by rw[ra.load,rb.load,ra.ll,rb.ll]
 refine⟨c1,by omega,fun i hi=>?_,by omega,fun _=>h0,hl,fun i=>?_,fun _=>?_,fun e he=>?_⟩
 · have c3:p.memory &&& q.memory=p.memory:=by simpa using c3
   rw[←c3,Nat.testBit_and,Bool.and_eq_true]at hi;exact hi.2
 · have c5:gK p.load q.load=true:=by simpa using c5
   rw[vY hl]at c5;unfold oI at c5;rw[List.all_eq_true]at c5;by_cases hi:i<p.load.length
   · have:=c5 i (List.mem_range.2 hi)
     simp only[Bool.not_eq_true',decide_eq_false_iff_not]at this;omega
   · rw[List.getD,List.getD,List.getElem?_eq_none (by omega),List.getElem?_eq_none (by omega)]
     exact Int.le_refl _
 · rw[←MW np nq];omega
 · obtain⟨c,hc,hcb⟩:=List.any_eq_true.1 (List.all_eq_true.1 hb e he)
   have:=nA.1 hcb;exact⟨c,hc,this.1,this.2⟩
def Sub(w:Wk)(T:List ByteArray)(p:Part):Prop:=∀r∈mK w (cQ w.x) (w.most-p.visits) p,r∈T
theorem vL{w:Wk}{vs:List Visit}{f:Nat}{r:ByteArray}(h:r∈jU w p):r∈mK w vs f p:=by
 cases f with
 | zero=>exact h
 | succ f=>exact List.mem_append_left _ h
structure SInv(x:Instance)(k:Nat)(near:List Int)(du:Option (List ByteArray))(M:Nat)(T:List ByteArray)(s:Srch):Prop where
 kn:∀u∈s.known,Good x k M u∧0<u.visits∧Sub (wOf x k near du M) T u
 mem:s.found=true→s.best∈T
 no:s.found=false→s.best=ByteArray.empty
 min:∀u∈s.known,∀r∈jU (wOf x k near du M) u,s.found=true∧¬sY r s.best<0
structure SExt(x:Instance)(k:Nat)(near:List Int)(du:Option (List ByteArray))(M:Nat)(T:List ByteArray)(r:Nat)(s t:Srch):Prop where
 kn:∀u∈s.known,u∈t.known
 mo:∀u∈s.more,u∈t.more
 nw:∀u∈t.known,u∈s.known∨u∈t.more
 nm:∀u∈t.more,u∈s.more∨(Good x k M u∧Sub (wOf x k near du M) T u∧u.visits=r+1)
theorem SExt.refl{T:List ByteArray}{r:Nat}(s:Srch):SExt x k near du M T r s s:=⟨fun _ h=>h,fun _ h=>h,fun _ h=>.inl h,fun _ h=>.inl h⟩
theorem SExt.trans{T:List ByteArray}{r:Nat}{s t u:Srch}(h:SExt x k near du M T r s t)(g:SExt x k near du M T r t u):SExt x k near du M T r s u:=
 ⟨fun a ha=>g.kn a (h.kn a ha),fun a ha=>g.mo a (h.mo a ha),fun a ha=>by
   rcases g.nw a ha with ha|ha
   · rcases h.nw a ha with ha|ha
     · exact .inl ha
     · exact .inr (g.mo a ha)
   · exact .inr ha,fun a ha=>by
   rcases g.nm a ha with ha|ha
   · exact h.nm a ha
   · exact .inr ha⟩
theorem P9{T:List ByteArray}{w:Wk}{u:Visit}(hu:u∈cQ w.x)(h:Sub w T p)(hn:(bX w p u).2=true)(hv:(bX w p u).1.visits=p.visits+1)(hm:p.visits<w.most):Sub w T (bX w p u).1:=by
 intro r hr;refine h r ?_;have e:w.most-p.visits=(w.most-(bX w p u).1.visits)+1:=by omega
 rw[e];exact List.mem_append_right _ (List.mem_flatMap.2 ⟨u,hu,by rw[if_pos hn];exact hr⟩)
theorem UY(h:Ctx x k near)(hM:M≤15){T:List ByteArray}(hT:AY T){s:Srch}(hi:SInv x k near du M T s)(gq:Good x k M q)(h0:0<q.visits)(hs:Sub (wOf x k near du M) T q):
   SInv x k near du M T (xA (wOf x k near du M) s q):=by
 have hlf:jU (wOf x k near du M) q=if(iB (wOf x k near du M) q).2.2=true then[mM (wOf x k near du M) q (iB (wOf x k near du M) q).1 (iB (wOf x k near du M) q).2.1]else[]:=rfl;have hsub:∀r∈jU (wOf x k near du M) q,r∈T:=fun r hr=>hs r (vL hr)
 have hk:∀u∈s.known++[q],Good x k M u∧0<u.visits∧Sub (wOf x k near du M) T u:=fun u hu=>by
   rcases List.mem_append.1 hu with hu|hu
   · exact hi.kn u hu
   · rw[List.mem_singleton.1 hu];exact⟨gq,h0,hs⟩
 have hT2:∀u∈s.known,∀r∈jU (wOf x k near du M) u,r∈T:=fun u hu r hr=>(hi.kn u hu).2.2 r (vL hr)
 unfold xA;simp only;generalize mM (wOf x k near du M) q (iB (wOf x k near du M) q).1 (iB (wOf x k near du M) q).2.1=pr at *;by_cases he:(iB (wOf x k near du M) q).2.2=true
 · rw[if_pos he]at hlf
   have hpT:pr∈T:=hsub pr (by rw[hlf];simp);rw[he,Bool.true_and];split
   · next hc=>
     refine⟨hk,fun _=>hpT,fun e=>(by cases e),fun u hu r hr=>⟨rfl,?_⟩⟩;show ¬sY r pr<0;rcases List.mem_append.1 hu with hu|hu
     · obtain⟨f1,f2⟩:=hi.min u hu r hr
       have hbT:=hi.mem f1;rw[f1]at hc;have hc:sY pr s.best<0:=by simpa using hc
       have hr2:=hT2 u hu r hr;rw[wT (hT _ hr2) (hT _ hpT)];have q1:=(wT (hT _ hr2) (hT _ hbT)).1 f2;have q2:¬gR s.best≤gR pr:=fun hx=>(wT (hT _ hpT) (hT _ hbT)).2 hx hc
       grind
     · rw[List.mem_singleton.1 hu,hlf]at hr
       rw[List.mem_singleton.1 hr,wT (hT _ hpT) (hT _ hpT)];exact Rat.le_refl
   · next hc=>
     simp only[Bool.or_eq_true,not_or,Bool.not_eq_true',decide_eq_true_eq]at hc;have hf:s.found=true:=by simpa using hc.1
     refine⟨hk,hi.mem,hi.no,fun u hu r hr=>?_⟩;rcases List.mem_append.1 hu with hu|hu
     · exact hi.min u hu r hr
     · rw[List.mem_singleton.1 hu,hlf]at hr
       rw[List.mem_singleton.1 hr];exact⟨hf,hc.2⟩
 · rw[if_neg he]at hlf
   have he:(iB (wOf x k near du M) q).2.2=false:=by simpa using he
   rw[he,Bool.false_and,if_neg (by simp)];refine⟨hk,hi.mem,hi.no,fun u hu r hr=>?_⟩;rcases List.mem_append.1 hu with hu|hu
   · exact hi.min u hu r hr
   · rw[List.mem_singleton.1 hu,hlf]at hr
     cases hr
theorem TC(h:Ctx x k near)(hd:DuB x.orders.length du dl)(hM:M≤15){T:List ByteArray}(hT:AY T){s:Srch}{r:Nat}(hi:SInv x k near du M T s)(gp:Good x k M p)(hs:Sub (wOf x k near du M) T p)(hr:p.visits=r){u:Visit}(hu:u∈cQ x):
   SInv x k near du M T (rF (wOf x k near du M) p s u)∧SExt x k near du M T r s (rF (wOf x k near du M) p s u) ∧
   ((bX (wOf x k near du M) p u).2=true→∃z∈(rF (wOf x k near du M) p s u).known,Dom true z (bX (wOf x k near du M) p u).1):=by
 by_cases hn:(bX (wOf x k near du M) p u).2=true
 case neg=>
   have hn2:(bX (wOf x k near du M) p u).2=false:=by simpa using hn
   have e:rF (wOf x k near du M) p s u=s:=by unfold rF;simp only[hn2,Bool.not_false,Bool.true_or,if_true]
   rw[e];exact⟨hi,.refl s,fun h=>absurd h hn⟩
 obtain⟨g1,v1⟩:=vX h hd hM gp (sK hu) hn;have s1:=P9 (w:=wOf x k near du M) hu hs hn v1 (Aq hn).2;unfold rF;simp only[hn,Bool.not_true,Bool.false_or];generalize (bX (wOf x k near du M) p u).1=z at *;by_cases hk:(s.known.any fun k=>qP k z)=true
 · rw[if_pos hk]
   refine⟨hi,.refl s,fun _=>?_⟩;obtain⟨y,hy,hb⟩:=List.any_eq_true.1 hk;obtain⟨y1,y2,_⟩:=hi.kn y hy;exact⟨y,hy,NV h hM y1 g1 y2 hb⟩
 · rw[if_neg hk]
   obtain⟨e1,e2,_⟩:=Cd (wOf x k near du M) s z;refine⟨UY h hM hT hi g1 (by omega) s1,⟨fun a ha=>by rw[e1];exact List.mem_append_left _ ha,fun a ha=>by rw[e2];exact List.mem_append_left _ ha,fun a ha=>?_,fun a ha=>?_⟩,fun _=>⟨z,by rw[e1];simp,.refl true z⟩⟩
   · rw[e1]at ha
     rcases List.mem_append.1 ha with ha|ha
     · exact .inl ha
     · rw[e2];exact .inr (List.mem_append_right _ ha)
   · rw[e2]at ha
     rcases List.mem_append.1 ha with ha|ha
     · exact .inl ha
     · rw[List.mem_singleton.1 ha];exact .inr ⟨g1,s1,by omega⟩
def ID(x:Instance)(k:Nat)(near:List Int)(du:Option (List ByteArray))(M:Nat)(s:Srch)(vs:List Visit)(p:Part):Prop:=
 ∀u∈vs,(bX (wOf x k near du M) p u).2=true→∃z∈s.known,Dom true z (bX (wOf x k near du M) p u).1
theorem ID.ext{T:List ByteArray}{r:Nat}{s t:Srch}{vs:List Visit}(h:ID x k near du M s vs p)(g:SExt x k near du M T r s t):ID x k near du M t vs p:=fun u hu hn=>by
 obtain⟨z,hz,D⟩:=h u hu hn;exact⟨z,g.kn z hz,D⟩
theorem Ka(h:Ctx x k near)(hd:DuB x.orders.length du dl)(hM:M≤15){T:List ByteArray}(hT:AY T){r:Nat}(gp:Good x k M p)(hs:Sub (wOf x k near du M) T p)(hr:p.visits=r):
   ∀(l:List Visit),(∀u∈l,u∈cQ x)→∀(s:Srch),SInv x k near du M T s →
     SInv x k near du M T (l.foldl (rF (wOf x k near du M) p) s)∧SExt x k near du M T r s (l.foldl (rF (wOf x k near du M) p) s)∧ID x k near du M (l.foldl (rF (wOf x k near du M) p) s) l p
 | [],_,s,hi=>⟨hi,.refl s,fun u hu=>by cases hu⟩
 | u::l,hl,s,hi=>by
   obtain⟨i1,e1,d1⟩:=TC h hd hM hT hi gp hs hr (hl u (by simp));obtain⟨i2,e2,d2⟩:=Ka h hd hM hT gp hs hr l (fun a ha=>hl a (by simp[ha])) _ i1;refine⟨i2,e1.trans e2,fun a ha hn=>?_⟩;rcases List.mem_cons.1 ha with rfl|ha
   · obtain⟨z,hz,D⟩:=d1 hn
     exact⟨z,e2.kn z hz,D⟩
   · exact d2 a ha hn
theorem Ee(h:Ctx x k near)(hd:DuB x.orders.length du dl)(hM:M≤15){T:List ByteArray}(hT:AY T){r:Nat}:
   ∀(l:List Part),(∀p∈l,Good x k M p∧Sub (wOf x k near du M) T p∧p.visits=r)→∀(s:Srch),SInv x k near du M T s →
     SInv x k near du M T (l.foldl (fun s p=>(cQ x).foldl (rF (wOf x k near du M) p) s) s)∧SExt x k near du M T r s (l.foldl (fun s p=>(cQ x).foldl (rF (wOf x k near du M) p) s) s) ∧
     ∀p∈l,ID x k near du M (l.foldl (fun s p=>(cQ x).foldl (rF (wOf x k near du M) p) s) s) (cQ x) p
 | [],_,s,hi=>⟨hi,.refl s,fun u hu=>by cases hu⟩
 | p::l,hl,s,hi=>by
   obtain⟨g,hs,hr⟩:=hl p (by simp);obtain⟨i1,e1,d1⟩:=Ka h hd hM hT g hs hr (cQ x) (fun _ hu=>hu) s hi;obtain⟨i2,e2,d2⟩:=Ee h hd hM hT l (fun a ha=>hl a (by simp[ha])) _ i1;refine⟨i2,e1.trans e2,fun a ha=>?_⟩;rcases List.mem_cons.1 ha with rfl|ha
   · exact d1.ext e2
   · exact d2 a ha
theorem BZ(h:Ctx x k near)(hd:DuB x.orders.length du dl)(hM:M≤15){T:List ByteArray}(hT:AY T){B:Part}:
   ∀(n r:Nat) (s:Srch) (fresh:List Part),r+n=M+1→SInv x k near du M T s→(∀p∈fresh,Good x k M p∧Sub (wOf x k near du M) T p∧p.visits=r) →
     (∀u,u∈s.known∨u=B→ID x k near du M s (cQ x) u∨u∈fresh) →
     SInv x k near du M T (iW (wOf x k near du M) (cQ x) n s fresh)∧∀u,u∈(iW (wOf x k near du M) (cQ x) n s fresh).known∨u=B→ID x k near du M (iW (wOf x k near du M) (cQ x) n s fresh) (cQ x) u
 | 0,r,s,fresh,hn,hi,hf,hc=>by
   refine⟨hi,fun u hu=>?_⟩;rcases hc u hu with hc|hc
   · exact hc
   · obtain⟨⟨q,rq,_,hq⟩,_⟩:=(hf u hc).1
     have:=rq.visits;have:=(hf u hc).2.2;omega
 | n+1,r,s,fresh,hn,hi,hf,hc=>by
   unfold iW;by_cases he:fresh=[]
   · rw[if_pos he]
     refine⟨hi,fun u hu=>?_⟩;rcases hc u hu with hc|hc
     · exact hc
     · rw[he]at hc;cases hc
   rw[if_neg he];have hi0:SInv x k near du M T { s with more:=[] }:=⟨hi.kn,hi.mem,hi.no,hi.min⟩;obtain⟨i1,e1,d1⟩:=Ee h hd hM hT fresh hf { s with more:=[] } hi0;have hR:xC (wOf x k near du M) (cQ x) s fresh=fresh.foldl (fun s p=>(cQ x).foldl (rF (wOf x k near du M) p) s) { s with more:=[] }:=rfl;rw[←hR]at i1 e1 d1;refine BZ h hd hM hT n (r+1) _ _ (by omega) i1 (fun p hp=>?_) (fun u hu=>?_)
   · rcases e1.nm p hp with hp|hp
     · cases hp
     · exact hp
   · have key : (u ∈ s.known ∨ u = B) ∨ u ∈ (xC (wOf x k near du M) (cQ x) s fresh).more := by
       rcases hu with hu|hu
       · rcases e1.nw u hu with hu|hu
         · exact .inl (.inl hu)
         · exact .inr hu
       · exact .inl (.inr hu)
     rcases key with hk|hk
     · rcases hc u hk with hc|hc
       · refine .inl fun a ha hn=>?_
         obtain⟨z,hz,D⟩:=hc a ha hn;exact⟨z,e1.kn z hz,D⟩
       · exact .inl (d1 u hc)
     · exact .inr hk
theorem P0(h:Ctx x k near)(hd:DuB x.orders.length du dl)(hM:M≤15){T:List ByteArray}(hT:AY T){s:Srch}{B:Part}(hB:Good x k M B)(hB0:B.visits=0)(hi:SInv x k near du M T s)(hc:∀u,u∈s.known∨u=B→ID x k near du M s (cQ x) u):
   ∀(f:Nat) (q:Part),Good x k M q→(∀r∈mK (wOf x k near du M) (cQ x) f q,r∈T)→∀u,u∈s.known∨u=B→Dom true u q→∀r∈mK (wOf x k near du M) (cQ x) f q,s.found=true∧¬sY r s.best<0:=by
 have leaf:∀(q:Part),Good x k M q→(∀r∈jU (wOf x k near du M) q,r∈T)→∀u,u∈s.known∨u=B→Dom true u q→∀r∈jU (wOf x k near du M) q,s.found=true∧¬sY r s.best<0:=by
   intro q gq hqT u hu D r hr;have gu:Good x k M u:=by
     rcases hu with hu|rfl
     · exact(hi.kn u hu).1
     · exact hB
   obtain⟨r',h1,h2⟩:=(Ah (du:=du) (du':=du) h h hM gu gq D).2 rfl r hr;have huk:u∈s.known:=by
     rcases hu with hu|rfl
     · exact hu
     · exfalso
       unfold jU at h1;have:(iB (wOf x k near du M) u).2.2=false:=by
         unfold iB;rw[if_pos (by rw[hB0];rfl)]
       rw[this]at h1;simp at h1
   obtain⟨f1,f2⟩:=hi.min u huk r' h1;refine⟨f1,?_⟩;have hbT:=hi.mem f1;have hrT:=hqT r hr;have hr'T:=(hi.kn u huk).2.2 r' (vL h1);rw[wT (hT _ hrT) (hT _ hbT)];exact Rat.le_trans ((wT (hT _ hr'T) (hT _ hbT)).1 f2) h2
 intro f;induction f with
 | zero=>exact leaf
 | succ f ih=>
   intro q gq hqT u hu D r hr;have hqT1:∀r∈jU (wOf x k near du M) q,r∈T:=fun r hr=>hqT r (vL hr)
   rcases List.mem_append.1 (show r∈jU (wOf x k near du M) q++(cQ x).flatMap fun v=>if(bX (wOf x k near du M) q v).2=true then mK (wOf x k near du M) (cQ x) f (bX (wOf x k near du M) q v).1 else[]from hr)with hr|hr
   · exact leaf q gq hqT1 u hu D r hr
   · obtain⟨a,ha,hr⟩:=List.mem_flatMap.1 hr
     split at hr
     · next hn=>
       have gu:Good x k M u:=by
         rcases hu with hu|rfl
         · exact(hi.kn u hu).1
         · exact hB
       obtain⟨n1,D1⟩:=Iy h h hd hd hM (fun _ _ _ h=>h) (fun _ _ _=>Rat.le_refl) gu gq D (sK ha) hn;obtain⟨z,hz,D2⟩:=hc u hu a ha n1;refine ih _ (vX h hd hM gq (sK ha) hn).1 (fun r hr=>hqT r (List.mem_append_right _ (List.mem_flatMap.2 ⟨a,ha,by rw[if_pos hn];exact hr⟩))) z (.inl hz) (D2.trans D1) r hr
     · cases hr
theorem UT(h:Ctx x k near)(hd:DuB x.orders.length du dl)(hM:M≤15):
   Min (mK (wOf x k near du M) (cQ x) M (dY (wOf x k near du M))) (iW (wOf x k near du M) (cQ x) (M+1) ⟨[],[],emp,false⟩ [dY (wOf x k near du M)]).found (iW (wOf x k near du M) (cQ x) (M+1) ⟨[],[],emp,false⟩ [dY (wOf x k near du M)]).best:=by
 have hT:=Aa h hd hM M _ (Bz (du:=du) (M:=M) h);have hB:Good x k M (dY (wOf x k near du M)):=pN h;generalize hTT:mK (wOf x k near du M) (cQ x) M (dY (wOf x k near du M))=T at *;obtain⟨i1,c1⟩:=BZ (B:=dY (wOf x k near du M)) h hd hM hT (M+1) 0 ⟨[],[],emp,false⟩ [dY (wOf x k near du M)] (by omega)
   ⟨fun u hu=>(by cases hu),fun e=>(by cases e),fun _=>rfl,fun u hu=>(by cases hu)⟩
   (fun p hp=>by
     rw[List.mem_singleton.1 hp];exact⟨hB,fun r hr=>by rw[←hTT];exact hr,rfl⟩)
   (fun u hu=>by
     rcases hu with hu|hu
     · cases hu
     · exact .inr (by rw[hu];simp))
 have hall:=P0 h hd hM hT hB rfl i1 c1 M (dY (wOf x k near du M)) hB (fun r hr=>by rw[←hTT];exact hr) _ (.inr rfl) (.refl true _);rw[hTT]at hall;generalize iW (wOf x k near du M) (cQ x) (M+1) ⟨[],[],emp,false⟩ [dY (wOf x k near du M)]=s at *;refine⟨fun hf=>⟨?_,i1.no hf⟩,fun hf=>⟨i1.mem hf,fun r hr=>(hall r hr).2⟩⟩;cases T with
 | nil=>rfl
 | cons r l=>
   have:=(hall r (by simp)).1;rw[hf]at this;cases this
end
theorem Ng{n:Nat}{dl:List ByteArray}(hl:dl.length=n)(hr:∀a∈dl,Vl 1 a (gR a)):DuB n (some dl) dl:=
 ⟨hl,fun l e=>by injection e with e;exact e.symm,fun e=>(by cases e),hr⟩
end Go.Proofs.YtdlijlecpopadaaGreatDoor.Rx
end
section
namespace Go.Proofs.YtdlijlecpopadaaGreatDoor.Rx
open Go.Aw Go.Aw.D Go.Proofs Ty Go.Nu Go.So
open Sq (W iP dN iV NetOk)
open Nu (ltB geB rJ)
open Mv (fF eI NC.pc bK)
def wS(x:Instance):Bool:=decide (x.orders.length≤3)&&(jE x).isEmpty
theorem RQ{x:Instance}(h:wS x=true):jE x=[]∧x.orders.length≤3:=by
 unfold wS at h;simp only[Bool.and_eq_true,decide_eq_true_eq,List.isEmpty_iff]at h;exact⟨h.2,h.1⟩
theorem JH(x:Instance)(h:InB x):PC Tryz.prog 17 [.agg (aQ x)] (boo (wS x)):=by
 have hck:=NC.pc (TK x h);have hr:wS x=(decide ((x.orders.length:Int)≤3)&&((jE x).length:Int) == 0):=by
   unfold wS
   congr 1
   · rw[Bool.eq_iff_iff];simp;omega
   · cases jE x <;> rfl
 refine PC.body (c:=Tryz.f17.body.getD .skip) (fun _=>false) mixed Tryz.func17 rfl (by kernel_rfl) ?_;unfold Tryz.f17;simp only[Option.getD_some];simp only[go_sem];refine⟨_,fun _=>hck.qn,?_⟩;simp only[go_sem,List.length_map];rw[hr];refine eI ?_;generalize decide ((x.orders.length:Int)≤3)=b;cases b <;> rfl
def oD(l:List ByteArray):Bool:=decide (l.length≤10)&&l.all fun s=>decide (s.size≤40)
theorem I5{l:List ByteArray}(h:oD l=true):l.length≤10∧∀s∈l,s.size≤40:=by
 unfold oD at h;simp only[Bool.and_eq_true,decide_eq_true_eq,List.all_eq_true]at h;exact h
theorem Ik(l:List ByteArray)(hl:l.length≤1048576):PC Tryz.prog 18 [.sl (l.map Go.Aw.D.cV)] (boo (oD l)):=by
 refine PC.body (c:=Tryz.f18.body.getD .skip) (fun _=>false) mixed Tryz.func18 rfl (by kernel_rfl) ?_;unfold Tryz.f18;simp only[Option.getD_some];simp only[go_sem];refine aA (fun hb=>?_) (fun hb=>?_)
 · have : oD l = false := by
     unfold oD;simp at hb;rw[decide_eq_false (by omega)];rfl
   rw[this];simp only[go_sem];exact .refl _
 have h10:l.length≤10:=by simp at hb;omega
 simp only[go_sem];refine⟨fun ρ H=>∃(k:Nat),k≤l.length∧ρ 8=.sl (l.map Go.Aw.D.cV)∧ρ 9=int (l.length:Nat)∧ρ 10=int k∧(∀a,a∈l.take k→a.size≤40),fun ρ _=>l.length-bQ (ρ 10),⟨0,Nat.zero_le _,by simp only[go_sem],by simp only[go_sem,List.length_map],(by simp only[go_sem];rfl),by intro a ha;simp at ha⟩,?_⟩;rintro ρ H ⟨k,hk,e8,e9,e10,hz⟩;simp only[go_sem,e8,e9,e10];refine aA (fun hlt=>?_) (fun hge=>?_)
 · have hlt:=ltB (by simpa using hlt)
   obtain⟨a,ha⟩:=bC hlt;have b1:=inB hlt;simp only[go_sem,e8,e9,e10,aH ha,b1];refine aA (fun hb=>?_) (fun hb=>?_)
   · have : oD l = false := by
       rw[Bool.eq_false_iff];intro h;have:=(I5 h).2 a (List.mem_of_getElem? ha);simp at hb;omega
     rw[this];simp only[go_sem];exact .refl _
   · simp only[go_sem,e8,e9,e10,bG (show k≤4611686018427387904 by omega)]
     refine⟨⟨k+1,hlt,rfl,fun b hbm=>?_⟩,by simp only[aI];omega⟩;rw[cN ha,List.mem_append]at hbm;rcases hbm with hbm|hbm
     · exact hz b hbm
     · simp at hbm;subst hbm;simp at hb;omega
 have hge:=geB hk (by simpa using hge);subst hge;rw[List.take_length]at hz;have:oD l=true:=by
   unfold oD;simp only[Bool.and_eq_true,decide_eq_true_eq,List.all_eq_true];exact⟨h10,hz⟩
 rw[this];simp only[go_sem];exact .refl _
end Go.Proofs.YtdlijlecpopadaaGreatDoor.Rx
end
section
namespace Go.Proofs.YtdlijlecpopadaaGreatDoor.Rx
open Go.Aw Go.Aw.D Go.Proofs Ty Go.Nu Go.So
open Sq (W iP dN iV NetOk pP)
open Nu (ltB geB rJ)
open Mv (fF eI NC.pc bK)
abbrev tX(x:Instance)(k:Nat)(near:List Int)(du:Option (List ByteArray)):List ByteArray:=mK (wOf x k near du (cQ x).length) (cQ x) (cQ x).length (dY (wOf x k near du (cQ x).length))
theorem Uo{x:Instance}(hn:x.orders.length≤3){k:Nat}(hk:k<x.types.length){near:List Int}(hl:lV x near=true):hJ x (k:Nat) near=false:=by
 rw[O2 (by omega),hl];have:Up x ((k:Nat):Int)=false:=by
   unfold Up;rw[decide_eq_false (by omega),decide_eq_false (by omega)];rfl
 rw[this];rfl
theorem Ea{x:Instance}(h:jE x=[])(hn:x.orders.length≤3){k:Nat}(hk:k<x.types.length){near:List Int}(hl:lV x near=true){dual:List ByteArray}(hd:DuB x.orders.length (some dual) dual):
   ∃b f,pC x (k:Nat) dual near=(b,f,0)∧Min (tX x k near (some dual)) f b∧AY (tX x k near (some dual)):=by
 obtain⟨l1,_⟩:=oR hl (by omega);have hc:=BL h hk (by omega) l1;have h6:=Gr hn;have m1:=UT (M:=(cQ x).length) hc hd (by omega);have hT:=Aa hc hd (show(cQ x).length≤15 by omega) (cQ x).length _ (Bz (du:=some dual) (M:=(cQ x).length) hc);refine⟨_,_,?_,m1,hT⟩;unfold pC;rw[Uo hn hk hl,hd.len,Int.toNat_natCast];rw[if_neg (by simp),if_neg (by
   intro hany;obtain⟨a,ha,h2⟩:=List.any_eq_true.1 hany;rw[(hd.right a ha).right (by decide)]at h2;cases h2)]
 rfl
theorem Jl{x:Instance}(h:jE x=[])(hn:x.orders.length≤3){k:Nat}(hk:k<x.types.length){near near':List Int}(hl:lV x near=true)(hl':lV x near'=true){du du':Option (List ByteArray)}{dl dl':List ByteArray}(hd:DuB x.orders.length du dl)(hd':DuB x.orders.length du' dl')
   (hN:∀o,o<x.orders.length→∀i,(near.getD o 0).toNat.testBit i=true→(near'.getD o 0).toNat.testBit i=true):(tX x k near' du').length≤(tX x k near du).length:=by
 have hc:=BL h hk (by omega) (oR hl (by omega)).1;have hc':=BL h hk (by omega) (oR hl' (by omega)).1;have h6:=Gr hn;exact(BC (fl:=false) (M:=(cQ x).length) hc hc' hd hd' (by omega) hN (fun e=>(by cases e)) (cQ x).length _ _ (pN (du:=du) hc) (pN (du:=du') hc') (.refl _ _)).1
theorem Pt{x:Instance}(h:jE x=[])(hn:x.orders.length≤3){k:Nat}(hk:k<x.types.length){near near':List Int}(hl:lV x near=true)(hl':lV x near'=true){du du':Option (List ByteArray)}{dl dl':List ByteArray}(hd:DuB x.orders.length du dl)(hd':DuB x.orders.length du' dl')
   (hN:∀o,o<x.orders.length→∀i,(near.getD o 0).toNat.testBit i=true→(near'.getD o 0).toNat.testBit i=true) (hD:∀o,o<x.orders.length→duV du' o≤duV du o):∀r∈tX x k near' du',∃r'∈tX x k near du,gR r'≤gR r:=by
 have hc:=BL h hk (by omega) (oR hl (by omega)).1;have hc':=BL h hk (by omega) (oR hl' (by omega)).1;have h6:=Gr hn;exact(BC (fl:=true) (M:=(cQ x).length) hc hc' hd hd' (by omega) hN (fun _=>hD) (cQ x).length _ _ (pN (du:=du) hc) (pN (du:=du') hc') (.refl _ _)).2 rfl
theorem Wv{T U:List ByteArray}{f g:Bool}{a b:ByteArray}(hT:AY T)(hU:AY U)(m:Min T f a)(n:Min U g b)(h:∀r∈U,∃r'∈T,gR r'≤gR r):g=true→f=true∧sY a b≤0:=by
 intro hg;obtain⟨n1,n2⟩:=n.yes hg;obtain⟨r',h1,h2⟩:=h b n1;cases f with
 | false=>rw[(m.no rfl).1]at h1;cases h1
 | true=>
   obtain⟨m1,m2⟩:=m.yes rfl;refine⟨rfl,?_⟩;rw[MW (hT _ m1) (hU _ n1)];exact Rat.le_trans ((wT (hT _ h1) (hT _ m1)).1 (m2 r' h1)) h2
theorem Eu{T:List ByteArray}{f:Bool}{a:ByteArray}(m:Min T f a):f=decide (0<T.length):=by
 cases f with
 | false=>rw[(m.no rfl).1];rfl
 | true=>rw[decide_eq_true (List.length_pos_iff.2 (fun e=>by have:=(m.yes rfl).1;rw[e]at this;cases this))]
theorem JI{T:List ByteArray}(hT:AY T){f:Bool}{a:ByteArray}(m:Min T f a):a.size≤1048576:=by
 cases f with
 | false=>rw[(m.no rfl).2];decide
 | true=>have:=uS (hT _ (m.yes rfl).1);omega
def qO(x:Instance)(l:List ByteArray):Bool:=(decide (l.length=x.orders.length)&&oD l)&&l.all fun s=>cE s
theorem yO{x:Instance}{l:List ByteArray}(h:qO x l=true):l.length=x.orders.length∧(∀a∈l,a.size≤40)∧∀a∈l,cE a=true:=by
 unfold qO at h;simp only[Bool.and_eq_true,decide_eq_true_eq,List.all_eq_true]at h;exact⟨h.1.1,(I5 h.1.2).2,h.2⟩
theorem OQ{x:Instance}{l:List ByteArray}(h:qO x l=true):DuB x.orders.length (some l) l:=by
 obtain⟨h1,h2,h3⟩:=yO h;exact Ng h1 fun a ha=>Vl.text (h3 a ha) (by have:=h2 a ha;omega)
theorem J6(x:Instance)(l:List ByteArray)(hx:x.orders.length≤1048576)(hl:l.length≤1048576)(hs:∀a∈l,a.size≤1048576):PC Tryz.prog 23 [.agg (aQ x),.sl (l.map Go.Aw.D.cV)] (boo (qO x l)):=by
 have hsh:=Ik l hl;refine PC.body (c:=Tryz.f23.body.getD .skip) (fun _=>false) mixed Tryz.func23 rfl (by kernel_rfl) ?_;unfold Tryz.f23;simp only[Option.getD_some];simp only[go_sem];refine⟨_,fun _=>hsh.q rfl,?_⟩;simp only[go_sem,List.length_map];refine aA (fun hb=>?_) (fun hb=>?_)
 · have : qO x l = false := by
     unfold qO;by_cases h1:l.length=x.orders.length
     · cases h2:oD l with
       | false=>rw[Bool.and_false,Bool.false_and]
       | true=>rw[h2,h1]at hb;simp at hb
     · rw[decide_eq_false h1,Bool.false_and,Bool.false_and]
   rw[this];simp only[go_sem];exact .refl _
 have hb2:l.length=x.orders.length∧oD l=true:=by
   cases h2:oD l <;> rw[h2]at hb <;> simp at hb;exact⟨by omega,rfl⟩
 simp only[go_sem];refine⟨fun ρ H=>∃(k:Nat),k≤l.length∧ρ 18=.sl (l.map Go.Aw.D.cV)∧ρ 19=int (l.length:Nat)∧ρ 20=int k∧(∀a,a∈l.take k→cE a=true),fun ρ _=>l.length-bQ (ρ 20),⟨0,Nat.zero_le _,by simp only[go_sem],by simp only[go_sem,List.length_map],(by simp only[go_sem];rfl),by intro a ha;simp at ha⟩,?_⟩;rintro ρ H ⟨k,hk,e18,e19,e20,hz⟩;simp only[go_sem,e18,e19,e20];refine aA (fun hlt=>?_) (fun hge=>?_)
 · have hlt:=ltB (by simpa using hlt)
   obtain⟨a,ha⟩:=bC hlt;have b1:=inB hlt;simp only[go_sem,e18,e19,e20,aH ha,b1];refine PC.use (rJ a (hs a (List.mem_of_getElem? ha))) ?_;simp only[go_sem,e18,e19,e20];refine aA (fun hb=>?_) (fun hb=>?_)
   · have : qO x l = false := by
       rw[Bool.eq_false_iff];intro h;have:=(yO h).2.2 a (List.mem_of_getElem? ha);rw[this]at hb;cases hb
     rw[this];simp only[go_sem];exact .refl _
   · simp only[go_sem,e18,e19,e20,bG (show k≤4611686018427387904 by omega)]
     refine⟨⟨k+1,hlt,rfl,fun b hbm=>?_⟩,by simp only[aI];omega⟩;rw[cN ha,List.mem_append]at hbm;rcases hbm with hbm|hbm
     · exact hz b hbm
     · simp at hbm;subst hbm;simpa using hb
 have hge:=geB hk (by simpa using hge);subst hge;rw[List.take_length]at hz;have:qO x l=true:=by
   unfold qO;rw[decide_eq_true hb2.1,hb2.2];exact List.all_eq_true.2 hz
 rw[this];simp only[go_sem];exact .refl _
end Go.Proofs.YtdlijlecpopadaaGreatDoor.Rx
end
section
namespace Go.Proofs.YtdlijlecpopadaaGreatDoor.Rx
open Go.Aw Go.Aw.D Go.Proofs Ty Go.Nu Go.So
open Sq (W iP dN iV NetOk pP)
open Nu (ltB geB rJ lF wL qN)
open Mv (fF eI NC.pc bK)
theorem RA{s:ByteArray}{K:Nat}(hK:0<K)(hr:cE s=true)(hs:s.size≤K):Sm (10^K) (10^K) (gR s):=by
 obtain⟨x,rfl,_,_,_⟩:=iK hr;rw[gS];have hz:∀n:Int,n.natAbs<10^K∨K<(zed n).size:=by
   intro n;by_cases h:(Lib.decDigits n.natAbs).length≤K
   · exact .inl ((eW hK).1 h)
   · refine .inr ?_
     have h1:(cY (zed n)).size=(Lib.decDigits n.natAbs).length:=by rw[gU,eY]
     have h2:(cY (zed n)).size≤(zed n).size:=by
       unfold cY;split
       · rw[←bV,gM,List.length_drop,bV];omega
       · exact Nat.le_refl _
     omega
 have hden:1≤x.den:=x.den_pos;have key:x.num.natAbs<10^K∧x.den≤10^K:=by
   unfold lH at hs;split at hs
   · next h1=>
     refine⟨(hz x.num).resolve_right (by omega),?_⟩;rw[h1];exact Nat.pow_pos (by decide)
   · rw[ByteArray.size_append,ByteArray.size_append]at hs
     refine⟨(hz x.num).resolve_right (by omega),?_⟩;have:(dec x.den).size≤K:=by omega
     rw[eY]at this;exact Nat.le_of_lt ((eW hK).1 this)
 refine⟨key.2,?_⟩;exact Nat.le_trans (Nat.le_of_lt key.1) (Nat.le_mul_of_pos_right _ hden)
theorem Qr{d:ByteArray}(hr:cE d=true)(hs:d.size≤40){n:Int}(hn:0≤n∧n≤65535):(oF d (zed n)).2=0∧Vl 1 (oF d (zed n)).1 (gR d+(n:Rat)):=by
 have h1:=RA (K:=40) (by decide) hr hs;have h2:=SQ (n:=n) (A:=65535) (by omega);have b1:(10^40+65535)*(10^40*1)<cC:=uB (k:=100) (by decide) (by decide);have b2:10^40*1<cC:=uB (k:=100) (by decide) (by decide);have h3:=MP h1 h2 b1 b2 (KL hr) (Ox (Mh (by omega)));rw[Dt hr,Cp]at h3;rw[h3];refine⟨rfl,rfl,?_⟩;have h4:=Kn h1 h2;rw[Nat.one_mul,Nat.pow_one];exact Gm h4 (by decide) (by decide)
theorem K3{a b:Rat}(h:0≤b):a≤a+b:=by grind
theorem Um{x:Instance}{dual:List ByteArray}(h:qO x dual=true){i:Nat}(hi:i<dual.length){n:Int}(hn:0≤n∧n≤65535):
   (oF (dual.getD i ByteArray.empty) (zed n)).2=0∧DuB x.orders.length (some (dual.set i (oF (dual.getD i ByteArray.empty) (zed n)).1)) (dual.set i (oF (dual.getD i ByteArray.empty) (zed n)).1) ∧
   (∀o,o<x.orders.length→duV (some dual) o≤duV (some (dual.set i (oF (dual.getD i ByteArray.empty) (zed n)).1)) o)∧∀a∈dual.set i (oF (dual.getD i ByteArray.empty) (zed n)).1,a.size≤1048576:=by
 obtain⟨h1,h2,h3⟩:=yO h;have hm:dual.getD i ByteArray.empty∈dual:=by
   rw[List.getD,List.getElem?_eq_getElem hi];exact List.getElem_mem _
 obtain⟨m1,m2⟩:=Qr (h3 _ hm) (h2 _ hm) hn;generalize hs:(oF (dual.getD i ByteArray.empty) (zed n)).1=s at *;have hv:∀a∈dual.set i s,Vl 1 a (gR a):=fun a ha=>by
   rcases List.mem_or_eq_of_mem_set ha with ha|rfl
   · exact Vl.text (h3 a ha) (by have:=h2 a ha;omega)
   · rw[m2.val];exact m2
 refine⟨m1,Ng (by rw[List.length_set,h1]) hv,fun o ho=>?_,fun a ha=>?_⟩
 · show gR (dual.getD o ByteArray.empty)≤gR ((dual.set i s).getD o ByteArray.empty)
   by_cases e:i=o
   · subst e
     have:(dual.set i s).getD i ByteArray.empty=s:=by rw[List.getD,List.getElem?_set_self hi];rfl
     rw[this,m2.val];exact K3 (by have:=Rat.intCast_le_intCast.2 hn.1;simpa using this)
   · have:(dual.set i s).getD o ByteArray.empty=dual.getD o ByteArray.empty:=by rw[List.getD,List.getElem?_set_ne e,←List.getD]
     rw[this];exact Rat.le_refl
 · have:=uS ((hv a ha).right (by decide));omega
theorem O8{x:Instance}(h:jE x=[])(hn:x.orders.length≤3){k:Nat}(hk:k<x.types.length){near:List Int}(hl:lV x near=true){dual more:List ByteArray}(hd:DuB x.orders.length (some dual) dual)(hm:DuB x.orders.length (some more) more)(hle:∀o,o<x.orders.length→duV (some dual) o≤duV (some more) o):
   ∃a ok b,pC x (k:Nat) dual near=(a,ok,0)∧pC x (k:Nat) more near=(b,ok,0)∧(a.size≤1048576∧b.size≤1048576)∧(ok=true→sY b a≤0):=by
 obtain⟨a,ok,e1,m1,t1⟩:=Ea h hn hk hl hd;obtain⟨b,is,e2,m2,t2⟩:=Ea h hn hk hl hm;have p1:=Pt h hn hk hl hl hm hd (fun _ _ _ h=>h) hle;have s1:=Jl h hn hk hl hl hd hm (fun _ _ _ h=>h);have s2:=Jl h hn hk hl hl hm hd (fun _ _ _ h=>h);have f1:=Eu m1;have f2:=Eu m2;have e:is=ok:=by rw[f1,f2];congr 1;rw[Nat.le_antisymm s1 s2]
 subst e;exact⟨a,is,b,e1,e2,⟨JI t1 m1,JI t2 m2⟩,fun h=>(Wv t2 t1 m2 m1 p1 h).2⟩
theorem Is:∀l:List ByteArray,dK 1 (l.map Go.Aw.D.cV)
 | []=>trivial
 | _::r=>⟨rfl,Is r⟩
theorem GE(x:Instance)(kind:Int)(dual:List ByteArray)(near:List Int)(at' by':Int)(h:InB x)(hdl:dual.length≤1048576)(hds:∀a∈dual,a.size≤1048576)(hnl:near.length≤1048576)(hat:0≤at'∧at'≤255)(hby:0≤by'∧by'≤65535):
   PC Tryz.prog 7 [.agg (aQ x),int kind,.sl (dual.map Go.Aw.D.cV),.sl (near.map aM),.v (.int .u8 at'),.v (.int .u16 by')] (boo true):=by
 have hr:=JH x h;by_cases hR:wS x=true
 case neg=>
   have hR:wS x=false:=by simpa using hR
   refine PC.body (c:=Tryz.f7.body.getD .skip) (fun t=>t == 13||t == 90) mixed Tryz.func7 rfl (by kernel_rfl) ?_;unfold Tryz.f7;simp only[Option.getD_some];simp only[go_sem];refine PC.use hr ?_;simp only[go_sem,List.length_map,hR];refine⟨boo false,fun h=>absurd h (by simp),?_⟩;simp only[go_sem];refine⟨boo false,fun h=>absurd h (by simp),?_⟩;simp only[go_sem];refine aA (fun _=>?_) (fun hb=>by simp at hb);simp only[go_sem];refine PC.use wW ?_;simp only[go_sem];exact .refl _
 obtain⟨hc,hn⟩:=RQ hR;have hacc:=Ta hc;have hD:=J6 x dual (by omega) hdl hds;have hL1:=Sz x near (by omega) hnl;refine PC.body (c:=Tryz.f7.body.getD .skip) (fun t=>t == 13||t == 90) mixed Tryz.func7 rfl (by kernel_rfl) ?_;unfold Tryz.f7;simp only[Option.getD_some];simp only[go_sem];refine PC.use hr ?_;simp only[go_sem,List.length_map,hR];refine⟨_,fun _=>hD.q rfl,?_⟩;simp only[go_sem];refine⟨_,fun _=>hL1.q rfl,?_⟩;simp only[go_sem,List.length_map];refine aA (fun hb=>?_) (fun hb=>?_)
 · simp only[go_sem]
   refine PC.use wW ?_;simp only[go_sem];exact .refl _
 simp only[Bool.not_true,Bool.false_or,Bool.or_eq_false_iff,decide_eq_false_iff_not,Bool.not_eq_false',beq_eq_false_iff_ne,ne_eq]at hb;obtain⟨⟨⟨⟨b1,b2⟩,b3⟩,b4⟩,b5⟩:=hb;obtain⟨k0,rfl⟩:=Int.eq_ofNat_of_zero_le (show 0≤kind by omega);have hk0:k0<x.types.length:=by omega
 obtain⟨ln,_⟩:=oR b4 (by omega);have hxb:=WP hacc (show x.orders.length≤8 by omega);have hdn:dual.length=x.orders.length:=(yO b3).1;obtain⟨A,rfl⟩:=Int.eq_ofNat_of_zero_le hat.1;have hi:A%dual.length<dual.length:=Nat.mod_lt _ (by omega);obtain⟨m1,m2,m3,m4⟩:=Um b3 hi hby;obtain⟨a,ok,b,e1,e2,⟨z1,z2⟩,q1⟩:=O8 hc hn hk0 b4 (OQ b3) m2 m3;have c1:=Bq x hxb hn (k0:Nat) dual near hnl hdl hds;have c2:=Bq x hxb hn (k0:Nat) (dual.set (A%dual.length) (oF (dual.getD (A%dual.length) ByteArray.empty) (zed by')).1) near hnl (by rw[List.length_set];exact hdl) m4;have c5:=Nu.lF b a z2 z1;rw[e1]at c1;rw[e2]at c2;clear e1 e2 hr hD hL1;simp only[go_sem,List.length_map];refine aN fun j hj0=>?_
 generalize hGj:aJ _ j _=HGj;have R:HGj j=some ((⟨46,1,[]⟩:Row)):=by rw[←hGj,aB];try rfl
 clear hGj hj0;simp only[go_sem,R];refine bA R ⟨rfl,rfl⟩ (Is _) (by simp only[List.length_map,List.length_nil];omega) (fun j2 hj2=>?_);have R2:aJ (aJ HGj j none) j2 (some (⟨46,1,dual.map Go.Aw.D.cV⟩:Row)) j2=some (⟨46,1,dual.map Go.Aw.D.cV⟩:Row):=aB _ _ _;simp only[List.nil_append];generalize aJ (aJ HGj j none) j2 _=H2 at R2 ⊢;simp only[go_sem,List.length_map];refine⟨b5,?_⟩;have w1:IntKind.i64.wrap (A:Int)=(A:Int):=aT (by omega);have w2:Int.tmod (A:Int) (dual.length:Int)=((A%dual.length:Nat):Int):=by rw[Int.tmod_eq_emod_of_nonneg (by omega)];norm_cast
 have w3:IntKind.i64.wrap by'=by':=aT (by omega)
 obtain⟨dv,hdv⟩:=bC hi;have hdg:dual.getD (A%dual.length) ByteArray.empty=dv:=by rw[List.getD,hdv];rfl
 rw[hdg]at m1 m2 m3 m4 c2;have hdm:dv∈dual:=List.mem_of_getElem? hdv;have d1:=inB hi;have d2:=aH (f:=Go.Aw.D.cV) hdv;have hrof:=wL by' (by omega) (by omega)
 have hzs:(zed by').size≤1048576:=by have:=gI (Mh (n:=by') (by omega));omega
 have hadd:=qN dv (zed by') (hds dv hdm) hzs;generalize A%dual.length=I at *;refine kK [(0,true),(1,true),(2,true),(3,true),(4,true),(5,true),(6,false),(7,false),(8,true),(9,true),(10,true),(11,true),(12,true)] (by kernel_rfl) ?_;simp only[go_sem,w1,w2,w3,d1,d2];refine PC.use hrof ?_;simp only[go_sem,w1,w2,w3,d1,d2];refine PC.use hadd ?_;simp only[go_sem,d1,R2];have hI:I<dual.length:=hi;refine dU PZ R2 (by rw[List.length_map];exact⟨hI,rfl,Nat.le_refl 1⟩) ?_;generalize hs:(oF dv (zed by')).1=s at *;have hset:(dual.map Go.Aw.D.cV).set I (lT ((dual.map Go.Aw.D.cV).getD I []) 0 [.v (.string s)])=(dual.set I s).map Go.Aw.D.cV:=by
   rw[d2,List.map_set];rfl
 have R3:aJ H2 j2 (some (⟨46,1,(dual.map Go.Aw.D.cV).set I (lT ((dual.map Go.Aw.D.cV).getD I []) 0 [.v (.string s)])⟩:Row)) j2=some (⟨46,1,(dual.set I s).map Go.Aw.D.cV⟩:Row):=by
   rw[aB,hset]
 generalize aJ H2 j2 _=H3 at R3 ⊢;simp only[go_sem,m1];refine PC.use c1 ?_;simp only[go_sem];refine zU (by simp only[go_sem]) R3 fun Hr _ _=>?_
 simp only[go_sem];refine PC.use c2 ?_;simp only[go_sem];refine⟨_,fun _=>c5.q rfl,?_⟩;simp only[go_sem];refine⟨_,fun _=>wW.q rfl,?_⟩;simp only[go_sem];refine eI ?_;cases ok with
 | false=>simp
 | true=>rw[decide_eq_true (q1 rfl)];simp
end Go.Proofs.YtdlijlecpopadaaGreatDoor.Rx
end
section
namespace Go.Aw.D
open Go.Aw Go.RowKit Go.Proofs Go.Proofs.YtdlijlecpopadaaGreatDoor Go.WideShapes Go.ChangeShapes
section
variable{H:Type}{e:TypeId×Value→H}{w:World}
theorem UB:Rd e (BK H) Tryz.prog w 43 (fun l:List ByteArray=>[.sl (l.map cV)]) (bL HF):=nX (sz:=1) Tryz.underlying43 (by kernel_rfl) (by omega) (fun _=>rfl) (Gy Tryz.underlying46)
end
theorem UW{H:Type}{e:TypeId×Value→H}{P:Program}{W:World}{t:TypeId}{r:Reach}{b0:Nat}{v:Value}{d:DataW H}{ps:List MemPlace}(ht:P.underlying t=some (.int .i64))
   (hval:Value.okWide P W r b0 t v) (hd:DataW.Trod e P W 0 (fun _=>true) true t v d ps):∃x:Int,rep (Sw W) W (.v (.int .i64 x)) v∧∀n,BK H d≤n→jX n x:=by
 obtain⟨x,rfl⟩:=okWide_int ht hval;obtain⟨fuel,h⟩:=hd;obtain⟨n,h1,_,hw⟩:=DataW.trod_int ht h;have h2:(Value.int .i64 x)=.int .i64 n:=by
   have:(Value.cells (.int .i64 x))=#[.int .i64 x]:=rfl;rw[this]at h1;simpa using h1
 cases h2;exact⟨x,by simp only[rep],fun _ _=>bounds_i64 hw⟩
theorem Ip{H:Type}{enc:TypeId×Value→H}{P:Program}{w:World}{base:Nat}{spare:TypeId→Bool}{held:Bool}{t0 t1 t2 t3 t4 t5:TypeId}{args:Array Value}{ds:List (DataW H)}{ps:List MemPlace}(h:DataW.TrodAll enc P w base spare held [t0,t1,t2,t3,t4,t5] args.toList ds ps):
   ∃v0 v1 v2 v3 v4 v5 d0 d1 d2 d3 d4 d5 p0 p1 p2 p3 p4 p5,args=#[v0,v1,v2,v3,v4,v5]∧ds=[d0,d1,d2,d3,d4,d5]∧ps=p0++p1++p2++p3++p4++p5∧DataW.Trod enc P w base spare held t0 v0 d0 p0∧DataW.Trod enc P w base spare held t1 v1 d1 p1∧DataW.Trod enc P w base spare held t2 v2 d2 p2∧DataW.Trod enc P w base spare held t3 v3 d3 p3∧DataW.Trod enc P w base spare held t4 v4 d4 p4∧DataW.Trod enc P w base spare held t5 v5 d5 p5:=by
 obtain⟨v0,vs0,d0,ds0,p0,q0,hargs,rfl,rfl,hd0,h0⟩:=trodAll_cons h;obtain⟨v1,vs1,d1,ds1,p1,q1,rfl,rfl,rfl,hd1,h1⟩:=trodAll_cons h0;obtain⟨v2,vs2,d2,ds2,p2,q2,rfl,rfl,rfl,hd2,h2⟩:=trodAll_cons h1;obtain⟨v3,vs3,d3,ds3,p3,q3,rfl,rfl,rfl,hd3,h3⟩:=trodAll_cons h2;obtain⟨v4,vs4,d4,ds4,p4,q4,rfl,rfl,rfl,hd4,h4⟩:=trodAll_cons h3;obtain⟨v5,vs5,d5,ds5,p5,q5,rfl,rfl,rfl,hd5,h5⟩:=trodAll_cons h4;obtain⟨rfl,rfl,rfl⟩:=trodAll_nil h5;exact⟨v0,v1,v2,v3,v4,v5,d0,d1,d2,d3,d4,d5,p0,p1,p2,p3,p4,p5,by cases args;simp_all,rfl,by simp,hd0,hd1,hd2,hd3,hd4,hd5⟩
def Gh:List (String×DataW Unit):=[("math/bits.deBruijn32tab",Go.Proofs.YtdlijlecpopadaaGreatDoor.Rows.laid_math_bits_deBruijn32tab),("math/bits.deBruijn64tab",Go.Proofs.YtdlijlecpopadaaGreatDoor.Rows.laid_math_bits_deBruijn64tab),("internal/strconv.uint64pow10",Go.Proofs.YtdlijlecpopadaaGreatDoor.Rows.laid_internal_strconv_uint64pow10)]
theorem QD:(Go.Proofs.YtdlijlecpopadaaGreatDoor.Rows.laid_math_bits_deBruijn64tab:DataW Unit)=Lib.tabData .u8 (Lib.deBruijn64tab.map fun z:Nat=>(z:Int)):=by kernel_rfl
theorem QK:(Go.Proofs.YtdlijlecpopadaaGreatDoor.Rows.laid_internal_strconv_uint64pow10:DataW Unit)=Lib.tabData .u64 Lib.pow10Tab:=by kernel_rfl
theorem Oh{W:World}(h:laidMetH Tryz.prog Gh W):F6 W:=by
 have h0:laidMet Tryz.prog Gh W:=(Go.MakeChecks.laidMetH_plain Tryz.prog Gh W (by kernel_rfl))▸h;have h1:=laidMet.tail h0;have h2:=laidMet.tail h1;rw[QD]at h1;rw[QK]at h2;have b:=Lib.tabIs_of_head (g:=3) (by kernel_rfl) (by kernel_rfl) (t:=368) (e:=5) (n:=64) Tryz.underlying368 Tryz.underlying5 (by kernel_rfl) (by kernel_rfl) h1;have p:=Lib.tabIs_of_head (g:=1) (by kernel_rfl) (by kernel_rfl) (t:=341) (e:=299) (n:=20) Tryz.underlying341 Tryz.underlying299 (by kernel_rfl) (by kernel_rfl) h2;unfold Lib.TabIs World.var? at b p;rw[show Tryz.prog.globalNamed "math/bits.deBruijn64tab" = some 3 by kernel_rfl]at b;rw[show Tryz.prog.globalNamed "internal/strconv.uint64pow10" = some 1 by kernel_rfl]at p;intro t ht;simp only[NO,List.mem_cons,List.not_mem_nil,or_false]at ht;rcases ht with rfl|rfl
 · exact p
 · have:KB=((Lib.deBruijn64tab.map fun z:Nat=>(z:Int)).map fun z=>Value.int .u8 z).toArray:=by simp[KB]
   rw[this];exact b
end Go.Aw.D
end
section
namespace Go.Aw.D
open Go.Aw Go.RowKit Go.Proofs Go.Proofs.YtdlijlecpopadaaGreatDoor Go.WideShapes Go.ChangeShapes
def bU8(_:Nat)(x:Int):Prop:=0≤x∧x≤255
def Yv(_:Nat)(x:Int):Prop:=0≤x∧x≤65535
theorem OX{n:Int}(h:(Lit.int .u8 n).wf=true):0≤n∧n≤255:=by
 simp[Lit.wf,IntKind.min,IntKind.max,IntKind.signed,IntKind.bits]at h;omega
theorem LJ{n:Int}(h:(Lit.int .u16 n).wf=true):0≤n∧n≤65535:=by
 simp[Lit.wf,IntKind.min,IntKind.max,IntKind.signed,IntKind.bits]at h;omega
theorem WB{H:Type}{e:TypeId×Value→H}{P:Program}{W:World}{t:TypeId}{r:Reach}{b0:Nat}{v:Value}{d:DataW H}{ps:List MemPlace}(ht:P.underlying t=some (.int .u8))
   (hval:Value.okWide P W r b0 t v) (hd:DataW.Trod e P W 0 (fun _=>true) true t v d ps):∃x:Int,rep (Sw W) W (.v (.int .u8 x)) v∧∀n,BK H d≤n→bU8 n x:=by
 obtain⟨x,rfl⟩:=okWide_int ht hval;obtain⟨fuel,h⟩:=hd;obtain⟨n,h1,_,hw⟩:=DataW.trod_int ht h;have h2:(Value.int .u8 x)=.int .u8 n:=by
   have:(Value.cells (.int .u8 x))=#[.int .u8 x]:=rfl;rw[this]at h1;simpa using h1
 cases h2;exact⟨x,by simp only[rep],fun _ _=>OX hw⟩
theorem Vu{H:Type}{e:TypeId×Value→H}{P:Program}{W:World}{t:TypeId}{r:Reach}{b0:Nat}{v:Value}{d:DataW H}{ps:List MemPlace}(ht:P.underlying t=some (.int .u16))
   (hval:Value.okWide P W r b0 t v) (hd:DataW.Trod e P W 0 (fun _=>true) true t v d ps):∃x:Int,rep (Sw W) W (.v (.int .u16 x)) v∧∀n,BK H d≤n→Yv n x:=by
 obtain⟨x,rfl⟩:=okWide_int ht hval;obtain⟨fuel,h⟩:=hd;obtain⟨n,h1,_,hw⟩:=DataW.trod_int ht h;have h2:(Value.int .u16 x)=.int .u16 n:=by
   have:(Value.cells (.int .u16 x))=#[.int .u16 x]:=rfl;rw[this]at h1;simpa using h1
 cases h2;exact⟨x,by simp only[rep],fun _ _=>LJ hw⟩
end Go.Aw.D
end
