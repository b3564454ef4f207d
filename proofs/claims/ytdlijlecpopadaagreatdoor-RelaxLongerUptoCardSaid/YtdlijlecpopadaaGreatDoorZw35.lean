/- Texts joined by a program: RyH, RyD, RyI, RyJ, RyK, CuR. -/
import Derived.Lib.LaidIn
import Derived.MakeChecks
import Derived.Stop.LaidErr
import Derived.Test.YtdlijlecpopadaaGreatDoorZw34
set_option linter.unusedSimpArgs false
set_option linter.unusedVariables false
set_option maxRecDepth 100000
section
namespace Go.Proofs.YtdlijlecpopadaaGreatDoor.Rx
open Go.Aw Go.Aw.D Go.Proofs Ty
open Sq
open Go.Nu
section
variable{x:Instance}{k:Nat}{near near':List Int}{du du':Option (List ByteArray)}{dl dl':List ByteArray}{M:Nat}{cn:Int}{lim fnd:Bool}{le:ByteArray}{p q:Part}{a b:RP}{o:Nat}{dr:Bool}{v d:Rat}{miles:Int}{fl:Bool}
theorem Good.num(g:Good x k M p)(hM:M≤15):cM p.value=true:=by
 obtain⟨a,ra,⟨va,da,hva⟩,hqa⟩:=g.ok;exact hva.own.right (by omega)
theorem Oo(h:Ctx x k near)(hM:M≤15)(gp:Good x k M p)(gq:Good x k M q)(h0:0<p.visits)(hb:qS p q=true):Dom true p q:=by
 have np:=gp.num hM;have nq:=gq.num hM;obtain⟨a,ra,_,hqa⟩:=gp.ok;obtain⟨b,rb,_,hqb⟩:=gq.ok;unfold qS at hb;split at hb
 · cases hb
 next hc=>
 simp only[Bool.or_eq_true,not_or,bne_iff_ne,ne_eq,Decidable.not_not,Bool.not_eq_true',Bool.not_eq_false,decide_eq_true_eq]at hc;obtain⟨⟨⟨⟨⟨c1,c2⟩,c3⟩,c4⟩,c5⟩,c6⟩:=hc;have hl:p.load.length=q.load.length:=by rw[ra.load,rb.load,ra.ll,rb.ll]
 refine⟨c1,by omega,fun i hi=>?_,by omega,fun _=>h0,hl,fun i=>?_,fun _=>?_,fun e he=>?_⟩
 · have c3:p.memory &&& q.memory=p.memory:=by simpa using c3
   rw[←c3,Nat.testBit_and,Bool.and_eq_true]at hi;exact hi.2
 · have c5:gL p.load q.load=true:=by simpa using c5
   rw[vP hl]at c5;unfold oJ at c5;rw[List.all_eq_true]at c5;by_cases hi:i<p.load.length
   · have:=c5 i (List.mem_range.2 hi)
     simp only[Bool.not_eq_true',decide_eq_false_iff_not]at this;omega
   · rw[List.getD,List.getD,List.getElem?_eq_none (by omega),List.getElem?_eq_none (by omega)]
     exact Int.le_refl _
 · rw[←Ms np nq];omega
 · obtain⟨c,hc,hcb⟩:=List.any_eq_true.1 (List.all_eq_true.1 hb e he)
   have:=nB.1 hcb;exact⟨c,hc,this.1,this.2⟩
def Sub(w:Wk)(T:List ByteArray)(p:Part):Prop:=∀r∈jF w (cL w.x) (w.most-p.visits) p,r∈T
theorem vT{w:Wk}{vs:List Visit}{f:Nat}{r:ByteArray}(h:r∈gU w p):r∈jF w vs f p:=by
 cases f with
 | zero=>exact h
 | succ f=>exact List.mem_append_left _ h
structure SInv(x:Instance)(k:Nat)(near:List Int)(du:Option (List ByteArray))(M:Nat)(T:List ByteArray)(s:Srch):Prop where
 kn:∀u∈s.known,Good x k M u∧0<u.visits∧Sub (wOf x k near du M) T u
 mem:s.found=true→s.best∈T
 no:s.found=false→s.best=ByteArray.empty
 min:∀u∈s.known,∀r∈gU (wOf x k near du M) u,s.found=true∧¬tC r s.best<0
structure SExt(x:Instance)(k:Nat)(near:List Int)(du:Option (List ByteArray))(M:Nat)(T:List ByteArray)(r:Nat)(s t:Srch):Prop where
 kn:∀u∈s.known,u∈t.known
 mo:∀u∈s.more,u∈t.more
 nw:∀u∈t.known,u∈s.known∨u∈t.more
 nm:∀u∈t.more,u∈s.more∨(Good x k M u∧Sub (wOf x k near du M) T u∧u.visits=r+1)
theorem SExt.refl{T:List ByteArray}{r:Nat}(s:Srch):SExt x k near du M T r s s:=⟨fun _ h=>h,fun _ h=>h,fun _ h=>.inl h,fun _ h=>.inl h⟩
theorem SExt.trans{T:List ByteArray}{r:Nat}{s t u:Srch}(h:SExt x k near du M T r s t)(g:SExt x k near du M T r t u):SExt x k near du M T r s u:=
 ⟨fun a ha=>g.kn a (h.kn a ha),fun a ha=>g.mo a (h.mo a ha),fun a ha=>by
   rcases g.nw a ha with ha|ha
   · rcases h.nw a ha with ha|ha
     · exact .inl ha
     · exact .inr (g.mo a ha)
   · exact .inr ha,fun a ha=>by
   rcases g.nm a ha with ha|ha
   · exact h.nm a ha
   · exact .inr ha⟩
theorem Q3{T:List ByteArray}{w:Wk}{u:Visit}(hu:u∈cL w.x)(h:Sub w T p)(hn:(bK w p u).2=true)(hv:(bK w p u).1.visits=p.visits+1)(hm:p.visits<w.most):Sub w T (bK w p u).1:=by
 intro r hr;refine h r ?_;have e:w.most-p.visits=(w.most-(bK w p u).1.visits)+1:=by omega
 rw[e];exact List.mem_append_right _ (List.mem_flatMap.2 ⟨u,hu,by rw[if_pos hn];exact hr⟩)
theorem UD(h:Ctx x k near)(hM:M≤15){T:List ByteArray}(hT:A6 T){s:Srch}(hi:SInv x k near du M T s)(gq:Good x k M q)(h0:0<q.visits)(hs:Sub (wOf x k near du M) T q):
   SInv x k near du M T (wW (wOf x k near du M) s q):=by
 have hlf:gU (wOf x k near du M) q=if(iA (wOf x k near du M) q).2.2=true then[mA (wOf x k near du M) q (iA (wOf x k near du M) q).1 (iA (wOf x k near du M) q).2.1]else[]:=rfl;have hsub:∀r∈gU (wOf x k near du M) q,r∈T:=fun r hr=>hs r (vT hr)
 have hk:∀u∈s.known++[q],Good x k M u∧0<u.visits∧Sub (wOf x k near du M) T u:=fun u hu=>by
   rcases List.mem_append.1 hu with hu|hu
   · exact hi.kn u hu
   · rw[List.mem_singleton.1 hu];exact⟨gq,h0,hs⟩
 have hT2:∀u∈s.known,∀r∈gU (wOf x k near du M) u,r∈T:=fun u hu r hr=>(hi.kn u hu).2.2 r (vT hr)
 unfold wW;simp only;generalize mA (wOf x k near du M) q (iA (wOf x k near du M) q).1 (iA (wOf x k near du M) q).2.1=pr at *;by_cases he:(iA (wOf x k near du M) q).2.2=true
 · rw[if_pos he]at hlf
   have hpT:pr∈T:=hsub pr (by rw[hlf];simp);rw[he,Bool.true_and];split
   · next hc=>
     refine⟨hk,fun _=>hpT,fun e=>(by cases e),fun u hu r hr=>⟨rfl,?_⟩⟩;show ¬tC r pr<0;rcases List.mem_append.1 hu with hu|hu
     · obtain⟨f1,f2⟩:=hi.min u hu r hr
       have hbT:=hi.mem f1;rw[f1]at hc;have hc:tC pr s.best<0:=by simpa using hc
       have hr2:=hT2 u hu r hr;rw[xA (hT _ hr2) (hT _ hpT)];have q1:=(xA (hT _ hr2) (hT _ hbT)).1 f2;have q2:¬iT s.best≤iT pr:=fun hx=>(xA (hT _ hpT) (hT _ hbT)).2 hx hc
       grind
     · rw[List.mem_singleton.1 hu,hlf]at hr
       rw[List.mem_singleton.1 hr,xA (hT _ hpT) (hT _ hpT)];exact Rat.le_refl
   · next hc=>
     simp only[Bool.or_eq_true,not_or,Bool.not_eq_true',decide_eq_true_eq]at hc;have hf:s.found=true:=by simpa using hc.1
     refine⟨hk,hi.mem,hi.no,fun u hu r hr=>?_⟩;rcases List.mem_append.1 hu with hu|hu
     · exact hi.min u hu r hr
     · rw[List.mem_singleton.1 hu,hlf]at hr
       rw[List.mem_singleton.1 hr];exact⟨hf,hc.2⟩
 · rw[if_neg he]at hlf
   have he:(iA (wOf x k near du M) q).2.2=false:=by simpa using he
   rw[he,Bool.false_and,if_neg (by simp)];refine⟨hk,hi.mem,hi.no,fun u hu r hr=>?_⟩;rcases List.mem_append.1 hu with hu|hu
   · exact hi.min u hu r hr
   · rw[List.mem_singleton.1 hu,hlf]at hr
     cases hr
theorem VG(h:Ctx x k near)(hd:DuB x.orders.length du dl)(hM:M≤15){T:List ByteArray}(hT:A6 T){s:Srch}{r:Nat}(hi:SInv x k near du M T s)(gp:Good x k M p)(hs:Sub (wOf x k near du M) T p)(hr:p.visits=r){u:Visit}(hu:u∈cL x):
   SInv x k near du M T (rR (wOf x k near du M) p s u)∧SExt x k near du M T r s (rR (wOf x k near du M) p s u) ∧
   ((bK (wOf x k near du M) p u).2=true→∃z∈(rR (wOf x k near du M) p s u).known,Dom true z (bK (wOf x k near du M) p u).1):=by
 by_cases hn:(bK (wOf x k near du M) p u).2=true
 case neg=>
   have hn2:(bK (wOf x k near du M) p u).2=false:=by simpa using hn
   have e:rR (wOf x k near du M) p s u=s:=by unfold rR;simp only[hn2,Bool.not_false,Bool.true_or,if_true]
   rw[e];exact⟨hi,.refl s,fun h=>absurd h hn⟩
 obtain⟨g1,v1⟩:=vX h hd hM gp (tF hu) hn;have s1:=Q3 (w:=wOf x k near du M) hu hs hn v1 (zV hn).2;unfold rR;simp only[hn,Bool.not_true,Bool.false_or];generalize (bK (wOf x k near du M) p u).1=z at *;by_cases hk:(s.known.any fun k=>qS k z)=true
 · rw[if_pos hk]
   refine⟨hi,.refl s,fun _=>?_⟩;obtain⟨y,hy,hb⟩:=List.any_eq_true.1 hk;obtain⟨y1,y2,_⟩:=hi.kn y hy;exact⟨y,hy,Oo h hM y1 g1 y2 hb⟩
 · rw[if_neg hk]
   obtain⟨e1,e2,_⟩:=Cj (wOf x k near du M) s z;refine⟨UD h hM hT hi g1 (by omega) s1,⟨fun a ha=>by rw[e1];exact List.mem_append_left _ ha,fun a ha=>by rw[e2];exact List.mem_append_left _ ha,fun a ha=>?_,fun a ha=>?_⟩,fun _=>⟨z,by rw[e1];simp,.refl true z⟩⟩
   · rw[e1]at ha
     rcases List.mem_append.1 ha with ha|ha
     · exact .inl ha
     · rw[e2];exact .inr (List.mem_append_right _ ha)
   · rw[e2]at ha
     rcases List.mem_append.1 ha with ha|ha
     · exact .inl ha
     · rw[List.mem_singleton.1 ha];exact .inr ⟨g1,s1,by omega⟩
def Ha(x:Instance)(k:Nat)(near:List Int)(du:Option (List ByteArray))(M:Nat)(s:Srch)(vs:List Visit)(p:Part):Prop:=
 ∀u∈vs,(bK (wOf x k near du M) p u).2=true→∃z∈s.known,Dom true z (bK (wOf x k near du M) p u).1
theorem Ha.ext{T:List ByteArray}{r:Nat}{s t:Srch}{vs:List Visit}(h:Ha x k near du M s vs p)(g:SExt x k near du M T r s t):Ha x k near du M t vs p:=fun u hu hn=>by
 obtain⟨z,hz,D⟩:=h u hu hn;exact⟨z,g.kn z hz,D⟩
theorem JN(h:Ctx x k near)(hd:DuB x.orders.length du dl)(hM:M≤15){T:List ByteArray}(hT:A6 T){r:Nat}(gp:Good x k M p)(hs:Sub (wOf x k near du M) T p)(hr:p.visits=r):
   ∀(l:List Visit),(∀u∈l,u∈cL x)→∀(s:Srch),SInv x k near du M T s →
     SInv x k near du M T (l.foldl (rR (wOf x k near du M) p) s)∧SExt x k near du M T r s (l.foldl (rR (wOf x k near du M) p) s)∧Ha x k near du M (l.foldl (rR (wOf x k near du M) p) s) l p
 | [],_,s,hi=>⟨hi,.refl s,fun u hu=>by cases hu⟩
 | u::l,hl,s,hi=>by
   obtain⟨i1,e1,d1⟩:=VG h hd hM hT hi gp hs hr (hl u (by simp));obtain⟨i2,e2,d2⟩:=JN h hd hM hT gp hs hr l (fun a ha=>hl a (by simp[ha])) _ i1;refine⟨i2,e1.trans e2,fun a ha hn=>?_⟩;rcases List.mem_cons.1 ha with rfl|ha
   · obtain⟨z,hz,D⟩:=d1 hn
     exact⟨z,e2.kn z hz,D⟩
   · exact d2 a ha hn
theorem DM(h:Ctx x k near)(hd:DuB x.orders.length du dl)(hM:M≤15){T:List ByteArray}(hT:A6 T){r:Nat}:
   ∀(l:List Part),(∀p∈l,Good x k M p∧Sub (wOf x k near du M) T p∧p.visits=r)→∀(s:Srch),SInv x k near du M T s →
     SInv x k near du M T (l.foldl (fun s p=>(cL x).foldl (rR (wOf x k near du M) p) s) s)∧SExt x k near du M T r s (l.foldl (fun s p=>(cL x).foldl (rR (wOf x k near du M) p) s) s) ∧
     ∀p∈l,Ha x k near du M (l.foldl (fun s p=>(cL x).foldl (rR (wOf x k near du M) p) s) s) (cL x) p
 | [],_,s,hi=>⟨hi,.refl s,fun u hu=>by cases hu⟩
 | p::l,hl,s,hi=>by
   obtain⟨g,hs,hr⟩:=hl p (by simp);obtain⟨i1,e1,d1⟩:=JN h hd hM hT g hs hr (cL x) (fun _ hu=>hu) s hi;obtain⟨i2,e2,d2⟩:=DM h hd hM hT l (fun a ha=>hl a (by simp[ha])) _ i1;refine⟨i2,e1.trans e2,fun a ha=>?_⟩;rcases List.mem_cons.1 ha with rfl|ha
   · exact d1.ext e2
   · exact d2 a ha
theorem Db(h:Ctx x k near)(hd:DuB x.orders.length du dl)(hM:M≤15){T:List ByteArray}(hT:A6 T){B:Part}:
   ∀(n r:Nat) (s:Srch) (fresh:List Part),r+n=M+1→SInv x k near du M T s→(∀p∈fresh,Good x k M p∧Sub (wOf x k near du M) T p∧p.visits=r) →
     (∀u,u∈s.known∨u=B→Ha x k near du M s (cL x) u∨u∈fresh) →
     SInv x k near du M T (iW (wOf x k near du M) (cL x) n s fresh)∧∀u,u∈(iW (wOf x k near du M) (cL x) n s fresh).known∨u=B→Ha x k near du M (iW (wOf x k near du M) (cL x) n s fresh) (cL x) u
 | 0,r,s,fresh,hn,hi,hf,hc=>by
   refine⟨hi,fun u hu=>?_⟩;rcases hc u hu with hc|hc
   · exact hc
   · obtain⟨⟨q,rq,_,hq⟩,_⟩:=(hf u hc).1
     have:=rq.visits;have:=(hf u hc).2.2;omega
 | n+1,r,s,fresh,hn,hi,hf,hc=>by
   unfold iW;by_cases he:fresh=[]
   · rw[if_pos he]
     refine⟨hi,fun u hu=>?_⟩;rcases hc u hu with hc|hc
     · exact hc
     · rw[he]at hc;cases hc
   rw[if_neg he];have hi0:SInv x k near du M T { s with more:=[] }:=⟨hi.kn,hi.mem,hi.no,hi.min⟩;obtain⟨i1,e1,d1⟩:=DM h hd hM hT fresh hf { s with more:=[] } hi0;have hR:wX (wOf x k near du M) (cL x) s fresh=fresh.foldl (fun s p=>(cL x).foldl (rR (wOf x k near du M) p) s) { s with more:=[] }:=rfl;rw[←hR]at i1 e1 d1;refine Db h hd hM hT n (r+1) _ _ (by omega) i1 (fun p hp=>?_) (fun u hu=>?_)
   · rcases e1.nm p hp with hp|hp
     · cases hp
     · exact hp
   · have key : (u ∈ s.known ∨ u = B) ∨ u ∈ (wX (wOf x k near du M) (cL x) s fresh).more := by
       rcases hu with hu|hu
       · rcases e1.nw u hu with hu|hu
         · exact .inl (.inl hu)
         · exact .inr hu
       · exact .inl (.inr hu)
     rcases key with hk|hk
     · rcases hc u hk with hc|hc
       · refine .inl fun a ha hn=>?_
         obtain⟨z,hz,D⟩:=hc a ha hn;exact⟨z,e1.kn z hz,D⟩
       · exact .inl (d1 u hc)
     · exact .inr hk
theorem RA(h:Ctx x k near)(hd:DuB x.orders.length du dl)(hM:M≤15){T:List ByteArray}(hT:A6 T){s:Srch}{B:Part}(hB:Good x k M B)(hB0:B.visits=0)(hi:SInv x k near du M T s)(hc:∀u,u∈s.known∨u=B→Ha x k near du M s (cL x) u):
   ∀(f:Nat) (q:Part),Good x k M q→(∀r∈jF (wOf x k near du M) (cL x) f q,r∈T)→∀u,u∈s.known∨u=B→Dom true u q→∀r∈jF (wOf x k near du M) (cL x) f q,s.found=true∧¬tC r s.best<0:=by
 have leaf:∀(q:Part),Good x k M q→(∀r∈gU (wOf x k near du M) q,r∈T)→∀u,u∈s.known∨u=B→Dom true u q→∀r∈gU (wOf x k near du M) q,s.found=true∧¬tC r s.best<0:=by
   intro q gq hqT u hu D r hr;have gu:Good x k M u:=by
     rcases hu with hu|rfl
     · exact(hi.kn u hu).1
     · exact hB
   obtain⟨r',h1,h2⟩:=(zW (du:=du) (du':=du) h h hM gu gq D).2 rfl r hr;have huk:u∈s.known:=by
     rcases hu with hu|rfl
     · exact hu
     · exfalso
       unfold gU at h1;have:(iA (wOf x k near du M) u).2.2=false:=by
         unfold iA;rw[if_pos (by rw[hB0];rfl)]
       rw[this]at h1;simp at h1
   obtain⟨f1,f2⟩:=hi.min u huk r' h1;refine⟨f1,?_⟩;have hbT:=hi.mem f1;have hrT:=hqT r hr;have hr'T:=(hi.kn u huk).2.2 r' (vT h1);rw[xA (hT _ hrT) (hT _ hbT)];exact Rat.le_trans ((xA (hT _ hr'T) (hT _ hbT)).1 f2) h2
 intro f;induction f with
 | zero=>exact leaf
 | succ f ih=>
   intro q gq hqT u hu D r hr;have hqT1:∀r∈gU (wOf x k near du M) q,r∈T:=fun r hr=>hqT r (vT hr)
   rcases List.mem_append.1 (show r∈gU (wOf x k near du M) q++(cL x).flatMap fun v=>if(bK (wOf x k near du M) q v).2=true then jF (wOf x k near du M) (cL x) f (bK (wOf x k near du M) q v).1 else[]from hr)with hr|hr
   · exact leaf q gq hqT1 u hu D r hr
   · obtain⟨a,ha,hr⟩:=List.mem_flatMap.1 hr
     split at hr
     · next hn=>
       have gu:Good x k M u:=by
         rcases hu with hu|rfl
         · exact(hi.kn u hu).1
         · exact hB
       obtain⟨n1,D1⟩:=Kk h h hd hd hM (fun _ _ _ h=>h) (fun _ _ _=>Rat.le_refl) gu gq D (tF ha) hn;obtain⟨z,hz,D2⟩:=hc u hu a ha n1;refine ih _ (vX h hd hM gq (tF ha) hn).1 (fun r hr=>hqT r (List.mem_append_right _ (List.mem_flatMap.2 ⟨a,ha,by rw[if_pos hn];exact hr⟩))) z (.inl hz) (D2.trans D1) r hr
     · cases hr
theorem UA(h:Ctx x k near)(hd:DuB x.orders.length du dl)(hM:M≤15):
   Min (jF (wOf x k near du M) (cL x) M (dQ (wOf x k near du M))) (iW (wOf x k near du M) (cL x) (M+1) ⟨[],[],emp,false⟩ [dQ (wOf x k near du M)]).found (iW (wOf x k near du M) (cL x) (M+1) ⟨[],[],emp,false⟩ [dQ (wOf x k near du M)]).best:=by
 have hT:=Ap h hd hM M _ (Ca (du:=du) (M:=M) h);have hB:Good x k M (dQ (wOf x k near du M)):=pU h;generalize hTT:jF (wOf x k near du M) (cL x) M (dQ (wOf x k near du M))=T at *;obtain⟨i1,c1⟩:=Db (B:=dQ (wOf x k near du M)) h hd hM hT (M+1) 0 ⟨[],[],emp,false⟩ [dQ (wOf x k near du M)] (by omega)
   ⟨fun u hu=>(by cases hu),fun e=>(by cases e),fun _=>rfl,fun u hu=>(by cases hu)⟩
   (fun p hp=>by
     rw[List.mem_singleton.1 hp];exact⟨hB,fun r hr=>by rw[←hTT];exact hr,rfl⟩)
   (fun u hu=>by
     rcases hu with hu|hu
     · cases hu
     · exact .inr (by rw[hu];simp))
 have hall:=RA h hd hM hT hB rfl i1 c1 M (dQ (wOf x k near du M)) hB (fun r hr=>by rw[←hTT];exact hr) _ (.inr rfl) (.refl true _);rw[hTT]at hall;generalize iW (wOf x k near du M) (cL x) (M+1) ⟨[],[],emp,false⟩ [dQ (wOf x k near du M)]=s at *;refine⟨fun hf=>⟨?_,i1.no hf⟩,fun hf=>⟨i1.mem hf,fun r hr=>(hall r hr).2⟩⟩;cases T with
 | nil=>rfl
 | cons r l=>
   have:=(hall r (by simp)).1;rw[hf]at this;cases this
end
theorem Vg{n:Nat}{dl:List ByteArray}(hl:dl.length=n)(hr:∀a∈dl,Vl 1 a (iT a)):DuB n (some dl) dl:=
 ⟨hl,fun l e=>by injection e with e;exact e.symm,fun e=>(by cases e),hr⟩
end Go.Proofs.YtdlijlecpopadaaGreatDoor.Rx
end
section
namespace Go.Proofs.YtdlijlecpopadaaGreatDoor.Rx
open Go.Aw Go.Aw.D Go.Proofs Ty Go.Nu Go.So
open Sq (W iM dK iV NetOk)
open Nu (ltB geB rK)
open Mv (fB eH NC.pc bN)
def xE(x:Instance):Bool:=decide (x.orders.length≤3)&&(jE x).isEmpty
theorem RL{x:Instance}(h:xE x=true):jE x=[]∧x.orders.length≤3:=by
 unfold xE at h;simp only[Bool.and_eq_true,decide_eq_true_eq,List.isEmpty_iff]at h;exact⟨h.2,h.1⟩
theorem IW(x:Instance)(h:InB x):PC Tryz.prog 17 [.agg (aQ x)] (boo (xE x)):=by
 have hck:=NC.pc (Ub x h);have hr:xE x=(decide ((x.orders.length:Int)≤3)&&((jE x).length:Int) == 0):=by
   unfold xE
   congr 1
   · rw[Bool.eq_iff_iff];simp;omega
   · cases jE x <;> rfl
 refine PC.body (c:=Tryz.f17.body.getD .skip) (fun _=>false) mixed Tryz.func17 rfl (by kernel_rfl) ?_;unfold Tryz.f17;simp only[Option.getD_some];simp only[go_sem];refine⟨_,fun _=>hck.qn,?_⟩;simp only[go_sem,List.length_map];rw[hr];refine eH ?_;generalize decide ((x.orders.length:Int)≤3)=b;cases b <;> rfl
def oE(l:List ByteArray):Bool:=decide (l.length≤10)&&l.all fun s=>decide (s.size≤40)
theorem HE{l:List ByteArray}(h:oE l=true):l.length≤10∧∀s∈l,s.size≤40:=by
 unfold oE at h;simp only[Bool.and_eq_true,decide_eq_true_eq,List.all_eq_true]at h;exact h
theorem Io(l:List ByteArray)(hl:l.length≤1048576):PC Tryz.prog 18 [.sl (l.map Go.Aw.D.dZ)] (boo (oE l)):=by
 refine PC.body (c:=Tryz.f18.body.getD .skip) (fun _=>false) mixed Tryz.func18 rfl (by kernel_rfl) ?_;unfold Tryz.f18;simp only[Option.getD_some];simp only[go_sem];refine aA (fun hb=>?_) (fun hb=>?_)
 · have : oE l = false := by
     unfold oE;simp at hb;rw[decide_eq_false (by omega)];rfl
   rw[this];simp only[go_sem];exact .refl _
 have h10:l.length≤10:=by simp at hb;omega
 simp only[go_sem];refine⟨fun ρ H=>∃(k:Nat),k≤l.length∧ρ 8=.sl (l.map Go.Aw.D.dZ)∧ρ 9=int (l.length:Nat)∧ρ 10=int k∧(∀a,a∈l.take k→a.size≤40),fun ρ _=>l.length-bR (ρ 10),⟨0,Nat.zero_le _,by simp only[go_sem],by simp only[go_sem,List.length_map],(by simp only[go_sem];rfl),by intro a ha;simp at ha⟩,?_⟩;rintro ρ H ⟨k,hk,e8,e9,e10,hz⟩;simp only[go_sem,e8,e9,e10];refine aA (fun hlt=>?_) (fun hge=>?_)
 · have hlt:=ltB (by simpa using hlt)
   obtain⟨a,ha⟩:=bA hlt;have b1:=inB hlt;simp only[go_sem,e8,e9,e10,aH ha,b1];refine aA (fun hb=>?_) (fun hb=>?_)
   · have : oE l = false := by
       rw[Bool.eq_false_iff];intro h;have:=(HE h).2 a (List.mem_of_getElem? ha);simp at hb;omega
     rw[this];simp only[go_sem];exact .refl _
   · simp only[go_sem,e8,e9,e10,bG (show k≤4611686018427387904 by omega)]
     refine⟨⟨k+1,hlt,rfl,fun b hbm=>?_⟩,by simp only[aI];omega⟩;rw[cH ha,List.mem_append]at hbm;rcases hbm with hbm|hbm
     · exact hz b hbm
     · simp at hbm;subst hbm;simp at hb;omega
 have hge:=geB hk (by simpa using hge);subst hge;rw[List.take_length]at hz;have:oE l=true:=by
   unfold oE;simp only[Bool.and_eq_true,decide_eq_true_eq,List.all_eq_true];exact⟨h10,hz⟩
 rw[this];simp only[go_sem];exact .refl _
end Go.Proofs.YtdlijlecpopadaaGreatDoor.Rx
end
section
namespace Go.Proofs.YtdlijlecpopadaaGreatDoor.Rx
open Go.Aw Go.Aw.D Go.Proofs Ty Go.Nu Go.So
open Sq (W iM dK iV NetOk pJ)
open Nu (ltB geB rK)
open Mv (fB eH NC.pc bN)
abbrev oK(x:Instance)(k:Nat)(near:List Int)(du:Option (List ByteArray)):List ByteArray:=jF (wOf x k near du (cL x).length) (cL x) (cL x).length (dQ (wOf x k near du (cL x).length))
theorem Nd{x:Instance}(hn:x.orders.length≤3){k:Nat}(hk:k<x.types.length){near:List Int}(hl:gJ x near=true):hJ x (k:Nat) near=false:=by
 rw[Oc (by omega),hl];have:Ui x ((k:Nat):Int)=false:=by
   unfold Ui;rw[decide_eq_false (by omega),decide_eq_false (by omega)];rfl
 rw[this];rfl
theorem EM{x:Instance}(h:jE x=[])(hn:x.orders.length≤3){k:Nat}(hk:k<x.types.length){near:List Int}(hl:gJ x near=true){dual:List ByteArray}(hd:DuB x.orders.length (some dual) dual):
   ∃b f,pF x (k:Nat) dual near=(b,f,0)∧Min (oK x k near (some dual)) f b∧A6 (oK x k near (some dual)):=by
 obtain⟨l1,_⟩:=kO hl (by omega);have hc:=Cu h hk (by omega) l1;have h6:=Bf hn;have m1:=UA (M:=(cL x).length) hc hd (by omega);have hT:=Ap hc hd (show(cL x).length≤15 by omega) (cL x).length _ (Ca (du:=some dual) (M:=(cL x).length) hc);refine⟨_,_,?_,m1,hT⟩;unfold pF;rw[Nd hn hk hl,hd.len,Int.toNat_natCast];rw[if_neg (by simp),if_neg (by
   intro hany;obtain⟨a,ha,h2⟩:=List.any_eq_true.1 hany;rw[(hd.right a ha).right (by decide)]at h2;cases h2)]
 rfl
theorem C0{x:Instance}(h:jE x=[])(hn:x.orders.length≤3){k:Nat}(hk:k<x.types.length){near:List Int}(hl:gJ x near=true):
   ∃c,Cap 0 (oK x k near none).length c∧oT x (k:Nat) near=if c>8192 then(0,4)else(c,0):=by
 have h6:=Bf hn;have hsz:=M7 (wOf x k near none (cL x).length) (cL x) h6 (cL x).length (dQ (wOf x k near none (cL x).length));have h7:7^(cL x).length≤7^6:=Nat.pow_le_pow_right (by decide) h6;have c1:=MQ (wOf x k near none (cL x).length) (cL x) (cL x).length (dQ (wOf x k near none (cL x).length)) 0 (Int.le_refl _) (by omega);refine⟨_,c1,?_⟩;unfold oT;rw[Nd hn hk hl,Int.toNat_natCast,if_neg (by simp)];rfl
theorem uE{x:Instance}(h:jE x=[])(hn:x.orders.length≤3){k:Nat}(hk:k<x.types.length){near near':List Int}(hl:gJ x near=true)(hl':gJ x near'=true){du du':Option (List ByteArray)}{dl dl':List ByteArray}(hd:DuB x.orders.length du dl)(hd':DuB x.orders.length du' dl')
   (hN:∀o,o<x.orders.length→∀i,(near.getD o 0).toNat.testBit i=true→(near'.getD o 0).toNat.testBit i=true):(oK x k near' du').length≤(oK x k near du).length:=by
 have hc:=Cu h hk (by omega) (kO hl (by omega)).1;have hc':=Cu h hk (by omega) (kO hl' (by omega)).1;have h6:=Bf hn;exact(CN (fl:=false) (M:=(cL x).length) hc hc' hd hd' (by omega) hN (fun e=>(by cases e)) (cL x).length _ _ (pU (du:=du) hc) (pU (du:=du') hc') (.refl _ _)).1
theorem QB{x:Instance}(h:jE x=[])(hn:x.orders.length≤3){k:Nat}(hk:k<x.types.length){near near':List Int}(hl:gJ x near=true)(hl':gJ x near'=true){du du':Option (List ByteArray)}{dl dl':List ByteArray}(hd:DuB x.orders.length du dl)(hd':DuB x.orders.length du' dl')
   (hN:∀o,o<x.orders.length→∀i,(near.getD o 0).toNat.testBit i=true→(near'.getD o 0).toNat.testBit i=true) (hD:∀o,o<x.orders.length→duV du' o≤duV du o):∀r∈oK x k near' du',∃r'∈oK x k near du,iT r'≤iT r:=by
 have hc:=Cu h hk (by omega) (kO hl (by omega)).1;have hc':=Cu h hk (by omega) (kO hl' (by omega)).1;have h6:=Bf hn;exact(CN (fl:=true) (M:=(cL x).length) hc hc' hd hd' (by omega) hN (fun _=>hD) (cL x).length _ _ (pU (du:=du) hc) (pU (du:=du') hc') (.refl _ _)).2 rfl
theorem Xh{T U:List ByteArray}{f g:Bool}{a b:ByteArray}(hT:A6 T)(hU:A6 U)(m:Min T f a)(n:Min U g b)(h:∀r∈U,∃r'∈T,iT r'≤iT r):g=true→f=true∧tC a b≤0:=by
 intro hg;obtain⟨n1,n2⟩:=n.yes hg;obtain⟨r',h1,h2⟩:=h b n1;cases f with
 | false=>rw[(m.no rfl).1]at h1;cases h1
 | true=>
   obtain⟨m1,m2⟩:=m.yes rfl;refine⟨rfl,?_⟩;rw[Ms (hT _ m1) (hU _ n1)];exact Rat.le_trans ((xA (hT _ h1) (hT _ m1)).1 (m2 r' h1)) h2
theorem EP{T:List ByteArray}{f:Bool}{a:ByteArray}(m:Min T f a):f=decide (0<T.length):=by
 cases f with
 | false=>rw[(m.no rfl).1];rfl
 | true=>rw[decide_eq_true (List.length_pos_iff.2 (fun e=>by have:=(m.yes rfl).1;rw[e]at this;cases this))]
theorem Hy{T:List ByteArray}(hT:A6 T){f:Bool}{a:ByteArray}(m:Min T f a):a.size≤1048576:=by
 cases f with
 | false=>rw[(m.no rfl).2];decide
 | true=>have:=AX (hT _ (m.yes rfl).1);omega
def pP(near more:List Int):List Int:=List.zipWith (fun a b=>mP .or .i64 a b) near more
theorem Bi{x:Instance}{near:List Int}(h:gJ x near=true){i:Nat}(hi:i<x.orders.length):near.length=x.orders.length∧0≤near.getD i 0∧near.getD i 0<((2^near.length:Nat):Int)∧(near.getD i 0).toNat.testBit i=true:=by
 unfold gJ at h;rw[Bool.and_eq_true,List.all_eq_true]at h;have hl:near.length=x.orders.length:=by have:=h.1;simp at this;omega
 have hb:=h.2 i (List.mem_range.2 (by omega));unfold mG at hb;simp only[Bool.not_eq_true',Bool.or_eq_false_iff,decide_eq_false_iff_not,Bool.not_eq_false']at hb;rw[lA]at hb;exact⟨hl,by omega,by omega,hb.2⟩
theorem M3{x:Instance}(hn:x.orders.length≤3){near more:List Int}(h:gJ x near=true)(g:gJ x more=true){i:Nat}(hi:i<x.orders.length):(pP near more).getD i 0=(((near.getD i 0).toNat ||| (more.getD i 0).toNat:Nat):Int):=by
 obtain⟨l1,a1,a2,a3⟩:=Bi h hi;obtain⟨l2,b1,b2,b3⟩:=Bi g hi;have h8:2^near.length≤2^3:=Nat.pow_le_pow_right (by decide) (by omega);have h9:2^more.length≤2^3:=Nat.pow_le_pow_right (by decide) (by omega);have e:(pP near more).getD i 0=mP .or .i64 (near.getD i 0) (more.getD i 0):=by
   unfold pP;rw[List.getD,List.getElem?_zipWith,List.getElem?_eq_getElem (show i<near.length by omega),List.getElem?_eq_getElem (show i<more.length by omega)];rw[List.getD,List.getElem?_eq_getElem (show i<near.length by omega),List.getD,List.getElem?_eq_getElem (show i<more.length by omega)];rfl
 rw[e];obtain⟨a,ha⟩:=Int.eq_ofNat_of_zero_le a1;obtain⟨b,hb⟩:=Int.eq_ofNat_of_zero_le b1;rw[ha,hb,Int.toNat_natCast,Int.toNat_natCast];exact Sq.LZ (by omega) (by omega)
theorem OZ{x:Instance}(hn:x.orders.length≤3){near more:List Int}(h:gJ x near=true)(g:gJ x more=true):gJ x (pP near more)=true∧∀o,o<x.orders.length→∀i,(near.getD o 0).toNat.testBit i=true→((pP near more).getD o 0).toNat.testBit i=true:=by
 obtain⟨l1,_⟩:=kO h (by omega);obtain⟨l2,_⟩:=kO g (by omega);have hwl:(pP near more).length=x.orders.length:=by unfold pP;rw[List.length_zipWith];omega
 refine⟨?_,fun o ho i hi=>?_⟩
 · unfold gJ
   rw[hwl,Bool.and_eq_true];refine⟨by simp,List.all_eq_true.2 fun i hi=>?_⟩;have hi:=List.mem_range.1 hi;obtain⟨_,a1,a2,a3⟩:=Bi h hi;obtain⟨_,b1,b2,b3⟩:=Bi g hi;rw[l1]at a2;rw[l2]at b2;have hor:=Nat.or_lt_two_pow (n:=x.orders.length) (x:=(near.getD i 0).toNat) (y:=(more.getD i 0).toNat) (by omega) (by omega);unfold mG;rw[M3 hn h g hi,hwl,lA,Int.toNat_natCast,Nat.testBit_or,a3,Bool.true_or];simp only[Bool.not_eq_true',Bool.or_eq_false_iff,decide_eq_false_iff_not];refine⟨⟨by omega,?_⟩,rfl⟩;omega
 · rw[M3 hn h g ho,Int.toNat_natCast,Nat.testBit_or,hi,Bool.true_or]
theorem LL{x:Instance}(h:jE x=[])(hn:x.orders.length≤3){k:Nat}(hk:k<x.types.length){near more:List Int}(hl:gJ x near=true)(hm:gJ x more=true){dual:List ByteArray}(hd:DuB x.orders.length (some dual) dual):
   ∃a ok b is n g m g',pF x (k:Nat) dual near=(a,ok,0)∧pF x (k:Nat) dual (pP near more)=(b,is,0)∧oT x (k:Nat) near=(n,g)∧oT x (k:Nat) (pP near more)=(m,g')∧(a.size≤1048576∧b.size≤1048576) ∧
     (is=true→ok=true∧tC a b≤0)∧(g=0∨g=4)∧(g=0→g'=0∧m≤n∧decide (n>0)=ok∧decide (m>0)=is):=by
 obtain⟨hw,hN⟩:=OZ hn hl hm;obtain⟨a,ok,e1,m1,t1⟩:=EM h hn hk hl hd;obtain⟨b,is,e2,m2,t2⟩:=EM h hn hk hw hd;obtain⟨c,c1,e3⟩:=C0 h hn hk hl;obtain⟨c',c2,e4⟩:=C0 h hn hk hw;have hz:=Qk x.orders.length;have p1:=QB h hn hk hl hw hd hd hN (fun _ _=>Rat.le_refl);have s1:=uE h hn hk hl hw hz hz hN;have s2:=uE h hn hk hl hl hd hz (fun _ _ _ h=>h);have s3:=uE h hn hk hl hl hz hd (fun _ _ _ h=>h);have s4:=uE h hn hk hw hw hd hz (fun _ _ _ h=>h);have s5:=uE h hn hk hw hw hz hd (fun _ _ _ h=>h);have f1:=EP m1;have f2:=EP m2;have z1:=Hy t1 m1;have z2:=Hy t2 m2;have q:=Xh t1 t2 m1 m2 p1;generalize (oK x k near none).length=r1 at *;generalize (oK x k (pP near more) none).length=r2 at *;generalize (oK x k near (some dual)).length=u1 at *;generalize (oK x k (pP near more) (some dual)).length=u2 at *;obtain⟨_,_,x1,x2⟩:=c1;obtain⟨_,_,y1,y2⟩:=c2;by_cases hc:c>8192
 · rw[if_pos hc]at e3
   refine⟨a,ok,b,is,0,4,_,_,e1,e2,e3,rfl,⟨z1,z2⟩,q,.inr rfl,fun e=>absurd e (by decide)⟩
 · rw[if_neg hc]at e3
   have hr1:(0:Int)+r1≤8192:=by
     rcases Int.lt_or_le 8192 (0+(r1:Int))with h0|h0
     · exact absurd (x2 h0) hc
     · exact h0
   have hc1:=x1 hr1;have hc2:=y1 (by omega);rw[if_neg (by omega)]at e4;refine⟨a,ok,b,is,c,0,c',0,e1,e2,e3,e4,⟨z1,z2⟩,q,.inl rfl,fun _=>⟨rfl,by omega,?_,?_⟩⟩
   · rw[f1,Bool.eq_iff_iff];simp only[decide_eq_true_eq];omega
   · rw[f2,Bool.eq_iff_iff];simp only[decide_eq_true_eq];omega
def sU(x:Instance)(l:List ByteArray):Bool:=(decide (l.length=x.orders.length)&&oE l)&&l.all fun s=>cM s
theorem JL{x:Instance}{l:List ByteArray}(h:sU x l=true):l.length=x.orders.length∧(∀a∈l,a.size≤40)∧∀a∈l,cM a=true:=by
 unfold sU at h;simp only[Bool.and_eq_true,decide_eq_true_eq,List.all_eq_true]at h;exact⟨h.1.1,(HE h.1.2).2,h.2⟩
theorem Pg{x:Instance}{l:List ByteArray}(h:sU x l=true):DuB x.orders.length (some l) l:=by
 obtain⟨h1,h2,h3⟩:=JL h;exact Vg h1 fun a ha=>Vl.text (h3 a ha) (by have:=h2 a ha;omega)
theorem IJ(x:Instance)(l:List ByteArray)(hx:x.orders.length≤1048576)(hl:l.length≤1048576)(hs:∀a∈l,a.size≤1048576):PC Tryz.prog 23 [.agg (aQ x),.sl (l.map Go.Aw.D.dZ)] (boo (sU x l)):=by
 have hsh:=Io l hl;refine PC.body (c:=Tryz.f23.body.getD .skip) (fun _=>false) mixed Tryz.func23 rfl (by kernel_rfl) ?_;unfold Tryz.f23;simp only[Option.getD_some];simp only[go_sem];refine⟨_,fun _=>hsh.q rfl,?_⟩;simp only[go_sem,List.length_map];refine aA (fun hb=>?_) (fun hb=>?_)
 · have : sU x l = false := by
     unfold sU;by_cases h1:l.length=x.orders.length
     · cases h2:oE l with
       | false=>rw[Bool.and_false,Bool.false_and]
       | true=>rw[h2,h1]at hb;simp at hb
     · rw[decide_eq_false h1,Bool.false_and,Bool.false_and]
   rw[this];simp only[go_sem];exact .refl _
 have hb2:l.length=x.orders.length∧oE l=true:=by
   cases h2:oE l <;> rw[h2]at hb <;> simp at hb;exact⟨by omega,rfl⟩
 simp only[go_sem];refine⟨fun ρ H=>∃(k:Nat),k≤l.length∧ρ 18=.sl (l.map Go.Aw.D.dZ)∧ρ 19=int (l.length:Nat)∧ρ 20=int k∧(∀a,a∈l.take k→cM a=true),fun ρ _=>l.length-bR (ρ 20),⟨0,Nat.zero_le _,by simp only[go_sem],by simp only[go_sem,List.length_map],(by simp only[go_sem];rfl),by intro a ha;simp at ha⟩,?_⟩;rintro ρ H ⟨k,hk,e18,e19,e20,hz⟩;simp only[go_sem,e18,e19,e20];refine aA (fun hlt=>?_) (fun hge=>?_)
 · have hlt:=ltB (by simpa using hlt)
   obtain⟨a,ha⟩:=bA hlt;have b1:=inB hlt;simp only[go_sem,e18,e19,e20,aH ha,b1];refine PC.use (rK a (hs a (List.mem_of_getElem? ha))) ?_;simp only[go_sem,e18,e19,e20];refine aA (fun hb=>?_) (fun hb=>?_)
   · have : sU x l = false := by
       rw[Bool.eq_false_iff];intro h;have:=(JL h).2.2 a (List.mem_of_getElem? ha);rw[this]at hb;cases hb
     rw[this];simp only[go_sem];exact .refl _
   · simp only[go_sem,e18,e19,e20,bG (show k≤4611686018427387904 by omega)]
     refine⟨⟨k+1,hlt,rfl,fun b hbm=>?_⟩,by simp only[aI];omega⟩;rw[cH ha,List.mem_append]at hbm;rcases hbm with hbm|hbm
     · exact hz b hbm
     · simp at hbm;subst hbm;simpa using hb
 have hge:=geB hk (by simpa using hge);subst hge;rw[List.take_length]at hz;have:sU x l=true:=by
   unfold sU;rw[decide_eq_true hb2.1,hb2.2];exact List.all_eq_true.2 hz
 rw[this];simp only[go_sem];exact .refl _
theorem Do(x:Instance)(kind:Int)(dual:List ByteArray)(near more:List Int)(h:InB x)(hdl:dual.length≤1048576)(hds:∀a∈dual,a.size≤1048576)(hnl:near.length≤1048576)(hml:more.length≤1048576):
   PC Tryz.prog 6 [.agg (aQ x),int kind,.sl (dual.map Go.Aw.D.dZ),.sl (near.map aM),.sl (more.map aM)] (boo true):=by
 have hr:=IW x h;by_cases hR:xE x=true
 case neg=>
   have hR:xE x=false:=by simpa using hR
   refine PC.body (c:=Tryz.f6.body.getD .skip) (fun t=>t == 11||t == 87) mixed Tryz.func6 rfl (by kernel_rfl) ?_;unfold Tryz.f6;simp only[Option.getD_some];simp only[go_sem];refine PC.use hr ?_;simp only[go_sem,List.length_map,hR];refine⟨boo false,fun h=>absurd h (by simp),?_⟩;simp only[go_sem];refine⟨boo false,fun h=>absurd h (by simp),?_⟩;simp only[go_sem];refine⟨boo false,fun h=>absurd h (by simp),?_⟩;simp only[go_sem];refine aA (fun _=>?_) (fun hb=>by simp at hb);simp only[go_sem];refine PC.use sW ?_;simp only[go_sem];exact .refl _
 obtain⟨hc,hn⟩:=RL hR;have hacc:=Q4 hc;have hD:=IJ x dual (by omega) hdl hds;have hL1:=Ia x near (by omega) hnl;have hL2:=Ia x more (by omega) hml;refine PC.body (c:=Tryz.f6.body.getD .skip) (fun t=>t == 11||t == 87) mixed Tryz.func6 rfl (by kernel_rfl) ?_;unfold Tryz.f6;simp only[Option.getD_some];simp only[go_sem];refine PC.use hr ?_;simp only[go_sem,List.length_map,hR];refine⟨_,fun _=>hD.q rfl,?_⟩;simp only[go_sem];refine⟨_,fun _=>hL1.q rfl,?_⟩;simp only[go_sem];refine⟨_,fun _=>hL2.q rfl,?_⟩;simp only[go_sem];refine aA (fun hb=>?_) (fun hb=>?_)
 · simp only[go_sem]
   refine PC.use sW ?_;simp only[go_sem];exact .refl _
 simp only[Bool.not_true,Bool.false_or,Bool.or_eq_false_iff,decide_eq_false_iff_not,Bool.not_eq_false']at hb;obtain⟨⟨⟨⟨b1,b2⟩,b3⟩,b4⟩,b5⟩:=hb;obtain⟨k0,rfl⟩:=Int.eq_ofNat_of_zero_le (show 0≤kind by omega);have hk0:k0<x.types.length:=by omega
 obtain⟨ln,_⟩:=kO b4 (by omega);obtain⟨lm,_⟩:=kO b5 (by omega);obtain⟨a,ok,b,is,n,g,m,g',e1,e2,e3,e4,⟨z1,z2⟩,q1,q2,q3⟩:=LL hc hn hk0 b4 b5 (Pg b3);have hxb:=XJ hacc (show x.orders.length≤8 by omega);have c1:=Bv x hxb hn (k0:Nat) dual near hnl hdl hds;have c2:=Bv x hxb hn (k0:Nat) dual (pP near more) (by unfold pP;rw[List.length_zipWith];omega) hdl hds;have c3:=Ch x hxb (k0:Nat) near hnl;have c4:=Ch x hxb (k0:Nat) (pP near more) (by unfold pP;rw[List.length_zipWith];omega);have c5:=Nu.mZ a b z1 z2;rw[e1]at c1;rw[e2]at c2;rw[e3]at c3;rw[e4]at c4;clear e1 e2 e3 e4 hr hD hL1 hL2;simp only[go_sem,List.length_map];refine aN fun j hj0=>?_
 generalize hGj:aJ _ j _=HGj;have R:HGj j=some (kG []):=by rw[←hGj,aB];try rfl
 clear hGj hj0;simp only[go_sem,R];refine⟨fun ρ H=>∃(k:Nat) (j:Nat),k≤near.length∧ρ 1=int (k0:Nat)∧ρ 2=.sl (dual.map Go.Aw.D.dZ)∧ρ 3=.sl (near.map aM)∧ρ 4=.sl (more.map aM)∧ρ 5=.rp (aQ x) 0∧ρ 57=int (near.length:Nat)∧ρ 58=int k∧ρ 11=.os j∧H j=some (kG (List.zipWith (fun a b=>mP .or .i64 a b) (near.take k) (more.take k))),fun ρ _=>near.length-bR (ρ 58),⟨0,j,Nat.zero_le _,by simp only[go_sem],by simp only[go_sem],by simp only[go_sem],by simp only[go_sem],by simp only[go_sem],by simp only[go_sem,List.length_map],(by simp only[go_sem];rfl),by simp only[go_sem],R⟩,?_⟩;rintro ρ H ⟨k,j,hk,e1,e2,e3,e4,e5,e57,e58,e11,R⟩;simp only[go_sem,e1,e2,e3,e4,e5,e57,e58,e11];refine aA (fun hlt=>?_) (fun hge=>?_)
 · have hlt:=ltB (by simpa using hlt)
   obtain⟨u,hu⟩:=bA hlt;obtain⟨v,hv⟩:=bA (l:=more) (k:=k) (by omega);have d1:=inB hlt;have d2:=inB (show k<more.length by omega);have hs:=Pj (fun a b=>mP .or .i64 a b) hu hv;have hln:(List.zipWith (fun a b=>mP .or .i64 a b) (near.take k) (more.take k)).length≤k:=by rw[List.length_zipWith,List.length_take];omega
   generalize List.zipWith (fun a b=>mP .or .i64 a b) (near.take k) (more.take k)=L at *;simp only[go_sem,e1,e2,e3,e4,e5,e57,e58,e11];refine kR [(0,true),(1,true),(2,true),(3,true),(4,true),(5,true),(6,true),(7,true),(8,true),(9,true),(10,false),(11,false),(12,true)] (by kernel_rfl) ?_;simp only[go_sem,e1,e2,e3,e4,e5,e57,e58,e11,aH hu,aH hv,d1,d2];refine bC R ⟨rfl,rfl⟩ (by simp only[go_sem]) (by simp only[List.length_map,List.length_cons,List.length_nil];omega) (fun j2 hj2=>?_);simp only[go_sem,e1,e2,e3,e4,e5,e57,e58,e11,bG (show k≤4611686018427387904 by omega)];refine⟨⟨k+1,j2,hlt,rfl,rfl,?_⟩,by simp only[aI];omega⟩;rw[hs,aB];refine congrArg (fun l=>some (⟨3,1,l⟩:Row)) ?_;rw[List.map_append];rfl
 have hge:=geB hk (by simpa using hge);subst hge;rw[List.take_length,List.take_of_length_le (by omega)]at R;simp only[go_sem,e1,e2,e3,e4,e5,e57,e58,e11];refine PC.use c1 ?_;simp only[go_sem,e1,e2,e3,e4,e5,e57,e58,e11];refine zK (by simp only[go_sem,e1,e2,e3,e4,e5,e57,e58,e11]) R fun Hr _ _=>?_
 simp only[go_sem,e1,e2,e3,e4,e5,e57,e58,e11];refine PC.use c2 ?_;simp only[go_sem,e1,e2,e3,e4,e5,e57,e58,e11];refine PC.use c3 ?_;simp only[go_sem,e1,e2,e3,e4,e5,e57,e58,e11];refine PC.use c4 ?_;simp only[go_sem,e1,e2,e3,e4,e5,e57,e58,e11];refine aA (fun hb=>?_) (fun hb=>?_)
 · exfalso
   cases is with
   | false=>simp at hb
   | true=>rw[(q1 rfl).1]at hb;simp at hb
 simp only[go_sem];refine aA (fun hb=>?_) (fun hb=>?_)
 · have hg : g = 4 := by
     rcases q2 with q2|q2
     · rw[q2]at hb;simp at hb
     · exact q2
   subst hg;simp only[go_sem];refine⟨_,fun _=>sW.q rfl,?_⟩;simp only[go_sem];exact .refl _
 have hg:g=0:=by simpa using hb
 obtain⟨r1,r2,r3,r4⟩:=q3 hg;subst r1;subst hg;simp only[go_sem];refine⟨_,fun _=>c5.q rfl,?_⟩;simp only[go_sem];refine⟨_,fun _=>sW.q rfl,?_⟩;simp only[go_sem];refine eH ?_;rw[r3,r4,decide_eq_true r2];cases is with
 | false=>simp
 | true=>rw[decide_eq_true (q1 rfl).2];simp
end Go.Proofs.YtdlijlecpopadaaGreatDoor.Rx
end
section
namespace Go.Aw.D
open Go.Aw Go.RowKit Go.Proofs Go.Proofs.YtdlijlecpopadaaGreatDoor Go.WideShapes Go.ChangeShapes
section
variable{H:Type}{e:TypeId×Value→H}{w:World}
theorem TH:Rd e (BK H) Tryz.prog w 43 (fun l:List ByteArray=>[.sl (l.map dZ)]) (bL Ib):=nY (sz:=1) Tryz.underlying43 (by kernel_rfl) (by omega) (fun _=>rfl) (F9 Tryz.underlying46)
end
theorem U9{H:Type}{e:TypeId×Value→H}{P:Program}{W:World}{t:TypeId}{r:Reach}{b0:Nat}{v:Value}{d:DataW H}{ps:List MemPlace}(ht:P.underlying t=some (.int .i64))
   (hval:Value.okWide P W r b0 t v) (hd:DataW.Trod e P W 0 (fun _=>true) true t v d ps):∃x:Int,rep (Sw W) W (.v (.int .i64 x)) v∧∀n,BK H d≤n→jU n x:=by
 obtain⟨x,rfl⟩:=okWide_int ht hval;obtain⟨fuel,h⟩:=hd;obtain⟨n,h1,_,hw⟩:=DataW.trod_int ht h;have h2:(Value.int .i64 x)=.int .i64 n:=by
   have:(Value.cells (.int .i64 x))=#[.int .i64 x]:=rfl;rw[this]at h1;simpa using h1
 cases h2;exact⟨x,by simp only[rep],fun _ _=>bounds_i64 hw⟩
theorem FE{H:Type}{enc:TypeId×Value→H}{P:Program}{w:World}{base:Nat}{spare:TypeId→Bool}{held:Bool}{t0 t1 t2 t3 t4:TypeId}{args:Array Value}{ds:List (DataW H)}{ps:List MemPlace}(h:DataW.TrodAll enc P w base spare held [t0,t1,t2,t3,t4] args.toList ds ps):
   ∃v0 v1 v2 v3 v4 d0 d1 d2 d3 d4 p0 p1 p2 p3 p4,args=#[v0,v1,v2,v3,v4]∧ds=[d0,d1,d2,d3,d4]∧ps=p0++p1++p2++p3++p4∧DataW.Trod enc P w base spare held t0 v0 d0 p0∧DataW.Trod enc P w base spare held t1 v1 d1 p1∧DataW.Trod enc P w base spare held t2 v2 d2 p2∧DataW.Trod enc P w base spare held t3 v3 d3 p3∧DataW.Trod enc P w base spare held t4 v4 d4 p4:=by
 obtain⟨v0,vs0,d0,ds0,p0,q0,hargs,rfl,rfl,hd0,h0⟩:=trodAll_cons h;obtain⟨v1,vs1,d1,ds1,p1,q1,rfl,rfl,rfl,hd1,h1⟩:=trodAll_cons h0;obtain⟨v2,vs2,d2,ds2,p2,q2,rfl,rfl,rfl,hd2,h2⟩:=trodAll_cons h1;obtain⟨v3,vs3,d3,ds3,p3,q3,rfl,rfl,rfl,hd3,h3⟩:=trodAll_cons h2;obtain⟨v4,vs4,d4,ds4,p4,q4,rfl,rfl,rfl,hd4,h4⟩:=trodAll_cons h3;obtain⟨rfl,rfl,rfl⟩:=trodAll_nil h4;exact⟨v0,v1,v2,v3,v4,d0,d1,d2,d3,d4,p0,p1,p2,p3,p4,by cases args;simp_all,rfl,by simp,hd0,hd1,hd2,hd3,hd4⟩
def GO:List (String×DataW Unit):=[("math/bits.deBruijn32tab",Go.Proofs.YtdlijlecpopadaaGreatDoor.Rows.laid_math_bits_deBruijn32tab),("math/bits.deBruijn64tab",Go.Proofs.YtdlijlecpopadaaGreatDoor.Rows.laid_math_bits_deBruijn64tab),("internal/strconv.uint64pow10",Go.Proofs.YtdlijlecpopadaaGreatDoor.Rows.laid_internal_strconv_uint64pow10)]
theorem SV:(Go.Proofs.YtdlijlecpopadaaGreatDoor.Rows.laid_math_bits_deBruijn64tab:DataW Unit)=Lib.tabData .u8 (Lib.deBruijn64tab.map fun z:Nat=>(z:Int)):=by kernel_rfl
theorem PN:(Go.Proofs.YtdlijlecpopadaaGreatDoor.Rows.laid_internal_strconv_uint64pow10:DataW Unit)=Lib.tabData .u64 Lib.pow10Tab:=by kernel_rfl
theorem Pp{W:World}(h:laidMetH Tryz.prog GO W):GQ W:=by
 have h0:laidMet Tryz.prog GO W:=(Go.MakeChecks.laidMetH_plain Tryz.prog GO W (by kernel_rfl))▸h;have h1:=laidMet.tail h0;have h2:=laidMet.tail h1;rw[SV]at h1;rw[PN]at h2;have b:=Lib.tabIs_of_head (g:=3) (by kernel_rfl) (by kernel_rfl) (t:=368) (e:=5) (n:=64) Tryz.underlying368 Tryz.underlying5 (by kernel_rfl) (by kernel_rfl) h1;have p:=Lib.tabIs_of_head (g:=1) (by kernel_rfl) (by kernel_rfl) (t:=341) (e:=299) (n:=20) Tryz.underlying341 Tryz.underlying299 (by kernel_rfl) (by kernel_rfl) h2;unfold Lib.TabIs World.var? at b p;rw[show Tryz.prog.globalNamed "math/bits.deBruijn64tab" = some 3 by kernel_rfl]at b;rw[show Tryz.prog.globalNamed "internal/strconv.uint64pow10" = some 1 by kernel_rfl]at p;intro t ht;simp only[N5,List.mem_cons,List.not_mem_nil,or_false]at ht;rcases ht with rfl|rfl
 · exact p
 · have:Mf=((Lib.deBruijn64tab.map fun z:Nat=>(z:Int)).map fun z=>Value.int .u8 z).toArray:=by simp[Mf]
   rw[this];exact b
end Go.Aw.D
end
