/- Texts joined by a program: RxY, RxZ. -/
import Derived.Test.YtdlijlecpopadaaGreatDoorZz35

section
set_option linter.unusedSimpArgs false
set_option linter.unusedVariables false
namespace Go.Proofs.YtdlijlecpopadaaGreatDoor.Rx
open Go.Aw Go.Aw.D Go.Proofs Ty
open Sq
set_option maxRecDepth 100000
theorem T5(n:Network)(p f g a b:Int):(dM n p f g a).2=(dM n p f g b).2:=by
 unfold dM;split
 · rfl
 · split
   · rfl
   · cases jP n p f g <;> rfl
theorem M7{n:Network}(hn:∀a∈n.arcs,ArcOk a){p f g t:Int}(ht:0≤t∧t≤12288)(h:(dM n p f g t).2.2=0):0≤(dM n p f g t).1∧(dM n p f g t).1≤1000000000:=by
 unfold dM at h ⊢;split
 · rename_i h1;rw[if_pos h1]at h;cases h
 · rename_i h1
   rw[if_neg h1]at h;split
   · simp only;omega
   · rename_i h2
     rw[if_neg h2]at h;cases e:jP n p f g with
     | none=>rw[e]at h;cases h
     | some a=>
       have hm:a∈n.arcs:=by
         unfold jP at e;exact List.mem_of_find?_eq_some e
       exact MK (hn a hm) ht
def mil(n:Network)(t:VType)(place goal:Int):Int:=(dM n t.profile place goal 0).2.1
def CF(n:Network)(t:VType)(place goal:Int)(c:Clk):Option Clk:=
 if((dM n t.profile place goal c.ready).2.2 == 0&&decide (W (W (c.since+(dM n t.profile place goal c.ready).1)-c.ready)≤t.drive))=true
 then some ⟨(dM n t.profile place goal c.ready).1,W (W (c.since+(dM n t.profile place goal c.ready).1)-c.ready)⟩else none
def both(t:VType)(l:List Clk):List Clk:=l.flatMap fun c=>[c,oE t c]
theorem JM(n : Network)(t : VType)(place goal : Int)(s : List Clk × Int)(c : Clk)(hs : s.1 ≠ [] → s.2 = mil n t place goal):
   (vN n t place goal s c).1=s.1++(CF n t place goal c).toList∧((vN n t place goal s c).1≠[]→(vN n t place goal s c).2=mil n t place goal):=by
 unfold vN CF;split
 · exact⟨rfl,fun _=>by show(dM n t.profile place goal c.ready).2.1=_;rw[T5 n t.profile place goal c.ready 0];rfl⟩
 · exact⟨by simp,hs⟩
theorem Ep(n : Network)(t : VType)(place goal : Int): ∀ (l : List Clk) (s : List Clk × Int), (s.1 ≠ [] → s.2 = mil n t place goal) →
   (l.foldl (zW n t place goal) s).1=s.1++(both t l).filterMap (CF n t place goal)∧((l.foldl (zW n t place goal) s).1≠[]→(l.foldl (zW n t place goal) s).2=mil n t place goal)
 | [],s,hs=>⟨by simp[both],hs⟩
 | c::l,s,hs=>by
   obtain⟨a1,a2⟩:=JM n t place goal s c hs;obtain⟨b1,b2⟩:=JM n t place goal (vN n t place goal s c) (oE t c) a2;obtain⟨c1,c2⟩:=Ep n t place goal l (zW n t place goal s c) b2;refine⟨?_,c2⟩;rw[List.foldl_cons,c1];show(vN n t place goal (vN n t place goal s c) (oE t c)).1++_=_;rw[b1,a1];have e:both t (c::l)=c::oE t c::both t l:=rfl;rw[e,List.filterMap_cons,List.filterMap_cons];cases CF n t place goal c <;> cases CF n t place goal (oE t c) <;> simp
theorem lI(n:Network)(t:VType)(place goal:Int)(l:List Clk):(bH n t place goal l).1=(both t l).filterMap (CF n t place goal)∧((bH n t place goal l).1≠[]→(bH n t place goal l).2=mil n t place goal):=by
 have:=Ep n t place goal l ([],0) (fun h=>absurd rfl h);exact⟨by unfold bH;rw[this.1];rfl,this.2⟩
def AH(n:Network)(t:VType)(place goal close:Int)(m:Mom):Option Mom:=
 if(((dM n t.profile place goal m.time).2.2 == 0&&decide ((dM n t.profile place goal m.time).1≤close))&&decide (W (W (m.driven+(dM n t.profile place goal m.time).1)-m.time)≤t.drive))=true
 then some ⟨(dM n t.profile place goal m.time).1,W (W (m.driven+(dM n t.profile place goal m.time).1)-m.time)⟩else none
theorem K5(n : Network)(t : VType)(place goal close : Int): ∀ (l : List Mom) (s : List Mom × Int),
   (l.foldl (BM n t place goal close) s).1=s.1++l.filterMap (AH n t place goal close)∧(l≠[]→(l.foldl (BM n t place goal close) s).2=mil n t place goal)
 | [],s=>⟨by simp,fun h=>absurd rfl h⟩
 | m::l,s=>by
   obtain⟨c1,c2⟩:=K5 n t place goal close l (BM n t place goal close s m);refine⟨?_,fun _=>?_⟩
   · rw[List.foldl_cons,c1,List.filterMap_cons]
     unfold BM AH;simp only;split <;> simp
   · rw[List.foldl_cons]
     by_cases hl:l=[]
     · subst hl
       show(dM n t.profile place goal m.time).2.1=_;rw[T5 n t.profile place goal m.time 0];rfl
     · exact c2 hl
theorem tI(n:Network)(t:VType)(place goal close:Int)(l:List Mom):(fT n t place goal close l).1=l.filterMap (AH n t place goal close)∧((fT n t place goal close l).1≠[]→(fT n t place goal close l).2=mil n t place goal):=by
 have:=K5 n t place goal close l ([],0);have h1:(fT n t place goal close l).1=l.filterMap (AH n t place goal close):=by unfold fT;rw[this.1];rfl
 refine⟨h1,fun h=>this.2 fun e=>?_⟩;rw[h1,e]at h;exact h rfl
def okC(s:Stop)(c:Clk):Prop:=kF c.ready s.start≤s.close
def BD(s:Stop)(c:Clk):Clk:=⟨W (kF c.ready s.start+s.service),c.since⟩
theorem Ra{s:Stop}{c:Clk}(h:okC s c):jE s c.ready=(W (kF c.ready s.start+s.service),0):=by
 unfold jE okC at *;rw[if_neg (by omega)]
theorem QV{s:Stop}{c:Clk}(h:¬okC s c):(jE s c.ready).2=14:=by
 unfold jE okC at *;rw[if_pos (by omega)]
theorem oX{c d:Clk}:iF c d=true↔c.ready=d.ready∧c.since≤d.since:=by
 unfold iF;simp
theorem BV(s : Stop): ∀ (l : List Clk) (out P : List Clk), (∀ e ∈ out, ∃ c ∈ P, okC s c ∧ e = BD s c) → (∀ c ∈ P, okC s c → ∃ e ∈ out, iF e (BD s c) = true) →
   (∀e∈l.foldl (yY s) out,∃c∈P++l,okC s c∧e=BD s c)∧(∀c∈P++l,okC s c→∃e∈l.foldl (yY s) out,iF e (BD s c)=true)
 | [],out,P,h1,h2=>by simpa using⟨h1,h2⟩
 | c::l,out,P,h1,h2=>by
   have key:(∀e∈yY s out c,∃d∈P++[c],okC s d∧e=BD s d)∧(∀d∈P++[c],okC s d→∃e∈yY s out c,iF e (BD s d)=true):=by
     have sub:∀e∈out,∃d∈P++[c],okC s d∧e=BD s d:=fun e he=>by
       obtain⟨d,hd,h⟩:=h1 e he;exact⟨d,List.mem_append_left _ hd,h⟩
     by_cases hok:okC s c
     · have hdp:=Ra hok
       unfold yY;rw[hdp];simp only[bne_self_eq_false,Bool.false_eq_true,if_false];have hn:(⟨W (kF c.ready s.start+s.service),c.since⟩:Clk)=BD s c:=rfl;rw[hn];split
       · rename_i hb
         obtain⟨e,he,hbe⟩:=List.any_eq_true.1 hb;refine⟨sub,fun d hd hdo=>?_⟩;rcases List.mem_append.1 hd with hd|hd
         · exact h2 d hd hdo
         · rw[List.mem_singleton.1 hd];exact⟨e,he,hbe⟩
       · refine⟨fun e he=>?_,fun d hd hdo=>?_⟩
         · rcases List.mem_append.1 he with he|he
           · exact sub e (List.mem_filter.1 he).1
           · rw[List.mem_singleton.1 he];exact⟨c,by simp,hok,rfl⟩
         · rcases List.mem_append.1 hd with hd|hd
           · obtain⟨e,he,hbe⟩:=h2 d hd hdo
             by_cases hbn:iF (BD s c) e=true
             · refine⟨BD s c,by simp,?_⟩
               have q1:=oX.1 hbn;have q2:=oX.1 hbe;exact oX.2 ⟨q1.1.trans q2.1,by omega⟩
             · exact⟨e,List.mem_append_left _ (List.mem_filter.2 ⟨he,by simp[hbn]⟩),hbe⟩
           · rw[List.mem_singleton.1 hd]
             exact⟨BD s c,by simp,oX.2 ⟨rfl,Int.le_refl _⟩⟩
     · have hdp:=QV hok
       unfold yY;rw[hdp];simp only[show((14:Int) != 0)=true from rfl,if_true];refine⟨sub,fun d hd hdo=>?_⟩;rcases List.mem_append.1 hd with hd|hd
       · exact h2 d hd hdo
       · rw[List.mem_singleton.1 hd]at hdo;exact absurd hdo hok
   have:=BV s l (yY s out c) (P++[c]) key.1 key.2;rw[List.append_assoc]at this;exact this
theorem rQ(s:Stop)(l:List Clk):(∀e∈eA s l,∃c∈l,okC s c∧e=BD s c)∧(∀c∈l,okC s c→∃e∈eA s l,iF e (BD s c)=true):=by
 have:=BV s l [] [] (by simp) (by simp);simpa[eA]using this
structure Cr(k:Nat)(cs:List Clk)(R:List Mom):Prop where
 sub:∀c∈cs,(⟨c.ready,c.since⟩:Mom)∈R
 dom:∀m∈R,∃c∈cs,c.ready=m.time∧c.since≤m.driven
 rng:∀m∈R,(0≤m.time∧m.time≤8192)∧ -(12288*(k:Int))≤m.driven∧m.driven≤4096
theorem pN{t:VType}{l:List Clk}{c:Clk}:c∈both t l↔∃d∈l,c=d∨c=oE t d:=by
 unfold both;simp[List.mem_flatMap]
theorem uP{t:VType}{l:List Mom}{m:Mom}:m∈cO t l↔∃d∈l,m=d∨m=Pd t d:=by
 unfold cO;simp[List.mem_flatMap]
section
variable{n:Network}{t:VType}{place goal:Int}{k:Nat}{cs:List Clk}{R:List Mom}
theorem yX(ht:0≤t.rest∧t.rest≤4096)(h:Cr k cs R){m:Mom}(hm:m∈cO t R):(0≤m.time∧m.time≤12288)∧ -(12288*(k:Int))≤m.driven∧m.driven≤4096:=by
 obtain⟨d,hd,rfl|rfl⟩:=uP.1 hm
 · have:=h.rng _ hd;omega
 · have:=h.rng d hd
   show(0≤W (d.time+t.rest)∧W (d.time+t.rest)≤12288)∧ -(12288*(k:Int))≤0∧(0:Int)≤4096;rw[bP (by omega)];omega
theorem xD(h:Cr k cs R){c:Clk}(hc:c∈both t cs):(⟨c.ready,c.since⟩:Mom)∈cO t R:=by
 obtain⟨d,hd,rfl|rfl⟩:=pN.1 hc
 · exact uP.2 ⟨_,h.sub c hd,.inl rfl⟩
 · exact uP.2 ⟨_,h.sub d hd,.inr rfl⟩
theorem LD(h:Cr k cs R){m:Mom}(hm:m∈cO t R):∃c∈both t cs,c.ready=m.time∧c.since≤m.driven:=by
 obtain⟨d,hd,rfl|rfl⟩:=uP.1 hm
 · obtain⟨c,hc,h1,h2⟩:=h.dom m hd
   exact⟨c,pN.2 ⟨c,hc,.inl rfl⟩,h1,h2⟩
 · obtain⟨c,hc,h1,h2⟩:=h.dom d hd
   exact⟨oE t c,pN.2 ⟨c,hc,.inr rfl⟩,by show W (c.ready+t.rest)=W (d.time+t.rest);rw[h1],Int.le_refl _⟩
theorem Nz{close : Int}{m a : Mom}(h : AH n t place goal close m = some a):
   (dM n t.profile place goal m.time).2.2=0∧a.time=(dM n t.profile place goal m.time).1∧a.time≤close∧a.driven=W (W (m.driven+a.time)-m.time)∧a.driven≤t.drive:=by
 unfold AH at h;split at h
 · rename_i hb
   simp only[Bool.and_eq_true,beq_iff_eq,decide_eq_true_eq]at hb;injection h with h;subst h;exact⟨hb.1.1,rfl,hb.1.2,rfl,hb.2⟩
 · cases h
theorem yD{c a : Clk}(h : CF n t place goal c = some a):
   (dM n t.profile place goal c.ready).2.2=0∧a.ready=(dM n t.profile place goal c.ready).1∧a.since=W (W (c.since+a.ready)-c.ready)∧a.since≤t.drive:=by
 unfold CF at h;split at h
 · rename_i hb
   simp only[Bool.and_eq_true,beq_iff_eq,decide_eq_true_eq]at hb;injection h with h;subst h;exact⟨hb.1,rfl,rfl,hb.2⟩
 · cases h
theorem Ho(ha : ∀ a ∈ n.arcs, ArcOk a)(ht : 0 ≤ t.rest ∧ t.rest ≤ 4096)(hk : k ≤ 16)(h : Cr k cs R){close : Int}{a : Mom}(hm : a ∈ (cO t R).filterMap (AH n t place goal close)):
   a.time≤close∧(0≤a.time∧a.time≤1000000000)∧(-(12288*((k+1:Nat):Int))≤a.driven∧a.driven≤t.drive)∧∃d∈(both t cs).filterMap (CF n t place goal),d.ready=a.time∧d.since≤a.driven:=by
 obtain⟨m,hm,hf⟩:=List.mem_filterMap.1 hm;obtain⟨h1,h2,h3,h4,h5⟩:=Nz hf;have hr:=yX ht h hm;have hg:=M7 ha hr.1 h1;rw[←h2]at hg;obtain⟨c,hc,c1,c2⟩:=LD (t:=t) h hm;have hcr:=yX ht h (xD h hc);simp only at hcr;have e1:W (W (m.driven+a.time)-m.time)=m.driven+a.time-m.time:=by rw[bP (n:=m.driven+a.time) (by omega),bP (by omega)]
 have e2:W (W (c.since+a.time)-c.ready)=c.since+a.time-c.ready:=by rw[bP (n:=c.since+a.time) (by omega),bP (by omega)]
 refine⟨h3,hg,⟨?_,h5⟩,⟨⟨a.time,W (W (c.since+a.time)-c.ready)⟩,List.mem_filterMap.2 ⟨c,hc,?_⟩,rfl,?_⟩⟩
 · rw[h4,e1];omega
 · unfold CF
   rw[c1,h1,←h2];rw[c1]at e2;rw[if_pos];simp only[beq_self_eq_true,Bool.true_and,decide_eq_true_eq];rw[e2];rw[h4,e1]at h5;omega
 · show W (W (c.since+a.time)-c.ready)≤a.driven
   rw[e2,h4,e1];omega
theorem Sf(h:Cr k cs R){close:Int}{d:Clk}(hd:d∈(both t cs).filterMap (CF n t place goal))(hc:d.ready≤close):(⟨d.ready,d.since⟩:Mom)∈(cO t R).filterMap (AH n t place goal close):=by
 obtain⟨c,hcb,hf⟩:=List.mem_filterMap.1 hd;obtain⟨h1,h2,h3,h4⟩:=yD hf;refine List.mem_filterMap.2 ⟨_,xD h hcb,?_⟩;unfold AH;simp only;rw[←h2,h1,←h3,if_pos];simp only[beq_self_eq_true,Bool.true_and,Bool.and_eq_true,decide_eq_true_eq];exact⟨hc,h4⟩
theorem IN{a b c:Int}:kF a b≤c↔a≤c∧b≤c:=by unfold kF;split <;> omega
theorem OF(a b:Int):a≤kF a b∧b≤kF a b:=by unfold kF;split <;> omega
theorem UL(ha : ∀ a ∈ n.arcs, ArcOk a)(ht : 0 ≤ t.rest ∧ t.rest ≤ 4096)(hdr : t.drive ≤ 4096)(hk : k ≤ 16)(h : Cr k cs R){s : Stop}(hs : (0 ≤ s.start ∧ s.start ≤ s.close) ∧ s.close ≤ 4096 ∧ 0 ≤ s.service ∧ s.service ≤ 4096):
   Cr (k+1) (eA s (bH n t place goal cs).1) (kK s (fT n t place goal s.close (cO t R)).1)∧(eA s (bH n t place goal cs).1=[]↔(fT n t place goal s.close (cO t R)).1=[]) ∧
   ((fT n t place goal s.close (cO t R)).1≠[]→(bH n t place goal cs).2=(fT n t place goal s.close (cO t R)).2):=by
 obtain⟨d1,d2⟩:=lI n t place goal cs;obtain⟨a1,a2⟩:=tI n t place goal s.close (cO t R);obtain⟨s1,s2⟩:=rQ s (bH n t place goal cs).1;rw[d1]at s1 s2;have hsub:∀e∈eA s (bH n t place goal cs).1,∃a∈(fT n t place goal s.close (cO t R)).1,(⟨e.ready,e.since⟩:Mom)=⟨W (kF a.time s.start+s.service),a.driven⟩:=fun e he=>by
   obtain⟨c,hc,hok,rfl⟩:=s1 e (by rw[←d1];exact he);have hcl:c.ready≤s.close:=(IN.1 hok).1;exact⟨⟨c.ready,c.since⟩,by rw[a1];exact Sf h hc hcl,rfl⟩
 have hdom:∀a∈(fT n t place goal s.close (cO t R)).1,((0≤a.time∧a.time≤s.close)∧(-(12288*((k+1:Nat):Int))≤a.driven∧a.driven≤t.drive))∧∃e∈eA s (bH n t place goal cs).1,e.ready=W (kF a.time s.start+s.service)∧e.since≤a.driven:=fun a hm=>by
   rw[a1]at hm;obtain⟨h1,h2,h3,d,hd,q1,q2⟩:=Ho ha ht hk h hm;refine⟨⟨⟨h2.1,h1⟩,h3⟩,?_⟩;obtain⟨e,he,hb⟩:=s2 d hd (by unfold okC;rw[q1];exact IN.2 ⟨h1,hs.1.2⟩);have hb:=oX.1 hb;refine⟨e,by rw[d1];exact he,?_,?_⟩
   · rw[hb.1];show W (kF d.ready s.start+s.service)=_;rw[q1]
   · have:e.since≤d.since:=hb.2
     omega
 refine⟨⟨fun e he=>?_,fun m hm=>?_,fun m hm=>?_⟩,⟨fun he=>?_,fun he=>?_⟩,fun hne=>?_⟩
 · obtain⟨a,hm,he2⟩:=hsub e he
   rw[he2];unfold kK;exact List.mem_map.2 ⟨a,hm,rfl⟩
 · unfold kK at hm
   obtain⟨a,ham,rfl⟩:=List.mem_map.1 hm;exact(hdom a ham).2
 · unfold kK at hm
   obtain⟨a,ham,rfl⟩:=List.mem_map.1 hm;obtain⟨⟨h1,h2⟩,_⟩:=hdom a ham;have hi:=OF a.time s.start;have hi2:kF a.time s.start≤4096:=IN.2 ⟨by omega,by omega⟩;show(0≤W (kF a.time s.start+s.service)∧W (kF a.time s.start+s.service)≤8192)∧ -(12288*((k+1:Nat):Int))≤a.driven∧a.driven≤4096;rw[bP (by omega)];omega
 · cases hA:(fT n t place goal s.close (cO t R)).1 with
   | nil=>rfl
   | cons a l=>
     obtain⟨_,e,he2,_⟩:=hdom a (by rw[hA];simp);rw[he]at he2;cases he2
 · cases hA:eA s (bH n t place goal cs).1 with
   | nil=>rfl
   | cons e l=>
     obtain⟨a,hm,_⟩:=hsub e (by rw[hA];simp);rw[he]at hm;cases hm
 · rw[a2 hne,d2]
   intro hd0;cases hA:(fT n t place goal s.close (cO t R)).1 with
   | nil=>exact hne hA
   | cons a l=>
     obtain⟨_,e,he2,_⟩:=hdom a (by rw[hA];simp);rw[hd0]at he2;cases he2
theorem xS(close : Int): ∀ (l P : List Clk) (o : Int), (∀ c ∈ P, 0 ≤ c.ready) → (∀ c ∈ l, 0 ≤ c.ready) →
   ((o= -1∧∀c∈P,¬c.ready≤close)∨((∃c∈P,c.ready=o∧o≤close)∧∀c∈P,c.ready≤close→o≤c.ready)) →
   ((l.foldl (lJ close) o= -1∧∀c∈P++l,¬c.ready≤close)∨((∃c∈P++l,c.ready=l.foldl (lJ close) o∧l.foldl (lJ close) o≤close)∧∀c∈P++l,c.ready≤close→l.foldl (lJ close) o≤c.ready))
 | [],P,o,_,_,h=>by simpa using h
 | c::l,P,o,hP,hl,h=>by
   have hc:=hl c (by simp);have key:((lJ close o c= -1∧∀d∈P++[c],¬d.ready≤close)∨((∃d∈P++[c],d.ready=lJ close o c∧lJ close o c≤close)∧∀d∈P++[c],d.ready≤close→lJ close o c≤d.ready)):=by
     unfold lJ;split
     · rename_i hb
       simp only[Bool.and_eq_true,Bool.or_eq_true,decide_eq_true_eq]at hb;right;refine⟨⟨c,by simp,rfl,hb.1⟩,fun d hd hdc=>?_⟩;rcases List.mem_append.1 hd with hd|hd
       · rcases h with⟨h1,h2⟩|⟨⟨e,he,h1,h2⟩,h3⟩
         · exact absurd hdc (h2 d hd)
         · have:=h3 d hd hdc
           have:=hP e he;omega
       · rw[List.mem_singleton.1 hd];exact Int.le_refl _
     · rename_i hb
       simp only[Bool.and_eq_true,Bool.or_eq_true,decide_eq_true_eq]at hb;rcases h with⟨h1,h2⟩|⟨⟨e,he,h1,h2⟩,h3⟩
       · left
         refine⟨h1,fun d hd=>?_⟩;rcases List.mem_append.1 hd with hd|hd
         · exact h2 d hd
         · rw[List.mem_singleton.1 hd];intro h4;exact hb ⟨h4,.inl (by omega)⟩
       · right
         refine⟨⟨e,List.mem_append_left _ he,h1,h2⟩,fun d hd hdc=>?_⟩;rcases List.mem_append.1 hd with hd|hd
         · exact h3 d hd hdc
         · rw[List.mem_singleton.1 hd]at hdc ⊢
           have:¬c.ready<o:=fun h4=>hb ⟨hdc,.inr h4⟩
           omega
   have:=xS close l (P++[c]) (lJ close o c) (fun d hd=>by
     rcases List.mem_append.1 hd with hd|hd
     · exact hP d hd
     · rw[List.mem_singleton.1 hd];exact hc) (fun d hd=>hl d (by simp[hd])) key
   rw[List.append_assoc]at this;exact this
theorem FW:∀(l:List Mom) (e:Int),(l.foldl (fun e m=>sT e m.time) e=e∨∃m∈l,m.time=l.foldl (fun e m=>sT e m.time) e)∧l.foldl (fun e m=>sT e m.time) e≤e∧∀m∈l,l.foldl (fun e m=>sT e m.time) e≤m.time
 | [],e=>⟨.inl rfl,Int.le_refl _,by simp⟩
 | m::l,e=>by
   obtain⟨h1,h2,h3⟩:=FW l (sT e m.time);have hi:sT e m.time≤e∧sT e m.time≤m.time∧(sT e m.time=e∨sT e m.time=m.time):=by unfold sT;split <;> omega
   rw[List.foldl_cons];refine⟨?_,by omega,fun d hd=>?_⟩
   · rcases h1 with h1|⟨d,hd,h1⟩
     · rcases hi.2.2 with h4|h4
       · exact .inl (h1.trans h4)
       · exact .inr ⟨m,by simp,by rw[h1,h4]⟩
     · exact .inr ⟨d,by simp[hd],h1⟩
   · rcases List.mem_cons.1 hd with rfl|hd
     · omega
     · exact h3 d hd
theorem BE{l:List Mom}(h:l≠[]):(∃m∈l,m.time=I1 l)∧∀m∈l,I1 l≤m.time:=by
 cases l with
 | nil=>exact absurd rfl h
 | cons a l=>
   obtain⟨h1,h2,h3⟩:=FW (a::l) (EL (a::l));refine⟨?_,h3⟩;rcases h1 with h1|h1
   · exact⟨a,by simp,h1.symm⟩
   · exact h1
theorem Pn(ha : ∀ a ∈ n.arcs, ArcOk a)(ht : 0 ≤ t.rest ∧ t.rest ≤ 4096)(hk : k ≤ 16)(h : Cr k cs R)(close : Int):
   ((bH n t place goal cs).1.foldl (lJ close) (-1)≥0↔(fT n t place goal close (cO t R)).1≠[]) ∧
   ((fT n t place goal close (cO t R)).1≠[]→(bH n t place goal cs).1.foldl (lJ close) (-1)=I1 (fT n t place goal close (cO t R)).1∧(bH n t place goal cs).2=(fT n t place goal close (cO t R)).2):=by
 obtain⟨d1,d2⟩:=lI n t place goal cs;obtain⟨a1,a2⟩:=tI n t place goal close (cO t R);have hpos:∀d∈(bH n t place goal cs).1,0≤d.ready:=fun d hd=>by
   rw[d1]at hd;obtain⟨c,hc,hf⟩:=List.mem_filterMap.1 hd;obtain⟨h1,h2,_⟩:=yD hf;have hcr:=yX ht h (xD h hc);simp only at hcr;have:=M7 ha hcr.1 h1;rw[h2];exact this.1
 have hsub:∀d∈(bH n t place goal cs).1,d.ready≤close→(⟨d.ready,d.since⟩:Mom)∈(fT n t place goal close (cO t R)).1:=fun d hd hc=>by
   rw[d1]at hd;rw[a1];exact Sf h hd hc
 have hdom:∀a∈(fT n t place goal close (cO t R)).1,a.time≤close∧∃d∈(bH n t place goal cs).1,d.ready=a.time:=fun a hm=>by
   rw[a1]at hm;obtain⟨h1,_,_,d,hd,q1,_⟩:=Ho ha ht hk h hm;exact⟨h1,d,by rw[d1];exact hd,q1⟩
 have hE:=xS close (bH n t place goal cs).1 [] (-1) (by simp) hpos (.inl ⟨rfl,by simp⟩);rw[List.nil_append]at hE;generalize hD:(bH n t place goal cs).1=D at *;generalize hA:(fT n t place goal close (cO t R)).1=A at *;rcases hE with⟨e1,e2⟩|⟨⟨c,hc,e1,e2⟩,e3⟩
 · have hnil : A = [] := by
     cases A with
     | nil=>rfl
     | cons a l=>
       obtain⟨q1,d,hd,q2⟩:=hdom a (by simp);exact absurd (by omega) (e2 d hd)
   refine⟨⟨fun h=>by rw[e1]at h;omega,fun h=>absurd hnil h⟩,fun h=>absurd hnil h⟩
 · have hne : A ≠ [] := fun e => by
     have:=hsub c hc (by omega);rw[e]at this;cases this
   have hc0:=hpos c hc;refine⟨⟨fun _=>hne,fun _=>by omega⟩,fun _=>⟨?_,?_⟩⟩
   · obtain⟨⟨m,hm,m1⟩,m2⟩:=BE hne
     have h1:=m2 _ (hsub c hc (by omega));simp only at h1;obtain⟨q1,d,hd,q2⟩:=hdom m hm;have h2:=e3 d hd (by omega);omega
   · rw[a2 hne,d2 (fun e=>by rw[e]at hc;cases hc)]
end
end Go.Proofs.YtdlijlecpopadaaGreatDoor.Rx
end

section
set_option linter.unusedSimpArgs false
set_option linter.unusedVariables false
namespace Go.Proofs.YtdlijlecpopadaaGreatDoor.Rx
open Go.Aw Go.Aw.D Go.Proofs Ty
open Sq
open Go.Nu (qR)
set_option maxRecDepth 100000
structure Ctx(x:Instance)(k:Nat)(near:List Int):Prop where
 acc:Acc x
 kind:k<x.types.length
 n:x.orders.length≤8
 len:near.length=x.orders.length
 mil:∀c∈x.net.arcs,0≤c.miles∧c.miles≤10000
 money:(0≤(aD x k).fixed∧(aD x k).fixed≤100000)∧(0≤(aD x k).perMile∧(aD x k).perMile≤100)∧0≤(aD x k).perTick∧(aD x k).perTick≤100
 led:∀o∈x.orders,-1≤o.last∧ -1≤o.now
theorem Z3{x:Instance}(h:mG x=[]):∀o∈x.orders,-1≤o.last∧ -1≤o.now:=by
 unfold mG at h;simp only[List.append_eq_nil_iff,List.map_eq_nil_iff]at h;obtain⟨⟨⟨_,_⟩,ho⟩,_⟩:=h;unfold pD at ho;rw[List.append_eq_nil_iff]at ho;intro o hom;obtain⟨i,hi,rfl⟩:=List.getElem_of_mem hom;have h:=List.flatMap_eq_nil_iff.1 ho.2 i (List.mem_range.2 hi);unfold gD at h;rw[List.map_eq_nil_iff,EH (List.getElem?_eq_getElem hi)]at h;unfold kD at h;simp only[List.nil_append,List.append_eq_nil_iff]at h;obtain⟨_,h8⟩:=h;have e8:=fP h8;simp only[Bool.or_eq_false_iff,decide_eq_false_iff_not]at e8;omega
theorem Vi{x:Instance}(h:mG x=[]):∀t∈x.types,(0≤t.fixed∧t.fixed≤100000)∧(0≤t.perMile∧t.perMile≤100)∧0≤t.perTick∧t.perTick≤100:=by
 unfold mG at h;simp only[List.append_eq_nil_iff,List.map_eq_nil_iff]at h;obtain⟨⟨⟨_,ht⟩,_⟩,_⟩:=h;unfold qS at ht;rw[List.append_eq_nil_iff]at ht;intro t htm;obtain⟨i,hi,rfl⟩:=List.getElem_of_mem htm;have h:=List.flatMap_eq_nil_iff.1 ht.2 i (List.mem_range.2 hi);unfold iE at h;rw[List.map_eq_nil_iff,Db (List.getElem?_eq_getElem hi)]at h;unfold lL at h;simp only[List.nil_append,List.append_eq_nil_iff]at h;obtain⟨_,h9⟩:=h;have e9:=fP h9;simp only[Bool.or_eq_false_iff]at e9;have a1:=jY.1 (oD e9.1.1.2);have a2:=jY.1 (oD e9.1.2);have a3:=jY.1 (oD e9.2);exact⟨a1,a2,a3⟩
theorem Zm{x:Instance}(h:mG x=[]){k:Nat}(hk:k<x.types.length)(hn:x.orders.length≤8){near:List Int}(hl:near.length=x.orders.length):Ctx x k near:=
 ⟨Uy h,hk,hn,hl,SJ h,Vi h _ (uU hk),Z3 h⟩
theorem CX{n:Network}(hm:∀c∈n.arcs,0≤c.miles∧c.miles≤10000)(t:VType)(p g:Int):0≤mil n t p g∧mil n t p g≤10000:=by
 unfold mil dM;split
 · exact⟨Int.le_refl 0,by decide⟩
 · split
   · exact⟨Int.le_refl 0,by decide⟩
   · cases e:jP n t.profile p g with
     | none=>exact⟨Int.le_refl 0,by decide⟩
     | some a=>
       unfold jP at e;exact hm a (List.mem_of_find?_eq_some e)
theorem Ctx.ty{x:Instance}{k:Nat}{near:List Int}(h:Ctx x k near):TypeB (aD x k) (mJ x.types):=h.acc.type _ (uU h.kind)
structure Rel(x:Instance)(t:VType)(p:Part)(q:RP):Prop where
 place:p.place=q.place
 memory:p.memory=q.memory
 board:p.board=q.board
 visits:p.visits=q.visits
 load:p.load=q.load
 ll:q.load.length=A1 x
 mem:q.memory<2^x.orders.length
 clk:∃R,Cr p.visits p.clocks R∧q.moms=cO t R
theorem Sz{s o:Nat}(h:o≤62):kE (s:Nat) (o:Nat)=jK s o:=by
 rw[Ll (by omega) (by omega),Int.toNat_natCast,nL]
theorem Tg{b o:Nat}(h:jK b o=true):A6 b o=b-2^o:=by
 rw[nL]at h;have e:b &&& 2^o=2^o:=by
   apply Nat.eq_of_testBit_eq;intro i;rw[Nat.testBit_and];by_cases hi:o=i
   · subst hi;rw[h,Nat.testBit_two_pow_self];rfl
   · rw[Nat.testBit_two_pow_of_ne hi];simp
 unfold A6;rw[e];have hb:(b ^^^ 2^o).testBit o=false:=by rw[Nat.testBit_xor,h,Nat.testBit_two_pow_self];rfl
 have ha:=CT hb;have hc:(b ^^^ 2^o) ||| 2^o=b:=by
   apply Nat.eq_of_testBit_eq;intro i;rw[Nat.testBit_or,Nat.testBit_xor];by_cases hi:o=i
   · subst hi;rw[h,Nat.testBit_two_pow_self];rfl
   · rw[Nat.testBit_two_pow_of_ne hi];simp
 rw[hc]at ha;omega
theorem Tv{b o:Nat}(h:jK b o=false):b ||| 2^o=b+2^o:=(CT (by rw[←nL];exact h)).symm
theorem TH{a b:List Int}(hb:∀n∈b,0≤n∧n≤1000):rI a b=cP a b 1:=by
 unfold rI cP;induction a generalizing b with
 | nil=>rfl
 | cons u a ih=>
   cases b with
   | nil=>rfl
   | cons v b=>
     have hv:=hb v (by simp);rw[List.zipWith_cons_cons,List.zipWith_cons_cons,ih (fun n hn=>hb n (by simp[hn]))]
     congr 1
     rw[bP (n:=1*v) (by omega),Int.one_mul];rfl
theorem Vr{a b:List Int}(hb:∀n∈b,0≤n∧n≤1000):sP a b=cP a b (-1):=by
 unfold sP cP;induction a generalizing b with
 | nil=>rfl
 | cons u a ih=>
   cases b with
   | nil=>rfl
   | cons v b=>
     have hv:=hb v (by simp);rw[List.zipWith_cons_cons,List.zipWith_cons_cons,ih (fun n hn=>hb n (by simp[hn]))]
     congr 1
     rw[bP (n:= -1*v) (by omega)];show W (u-v)=_
     congr 1
     omega
theorem xT{a c:List Int}(h:a.length=c.length):iJ a c=lY a c:=by
 unfold iJ lY;rw[h];simp
section
variable{x:Instance}{k:Nat}{near:List Int}{du:Option (List ByteArray)}{dl:List ByteArray}{M:Nat}{cn:Int}{lim fnd:Bool}{le:ByteArray}{p:Part}{q:RP}{o:Nat}{d:Bool}
abbrev wOf(x:Instance)(k:Nat)(near:List Int)(du:Option (List ByteArray))(M:Nat):Wk:=⟨x,k,aD x k,near,du,M⟩
abbrev sOf(x:Instance)(k:Nat)(near:List Int)(dl:List ByteArray)(M:Nat)(cn:Int)(lim fnd:Bool)(le:ByteArray):Rs:=⟨x,aD x k,k,near,dl,M,cn,lim,fnd,le⟩
def rC(x:Instance)(k:Nat)(near:List Int)(du:Option (List ByteArray))(p:Part)(q:RP)(o:Nat)(d:Bool):Part:=
 { p with
   memory:=if cQ (aF x o) d=true then qZ near p.memory o else p.memory
   value:=if cQ (aF x o) d=true then yH (addV p.value ((fM (aF x o).now k*16+fM (aF x o).last k)*65536)) o du else p.value
   board:=if cQ (aF x o) d=true then(if iQ (aF x o)=true then p.board+2^o else p.board)else p.board-2^o
   load:=dY q (aF x o) d }
theorem DP(h : Ctx x k near)(r : Rel x (aD x k) p q)(ho : o < x.orders.length)(hp : (stR (aF x o) d).place ≥ 0)(hoff : (aF x o).off = false)(hab : jU (aD x k).skills (aF x o).skills = true)(hM : p.visits < M):
   (mX q o (cQ (aF x o) d)=true→(cR (wOf x k near du M) p ⟨(o:Nat),d⟩).2=false) ∧
   (mX q o (cQ (aF x o) d)=false→lY (dY q (aF x o) d) (aD x k).cap=false→(cR (wOf x k near du M) p ⟨(o:Nat),d⟩).2=false) ∧
   (mX q o (cQ (aF x o) d)=false→lY (dY q (aF x o) d) (aD x k).cap=true→cR (wOf x k near du M) p ⟨(o:Nat),d⟩=goP (wOf x k near du M) (rC x k near du p q o d) (stR (aF x o) d)):=by
 have hn:=h.n;have hO:=h.acc.order _ (kU ho);have hld:=(uR hO.load).2;have hstop:eK x ⟨(o:Nat),d⟩=(stR (aF x o) d,0):=Sh ho hp;have hll:=r.ll;have hol:=AZ h.acc ho;have hcp:=CR h.acc h.kind;have hA:=TH (a:=q.load) hld;have hS:=Vr (a:=q.load) hld;have hal:(cP q.load (aF x o).load 1).length=(aD x k).cap.length:=by unfold cP;rw[List.length_zipWith];omega
 have hsl:(cP q.load (aF x o).load (-1)).length=(aD x k).cap.length:=by unfold cP;rw[List.length_zipWith];omega
 have hql:q.load.length=(aD x k).cap.length:=by omega
 have hne : cR (wOf x k near du M) p ⟨(o : Nat), d⟩ =
     (let s:=if(!d||decide ((aF x o).pick.place<0))=true then gE (wOf x k near du M) p o else(p,true)
      if s.2=true then
        let l:=fQ (wOf x k near du M) s.1 o d
        if l.2=true then goP (wOf x k near du M) l.1 (stR (aF x o) d)else(l.1,false)
      else(s.1,false)):=by
   unfold cR;have e0:(⟨(o:Nat),d⟩:Visit).order.toNat=o:=Int.toNat_natCast o;rw[e0,hstop];rw[if_neg]
   · rfl
   · rw[hoff,yC h.ty.skills hO.skills,hab]
     simp;omega
 rw[hne];clear hne hstop;have bM:kE (p.memory:Nat) (o:Nat)=jK q.memory o:=by rw[r.memory];exact Sz (by omega)
 have bB:kE (p.board:Nat) (o:Nat)=jK q.board o:=by rw[r.board];exact Sz (by omega)
 have st1:(jK q.memory o||jK q.board o)=true→gE (wOf x k near du M) p o=(p,false):=fun hs=>by
   unfold gE;rw[bM,bB,if_pos hs]
 have st2:(jK q.memory o||jK q.board o)=false→gE (wOf x k near du M) p o=({ p with memory:=qZ near p.memory o,value:=yH (addV p.value ((fM (aF x o).now k*16+fM (aF x o).last k)*65536)) o du },true):=fun hs=>by
   unfold gE;rw[bM,bB,if_neg (by rw[hs];simp)]
 have e3:mX q o true=(jK q.memory o||jK q.board o):=by unfold mX;simp
 have e4:mX q o false= !jK q.board o:=by unfold mX;simp
 cases d with
 | false=>
   have e1:cQ (aF x o) false=true:=rfl;have e2:dY q (aF x o) false=cP q.load (aF x o).load 1:=rfl;rw[e1,e2,e3];have c1:(!false||decide ((aF x o).pick.place<0))=true:=rfl;rw[if_pos c1];cases hs:(jK q.memory o||jK q.board o)with
   | true=>
     rw[st1 hs];exact⟨fun _=>rfl,fun h1=>(by cases h1),fun h1=>(by cases h1)⟩
   | false=>
     have hb:jK q.board o=false:=(Bool.or_eq_false_iff.1 hs).2;have hl : fQ (wOf x k near du M) { p with memory := qZ near p.memory o, value := yH (addV p.value ((fM (aF x o).now k * 16 + fM (aF x o).last k) * 65536)) o du } o false =
         (rC x k near du p q o false,lY (cP q.load (aF x o).load 1) (aD x k).cap):=by
       unfold fQ rC;rw[if_pos rfl,e1,e2];simp only[if_true,r.load,r.board,hA,xT hal,Tv hb]
     rw[st2 hs];dsimp only;rw[if_pos rfl,hl];dsimp only;refine⟨fun h1=>(by cases h1),fun _ h2=>?_,fun _ h2=>?_⟩
     · rw[h2];rfl
     · rw[h2];rfl
 | true=>
   have hdp:(aF x o).drop.place≥0:=hp;by_cases hb:iQ (aF x o)=true
   · have hpk : ¬ (aF x o).pick.place < 0 := by
       unfold iQ at hb;simp at hb;omega
     have e1:cQ (aF x o) true=false:=by unfold cQ;rw[hb];rfl
     have e2:dY q (aF x o) true=cP q.load (aF x o).load (-1):=by unfold dY;rw[if_neg (by simp),if_pos hb]
     have c1:(!true||decide ((aF x o).pick.place<0))=false:=by rw[decide_eq_false hpk];rfl
     have hif:(if(!true||decide ((aF x o).pick.place<0))=true then gE (wOf x k near du M) p o else(p,true))=(p,true):=if_neg (fun h=>Bool.noConfusion (c1.symm.trans h));rw[e1,e2,e4,hif];cases hs:jK q.board o with
     | true=>
       have hl:fQ (wOf x k near du M) p o true=(rC x k near du p q o true,lY (cP q.load (aF x o).load (-1)) (aD x k).cap):=by
         unfold fQ rC;rw[if_neg (by simp),if_pos hb,bB,if_pos hs,e1,e2];simp only[Bool.false_eq_true,if_false,r.load,r.board,hS,xT hsl,Tg hs]
       dsimp only;rw[if_pos rfl,hl];dsimp only;refine⟨fun h1=>(by cases h1),fun _ h2=>?_,fun _ h2=>?_⟩
       · rw[h2];rfl
       · rw[h2];rfl
     | false=>
       have hl:fQ (wOf x k near du M) p o true=(p,false):=by
         unfold fQ;rw[if_neg (by simp),if_pos hb,bB,if_neg (by rw[hs];simp)]
       dsimp only;rw[if_pos rfl,hl];dsimp only;exact⟨fun _=>rfl,fun h1=>(by cases h1),fun h1=>(by cases h1)⟩
   · have hb:iQ (aF x o)=false:=by simpa using hb
     have hpk:(aF x o).pick.place<0:=by
       unfold iQ at hb;simp at hb;omega
     have e1:cQ (aF x o) true=true:=by unfold cQ;rw[hb];rfl
     have e2:dY q (aF x o) true=q.load:=by unfold dY;rw[if_neg (by simp),if_neg (by rw[hb];simp)]
     have c1:(!true||decide ((aF x o).pick.place<0))=true:=by rw[decide_eq_true hpk];rfl
     rw[e1,e2,e3,if_pos c1];cases hs:(jK q.memory o||jK q.board o)with
     | true=>
       rw[st1 hs];exact⟨fun _=>rfl,fun h1=>(by cases h1),fun h1=>(by cases h1)⟩
     | false=>
       have hl : fQ (wOf x k near du M) { p with memory := qZ near p.memory o, value := yH (addV p.value ((fM (aF x o).now k * 16 + fM (aF x o).last k) * 65536)) o du } o true =
           (rC x k near du p q o true,lY q.load (aD x k).cap):=by
         unfold fQ rC;rw[if_neg (by simp),if_neg (by rw[hb];simp),e1,e2,hb];simp only[if_true,Bool.false_eq_true,if_false,r.load,xT hql]
       rw[st2 hs];dsimp only;rw[if_pos rfl,hl];dsimp only;refine⟨fun h1=>(by cases h1),fun _ h2=>?_,fun _ h2=>?_⟩
       · rw[h2];rfl
       · rw[h2];rfl
theorem sH : (iB (sOf x k near dl M cn lim fnd le) q o d).memory = (if cQ (aF x o) d = true then pW near q.memory o near.length else q.memory) ∧
   (iB (sOf x k near dl M cn lim fnd le) q o d).board=(if cQ (aF x o) d=true then(if iQ (aF x o)=true then q.board+2^o else q.board)else q.board-2^o) ∧
   (iB (sOf x k near dl M cn lim fnd le) q o d).load=q.load∧(iB (sOf x k near dl M cn lim fnd le) q o d).visits=q.visits∧(iB (sOf x k near dl M cn lim fnd le) q o d).miles=q.miles ∧
   (iB (sOf x k near dl M cn lim fnd le) q o d).dual=(if cQ (aF x o) d=true then(qR q.dual (dl.getD o ByteArray.empty)).1 else q.dual) ∧
   (iB (sOf x k near dl M cn lim fnd le) q o d).moved=(if cQ (aF x o) d=true then lA (aF x o).now k q.moved else q.moved) ∧
   (iB (sOf x k near dl M cn lim fnd le) q o d).other=(if cQ (aF x o) d=true then lA (aF x o).last k q.other else q.other):=by
 unfold iB;cases cQ (aF x o) d with
 | true=>
   cases hb:iQ (aF x o)with
   | true=>exact⟨rfl,rfl,rfl,rfl,rfl,rfl,rfl,rfl⟩
   | false=>exact⟨rfl,rfl,rfl,rfl,rfl,rfl,rfl,rfl⟩
 | false=>exact⟨rfl,rfl,rfl,rfl,rfl,rfl,rfl,rfl⟩
structure Adds(x:Instance)(k:Nat)(dl:List ByteArray)(p p':Part)(q q':RP)(o:Nat)(d:Bool)(B:ByteArray)(miles:Int):Prop where
 rng:0≤miles∧miles≤10000
 value:p'.value=addV B (W (W ((aD x k).perMile*miles)*16777216))
 miles:q'.miles=W (q.miles+miles)
 dual:q'.dual=if cQ (aF x o) d=true then(qR q.dual (dl.getD o ByteArray.empty)).1 else q.dual
 moved:q'.moved=if cQ (aF x o) d=true then lA (aF x o).now k q.moved else q.moved
 other:q'.other=if cQ (aF x o) d=true then lA (aF x o).last k q.other else q.other
theorem Jw(h : Ctx x k near)(r : Rel x (aD x k) p q)(ho : o < x.orders.length)(hp : (stR (aF x o) d).place ≥ 0)(hoff : (aF x o).off = false)(hab : jU (aD x k).skills (aF x o).skills = true)(hM : p.visits < M)(hM16 : M ≤ 16):
   (cR (wOf x k near du M) p ⟨(o:Nat),d⟩).2=(gJ (sOf x k near dl M cn lim fnd le) q o d).2 ∧
   ((cR (wOf x k near du M) p ⟨(o:Nat),d⟩).2=true→Rel x (aD x k) (cR (wOf x k near du M) p ⟨(o:Nat),d⟩).1 (gJ (sOf x k near dl M cn lim fnd le) q o d).1∧(cR (wOf x k near du M) p ⟨(o:Nat),d⟩).1.visits=p.visits+1 ∧
     ∃miles,Adds x k dl p (cR (wOf x k near du M) p ⟨(o:Nat),d⟩).1 q (gJ (sOf x k near dl M cn lim fnd le) q o d).1 o d (rC x k near du p q o d).value miles):=by
 obtain⟨n1,n2,n3⟩:=DP (near:=near) (du:=du) (M:=M) h r ho hp hoff hab hM;obtain⟨R,hR,hq⟩:=r.clk;have hT:=h.ty;have hO:=h.acc.order _ (kU ho);have hw:fB (stR (aF x o) d)=0:=by
   unfold stR;split
   · exact hO.wdrop
   · exact hO.wpick
 have hws:=Je hw hp;obtain⟨c1,c2,c3⟩:=UL (place:=p.place) (goal:=(stR (aF x o) d).place) (fun a ha=>h.acc.arc a ha) hT.rest hT.drive.2 (show p.visits≤16 by omega) hR hws;rw[←hq]at c1 c2 c3;have hV:gJ (sOf x k near dl M cn lim fnd le) q o d=if mX q o (cQ (aF x o) d)=true then(q,false)
   else
     if(fT x.net (aD x k) p.place (stR (aF x o) d).place (stR (aF x o) d).close q.moms).1.length=0 then(q,false)
     else if lY (dY q (aF x o) d) (aD x k).cap=true then(goR (sOf x k near dl M cn lim fnd le) (iB (sOf x k near dl M cn lim fnd le) { q with load:=dY q (aF x o) d } o d) (stR (aF x o) d) (fT x.net (aD x k) p.place (stR (aF x o) d).place (stR (aF x o) d).close q.moms).2 (fT x.net (aD x k) p.place (stR (aF x o) d).place (stR (aF x o) d).close q.moms).1,true)
     else({ q with load:=dY q (aF x o) d },false):=by rw[r.place];rfl
 cases hs:mX q o (cQ (aF x o) d)with
 | true=>
   rw[hV,if_pos hs,n1 hs];exact⟨rfl,fun h=>by cases h⟩
 | false=>
   rw[if_neg (by rw[hs];simp)]at hV;cases hf:lY (dY q (aF x o) d) (aD x k).cap with
   | false=>
     rw[n2 hs hf];refine⟨?_,fun h=>by cases h⟩;rw[hV];split
     · rfl
     · rw[if_neg (by rw[hf];simp)]
   | true=>
     rw[n3 hs hf];rw[if_pos hf]at hV;have hG:goP (wOf x k near du M) (rC x k near du p q o d) (stR (aF x o) d)=({ rC x k near du p q o d with clocks:=eA (stR (aF x o) d) (bH x.net (aD x k) p.place (stR (aF x o) d).place p.clocks).1,place:=(stR (aF x o) d).place,visits:=p.visits+1,value:=addV (rC x k near du p q o d).value (W (W ((aD x k).perMile*(bH x.net (aD x k) p.place (stR (aF x o) d).place p.clocks).2)*16777216)) },decide ((eA (stR (aF x o) d) (bH x.net (aD x k) p.place (stR (aF x o) d).place p.clocks).1).length>0)):=rfl;rw[hG];clear hG;have hDm:∀s,eA s (bH x.net (aD x k) p.place (stR (aF x o) d).place p.clocks).1≠[]→0≤(bH x.net (aD x k) p.place (stR (aF x o) d).place p.clocks).2∧(bH x.net (aD x k) p.place (stR (aF x o) d).place p.clocks).2≤10000:=fun s hs=>by
       rw[(lI x.net (aD x k) p.place (stR (aF x o) d).place p.clocks).2 (fun e=>hs (by rw[e];rfl))];exact CX h.mil _ _ _
     generalize bH x.net (aD x k) p.place (stR (aF x o) d).place p.clocks=D at *;generalize fT x.net (aD x k) p.place (stR (aF x o) d).place (stR (aF x o) d).close q.moms=A at *;by_cases hA:A.1=[]
     · rw[if_pos (by rw[hA];rfl)]at hV
       rw[hV,c2.2 hA];exact⟨rfl,fun h=>by cases h⟩
     · have hSv:¬eA (stR (aF x o) d) D.1=[]:=fun e=>hA (c2.1 e)
       have hA0:¬A.1.length=0:=fun e=>hA (List.length_eq_zero_iff.1 e)
       rw[if_neg hA0]at hV;have hpos:(eA (stR (aF x o) d) D.1).length>0:=List.length_pos_iff.2 hSv;rw[hV];refine⟨decide_eq_true hpos,fun _=>⟨⟨?_,?_,?_,?_,?_,?_,?_,?_⟩,rfl,D.2,⟨hDm _ hSv,rfl,?_,?_,?_,?_⟩⟩⟩
       · rfl
       · show(if cQ (aF x o) d=true then qZ near p.memory o else p.memory)=(iB (sOf x k near dl M cn lim fnd le) { q with load:=dY q (aF x o) d } o d).memory
         rw[(sH).1,r.memory,SD (by rw[h.len];exact ho) (by rw[h.len];exact r.mem)]
       · show(if cQ (aF x o) d=true then(if iQ (aF x o)=true then p.board+2^o else p.board)else p.board-2^o)=(iB (sOf x k near dl M cn lim fnd le) { q with load:=dY q (aF x o) d } o d).board
         rw[(sH).2.1,r.board]
       · show p.visits+1=(iB (sOf x k near dl M cn lim fnd le) { q with load:=dY q (aF x o) d } o d).visits+1
         rw[(sH).2.2.2.1,r.visits]
       · show dY q (aF x o) d=(iB (sOf x k near dl M cn lim fnd le) { q with load:=dY q (aF x o) d } o d).load
         rw[(sH).2.2.1]
       · show(iB (sOf x k near dl M cn lim fnd le) { q with load:=dY q (aF x o) d } o d).load.length=A1 x
         rw[(sH).2.2.1];have hol:=AZ h.acc ho;have hll:=r.ll;have hc:∀s,(cP q.load (aF x o).load s).length=A1 x:=fun s=>by unfold cP;rw[List.length_zipWith];omega
         show(dY q (aF x o) d).length=A1 x;unfold dY;split
         · exact hc 1
         · split
           · exact hc (-1)
           · exact hll
       · show(iB (sOf x k near dl M cn lim fnd le) { q with load:=dY q (aF x o) d } o d).memory<2^x.orders.length
         rw[(sH).1];split
         · have:=wX near q.memory o near.length
           rw[h.len]at this ⊢;exact this
         · exact r.mem
       · exact⟨_,c1,rfl⟩
       · show W ((iB (sOf x k near dl M cn lim fnd le) { q with load:=dY q (aF x o) d } o d).miles+A.2)=_
         rw[(sH).2.2.2.2.1,c3 hA]
       · exact(sH).2.2.2.2.2.1
       · exact(sH).2.2.2.2.2.2.1
       · exact(sH).2.2.2.2.2.2.2
end
end Go.Proofs.YtdlijlecpopadaaGreatDoor.Rx
end
