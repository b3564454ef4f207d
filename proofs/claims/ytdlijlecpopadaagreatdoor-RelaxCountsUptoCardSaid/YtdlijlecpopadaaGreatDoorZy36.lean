/- Texts joined by a program: RxY, RxZ, RyS. -/
import Derived.Test.YtdlijlecpopadaaGreatDoorZy35

section
set_option linter.unusedSimpArgs false
set_option linter.unusedVariables false
namespace Go.Proofs.YtdlijlecpopadaaGreatDoor.Rx
open Go.Aw Go.Aw.D Go.Proofs Ty
open Sq
set_option maxRecDepth 100000
theorem SN(n:Network)(p f g a b:Int):(dP n p f g a).2=(dP n p f g b).2:=by
 unfold dP;split
 · rfl
 · split
   · rfl
   · cases kF n p f g <;> rfl
theorem T5{n:Network}(hn:∀a∈n.arcs,ArcOk a){p f g t:Int}(ht:0≤t∧t≤12288)(h:(dP n p f g t).2.2=0):0≤(dP n p f g t).1∧(dP n p f g t).1≤1000000000:=by
 unfold dP at h ⊢;split
 · rename_i h1;rw[if_pos h1]at h;cases h
 · rename_i h1
   rw[if_neg h1]at h;split
   · simp only;omega
   · rename_i h2
     rw[if_neg h2]at h;cases e:kF n p f g with
     | none=>rw[e]at h;cases h
     | some a=>
       have hm:a∈n.arcs:=by
         unfold kF at e;exact List.mem_of_find?_eq_some e
       exact LL (hn a hm) ht
def mil(n:Network)(t:VType)(place goal:Int):Int:=(dP n t.profile place goal 0).2.1
def CJ(n:Network)(t:VType)(place goal:Int)(c:Clk):Option Clk:=
 if((dP n t.profile place goal c.ready).2.2 == 0&&decide (W (W (c.since+(dP n t.profile place goal c.ready).1)-c.ready)≤t.drive))=true
 then some ⟨(dP n t.profile place goal c.ready).1,W (W (c.since+(dP n t.profile place goal c.ready).1)-c.ready)⟩else none
def both(t:VType)(l:List Clk):List Clk:=l.flatMap fun c=>[c,oW t c]
theorem Lo(n : Network)(t : VType)(place goal : Int)(s : List Clk × Int)(c : Clk)(hs : s.1 ≠ [] → s.2 = mil n t place goal):
   (uZ n t place goal s c).1=s.1++(CJ n t place goal c).toList∧((uZ n t place goal s c).1≠[]→(uZ n t place goal s c).2=mil n t place goal):=by
 unfold uZ CJ;split
 · exact⟨rfl,fun _=>by show(dP n t.profile place goal c.ready).2.1=_;rw[SN n t.profile place goal c.ready 0];rfl⟩
 · exact⟨by simp,hs⟩
theorem DS(n : Network)(t : VType)(place goal : Int): ∀ (l : List Clk) (s : List Clk × Int), (s.1 ≠ [] → s.2 = mil n t place goal) →
   (l.foldl (zF n t place goal) s).1=s.1++(both t l).filterMap (CJ n t place goal)∧((l.foldl (zF n t place goal) s).1≠[]→(l.foldl (zF n t place goal) s).2=mil n t place goal)
 | [],s,hs=>⟨by simp[both],hs⟩
 | c::l,s,hs=>by
   obtain⟨a1,a2⟩:=Lo n t place goal s c hs;obtain⟨b1,b2⟩:=Lo n t place goal (uZ n t place goal s c) (oW t c) a2;obtain⟨c1,c2⟩:=DS n t place goal l (zF n t place goal s c) b2;refine⟨?_,c2⟩;rw[List.foldl_cons,c1];show(uZ n t place goal (uZ n t place goal s c) (oW t c)).1++_=_;rw[b1,a1];have e:both t (c::l)=c::oW t c::both t l:=rfl;rw[e,List.filterMap_cons,List.filterMap_cons];cases CJ n t place goal c <;> cases CJ n t place goal (oW t c) <;> simp
theorem yN(n:Network)(t:VType)(place goal:Int)(l:List Clk):(cU n t place goal l).1=(both t l).filterMap (CJ n t place goal)∧((cU n t place goal l).1≠[]→(cU n t place goal l).2=mil n t place goal):=by
 have:=DS n t place goal l ([],0) (fun h=>absurd rfl h);exact⟨by unfold cU;rw[this.1];rfl,this.2⟩
def Al(n:Network)(t:VType)(place goal close:Int)(m:Mom):Option Mom:=
 if(((dP n t.profile place goal m.time).2.2 == 0&&decide ((dP n t.profile place goal m.time).1≤close))&&decide (W (W (m.driven+(dP n t.profile place goal m.time).1)-m.time)≤t.drive))=true
 then some ⟨(dP n t.profile place goal m.time).1,W (W (m.driven+(dP n t.profile place goal m.time).1)-m.time)⟩else none
theorem K5(n : Network)(t : VType)(place goal close : Int): ∀ (l : List Mom) (s : List Mom × Int),
   (l.foldl (AI n t place goal close) s).1=s.1++l.filterMap (Al n t place goal close)∧(l≠[]→(l.foldl (AI n t place goal close) s).2=mil n t place goal)
 | [],s=>⟨by simp,fun h=>absurd rfl h⟩
 | m::l,s=>by
   obtain⟨c1,c2⟩:=K5 n t place goal close l (AI n t place goal close s m);refine⟨?_,fun _=>?_⟩
   · rw[List.foldl_cons,c1,List.filterMap_cons]
     unfold AI Al;simp only;split <;> simp
   · rw[List.foldl_cons]
     by_cases hl:l=[]
     · subst hl
       show(dP n t.profile place goal m.time).2.1=_;rw[SN n t.profile place goal m.time 0];rfl
     · exact c2 hl
theorem Av(n:Network)(t:VType)(place goal close:Int)(l:List Mom):(fU n t place goal close l).1=l.filterMap (Al n t place goal close)∧((fU n t place goal close l).1≠[]→(fU n t place goal close l).2=mil n t place goal):=by
 have:=K5 n t place goal close l ([],0);have h1:(fU n t place goal close l).1=l.filterMap (Al n t place goal close):=by unfold fU;rw[this.1];rfl
 refine⟨h1,fun h=>this.2 fun e=>?_⟩;rw[h1,e]at h;exact h rfl
def okC(s:Stop)(c:Clk):Prop:=kX c.ready s.start≤s.close
def Bg(s:Stop)(c:Clk):Clk:=⟨W (kX c.ready s.start+s.service),c.since⟩
theorem PY{s:Stop}{c:Clk}(h:okC s c):jA s c.ready=(W (kX c.ready s.start+s.service),0):=by
 unfold jA okC at *;rw[if_neg (by omega)]
theorem Qq{s:Stop}{c:Clk}(h:¬okC s c):(jA s c.ready).2=14:=by
 unfold jA okC at *;rw[if_pos (by omega)]
theorem sL{c d:Clk}:gZ c d=true↔c.ready=d.ready∧c.since≤d.since:=by
 unfold gZ;simp
theorem By(s : Stop): ∀ (l : List Clk) (out P : List Clk), (∀ e ∈ out, ∃ c ∈ P, okC s c ∧ e = Bg s c) → (∀ c ∈ P, okC s c → ∃ e ∈ out, gZ e (Bg s c) = true) →
   (∀e∈l.foldl (yG s) out,∃c∈P++l,okC s c∧e=Bg s c)∧(∀c∈P++l,okC s c→∃e∈l.foldl (yG s) out,gZ e (Bg s c)=true)
 | [],out,P,h1,h2=>by simpa using⟨h1,h2⟩
 | c::l,out,P,h1,h2=>by
   have key:(∀e∈yG s out c,∃d∈P++[c],okC s d∧e=Bg s d)∧(∀d∈P++[c],okC s d→∃e∈yG s out c,gZ e (Bg s d)=true):=by
     have sub:∀e∈out,∃d∈P++[c],okC s d∧e=Bg s d:=fun e he=>by
       obtain⟨d,hd,h⟩:=h1 e he;exact⟨d,List.mem_append_left _ hd,h⟩
     by_cases hok:okC s c
     · have hdp:=PY hok
       unfold yG;rw[hdp];simp only[bne_self_eq_false,Bool.false_eq_true,if_false];have hn:(⟨W (kX c.ready s.start+s.service),c.since⟩:Clk)=Bg s c:=rfl;rw[hn];split
       · rename_i hb
         obtain⟨e,he,hbe⟩:=List.any_eq_true.1 hb;refine⟨sub,fun d hd hdo=>?_⟩;rcases List.mem_append.1 hd with hd|hd
         · exact h2 d hd hdo
         · rw[List.mem_singleton.1 hd];exact⟨e,he,hbe⟩
       · refine⟨fun e he=>?_,fun d hd hdo=>?_⟩
         · rcases List.mem_append.1 he with he|he
           · exact sub e (List.mem_filter.1 he).1
           · rw[List.mem_singleton.1 he];exact⟨c,by simp,hok,rfl⟩
         · rcases List.mem_append.1 hd with hd|hd
           · obtain⟨e,he,hbe⟩:=h2 d hd hdo
             by_cases hbn:gZ (Bg s c) e=true
             · refine⟨Bg s c,by simp,?_⟩
               have q1:=sL.1 hbn;have q2:=sL.1 hbe;exact sL.2 ⟨q1.1.trans q2.1,by omega⟩
             · exact⟨e,List.mem_append_left _ (List.mem_filter.2 ⟨he,by simp[hbn]⟩),hbe⟩
           · rw[List.mem_singleton.1 hd]
             exact⟨Bg s c,by simp,sL.2 ⟨rfl,Int.le_refl _⟩⟩
     · have hdp:=Qq hok
       unfold yG;rw[hdp];simp only[show((14:Int) != 0)=true from rfl,if_true];refine⟨sub,fun d hd hdo=>?_⟩;rcases List.mem_append.1 hd with hd|hd
       · exact h2 d hd hdo
       · rw[List.mem_singleton.1 hd]at hdo;exact absurd hdo hok
   have:=By s l (yG s out c) (P++[c]) key.1 key.2;rw[List.append_assoc]at this;exact this
theorem Jr(s:Stop)(l:List Clk):(∀e∈gG s l,∃c∈l,okC s c∧e=Bg s c)∧(∀c∈l,okC s c→∃e∈gG s l,gZ e (Bg s c)=true):=by
 have:=By s l [] [] (by simp) (by simp);simpa[gG]using this
structure Cr(k:Nat)(cs:List Clk)(R:List Mom):Prop where
 sub:∀c∈cs,(⟨c.ready,c.since⟩:Mom)∈R
 dom:∀m∈R,∃c∈cs,c.ready=m.time∧c.since≤m.driven
 rng:∀m∈R,(0≤m.time∧m.time≤8192)∧ -(12288*(k:Int))≤m.driven∧m.driven≤4096
theorem Dr{t:VType}{l:List Clk}{c:Clk}:c∈both t l↔∃d∈l,c=d∨c=oW t d:=by
 unfold both;simp[List.mem_flatMap]
theorem tI{t:VType}{l:List Mom}{m:Mom}:m∈cN t l↔∃d∈l,m=d∨m=OM t d:=by
 unfold cN;simp[List.mem_flatMap]
section
variable{n:Network}{t:VType}{place goal:Int}{k:Nat}{cs:List Clk}{R:List Mom}
theorem yA(ht:0≤t.rest∧t.rest≤4096)(h:Cr k cs R){m:Mom}(hm:m∈cN t R):(0≤m.time∧m.time≤12288)∧ -(12288*(k:Int))≤m.driven∧m.driven≤4096:=by
 obtain⟨d,hd,rfl|rfl⟩:=tI.1 hm
 · have:=h.rng _ hd;omega
 · have:=h.rng d hd
   show(0≤W (d.time+t.rest)∧W (d.time+t.rest)≤12288)∧ -(12288*(k:Int))≤0∧(0:Int)≤4096;rw[cR (by omega)];omega
theorem vW(h:Cr k cs R){c:Clk}(hc:c∈both t cs):(⟨c.ready,c.since⟩:Mom)∈cN t R:=by
 obtain⟨d,hd,rfl|rfl⟩:=Dr.1 hc
 · exact tI.2 ⟨_,h.sub c hd,.inl rfl⟩
 · exact tI.2 ⟨_,h.sub d hd,.inr rfl⟩
theorem IN(h:Cr k cs R){m:Mom}(hm:m∈cN t R):∃c∈both t cs,c.ready=m.time∧c.since≤m.driven:=by
 obtain⟨d,hd,rfl|rfl⟩:=tI.1 hm
 · obtain⟨c,hc,h1,h2⟩:=h.dom m hd
   exact⟨c,Dr.2 ⟨c,hc,.inl rfl⟩,h1,h2⟩
 · obtain⟨c,hc,h1,h2⟩:=h.dom d hd
   exact⟨oW t c,Dr.2 ⟨c,hc,.inr rfl⟩,by show W (c.ready+t.rest)=W (d.time+t.rest);rw[h1],Int.le_refl _⟩
theorem L2{close : Int}{m a : Mom}(h : Al n t place goal close m = some a):
   (dP n t.profile place goal m.time).2.2=0∧a.time=(dP n t.profile place goal m.time).1∧a.time≤close∧a.driven=W (W (m.driven+a.time)-m.time)∧a.driven≤t.drive:=by
 unfold Al at h;split at h
 · rename_i hb
   simp only[Bool.and_eq_true,beq_iff_eq,decide_eq_true_eq]at hb;injection h with h;subst h;exact⟨hb.1.1,rfl,hb.1.2,rfl,hb.2⟩
 · cases h
theorem E2{c a : Clk}(h : CJ n t place goal c = some a):
   (dP n t.profile place goal c.ready).2.2=0∧a.ready=(dP n t.profile place goal c.ready).1∧a.since=W (W (c.since+a.ready)-c.ready)∧a.since≤t.drive:=by
 unfold CJ at h;split at h
 · rename_i hb
   simp only[Bool.and_eq_true,beq_iff_eq,decide_eq_true_eq]at hb;injection h with h;subst h;exact⟨hb.1,rfl,rfl,hb.2⟩
 · cases h
theorem Nc(ha : ∀ a ∈ n.arcs, ArcOk a)(ht : 0 ≤ t.rest ∧ t.rest ≤ 4096)(hk : k ≤ 16)(h : Cr k cs R){close : Int}{a : Mom}(hm : a ∈ (cN t R).filterMap (Al n t place goal close)):
   a.time≤close∧(0≤a.time∧a.time≤1000000000)∧(-(12288*((k+1:Nat):Int))≤a.driven∧a.driven≤t.drive)∧∃d∈(both t cs).filterMap (CJ n t place goal),d.ready=a.time∧d.since≤a.driven:=by
 obtain⟨m,hm,hf⟩:=List.mem_filterMap.1 hm;obtain⟨h1,h2,h3,h4,h5⟩:=L2 hf;have hr:=yA ht h hm;have hg:=T5 ha hr.1 h1;rw[←h2]at hg;obtain⟨c,hc,c1,c2⟩:=IN (t:=t) h hm;have hcr:=yA ht h (vW h hc);simp only at hcr;have e1:W (W (m.driven+a.time)-m.time)=m.driven+a.time-m.time:=by rw[cR (n:=m.driven+a.time) (by omega),cR (by omega)]
 have e2:W (W (c.since+a.time)-c.ready)=c.since+a.time-c.ready:=by rw[cR (n:=c.since+a.time) (by omega),cR (by omega)]
 refine⟨h3,hg,⟨?_,h5⟩,⟨⟨a.time,W (W (c.since+a.time)-c.ready)⟩,List.mem_filterMap.2 ⟨c,hc,?_⟩,rfl,?_⟩⟩
 · rw[h4,e1];omega
 · unfold CJ
   rw[c1,h1,←h2];rw[c1]at e2;rw[if_pos];simp only[beq_self_eq_true,Bool.true_and,decide_eq_true_eq];rw[e2];rw[h4,e1]at h5;omega
 · show W (W (c.since+a.time)-c.ready)≤a.driven
   rw[e2,h4,e1];omega
theorem Q3(h:Cr k cs R){close:Int}{d:Clk}(hd:d∈(both t cs).filterMap (CJ n t place goal))(hc:d.ready≤close):(⟨d.ready,d.since⟩:Mom)∈(cN t R).filterMap (Al n t place goal close):=by
 obtain⟨c,hcb,hf⟩:=List.mem_filterMap.1 hd;obtain⟨h1,h2,h3,h4⟩:=E2 hf;refine List.mem_filterMap.2 ⟨_,vW h hcb,?_⟩;unfold Al;simp only;rw[←h2,h1,←h3,if_pos];simp only[beq_self_eq_true,Bool.true_and,Bool.and_eq_true,decide_eq_true_eq];exact⟨hc,h4⟩
theorem GU{a b c:Int}:kX a b≤c↔a≤c∧b≤c:=by unfold kX;split <;> omega
theorem VJ(a b:Int):a≤kX a b∧b≤kX a b:=by unfold kX;split <;> omega
theorem Ui(ha : ∀ a ∈ n.arcs, ArcOk a)(ht : 0 ≤ t.rest ∧ t.rest ≤ 4096)(hdr : t.drive ≤ 4096)(hk : k ≤ 16)(h : Cr k cs R){s : Stop}(hs : (0 ≤ s.start ∧ s.start ≤ s.close) ∧ s.close ≤ 4096 ∧ 0 ≤ s.service ∧ s.service ≤ 4096):
   Cr (k+1) (gG s (cU n t place goal cs).1) (kD s (fU n t place goal s.close (cN t R)).1)∧(gG s (cU n t place goal cs).1=[]↔(fU n t place goal s.close (cN t R)).1=[]) ∧
   ((fU n t place goal s.close (cN t R)).1≠[]→(cU n t place goal cs).2=(fU n t place goal s.close (cN t R)).2):=by
 obtain⟨d1,d2⟩:=yN n t place goal cs;obtain⟨a1,a2⟩:=Av n t place goal s.close (cN t R);obtain⟨s1,s2⟩:=Jr s (cU n t place goal cs).1;rw[d1]at s1 s2;have hsub:∀e∈gG s (cU n t place goal cs).1,∃a∈(fU n t place goal s.close (cN t R)).1,(⟨e.ready,e.since⟩:Mom)=⟨W (kX a.time s.start+s.service),a.driven⟩:=fun e he=>by
   obtain⟨c,hc,hok,rfl⟩:=s1 e (by rw[←d1];exact he);have hcl:c.ready≤s.close:=(GU.1 hok).1;exact⟨⟨c.ready,c.since⟩,by rw[a1];exact Q3 h hc hcl,rfl⟩
 have hdom:∀a∈(fU n t place goal s.close (cN t R)).1,((0≤a.time∧a.time≤s.close)∧(-(12288*((k+1:Nat):Int))≤a.driven∧a.driven≤t.drive))∧∃e∈gG s (cU n t place goal cs).1,e.ready=W (kX a.time s.start+s.service)∧e.since≤a.driven:=fun a hm=>by
   rw[a1]at hm;obtain⟨h1,h2,h3,d,hd,q1,q2⟩:=Nc ha ht hk h hm;refine⟨⟨⟨h2.1,h1⟩,h3⟩,?_⟩;obtain⟨e,he,hb⟩:=s2 d hd (by unfold okC;rw[q1];exact GU.2 ⟨h1,hs.1.2⟩);have hb:=sL.1 hb;refine⟨e,by rw[d1];exact he,?_,?_⟩
   · rw[hb.1];show W (kX d.ready s.start+s.service)=_;rw[q1]
   · have:e.since≤d.since:=hb.2
     omega
 refine⟨⟨fun e he=>?_,fun m hm=>?_,fun m hm=>?_⟩,⟨fun he=>?_,fun he=>?_⟩,fun hne=>?_⟩
 · obtain⟨a,hm,he2⟩:=hsub e he
   rw[he2];unfold kD;exact List.mem_map.2 ⟨a,hm,rfl⟩
 · unfold kD at hm
   obtain⟨a,ham,rfl⟩:=List.mem_map.1 hm;exact(hdom a ham).2
 · unfold kD at hm
   obtain⟨a,ham,rfl⟩:=List.mem_map.1 hm;obtain⟨⟨h1,h2⟩,_⟩:=hdom a ham;have hi:=VJ a.time s.start;have hi2:kX a.time s.start≤4096:=GU.2 ⟨by omega,by omega⟩;show(0≤W (kX a.time s.start+s.service)∧W (kX a.time s.start+s.service)≤8192)∧ -(12288*((k+1:Nat):Int))≤a.driven∧a.driven≤4096;rw[cR (by omega)];omega
 · cases hA:(fU n t place goal s.close (cN t R)).1 with
   | nil=>rfl
   | cons a l=>
     obtain⟨_,e,he2,_⟩:=hdom a (by rw[hA];simp);rw[he]at he2;cases he2
 · cases hA:gG s (cU n t place goal cs).1 with
   | nil=>rfl
   | cons e l=>
     obtain⟨a,hm,_⟩:=hsub e (by rw[hA];simp);rw[he]at hm;cases hm
 · rw[a2 hne,d2]
   intro hd0;cases hA:(fU n t place goal s.close (cN t R)).1 with
   | nil=>exact hne hA
   | cons a l=>
     obtain⟨_,e,he2,_⟩:=hdom a (by rw[hA];simp);rw[hd0]at he2;cases he2
theorem Gg(close : Int): ∀ (l P : List Clk) (o : Int), (∀ c ∈ P, 0 ≤ c.ready) → (∀ c ∈ l, 0 ≤ c.ready) →
   ((o= -1∧∀c∈P,¬c.ready≤close)∨((∃c∈P,c.ready=o∧o≤close)∧∀c∈P,c.ready≤close→o≤c.ready)) →
   ((l.foldl (pM close) o= -1∧∀c∈P++l,¬c.ready≤close)∨((∃c∈P++l,c.ready=l.foldl (pM close) o∧l.foldl (pM close) o≤close)∧∀c∈P++l,c.ready≤close→l.foldl (pM close) o≤c.ready))
 | [],P,o,_,_,h=>by simpa using h
 | c::l,P,o,hP,hl,h=>by
   have hc:=hl c (by simp);have key:((pM close o c= -1∧∀d∈P++[c],¬d.ready≤close)∨((∃d∈P++[c],d.ready=pM close o c∧pM close o c≤close)∧∀d∈P++[c],d.ready≤close→pM close o c≤d.ready)):=by
     unfold pM;split
     · rename_i hb
       simp only[Bool.and_eq_true,Bool.or_eq_true,decide_eq_true_eq]at hb;right;refine⟨⟨c,by simp,rfl,hb.1⟩,fun d hd hdc=>?_⟩;rcases List.mem_append.1 hd with hd|hd
       · rcases h with⟨h1,h2⟩|⟨⟨e,he,h1,h2⟩,h3⟩
         · exact absurd hdc (h2 d hd)
         · have:=h3 d hd hdc
           have:=hP e he;omega
       · rw[List.mem_singleton.1 hd];exact Int.le_refl _
     · rename_i hb
       simp only[Bool.and_eq_true,Bool.or_eq_true,decide_eq_true_eq]at hb;rcases h with⟨h1,h2⟩|⟨⟨e,he,h1,h2⟩,h3⟩
       · left
         refine⟨h1,fun d hd=>?_⟩;rcases List.mem_append.1 hd with hd|hd
         · exact h2 d hd
         · rw[List.mem_singleton.1 hd];intro h4;exact hb ⟨h4,.inl (by omega)⟩
       · right
         refine⟨⟨e,List.mem_append_left _ he,h1,h2⟩,fun d hd hdc=>?_⟩;rcases List.mem_append.1 hd with hd|hd
         · exact h3 d hd hdc
         · rw[List.mem_singleton.1 hd]at hdc ⊢
           have:¬c.ready<o:=fun h4=>hb ⟨hdc,.inr h4⟩
           omega
   have:=Gg close l (P++[c]) (pM close o c) (fun d hd=>by
     rcases List.mem_append.1 hd with hd|hd
     · exact hP d hd
     · rw[List.mem_singleton.1 hd];exact hc) (fun d hd=>hl d (by simp[hd])) key
   rw[List.append_assoc]at this;exact this
theorem EP:∀(l:List Mom) (e:Int),(l.foldl (fun e m=>rN e m.time) e=e∨∃m∈l,m.time=l.foldl (fun e m=>rN e m.time) e)∧l.foldl (fun e m=>rN e m.time) e≤e∧∀m∈l,l.foldl (fun e m=>rN e m.time) e≤m.time
 | [],e=>⟨.inl rfl,Int.le_refl _,by simp⟩
 | m::l,e=>by
   obtain⟨h1,h2,h3⟩:=EP l (rN e m.time);have hi:rN e m.time≤e∧rN e m.time≤m.time∧(rN e m.time=e∨rN e m.time=m.time):=by unfold rN;split <;> omega
   rw[List.foldl_cons];refine⟨?_,by omega,fun d hd=>?_⟩
   · rcases h1 with h1|⟨d,hd,h1⟩
     · rcases hi.2.2 with h4|h4
       · exact .inl (h1.trans h4)
       · exact .inr ⟨m,by simp,by rw[h1,h4]⟩
     · exact .inr ⟨d,by simp[hd],h1⟩
   · rcases List.mem_cons.1 hd with rfl|hd
     · omega
     · exact h3 d hd
theorem F6{l:List Mom}(h:l≠[]):(∃m∈l,m.time=Ia l)∧∀m∈l,Ia l≤m.time:=by
 cases l with
 | nil=>exact absurd rfl h
 | cons a l=>
   obtain⟨h1,h2,h3⟩:=EP (a::l) (Dq (a::l));refine⟨?_,h3⟩;rcases h1 with h1|h1
   · exact⟨a,by simp,h1.symm⟩
   · exact h1
theorem WE(ha : ∀ a ∈ n.arcs, ArcOk a)(ht : 0 ≤ t.rest ∧ t.rest ≤ 4096)(hk : k ≤ 16)(h : Cr k cs R)(close : Int):
   ((cU n t place goal cs).1.foldl (pM close) (-1)≥0↔(fU n t place goal close (cN t R)).1≠[]) ∧
   ((fU n t place goal close (cN t R)).1≠[]→(cU n t place goal cs).1.foldl (pM close) (-1)=Ia (fU n t place goal close (cN t R)).1∧(cU n t place goal cs).2=(fU n t place goal close (cN t R)).2):=by
 obtain⟨d1,d2⟩:=yN n t place goal cs;obtain⟨a1,a2⟩:=Av n t place goal close (cN t R);have hpos:∀d∈(cU n t place goal cs).1,0≤d.ready:=fun d hd=>by
   rw[d1]at hd;obtain⟨c,hc,hf⟩:=List.mem_filterMap.1 hd;obtain⟨h1,h2,_⟩:=E2 hf;have hcr:=yA ht h (vW h hc);simp only at hcr;have:=T5 ha hcr.1 h1;rw[h2];exact this.1
 have hsub:∀d∈(cU n t place goal cs).1,d.ready≤close→(⟨d.ready,d.since⟩:Mom)∈(fU n t place goal close (cN t R)).1:=fun d hd hc=>by
   rw[d1]at hd;rw[a1];exact Q3 h hd hc
 have hdom:∀a∈(fU n t place goal close (cN t R)).1,a.time≤close∧∃d∈(cU n t place goal cs).1,d.ready=a.time:=fun a hm=>by
   rw[a1]at hm;obtain⟨h1,_,_,d,hd,q1,_⟩:=Nc ha ht hk h hm;exact⟨h1,d,by rw[d1];exact hd,q1⟩
 have hE:=Gg close (cU n t place goal cs).1 [] (-1) (by simp) hpos (.inl ⟨rfl,by simp⟩);rw[List.nil_append]at hE;generalize hD:(cU n t place goal cs).1=D at *;generalize hA:(fU n t place goal close (cN t R)).1=A at *;rcases hE with⟨e1,e2⟩|⟨⟨c,hc,e1,e2⟩,e3⟩
 · have hnil : A = [] := by
     cases A with
     | nil=>rfl
     | cons a l=>
       obtain⟨q1,d,hd,q2⟩:=hdom a (by simp);exact absurd (by omega) (e2 d hd)
   refine⟨⟨fun h=>by rw[e1]at h;omega,fun h=>absurd hnil h⟩,fun h=>absurd hnil h⟩
 · have hne : A ≠ [] := fun e => by
     have:=hsub c hc (by omega);rw[e]at this;cases this
   have hc0:=hpos c hc;refine⟨⟨fun _=>hne,fun _=>by omega⟩,fun _=>⟨?_,?_⟩⟩
   · obtain⟨⟨m,hm,m1⟩,m2⟩:=F6 hne
     have h1:=m2 _ (hsub c hc (by omega));simp only at h1;obtain⟨q1,d,hd,q2⟩:=hdom m hm;have h2:=e3 d hd (by omega);omega
   · rw[a2 hne,d2 (fun e=>by rw[e]at hc;cases hc)]
end
end Go.Proofs.YtdlijlecpopadaaGreatDoor.Rx
end

section
set_option linter.unusedSimpArgs false
set_option linter.unusedVariables false
namespace Go.Proofs.YtdlijlecpopadaaGreatDoor.Rx
open Go.Aw Go.Aw.D Go.Proofs Ty
open Sq
open Go.Nu (qL)
set_option maxRecDepth 100000
structure Ctx(x:Instance)(k:Nat)(near:List Int):Prop where
 acc:Acc x
 kind:k<x.types.length
 n:x.orders.length≤8
 len:near.length=x.orders.length
 mil:∀c∈x.net.arcs,0≤c.miles∧c.miles≤10000
 money:(0≤(aI x k).fixed∧(aI x k).fixed≤100000)∧(0≤(aI x k).perMile∧(aI x k).perMile≤100)∧0≤(aI x k).perTick∧(aI x k).perTick≤100
 led:∀o∈x.orders,-1≤o.last∧ -1≤o.now
theorem Y6{x:Instance}(h:lQ x=[]):∀o∈x.orders,-1≤o.last∧ -1≤o.now:=by
 unfold lQ at h;simp only[List.append_eq_nil_iff,List.map_eq_nil_iff]at h;obtain⟨⟨⟨_,_⟩,ho⟩,_⟩:=h;unfold oJ at ho;rw[List.append_eq_nil_iff]at ho;intro o hom;obtain⟨i,hi,rfl⟩:=List.getElem_of_mem hom;have h:=List.flatMap_eq_nil_iff.1 ho.2 i (List.mem_range.2 hi);unfold fW at h;rw[List.map_eq_nil_iff,Df (List.getElem?_eq_getElem hi)]at h;unfold jU at h;simp only[List.nil_append,List.append_eq_nil_iff]at h;obtain⟨_,h8⟩:=h;have e8:=fG h8;simp only[Bool.or_eq_false_iff,decide_eq_false_iff_not]at e8;omega
theorem TF{x:Instance}(h:lQ x=[]):∀t∈x.types,(0≤t.fixed∧t.fixed≤100000)∧(0≤t.perMile∧t.perMile≤100)∧0≤t.perTick∧t.perTick≤100:=by
 unfold lQ at h;simp only[List.append_eq_nil_iff,List.map_eq_nil_iff]at h;obtain⟨⟨⟨_,ht⟩,_⟩,_⟩:=h;unfold pZ at ht;rw[List.append_eq_nil_iff]at ht;intro t htm;obtain⟨i,hi,rfl⟩:=List.getElem_of_mem htm;have h:=List.flatMap_eq_nil_iff.1 ht.2 i (List.mem_range.2 hi);unfold gX at h;rw[List.map_eq_nil_iff,C6 (List.getElem?_eq_getElem hi)]at h;unfold lE at h;simp only[List.nil_append,List.append_eq_nil_iff]at h;obtain⟨_,h9⟩:=h;have e9:=fG h9;simp only[Bool.or_eq_false_iff]at e9;have a1:=jR.1 (nP e9.1.1.2);have a2:=jR.1 (nP e9.1.2);have a3:=jR.1 (nP e9.2);exact⟨a1,a2,a3⟩
theorem ZW{x:Instance}(h:lQ x=[]){k:Nat}(hk:k<x.types.length)(hn:x.orders.length≤8){near:List Int}(hl:near.length=x.orders.length):Ctx x k near:=
 ⟨Ue h,hk,hn,hl,UL h,TF h _ (tX hk),Y6 h⟩
theorem OV{n:Network}(hm:∀c∈n.arcs,0≤c.miles∧c.miles≤10000)(t:VType)(p g:Int):0≤mil n t p g∧mil n t p g≤10000:=by
 unfold mil dP;split
 · exact⟨Int.le_refl 0,by decide⟩
 · split
   · exact⟨Int.le_refl 0,by decide⟩
   · cases e:kF n t.profile p g with
     | none=>exact⟨Int.le_refl 0,by decide⟩
     | some a=>
       unfold kF at e;exact hm a (List.mem_of_find?_eq_some e)
theorem Ctx.ty{x:Instance}{k:Nat}{near:List Int}(h:Ctx x k near):TypeB (aI x k) (lY x.types):=h.acc.type _ (tX h.kind)
structure Rel(x:Instance)(t:VType)(p:Part)(q:RP):Prop where
 place:p.place=q.place
 memory:p.memory=q.memory
 board:p.board=q.board
 visits:p.visits=q.visits
 load:p.load=q.load
 ll:q.load.length=AU x
 mem:q.memory<2^x.orders.length
 clk:∃R,Cr p.visits p.clocks R∧q.moms=cN t R
theorem Uq{s o:Nat}(h:o≤62):kE (s:Nat) (o:Nat)=jX s o:=by
 rw[JX (by omega) (by omega),Int.toNat_natCast,qE]
theorem UA{b o:Nat}(h:jX b o=true):A2 b o=b-2^o:=by
 rw[qE]at h;have e:b &&& 2^o=2^o:=by
   apply Nat.eq_of_testBit_eq;intro i;rw[Nat.testBit_and];by_cases hi:o=i
   · subst hi;rw[h,Nat.testBit_two_pow_self];rfl
   · rw[Nat.testBit_two_pow_of_ne hi];simp
 unfold A2;rw[e];have hb:(b ^^^ 2^o).testBit o=false:=by rw[Nat.testBit_xor,h,Nat.testBit_two_pow_self];rfl
 have ha:=Cp hb;have hc:(b ^^^ 2^o) ||| 2^o=b:=by
   apply Nat.eq_of_testBit_eq;intro i;rw[Nat.testBit_or,Nat.testBit_xor];by_cases hi:o=i
   · subst hi;rw[h,Nat.testBit_two_pow_self];rfl
   · rw[Nat.testBit_two_pow_of_ne hi];simp
 rw[hc]at ha;omega
theorem Vf{b o:Nat}(h:jX b o=false):b ||| 2^o=b+2^o:=(Cp (by rw[←qE];exact h)).symm
theorem Rt{a b:List Int}(hb:∀n∈b,0≤n∧n≤1000):qT a b=dQ a b 1:=by
 unfold qT dQ;induction a generalizing b with
 | nil=>rfl
 | cons u a ih=>
   cases b with
   | nil=>rfl
   | cons v b=>
     have hv:=hb v (by simp);rw[List.zipWith_cons_cons,List.zipWith_cons_cons,ih (fun n hn=>hb n (by simp[hn]))]
     congr 1
     rw[cR (n:=1*v) (by omega),Int.one_mul];rfl
theorem S1{a b:List Int}(hb:∀n∈b,0≤n∧n≤1000):sA a b=dQ a b (-1):=by
 unfold sA dQ;induction a generalizing b with
 | nil=>rfl
 | cons u a ih=>
   cases b with
   | nil=>rfl
   | cons v b=>
     have hv:=hb v (by simp);rw[List.zipWith_cons_cons,List.zipWith_cons_cons,ih (fun n hn=>hb n (by simp[hn]))]
     congr 1
     rw[cR (n:= -1*v) (by omega)];show W (u-v)=_
     congr 1
     omega
theorem A1{a c:List Int}(h:a.length=c.length):iM a c=pF a c:=by
 unfold iM pF;rw[h];simp
section
variable{x:Instance}{k:Nat}{near:List Int}{du:Option (List ByteArray)}{dl:List ByteArray}{M:Nat}{cn:Int}{lim fnd:Bool}{le:ByteArray}{p:Part}{q:RP}{o:Nat}{d:Bool}
abbrev wOf(x:Instance)(k:Nat)(near:List Int)(du:Option (List ByteArray))(M:Nat):Wk:=⟨x,k,aI x k,near,du,M⟩
abbrev sOf(x:Instance)(k:Nat)(near:List Int)(dl:List ByteArray)(M:Nat)(cn:Int)(lim fnd:Bool)(le:ByteArray):Rs:=⟨x,aI x k,k,near,dl,M,cn,lim,fnd,le⟩
def yF(x:Instance)(k:Nat)(near:List Int)(du:Option (List ByteArray))(p:Part)(q:RP)(o:Nat)(d:Bool):Part:=
 { p with
   memory:=if dI (aJ x o) d=true then sG near p.memory o else p.memory
   value:=if dI (aJ x o) d=true then zQ (addV p.value ((jZ (aJ x o).now k*16+jZ (aJ x o).last k)*65536)) o du else p.value
   board:=if dI (aJ x o) d=true then(if jB (aJ x o)=true then p.board+2^o else p.board)else p.board-2^o
   load:=fN q (aJ x o) d }
theorem Sc(h : Ctx x k near)(r : Rel x (aI x k) p q)(ho : o < x.orders.length)(hp : (stR (aJ x o) d).place ≥ 0)(hoff : (aJ x o).off = false)(hab : jM (aI x k).skills (aJ x o).skills = true)(hM : p.visits < M):
   (pI q o (dI (aJ x o) d)=true→(dG (wOf x k near du M) p ⟨(o:Nat),d⟩).2=false) ∧
   (pI q o (dI (aJ x o) d)=false→pF (fN q (aJ x o) d) (aI x k).cap=false→(dG (wOf x k near du M) p ⟨(o:Nat),d⟩).2=false) ∧
   (pI q o (dI (aJ x o) d)=false→pF (fN q (aJ x o) d) (aI x k).cap=true→dG (wOf x k near du M) p ⟨(o:Nat),d⟩=goP (wOf x k near du M) (yF x k near du p q o d) (stR (aJ x o) d)):=by
 have hn:=h.n;have hO:=h.acc.order _ (sR ho);have hld:=(CK hO.load).2;have hstop:eM x ⟨(o:Nat),d⟩=(stR (aJ x o) d,0):=Rh ho hp;have hll:=r.ll;have hol:=zY h.acc ho;have hcp:=Cn h.acc h.kind;have hA:=Rt (a:=q.load) hld;have hS:=S1 (a:=q.load) hld;have hal:(dQ q.load (aJ x o).load 1).length=(aI x k).cap.length:=by unfold dQ;rw[List.length_zipWith];omega
 have hsl:(dQ q.load (aJ x o).load (-1)).length=(aI x k).cap.length:=by unfold dQ;rw[List.length_zipWith];omega
 have hql:q.load.length=(aI x k).cap.length:=by omega
 have hne : dG (wOf x k near du M) p ⟨(o : Nat), d⟩ =
     (let s:=if(!d||decide ((aJ x o).pick.place<0))=true then fY (wOf x k near du M) p o else(p,true)
      if s.2=true then
        let l:=fH (wOf x k near du M) s.1 o d
        if l.2=true then goP (wOf x k near du M) l.1 (stR (aJ x o) d)else(l.1,false)
      else(s.1,false)):=by
   unfold dG;have e0:(⟨(o:Nat),d⟩:Visit).order.toNat=o:=Int.toNat_natCast o;rw[e0,hstop];rw[if_neg]
   · rfl
   · rw[hoff,GB h.ty.skills hO.skills,hab]
     simp;omega
 rw[hne];clear hne hstop;have bM:kE (p.memory:Nat) (o:Nat)=jX q.memory o:=by rw[r.memory];exact Uq (by omega)
 have bB:kE (p.board:Nat) (o:Nat)=jX q.board o:=by rw[r.board];exact Uq (by omega)
 have st1:(jX q.memory o||jX q.board o)=true→fY (wOf x k near du M) p o=(p,false):=fun hs=>by
   unfold fY;rw[bM,bB,if_pos hs]
 have st2:(jX q.memory o||jX q.board o)=false→fY (wOf x k near du M) p o=({ p with memory:=sG near p.memory o,value:=zQ (addV p.value ((jZ (aJ x o).now k*16+jZ (aJ x o).last k)*65536)) o du },true):=fun hs=>by
   unfold fY;rw[bM,bB,if_neg (by rw[hs];simp)]
 have e3:pI q o true=(jX q.memory o||jX q.board o):=by unfold pI;simp
 have e4:pI q o false= !jX q.board o:=by unfold pI;simp
 cases d with
 | false=>
   have e1:dI (aJ x o) false=true:=rfl;have e2:fN q (aJ x o) false=dQ q.load (aJ x o).load 1:=rfl;rw[e1,e2,e3];have c1:(!false||decide ((aJ x o).pick.place<0))=true:=rfl;rw[if_pos c1];cases hs:(jX q.memory o||jX q.board o)with
   | true=>
     rw[st1 hs];exact⟨fun _=>rfl,fun h1=>(by cases h1),fun h1=>(by cases h1)⟩
   | false=>
     have hb:jX q.board o=false:=(Bool.or_eq_false_iff.1 hs).2;have hl : fH (wOf x k near du M) { p with memory := sG near p.memory o, value := zQ (addV p.value ((jZ (aJ x o).now k * 16 + jZ (aJ x o).last k) * 65536)) o du } o false =
         (yF x k near du p q o false,pF (dQ q.load (aJ x o).load 1) (aI x k).cap):=by
       unfold fH yF;rw[if_pos rfl,e1,e2];simp only[if_true,r.load,r.board,hA,A1 hal,Vf hb]
     rw[st2 hs];dsimp only;rw[if_pos rfl,hl];dsimp only;refine⟨fun h1=>(by cases h1),fun _ h2=>?_,fun _ h2=>?_⟩
     · rw[h2];rfl
     · rw[h2];rfl
 | true=>
   have hdp:(aJ x o).drop.place≥0:=hp;by_cases hb:jB (aJ x o)=true
   · have hpk : ¬ (aJ x o).pick.place < 0 := by
       unfold jB at hb;simp at hb;omega
     have e1:dI (aJ x o) true=false:=by unfold dI;rw[hb];rfl
     have e2:fN q (aJ x o) true=dQ q.load (aJ x o).load (-1):=by unfold fN;rw[if_neg (by simp),if_pos hb]
     have c1:(!true||decide ((aJ x o).pick.place<0))=false:=by rw[decide_eq_false hpk];rfl
     have hif:(if(!true||decide ((aJ x o).pick.place<0))=true then fY (wOf x k near du M) p o else(p,true))=(p,true):=if_neg (fun h=>Bool.noConfusion (c1.symm.trans h));rw[e1,e2,e4,hif];cases hs:jX q.board o with
     | true=>
       have hl:fH (wOf x k near du M) p o true=(yF x k near du p q o true,pF (dQ q.load (aJ x o).load (-1)) (aI x k).cap):=by
         unfold fH yF;rw[if_neg (by simp),if_pos hb,bB,if_pos hs,e1,e2];simp only[Bool.false_eq_true,if_false,r.load,r.board,hS,A1 hsl,UA hs]
       dsimp only;rw[if_pos rfl,hl];dsimp only;refine⟨fun h1=>(by cases h1),fun _ h2=>?_,fun _ h2=>?_⟩
       · rw[h2];rfl
       · rw[h2];rfl
     | false=>
       have hl:fH (wOf x k near du M) p o true=(p,false):=by
         unfold fH;rw[if_neg (by simp),if_pos hb,bB,if_neg (by rw[hs];simp)]
       dsimp only;rw[if_pos rfl,hl];dsimp only;exact⟨fun _=>rfl,fun h1=>(by cases h1),fun h1=>(by cases h1)⟩
   · have hb:jB (aJ x o)=false:=by simpa using hb
     have hpk:(aJ x o).pick.place<0:=by
       unfold jB at hb;simp at hb;omega
     have e1:dI (aJ x o) true=true:=by unfold dI;rw[hb];rfl
     have e2:fN q (aJ x o) true=q.load:=by unfold fN;rw[if_neg (by simp),if_neg (by rw[hb];simp)]
     have c1:(!true||decide ((aJ x o).pick.place<0))=true:=by rw[decide_eq_true hpk];rfl
     rw[e1,e2,e3,if_pos c1];cases hs:(jX q.memory o||jX q.board o)with
     | true=>
       rw[st1 hs];exact⟨fun _=>rfl,fun h1=>(by cases h1),fun h1=>(by cases h1)⟩
     | false=>
       have hl : fH (wOf x k near du M) { p with memory := sG near p.memory o, value := zQ (addV p.value ((jZ (aJ x o).now k * 16 + jZ (aJ x o).last k) * 65536)) o du } o true =
           (yF x k near du p q o true,pF q.load (aI x k).cap):=by
         unfold fH yF;rw[if_neg (by simp),if_neg (by rw[hb];simp),e1,e2,hb];simp only[if_true,Bool.false_eq_true,if_false,r.load,A1 hql]
       rw[st2 hs];dsimp only;rw[if_pos rfl,hl];dsimp only;refine⟨fun h1=>(by cases h1),fun _ h2=>?_,fun _ h2=>?_⟩
       · rw[h2];rfl
       · rw[h2];rfl
theorem rR : (gU (sOf x k near dl M cn lim fnd le) q o d).memory = (if dI (aJ x o) d = true then pD near q.memory o near.length else q.memory) ∧
   (gU (sOf x k near dl M cn lim fnd le) q o d).board=(if dI (aJ x o) d=true then(if jB (aJ x o)=true then q.board+2^o else q.board)else q.board-2^o) ∧
   (gU (sOf x k near dl M cn lim fnd le) q o d).load=q.load∧(gU (sOf x k near dl M cn lim fnd le) q o d).visits=q.visits∧(gU (sOf x k near dl M cn lim fnd le) q o d).miles=q.miles ∧
   (gU (sOf x k near dl M cn lim fnd le) q o d).dual=(if dI (aJ x o) d=true then(qL q.dual (dl.getD o ByteArray.empty)).1 else q.dual) ∧
   (gU (sOf x k near dl M cn lim fnd le) q o d).moved=(if dI (aJ x o) d=true then kQ (aJ x o).now k q.moved else q.moved) ∧
   (gU (sOf x k near dl M cn lim fnd le) q o d).other=(if dI (aJ x o) d=true then kQ (aJ x o).last k q.other else q.other):=by
 unfold gU;cases dI (aJ x o) d with
 | true=>
   cases hb:jB (aJ x o)with
   | true=>exact⟨rfl,rfl,rfl,rfl,rfl,rfl,rfl,rfl⟩
   | false=>exact⟨rfl,rfl,rfl,rfl,rfl,rfl,rfl,rfl⟩
 | false=>exact⟨rfl,rfl,rfl,rfl,rfl,rfl,rfl,rfl⟩
structure Adds(x:Instance)(k:Nat)(dl:List ByteArray)(p p':Part)(q q':RP)(o:Nat)(d:Bool)(B:ByteArray)(miles:Int):Prop where
 rng:0≤miles∧miles≤10000
 value:p'.value=addV B (W (W ((aI x k).perMile*miles)*16777216))
 miles:q'.miles=W (q.miles+miles)
 dual:q'.dual=if dI (aJ x o) d=true then(qL q.dual (dl.getD o ByteArray.empty)).1 else q.dual
 moved:q'.moved=if dI (aJ x o) d=true then kQ (aJ x o).now k q.moved else q.moved
 other:q'.other=if dI (aJ x o) d=true then kQ (aJ x o).last k q.other else q.other
theorem Q6(h : Ctx x k near)(r : Rel x (aI x k) p q)(ho : o < x.orders.length)(hp : (stR (aJ x o) d).place ≥ 0)(hoff : (aJ x o).off = false)(hab : jM (aI x k).skills (aJ x o).skills = true)(hM : p.visits < M)(hM16 : M ≤ 16):
   (dG (wOf x k near du M) p ⟨(o:Nat),d⟩).2=(fX (sOf x k near dl M cn lim fnd le) q o d).2 ∧
   ((dG (wOf x k near du M) p ⟨(o:Nat),d⟩).2=true→Rel x (aI x k) (dG (wOf x k near du M) p ⟨(o:Nat),d⟩).1 (fX (sOf x k near dl M cn lim fnd le) q o d).1∧(dG (wOf x k near du M) p ⟨(o:Nat),d⟩).1.visits=p.visits+1 ∧
     ∃miles,Adds x k dl p (dG (wOf x k near du M) p ⟨(o:Nat),d⟩).1 q (fX (sOf x k near dl M cn lim fnd le) q o d).1 o d (yF x k near du p q o d).value miles):=by
 obtain⟨n1,n2,n3⟩:=Sc (near:=near) (du:=du) (M:=M) h r ho hp hoff hab hM;obtain⟨R,hR,hq⟩:=r.clk;have hT:=h.ty;have hO:=h.acc.order _ (sR ho);have hw:eY (stR (aJ x o) d)=0:=by
   unfold stR;split
   · exact hO.wdrop
   · exact hO.wpick
 have hws:=Tw hw hp;obtain⟨c1,c2,c3⟩:=Ui (place:=p.place) (goal:=(stR (aJ x o) d).place) (fun a ha=>h.acc.arc a ha) hT.rest hT.drive.2 (show p.visits≤16 by omega) hR hws;rw[←hq]at c1 c2 c3;have hV:fX (sOf x k near dl M cn lim fnd le) q o d=if pI q o (dI (aJ x o) d)=true then(q,false)
   else
     if(fU x.net (aI x k) p.place (stR (aJ x o) d).place (stR (aJ x o) d).close q.moms).1.length=0 then(q,false)
     else if pF (fN q (aJ x o) d) (aI x k).cap=true then(goR (sOf x k near dl M cn lim fnd le) (gU (sOf x k near dl M cn lim fnd le) { q with load:=fN q (aJ x o) d } o d) (stR (aJ x o) d) (fU x.net (aI x k) p.place (stR (aJ x o) d).place (stR (aJ x o) d).close q.moms).2 (fU x.net (aI x k) p.place (stR (aJ x o) d).place (stR (aJ x o) d).close q.moms).1,true)
     else({ q with load:=fN q (aJ x o) d },false):=by rw[r.place];rfl
 cases hs:pI q o (dI (aJ x o) d)with
 | true=>
   rw[hV,if_pos hs,n1 hs];exact⟨rfl,fun h=>by cases h⟩
 | false=>
   rw[if_neg (by rw[hs];simp)]at hV;cases hf:pF (fN q (aJ x o) d) (aI x k).cap with
   | false=>
     rw[n2 hs hf];refine⟨?_,fun h=>by cases h⟩;rw[hV];split
     · rfl
     · rw[if_neg (by rw[hf];simp)]
   | true=>
     rw[n3 hs hf];rw[if_pos hf]at hV;have hG:goP (wOf x k near du M) (yF x k near du p q o d) (stR (aJ x o) d)=({ yF x k near du p q o d with clocks:=gG (stR (aJ x o) d) (cU x.net (aI x k) p.place (stR (aJ x o) d).place p.clocks).1,place:=(stR (aJ x o) d).place,visits:=p.visits+1,value:=addV (yF x k near du p q o d).value (W (W ((aI x k).perMile*(cU x.net (aI x k) p.place (stR (aJ x o) d).place p.clocks).2)*16777216)) },decide ((gG (stR (aJ x o) d) (cU x.net (aI x k) p.place (stR (aJ x o) d).place p.clocks).1).length>0)):=rfl;rw[hG];clear hG;have hDm:∀s,gG s (cU x.net (aI x k) p.place (stR (aJ x o) d).place p.clocks).1≠[]→0≤(cU x.net (aI x k) p.place (stR (aJ x o) d).place p.clocks).2∧(cU x.net (aI x k) p.place (stR (aJ x o) d).place p.clocks).2≤10000:=fun s hs=>by
       rw[(yN x.net (aI x k) p.place (stR (aJ x o) d).place p.clocks).2 (fun e=>hs (by rw[e];rfl))];exact OV h.mil _ _ _
     generalize cU x.net (aI x k) p.place (stR (aJ x o) d).place p.clocks=D at *;generalize fU x.net (aI x k) p.place (stR (aJ x o) d).place (stR (aJ x o) d).close q.moms=A at *;by_cases hA:A.1=[]
     · rw[if_pos (by rw[hA];rfl)]at hV
       rw[hV,c2.2 hA];exact⟨rfl,fun h=>by cases h⟩
     · have hSv:¬gG (stR (aJ x o) d) D.1=[]:=fun e=>hA (c2.1 e)
       have hA0:¬A.1.length=0:=fun e=>hA (List.length_eq_zero_iff.1 e)
       rw[if_neg hA0]at hV;have hpos:(gG (stR (aJ x o) d) D.1).length>0:=List.length_pos_iff.2 hSv;rw[hV];refine⟨decide_eq_true hpos,fun _=>⟨⟨?_,?_,?_,?_,?_,?_,?_,?_⟩,rfl,D.2,⟨hDm _ hSv,rfl,?_,?_,?_,?_⟩⟩⟩
       · rfl
       · show(if dI (aJ x o) d=true then sG near p.memory o else p.memory)=(gU (sOf x k near dl M cn lim fnd le) { q with load:=fN q (aJ x o) d } o d).memory
         rw[(rR).1,r.memory,Ur (by rw[h.len];exact ho) (by rw[h.len];exact r.mem)]
       · show(if dI (aJ x o) d=true then(if jB (aJ x o)=true then p.board+2^o else p.board)else p.board-2^o)=(gU (sOf x k near dl M cn lim fnd le) { q with load:=fN q (aJ x o) d } o d).board
         rw[(rR).2.1,r.board]
       · show p.visits+1=(gU (sOf x k near dl M cn lim fnd le) { q with load:=fN q (aJ x o) d } o d).visits+1
         rw[(rR).2.2.2.1,r.visits]
       · show fN q (aJ x o) d=(gU (sOf x k near dl M cn lim fnd le) { q with load:=fN q (aJ x o) d } o d).load
         rw[(rR).2.2.1]
       · show(gU (sOf x k near dl M cn lim fnd le) { q with load:=fN q (aJ x o) d } o d).load.length=AU x
         rw[(rR).2.2.1];have hol:=zY h.acc ho;have hll:=r.ll;have hc:∀s,(dQ q.load (aJ x o).load s).length=AU x:=fun s=>by unfold dQ;rw[List.length_zipWith];omega
         show(fN q (aJ x o) d).length=AU x;unfold fN;split
         · exact hc 1
         · split
           · exact hc (-1)
           · exact hll
       · show(gU (sOf x k near dl M cn lim fnd le) { q with load:=fN q (aJ x o) d } o d).memory<2^x.orders.length
         rw[(rR).1];split
         · have:=wF near q.memory o near.length
           rw[h.len]at this ⊢;exact this
         · exact r.mem
       · exact⟨_,c1,rfl⟩
       · show W ((gU (sOf x k near dl M cn lim fnd le) { q with load:=fN q (aJ x o) d } o d).miles+A.2)=_
         rw[(rR).2.2.2.2.1,c3 hA]
       · exact(rR).2.2.2.2.2.1
       · exact(rR).2.2.2.2.2.2.1
       · exact(rR).2.2.2.2.2.2.2
end
end Go.Proofs.YtdlijlecpopadaaGreatDoor.Rx
end

section
set_option linter.unusedSimpArgs false
set_option linter.unusedVariables false
namespace Go.Proofs.YtdlijlecpopadaaGreatDoor.Rx
open Go.Aw Go.Aw.D Go.Proofs Ty Go.Nu
set_option maxRecDepth 100000
theorem KX(n:Int):hJ (n:Rat)=zed n:=by unfold hJ;rw[if_pos (Rat.den_intCast n),Rat.num_intCast]
def Sm(A D:Nat)(x:Rat):Prop:=x.den≤D∧x.num.natAbs≤A*x.den
theorem RX{n:Int}{d:Nat}(hd:d≠0):∃g:Nat,0<g∧n.natAbs=(mkRat n d).num.natAbs*g∧d=(mkRat n d).den*g:=by
 have h1:=Hi (n:=n) hd;have h2:=Il (n:=n) hd;have hg:=HZ (n:=n) hd;have dn:=Nat.gcd_dvd_left n.natAbs d;have dd:=Nat.gcd_dvd_right n.natAbs d;refine⟨Nat.gcd n.natAbs d,hg,?_,?_⟩
 · generalize Nat.gcd n.natAbs d=g at *
   rw[←h1,Int.fdiv_eq_ediv_of_nonneg _ (Int.natCast_nonneg g)];have hdvd:(g:Int)∣n:=Int.dvd_natAbs.1 (Int.natCast_dvd_natCast.2 dn);rw[Int.natAbs_ediv_of_dvd hdvd,Int.natAbs_natCast];exact(Nat.div_mul_cancel dn).symm
 · generalize Nat.gcd n.natAbs d=g at *
   rw[Int.fdiv_eq_ediv_of_nonneg _ (Int.natCast_nonneg g),←Int.natCast_ediv]at h2;have:d/g=(mkRat n d).den:=Int.ofNat.inj h2;rw[←this];exact(Nat.div_mul_cancel dd).symm
theorem RI{A B D F:Nat}{x y:Rat}(hx:Sm A D x)(hy:Sm B F y):Sm (A+B) (D*F) (x+y):=by
 obtain⟨g,hg,e1,e2⟩:=RX (n:=x.num*y.den+y.num*x.den) (GW x y)
 rw[←DU]at e1 e2
 have hb:(x.num*y.den+y.num*x.den).natAbs≤(A+B)*(x.den*y.den):=by
   refine Nat.le_trans (Int.natAbs_add_le _ _) ?_
   rw[Int.natAbs_mul,Int.natAbs_mul,Int.natAbs_natCast,Int.natAbs_natCast,Nat.add_mul]
   refine Nat.add_le_add ?_ ?_
   · rw[←Nat.mul_assoc];exact Nat.mul_le_mul_right _ hx.2
   · rw[Nat.mul_comm x.den,←Nat.mul_assoc];exact Nat.mul_le_mul_right _ hy.2
 refine⟨?_,?_⟩
 · have : (x + y).den ≤ x.den * y.den := by
     calc (x+y).den≤(x+y).den*g:=Nat.le_mul_of_pos_right _ hg
       _=x.den*y.den:=e2.symm
   exact Nat.le_trans this (Nat.mul_le_mul hx.1 hy.1)
 · rw[e1,e2,←Nat.mul_assoc]at hb
   exact Nat.le_of_mul_le_mul_right hb hg
theorem NT{A B D F:Nat}{x:Rat}(h:Sm A D x)(h1:A≤B)(h2:D≤F):Sm B F x:=⟨Nat.le_trans h.1 h2,Nat.le_trans h.2 (Nat.mul_le_mul_right _ h1)⟩
theorem SD{A D:Nat}{x:Rat}(h:Sm A D x)(h1:A*D<cC)(h2:D<cC):mJ x:=
 ⟨Nat.lt_of_le_of_lt (Nat.le_trans h.2 (Nat.mul_le_mul_left _ h.1)) h1,Nat.lt_of_le_of_lt h.1 h2⟩
theorem JL{A B D F:Nat}{x y:Rat}(hx:Sm A D x)(hy:Sm B F y):(x.num*y.den).natAbs≤A*(D*F)∧(y.num*x.den).natAbs≤B*(D*F)∧(x.num*y.den+y.num*x.den).natAbs≤(A+B)*(D*F)∧x.den*y.den≤D*F:=by
 have hd:=Nat.mul_le_mul hx.1 hy.1;have h1:(x.num*y.den).natAbs≤A*(x.den*y.den):=by
   rw[Int.natAbs_mul,Int.natAbs_natCast,←Nat.mul_assoc];exact Nat.mul_le_mul_right _ hx.2
 have h2:(y.num*x.den).natAbs≤B*(x.den*y.den):=by
   rw[Int.natAbs_mul,Int.natAbs_natCast,Nat.mul_comm x.den,←Nat.mul_assoc];exact Nat.mul_le_mul_right _ hy.2
 refine⟨Nat.le_trans h1 (Nat.mul_le_mul_left _ hd),Nat.le_trans h2 (Nat.mul_le_mul_left _ hd),?_,hd⟩;refine Nat.le_trans (Int.natAbs_add_le _ _) ?_;rw[Nat.add_mul];exact Nat.add_le_add (Nat.le_trans h1 (Nat.mul_le_mul_left _ hd)) (Nat.le_trans h2 (Nat.mul_le_mul_left _ hd))
theorem Xf{A B D F:Nat}{x y:Rat}(hx:Sm A D x)(hy:Sm B F y)(h:(A+B)*(D*F)<cC)(h2:D*F<cC)(sx:mJ x)(sy:mJ y):qL (hJ x) (hJ y)=(hJ (x+y),0):=by
 obtain⟨p1,p2,p3,p4⟩:=JL hx hy;unfold qL;rw[kA sx,kA sy,Bool.and_self,if_pos rfl,eI,eI];refine NB (Nat.lt_of_le_of_lt p1 (Nat.lt_of_le_of_lt (Nat.mul_le_mul_right _ (Nat.le_add_right _ _)) h)) (Nat.lt_of_le_of_lt p2 (Nat.lt_of_le_of_lt (Nat.mul_le_mul_right _ (Nat.le_add_left _ _)) h)) (Nat.lt_of_le_of_lt p3 h) (Nat.lt_of_le_of_lt p4 h2)
theorem WD{A D:Nat}(h:1≤D):Sm A D 0:=⟨h,Nat.zero_le _⟩
theorem P0(c e k:Nat)(hc:c<100)(h:2+(e+e*k)≤4096):c*10^e*(10^e)^k<cC:=by
 refine GS (k:=2+(e+e*k)) ?_ h;rw[←Nat.pow_mul,Nat.mul_assoc,←Nat.pow_add,Nat.pow_add 10 2];exact Nat.mul_lt_mul_of_pos_right hc (Nat.pow_pos (by decide))
theorem MA(e k:Nat)(h:2+(e+e*k)≤4096):(10^e)^k<cC:=by
 refine GS (k:=e*k+1) ?_ (by omega);rw[←Nat.pow_mul];exact Nat.pow_lt_pow_right (by decide) (Nat.lt_succ_self _)
theorem Ss{A D:Nat}{x:Rat}(h:Sm A D x):Sm A D (-x):=by
 unfold Sm;rw[Rat.neg_num,Rat.neg_den,Int.natAbs_neg];exact h
theorem Zn{n:Int}{A:Nat}(h:n.natAbs≤A):Sm A 1 (n:Rat):=by
 unfold Sm;rw[Rat.num_intCast,Rat.den_intCast];omega
theorem VP{A B D F:Nat}{x y:Rat}(hx:Sm A D x)(hy:Sm B F y)(h:(A+B)*(D*F)<cC)(h2:D*F<cC)(sx:mJ x)(sy:mJ y):pQ (hJ x) (hJ y)=(hJ (x-y),0):=by
 obtain⟨p1,p2,p3,p4⟩:=JL hx (Ss hy);unfold pQ;rw[kA sx,kA sy,Bool.and_self,if_pos rfl,eI,eI,NB (Nat.lt_of_le_of_lt p1 (Nat.lt_of_le_of_lt (Nat.mul_le_mul_right _ (Nat.le_add_right _ _)) h)) (Nat.lt_of_le_of_lt p2 (Nat.lt_of_le_of_lt (Nat.mul_le_mul_right _ (Nat.le_add_left _ _)) h)) (Nat.lt_of_le_of_lt p3 h) (Nat.lt_of_le_of_lt p4 h2),Rat.sub_eq_add_neg]
def EE:Nat:=10^60
structure Vl(v:Nat)(a:ByteArray)(r:Rat):Prop where
 eq:a=hJ r
 sm:Sm (v*EE) (EE^v) r
theorem TO:1≤EE:=Nat.pow_pos (by decide)
theorem zA{v:Nat}(h:v≤60):v*EE*EE^v<cC∧EE^v<cC:=by
 have b1:=P0 v 60 v (by omega) (by omega);have b2:=MA 60 v (by omega);exact⟨b1,b2⟩
theorem Vl.small{v:Nat}{a:ByteArray}{r:Rat}(h:Vl v a r)(hv:v≤60):mJ r:=SD h.sm (zA hv).1 (zA hv).2
theorem Vl.right{v:Nat}{a:ByteArray}{r:Rat}(h:Vl v a r)(hv:v≤60):cK a=true:=by rw[h.eq];exact kA (h.small hv)
theorem Vl.val{v:Nat}{a:ByteArray}{r:Rat}(h:Vl v a r):yD a=r:=by rw[h.eq,eI]
theorem Vl.mono{v u:Nat}{a:ByteArray}{r:Rat}(h:Vl v a r)(hv:v≤u):Vl u a r:=⟨h.eq,NT h.sm (Nat.mul_le_mul_right _ hv) (Nat.pow_le_pow_right TO hv)⟩
theorem Vl.add{u v:Nat}{a b:ByteArray}{r s:Rat}(ha:Vl u a r)(hb:Vl v b s)(h:u+v≤60):(qL a b).2=0∧Vl (u+v) (qL a b).1 (r+s):=by
 have hb1:=zA h;have e1:u*EE+v*EE=(u+v)*EE:=(Nat.add_mul _ _ _).symm;have e2:EE^u*EE^v=EE^(u+v):=(Nat.pow_add _ _ _).symm;have:=Xf ha.sm hb.sm (by rw[e1,e2];exact hb1.1) (by rw[e2];exact hb1.2) (ha.small (by omega)) (hb.small (by omega));rw[←ha.eq,←hb.eq]at this;rw[this];refine⟨rfl,rfl,?_⟩;have hs:=RI ha.sm hb.sm;rw[e1,e2]at hs;exact hs
theorem Vl.sub{u v:Nat}{a b:ByteArray}{r s:Rat}(ha:Vl u a r)(hb:Vl v b s)(h:u+v≤60):(pQ a b).2=0∧Vl (u+v) (pQ a b).1 (r-s):=by
 have hb1:=zA h;have e1:u*EE+v*EE=(u+v)*EE:=(Nat.add_mul _ _ _).symm;have e2:EE^u*EE^v=EE^(u+v):=(Nat.pow_add _ _ _).symm;have:=VP ha.sm hb.sm (by rw[e1,e2];exact hb1.1) (by rw[e2];exact hb1.2) (ha.small (by omega)) (hb.small (by omega));rw[←ha.eq,←hb.eq]at this;rw[this];refine⟨rfl,rfl,?_⟩;have hs:=RI ha.sm (Ss hb.sm);rw[e1,e2,←Rat.sub_eq_add_neg]at hs;exact hs
theorem Vl.int{n:Int}(h:n.natAbs≤EE):Vl 1 (zed n) (n:Rat):=⟨(KX n).symm,by rw[Nat.one_mul,Nat.pow_one];exact NT (Zn h) (Nat.le_refl _) TO⟩
theorem UO{n:Int}(h:n.natAbs≤9223372036854775808):n.natAbs≤EE:=Nat.le_trans h (by decide)
theorem Vl.addV{u:Nat}{a:ByteArray}{r:Rat}{n:Int}(ha:Vl u a r)(hn:n.natAbs≤9223372036854775808)(h:u+1≤60):Vl (u+1) (addV a n) (r+(n:Rat)):=(ha.add (Vl.int (UO hn)) h).2
end Go.Proofs.YtdlijlecpopadaaGreatDoor.Rx
end
