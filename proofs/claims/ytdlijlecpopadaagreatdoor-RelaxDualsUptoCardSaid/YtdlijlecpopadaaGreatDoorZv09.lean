/- Texts joined by a program: AwEnd. -/
import Derived.Scope
import Derived.Test.YtdlijlecpopadaaGreatDoorZv08
set_option linter.unusedSimpArgs false
set_option linter.unusedVariables false
set_option maxRecDepth 100000
namespace Go.Aw
open Go.RowKit
section
variable{P:Program}{n:Nat}{S0:Sg}{w0:World}{H0:aF}{mt:Nat→Bool}{ops:Array Oper}{K:Env→aF→Prop}{ρ:Env}{H:aF}{a:Act}{w:World}{S:Sg}
theorem C0(hops:∀o∈ops,iT n o=true){Q':Exit→Act→World→Prop}(hQ:∀ρ H a w,K ρ H→Rel n S0 w0 H0 ρ H a w→Q' .normal a w):
   ∀(l:List Oper) (ρ:Env) (H:aF) (a:Act) (w:World),(∀o∈l,iT n o=true)→sS P (bN P) (dB P) mt false ops K l ρ H→Rel n S0 w0 H0 ρ H a w→wpList P ops Q' l a w
 | [],ρ,H,a,w,_,h,hR=>hQ ρ H a w h hR
 | o::rest,ρ,H,a,w,hl,h,hR=>by
   obtain⟨S,hS,hF,hG,hN,hd,hn⟩:=hR;have he:=rV (K':=wpList P ops Q' rest) (Q':=Q') hops hS hF hG hN hd hn (hl o (by simp))
     (fun ρ' H' a' w' hk hr=>C0 hops hQ rest ρ' H' a' w' (fun o ho=>hl o (by simp[ho])) hk hr) h
   unfold wpList;by_cases hw:Region.wanted o (yielded ops a.tmps)=true
   · rw[if_pos hw];exact .inl (he.1 hw)
   · rw[if_neg hw];exact he.2 (by simpa using hw)
def Cls(S:Sg)(H:aF)(w1 w:World):Prop:=
 w.os=w1.os∧w.tape=w1.tape∧w.output=w1.output∧w1.heap.size≤w.heap.size∧∀k,k<w1.heap.size→w.heap[k]?=w1.heap[k]?
theorem Cls.st{w1:World}(hS:St S w1 H)(h:Cls S H w1 w):St S w H:=hS.after h.2.2.2.1 h.2.2.2.2
theorem Cls.grow{w1:World}(hS:St S w1 H)(h:Cls S H w1 w):Grow S w1 S w:=hS.grow h.1 h.2.1 h.2.2.1 h.2.2.2.1 h.2.2.2.2
theorem Cls.agree{w1:World}(hS:St S w1 H)(h:Cls S H w1 w):Agree S H w1 w:=
 ⟨(h.grow hS).kept hS,fun k r hk g hg=>h.2.2.2.2 g ((hS.rows k r hk).block_lt hg)⟩
theorem KC{P:Program}{o:Oper}{a:Act}{w w1:World}{v:Value}(hc:Cls S H w1 w)(h:o.quietAt P a (Rw w) w v):o.quietAt P a (Cls S H w1) w v:=by
 unfold Oper.quietAt at *;generalize (execOp a.eval o).run P w=r at *;cases r with
 | ok m w'=>
   cases m <;> simp only[Oper.quietUpon]at h ⊢
   case value u=>exact h
   case skip=>exact h
   case enter f args=>exact⟨h.1,h.2.mono fun e w2 ⟨he,p1,p2,p3,p4,p5⟩=>⟨he,p1.trans hc.1,p2.trans hc.2.1,p3.trans hc.2.2.1,Nat.le_trans hc.2.2.2.1 p4,fun k hk=>(p5 k (Nat.lt_of_lt_of_le hk hc.2.2.2.1)).trans (hc.2.2.2.2 k hk)⟩⟩
 | halt x w'=>simp only[Oper.quietUpon]at h
theorem C1{w1:World}(hops:∀o∈ops,iT n o=true)(hS:St S w1 H):∀(l:List Oper) (ρ:Env) (a:Act),(∀o∈l,iT n o=true)→sS P (bN P) (dB P) mt true ops K l ρ H→FR S w1 ρ a→a.defers=[]→a.tmps.size=n →
   wpQuiet P ops (Cls S H w1) (fun a'=>∃ρ',K ρ' H∧FR S w1 ρ' a'∧a'.defers=[]∧a'.tmps.size=n) l a
 | [],ρ,a,_,h,hF,hd,hn=>⟨ρ,h,hF,hd,hn⟩
 | o::rest,ρ,a,hl,h,hF,hd,hn=>by
   obtain⟨z,hz,h1,h2⟩:=rC (CC:=Cls S H w1) (fun w hc=>⟨hc.st hS,hc.agree hS⟩) hops hS hF hn (hl o (by simp)) h;have next:∀v,rep S w1 z v→wpQuiet P ops (Cls S H w1) (fun a'=>∃ρ',K ρ' H∧FR S w1 ρ' a'∧a'.defers=[]∧a'.tmps.size=n) rest (a.put o.dst v):=fun v hv=>
     C1 hops hS rest _ _ (fun o ho=>hl o (by simp[ho])) hz (FR.put hF hv) (by rw[lJ];exact hd) (by rw[rS];exact hn)
   unfold wpQuiet;by_cases hw:Region.wanted o (yielded ops a.tmps)=true
   · rw[if_pos hw]
     obtain⟨v,hv,hq⟩:=h1 hw;exact⟨v,fun w hc=>KC hc (hq w hc),next v hv⟩
   · rw[if_neg hw]
     exact next _ (h2 (by simpa using hw))
end
theorem sQ{P:Program}{ops:Array Oper}{C:World→Prop}{Q Q':Act→Prop}(hq:∀a,Q a→Q' a):∀(l:List Oper) (a:Act),wpQuiet P ops C Q l a→wpQuiet P ops C Q' l a
 | [],a,h=>hq a h
 | o::rest,a,h=>by
   unfold wpQuiet at h ⊢;split
   · rename_i hw
     rw[if_pos hw]at h;exact Oper.quiet_mono (fun a' h'=>sQ hq rest a' h') h
   · rename_i hw
     rw[if_neg hw]at h;exact sQ hq rest _ h
def uR(n:Nat):Code→Bool
 | .region _ ops _=>ops.all (iT n)
 | .seq a b=>uR n a&&uR n b
 | .cond c a b=>opB n c&&(uR n a&&uR n b)
 | .block _ c=>uR n c
 | .loop c=>uR n c
 | .scope c=>uR n c
 | _=>true
def Od(n:Nat)(S0:Sg)(w0:World)(H0:aF)(Q:Ex→Env→aF→Prop):Exit→Act→World→Prop
 | .normal,a,w=>∃ρ H,Q .normal ρ H∧Rel n S0 w0 H0 ρ H a w
 | .exit id,a,w=>∃ρ H,Q (.exit id) ρ H∧Rel n S0 w0 H0 ρ H a w
 | .ret,a,w=>∃ρ H,Q .ret ρ H∧Rel n S0 w0 H0 ρ H a w
 | _,_,_=>False
theorem lS{P:Program}{n:Nat}{S0:Sg}{w0:World}{H0:aF}{mt:Nat→Bool}(hm:P.follows .mixedOrders=true):∀(c:Code) (Q:Ex→Env→aF→Prop) (ρ:Env) (H:aF) (a:Act) (w:World),uR n c=true →
   awp P (bN P) (dB P) mt c Q ρ H→Rel n S0 w0 H0 ρ H a w→c.wp P (Od n S0 w0 H0 Q) a w
 | .skip,Q,ρ,H,a,w,_,h,hR=>wp_skip ⟨ρ,H,h,hR⟩
 | .region id ops false,Q,ρ,H,a,w,hb,h,hR=>by
   rw[CM]at h;have hops:∀o∈ops,iT n o=true:=fun o ho=>Array.all_eq_true_iff_forall_mem.1 hb o ho
   exact wp_region_list (C0 hops (fun ρ H a w hk hr=>⟨ρ,H,hk,hr⟩) ops.toList ρ H a w (fun o ho=>hops o (Array.mem_toList_iff.1 ho)) h hR)
 | .region id ops true,Q,ρ,H,a,w,hb,h,hR=>by
   rw[Iu]at h;have hops:∀o∈ops,iT n o=true:=fun o ho=>Array.all_eq_true_iff_forall_mem.1 hb o ho
   rcases h with⟨_,hlex,h⟩|⟨hB,h⟩|⟨f,hB,h⟩|⟨l,f,hl,hB,h⟩|⟨l,t,hl,hB,h⟩
   · obtain⟨S,hS,hF,hG,hN,hd,hn⟩:=hR
     let w1:World:={ w with drawn:=w.drawn+1 }
     have hS1:St S w1 H:=hS.after (Nat.le_refl _) fun _ _=>rfl
     have hg1:Grow S w S w1:=hS.grow rfl rfl rfl (Nat.le_refl _) fun _ _=>rfl
     have hF1:FR S w1 ρ a:=hF.keep S.le_refl (hg1.kept hS);refine wp_region_quiet (C:=Cls S H w1) hm hlex ⟨rfl,rfl,rfl,Nat.le_refl _,fun _ _=>rfl⟩ ?_;have:=C1 hops hS1 ops.toList ρ a (fun o ho=>hops o (Array.mem_toList_iff.1 ho)) h hF1 hd hn;refine sQ (fun a' ⟨ρ',hk,hF',hd',hn'⟩ w' hc=>?_) ops.toList a this;exact⟨ρ',H,hk,S,hc.st hS1,hF'.keep S.le_refl ((hc.grow hS1).kept hS1),hG.trans (hg1.trans (hc.grow hS1)),hN,hd',hn'⟩
   · exact Me hm hops hB h hR fun ρ H a w hk hr=>⟨ρ,H,hk,hr⟩
   · exact Pj hm hops hB h hR fun ρ H a w hk hr=>⟨ρ,H,hk,hr⟩
   · exact L3 hm hops hl hB h hR fun ρ H a w hk hr=>⟨ρ,H,hk,hr⟩
   · exact KI hm hops hl hB h hR fun ρ H a w hk hr=>⟨ρ,H,hk,hr⟩
 | .seq c d,Q,ρ,H,a,w,hb,h,hR=>by
   simp only[uR,Bool.and_eq_true]at hb;rw[MK]at h;refine wp_seq (wp_mono (lS hm c _ ρ H a w hb.1 h hR) fun e a' w' hq=>?_);cases e <;> simp only[Od,Exit.then]at hq ⊢
   case normal=>obtain⟨ρ',H',hk,hr⟩:=hq;exact lS hm d Q ρ' H' a' w' hb.2 hk hr
   case exit id=>exact hq
   case ret=>exact hq
 | .cond c x y,Q,ρ,H,a,w,hb,h,hR=>by
   simp only[uR,Bool.and_eq_true]at hb;rw[JO]at h;unfold uF at h;split at h
   · rename_i t ht
     obtain⟨S,hS,hF,hG,hN,hd,hn⟩:=hR;have e:=cO hF (x:=c) (hn▸hb.1);rw[ht]at e;simp only[rep]at e;have hR:Rel n S0 w0 H0 ρ H a w:=⟨S,hS,hF,hG,hN,hd,hn⟩;exact wp_cond_split e (fun ht=>lS hm x Q ρ H a w hb.2.1 (h.1 ht) hR) (fun ht=>lS hm y Q ρ H a w hb.2.2 (h.2 ht) hR)
   · exact h.elim
 | .block id c,Q,ρ,H,a,w,hb,h,hR=>by
   rw[Ev]at h;refine wp_block (wp_mono (lS hm c _ ρ H a w hb h hR) fun e a' w' hq=>?_);cases e <;> simp only[Od,Exit.inBlock]at hq ⊢
   case normal=>exact hq
   case ret=>exact hq
   case exit i=>
     obtain⟨ρ',H',hk,hr⟩:=hq;simp only[Ex.blk]at hk;by_cases e:i=id
     · rw[if_pos e]at hk ⊢;exact⟨ρ',H',hk,hr⟩
     · rw[if_neg e]at hk ⊢;exact⟨ρ',H',hk,hr⟩
 | .loop c,Q,ρ,H,a,w,hb,h,hR=>by
   rw[IJ]at h;obtain⟨I,μ,h0,hround⟩:=h;refine wp_loop_ghost (fun m a w=>∃ρ H,I ρ H∧μ ρ H=m∧Rel n S0 w0 H0 ρ H a w) (μ ρ H) ⟨ρ,H,h0,rfl,hR⟩ ?_;rintro m a' w' ⟨ρ',H',hI,rfl,hR'⟩;refine wp_mono (lS hm c _ ρ' H' a' w' hb (hround ρ' H' hI) hR') fun e a2 w2 hq=>?_
   cases e <;> simp only[Od,Exit.then]at hq ⊢
   case normal=>obtain⟨ρ2,H2,⟨hk,hlt⟩,hr⟩:=hq;exact⟨_,hlt,ρ2,H2,hk,rfl,hr⟩
   case exit id=>exact hq
   case ret=>exact hq
 | .exit id,Q,ρ,H,a,w,_,h,hR=>wp_exit ⟨ρ,H,h,hR⟩
 | .ret,Q,ρ,H,a,w,_,h,hR=>wp_ret ⟨ρ,H,h,hR⟩
 | .rangeFunc ..,_,_,_,_,_,_,h,_=>by simp[awp]at h
 | .scope c,Q,ρ,H,a,w,hb,h,hR=>by
   rw[ED]at h;refine wp_scope_straight (wp_mono (lS hm c _ ρ H a w hb h hR) fun e a' w' hq=>?_);cases e <;> simp only[Od,Exit.noGoto]at hq ⊢
   case normal=>exact hq
   case exit id=>exact hq
   case ret=>exact hq
 | .label _,Q,ρ,H,a,w,_,h,hR=>wp_label ⟨ρ,H,h,hR⟩
 | .goto _,_,_,_,_,_,_,h,_=>by simp[awp]at h
 | .refuse _,_,_,_,_,_,_,h,_=>by simp[awp]at h
def AL(P:Program)(ρ:Env)(H:aF):List ResultVar→(List AV→Prop)→Prop
 | [],K=>K []
 | .tmp t::r,K=>AL P ρ H r fun l=>K (ρ t::l)
 | .cell t ty::r,K=>match ldT P ty with
   | some l=>lX none H l (ρ t) fun x=>AL P ρ H r fun xs=>K (x::xs)
   | none=>False
def NJ(R:AV→Prop):List AV→Prop
 | [x]=>R x
 | l=>R (.tup l)
def N0(P:Program)(rs:List ResultVar)(R:AV→aF→Prop):Ex→Env→aF→Prop
 | .exit _,_,_=>False
 | _,ρ,H=>AL P ρ H rs (NJ fun x=>R x H)
def T4(n:Nat):ResultVar→Bool
 | .tmp t=>decide (t<n)
 | .cell t _=>decide (t<n)
def Fm(fn:Func)(c:Code)(m:Nat):Bool:=uR fn.ntmps c&&fn.results.toList.all (T4 fn.ntmps)&&decide (m≤fn.ntmps)
section
variable{P:Program}{S:Sg}{H:aF}{w:World}{ρ:Env}{a:Act}
theorem N3{G:Option Bool}{l:Option Nat}{x:AV}{K:AV→Prop}(h:lX G H l x K){u:Value}(hu:rep S w x u):∃ad,u=.pointer (some ad):=by
 unfold lX at h;split at h
 · simp only[rep]at hu
   obtain⟨b,o,rfl,_⟩:=hu;exact⟨_,rfl⟩
 · simp only[rep]at hu
   obtain⟨_,g,m,c,_,rfl⟩:=hu;exact⟨_,rfl⟩
 · exact h.elim
def FQ(tmps:Array Value):ResultVar→Sem Value
 | .tmp t=>pure (tmps.getD t undef)
 | .cell b t=>do loadVar t (←asAddr (tmps.getD b undef))
theorem LQ(fn:Func)(tmps:Array Value):results fn tmps=(do
   let vs ←fn.results.mapM (FQ tmps)
   pure (if h:vs.size=1 then vs[0]else .tuple vs)):=by
 unfold results
 congr 1
theorem uI(hH:vF S w H)(hF:FR S w ρ a):∀(rs:List ResultVar) (K:List AV→Prop),(∀r∈rs,T4 a.tmps.size r=true)→AL P ρ H rs K →
   ∃l vs,K l∧(rs.mapM (FQ a.tmps)).run P w=.ok vs w∧aS S w l vs
 | [],K,_,h=>⟨[],[],h,by simp,by simp[aS]⟩
 | .tmp t::r,K,hb,h=>by
   simp only[AL]at h;obtain⟨l,vs,h1,h2,h3⟩:=uI hH hF r _ (fun x hx=>hb x (by simp[hx])) h;have ht:t<a.tmps.size:=by simpa[T4]using hb (.tmp t) (by simp)
   refine⟨_,a.tmps.getD t undef::vs,h1,?_,?_⟩
   · rw[List.mapM_cons]
     simp only[FQ,Sem.run_bind,Sem.run_pure,Result.andThen_ok];rw[h2];rfl
   · simp only[aS]
     exact⟨_,_,rfl,hF t ht,h3⟩
 | .cell t ty::r,K,hb,h=>by
   simp only[AL]at h;split at h
   · rename_i l hl
     have ht:t<a.tmps.size:=by simpa[T4]using hb (.cell t ty) (by simp)
     obtain⟨z,hz,hd⟩:=AI (S:=S) (w:=w) hl hH h;obtain⟨v,hv,hrun⟩:=hd trivial _ (hF t ht);obtain⟨ad,e⟩:=N3 h (hF t ht);have hrun':=hrun w (Agree.refl S H w);rw[e]at hrun';simp only[Instr.loadAt,Instr.sureAddr,pure_bind]at hrun';obtain⟨l',vs,h1,h2,h3⟩:=uI hH hF r _ (fun x hx=>hb x (by simp[hx])) hz;refine⟨_,v::vs,h1,?_,?_⟩
     · have ha:(asAddr (a.tmps.getD t undef)).run P w=.ok ad w:=by rw[e];rfl
       rw[List.mapM_cons];simp only[FQ,Sem.run_bind,ha,Sem.run_pure,Result.andThen_ok,hrun'];rw[h2];rfl
     · simp only[aS]
       exact⟨_,_,rfl,hv,h3⟩
   · exact h.elim
theorem bN.body{f:FuncId}{fn:Func}{c:Code}{args:List AV}{R:AV→aF→Prop}(mt:Nat→Bool)(hm:P.follows .mixedOrders=true)(hf:P.funcs[f]?=some fn)(hb:fn.body=some c)(hc:Fm fn c args.length=true)
   (h:awp P (bN P) (dB P) mt c (N0 P fn.results.toList R) (Hh args) H):bN P f args H R:=by
 intro S w vals hS ha;simp only[Fm,Bool.and_eq_true,decide_eq_true_eq]at hc;obtain⟨⟨hcode,hres⟩,hlen⟩:=hc;have hvl:=fT _ _ ha;refine calls_of_wp hf hb (wp_mono (lS (n:=fn.ntmps) (S0:=S) (w0:=w) (H0:=H) hm c _ _ H _ w hcode h ⟨S,hS,?_,Grow.refl S w,eC.refl _ _,rfl,?_⟩) ?_)
 · intro t ht
   by_cases e:t<args.length
   · obtain⟨u,h1,h2⟩:=zD args vals t ha e
     have hu:(vals.toArray++Array.replicate (fn.ntmps-vals.toArray.size) undef).getD t undef=u:=by
       have hlt:t<vals.length:=by omega
       have:vals[t]=u:=by rw[List.getElem?_eq_getElem hlt]at h1;injection h1
       simp[Array.getD_eq_getD_getElem?,Array.getElem?_append,hlt,this]
     simp only[Hh];rw[hu];exact h2
   · simp only[Hh,List.getD,List.getElem?_eq_none (by omega:args.length≤t),Option.getD_none]
     simp only[rep]
 · simp only[Array.size_append,List.size_toArray,Array.size_replicate,hvl]
   omega
 · intro e a' w' hq
   have fin:∀ρ' H',AL P ρ' H' fn.results.toList (NJ fun x=>R x H')→Rel fn.ntmps S w H ρ' H' a' w'→a'.defers=[]∧∃v,(results fn a'.tmps).run P w'=.ok v w'∧XH S w H R (.returned v) w':=by
     rintro ρ' H' h1 ⟨S',hS',hF',hG',hN',hd',hn'⟩;refine⟨hd',?_⟩;obtain⟨l,vs,h2,h3,h4⟩:=uI (P:=P) hS'.rows hF' fn.results.toList _ (fun r hr=>by rw[hn'];exact List.all_eq_true.1 hres r hr) h1;have hr:(results fn a'.tmps).run P w'=.ok (if h:vs.toArray.size=1 then vs.toArray[0]else .tuple vs.toArray) w':=by
       rw[LQ,Array.mapM_eq_mapM_toList];simp only[Sem.run_bind,Sem.run_map];rw[h3];simp only[Result.andThen_ok,Sem.run_pure]
     refine⟨_,hr,?_⟩;unfold NJ at h2;split at h2
     · rename_i x
       simp only[aS]at h4;obtain⟨u,t,rfl,h5,rfl⟩:=h4;exact⟨_,x,H',S',rfl,h2,hS',by simpa using h5,hG',hN'⟩
     · rename_i hne
       have hvs:=fT _ _ h4;have h1':¬vs.toArray.size=1:=by
         intro e;have:l.length=1:=by rw[←hvs];simpa using e
         match l,this with
         | [x],_=>exact hne x rfl
       rw[dif_neg h1'];exact⟨_,_,H',S',rfl,h2,hS',by simp only[rep];exact⟨vs,rfl,h4⟩,hG',hN'⟩
   cases e <;> simp only[Od,bodyPost]at hq ⊢
   case normal=>obtain⟨ρ',H',h1,h2⟩:=hq;exact fin ρ' H' h1 h2
   case ret=>obtain⟨ρ',H',h1,h2⟩:=hq;exact fin ρ' H' h1 h2
   case exit id=>obtain⟨ρ',H',h1,h2⟩:=hq;exact h1.elim
theorem RC.body{f:FuncId}{fn:Func}{c:Code}{args:List AV}{R:AV→aF→Prop}(mt:Nat→Bool)(hm:P.follows .mixedOrders=true)(hf:P.funcs[f]?=some fn)(hb:fn.body=some c)(hc:Fm fn c args.length=true)
 (h:awp P (bN P) (dB P) mt c (N0 P fn.results.toList R) (Hh args) bT):RC P f args R:=fun S w vals hS _ ha=>bN.body mt hm hf hb hc h S w vals hS ha
theorem PC.body{f:FuncId}{fn:Func}{c:Code}{args:List AV}{r:AV}(mt:Nat→Bool)(hm:P.follows .mixedOrders=true)(hf:P.funcs[f]?=some fn)(hb:fn.body=some c)(hc:Fm fn c args.length=true)
 (h:awp P (bN P) (dB P) mt c (N0 P fn.results.toList fun x H'=>Conv H' x r) (Hh args) bT):PC P f args r:=RC.conv (RC.body mt hm hf hb hc h)
theorem NC.body{f:FuncId}{fn:Func}{c:Code}{args:List AV}{row:Row}{mk:Nat→AV}(mt:Nat→Bool)(hm:P.follows .mixedOrders=true)(hf:P.funcs[f]?=some fn)(hb:fn.body=some c)(hc:Fm fn c args.length=true)
 (h:awp P (bN P) (dB P) mt c (N0 P fn.results.toList fun x H'=>∃k,x=mk k∧H' k=some row) (Hh args) bT):NC P f args row mk:=RC.body mt hm hf hb hc h
theorem PC.q{f:FuncId}{args:List AV}{r:AV}(h:PC P f args r)(hf:(fv r).isSome=true):dB P f args H r:=.inl ⟨args,ConvL.refl args,h,hf⟩
theorem PC.qn{f:FuncId}{args:List AV}{r:AV}(h:PC P f args r):dB P f args H (.nf r):=.inr ⟨r,rfl,h⟩
theorem dB.use{f:FuncId}{args:List AV}{r:AV}{K:AV→aF→Prop}(h:xZ P f args H r)(hK:K r H):bN P f args H K:=xZ.use h hK
end
end Go.Aw
