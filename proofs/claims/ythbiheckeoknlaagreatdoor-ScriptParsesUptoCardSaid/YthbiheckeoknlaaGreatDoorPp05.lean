import Derived.Recover
import Derived.Test.YthbiheckeoknlaaGreatDoorPp04
set_option linter.unusedSimpArgs false
set_option linter.unusedVariables false
set_option linter.defProp false
set_option maxRecDepth 100000
set_option linter.unusedSectionVars false
namespace Go.Aw
open Go.RowKit
section
variable{P:Program}{H:aC}
def DC(P:Program)(g:FuncId)(cap:List AV)(H:aC):Prop:=
 ∀S w (vals:List Value),St S w H→aV S w cap vals→CallsD P g vals.toArray .returning w fun e u' w'=>
   ∃v S',e=.returned v∧u'=.returning∧St S' w' H∧Grow S w S' w'∧dO S.N H H
def DP(P:Program)(g:FuncId)(cap:List AV)(pv:Value)(H:aC)(R2:aC→Prop):Prop:=
 ∀S w (vals:List Value),St S w H→aV S w cap vals→CallsD P g vals.toArray (.panicking [{ v:=pv,recovered:=false }]) w fun e u' w'=>
   ∃v S' H',e=.returned v∧u'=.panicking [{ v:=pv,recovered:=true }]∧R2 H'∧St S' w' H'∧Grow S w S' w'∧dO S.N H H'
theorem tC{f:FuncId}{args:Array Value}{u:FrameMode}{w:World}{R R':Ending→FrameMode→World→Prop}
  (h:CallsD P f args u w R) (hr:∀e u' w',R e u' w'→R' e u' w'):CallsD P f args u w R':=
 fun c cs hu=>let ⟨e,u',w',fr,r,rest⟩:=h c cs hu;⟨e,u',w',fr,hr _ _ _ r,rest⟩
theorem cK.bodyD{f g:FuncId}{fn:Func}{c0 c:Code}{args:List AV}{R:AV→aC→Prop}{id m s:Nat}{l:Option Nat}{ty:TypeId}{t1 t2:TypeId}{p1 p2:String}{a1 a2:Array Edge}(mt:Nat→Bool)(pv:Value)
   (hm:P.follows .mixedOrders=true) (hf:P.funcs[f]?=some fn) (hg:aF P g=true)
   (hb:fn.body=some (.seq c0 (.seq (.region id #[{ dst:=some m,op:=.makeFunc (.func g) #[] #[.tmp s],type:=t1,pos:=p1,after:=a1,guard:=none },{ dst:=none,op:=.defer { callee:=.value (.tmp m),args:=#[],argTypes:=#[] },type:=t2,pos:=p2,after:=a2,guard:=none }] false) c)))
   (hc0:pT fn c0 args.length=true) (hc:pT fn c args.length=true) (hcn:@rR ⟨s⟩ fn.ntmps c=true) (hrs:fn.results.toList=[.cell s ty]) (hld:ldT P ty=some l) (hms:m≠s) (hlm:m<fn.ntmps) (hls:s<fn.ntmps)
   (h:awp P (cK P) (dE P) mt c0 (fun e ρ H1=>e=.normal∧∃Z:aC→Prop,(∀H',Z H'→DP P g [ρ s] pv H' fun H2=>kE none H2 l (ρ s) fun x=>R x H2)∧awp P (cQ P pv Z) (dE P) mt c (fun e' ρ' H'=>A0 P fn.results.toList R e' ρ' H'∧DC P g [ρ s] H') (upd ρ (some m) (.fn g [ρ s])) H1) (uY args) H):cK P f args H R:=by
 intro S w vals hS ha;simp only[pT,Bool.and_eq_true,decide_eq_true_eq]at hc hc0;obtain⟨⟨hcode0,_⟩,hlen⟩:=hc0;obtain⟨⟨_,hres⟩,_⟩:=hc;rw[←IW P undef]at h;have hvl:=eL _ _ ha;refine calls_of_wp_defers hf hb (wp_seq (wp_mono (@gV ⟨fn.ntmps⟩ ([],undef) P undef (fun _=>False) fn.ntmps S w H mt hm c0 _ _ H _ w hcode0 h ⟨S,hS,?_,Grow.refl S w,dO.refl _ _,⟨rfl,?_⟩,?_⟩) ?_))
 · intro t ht;by_cases e:t<args.length
   · obtain⟨u,h1,h2⟩:=sZ args vals t ha e;have hu:(vals.toArray++Array.replicate (fn.ntmps-vals.toArray.size) undef).getD t undef=u:=by
       have hlt:t<vals.length:=by omega
       have:vals[t]=u:=by rw[List.getElem?_eq_getElem hlt]at h1;injection h1
       simp[Array.getD_eq_getD_getElem?,Array.getElem?_append,hlt,this]
     simp only[uY];rw[hu];exact h2
   · simp only[uY,List.getD,List.getElem?_eq_none (by omega:args.length≤t),Option.getD_none];simp only[rep]
 · show Array.getD _ fn.ntmps undef=undef;rw[Array.getD_eq_getD_getElem?,Array.getElem?_eq_none]
   · rfl
   · simp only[Array.size_append,List.size_toArray,Array.size_replicate,hvl];omega
 · simp only[Array.size_append,List.size_toArray,Array.size_replicate,hvl];omega
 intro e b1 w1 hq;cases e <;> simp only[FK,Exit.then]at hq ⊢
 case exit=>obtain⟨_,_,⟨h1,_⟩,_⟩:=hq;cases h1
 case ret=>obtain⟨_,_,⟨h1,_⟩,_⟩:=hq;cases h1
 case panic ch=>obtain⟨_,_,_,_,h1,_⟩:=hq;exact h1.elim
 obtain⟨ρ,H1,⟨_,Z,hZ,h2⟩,S1,hS1,hF1,hG1,hN1,⟨hd1,_⟩,hn1⟩:=hq;have hFs:rep S1 w1 (ρ s) (b1.tmps.getD s undef):=hF1 s (by rw[hn1];exact hls);have hes:b1.eval (.tmp s)=b1.tmps.getD s undef:=rfl;have hsize:s<b1.tmps.size:=by rw[hn1];exact hls
 have hmsize:m<b1.tmps.size:=by rw[hn1];exact hlm
 refine wp_seq (wp_region ?_);generalize hops:(#[{ dst:=some m,op:=Op.makeFunc (.func g) #[] #[.tmp s],type:=t1,pos:=p1,after:=a1,guard:=none },{ dst:=none,op:=Op.defer { callee:=.value (.tmp m),args:=#[],argTypes:=#[] },type:=t2,pos:=p2,after:=a2,guard:=none }]:Array Oper)=ops;have ho0:ops[0]?=some { dst:=some m,op:=Op.makeFunc (.func g) #[] #[.tmp s],type:=t1,pos:=p1,after:=a1,guard:=none }:=by rw[←hops];rfl
 have ho1:ops[1]?=some { dst:=none,op:=Op.defer { callee:=.value (.tmp m),args:=#[],argTypes:=#[] },type:=t2,pos:=p2,after:=a2,guard:=none }:=by rw[←hops];rfl
 have hos:ops.size=2:=by rw[←hops];rfl
 rw[hos];show wpOps P ops _ [0,1] b1 w1;have e1:(execOp b1.eval { dst:=some m,op:=Op.makeFunc (.func g) #[] #[.tmp s],type:=t1,pos:=p1,after:=a1,guard:=none }).run P w1=.ok (.value (.func (.func g) #[] #[b1.tmps.getD s undef])) w1:=by
   have hm1:(Instr.makeFunc (.func g) #[] #[b1.tmps.getD s undef]).run P w1=.ok (.func (.func g) #[] #[b1.tmps.getD s undef]) w1:=rfl;have ea:(#[Operand.tmp s]:Array Operand).map b1.eval=#[b1.tmps.getD s undef]:=by simp only[List.map_toArray,List.map_cons,List.map_nil];rfl
   have eb:(#[]:Array Operand).map b1.eval=#[]:=by simp only[List.map_toArray,List.map_nil]
   simp only[execOp,ea,eb,Sem.run_bind,hm1,Result.andThen_ok,Sem.run_pure]
 have e3:(b1.put (some m) (.func (.func g) #[] #[b1.tmps.getD s undef])).eval (.tmp m)=.func (.func g) #[] #[b1.tmps.getD s undef]:=by simp[Act.eval,Act.put,hmsize]
 have e2:(execOp (b1.put (some m) (.func (.func g) #[] #[b1.tmps.getD s undef])).eval { dst:=none,op:=Op.defer { callee:=.value (.tmp m),args:=#[],argTypes:=#[] },type:=t2,pos:=p2,after:=a2,guard:=none }).run P w1=.ok (.defer { target:=.fn (.func g) #[b1.tmps.getD s undef],args:=#[] }) w1:=by simp only[execOp,resolve,e3,Deferred.ofValue,Sem.run_bind,Sem.run_pure,pure_bind,Result.andThen_ok,List.map_toArray,List.map_nil];rfl
 unfold wpOps;rw[ho0];simp only[Region.wanted,if_true];refine .inl ?_;unfold Oper.wp;rw[e1,Oper.upon_value];unfold wpOps;rw[ho1];simp only[Region.wanted,if_true];refine .inl ?_;unfold Oper.wp;rw[e2,Oper.upon_defer];unfold wpOps;simp only[Exit.then];have hu:aV S1 w1 [ρ s] [b1.tmps.getD s undef]:=by simp only[aV];exact⟨_,_,rfl,hFs,rfl⟩
 have hF2:FR S1 w1 (upd ρ (some m) (.fn g [ρ s])) (b1.put (some m) (.func (.func g) #[] #[b1.tmps.getD s undef])):=
   FR.put hF1 (by simp only[rep];exact⟨_,rfl,hu⟩)
 letI:Nail:=⟨s⟩
 have hA:=gV (pv:=pv) (Z:=Z) (D:=([{ target:=.fn (.func g) #[b1.tmps.getD s undef],args:=#[] }],b1.tmps.getD s undef)) (n:=fn.ntmps) (S0:=S1) (w0:=w1) (H0:=H1) hm c _ _ H1 ({ (b1.put (some m) (.func (.func g) #[] #[b1.tmps.getD s undef]))with defers:={ target:=.fn (.func g) #[b1.tmps.getD s undef],args:=#[] }::(b1.put (some m) (.func (.func g) #[] #[b1.tmps.getD s undef])).defers }.put none undef) w1 hcn h2
   ⟨S1,hS1,hF2,Grow.refl S1 w1,dO.refl _ _,⟨by simp only[Act.put];rw[hd1],by show Array.getD (b1.tmps.setIfInBounds m _) s undef=_;simp[Array.getD_eq_getD_getElem?,Array.getElem?_setIfInBounds,hms]⟩,by simp only[Act.put,Array.size_setIfInBounds];exact hn1⟩
 refine wp_mono hA ?_;intro e a' w' hq;have fin : ∀ ρ' H', uK P ρ' H' fn.results.toList (AS fun x => R x H') → DC P g [ρ s] H' → Rel ([{ target := .fn (.func g) #[b1.tmps.getD s undef], args := #[] }], b1.tmps.getD s undef) fn.ntmps S1 w1 H1 ρ' H' a' w' →
     Leaves P fn a'.tmps (FQ S w H R) a'.defers .returning w':=by
   rintro ρ' H' h1 hD ⟨S',hS',hF',hG',hN',hd',hn'⟩;rw[hd'.1];have hu':aV S' w' [ρ s] [b1.tmps.getD s undef]:=by simp only[aV];exact⟨_,_,rfl,gB hG'.le (hG'.kept hS1) _ _ hFs,rfl⟩
   refine⟨by simp,.func g,#[b1.tmps.getD s undef],g,#[b1.tmps.getD s undef],rfl,?_,?_⟩
   · show(callFunc g (#[]++#[b1.tmps.getD s undef])).run P w'=_;rw[jJ hg];rfl
   refine tC (hD S' w' _ hS' hu') ?_;rintro e u' w'' ⟨v,S'',rfl,rfl,hS'',hG'',hN''⟩;obtain⟨l,vs,h2,h3,h4⟩:=mD (P:=P) hS''.rows (hF'.keep hG''.le (hG''.kept hS')) fn.results.toList _ (fun r hr=>by rw[hn'];exact List.all_eq_true.1 hres r hr) h1;have hr:(results fn a'.tmps).run P w''=.ok (if h:vs.toArray.size=1 then vs.toArray[0]else .tuple vs.toArray) w'':=by rw[vO,Array.mapM_eq_mapM_toList];simp only[Sem.run_bind,Sem.run_map];rw[h3];simp only[Result.andThen_ok,Sem.run_pure]
   show ∃v,(results fn a'.tmps).run P w''=.ok v w''∧FQ S w H R (.returned v) w'';refine⟨_,hr,?_⟩;unfold AS at h2;split at h2
   · rename_i x;simp only[aV]at h4;obtain⟨u,t,rfl,h5,rfl⟩:=h4;exact⟨_,x,H',S'',rfl,h2,hS'',by simpa using h5,(hG1.trans hG').trans hG'',hN1.trans (hN'.trans hN'' hG'.le.N) hG1.le.N⟩
   · rename_i hne;have hvs:=eL _ _ h4;have h1':¬vs.toArray.size=1:=by
       intro e;have:l.length=1:=by rw[←hvs];simpa using e
       match l,this with
       | [x],_=>exact hne x rfl
     rw[dif_neg h1'];exact⟨_,_,H',S'',rfl,h2,hS'',by simp only[rep];exact⟨vs,rfl,h4⟩,(hG1.trans hG').trans hG'',hN1.trans (hN'.trans hN'' hG'.le.N) hG1.le.N⟩
 cases e <;> simp only[FK,bodyPostD]at hq ⊢
 case normal=>obtain⟨ρ',H',⟨h1,hD⟩,h2⟩:=hq;exact fin ρ' H' h1 hD h2
 case ret=>obtain⟨ρ',H',⟨h1,hD⟩,h2⟩:=hq;exact fin ρ' H' h1 hD h2
 case exit id=>obtain⟨ρ',H',⟨h1,_⟩,h2⟩:=hq;exact h1.elim
 case panic ch=>
   obtain⟨hd',rfl,S',H',hz,hS',hG',hN'⟩:=hq;rw[hd'.1];have hs':rep S' w' (ρ s) (b1.tmps.getD s undef):=gB hG'.le (hG'.kept hS1) _ _ hFs;have hu':aV S' w' [ρ s] [b1.tmps.getD s undef]:=by simp only[aV];exact⟨_,_,rfl,hs',rfl⟩
   refine⟨by simp,.func g,#[b1.tmps.getD s undef],g,#[b1.tmps.getD s undef],rfl,?_,?_⟩
   · show(callFunc g (#[]++#[b1.tmps.getD s undef])).run P w'=_;rw[jJ hg];rfl
   refine tC (hZ H' hz S' w' _ hS' hu') ?_;rintro e u' w'' ⟨v,S'',H2,rfl,rfl,hr2,hS'',hG'',hN''⟩;have hs2:rep S'' w'' (ρ s) (a'.tmps.getD s undef):=by rw[show a'.tmps.getD s undef=b1.tmps.getD s undef from hd'.2];exact gB hG''.le (hG''.kept hS') _ _ hs'
   obtain⟨ad,had⟩:=Ei hr2 hs2;have hsz:s<a'.tmps.size:=by
     refine Nat.lt_of_not_le fun h=>?_
     rw[Array.getD_eq_getD_getElem?,Array.getElem?_eq_none h]at had;cases had
   have hF3:FR S'' w'' (upd (fun _=>.any) (some s) (ρ s)) a':=fun t _=>by
     by_cases e:t=s
     · subst e;rw[show upd (fun _=>AV.any) (some t) (ρ t) t=ρ t by simp[upd]];exact hs2
     · rw[show upd (fun _=>AV.any) (some s) (ρ s) t=.any by simp[upd,e]];simp only[rep]
   obtain⟨l',vs,h2,h3,h4⟩:=mD (P:=P) hS''.rows hF3 fn.results.toList (AS fun x=>R x H2) (fun r hr=>by rw[hrs]at hr;simp only[List.mem_singleton]at hr;subst hr;simpa[Ou]using hsz) (by rw[hrs];simp only[uK,hld];rw[show upd (fun _=>AV.any) (some s) (ρ s) s=ρ s by simp[upd]];exact hr2);have hr:(results fn a'.tmps).run P w''=.ok (if h:vs.toArray.size=1 then vs.toArray[0]else .tuple vs.toArray) w'':=by rw[vO,Array.mapM_eq_mapM_toList];simp only[Sem.run_bind,Sem.run_map];rw[h3];simp only[Result.andThen_ok,Sem.run_pure]
   show ∃v,(results fn a'.tmps).run P w''=.ok v w''∧FQ S w H R (.returned v) w'';refine⟨_,hr,?_⟩;have hlen:vs.length=1:=by
     rw[hrs,List.mapM_cons,List.mapM_nil]at h3;cases hx:(Bt a'.tmps (.cell s ty)).run P w'' with
     | ok v w3=>simp only[Sem.run_bind,hx,Result.andThen_ok,Sem.run_pure]at h3;cases h3;rfl
     | halt x w3=>simp only[Sem.run_bind,hx]at h3;cases h3
   match vs,hlen,h4 with
   | [u],_,h4=>
     have:=eL _ _ h4
     match l',this,h4,h2 with
     | [x],_,h4,h2=>simp only[aV]at h4;obtain⟨u',t,e,h5,rfl⟩:=h4;cases e;exact⟨_,x,H2,S'',rfl,h2,hS'',by simpa using h5,(hG1.trans hG').trans hG'',hN1.trans (hN'.trans hN'' hG'.le.N) hG1.le.N⟩
end
end Go.Aw
