import Derived.StillTail
import Derived.Deep.Quiet
import Derived.Scope
import Derived.Test.YthbiheckeoknlaaGreatDoorChecked
import Derived.KernelRfl
import Derived.Test.YthbiheckeoknlaaGreatDoorPp03
set_option linter.unusedSimpArgs false
set_option linter.unusedVariables false
set_option linter.defProp false
set_option maxRecDepth 100000
section
set_option linter.unusedSectionVars false
namespace Go.Aw
open Go.RowKit
section
variable{P:Program}{PP:List PanicEntry→World→Prop}{ops:Array Oper}{md:Region.Mode}{C:World→Prop}{R:World→World→Prop}{Q':Exit→Act→World→Prop}
def goes(P:Program)(PP:List PanicEntry→World→Prop)(K:Value→World→Prop):Result Next→Prop
 | .ok (.value v) w'=>K v w'
 | .ok .skip w'=>K undef w'
 | .ok (.enter f args) w'=>Calls P f args w' fun e w''=>(∃v,e=.returned v∧K v w'')∨∃ch,e=.panicked ch∧PP ch w''
 | .ok (.row row args) w'=>Rows P row args w' K
 | .halt (.panic v) w'=>PP [{ v,recovered:=false }] w'
 | _=>False
def gAt(P:Program)(PP:List PanicEntry→World→Prop)(o:Oper)(a:Act)(w:World)(K:Value→World→Prop):Prop:=goes P PP K ((execOp a.eval o).run P w)
def gOp(P:Program)(PP:List PanicEntry→World→Prop)(ops:Array Oper)(i:Nat)(K:Act→World→Prop)(a:Act)(w:World):Prop:=
 match ops[i]? with
 | none=>False
 | some o=>if Region.wanted o (yielded ops a.tmps)=true then gAt P PP o a w (fun v w'=>K (a.put o.dst v) w')else K (a.put o.dst undef) w
theorem kX{K K':Value→World→Prop}(h:∀v w,K v w→K' v w){r:Result Next}(hh:goes P PP K r):goes P PP K' r:=by
 cases r with
 | ok n w'=>
  cases n <;> simp only[goes]at hh ⊢
  case value u=>exact h _ _ hh
  case skip=>exact h _ _ hh
  case enter f args=>exact hh.mono fun e w'' hx=>hx.imp (fun⟨v,he,hk⟩=>⟨v,he,h _ _ hk⟩) id
  case row row args=>exact hh.mono h
 | halt x w'=>cases x <;> simp only[goes]at hh ⊢;exact hh
theorem IR{i:Nat}{a:Act}{w:World}{K K':Act→World→Prop}(h:∀a w,K a w→K' a w)(hh:gOp P PP ops i K a w):gOp P PP ops i K' a w:=by
 unfold gOp at *;split
 ·rename_i ho;simp only[ho]at hh
 ·rename_i o ho;simp only[ho]at hh;split
  ·rename_i hw;rw[if_pos hw]at hh;exact kX (fun v w' hk=>h _ _ hk) hh
  ·rename_i hw;rw[if_neg hw]at hh;exact h _ _ hh
theorem MH[Nail]{D:DT}{i:Nat}{a:Act}{w:World}{K K':Act→World→Prop}(hnl:∀o∈ops,NailD o.dst)(hd:DI D a)(h:∀a' w,DI D a'→K a' w→K' a' w)(hh:gOp P PP ops i K a w):gOp P PP ops i K' a w:=by
 unfold gOp at *;split
 ·rename_i ho;simp only[ho]at hh
 ·rename_i o ho
  haveI:=hnl o (Array.mem_of_getElem? ho)
  simp only[ho]at hh;split
  ·rename_i hw;rw[if_pos hw]at hh;exact kX (fun v w' hk=>h _ _ hd.put hk) hh
  ·rename_i hw;rw[if_neg hw]at hh;exact h _ _ hd.put hh
theorem Mf{o:Oper}{a:Act}{w:World}{K:Act→World→Prop}(hp:∀ch w,PP ch w→Q' (.panic ch) a w)(h:gAt P PP o a w (fun v w'=>K (a.put o.dst v) w')):o.wp P a w K Q':=by
 unfold Oper.wp;unfold gAt at h;generalize (execOp a.eval o).run P w=r at *;cases r with
 | ok n w'=>
  cases n <;> simp only[goes]at h <;> simp only[Oper.upon]
  case value u=>exact h
  case skip=>exact h
  case enter f args=>
   refine h.mono fun e w'' hx=>?_
   rcases hx with⟨v,he,hk⟩|⟨ch,he,hk⟩
   ·subst he;exact hk
   ·subst he;exact hp _ _ hk
  case row row args=>exact h
 | halt x w'=>cases x <;> simp only[goes]at h <;> simp only[Oper.upon];exact hp _ _ h
theorem F6{i:Nat}{a:Act}{w:World}{K:Act→World→Prop}(hp:∀ch w,PP ch w→Q' (.panic ch) a w)(h:gOp P PP ops i K a w):wpOp P ops Q' i K a w:=by
 unfold gOp at h;unfold wpOp;split
 ·rename_i ho;simp only[ho]at h
 ·rename_i o ho;simp only[ho]at h;split
  ·rename_i hw;rw[if_pos hw]at h;exact .inl (Mf hp h)
  ·rename_i hw;rw[if_neg hw]at h;exact h
theorem EL{o:Oper}{a:Act}{w:World}{v:Value}{D:World→Prop}(hD:D w)(h:o.quietAt P a D w v):gAt P PP o a w (fun u w'=>u=v∧D w'):=by
 unfold Oper.quietAt at h;unfold gAt;generalize (execOp a.eval o).run P w=r at *;cases r with
 | ok n w'=>
  cases n <;> simp only[Oper.quietUpon]at h <;> simp only[goes]
  case value u=>obtain⟨e1,e2⟩:=h;rw[e1];exact⟨e2,hD⟩
  case skip=>obtain⟨e1,e2⟩:=h;rw[e1];exact⟨e2.symm,hD⟩
  case enter f args=>obtain⟨e1,hc⟩:=h;rw[e1];exact hc.mono fun e w'' ⟨he,hw⟩=>.inl ⟨v,he,rfl,hw⟩
 | halt x w'=>simp only[Oper.quietUpon]at h
def iC(P:Program)(PP:List PanicEntry→World→Prop)(md:Region.Mode)(ops:Array Oper)(C:World→Prop)(R:World→World→Prop)(Q':Exit→Act→World→Prop):Nat→Array Bool→Act→World→Prop
 | 0,listed,a,w=>Region.ready md ops listed=[]∧Q' .normal a w
 | f+1,listed,a,w=>Region.ready md ops listed≠[] ∧
   ∀i∈Region.ready md ops listed,gOp P PP ops i (fun a' w'=>C w'∧∀w2,R w' w2→iC P PP md ops C R Q' f (listed.setIfInBounds i true) a' w2) a w
theorem qA[Nail]{D:DT}(hnl:∀o∈ops,NailD o.dst)(hR:∀w,R w w)(hp:∀ch a w,DI D a→PP ch w→Q' (.panic ch) a w):∀(f:Nat) (listed:Array Bool) (a:Act) (w:World),DI D a→iC P PP md ops C R Q' f listed a w→wpAny P md ops Q' f listed a w
 | 0,_,_,_,_,h=>h
 | f+1,_,a,_,hd,h=>⟨fun h0=>absurd h0 h.1,fun i hi=>F6 (fun ch w hk=>hp ch a w hd hk) (MH hnl hd (fun a' w' hd' hk=>qA hnl hR hp f _ _ _ hd' (hk.2 w' (hR w'))) (h.2 i hi))⟩
def YQ(P:Program)(ops:Array Oper)(C:World→Prop)(R:World→World→Prop)(o:Oper)(v:Value)(a:Act):Prop:=
 (Region.wanted o (yielded ops a.tmps)=true∧∀w,C w→o.quietAt P a (R w) w v)∨(Region.wanted o (yielded ops a.tmps)=false∧v=undef)
theorem YQ.of_same{o:Oper}{v:Value}{a a':Act}(hy:YQ P ops C R o v a)(he:execOp a'.eval o=execOp a.eval o)
  (hw:Region.wanted o (yielded ops a'.tmps)=Region.wanted o (yielded ops a.tmps)):YQ P ops C R o v a':=by
 unfold YQ Oper.quietAt at *;rw[he,hw];exact hy
theorem QG{j:Nat}{oi oj:Oper}{v:Value}(hj:ops[j]?=some oj)(hap:oi.apart ops oj=true)
  (hsi:∀cs b,oi.op≠.select cs b) (hsj:∀cs b,oj.op≠.select cs b) {K:Act→World→Prop} {a:Act} {w:World}
  (hy:YQ P ops C R oi v a) (h:gOp P PP ops j K (a.put oi.dst v) w):
  gOp P PP ops j (fun a' w'=>YQ P ops C R oi v a'∧K (a'.put oi.dst v) w') a w:=by
 obtain⟨h1,h2,h3⟩:=Oper.apart_spec hap;have keep:∀u,YQ P ops C R oi v (a.put oj.dst u):=fun u=>hy.of_same (execOp_put oi hsi a oj.dst u h3) (wanted_put oi a oj.dst u h3)
 unfold gOp at *;simp only[hj]at *;rw[wanted_put oj a oi.dst v h1]at h;split
 ·rename_i hw;rw[if_pos hw]at h;unfold gAt at *;rw[execOp_put oj hsj a oi.dst v h1]at h;exact kX (fun u w' hk=>⟨keep u,by rw[←Act.put_comm a v u h2];exact hk⟩) h
 ·rename_i hw;rw[if_neg hw]at h;exact⟨keep _,by rw[←Act.put_comm a v undef h2];exact h⟩
theorem Ej{i:Nat}{oi:Oper}{v:Value}{a:Act}{w:World}(hi:ops[i]?=some oi)(hC:C w)(hR:∀w,R w w)(hy:YQ P ops C R oi v a){K:Act→World→Prop}(h:∀w',R w w'→K (a.put oi.dst v) w'):
  gOp P PP ops i K a w:=by
 unfold gOp;simp only[hi];rcases hy with⟨hw,hv⟩|⟨hw,rfl⟩
 ·rw[if_pos hw];exact kX (fun u w' ⟨e,hr⟩=>by subst e;exact h w' hr) (EL (hR w) (hv w hC))
 ·rw[if_neg (by simp[hw])];exact h w (hR w)
theorem jL{i:Nat}{oi:Oper}{v:Value}(hi:ops[i]?=some oi)(hsel:∀(j:Nat) (o:Oper) cs b,ops[j]?=some o→o.op≠.select cs b)
   (hR:∀w,R w w) (hT:∀w w' w'',R w w'→R w' w''→R w w'') (hCR:∀w w',C w→R w w'→C w'):
   ∀(f:Nat) (listed:Array Bool) (a:Act) (w:World),C w →
     (∀j oj,ops[j]?=some oj→j≠i→listed.getD j true=false→(∀e∈oj.after,Region.binds md e=true→e.on≠i)→oi.apart ops oj=true) →
     i∈Region.ready md ops listed→YQ P ops C R oi v a →
     (∀w2,R w w2→iC P PP md ops C R Q' f (listed.setIfInBounds i true) (a.put oi.dst v) w2)→iC P PP md ops C R Q' (f+1) listed a w:=by
 intro f;induction f with
 | zero=>
   intro listed a w hC _ hr hy H;refine⟨fun h=>(by rw[h]at hr;cases hr),fun j hj=>?_⟩;by_cases hji:j=i
   · subst hji;exact Ej hi hC hR hy fun w' hw'=>⟨hCR _ _ hC hw',fun w2 h2=>H w2 (hT _ _ _ hw' h2)⟩
   · have:=ready_mono hj hji;rw[(H w (hR w)).1]at this;cases this
 | succ f ih=>
   intro listed a w hC hfree hr hy H;refine⟨fun h=>(by rw[h]at hr;cases hr),fun j hj=>?_⟩;by_cases hji:j=i
   · subst hji;exact Ej hi hC hR hy fun w' hw'=>⟨hCR _ _ hC hw',fun w2 h2=>H w2 (hT _ _ _ hw' h2)⟩
   · have h1:=(H w (hR w)).2 j (ready_mono hj hji);obtain⟨hjun,oj,hoj,hall⟩:=mem_ready.1 hj;have hnot:∀e∈oj.after,Region.binds md e=true→e.on≠i:=fun e he hb heq=>by
       have h1:=hall e he hb;have h0:=(mem_ready.1 hr).1;rw[heq]at h1;rcases Nat.lt_or_ge i listed.size with h'|h'
       · simp[h']at h0 h1;rw[h0]at h1;cases h1
       · simp[Array.getElem?_eq_none h']at h1
     have h2:=QG hoj (hfree j oj hoj hji hjun hnot) (fun cs b=>hsel i oi cs b hi) (fun cs b=>hsel j oj cs b hoj) hy h1;have hfree' : ∀ k ok, ops[k]? = some ok → k ≠ i → (listed.setIfInBounds j true).getD k true = false →
         (∀e∈ok.after,Region.binds md e=true→e.on≠i)→oi.apart ops ok=true:=fun k ok hk hki hun hno=>by
       refine hfree k ok hk hki ?_ hno;by_cases hjk:j=k
       · subst hjk;exact hjun
       · rw[getD_set_ne true hjk]at hun;exact hun
     refine IR (fun a' w' ⟨hy',hCw,hk⟩=>⟨hCw,fun w2 h2=>ih (listed.setIfInBounds j true) a' w2 (hCR _ _ hCw h2) hfree' (ready_mono hr (Ne.symm hji)) hy' fun w3 h3=>?_⟩) h2;rw[Array.setIfInBounds_comm _ _ hji];exact hk w3 (hT _ _ _ h2 h3)
end
def Rw(w w':World):Prop:=w'.os=w.os∧w'.tape=w.tape∧w'.output=w.output∧w.heap.size≤w'.heap.size∧∀k,k<w.heap.size→w'.heap[k]?=w.heap[k]?
theorem Rw.refl(w:World):Rw w w:=⟨rfl,rfl,rfl,Nat.le_refl _,fun _ _=>rfl⟩
theorem Rw.trans{w w' w'':World}(h:Rw w w')(h':Rw w' w''):Rw w w'':=
 ⟨h'.1.trans h.1,h'.2.1.trans h.2.1,h'.2.2.1.trans h.2.2.1,Nat.le_trans h.2.2.2.1 h'.2.2.2.1,fun k hk=>(h'.2.2.2.2 k (Nat.lt_of_lt_of_le hk h.2.2.2.1)).trans (h.2.2.2.2 k hk)⟩
def Cb(S:Sg)(wb w:World):Prop:=w.os=wb.os∧w.tape=wb.tape∧w.output=wb.output∧wb.heap.size≤w.heap.size∧∀k,S.fz k→w.heap[k]?=wb.heap[k]?
theorem Cb.rw{S:Sg}{wb w w':World}{H:aC}(hS:St S wb H)(h:Cb S wb w)(hr:Rw w w'):Cb S wb w':=
 ⟨hr.1.trans h.1,hr.2.1.trans h.2.1,hr.2.2.1.trans h.2.2.1,Nat.le_trans h.2.2.2.1 hr.2.2.2.1,fun k hk=>(hr.2.2.2.2 k (Nat.lt_of_lt_of_le (hS.fz_lt k hk) h.2.2.2.1)).trans (h.2.2.2.2 k hk)⟩
theorem Rw.cb{S:Sg}{wb w:World}{H:aC}(hS:St S wb H)(h:Rw wb w):Cb S wb w:=⟨h.1,h.2.1,h.2.2.1,h.2.2.2.1,fun k hk=>h.2.2.2.2 k (hS.fz_lt k hk)⟩
theorem Cb.st{S:Sg}{wb w:World}{H:aC}(hS:St S wb H)(h:Cb S wb w):St S w bV:=
 ⟨hS.ro_fz,fun k hk=>Nat.lt_of_lt_of_le (hS.fz_lt k hk) h.2.2.2.1,fun k r hk=>by simp[bV]at hk,fun k r hk=>by simp[bV]at hk,fun k k' r r' hk=>by simp[bV]at hk,hS.tabs.keep S.le_refl (fun k hk=>h.2.2.2.2 k (hS.ro_fz k hk))⟩
theorem Cb.kept{S:Sg}{wb w:World}{H:aC}(hS:St S wb H)(h:Cb S wb w):fI S wb w:=fun k hk=>h.2.2.2.2 k (hS.ro_fz k hk)
theorem Cb.agree{S:Sg}{wb w:World}{H:aC}(hS:St S wb H)(h:Cb S wb w):Agree S bV wb w:=⟨h.kept hS,fun k r hk=>by simp[bV]at hk⟩
theorem Grow.cb{S S':Sg}{wb w:World}(h:Grow S wb S' w):Cb S wb w:=⟨h.os,h.tape,h.output,h.size,h.same⟩
section
variable[Nail]{D:DT}{P:Program}{pv:Value}{Z:aC→Prop}{PP:List PanicEntry→World→Prop}{n:Nat}{S0:Sg}{w0:World}{H0:aC}{mt:Nat→Bool}{ops:Array Oper}{K:Env→aC→Prop}{ρ:Env}{H:aC}{a:Act}{w:World}
theorem Rel.rw{w':World}(h:Rel D n S0 w0 H0 ρ H a w)(hr:Rw w w'):Rel D n S0 w0 H0 ρ H a w':=by obtain⟨S,hS,hF,hG,hN,hd,hn⟩:=h;have hg:=hS.grow hr.1 hr.2.1 hr.2.2.1 hr.2.2.2.1 hr.2.2.2.2;exact⟨S,hS.after hr.2.2.2.1 hr.2.2.2.2,hF.keep S.le_refl (hg.kept hS),hG.trans hg,hN,hd,hn⟩
def QP(PP:List PanicEntry→World→Prop)(e:Exit)(_:Act)(w:World):Prop:=∃ch,e=.panic ch∧PP ch w
theorem yM{o:Oper}{K':Act→World→Prop}(hd:DI D a)[NailD o.dst](hK:∀a w,K' a w→DI D a)(h:o.wp P a w K' (QP PP)):gAt P PP o a w fun v w'=>K' (a.put o.dst v) w':=by
 unfold Oper.wp at h;unfold gAt;generalize (execOp a.eval o).run P w=r at *;cases r with
 | ok m w'=>
  cases m <;> simp only[Oper.upon]at h <;> simp only[goes]
  case value u=>exact h
  case skip=>exact h
  case enter f args=>
   refine h.mono fun e w'' he=>?_
   cases e
   case returned v=>exact .inl ⟨v,rfl,he⟩
   case panicked c=>obtain⟨_,h1,h2⟩:=he;cases h1;exact .inr ⟨_,rfl,h2⟩
   case outgrown=>obtain⟨_,_,_,h,_⟩:=he;cases h
  case defer d=>have:=(hK _ _ h).1;rw[Kr]at this;exact absurd (congrArg List.length this) (by simp[hd.1])
  case row row args=>exact h
 | halt x w'=>
  cases x <;> simp only[Oper.upon]at h
  case panic v=>obtain⟨_,h1,h2⟩:=h;cases h1;exact h2
variable{S:Sg}
theorem qZ{o:Oper}{w1:World}{CC:World→Prop}(hCC:∀w,CC w→St S w H∧Agree S H w1 w)(hS:St S w1 H)(hF:FR S w1 ρ a)(hn:a.tmps.size=n)(hb:∀x∈o.op.operands,opB n x=true){G:Option Bool}
  (hgt:Region.wanted o (yielded ops a.tmps)=true↔gt G) (h:fO P G ρ H o.op fun x=>K (upd ρ o.dst (wr G x)) H):
  ∃z,K (upd ρ o.dst z) H∧(Region.wanted o (yielded ops a.tmps)=true→∃v,rep S w1 z v∧∀w,CC w→o.quietAt P a (Rw w) w v)∧(Region.wanted o (yielded ops a.tmps)=false→rep S w1 z undef):=by
 obtain⟨z,hz,hg⟩:=zR (hn▸hb) hF hS.rows h;refine⟨_,hz,fun hw=>?_,fun hw=>?_⟩
 ·obtain⟨v,hv,hr⟩:=hg (hgt.1 hw);refine⟨v,eS (hgt.1 hw) hv,fun w hc=>?_⟩;unfold Oper.quietAt;rw[hr w (hCC w hc).2 o rfl];exact⟨rfl,rfl⟩
 ·exact eA fun h=>by rw[hgt.2 h]at hw;simp at hw
theorem II{o:Oper}{c:Call}{w1:World}{CC:World→Prop}(hCC:∀w,CC w→St S w H∧Agree S H w1 w)(hS:St S w1 H)(hF:FR S w1 ρ a)(hn:a.tmps.size=n)(ho:o.op=.call c)(hb:∀x∈o.op.operands,opB n x=true){G:Option Bool}
  (hgt:Region.wanted o (yielded ops a.tmps)=true↔gt G) {nl:Bool} (h:wK P (cQ P pv Z) (dE P) nl true G o c ρ H K):
  ∃z,K (upd ρ o.dst z) H∧(Region.wanted o (yielded ops a.tmps)=true→∃v,rep S w1 z v∧∀w,CC w→o.quietAt P a (Rw w) w v)∧(Region.wanted o (yielded ops a.tmps)=false→rep S w1 z undef):=by
 rw[ho]at hb;simp only[Op.operands,Call.operands]at hb;unfold wK at h;split at h
 ·rename_i b hc;obtain⟨ys,h2,hys⟩:=kF hF c.args.toList (fun x hx=>hn▸hb x (by simp[Array.mem_toList_iff.1 hx])) h;clear h;have h:=h2;clear h2;split at h
  ·rename_i x t hargs;obtain⟨z,hz,hl⟩:=BC (G:=G) (ty:=o.type) hS.rows h;refine⟨_,hz,fun hw=>?_,fun hw=>eA fun h=>by rw[hgt.2 h]at hw;simp at hw⟩;have hgG:=hgt.1 hw;have hr:=hys hgG;simp only[aV]at hr;obtain⟨u,t',e1,e2,rfl⟩:=hr;obtain⟨v,hv,hrun⟩:=hl hgG u e2;have ea:c.args.map a.eval=#[u]:=Array.toList_inj.1 (by simpa using e1);have et:c.argTypes=#[t]:=Array.toList_inj.1 (by simpa using hargs);refine⟨v,eS hgG hv,fun w hcl=>?_⟩;unfold Oper.quietAt;have:(execOp a.eval o).run P w=.ok (.value v) w:=by simp[execOp,ho,resolve,hc,invoke,builtin,ea,et,hrun w (hCC w hcl).2]
   rw[this];exact⟨rfl,rfl⟩
  ·split at h
   ·rename_i hcond;simp at hcond
   ·split at h
    ·rename_i hcond;simp at hcond
    ·exact h.elim
  ·split at h
   ·rename_i hcond;simp at hcond
   ·exact h.elim
  ·split at h
   ·rename_i hcond;simp at hcond
   ·exact h.elim
  ·rename_i x y t t' hargs;obtain⟨z,hz,hl⟩:=AM (P:=P) (S:=S) (w:=w1) (H:=H) (G:=G) (tys:=c.argTypes) (ty:=o.type) h;refine⟨_,hz,fun hw=>?_,fun hw=>eA fun h=>by rw[hgt.2 h]at hw;simp at hw⟩
   ·have hgG:=hgt.1 hw;have hr:=hys hgG;simp only[aV]at hr;obtain⟨us,t1,e1,e2,ux,t2,rfl,e3,rfl⟩:=hr;obtain⟨v,hv,hrun⟩:=hl hgG us ux e2 e3;have ea:c.args.map a.eval=#[us,ux]:=Array.toList_inj.1 (by simpa using e1);refine⟨v,eS hgG hv,fun w hcl=>?_⟩;unfold Oper.quietAt;have:(execOp a.eval o).run P w=.ok (.value v) w:=by simp[execOp,ho,resolve,hc,invoke,builtin,ea,hrun w (hCC w hcl).2]
    rw[this];exact⟨rfl,rfl⟩
  ·rename_i x y t t' hargs;obtain⟨z,hz,hl⟩:=BT (P:=P) (S:=S) (w:=w1) (H:=H) (G:=G) (tys:=c.argTypes) (ty:=o.type) h;refine⟨_,hz,fun hw=>?_,fun hw=>eA fun h=>by rw[hgt.2 h]at hw;simp at hw⟩
   ·have hgG:=hgt.1 hw;have hr:=hys hgG;simp only[aV]at hr;obtain⟨us,t1,e1,e2,ux,t2,rfl,e3,rfl⟩:=hr;obtain⟨v,hv,hrun⟩:=hl hgG us ux e2 e3;have ea:c.args.map a.eval=#[us,ux]:=Array.toList_inj.1 (by simpa using e1);refine⟨v,eS hgG hv,fun w hcl=>?_⟩;unfold Oper.quietAt;have:(execOp a.eval o).run P w=.ok (.value v) w:=by simp[execOp,ho,resolve,hc,invoke,builtin,ea,hrun w (hCC w hcl).2]
    rw[this];exact⟨rfl,rfl⟩
  ·exact h.elim
 ·rename_i f hc;obtain⟨yf,h2,hf⟩:=aI (S:=S) (w:=w1) h;clear h;have h:=h2;clear h2;split at h
  ·rename_i g fst cpt hfn;by_cases hnl:nl=true
   ·rw[if_pos hnl]at h;exact absurd h.2.1 (by decide)
   rw[if_neg hnl]at h;obtain⟨ys,h2,hys⟩:=kF hF c.args.toList (fun x hx=>hn▸hb x (by simp[hc,Array.mem_toList_iff.1 hx])) h;clear h;obtain⟨hok,h⟩:=h2;have hfv:=fun hg=>vG hfn (hf hg _ (cL hF (hn▸hb f (by simp[hc]))))
   have hargs:gt G→∃first captured:Array Value,a.eval f=.func (.func g) first captured∧aV S w1 (fst++ys++cpt) (first++c.args.map a.eval++captured).toList:=fun hg=>by obtain⟨first,captured,h1,h2,h3⟩:=hfv hg;refine⟨first,captured,h1,?_⟩;simp only[Array.toList_append];refine dA _ _ _ _ (dA _ _ _ _ h2 ?_) h3;simpa using hys hg
   split at h
   ·rename_i hcond;simp at hcond
   ·obtain⟨r,hq,hk⟩:=h;by_cases hgG:gt G
    ·rcases hq hgG with hq|⟨x,rfl,hpc⟩
     ·obtain⟨v,hv'⟩:=hq.val;rw[Ir (by rw[hv'];rfl)]at hk;refine⟨_,hk,fun hw=>?_,fun hw=>eA fun h=>by rw[hgt.2 h]at hw;simp at hw⟩;obtain⟨first,captured,hfe,hra⟩:=hargs hgG;have hexec:∀w,(execOp a.eval o).run P w=.ok (.enter g (first++c.args.map a.eval++captured)) w:=fun w=>by simp only[execOp,ho];rw[kI hc hfe];simp[invoke,jJ hok]
      have hv:=(hq.calls hv' hS hra).1;refine⟨v,eS hgG (hv S w1),fun w hcl=>?_⟩;have hcalls:=(hq.calls hv' (hCC w hcl).1 (dN S.le_refl (hCC w hcl).2.kept _ _ hra)).2;unfold Oper.quietAt;rw[hexec];refine⟨rfl,?_⟩;rw[Array.toArray_toList]at hcalls;exact hcalls
     ·exact hk.elim
    ·obtain⟨z,hk⟩:=GY hk;refine⟨_,hk,fun hw=>absurd (hgt.1 hw) hgG,fun hw=>eA hgG⟩
  ·exact h.elim
 ·exact h.elim
theorem tT{o:Oper}{w1:World}{CC:World→Prop}(hCC:∀w,CC w→St S w H∧Agree S H w1 w)(hops:∀o∈ops,gO n o=true)(hS:St S w1 H)(hF:FR S w1 ρ a)(hn:a.tmps.size=n)(hb:gO n o=true)(h:aop P (cQ P pv Z) (dE P) mt true ops o ρ H K):
   ∃z,K (upd ρ o.dst z) H∧(Region.wanted o (yielded ops a.tmps)=true→∃v,rep S w1 z v∧∀w,CC w→o.quietAt P a (Rw w) w v)∧(Region.wanted o (yielded ops a.tmps)=false→rep S w1 z undef):=by
 haveI:=fK hb
 obtain⟨hbo,_⟩:=qQ hb;unfold aop at h;obtain⟨G,h2,hgt⟩:=qX hops hF hn h;clear h;have h:=h2;clear h2;split at h
 · rename_i x ho;unfold wM at h;split at h
   · rename_i hmt;simp at hmt
   · exact qZ hCC hS hF hn hbo hgt (by rw[ho];exact h)
 · split at h
   · simp at h
   · exact h.elim
 · simp at h
 · simp at h
 · simp at h
 · rename_i c ho;exact II hCC hS hF hn ho hbo hgt h
 all_goals first
   | exact h.elim
   | (simp at h;done)
   | (rename_i ho; split at h
      · simp at h;done
      · exact qZ hCC hS hF hn hbo hgt (by rw[ho];exact h))
   | (rename_i ho; split at h
      · obtain⟨rfl,h⟩:=h;rw[if_pos rfl]at h;obtain⟨z,hz,v,hv,hq⟩:=zL (S:=S) (w1:=w1) hF (fun x hx=>hn▸hbo x hx) ho h;exact⟨z,hz,fun _=>⟨v,hv,fun w _=>by unfold Oper.quietAt;rw[hq w];exact⟨rfl,rfl⟩⟩,fun hw=>by rw[cX hgt rfl]at hw;cases hw⟩
      · exact qZ hCC hS hF hn hbo hgt (by rw[ho];exact h))
   | (rename_i ho;exact qZ hCC hS hF hn hbo hgt (by rw[ho];exact h))
theorem Iu{o:Oper}{w1:World}{CC:World→Prop}(hCC:∀w,CC w→St S w bV∧Agree S bV w1 w)(hS:St S w1 H)(hF:FR S w1 ρ a)(hn:a.tmps.size=n){t:TypeId}{x:Operand}{lo hi m:Option Operand}(ho:o.op=.slice t x lo hi m)(hb:∀x∈o.op.operands,opB n x=true){G:Option Bool}
  (hgt:Region.wanted o (yielded ops a.tmps)=true↔gt G) (h:fO P G ρ H o.op fun x=>K (upd ρ o.dst (wr G x)) H):
  ∃z,K (upd ρ o.dst z) H∧(Region.wanted o (yielded ops a.tmps)=true→∃v,rep S w1 z v∧∀w,CC w→o.quietAt P a (Rw w) w v)∧(Region.wanted o (yielded ops a.tmps)=false→rep S w1 z undef):=by
 rw[ho]at hb h;obtain⟨z,hz,hg⟩:=wY (H':=bV) (hn▸hb) hF hS.rows h;refine⟨_,hz,fun hw=>?_,fun hw=>?_⟩
 ·obtain⟨v,hv,hr⟩:=hg (hgt.1 hw);refine⟨v,eS (hgt.1 hw) hv,fun w hc=>?_⟩;unfold Oper.quietAt;rw[hr w (hCC w hc).2 o ho];exact⟨rfl,rfl⟩
 ·exact eA fun h=>by rw[hgt.2 h]at hw;simp at hw
theorem J3{o:Oper}{w1:World}{CC:World→Prop}(hCC:∀w,CC w→St S w bV∧Agree S bV w1 w)(hops:∀o∈ops,gO n o=true)(hS:St S w1 H)(hF:FR S w1 ρ a)(hn:a.tmps.size=n)(hb:gO n o=true){K:Env→Prop}(h:aop P (cQ P pv Z) (dE P) mt true ops o ρ (qH o H) fun ρ' _=>K ρ'):
  ∃z,K (upd ρ o.dst z)∧(Region.wanted o (yielded ops a.tmps)=true→∃v,rep S w1 z v∧∀w,CC w→o.quietAt P a (Rw w) w v)∧(Region.wanted o (yielded ops a.tmps)=false→rep S w1 z undef):=by
 by_cases hs:∃t x lo hi m,o.op=.slice t x lo hi m
 ·obtain⟨t,x,lo,hi,m,ho⟩:=hs;have e:qH o H=H:=by unfold qH;rw[ho]
  rw[e]at h
  haveI:=fK hb
  obtain⟨hbo,_⟩:=qQ hb;unfold aop at h;obtain⟨G,h2,hgt⟩:=qX hops hF hn h;clear h;rw[ho]at h2;exact Iu (K:=fun ρ' _=>K ρ') hCC hS hF hn ho hbo hgt (by rw[ho];exact h2)
 ·have e : qH o H = bV := by
   unfold qH;split
   ·rename_i ho;exact absurd ⟨_,_,_,_,_,ho⟩ hs
   ·rfl
  rw[e]at h;exact tT (K:=fun ρ' _=>K ρ') hCC hops (hS.drop fun k r hk=>by simp[bV]at hk) hF hn hb h
theorem De{Q':Exit→Act→World→Prop}{wb:World}{Sb:Sg}{Hb:aC}(hZ:∀ch w,PW pv Z Sb wb Hb ch w→PP ch w)(hops:∀o∈ops,gO n o=true)(hQ:∀ρ H a w,K ρ H→Rel D n Sb wb Hb ρ H a w→Q' .normal a w):
  ∀(l:List Oper) (k:Nat) (listed:Array Bool) (ρ:Env) (H:aC) (a:Act) (w:World),(∀j,l[j]?=ops[k+j]?)→(∀o∈l,gO n o=true)→Region.seqB .any ops l.length k listed=true →
   pY P (cQ P pv Z) (dE P) mt false ops K l ρ H→Rel D n Sb wb Hb ρ H a w→iC P PP .any ops (Cb Sb wb) Rw Q' l.length listed a w
 | [],_,_,ρ,H,a,w,_,_,hB,h,hR=>⟨by simpa[Region.seqB]using hB,hQ ρ H a w h hR⟩
 | o::rest,k,listed,ρ,H,a,w,hl,hb,hB,h,hR=>by
  have h0:ops[k]?=some o:=by simpa using(hl 0).symm
  simp only[List.length_cons,Region.seqB,Bool.and_eq_true,decide_eq_true_eq]at hB;refine⟨by rw[hB.1];simp,fun i hi=>?_⟩;rw[hB.1]at hi;have hik:i=k:=by simpa using hi
  subst hik;obtain⟨S,hS,hF,hG,hN,hd,hn⟩:=hR
  haveI:=fK (hb o (by simp))
  have he:=tR (K':=fun a' w'=>DI D a'∧Cb Sb wb w'∧∀w2,Rw w' w2→iC P PP .any ops (Cb Sb wb) Rw Q' rest.length (listed.setIfInBounds i true) a' w2) (Q':=QP PP) hops hS hF hG hN hd hn (hb o (by simp))
   (fun ρ' H' a' w' hk hr=>by
    refine⟨?_,?_,fun w2 h2=>De hZ hops hQ rest (i+1) _ ρ' H' a' w2 (fun j=>by have:=hl (j+1);simpa[Nat.add_assoc,Nat.add_comm 1 j]using this) (fun o ho=>hb o (by simp[ho])) hB.2 hk (hr.rw h2)⟩
    ·obtain⟨S',_,_,_,_,hd',_⟩:=hr;exact hd'
    ·obtain⟨S',_,_,hG',_⟩:=hr;exact hG'.cb) (fun ch a w _ hp=>⟨ch,rfl,hZ ch w hp⟩) h
  unfold gOp;simp only[h0];by_cases hw:Region.wanted o (yielded ops a.tmps)=true
  ·rw[if_pos hw];exact kX (fun v w' hk=>hk.2) (yM hd (fun a w hk=>hk.1) (he.1 hw))
  ·rw[if_neg hw];exact(he.2 (by simpa using hw)).2
theorem AT{Q':Exit→Act→World→Prop}{wb:World}{Sb:Sg}(hops:∀o∈ops,gO n o=true)(hs:Region.noSelect ops=true)(hS:St Sb wb bV){g:Nat}
  (hK:∀ρ a listed w,K ρ bV→Rw wb w→FR Sb wb ρ a→DI D a→a.tmps.size=n→∀k,Region.seqB .any ops g k listed=true→k=ops.size-g→iC P PP .any ops (Cb Sb wb) Rw Q' g listed a w):
  ∀(l:List Oper) (k:Nat) (listed:Array Bool) (ρ:Env) (a:Act),(∀j,j<l.length→l[j]?=ops[k+j]?)→k+l.length=ops.size-g→(∀o∈l,gO n o=true)→Region.lexHead .any ops g l.length k listed=true →
   pY P (cQ P pv Z) (dE P) mt true ops K l ρ bV→FR Sb wb ρ a→DI D a→a.tmps.size=n→∀w,Rw wb w→iC P PP .any ops (Cb Sb wb) Rw Q' (l.length+g) listed a w
 | [],k,listed,ρ,a,_,hk,_,hB,h,hF,hd,hn,w,hC=>by rw[List.length_nil,Nat.zero_add];exact hK ρ a listed w h hC hF hd hn k hB (by simpa using hk)
 | o::rest,k,listed,ρ,a,hl,hk,hb,hB,h,hF,hd,hn,w,hC=>by
  have h0:ops[k]?=some o:=by simpa using(hl 0 (by simp)).symm
  simp only[List.length_cons,Region.lexHead,Bool.and_eq_true]at hB;obtain⟨⟨hr,hf⟩,hB'⟩:=hB
  haveI:=fK (hb o (by simp))
  obtain⟨z,hz,h1,h2⟩:=tT (CC:=Cb Sb wb) (fun w hc=>⟨hc.st hS,hc.agree hS⟩) hops hS hF hn (hb o (by simp)) h;have next:∀v,rep Sb wb z v→∀w2,Rw w w2→iC P PP .any ops (Cb Sb wb) Rw Q' (rest.length+g) (listed.setIfInBounds k true) (a.put o.dst v) w2:=fun v hv w2 h2=>AT hops hs hS hK rest (k+1) _ _ _ (fun j hj=>by have:=hl (j+1) (by simp;omega);simpa[Nat.add_assoc,Nat.add_comm 1 j]using this) (by simp only[List.length_cons]at hk;omega) (fun o ho=>hb o (by simp[ho])) hB' hz (FR.put hF hv) (hd.put) (by rw[sC];exact hn) w2 (hC.trans h2)
  rw[List.length_cons,show rest.length+1+g=(rest.length+g)+1 by omega];by_cases hw:Region.wanted o (yielded ops a.tmps)=true
  ·obtain⟨v,hv,hq⟩:=h1 hw;exact jL h0 (Region.noSelect_spec hs) Rw.refl (fun _ _ _=>Rw.trans) (fun _ _ hc hr=>hc.rw hS hr) _ listed a w (hC.cb hS) (Region.free_spec h0 hf) (by simpa using hr) (.inl ⟨hw,hq⟩) (next v hv)
  ·have hw':Region.wanted o (yielded ops a.tmps)=false:=by simpa using hw
   exact jL h0 (Region.noSelect_spec hs) Rw.refl (fun _ _ _=>Rw.trans) (fun _ _ hc hr=>hc.rw hS hr) _ listed a w (hC.cb hS) (Region.free_spec h0 hf) (by simpa using hr) (.inr ⟨hw',rfl⟩) (next _ (h2 hw'))
theorem Jq{Q':Exit→Act→World→Prop}{id m:Nat}(hm:P.follows .mixedOrders=true)(hops:∀o∈ops,gO n o=true)(hB:LA ops m=true)
  (h:pY P (cQ P pv Z) (dE P) mt true ops (fun ρ' _=>pY P (cQ P pv Z) (dE P) mt false ops K (ops.toList.drop m) ρ' H) (ops.toList.take m) ρ bV)
  (hR:Rel D n S0 w0 H0 ρ H a w) (hQ:∀ρ H a w,K ρ H→Rel D n S0 w0 H0 ρ H a w→Q' .normal a w) (hp:∀ch a w,DI D a→PW pv Z S0 w0 H0 ch w→Q' (.panic ch) a w):(Code.region id ops true).wp P Q' a w:=by
 obtain⟨S,hS,hF,hG,hN,hd,hn⟩:=hR;simp only[LA,Bool.and_eq_true,decide_eq_true_eq]at hB;obtain⟨⟨hs,hle⟩,hlex⟩:=hB
 let w1:World:={ w with drawn:=w.drawn+1 }
 have hS1:St S w1 H:=hS.after (Nat.le_refl _) fun _ _=>rfl
 have hg1:Grow S w S w1:=hS.grow rfl rfl rfl (Nat.le_refl _) fun _ _=>rfl
 have hF1:FR S w1 ρ a:=hF.keep S.le_refl (hg1.kept hS);have hSn:St S w1 bV:=hS1.drop fun k r hk=>by simp[bV]at hk
 refine wp_region_any hm (qA (fun o ho=>fK (hops o ho)) (PP:=PW pv Z S0 w0 H0) (C:=Cb S w1) (R:=Rw) Rw.refl hp _ _ _ _ hd ?_);have htl:(ops.toList.take m).length=m:=by simp;omega
 have:=AT (PP:=PW pv Z S0 w0 H0) (Q':=Q') (g:=ops.size-m) (wb:=w1) (Sb:=S) hops hs hSn (K:=fun ρ' _=>pY P (cQ P pv Z) (dE P) mt false ops K (ops.toList.drop m) ρ' H) (fun ρ' a' listed w' hk hC hF' hd' hn' k hseq hkk=>by
  have hkm:k=m:=by omega
  subst hkm;have hx:=De (PP:=PW pv Z S0 w0 H0) (Q':=Q') (wb:=w1) (Sb:=S) (Hb:=H) (fun ch w hk=>hk.trans (hG.trans hg1) hN) hops (K:=K) (fun ρ H a w hk hr=>by
   obtain⟨S',hS',hF',hG',hN',hd',hn'⟩:=hr;exact hQ ρ H a w hk ⟨S',hS',hF',hG.trans (hg1.trans hG'),hN.trans hN' hG.le.N,hd',hn'⟩) (ops.toList.drop k) k listed ρ' H a' w' (fun j=>by simp[List.getElem?_drop]) (fun o ho=>hops o (Array.mem_toList_iff.1 (List.mem_of_mem_drop ho)))
   (by simpa using hseq) hk ?_
  ·simpa using hx
  ·have hg:=hS1.grow hC.1 hC.2.1 hC.2.2.1 hC.2.2.2.1 hC.2.2.2.2;exact⟨S,hS1.after hC.2.2.2.1 hC.2.2.2.2,hF'.keep S.le_refl (hg.kept hS1),hg,dO.refl _ _,hd',hn'⟩) (ops.toList.take m) 0 (Array.replicate ops.size false) ρ a (fun j hj=>by
    have hj':j<m:=by rw[htl]at hj;exact hj
    simp[hj']) (by rw[htl];omega) (fun o ho=>hops o (Array.mem_toList_iff.1 (List.mem_of_mem_take ho))) (by rw[htl];exact hlex) h hF1 hd hn w1 (Rw.refl w1)
 rw[htl,show m+(ops.size-m)=ops.size by omega]at this;exact this
theorem sO{C C':World→Prop}{R:World→World→Prop}{Q':Exit→Act→World→Prop}(h:∀w,C' w→C w):∀(f:Nat) (listed:Array Bool) (a:Act) (w:World),iC P PP .any ops C' R Q' f listed a w→iC P PP .any ops C R Q' f listed a w
 | 0,_,_,_,hw=>hw
 | f+1,_,_,_,hw=>⟨hw.1,fun i hi=>IR (fun a' w' hk=>⟨h w' hk.1,fun w2 h2=>sO h f _ _ _ (hk.2 w2 h2)⟩) (hw.2 i hi)⟩
theorem Cb.mono{S S':Sg}{w w' w2:World}{H:aC}(hS:St S w H)(hg:Grow S w S' w')(h:Cb S' w' w2):Cb S w w2:=
 ⟨h.1.trans hg.os,h.2.1.trans hg.tape,h.2.2.1.trans hg.output,Nat.le_trans hg.size h.2.2.2.1,fun k hk=>(h.2.2.2.2 k (hg.fz k hk)).trans (hg.same k hk)⟩
theorem sV{Q':Exit→Act→World→Prop}(hZ:∀ch w,PW pv Z S0 w0 H0 ch w→PP ch w)(hops:∀o∈ops,gO n o=true)(hsel:Region.noSelect ops=true)(hQ:∀ρ H a w,K ρ H→Rel D n S0 w0 H0 ρ H a w→Q' .normal a w):
  ∀(f:List (Nat×Bool)) (listed:Array Bool) (ρ:Env) (H:aC) (a:Act) (w:World) (S:Sg),lS ops f listed=true →
   sE P (cQ P pv Z) (dE P) mt ops K f ρ H→St S w H→FR S w ρ a→Grow S0 w0 S w→dO S0.N H0 H→DI D a→a.tmps.size=n→∀w2,Rw w w2→iC P PP .any ops (Cb S w) Rw Q' f.length listed a w2
 | [],listed,ρ,H,a,w,S,hB,h,hS,hF,hG,hN,hd,hn,w2,h2=>by refine⟨by simpa[lS]using hB,hQ ρ H a w2 h (Rel.rw ⟨S,hS,hF,hG,hN,hd,hn⟩ h2)⟩
 | (k,true)::f,listed,ρ,H,a,w,S,hB,h,hS,hF,hG,hN,hd,hn,w2,h2=>by
  simp only[lS,Bool.and_eq_true]at hB;obtain⟨⟨hr,hf⟩,hB'⟩:=hB;unfold sE at h;split at h
  ·rename_i o h0;rw[if_pos rfl]at h;have hbo:=hops o (Array.mem_of_getElem? h0)
   haveI:=fK hbo
   obtain⟨z,hz,h1,h3⟩:=J3 (CC:=Cb S w) (K:=fun ρ'=>sE P (cQ P pv Z) (dE P) mt ops K f ρ' H) (fun w hc=>⟨hc.st hS,hc.agree hS⟩) hops hS hF hn hbo h;have next:∀v,rep S w z v→∀w3,Rw w w3→iC P PP .any ops (Cb S w) Rw Q' f.length (listed.setIfInBounds k true) (a.put o.dst v) w3:=fun v hv w3 h3=>sV hZ hops hsel hQ f _ _ H _ w S hB' hz hS (FR.put hF hv) hG hN (hd.put) (by rw[sC];exact hn) w3 h3
   rw[List.length_cons];by_cases hw:Region.wanted o (yielded ops a.tmps)=true
   ·obtain⟨v,hv,hq⟩:=h1 hw;exact jL h0 (Region.noSelect_spec hsel) Rw.refl (fun _ _ _=>Rw.trans) (fun _ _ hc hr=>hc.rw hS hr) _ listed a w2 (h2.cb hS) (Region.free_spec h0 hf) (by simpa using hr) (.inl ⟨hw,hq⟩) (fun w3 h3=>next v hv w3 (h2.trans h3))
   ·have hw':Region.wanted o (yielded ops a.tmps)=false:=by simpa using hw
    exact jL h0 (Region.noSelect_spec hsel) Rw.refl (fun _ _ _=>Rw.trans) (fun _ _ hc hr=>hc.rw hS hr) _ listed a w2 (h2.cb hS) (Region.free_spec h0 hf) (by simpa using hr) (.inr ⟨hw',rfl⟩) (fun w3 h3'=>next _ (h3 hw') w3 (h2.trans h3'))
  ·exact h.elim
 | (k,false)::f,listed,ρ,H,a,w,S,hB,h,hS,hF,hG,hN,hd,hn,w2,h2=>by
  simp only[lS,Bool.and_eq_true,decide_eq_true_eq]at hB;unfold sE at h;split at h
  ·rename_i o h0;rw[if_neg (by simp)]at h;have hbo:=hops o (Array.mem_of_getElem? h0)
   haveI:=fK hbo
   rw[List.length_cons];refine⟨by rw[hB.1];simp,fun i hi=>?_⟩;rw[hB.1]at hi;have hik:i=k:=by simpa using hi
   subst hik;have hg2:=hS.grow h2.1 h2.2.1 h2.2.2.1 h2.2.2.2.1 h2.2.2.2.2;have hS2:St S w2 H:=hS.after h2.2.2.2.1 h2.2.2.2.2;have hF2:FR S w2 ρ a:=hF.keep S.le_refl (hg2.kept hS);have he:=tR (S0:=S) (w0:=w2) (H0:=H) (K:=sE P (cQ P pv Z) (dE P) mt ops K f) (K':=fun a' w'=>DI D a'∧Cb S w w'∧∀w3,Rw w' w3→iC P PP .any ops (Cb S w) Rw Q' f.length (listed.setIfInBounds i true) a' w3) (Q':=QP PP) hops hS2 hF2 (Grow.refl S w2) (dO.refl _ _) hd hn hbo
    (fun ρ' H' a' w' hk hr=>by obtain⟨S',hS',hF',hG',hN',hd',hn'⟩:=hr;have hGw:Grow S w S' w':=hg2.trans hG';refine⟨hd',hGw.cb,fun w3 h3=>?_⟩;refine sO (fun x hx=>Cb.mono hS hGw hx) _ _ _ _ (sV hZ hops hsel hQ f _ ρ' H' a' w' S' hB.2 hk hS' hF' (hG.trans hGw) (hN.trans hN' hG.le.N) hd' hn' w3 h3)) (fun ch a w _ hp=>⟨ch,rfl,hZ ch w (hp.trans (hG.trans hg2) hN)⟩) h
   unfold gOp;simp only[h0];by_cases hw:Region.wanted o (yielded ops a.tmps)=true
   ·rw[if_pos hw];exact kX (fun v w' hk=>hk.2) (yM hd (fun a w hk=>hk.1) (he.1 hw))
   ·rw[if_neg hw];exact(he.2 (by simpa using hw)).2
  ·exact h.elim
theorem Nf{Q':Exit→Act→World→Prop}{id:Nat}{f:List (Nat×Bool)}(hm:P.follows .mixedOrders=true)(hops:∀o∈ops,gO n o=true)(hB:Kt ops f=true)
  (h:sE P (cQ P pv Z) (dE P) mt ops K f ρ H)
  (hR:Rel D n S0 w0 H0 ρ H a w) (hQ:∀ρ H a w,K ρ H→Rel D n S0 w0 H0 ρ H a w→Q' .normal a w) (hp:∀ch a w,DI D a→PW pv Z S0 w0 H0 ch w→Q' (.panic ch) a w):(Code.region id ops true).wp P Q' a w:=by
 obtain⟨S,hS,hF,hG,hN,hd,hn⟩:=hR;simp only[Kt,Bool.and_eq_true,decide_eq_true_eq]at hB;obtain⟨⟨hs,hle⟩,hlex⟩:=hB
 let w1:World:={ w with drawn:=w.drawn+1 }
 have hS1:St S w1 H:=hS.after (Nat.le_refl _) fun _ _=>rfl
 have hg1:Grow S w S w1:=hS.grow rfl rfl rfl (Nat.le_refl _) fun _ _=>rfl
 have hF1:FR S w1 ρ a:=hF.keep S.le_refl (hg1.kept hS);refine wp_region_any hm (qA (fun o ho=>fK (hops o ho)) (PP:=PW pv Z S0 w0 H0) (C:=Cb S w1) (R:=Rw) Rw.refl hp _ _ _ _ hd ?_);have:=sV (PP:=PW pv Z S0 w0 H0) (Q':=Q') (fun _ _ h=>h) hops hs hQ f (Array.replicate ops.size false) ρ H a w1 S hlex h hS1 hF1 (hG.trans hg1) hN hd hn w1 (Rw.refl w1);rw[hle]at this;exact this
structure Pin(S:Sg)(w:World)(Hp:aC):Prop where
 rows:pC S w Hp
 fz:∀k r,Hp k=some r→∀g,blk (S.loc k)=some g→S.fz g∧¬S.ro g
 disj:∀k k' r r',Hp k=some r→Hp k'=some r'→k≠k'→∀g,blk (S.loc k)=some g→blk (S.loc k')≠some g
def RB(S:Sg)(Hp:aC)(g:Nat):Prop:=∃k r,Hp k=some r∧blk (S.loc k)=some g
def Sg.unpin(S:Sg)(Hp:aC):Sg:={ S with fz:=fun g=>S.fz g∧¬RB S Hp g }
def Sg.pin(S:Sg)(Hp:aC):Sg:={ S with fz:=fun g=>S.fz g∨RB S Hp g }
theorem Sg.le_unpin(S:Sg)(Hp:aC):S.le (S.unpin Hp):=⟨fun _ h=>h,Nat.le_refl _,fun _ _=>rfl,fun _ _=>rfl⟩
theorem Sg.unpin_le(S:Sg)(Hp:aC):(S.unpin Hp).le S:=⟨fun _ h=>h,Nat.le_refl _,fun _ _=>rfl,fun _ _=>rfl⟩
theorem Sg.le_pin(S:Sg)(Hp:aC):S.le (S.pin Hp):=⟨fun _ h=>h,Nat.le_refl _,fun _ _=>rfl,fun _ _=>rfl⟩
theorem Pin.merge{Hp Hm:aC}(h:Pin S w Hp)(hS:St S w H)(hm:∀k r,Hm k=some r→H k=some r∨Hp k=some r):St (S.unpin Hp) w Hm:=by
 have hr:∀k r,Hm k=some r→RowOK S w k r:=fun k r hk=>by
  rcases hm k r hk with h1|h1
  ·exact hS.rows k r h1
  ·exact h.rows k r h1
 refine⟨fun k hk=>⟨hS.ro_fz k hk,fun⟨i,r,hi,hg⟩=>(h.fz i r hi k hg).2 hk⟩,fun k hk=>hS.fz_lt k hk.1,fun k r hk=>(hr k r hk).keep (S.le_unpin Hp) (fI.refl S w) (fun _ _=>rfl),fun k r hk g hg hf=>?_,fun k k' r r' hk hk' hne g hg hg'=>?_,hS.tabs⟩
 ·rcases hm k r hk with h1|h1
  ·exact hS.free k r h1 g hg hf.1
  ·exact hf.2 ⟨k,r,h1,hg⟩
 ·rcases hm k r hk with h1|h1 <;> rcases hm k' r' hk' with h2|h2
  ·exact hS.disj k k' r r' h1 h2 hne g hg hg'
  ·exact hS.free k r h1 g hg (h.fz k' r' h2 g hg').1
  ·exact hS.free k' r' h2 g hg' (h.fz k r h1 g hg).1
  ·exact h.disj k k' r r' h1 h2 hne g hg hg'
theorem Pin.keep{Hp:aC}{S':Sg}{w':World}(h:Pin S w Hp)(hS:St S w H)(hg:Grow S w S' w'):Pin S' w' Hp:=by
 refine⟨fun k r hk=>(h.rows k r hk).keep hg.le (hg.kept hS) (fun g hb=>hg.same g (h.fz k r hk g hb).1),fun k r hk g hb=>?_,fun k k' r r' hk hk' hne g hb=>?_⟩
 ·rw[hg.le.loc k (h.rows k r hk).lt]at hb;have h1:=h.fz k r hk g hb;refine⟨hg.fz g h1.1,fun h2=>?_⟩;rcases hg.newro g h2 with h3|h3
  ·exact h1.2 h3
  ·exact h3 h1.1
 ·rw[hg.le.loc k (h.rows k r hk).lt]at hb;rw[hg.le.loc k' (h.rows k' r' hk').lt];exact h.disj k k' r r' hk hk' hne g hb
theorem Cb.pin{wb w:World}{H Hp:aC}(hS:St S wb H)(hp:Pin S wb Hp)(h:Cb S wb w):St (S.unpin Hp) w Hp∧Agree (S.unpin Hp) Hp wb w:=by have hg:Grow S wb S w:=⟨S.le_refl,fun _ h=>h,h.1,h.2.1,h.2.2.1,h.2.2.2.1,h.2.2.2.2,fun _ h=>.inl h⟩;exact⟨(hp.keep hS hg).merge (h.st hS) (fun k r hk=>.inr hk),⟨fun k hk=>h.2.2.2.2 k (hS.ro_fz k hk),fun k r hk g hb=>h.2.2.2.2 g (hp.fz k r hk g hb).1⟩⟩
theorem nA{Q':Exit→Act→World→Prop}{Hp:aC}(hZ:∀ch w',PW pv Z S w H ch w'→PP ch w')(hops:∀o∈ops,gO n o=true){i m:Nat}{o:Oper}{listed:Array Bool}{K1:Env→aC→Prop}(h0:ops[i]?=some o)(h:aop P (cQ P pv Z) (dE P) mt false ops o ρ H K1)
  (hS:St S w H) (hP:Pin S w Hp) (hF:FR S w ρ a) (hd:DI D a) (hn:a.tmps.size=n) {w2:World} (h2:Rw w w2)
  (next:∀ρ' H' a' w' S',K1 ρ' H'→St S' w' H'→Pin S' w' Hp→FR S' w' ρ' a'→Grow S w S' w'→dO S.N H H'→DI D a'→a'.tmps.size=n→∀w3,Rw w' w3→iC P PP .any ops (Cb S' w') Rw Q' m (listed.setIfInBounds i true) a' w3):
  gOp P PP ops i (fun a' w'=>Cb S w w'∧∀w3,Rw w' w3→iC P PP .any ops (Cb S w) Rw Q' m (listed.setIfInBounds i true) a' w3) a w2:=by
 have hbo:=hops o (Array.mem_of_getElem? h0)
 haveI:=fK hbo
 have hg2:=hS.grow h2.1 h2.2.1 h2.2.2.1 h2.2.2.2.1 h2.2.2.2.2;have hS2:St S w2 H:=hS.after h2.2.2.2.1 h2.2.2.2.2;have hP2:Pin S w2 Hp:=hP.keep hS hg2;have hF2:FR S w2 ρ a:=hF.keep S.le_refl (hg2.kept hS);have he:=tR (S0:=S) (w0:=w2) (H0:=H) (K:=K1) (K':=fun a' w'=>DI D a'∧Cb S w w'∧∀w3,Rw w' w3→iC P PP .any ops (Cb S w) Rw Q' m (listed.setIfInBounds i true) a' w3) (Q':=QP PP) hops hS2 hF2 (Grow.refl S w2) (dO.refl _ _) hd hn hbo
  (fun ρ' H' a' w' hk hr=>by obtain⟨S',hS',hF',hG',hN',hd',hn'⟩:=hr;have hGw:Grow S w S' w':=hg2.trans hG';refine⟨hd',hGw.cb,fun w3 h3=>?_⟩;exact sO (fun x hx=>Cb.mono hS hGw hx) _ _ _ _ (next ρ' H' a' w' S' hk hS' (hP2.keep hS2 hG') hF' hGw hN' hd' hn' w3 h3)) (fun ch a w' _ hp=>⟨ch,rfl,hZ ch w' (hp.trans hg2 (dO.refl _ _))⟩) h
 unfold gOp;simp only[h0];by_cases hw:Region.wanted o (yielded ops a.tmps)=true
 ·rw[if_pos hw];exact kX (fun v w' hk=>hk.2) (yM hd (fun a w hk=>hk.1) (he.1 hw))
 ·rw[if_neg hw];exact(he.2 (by simpa using hw)).2
theorem lH{q:Bool}{k:Nat}{K1:Env→aC→Prop}(h:wC P (cQ P pv Z) (dE P) mt q ops k ρ H K1):∃o,ops[k]?=some o∧aop P (cQ P pv Z) (dE P) mt q ops o ρ H K1:=by
 unfold wC at h;split at h
 ·rename_i o h0;exact⟨o,h0,h⟩
 ·exact h.elim
theorem gJ{Q':Exit→Act→World→Prop}{Hp:aC}(hZ:∀ch w,PW pv Z S0 w0 H0 ch w→PP ch w)(hops:∀o∈ops,gO n o=true)(hsel:Region.noSelect ops=true)
  (hQ:∀ρ H a w S,K ρ H→St S w H→Pin S w Hp→FR S w ρ a→Grow S0 w0 S w→dO S0.N H0 H→DI D a→a.tmps.size=n→Q' .normal a w):
  ∀(t:Mx) (m:Nat) (listed:Array Bool) (ρ:Env) (H:aC) (a:Act) (w:World) (S:Sg),eB ops t m listed=true →
   jM P (cQ P pv Z) (dE P) mt ops K Hp t ρ H→St S w H→Pin S w Hp→FR S w ρ a→Grow S0 w0 S w→dO S0.N H0 H→DI D a→a.tmps.size=n→∀w2,Rw w w2→iC P PP .any ops (Cb S w) Rw Q' m listed a w2
 | .nil,m,listed,ρ,H,a,w,S,hB,h,hS,hP,hF,hG,hN,hd,hn,w2,h2=>by
  cases m with
  | succ m=>simp[eB]at hB
  | zero=>have hg:=hS.grow h2.1 h2.2.1 h2.2.2.1 h2.2.2.2.1 h2.2.2.2.2;exact⟨by simpa[eB]using hB,hQ ρ H a w2 S h (hS.after h2.2.2.2.1 h2.2.2.2.2) (hP.keep hS hg) (hF.keep S.le_refl (hg.kept hS)) (hG.trans hg) hN hd hn⟩
 | .q k t,m,listed,ρ,H,a,w,S,hB,h,hS,hP,hF,hG,hN,hd,hn,w2,h2=>by
  cases m with
  | zero=>simp[eB]at hB
  | succ m=>
   simp only[eB,Bool.and_eq_true]at hB;obtain⟨⟨hr,hf⟩,hB'⟩:=hB;obtain⟨o,h0,h⟩:=lH h;have hbo:=hops o (Array.mem_of_getElem? h0)
   haveI:=fK hbo
   obtain⟨z,hz,h1,h3⟩:=tT (S:=S.unpin Hp) (CC:=Cb S w) (K:=fun ρ' _=>jM P (cQ P pv Z) (dE P) mt ops K Hp t ρ' H) (fun w hc=>hc.pin hS hP) hops (hP.merge hS fun k r hk=>.inr hk) (hF.keep (S.le_unpin Hp) (fI.refl S w)) hn hbo h;have next:∀v,rep (S.unpin Hp) w z v→∀w3,Rw w w3→iC P PP .any ops (Cb S w) Rw Q' m (listed.setIfInBounds k true) (a.put o.dst v) w3:=fun v hv w3 h3=>gJ hZ hops hsel hQ t m _ _ H _ w S hB' hz hS hP (FR.put hF (gB (S.unpin_le Hp) (fI.refl (S.unpin Hp) w) _ _ hv)) hG hN (hd.put) (by rw[sC];exact hn) w3 h3
   by_cases hw:Region.wanted o (yielded ops a.tmps)=true
   ·obtain⟨v,hv,hq⟩:=h1 hw;exact jL h0 (Region.noSelect_spec hsel) Rw.refl (fun _ _ _=>Rw.trans) (fun _ _ hc hr=>hc.rw hS hr) _ listed a w2 (h2.cb hS) (Region.free_spec h0 hf) (by simpa using hr) (.inl ⟨hw,hq⟩) (fun w3 h3=>next v hv w3 (h2.trans h3))
   ·have hw':Region.wanted o (yielded ops a.tmps)=false:=by simpa using hw
    exact jL h0 (Region.noSelect_spec hsel) Rw.refl (fun _ _ _=>Rw.trans) (fun _ _ hc hr=>hc.rw hS hr) _ listed a w2 (h2.cb hS) (Region.free_spec h0 hf) (by simpa using hr) (.inr ⟨hw',rfl⟩) (fun w3 h3'=>next _ (h3 hw') w3 (h2.trans h3'))
 | .a1 k t,m,listed,ρ,H,a,w,S,hB,h,hS,hP,hF,hG,hN,hd,hn,w2,h2=>by
  cases m with
  | zero=>simp[eB]at hB
  | succ m=>simp only[eB,Bool.and_eq_true,decide_eq_true_eq]at hB;obtain⟨o,h0,g⟩:=lH h;refine⟨by rw[hB.1];simp,fun i hi=>?_⟩;rw[hB.1]at hi;simp only[List.mem_cons,List.not_mem_nil,or_false]at hi;subst hi;exact nA (fun ch w' hp=>hZ ch w' (hp.trans hG hN)) hops h0 g hS hP hF hd hn h2 fun ρ' H' a' w' S' hk hS' hP' hF' hG' hN' hd' hn' w3 h3=>gJ hZ hops hsel hQ t m _ ρ' H' a' w' S' hB.2 hk hS' hP' hF' (hG.trans hG') (hN.trans hN' hG.le.N) hd' hn' w3 h3
 | .a2 k t k' t',m,listed,ρ,H,a,w,S,hB,h,hS,hP,hF,hG,hN,hd,hn,w2,h2=>by
  cases m with
  | zero=>simp[eB]at hB
  | succ m=>
   simp only[eB,Bool.and_eq_true,decide_eq_true_eq]at hB;obtain⟨h,h'⟩:=h;obtain⟨o,h0,g⟩:=lH h;obtain⟨o',h0',g'⟩:=lH h';refine⟨by rw[hB.1.1];simp,fun i hi=>?_⟩;rw[hB.1.1]at hi;simp only[List.mem_cons,List.not_mem_nil,or_false]at hi;rcases hi with rfl|rfl
   ·exact nA (fun ch w' hp=>hZ ch w' (hp.trans hG hN)) hops h0 g hS hP hF hd hn h2 fun ρ' H' a' w' S' hk hS' hP' hF' hG' hN' hd' hn' w3 h3=>gJ hZ hops hsel hQ t m _ ρ' H' a' w' S' hB.1.2 hk hS' hP' hF' (hG.trans hG') (hN.trans hN' hG.le.N) hd' hn' w3 h3
   ·exact nA (fun ch w' hp=>hZ ch w' (hp.trans hG hN)) hops h0' g' hS hP hF hd hn h2 fun ρ' H' a' w' S' hk hS' hP' hF' hG' hN' hd' hn' w3 h3=>gJ hZ hops hsel hQ t' m _ ρ' H' a' w' S' hB.2 hk hS' hP' hF' (hG.trans hG') (hN.trans hN' hG.le.N) hd' hn' w3 h3
 | .a3 k t k' t' k'' t'',m,listed,ρ,H,a,w,S,hB,h,hS,hP,hF,hG,hN,hd,hn,w2,h2=>by
  cases m with
  | zero=>simp[eB]at hB
  | succ m=>
   simp only[eB,Bool.and_eq_true,decide_eq_true_eq]at hB;obtain⟨h,h',h''⟩:=h;obtain⟨o,h0,g⟩:=lH h;obtain⟨o',h0',g'⟩:=lH h';obtain⟨o'',h0'',g''⟩:=lH h'';refine⟨by rw[hB.1.1.1];simp,fun i hi=>?_⟩;rw[hB.1.1.1]at hi;simp only[List.mem_cons,List.not_mem_nil,or_false]at hi;rcases hi with rfl|rfl|rfl
   ·exact nA (fun ch w' hp=>hZ ch w' (hp.trans hG hN)) hops h0 g hS hP hF hd hn h2 fun ρ' H' a' w' S' hk hS' hP' hF' hG' hN' hd' hn' w3 h3=>gJ hZ hops hsel hQ t m _ ρ' H' a' w' S' hB.1.1.2 hk hS' hP' hF' (hG.trans hG') (hN.trans hN' hG.le.N) hd' hn' w3 h3
   ·exact nA (fun ch w' hp=>hZ ch w' (hp.trans hG hN)) hops h0' g' hS hP hF hd hn h2 fun ρ' H' a' w' S' hk hS' hP' hF' hG' hN' hd' hn' w3 h3=>gJ hZ hops hsel hQ t' m _ ρ' H' a' w' S' hB.1.2 hk hS' hP' hF' (hG.trans hG') (hN.trans hN' hG.le.N) hd' hn' w3 h3
   ·exact nA (fun ch w' hp=>hZ ch w' (hp.trans hG hN)) hops h0'' g'' hS hP hF hd hn h2 fun ρ' H' a' w' S' hk hS' hP' hF' hG' hN' hd' hn' w3 h3=>gJ hZ hops hsel hQ t'' m _ ρ' H' a' w' S' hB.2 hk hS' hP' hF' (hG.trans hG') (hN.trans hN' hG.le.N) hd' hn' w3 h3
theorem JL{Q':Exit→Act→World→Prop}{id:Nat}{l:List Nat}{t:Mx}(hm:P.follows .mixedOrders=true)(hops:∀o∈ops,gO n o=true)(hl:∀k,k∈l→(H k).isSome=true)(hB:zJ ops t=true)
  (h:∀Hp Hr:aC,(∀k,k∈l→Hp k=H k)→(∀k,k∉l→Hr k=H k)→(∀k,k∉l→Hp k=none)→(∀k,k∈l→Hr k=none)→jM P (cQ P pv Z) (dE P) mt ops (oQ l H K) Hp t ρ Hr)
  (hR:Rel D n S0 w0 H0 ρ H a w) (hQ:∀ρ H a w,K ρ H→Rel D n S0 w0 H0 ρ H a w→Q' .normal a w) (hp:∀ch a w,DI D a→PW pv Z S0 w0 H0 ch w→Q' (.panic ch) a w):(Code.region id ops true).wp P Q' a w:=by
 obtain⟨S,hS,hF,hG,hN,hd,hn⟩:=hR;simp only[zJ,Bool.and_eq_true]at hB;obtain⟨hs,hlex⟩:=hB
 let Hp:aC:=fun k=>if k∈l then H k else none
 let Hr:aC:=fun k=>if k∈l then none else H k
 have hp1:∀k,k∈l→Hp k=H k:=fun k hk=>if_pos hk
 have hp2:∀k,k∉l→Hp k=none:=fun k hk=>if_neg hk
 have hr1:∀k,k∉l→Hr k=H k:=fun k hk=>if_neg hk
 have hr2:∀k,k∈l→Hr k=none:=fun k hk=>if_pos hk
 have hpH:∀k r,Hp k=some r→H k=some r∧k∈l:=fun k r hk=>by
  by_cases h:k∈l
  ·exact⟨by rw[←hp1 k h];exact hk,h⟩
  ·rw[hp2 k h]at hk;cases hk
 have hrH:∀k r,Hr k=some r→H k=some r∧k∉l:=fun k r hk=>by
  by_cases h:k∈l
  ·rw[hr2 k h]at hk;cases hk
  ·exact⟨by rw[←hr1 k h];exact hk,h⟩
 let w1:World:={ w with drawn:=w.drawn+1 }
 have hS1:St S w1 H:=hS.after (Nat.le_refl _) fun _ _=>rfl
 have hg1:Grow S w S w1:=hS.grow rfl rfl rfl (Nat.le_refl _) fun _ _=>rfl
 have hF1:FR S w1 ρ a:=hF.keep S.le_refl (hg1.kept hS);have hSp:St (S.pin Hp) w1 Hr:=by
  refine⟨fun k hk=>.inl (hS1.ro_fz k hk),fun k hk=>?_,fun k r hk=>(hS1.rows k r (hrH k r hk).1).keep (S.le_pin Hp) (fI.refl S w1) (fun _ _=>rfl),fun k r hk g hg hf=>?_,fun k k' r r' hk hk' hne g hg hg'=>hS1.disj k k' r r' (hrH k r hk).1 (hrH k' r' hk').1 hne g hg hg',hS1.tabs⟩
  ·rcases hk with h1|⟨i,r,hi,hg⟩
   ·exact hS1.fz_lt k h1
   ·exact(hS1.rows i r (hpH i r hi).1).block_lt hg
  ·rcases hf with h1|⟨i,r',hi,hg'⟩
   ·exact hS1.free k r (hrH k r hk).1 g hg h1
   ·exact hS1.disj k i r r' (hrH k r hk).1 (hpH i r' hi).1 (fun e=>(hrH k r hk).2 (e▸(hpH i r' hi).2)) g hg hg'
 have hPp:Pin (S.pin Hp) w1 Hp:=by refine⟨fun k r hk=>(hS1.rows k r (hpH k r hk).1).keep (S.le_pin Hp) (fI.refl S w1) (fun _ _=>rfl),fun k r hk g hg=>⟨.inr ⟨k,r,hk,hg⟩,fun h1=>hS1.free k r (hpH k r hk).1 g hg (hS1.ro_fz g h1)⟩,fun k k' r r' hk hk' hne g hg=>hS1.disj k k' r r' (hpH k r hk).1 (hpH k' r' hk').1 hne g hg⟩
 have growU:∀S' w',Grow (S.pin Hp) w1 S' w'→Grow S0 w0 (S'.unpin Hp) w':=fun S' w' hG'=>by
  refine hG.trans (hg1.trans ⟨⟨hG'.le.ro,hG'.le.N,hG'.le.loc,hG'.le.sz⟩,fun k hk=>⟨hG'.fz k (.inl hk),fun⟨i,r,hi,hb⟩=>by
   have hi':=hS1.rows i r (hpH i r hi).1;have e:S'.loc i=S.loc i:=hG'.le.loc i hi'.lt;rw[show(S'.loc i)=S.loc i from e]at hb;exact hS1.free i r (hpH i r hi).1 k hb hk⟩,hG'.os,hG'.tape,hG'.output,hG'.size,fun k hk=>hG'.same k (.inl hk),fun k hk=>by
   rcases hG'.newro k hk with h2|h2
   ·exact .inl h2
   ·exact .inr fun h3=>h2 (.inl h3)⟩)
 have hZ:∀ch w',PW pv Z (S.pin Hp) w1 Hr ch w'→PW pv Z S0 w0 H0 ch w':=fun ch w' ⟨e,S',H',h1,h2,h3,h4⟩=>by
  refine⟨e,S'.unpin Hp,H',h1,(hPp.keep hSp h3).merge h2 (fun k r hk=>.inl hk),growU S' w' h3,fun k hk h0=>?_⟩;refine h4 k (Nat.lt_of_lt_of_le hk hG.le.N) ?_;by_cases hkl:k∈l
  ·exact hr2 k hkl
  ·rw[hr1 k hkl];exact hN k hk h0
 refine wp_region_any hm (qA (fun o ho=>fK (hops o ho)) (PP:=PW pv Z S0 w0 H0) (C:=Cb (S.pin Hp) w1) (R:=Rw) Rw.refl hp _ _ _ _ hd ?_);have:=gJ (PP:=PW pv Z S0 w0 H0) (Q':=Q') (Hp:=Hp) (K:=oQ l H K) (S0:=S.pin Hp) (w0:=w1) (H0:=Hr) hZ hops hs (fun ρ' H' a' w' S' hk hS' hP' hF' hG' hN' hd' hn'=>by
  have hdead:∀k,k∈l→H' k=none:=fun k hk=>by obtain⟨r,hr⟩:=Option.isSome_iff_exists.1 (hl k hk);exact hN' k (hS.rows k r hr).lt (hr2 k hk)
  let Hm:aC:=fun k=>if k∈l then H k else H' k
  have hm1:∀k,k∈l→Hm k=H k:=fun k hk=>if_pos hk
  have hm2:∀k,k∉l→Hm k=H' k:=fun k hk=>if_neg hk
  refine hQ ρ' Hm a' w' (hk hdead Hm hm1 hm2) ⟨S'.unpin Hp,hP'.merge hS' (fun k r hk=>?_),hF'.keep (S'.le_unpin Hp) (fI.refl S' w'),growU S' w' hG',?_,hd',hn'⟩
  ·by_cases hkl:k∈l
   ·right;rw[hp1 k hkl,←hm1 k hkl];exact hk
   ·left;rw[←hm2 k hkl];exact hk
  ·intro k hk h0;have hH:=hN k hk h0;by_cases hkl:k∈l
   ·rw[hm1 k hkl];exact hH
   ·rw[hm2 k hkl];exact hN' k (Nat.lt_of_lt_of_le hk hG.le.N) (by rw[hr1 k hkl];exact hH)) t ops.size (Array.replicate ops.size false) ρ Hr a w1 (S.pin Hp) hlex (h Hp Hr hp1 hr1 hp2 hr2) hSp hPp (hF1.keep (S.le_pin Hp) (fI.refl S w1)) (Grow.refl _ _) (dO.refl _ _) hd hn w1 (Rw.refl w1)
 exact this
end
end Go.Aw
end
section
set_option linter.unusedSectionVars false
namespace Go.Aw
open Go.RowKit
section
variable[Nail]{D:DT}{P:Program}{pv:Value}{Z:aC→Prop}{n:Nat}{S0:Sg}{w0:World}{H0:aC}{mt:Nat→Bool}{ops:Array Oper}{K:Env→aC→Prop}{ρ:Env}{H:aC}{a:Act}{w:World}{S:Sg}
theorem As(hops:∀o∈ops,gO n o=true){Q':Exit→Act→World→Prop}(hP:∀ch a w,DI D a→PW pv Z S0 w0 H0 ch w→Q' (.panic ch) a w)(hQ:∀ρ H a w,K ρ H→Rel D n S0 w0 H0 ρ H a w→Q' .normal a w):
  ∀(l:List Oper) (ρ:Env) (H:aC) (a:Act) (w:World),(∀o∈l,gO n o=true)→pY P (cQ P pv Z) (dE P) mt false ops K l ρ H→Rel D n S0 w0 H0 ρ H a w→wpList P ops Q' l a w
 | [],ρ,H,a,w,_,h,hR=>hQ ρ H a w h hR
 | o::rest,ρ,H,a,w,hl,h,hR=>by
  obtain⟨S,hS,hF,hG,hN,hd,hn⟩:=hR
  haveI:=fK (hl o (by simp))
  have he:=tR (K':=wpList P ops Q' rest) (Q':=Q') hops hS hF hG hN hd hn (hl o (by simp))
   (fun ρ' H' a' w' hk hr=>As hops hP hQ rest ρ' H' a' w' (fun o ho=>hl o (by simp[ho])) hk hr) hP h
  unfold wpList;by_cases hw:Region.wanted o (yielded ops a.tmps)=true
  ·rw[if_pos hw];exact .inl (he.1 hw)
  ·rw[if_neg hw];exact he.2 (by simpa using hw)
def Cls(S:Sg)(H:aC)(w1 w:World):Prop:=
 w.os=w1.os∧w.tape=w1.tape∧w.output=w1.output∧w1.heap.size≤w.heap.size∧∀k,k<w1.heap.size→w.heap[k]?=w1.heap[k]?
theorem Cls.st{w1:World}(hS:St S w1 H)(h:Cls S H w1 w):St S w H:=hS.after h.2.2.2.1 h.2.2.2.2
theorem Cls.grow{w1:World}(hS:St S w1 H)(h:Cls S H w1 w):Grow S w1 S w:=hS.grow h.1 h.2.1 h.2.2.1 h.2.2.2.1 h.2.2.2.2
theorem Cls.agree{w1:World}(hS:St S w1 H)(h:Cls S H w1 w):Agree S H w1 w:=
 ⟨(h.grow hS).kept hS,fun k r hk g hg=>h.2.2.2.2 g ((hS.rows k r hk).block_lt hg)⟩
theorem J0{P:Program}{o:Oper}{a:Act}{w w1:World}{v:Value}(hc:Cls S H w1 w)(h:o.quietAt P a (Rw w) w v):o.quietAt P a (Cls S H w1) w v:=by
 unfold Oper.quietAt at *;generalize (execOp a.eval o).run P w=r at *;cases r with
 | ok m w'=>
  cases m <;> simp only[Oper.quietUpon]at h ⊢
  case value u=>exact h
  case skip=>exact h
  case enter f args=>exact⟨h.1,h.2.mono fun e w2 ⟨he,p1,p2,p3,p4,p5⟩=>⟨he,p1.trans hc.1,p2.trans hc.2.1,p3.trans hc.2.2.1,Nat.le_trans hc.2.2.2.1 p4,fun k hk=>(p5 k (Nat.lt_of_lt_of_le hk hc.2.2.2.1)).trans (hc.2.2.2.2 k hk)⟩⟩
 | halt x w'=>simp only[Oper.quietUpon]at h
theorem BK{w1:World}(hops:∀o∈ops,gO n o=true)(hS:St S w1 H):∀(l:List Oper) (ρ:Env) (a:Act),(∀o∈l,gO n o=true)→pY P (cQ P pv Z) (dE P) mt true ops K l ρ H→FR S w1 ρ a→DI D a→a.tmps.size=n →
  wpQuiet P ops (Cls S H w1) (fun a'=>∃ρ',K ρ' H∧FR S w1 ρ' a'∧DI D a'∧a'.tmps.size=n) l a
 | [],ρ,a,_,h,hF,hd,hn=>⟨ρ,h,hF,hd,hn⟩
 | o::rest,ρ,a,hl,h,hF,hd,hn=>by
  haveI:=fK (hl o (by simp))
  obtain⟨z,hz,h1,h2⟩:=tT (CC:=Cls S H w1) (fun w hc=>⟨hc.st hS,hc.agree hS⟩) hops hS hF hn (hl o (by simp)) h;have next:∀v,rep S w1 z v→wpQuiet P ops (Cls S H w1) (fun a'=>∃ρ',K ρ' H∧FR S w1 ρ' a'∧DI D a'∧a'.tmps.size=n) rest (a.put o.dst v):=fun v hv=>BK hops hS rest _ _ (fun o ho=>hl o (by simp[ho])) hz (FR.put hF hv) (hd.put) (by rw[sC];exact hn)
  unfold wpQuiet;by_cases hw:Region.wanted o (yielded ops a.tmps)=true
  ·rw[if_pos hw];obtain⟨v,hv,hq⟩:=h1 hw;exact⟨v,fun w hc=>J0 hc (hq w hc),next v hv⟩
  ·rw[if_neg hw];exact next _ (h2 (by simpa using hw))
end
theorem rL{P:Program}{ops:Array Oper}{C:World→Prop}{Q Q':Act→Prop}(hq:∀a,Q a→Q' a):∀(l:List Oper) (a:Act),wpQuiet P ops C Q l a→wpQuiet P ops C Q' l a
 | [],a,h=>hq a h
 | o::rest,a,h=>by
  unfold wpQuiet at h ⊢;split
  ·rename_i hw;rw[if_pos hw]at h;exact Oper.quiet_mono (fun a' h'=>rL hq rest a' h') h
  ·rename_i hw;rw[if_neg hw]at h;exact rL hq rest _ h
def rR[Nail](n:Nat):Code→Bool
 | .region _ ops _=>ops.all (gO n)
 | .seq a b=>rR n a&&rR n b
 | .cond c a b=>opB n c&&(rR n a&&rR n b)
 | .block _ c=>rR n c
 | .loop c=>rR n c
 | .scope c=>rR n c
 | _=>true
def FK[Nail](pv:Value)(Z:aC→Prop)(D:DT)(n:Nat)(S0:Sg)(w0:World)(H0:aC)(Q:Ex→Env→aC→Prop):Exit→Act→World→Prop
 | .normal,a,w=>∃ρ H,Q .normal ρ H∧Rel D n S0 w0 H0 ρ H a w
 | .exit id,a,w=>∃ρ H,Q (.exit id) ρ H∧Rel D n S0 w0 H0 ρ H a w
 | .ret,a,w=>∃ρ H,Q .ret ρ H∧Rel D n S0 w0 H0 ρ H a w
 | .panic ch,a,w=>DI D a∧PW pv Z S0 w0 H0 ch w
 | _,_,_=>False
theorem gV[Nail]{D:DT}{P:Program}{pv:Value}{Z:aC→Prop}{n:Nat}{S0:Sg}{w0:World}{H0:aC}{mt:Nat→Bool}(hm:P.follows .mixedOrders=true):∀(c:Code) (Q:Ex→Env→aC→Prop) (ρ:Env) (H:aC) (a:Act) (w:World),rR n c=true →
  awp P (cQ P pv Z) (dE P) mt c Q ρ H→Rel D n S0 w0 H0 ρ H a w→c.wp P (FK pv Z D n S0 w0 H0 Q) a w
 | .skip,Q,ρ,H,a,w,_,h,hR=>wp_skip ⟨ρ,H,h,hR⟩
 | .region id ops false,Q,ρ,H,a,w,hb,h,hR=>by
  rw[BM]at h;have hops:∀o∈ops,gO n o=true:=fun o ho=>Array.all_eq_true_iff_forall_mem.1 hb o ho
  exact wp_region_list (As hops (fun ch a w hd hp=>⟨hd,hp⟩) (fun ρ H a w hk hr=>⟨ρ,H,hk,hr⟩) ops.toList ρ H a w (fun o ho=>hops o (Array.mem_toList_iff.1 ho)) h hR)
 | .region id ops true,Q,ρ,H,a,w,hb,h,hR=>by
  rw[Hl]at h;have hops:∀o∈ops,gO n o=true:=fun o ho=>Array.all_eq_true_iff_forall_mem.1 hb o ho
  rcases h with⟨_,hlex,h⟩|⟨hB,h⟩|⟨f,hB,h⟩|⟨l,t,hl,hB,h⟩
  ·obtain⟨S,hS,hF,hG,hN,hd,hn⟩:=hR
   let w1:World:={ w with drawn:=w.drawn+1 }
   have hS1:St S w1 H:=hS.after (Nat.le_refl _) fun _ _=>rfl
   have hg1:Grow S w S w1:=hS.grow rfl rfl rfl (Nat.le_refl _) fun _ _=>rfl
   have hF1:FR S w1 ρ a:=hF.keep S.le_refl (hg1.kept hS);refine wp_region_quiet (C:=Cls S H w1) hm hlex ⟨rfl,rfl,rfl,Nat.le_refl _,fun _ _=>rfl⟩ ?_;have:=BK hops hS1 ops.toList ρ a (fun o ho=>hops o (Array.mem_toList_iff.1 ho)) h hF1 hd hn;refine rL (fun a' ⟨ρ',hk,hF',hd',hn'⟩ w' hc=>?_) ops.toList a this;exact⟨ρ',H,hk,S,hc.st hS1,hF'.keep S.le_refl ((hc.grow hS1).kept hS1),hG.trans (hg1.trans (hc.grow hS1)),hN,hd',hn'⟩
  ·exact Jq hm hops hB h hR (fun ρ H a w hk hr=>⟨ρ,H,hk,hr⟩) fun ch a w hd hp=>⟨hd,hp⟩
  ·exact Nf hm hops hB h hR (fun ρ H a w hk hr=>⟨ρ,H,hk,hr⟩) fun ch a w hd hp=>⟨hd,hp⟩
  ·exact JL hm hops hl hB h hR (fun ρ H a w hk hr=>⟨ρ,H,hk,hr⟩) fun ch a w hd hp=>⟨hd,hp⟩
 | .seq c d,Q,ρ,H,a,w,hb,h,hR=>by
  simp only[rR,Bool.and_eq_true]at hb;rw[KW]at h;refine wp_seq (wp_mono (gV hm c _ ρ H a w hb.1 h hR) fun e a' w' hq=>?_);cases e <;> simp only[FK,Exit.then]at hq ⊢
  case normal=>obtain⟨ρ',H',hk,hr⟩:=hq;exact gV hm d Q ρ' H' a' w' hb.2 hk hr
  case exit id=>exact hq
  case ret=>exact hq
  case panic ch=>exact hq
 | .cond c x y,Q,ρ,H,a,w,hb,h,hR=>by
  simp only[rR,Bool.and_eq_true]at hb;rw[HA]at h;unfold rX at h;split at h
  ·rename_i t ht;obtain⟨S,hS,hF,hG,hN,hd,hn⟩:=hR;have e:=cL hF (x:=c) (hn▸hb.1);rw[ht]at e;simp only[rep]at e;have hR:Rel D n S0 w0 H0 ρ H a w:=⟨S,hS,hF,hG,hN,hd,hn⟩;exact wp_cond_split e (fun ht=>gV hm x Q ρ H a w hb.2.1 (h.1 ht) hR) (fun ht=>gV hm y Q ρ H a w hb.2.2 (h.2 ht) hR)
  ·exact h.elim
 | .block id c,Q,ρ,H,a,w,hb,h,hR=>by
  rw[Db]at h;refine wp_block (wp_mono (gV hm c _ ρ H a w hb h hR) fun e a' w' hq=>?_);cases e <;> simp only[FK,Exit.inBlock]at hq ⊢
  case normal=>exact hq
  case ret=>exact hq
  case panic ch=>exact hq
  case exit i=>
   obtain⟨ρ',H',hk,hr⟩:=hq;simp only[Ex.blk]at hk;by_cases e:i=id
   ·rw[if_pos e]at hk ⊢;exact⟨ρ',H',hk,hr⟩
   ·rw[if_neg e]at hk ⊢;exact⟨ρ',H',hk,hr⟩
 | .loop c,Q,ρ,H,a,w,hb,h,hR=>by
  rw[I0]at h;obtain⟨I,μ,h0,hround⟩:=h;refine wp_loop_ghost (fun m a w=>∃ρ H,I ρ H∧μ ρ H=m∧Rel D n S0 w0 H0 ρ H a w) (μ ρ H) ⟨ρ,H,h0,rfl,hR⟩ ?_;rintro m a' w' ⟨ρ',H',hI,rfl,hR'⟩;refine wp_mono (gV hm c _ ρ' H' a' w' hb (hround ρ' H' hI) hR') fun e a2 w2 hq=>?_
  cases e <;> simp only[FK,Exit.then]at hq ⊢
  case normal=>obtain⟨ρ2,H2,⟨hk,hlt⟩,hr⟩:=hq;exact⟨_,hlt,ρ2,H2,hk,rfl,hr⟩
  case exit id=>exact hq
  case ret=>exact hq
  case panic ch=>exact hq
 | .exit id,Q,ρ,H,a,w,_,h,hR=>wp_exit ⟨ρ,H,h,hR⟩
 | .ret,Q,ρ,H,a,w,_,h,hR=>wp_ret ⟨ρ,H,h,hR⟩
 | .rangeFunc ..,_,_,_,_,_,_,h,_=>by simp[awp]at h
 | .scope c,Q,ρ,H,a,w,hb,h,hR=>by
  rw[DS]at h;refine wp_scope_straight (wp_mono (gV hm c _ ρ H a w hb h hR) fun e a' w' hq=>?_);cases e <;> simp only[FK,Exit.noGoto]at hq ⊢
  case normal=>exact hq
  case exit id=>exact hq
  case ret=>exact hq
  case panic ch=>exact hq
 | .label _,Q,ρ,H,a,w,_,h,hR=>wp_label ⟨ρ,H,h,hR⟩
 | .goto _,_,_,_,_,_,_,h,_=>by simp[awp]at h
 | .refuse _,_,_,_,_,_,_,h,_=>by simp[awp]at h
def uK(P:Program)(ρ:Env)(H:aC):List ResultVar→(List AV→Prop)→Prop
 | [],K=>K []
 | .tmp t::r,K=>uK P ρ H r fun l=>K (ρ t::l)
 | .cell t ty::r,K=>match ldT P ty with
   | some l=>kE none H l (ρ t) fun x=>uK P ρ H r fun xs=>K (x::xs)
   | none=>False
def AS(R:AV→Prop):List AV→Prop
 | [x]=>R x
 | l=>R (.tup l)
def A0(P:Program)(rs:List ResultVar)(R:AV→aC→Prop):Ex→Env→aC→Prop
 | .exit _,_,_=>False
 | _,ρ,H=>uK P ρ H rs (AS fun x=>R x H)
def Ou(n:Nat):ResultVar→Bool
 | .tmp t=>decide (t<n)
 | .cell t _=>decide (t<n)
def pT(fn:Func)(c:Code)(m:Nat):Bool:=@rR ⟨fn.ntmps⟩ fn.ntmps c&&fn.results.toList.all (Ou fn.ntmps)&&decide (m≤fn.ntmps)
section
variable{P:Program}{S:Sg}{H:aC}{w:World}{ρ:Env}{a:Act}
theorem Ei{G:Option Bool}{l:Option Nat}{x:AV}{K:AV→Prop}(h:kE G H l x K){u:Value}(hu:rep S w x u):∃ad,u=.pointer (some ad):=by
 unfold kE at h;split at h
 ·simp only[rep]at hu;obtain⟨b,o,rfl,_⟩:=hu;exact⟨_,rfl⟩
 ·simp only[rep]at hu;obtain⟨_,g,m,c,_,rfl⟩:=hu;exact⟨_,rfl⟩
 ·exact h.elim
def Bt(tmps:Array Value):ResultVar→Sem Value
 | .tmp t=>pure (tmps.getD t undef)
 | .cell b t=>do loadVar t (←asAddr (tmps.getD b undef))
theorem vO(fn:Func)(tmps:Array Value):results fn tmps=(do
  let vs ←fn.results.mapM (Bt tmps)
  pure (if h:vs.size=1 then vs[0]else .tuple vs)):=by
 unfold results
 congr 1
theorem mD(hH:pC S w H)(hF:FR S w ρ a):∀(rs:List ResultVar) (K:List AV→Prop),(∀r∈rs,Ou a.tmps.size r=true)→uK P ρ H rs K →
  ∃l vs,K l∧(rs.mapM (Bt a.tmps)).run P w=.ok vs w∧aV S w l vs
 | [],K,_,h=>⟨[],[],h,by simp,by simp[aV]⟩
 | .tmp t::r,K,hb,h=>by
  simp only[uK]at h;obtain⟨l,vs,h1,h2,h3⟩:=mD hH hF r _ (fun x hx=>hb x (by simp[hx])) h;have ht:t<a.tmps.size:=by simpa[Ou]using hb (.tmp t) (by simp)
  refine⟨_,a.tmps.getD t undef::vs,h1,?_,?_⟩
  ·rw[List.mapM_cons];simp only[Bt,Sem.run_bind,Sem.run_pure,Result.andThen_ok];rw[h2];rfl
  ·simp only[aV];exact⟨_,_,rfl,hF t ht,h3⟩
 | .cell t ty::r,K,hb,h=>by
  simp only[uK]at h;split at h
  ·rename_i l hl;have ht:t<a.tmps.size:=by simpa[Ou]using hb (.cell t ty) (by simp)
   obtain⟨z,hz,hd⟩:=zE (S:=S) (w:=w) hl hH h;obtain⟨v,hv,hrun⟩:=hd trivial _ (hF t ht);obtain⟨ad,e⟩:=Ei h (hF t ht);have hrun':=hrun w (Agree.refl S H w);rw[e]at hrun';simp only[Instr.loadAt,Instr.sureAddr,pure_bind]at hrun';obtain⟨l',vs,h1,h2,h3⟩:=mD hH hF r _ (fun x hx=>hb x (by simp[hx])) hz;refine⟨_,v::vs,h1,?_,?_⟩
   ·have ha:(asAddr (a.tmps.getD t undef)).run P w=.ok ad w:=by rw[e];rfl
    rw[List.mapM_cons];simp only[Bt,Sem.run_bind,ha,Sem.run_pure,Result.andThen_ok,hrun'];rw[h2];rfl
   ·simp only[aV];exact⟨_,_,rfl,hv,h3⟩
  ·exact h.elim
theorem cQ.body{pv:Value}{Z:aC→Prop}{f:FuncId}{fn:Func}{c:Code}{args:List AV}{R:AV→aC→Prop}(mt:Nat→Bool)(hm:P.follows .mixedOrders=true)(hf:P.funcs[f]?=some fn)(hb:fn.body=some c)(hc:pT fn c args.length=true)
  (h:awp P (cQ P pv Z) (dE P) mt c (A0 P fn.results.toList R) (uY args) H):cQ P pv Z f args H R:=by
 intro S w vals hS ha;simp only[pT,Bool.and_eq_true,decide_eq_true_eq]at hc;obtain⟨⟨hcode,hres⟩,hlen⟩:=hc
 letI:Nail:=⟨fn.ntmps⟩
 have hvl:=eL _ _ ha;refine calls_of_wp hf hb (wp_mono (gV (pv:=pv) (Z:=Z) (n:=fn.ntmps) (S0:=S) (w0:=w) (H0:=H) (D:=([],undef)) hm c _ _ H _ w hcode h ⟨S,hS,?_,Grow.refl S w,dO.refl _ _,⟨rfl,?_⟩,?_⟩) ?_)
 ·intro t ht;by_cases e:t<args.length
  ·obtain⟨u,h1,h2⟩:=sZ args vals t ha e;have hu:(vals.toArray++Array.replicate (fn.ntmps-vals.toArray.size) undef).getD t undef=u:=by
    have hlt:t<vals.length:=by omega
    have:vals[t]=u:=by rw[List.getElem?_eq_getElem hlt]at h1;injection h1
    simp[Array.getD_eq_getD_getElem?,Array.getElem?_append,hlt,this]
   simp only[uY];rw[hu];exact h2
  ·simp only[uY,List.getD,List.getElem?_eq_none (by omega:args.length≤t),Option.getD_none];simp only[rep]
 ·show Array.getD _ fn.ntmps undef=undef;rw[Array.getD_eq_getD_getElem?,Array.getElem?_eq_none]
  ·rfl
  ·simp only[Array.size_append,List.size_toArray,Array.size_replicate,hvl];omega
 ·simp only[Array.size_append,List.size_toArray,Array.size_replicate,hvl];omega
 ·intro e a' w' hq;have fin:∀ρ' H',uK P ρ' H' fn.results.toList (AS fun x=>R x H')→Rel ([],undef) fn.ntmps S w H ρ' H' a' w'→a'.defers=[]∧∃v,(results fn a'.tmps).run P w'=.ok v w'∧(FQ S w H R (.returned v) w'∨NT pv Z S w H (.returned v) w'):=by
   rintro ρ' H' h1 ⟨S',hS',hF',hG',hN',hd',hn'⟩;refine⟨hd'.1,?_⟩;obtain⟨l,vs,h2,h3,h4⟩:=mD (P:=P) hS'.rows hF' fn.results.toList _ (fun r hr=>by rw[hn'];exact List.all_eq_true.1 hres r hr) h1;have hr:(results fn a'.tmps).run P w'=.ok (if h:vs.toArray.size=1 then vs.toArray[0]else .tuple vs.toArray) w':=by rw[vO,Array.mapM_eq_mapM_toList];simp only[Sem.run_bind,Sem.run_map];rw[h3];simp only[Result.andThen_ok,Sem.run_pure]
   refine⟨_,hr,.inl ?_⟩;unfold AS at h2;split at h2
   ·rename_i x;simp only[aV]at h4;obtain⟨u,t,rfl,h5,rfl⟩:=h4;exact⟨_,x,H',S',rfl,h2,hS',by simpa using h5,hG',hN'⟩
   ·rename_i hne;have hvs:=eL _ _ h4;have h1':¬vs.toArray.size=1:=by
     intro e;have:l.length=1:=by rw[←hvs];simpa using e
     match l,this with
     | [x],_=>exact hne x rfl
    rw[dif_neg h1'];exact⟨_,_,H',S',rfl,h2,hS',by simp only[rep];exact⟨vs,rfl,h4⟩,hG',hN'⟩
  cases e <;> simp only[FK,bodyPost]at hq ⊢
  case normal=>obtain⟨ρ',H',h1,h2⟩:=hq;exact fin ρ' H' h1 h2
  case ret=>obtain⟨ρ',H',h1,h2⟩:=hq;exact fin ρ' H' h1 h2
  case exit id=>obtain⟨ρ',H',h1,h2⟩:=hq;exact h1.elim
  case panic ch=>obtain⟨hd,rfl,S',H',h1,h2,h3,h4⟩:=hq;exact⟨hd.1,.inr ⟨H',S',rfl,h1,h2,h3,h4⟩⟩
theorem cK.body{f:FuncId}{fn:Func}{c:Code}{args:List AV}{R:AV→aC→Prop}(mt:Nat→Bool)(hm:P.follows .mixedOrders=true)(hf:P.funcs[f]?=some fn)(hb:fn.body=some c)(hc:pT fn c args.length=true)
  (h:awp P (cK P) (dE P) mt c (A0 P fn.results.toList R) (uY args) H):cK P f args H R:=by
 rw[←IW P undef]at h ⊢;exact cQ.body mt hm hf hb hc h
theorem RC.body{f:FuncId}{fn:Func}{c:Code}{args:List AV}{R:AV→aC→Prop}(mt:Nat→Bool)(hm:P.follows .mixedOrders=true)(hf:P.funcs[f]?=some fn)(hb:fn.body=some c)(hc:pT fn c args.length=true)
 (h:awp P (cK P) (dE P) mt c (A0 P fn.results.toList R) (uY args) bV):RC P f args R:=fun S w vals hS _ ha=>cK.body mt hm hf hb hc h S w vals hS ha
theorem PC.body{f:FuncId}{fn:Func}{c:Code}{args:List AV}{r:AV}(mt:Nat→Bool)(hm:P.follows .mixedOrders=true)(hf:P.funcs[f]?=some fn)(hb:fn.body=some c)(hc:pT fn c args.length=true)
 (h:awp P (cK P) (dE P) mt c (A0 P fn.results.toList fun x H'=>Conv H' x r) (uY args) bV):PC P f args r:=RC.conv (RC.body mt hm hf hb hc h)
theorem NC.body{f:FuncId}{fn:Func}{c:Code}{args:List AV}{row:Row}{mk:Nat→AV}(mt:Nat→Bool)(hm:P.follows .mixedOrders=true)(hf:P.funcs[f]?=some fn)(hb:fn.body=some c)(hc:pT fn c args.length=true)
 (h:awp P (cK P) (dE P) mt c (A0 P fn.results.toList fun x H'=>∃k,x=mk k∧H' k=some row) (uY args) bV):NC P f args row mk:=RC.body mt hm hf hb hc h
theorem PC.q{f:FuncId}{args:List AV}{r:AV}(h:PC P f args r)(hf:(fv r).isSome=true):dE P f args H r:=.inl ⟨args,ConvL.refl args,h,hf⟩
theorem PC.qn{f:FuncId}{args:List AV}{r:AV}(h:PC P f args r):dE P f args H (.nf r):=.inr ⟨r,rfl,h⟩
end
end Go.Aw
end
section
namespace Go.Proofs.YthbiheckeoknlaaGreatDoor.Ty
open Go.Aw Go.Proofs
theorem gX{P:Program}{t:TypeId}(h:(P.info? t).map (·.size)=some 1):∃i,P.info? t=some i∧i.size=1:=by
 cases hi:P.info? t with
 | none=>simp[hi]at h
 | some i=>exact⟨i,rfl,by simpa[hi]using h⟩
theorem mixed:Tryz.prog.follows .mixedOrders=true:=by kernel_rfl
theorem NB:pI Tryz.prog 183=some [0,0,0]:=by kernel_rfl
theorem Tg:cM Tryz.prog 80=some (84,2,24):=by kernel_rfl
theorem NS:FS Tryz.prog 178=some (9,4):=by kernel_rfl
theorem N1:FS Tryz.prog 179=some (183,4):=by kernel_rfl
theorem so3:∃i,Tryz.prog.info? 3=some i∧i.size=1:=gX (by kernel_rfl)
theorem so4:∃i,Tryz.prog.info? 4=some i∧i.size=1:=gX (by kernel_rfl)
theorem so9:∃i,Tryz.prog.info? 9=some i∧i.size=1:=gX (by kernel_rfl)
theorem NE:∃i,Tryz.prog.info? 23=some i∧i.size=1:=gX (by kernel_rfl)
theorem Sv:∃i,Tryz.prog.info? 24=some i∧i.size=1:=gX (by kernel_rfl)
theorem QL:∃i,Tryz.prog.info? 27=some i∧i.size=1:=gX (by kernel_rfl)
theorem QR:∃i,Tryz.prog.info? 28=some i∧i.size=1:=gX (by kernel_rfl)
theorem EU:∃i,Tryz.prog.info? 29=some i∧i.size=1:=gX (by kernel_rfl)
theorem Te:∃i,Tryz.prog.info? 32=some i∧i.size=1:=gX (by kernel_rfl)
theorem RS:∃i,Tryz.prog.info? 38=some i∧i.size=1:=gX (by kernel_rfl)
theorem Cs:∃i,Tryz.prog.info? 60=some i∧i.size=1:=gX (by kernel_rfl)
theorem ND:∃i,Tryz.prog.info? 105=some i∧i.size=1:=gX (by kernel_rfl)
theorem PR:∃i,Tryz.prog.info? 180=some i∧i.size=1:=gX (by kernel_rfl)
open Go.Proofs.Tryz(prog)
theorem To:yN prog 3=some .i64∧yN prog 5=some .u8∧dG prog 9=true∧yN prog 21=some .i32∧xM prog 159=true∧pI prog 62=some [0,0,0,0]∧pI prog 114=some [0,0]∧aT prog 26 0=some (0,none)∧aT prog 26 1=some (1,none)∧aT prog 31 0=some (0,some 2)∧aT prog 31 1=some (2,none)∧aT prog 31 2=some (3,none)∧aT prog 31 3=some (4,none)∧aT prog 31 4=some (5,none)∧aT prog 34 0=some (0,some 6)∧aT prog 34 1=some (6,none)∧aT prog 40 0=some (0,some 6)∧aT prog 40 1=some (6,none)∧aT prog 50 0=some (0,none)∧aT prog 50 1=some (1,none)∧aT prog 53 0=some (0,none)∧aT prog 53 1=some (1,none)∧aT prog 53 2=some (2,none)∧aT prog 62 0=some (0,none)∧aT prog 62 1=some (1,none)∧aT prog 62 2=some (2,none)∧aT prog 62 3=some (3,none)∧aT prog 64 0=some (0,none)∧aT prog 64 1=some (1,none)∧aT prog 64 2=some (2,some 4)∧aT prog 64 3=some (6,some 4)∧aT prog 64 4=some (10,none)∧aT prog 64 5=some (11,none)∧aT prog 64 6=some (12,none)∧aT prog 64 7=some (13,none)∧aT prog 64 8=some (14,none)∧aT prog 64 9=some (15,none)∧aT prog 66 0=some (0,none)∧aT prog 66 1=some (1,none)∧aT prog 66 2=some (2,none):=by and_intros<;>kernel_rfl
theorem Tk:aT prog 66 3=some (3,none)∧aT prog 66 4=some (4,none)∧aT prog 66 5=some (5,some 16)∧aT prog 71 0=some (0,none)∧aT prog 71 1=some (1,none)∧aT prog 71 2=some (2,some 21)∧aT prog 84 0=some (0,none)∧aT prog 84 1=some (1,none)∧aT prog 107 0=some (0,none)∧aT prog 107 1=some (1,none)∧aT prog 107 2=some (2,none)∧aT prog 107 3=some (3,none)∧aT prog 107 4=some (4,none)∧aT prog 107 5=some (5,none)∧aT prog 112 0=some (0,none)∧aT prog 112 1=some (1,none)∧aT prog 112 2=some (2,none)∧aT prog 112 3=some (3,none)∧aT prog 112 4=some (4,none)∧aT prog 112 5=some (5,none)∧aT prog 112 6=some (6,none)∧aT prog 112 7=some (7,none)∧aT prog 112 8=some (8,none)∧aT prog 112 9=some (9,none)∧aT prog 112 10=some (10,none)∧aT prog 112 11=some (11,none)∧aT prog 112 12=some (12,none)∧aT prog 112 13=some (13,none)∧aT prog 131 0=some (0,none)∧aT prog 157 0=some (0,none)∧aT prog 157 1=some (1,none)∧cM prog 23=some (9,1,16)∧dY prog 23=true∧cM prog 24=some (107,6,80)∧dY prog 24=true∧cM prog 27=some (112,14,136)∧dY prog 27=true∧cM prog 28=some (64,16,152)∧dY prog 28=true∧cM prog 29=some (114,2,16):=by and_intros<;>kernel_rfl
theorem Td:dY prog 29=true∧cM prog 32=some (68,23,208)∧dY prog 32=true∧cM prog 38=some (71,23,208)∧dY prog 38=true∧cM prog 51=some (50,2,16)∧dY prog 51=true∧cM prog 60=some (3,1,8)∧dY prog 60=true∧dY prog 80=true∧cM prog 105=some (157,2,16)∧dY prog 105=true∧Af prog 114=some (2,1,none)∧cM prog 159=some (5,1,1)∧cM prog 176=some (80,1,24)∧dY prog 176=true∧cM prog 180=some (35,1,8)∧dY prog 180=true∧Af prog 241=some (6,1,none)∧ldT prog 3=some none∧ldT prog 4=some none∧ldT prog 9=some none∧ldT prog 23=some none∧ldT prog 24=some none∧ldT prog 26=some (some 2)∧ldT prog 27=some none∧ldT prog 28=some none∧ldT prog 29=some none∧ldT prog 31=some (some 6)∧ldT prog 32=some none∧ldT prog 34=some (some 7)∧ldT prog 35=some none∧ldT prog 38=some none∧ldT prog 40=some (some 7)∧ldT prog 50=some (some 2)∧ldT prog 51=some none∧ldT prog 60=some none∧ldT prog 62=some (some 4)∧ldT prog 64=some (some 16)∧ldT prog 66=some (some 21):=by and_intros<;>kernel_rfl
theorem SG:ldT prog 68=some (some 23)∧ldT prog 71=some (some 23)∧ldT prog 80=some none∧ldT prog 84=some (some 2)∧ldT prog 105=some none∧ldT prog 107=some (some 6)∧ldT prog 112=some (some 14)∧ldT prog 114=some (some 2)∧ldT prog 157=some (some 2)∧ldT prog 180=some none∧ldT prog 183=some (some 3)∧ldT prog 241=some (some 6)∧eU prog 31=some [(0,2),(2,1),(3,1),(4,1),(5,1)]∧eU prog 34=some [(0,6),(6,1)]∧eU prog 40=some [(0,6),(6,1)]∧eU prog 50=some [(0,1),(1,1)]∧eU prog 53=some [(0,1),(1,1),(2,1)]∧eU prog 62=some [(0,1),(1,1),(2,1),(3,1)]∧eU prog 64=some [(0,1),(1,1),(2,4),(6,4),(10,1),(11,1),(12,1),(13,1),(14,1),(15,1)]∧eU prog 66=some [(0,1),(1,1),(2,1),(3,1),(4,1),(5,16)]∧eU prog 68=some [(0,1),(1,1),(2,21)]∧eU prog 71=some [(0,1),(1,1),(2,21)]∧eU prog 84=some [(0,1),(1,1)]∧eU prog 107=some [(0,1),(1,1),(2,1),(3,1),(4,1),(5,1)]∧eU prog 112=some [(0,1),(1,1),(2,1),(3,1),(4,1),(5,1),(6,1),(7,1),(8,1),(9,1),(10,1),(11,1),(12,1),(13,1)]∧eU prog 114=some [(0,1),(1,1)]∧eU prog 131=some [(0,1)]∧eU prog 157=some [(0,1),(1,1)]∧eU prog 183=some [(0,1),(1,1),(2,1)]∧eU prog 241=some [(0,1),(1,1),(2,1),(3,1),(4,1),(5,1)]∧eC prog 3=some [.v (.int .i64 0)]∧eC prog 5=some [.v (.int .u8 0)]∧kT prog 31=some [(0,9,1),(1,107,6),(2,112,14),(3,64,16),(4,114,2),(5,114,2)]∧eC prog 31=some [.sl [],.sl [],.sl [],.sl [],.sl [],.sl []]∧kT prog 34=some [(0,9,1),(1,107,6),(2,112,14),(3,64,16),(4,114,2),(5,114,2),(6,68,23)]∧eC prog 34=some [.sl [],.sl [],.sl [],.sl [],.sl [],.sl [],.sl []]∧kT prog 40=some [(0,9,1),(1,107,6),(2,112,14),(3,64,16),(4,114,2),(5,114,2),(6,71,23)]∧eC prog 40=some [.sl [],.sl [],.sl [],.sl [],.sl [],.sl [],.sl []]∧eC prog 50=some [.v (.int .i64 0),.v (.int .i64 0)]∧eC prog 53=some [.v (.int .i64 0),.v (.int .i64 0),.sl []]:=by and_intros<;>kernel_rfl
theorem SK:eC prog 62=some [.v (.int .i64 0),.v (.int .i64 0),.v (.int .i64 0),.v (.int .i64 0)]∧kT prog 64=some [(1,3,1)]∧eC prog 64=some [.v (.string ByteArray.empty),.sl [],.v (.int .i64 0),.v (.int .i64 0),.v (.int .i64 0),.v (.int .i64 0),.v (.int .i64 0),.v (.int .i64 0),.v (.int .i64 0),.v (.int .i64 0),.v (.int .i64 0),.v (.int .i64 0),.v (.int .i64 0),.v (.int .i64 0),.v (.int .i64 0),.v (.bool false)]∧eC prog 66=some [.v (.int .i64 0),.v (.int .i64 0),.v (.int .i64 0),.v (.int .i64 0),.v (.int .i64 0),.v (.string ByteArray.empty),.sl [],.v (.int .i64 0),.v (.int .i64 0),.v (.int .i64 0),.v (.int .i64 0),.v (.int .i64 0),.v (.int .i64 0),.v (.int .i64 0),.v (.int .i64 0),.v (.int .i64 0),.v (.int .i64 0),.v (.int .i64 0),.v (.int .i64 0),.v (.int .i64 0),.v (.bool false)]∧eC prog 68=some [.v (.int .i64 0),.v (.int .i64 0),.v (.int .i64 0),.v (.int .i64 0),.v (.int .i64 0),.v (.int .i64 0),.v (.int .i64 0),.v (.string ByteArray.empty),.sl [],.v (.int .i64 0),.v (.int .i64 0),.v (.int .i64 0),.v (.int .i64 0),.v (.int .i64 0),.v (.int .i64 0),.v (.int .i64 0),.v (.int .i64 0),.v (.int .i64 0),.v (.int .i64 0),.v (.int .i64 0),.v (.int .i64 0),.v (.int .i64 0),.v (.bool false)]∧eC prog 71=some [.v (.int .i64 0),.v (.int .i64 0),.v (.int .i64 0),.v (.int .i64 0),.v (.int .i64 0),.v (.int .i64 0),.v (.int .i64 0),.v (.string ByteArray.empty),.sl [],.v (.int .i64 0),.v (.int .i64 0),.v (.int .i64 0),.v (.int .i64 0),.v (.int .i64 0),.v (.int .i64 0),.v (.int .i64 0),.v (.int .i64 0),.v (.int .i64 0),.v (.int .i64 0),.v (.int .i64 0),.v (.int .i64 0),.v (.int .i64 0),.v (.bool false)]∧eC prog 84=some [.v (.int .i64 0),.v (.string ByteArray.empty)]∧eC prog 107=some [.v (.int .i64 0),.v (.int .i64 0),.v (.int .i64 0),.v (.int .i64 0),.sl [],.sl []]∧eC prog 112=some [.v (.string ByteArray.empty),.v (.int .i64 0),.v (.int .i64 0),.v (.int .i64 0),.sl [],.v (.int .i64 0),.v (.int .i64 0),.v (.int .i64 0),.v (.int .i64 0),.v (.int .i64 0),.v (.int .i64 0),.v (.int .i64 0),.v (.int .i64 0),.v (.int .i64 0)]∧eC prog 114=some [.v (.int .i64 0),.v (.int .i64 0)]∧eC prog 131=some [.sl []]∧eC prog 157=some [.v (.int .i64 0),.v (.int .i64 0)]∧kT prog 180=some [(0,35,1)]∧eC prog 180=some [.sl []]∧eC prog 183=some [.v (.int .i64 0),.v (.int .i64 0),.v (.int .i64 0)]∧eC prog 241=some [.v (.string ByteArray.empty),.v (.string ByteArray.empty),.v (.string ByteArray.empty),.v (.string ByteArray.empty),.v (.string ByteArray.empty),.v (.string ByteArray.empty)]∧aF prog 4=true∧aF prog 5=true∧aF prog 6=true∧aF prog 7=true∧aF prog 8=true∧aF prog 9=true∧aF prog 10=true∧aF prog 11=true∧aF prog 12=true∧aF prog 13=true∧aF prog 14=true∧aF prog 15=true∧aF prog 16=true∧aF prog 17=true∧aF prog 18=true∧aF prog 19=true∧aF prog 20=true∧aF prog 21=true∧aF prog 22=true∧aF prog 25=true∧aF prog 26=true∧aF prog 30=true∧aF prog 31=true∧aF prog 32=true:=by and_intros<;>kernel_rfl
theorem SC:aF prog 34=true∧aF prog 35=true∧aF prog 36=true∧aF prog 37=true∧aF prog 38=true∧aF prog 39=true∧aF prog 40=true∧aF prog 41=true∧aF prog 42=true∧aF prog 43=true∧aF prog 44=true∧aF prog 45=true∧aF prog 46=true∧aF prog 47=true∧aF prog 48=true∧aF prog 49=true∧aF prog 50=true∧aF prog 51=true∧aF prog 52=true∧aF prog 53=true∧aF prog 54=true∧aF prog 55=true∧aF prog 56=true∧aF prog 63=true∧aF prog 64=true∧aF prog 65=true∧aF prog 66=true∧aF prog 67=true∧aF prog 68=true∧aF prog 69=true∧aF prog 70=true∧aF prog 71=true∧aF prog 72=true∧aF prog 73=true∧aF prog 74=true∧aF prog 75=true∧aF prog 77=true∧aF prog 78=true∧aF prog 79=true∧aF prog 80=true:=by and_intros<;>kernel_rfl
theorem RT:aF prog 81=true∧aF prog 82=true∧aF prog 83=true∧aF prog 84=true∧aF prog 85=true∧aF prog 86=true∧aF prog 87=true∧aF prog 88=true∧aF prog 89=true∧aF prog 90=true∧aF prog 91=true∧aF prog 92=true∧aF prog 93=true∧aF prog 94=true∧aF prog 95=true∧aF prog 96=true∧aF prog 97=true∧aF prog 98=true∧aF prog 99=true∧aF prog 100=true∧aF prog 101=true∧aF prog 102=true∧aF prog 103=true∧aF prog 104=true∧aF prog 105=true∧aF prog 121=true∧aF prog 122=true∧aF prog 123=true∧aF prog 124=true∧aF prog 125=true∧aF prog 126=true∧aF prog 127=true∧aF prog 128=true∧aF prog 129=true∧aF prog 130=true∧aF prog 131=true∧aF prog 132=true∧aF prog 133=true∧aF prog 136=true∧aF prog 137=true:=by and_intros<;>kernel_rfl
theorem Sf:aF prog 138=true∧aF prog 139=true∧aF prog 140=true∧aF prog 141=true∧aF prog 142=true∧aF prog 143=true∧aF prog 144=true∧aF prog 148=true∧aF prog 149=true∧aF prog 150=true∧aF prog 151=true∧aF prog 152=true∧aF prog 153=true∧aF prog 154=true∧aF prog 155=true∧aF prog 156=true∧aF prog 157=true∧aF prog 158=true∧aF prog 159=true∧aF prog 160=true∧aF prog 161=true∧aF prog 162=true∧aF prog 163=true∧aF prog 178=true∧aF prog 179=true∧aF prog 180=true∧aF prog 181=true∧aF prog 182=true∧aF prog 183=true∧aF prog 184=true∧aF prog 186=true∧aF prog 187=true∧aF prog 188=true∧aF prog 190=true∧aF prog 191=true∧aF prog 192=true∧aF prog 193=true∧aF prog 194=true∧aF prog 195=true∧aF prog 196=true:=by and_intros<;>kernel_rfl
theorem Sr:aF prog 197=true∧aF prog 198=true∧aF prog 204=true∧aF prog 205=true∧aF prog 206=true∧aF prog 207=true∧aF prog 208=true∧aF prog 209=true∧aF prog 210=true∧aF prog 211=true∧aF prog 212=true∧aF prog 238=true∧aF prog 239=true∧aF prog 240=true∧aF prog 241=true∧aF prog 242=true∧aF prog 243=true∧aF prog 245=true∧aF prog 246=true∧aF prog 289=true:=by and_intros<;>kernel_rfl
attribute [go_sem] NB Tg NS N1 so3 so4 so9 NE Sv QL QR EU Te RS Cs ND PR To Tk Td SG SK SC RT Sf Sr
end Go.Proofs.YthbiheckeoknlaaGreatDoor.Ty
end
section
namespace Go.Aw.D
open Go.Aw
def aY(n:Int):List AV:=[.v (.int .i64 n)]
def bE(s:ByteArray):List AV:=[.v (.string s)]
theorem J8(x:Int):(aY x).length=1:=rfl
theorem Pc(x:Int):(aY x).getD 0 .any=.v (.int .i64 x):=rfl
theorem JT(x:ByteArray):(bE x).length=1:=rfl
theorem Oa(x:ByteArray):(bE x).getD 0 .any=.v (.string x):=rfl
structure Point where
 t:Int
 a:Int
 deriving DecidableEq
def bL(x:Point):List AV:=[.v (.int .i64 x.t),.v (.int .i64 x.a)]
theorem kK(x:Point):(bL x).length=2:=rfl
theorem Jf(x:Point):(bL x).getD 0 .any=.v (.int .i64 x.t):=rfl
theorem JF(x:Point):(bL x).getD 1 .any=.v (.int .i64 x.a):=rfl
theorem EM(x:Point):(bL x).take 2=bL x:=rfl
structure Arc where
 src:Int
 dst:Int
 profile:Int
 miles:Int
 travel:List Point
 slow:List Point
 deriving DecidableEq
def eF(x:Arc):List AV:=[.v (.int .i64 x.src),.v (.int .i64 x.dst),.v (.int .i64 x.profile),.v (.int .i64 x.miles),.sl (x.travel.map bL),.sl (x.slow.map bL)]
theorem qB(x:Arc):(eF x).length=6:=rfl
theorem PT(x:Arc):(eF x).getD 0 .any=.v (.int .i64 x.src):=rfl
theorem NW(x:Arc):(eF x).getD 1 .any=.v (.int .i64 x.dst):=rfl
theorem OP(x:Arc):(eF x).getD 2 .any=.v (.int .i64 x.profile):=rfl
theorem Pi(x:Arc):(eF x).getD 3 .any=.v (.int .i64 x.miles):=rfl
theorem NU(x:Arc):(eF x).getD 4 .any=.sl (x.travel.map bL):=rfl
theorem Oj(x:Arc):(eF x).getD 5 .any=.sl (x.slow.map bL):=rfl
theorem Kp(x:Arc):(eF x).take 6=eF x:=rfl
structure Network where
 places:List ByteArray
 arcs:List Arc
 deriving DecidableEq
def aN(x:Network):List AV:=[.sl (x.places.map bE),.sl (x.arcs.map eF)]
theorem AU(x:Network):(aN x).length=2:=rfl
theorem Fz(x:Network):(aN x).getD 0 .any=.sl (x.places.map bE):=rfl
theorem EF(x:Network):(aN x).getD 1 .any=.sl (x.arcs.map eF):=rfl
theorem A9(x:Network):(aN x).take 2=aN x:=rfl
structure VType where
 name:ByteArray
 count:Int
 src:Int
 dst:Int
 cap:List Int
 skills:Int
 profile:Int
 start:Int
 close:Int
 drive:Int
 rest:Int
 fixed:Int
 perMile:Int
 perTick:Int
 deriving DecidableEq
def aX(x:VType):List AV:=[.v (.string x.name),.v (.int .i64 x.count),.v (.int .i64 x.src),.v (.int .i64 x.dst),.sl (x.cap.map aY),.v (.int .i64 x.skills),.v (.int .i64 x.profile),.v (.int .i64 x.start),.v (.int .i64 x.close),.v (.int .i64 x.drive),.v (.int .i64 x.rest),.v (.int .i64 x.fixed),.v (.int .i64 x.perMile),.v (.int .i64 x.perTick)]
theorem rG(x:VType):(aX x).length=14:=rfl
theorem KG(x:VType):(aX x).getD 0 .any=.v (.string x.name):=rfl
theorem JR(x:VType):(aX x).getD 1 .any=.v (.int .i64 x.count):=rfl
theorem Ko(x:VType):(aX x).getD 2 .any=.v (.int .i64 x.src):=rfl
theorem J4(x:VType):(aX x).getD 3 .any=.v (.int .i64 x.dst):=rfl
theorem Jv(x:VType):(aX x).getD 4 .any=.sl (x.cap.map aY):=rfl
theorem Jm(x:VType):(aX x).getD 5 .any=.v (.int .i64 x.skills):=rfl
theorem KF(x:VType):(aX x).getD 6 .any=.v (.int .i64 x.profile):=rfl
theorem J2(x:VType):(aX x).getD 7 .any=.v (.int .i64 x.start):=rfl
theorem Kx(x:VType):(aX x).getD 8 .any=.v (.int .i64 x.close):=rfl
theorem Kn(x:VType):(aX x).getD 9 .any=.v (.int .i64 x.drive):=rfl
theorem IQ(x:VType):(aX x).getD 10 .any=.v (.int .i64 x.rest):=rfl
theorem HD(x:VType):(aX x).getD 11 .any=.v (.int .i64 x.fixed):=rfl
theorem Io(x:VType):(aX x).getD 12 .any=.v (.int .i64 x.perMile):=rfl
theorem GS(x:VType):(aX x).getD 13 .any=.v (.int .i64 x.perTick):=rfl
theorem EZ(x:VType):(aX x).take 14=aX x:=rfl
structure Stop where
 place:Int
 start:Int
 close:Int
 service:Int
 deriving DecidableEq
def dQ(x:Stop):List AV:=[.v (.int .i64 x.place),.v (.int .i64 x.start),.v (.int .i64 x.close),.v (.int .i64 x.service)]
theorem HH(x:Stop):(dQ x).length=4:=rfl
theorem M6(x:Stop):(dQ x).getD 0 .any=.v (.int .i64 x.place):=rfl
theorem Mk(x:Stop):(dQ x).getD 1 .any=.v (.int .i64 x.start):=rfl
theorem MP(x:Stop):(dQ x).getD 2 .any=.v (.int .i64 x.close):=rfl
theorem MK(x:Stop):(dQ x).getD 3 .any=.v (.int .i64 x.service):=rfl
theorem GF(x:Stop):(dQ x).take 4=dQ x:=rfl
structure Order where
 name:ByteArray
 load:List Int
 pick:Stop
 drop:Stop
 skills:Int
 penalty:Int
 split:Int
 last:Int
 now:Int
 off:Bool
 deriving DecidableEq
def aB(x:Order):List AV:=[.v (.string x.name),.sl (x.load.map aY),.v (.int .i64 x.pick.place),.v (.int .i64 x.pick.start),.v (.int .i64 x.pick.close),.v (.int .i64 x.pick.service),.v (.int .i64 x.drop.place),.v (.int .i64 x.drop.start),.v (.int .i64 x.drop.close),.v (.int .i64 x.drop.service),.v (.int .i64 x.skills),.v (.int .i64 x.penalty),.v (.int .i64 x.split),.v (.int .i64 x.last),.v (.int .i64 x.now),.v (.bool x.off)]
theorem pZ(x:Order):(aB x).length=16:=rfl
theorem Ke(x:Order):(aB x).getD 0 .any=.v (.string x.name):=rfl
theorem KB(x:Order):(aB x).getD 1 .any=.sl (x.load.map aY):=rfl
theorem JG(x:Order):(aB x).getD 2 .any=.v (.int .i64 x.pick.place):=rfl
theorem KL(x:Order):(aB x).getD 3 .any=.v (.int .i64 x.pick.start):=rfl
theorem Kv(x:Order):(aB x).getD 4 .any=.v (.int .i64 x.pick.close):=rfl
theorem JM(x:Order):(aB x).getD 5 .any=.v (.int .i64 x.pick.service):=rfl
theorem KN(x:Order):(aB x).getD 6 .any=.v (.int .i64 x.drop.place):=rfl
theorem Jn(x:Order):(aB x).getD 7 .any=.v (.int .i64 x.drop.start):=rfl
theorem KE(x:Order):(aB x).getD 8 .any=.v (.int .i64 x.drop.close):=rfl
theorem Jl(x:Order):(aB x).getD 9 .any=.v (.int .i64 x.drop.service):=rfl
theorem Gd(x:Order):(aB x).getD 10 .any=.v (.int .i64 x.skills):=rfl
theorem HS(x:Order):(aB x).getD 11 .any=.v (.int .i64 x.penalty):=rfl
theorem Im(x:Order):(aB x).getD 12 .any=.v (.int .i64 x.split):=rfl
theorem FO(x:Order):(aB x).getD 13 .any=.v (.int .i64 x.last):=rfl
theorem HR(x:Order):(aB x).getD 14 .any=.v (.int .i64 x.now):=rfl
theorem Iq(x:Order):(aB x).getD 15 .any=.v (.bool x.off):=rfl
theorem E4(x:Order):(aB x).take 16=aB x:=rfl
theorem B9(x:Order):((aB x).drop 2).take 4=dQ x.pick:=rfl
theorem Ci(x:Order):((aB x).drop 6).take 4=dQ x.drop:=rfl
structure Pair where
 a:Int
 b:Int
 deriving DecidableEq
def bP(x:Pair):List AV:=[.v (.int .i64 x.a),.v (.int .i64 x.b)]
theorem sL(x:Pair):(bP x).length=2:=rfl
theorem Mr(x:Pair):(bP x).getD 0 .any=.v (.int .i64 x.a):=rfl
theorem MI(x:Pair):(bP x).getD 1 .any=.v (.int .i64 x.b):=rfl
theorem GW(x:Pair):(bP x).take 2=bP x:=rfl
structure Instance where
 net:Network
 types:List VType
 orders:List Order
 apart:List Pair
 before:List Pair
 deriving DecidableEq
def aO(x:Instance):List AV:=[.sl (x.net.places.map bE),.sl (x.net.arcs.map eF),.sl (x.types.map aX),.sl (x.orders.map aB),.sl (x.apart.map bP),.sl (x.before.map bP)]
theorem Ac(x:Instance):(aO x).length=6:=rfl
theorem Cl(x:Instance):(aO x).getD 0 .any=.sl (x.net.places.map bE):=rfl
theorem Ct(x:Instance):(aO x).getD 1 .any=.sl (x.net.arcs.map eF):=rfl
theorem Ce(x:Instance):(aO x).getD 2 .any=.sl (x.types.map aX):=rfl
theorem Cj(x:Instance):(aO x).getD 3 .any=.sl (x.orders.map aB):=rfl
theorem Cf(x:Instance):(aO x).getD 4 .any=.sl (x.apart.map bP):=rfl
theorem Cz(x:Instance):(aO x).getD 5 .any=.sl (x.before.map bP):=rfl
theorem Ai(x:Instance):(aO x).take 6=aO x:=rfl
theorem zZ(x:Instance):(aO x).take 2=aN x.net:=rfl
structure Fault where
 err:Int
 at_:ByteArray
 deriving DecidableEq
def cE(x:Fault):List AV:=[.v (.int .i64 x.err),.v (.string x.at_)]
theorem qG(x:Fault):(cE x).length=2:=rfl
theorem JP(x:Fault):(cE x).getD 0 .any=.v (.int .i64 x.err):=rfl
theorem Jp(x:Fault):(cE x).getD 1 .any=.v (.string x.at_):=rfl
theorem EC(x:Fault):(cE x).take 2=cE x:=rfl
structure Cut where
 kind:Int
 set:Int
 n:Int
 deriving DecidableEq
structure Event where
 at_:Int
 kind:Int
 a:Int
 b:Int
 n:Int
 order:Order
 deriving DecidableEq
def bC(x:Event):List AV:=[.v (.int .i64 x.at_),.v (.int .i64 x.kind),.v (.int .i64 x.a),.v (.int .i64 x.b),.v (.int .i64 x.n),.v (.string x.order.name),.sl (x.order.load.map aY),.v (.int .i64 x.order.pick.place),.v (.int .i64 x.order.pick.start),.v (.int .i64 x.order.pick.close),.v (.int .i64 x.order.pick.service),.v (.int .i64 x.order.drop.place),.v (.int .i64 x.order.drop.start),.v (.int .i64 x.order.drop.close),.v (.int .i64 x.order.drop.service),.v (.int .i64 x.order.skills),.v (.int .i64 x.order.penalty),.v (.int .i64 x.order.split),.v (.int .i64 x.order.last),.v (.int .i64 x.order.now),.v (.bool x.order.off)]
theorem Ep(x:Event):(bC x).length=21:=rfl
theorem Kj(x:Event):(bC x).getD 0 .any=.v (.int .i64 x.at_):=rfl
theorem J6(x:Event):(bC x).getD 1 .any=.v (.int .i64 x.kind):=rfl
theorem Jb(x:Event):(bC x).getD 2 .any=.v (.int .i64 x.a):=rfl
theorem Kq(x:Event):(bC x).getD 3 .any=.v (.int .i64 x.b):=rfl
theorem Kg(x:Event):(bC x).getD 4 .any=.v (.int .i64 x.n):=rfl
theorem KQ(x:Event):(bC x).getD 5 .any=.v (.string x.order.name):=rfl
theorem JC(x:Event):(bC x).getD 6 .any=.sl (x.order.load.map aY):=rfl
theorem Jt(x:Event):(bC x).getD 7 .any=.v (.int .i64 x.order.pick.place):=rfl
theorem JO(x:Event):(bC x).getD 8 .any=.v (.int .i64 x.order.pick.start):=rfl
theorem Ks(x:Event):(bC x).getD 9 .any=.v (.int .i64 x.order.pick.close):=rfl
theorem Ht(x:Event):(bC x).getD 10 .any=.v (.int .i64 x.order.pick.service):=rfl
theorem IV(x:Event):(bC x).getD 11 .any=.v (.int .i64 x.order.drop.place):=rfl
theorem HV(x:Event):(bC x).getD 12 .any=.v (.int .i64 x.order.drop.start):=rfl
theorem IY(x:Event):(bC x).getD 13 .any=.v (.int .i64 x.order.drop.close):=rfl
theorem Hd(x:Event):(bC x).getD 14 .any=.v (.int .i64 x.order.drop.service):=rfl
theorem IC(x:Event):(bC x).getD 15 .any=.v (.int .i64 x.order.skills):=rfl
theorem GC(x:Event):(bC x).getD 16 .any=.v (.int .i64 x.order.penalty):=rfl
theorem Is(x:Event):(bC x).getD 17 .any=.v (.int .i64 x.order.split):=rfl
theorem Ic(x:Event):(bC x).getD 18 .any=.v (.int .i64 x.order.last):=rfl
theorem FY(x:Event):(bC x).getD 19 .any=.v (.int .i64 x.order.now):=rfl
theorem FW(x:Event):(bC x).getD 20 .any=.v (.bool x.order.off):=rfl
theorem Fx(x:Event):(bC x).take 21=bC x:=rfl
theorem Av(x:Event):((bC x).drop 5).take 16=aB x.order:=rfl
structure Command where
 kind:Int
 n:Int
 event:Event
 deriving DecidableEq
def aS(x:Command):List AV:=[.v (.int .i64 x.kind),.v (.int .i64 x.n),.v (.int .i64 x.event.at_),.v (.int .i64 x.event.kind),.v (.int .i64 x.event.a),.v (.int .i64 x.event.b),.v (.int .i64 x.event.n),.v (.string x.event.order.name),.sl (x.event.order.load.map aY),.v (.int .i64 x.event.order.pick.place),.v (.int .i64 x.event.order.pick.start),.v (.int .i64 x.event.order.pick.close),.v (.int .i64 x.event.order.pick.service),.v (.int .i64 x.event.order.drop.place),.v (.int .i64 x.event.order.drop.start),.v (.int .i64 x.event.order.drop.close),.v (.int .i64 x.event.order.drop.service),.v (.int .i64 x.event.order.skills),.v (.int .i64 x.event.order.penalty),.v (.int .i64 x.event.order.split),.v (.int .i64 x.event.order.last),.v (.int .i64 x.event.order.now),.v (.bool x.event.order.off)]
theorem BF(x:Command):(aS x).length=23:=rfl
theorem E6(x:Command):(aS x).getD 0 .any=.v (.int .i64 x.kind):=rfl
theorem EW(x:Command):(aS x).getD 1 .any=.v (.int .i64 x.n):=rfl
theorem FG(x:Command):(aS x).getD 2 .any=.v (.int .i64 x.event.at_):=rfl
theorem FB(x:Command):(aS x).getD 3 .any=.v (.int .i64 x.event.kind):=rfl
theorem FA(x:Command):(aS x).getD 4 .any=.v (.int .i64 x.event.a):=rfl
theorem Fk(x:Command):(aS x).getD 5 .any=.v (.int .i64 x.event.b):=rfl
theorem E3(x:Command):(aS x).getD 6 .any=.v (.int .i64 x.event.n):=rfl
theorem E2(x:Command):(aS x).getD 7 .any=.v (.string x.event.order.name):=rfl
theorem E0(x:Command):(aS x).getD 8 .any=.sl (x.event.order.load.map aY):=rfl
theorem Fj(x:Command):(aS x).getD 9 .any=.v (.int .i64 x.event.order.pick.place):=rfl
theorem Cw(x:Command):(aS x).getD 10 .any=.v (.int .i64 x.event.order.pick.start):=rfl
theorem Cd(x:Command):(aS x).getD 11 .any=.v (.int .i64 x.event.order.pick.close):=rfl
theorem Cv(x:Command):(aS x).getD 12 .any=.v (.int .i64 x.event.order.pick.service):=rfl
theorem B8(x:Command):(aS x).getD 13 .any=.v (.int .i64 x.event.order.drop.place):=rfl
theorem B6(x:Command):(aS x).getD 14 .any=.v (.int .i64 x.event.order.drop.start):=rfl
theorem B0(x:Command):(aS x).getD 15 .any=.v (.int .i64 x.event.order.drop.close):=rfl
theorem Ca(x:Command):(aS x).getD 16 .any=.v (.int .i64 x.event.order.drop.service):=rfl
theorem CD(x:Command):(aS x).getD 17 .any=.v (.int .i64 x.event.order.skills):=rfl
theorem Cq(x:Command):(aS x).getD 18 .any=.v (.int .i64 x.event.order.penalty):=rfl
theorem Cy(x:Command):(aS x).getD 19 .any=.v (.int .i64 x.event.order.split):=rfl
theorem Cm(x:Command):(aS x).getD 20 .any=.v (.int .i64 x.event.order.last):=rfl
theorem Cn(x:Command):(aS x).getD 21 .any=.v (.int .i64 x.event.order.now):=rfl
theorem Ch(x:Command):(aS x).getD 22 .any=.v (.bool x.event.order.off):=rfl
theorem Bo(x:Command):(aS x).take 23=aS x:=rfl
theorem xO(x:Command):((aS x).drop 2).take 21=bC x.event:=rfl
structure Item where
 kind:Int
 a:Int
 deriving DecidableEq
def lP(x:Item):List AV:=[.v (.int .i64 x.kind),.v (.int .i64 x.a)]
theorem Ij(x:Item):(lP x).length=2:=rfl
theorem M3(x:Item):(lP x).getD 0 .any=.v (.int .i64 x.kind):=rfl
theorem Mm(x:Item):(lP x).getD 1 .any=.v (.int .i64 x.a):=rfl
theorem F0(x:Item):(lP x).take 2=lP x:=rfl
structure Reply where
 err:Int
 price:Int
 items:List Item
 deriving DecidableEq
def lZ(x:Reply):List AV:=[.v (.int .i64 x.err),.v (.int .i64 x.price),.sl (x.items.map lP)]
theorem EJ(x:Reply):(lZ x).length=3:=rfl
theorem Js(x:Reply):(lZ x).getD 0 .any=.v (.int .i64 x.err):=rfl
theorem Jx(x:Reply):(lZ x).getD 1 .any=.v (.int .i64 x.price):=rfl
theorem Jw(x:Reply):(lZ x).getD 2 .any=.sl (x.items.map lP):=rfl
theorem Ez(x:Reply):(lZ x).take 3=lZ x:=rfl
structure Script where
 inst:Instance
 commands:List Command
 deriving DecidableEq
def bR(x:Script):List AV:=[.sl (x.inst.net.places.map bE),.sl (x.inst.net.arcs.map eF),.sl (x.inst.types.map aX),.sl (x.inst.orders.map aB),.sl (x.inst.apart.map bP),.sl (x.inst.before.map bP),.sl (x.commands.map aS)]
theorem B4(x:Script):(bR x).length=7:=rfl
theorem GM(x:Script):(bR x).getD 0 .any=.sl (x.inst.net.places.map bE):=rfl
theorem I5(x:Script):(bR x).getD 1 .any=.sl (x.inst.net.arcs.map eF):=rfl
theorem GZ(x:Script):(bR x).getD 2 .any=.sl (x.inst.types.map aX):=rfl
theorem F9(x:Script):(bR x).getD 3 .any=.sl (x.inst.orders.map aB):=rfl
theorem Hk(x:Script):(bR x).getD 4 .any=.sl (x.inst.apart.map bP):=rfl
theorem Gj(x:Script):(bR x).getD 5 .any=.sl (x.inst.before.map bP):=rfl
theorem Iw(x:Script):(bR x).getD 6 .any=.sl (x.commands.map aS):=rfl
theorem CF(x:Script):(bR x).take 7=bR x:=rfl
theorem Bk(x:Script):(bR x).take 6=aO x.inst:=rfl
attribute [go_sem] J8 Pc JT Oa kK Jf JF EM qB PT NW OP Pi NU Oj Kp AU Fz EF A9 rG KG JR Ko J4 Jv Jm KF J2 Kx Kn IQ HD Io GS EZ HH M6 Mk MP MK GF pZ Ke KB JG KL Kv JM KN Jn KE Jl Gd HS Im FO HR Iq E4 B9 Ci sL Mr MI GW Ac Cl Ct Ce Cj Cf Cz Ai zZ qG JP Jp EC Ep Kj J6 Jb Kq Kg KQ JC Jt JO Ks Ht IV HV IY Hd IC GC Is Ic FY FW Fx Av BF E6 EW FG FB FA Fk E3 E2 E0 Fj Cw Cd Cv B8 B6 B0 Ca CD Cq Cy Cm Cn Ch Bo xO Ij M3 Mm F0 EJ Js Jx Jw Ez B4 GM I5 GZ F9 Hk Gj Iw CF Bk
theorem aM{α:Type}{f:α→List AV}{l:List α}{k:Nat}{x:α}(h:l[k]?=some x):(l.map f).getD k []=f x:=by simp[List.getD,h]
theorem QN{α:Type}(f:α→List AV)(l:List α):(l.map f).length=l.length:=List.length_map f
theorem Mz(n:Nat):((n:Int)).toNat=n:=Int.toNat_natCast n
attribute [go_sem] QN Mz
theorem dI{n:Int}(h: -9223372036854775808≤n∧n≤9223372036854775807):IntKind.i64.wrap n=n:=IntWalk.i64_in n h
end Go.Aw.D
end
section
namespace Go.Proofs.YthbiheckeoknlaaGreatDoor
open Go.Aw Go.Aw.D Go.Proofs Ty
abbrev int(n:Int):AV:=.v (.int .i64 n)
abbrev str(s:ByteArray):AV:=.v (.string s)
abbrev boo(b:Bool):AV:=.v (.bool b)
theorem fL{α:Type}{l:List α}{k:Nat}{x:α}(h:l[k]?=some x):l.take (k+1)=l.take k++[x]:=by rw[List.take_add_one,h];rfl
theorem cG{α:Type}{l:List α}{k:Nat}(h:k<l.length):∃x,l[k]?=some x:=⟨l[k],List.getElem?_eq_getElem h⟩
theorem inB{k n:Nat}(h:k<n):0≤(k:Int)∧(k:Int)<(n:Int):=by omega
theorem fM{k:Nat}(h:k≤4611686018427387904):IntKind.i64.wrap ((k:Int)+1)=((k+1:Nat):Int):=by rw[dI (by omega)];omega
theorem Eh{k:Nat}(h:k≤4611686018427387904):(IntKind.i64.wrap ((k:Int)-1)).toNat=k-1:=by rw[dI (by omega)];omega
theorem lW{k:Nat}(h:k≤4611686018427387904):IntKind.i64.wrap ((k:Int)-1)=(k:Int)-1:=dI (by omega)
def wX(e:TypeId×Nat×Nat)(d:Option Tmp)(j:Nat)(x:AV)(ρ:Env)(H:aC)(K:Env→aC→Prop):Prop:=match H j with
 | some r => qJ H x fun news => (r.e = e.1 ∧ r.sz = e.2.1 ∧ dF e.2.1 news ∧ (r.es.length + news.length) * e.2.2 ≤ 140737488355328) ∧
       ∀k',H k'=none→K (upd ρ d (.os k')) (bG (bG H j none) k' (some ⟨e.1,e.2.1,r.es++news⟩))
 | none=>False
theorem PJ{P:Program}{d:Option Tmp}{t:TypeId}{j:Nat}{x:AV}{ρ:Env}{H:aC}{K:Env→aC→Prop}:KK P d t (.os j) x ρ H K=bN (cM P t) (fun e=>wX e d j x ρ H K):=by
 unfold KK qK wX;cases cM P t with
 | none=>rfl
 | some e=>obtain⟨a,b,c⟩:=e;rfl
@[congr] theorem wappE_c {e d j x x' ρ H K} (h':x=x'):wX e d j x ρ H K=wX e d j x' ρ H K:=h'▸rfl
@[congr] theorem FCalls_c {P f a a' H R} (h':a=a'):cK P f a H R=cK P f a' H R:=h'▸rfl
theorem aP{e:TypeId×Nat×Nat}{d:Option Tmp}{j:Nat}{news:List (List AV)}{ρ:Env}{H:aC}{K:Env→aC→Prop}{r:Row}(hj:H j=some r)
  (h1:r.e=e.1∧r.sz=e.2.1) (h2:dF e.2.1 news) (h3:(r.es.length+news.length)*e.2.2≤140737488355328)
  (h:∀j',H j'=none→K (upd ρ d (.os j')) (bG (bG H j none) j' (some ⟨e.1,e.2.1,r.es++news⟩))):wX e d j (.sl news) ρ H K:=by
 unfold wX;simp only[hj];exact⟨⟨h1.1,h1.2,h2,h3⟩,h⟩
theorem tL{e:TypeId×Nat×Nat}{d:Option Tmp}{j i:Nat}{r':Row}{ρ:Env}{H:aC}{K:Env→aC→Prop}{r:Row}(hj:H j=some r)(hi:H i=some r')
  (h1:r.e=e.1∧r.sz=e.2.1) (h2:dF e.2.1 r'.es) (h3:(r.es.length+r'.es.length)*e.2.2≤140737488355328)
  (h:∀j',H j'=none→K (upd ρ d (.os j')) (bG (bG H j none) j' (some ⟨e.1,e.2.1,r.es++r'.es⟩))):wX e d j (.os i) ρ H K:=by
 unfold wX;simp only[hj,qJ,hi];exact⟨⟨h1.1,h1.2,h2,h3⟩,h⟩
theorem bI{P:Program}{C:jC}{PC:FuncId→List AV→aC→AV→Prop}{mt:Nat→Bool}{a b:Code}{x:AV}{K:Env→aC→Prop}{Q:Ex→Env→aC→Prop}{ρ:Env}{H:aC}(J:Env→aC→Prop)(h1:∀ρ H,J ρ H→K ρ H)
 (h2:∀K:Env→aC→Prop,(∀ρ H,J ρ H→K ρ H)→rX x (awp P C PC mt a (Ex.seq K Q)) (awp P C PC mt b (Ex.seq K Q)) ρ H):rX x (awp P C PC mt a (Ex.seq K Q)) (awp P C PC mt b (Ex.seq K Q)) ρ H:=h2 K h1
theorem lB{x:AV}{A B:Env→aC→Prop}{ρ:Env}{H:aC}(J:Env→aC→Prop)(h1:J ρ H)(h2:∀ρ H,J ρ H→rX x A B ρ H):rX x A B ρ H:=h2 ρ H h1
theorem BQ{P:Program}{C:jC}{PC:FuncId→List AV→aC→AV→Prop}{mt:Nat→Bool}{c:Code}{id:Nat}{Q:Ex→Env→aC→Prop}{ρ:Env}{H:aC}(J:Env→aC→Prop)(h1:∀ρ H,J ρ H→Q .normal ρ H)
  (h2:∀Q':Ex→Env→aC→Prop,(∀ρ H,J ρ H→Q' (.exit id) ρ H)→(∀ρ H,Q .ret ρ H→Q' .ret ρ H)→L5 (awp P C PC mt c) Q' ρ H):L5 (awp P C PC mt c) (Ex.blk id Q) ρ H:=
 h2 (Ex.blk id Q) (fun ρ H h=>by rw[GK];exact h1 ρ H h) (fun ρ H h=>by rw[Ma];exact h)
theorem eR{P:Program}{C:jC}{PC:FuncId→List AV→aC→AV→Prop}{mt:Nat→Bool}{a b:Code}{x:AV}{Q:Ex→Env→aC→Prop}{ρ:Env}{H:aC}(J:Env→aC→Prop)(h1:∀ρ H,J ρ H→Q .normal ρ H)
  (h2:∀Q':Ex→Env→aC→Prop,(∀ρ H,J ρ H→Q' .normal ρ H)→(∀i ρ H,Q (.exit i) ρ H→Q' (.exit i) ρ H)→(∀ρ H,Q .ret ρ H→Q' .ret ρ H)→rX x (awp P C PC mt a Q') (awp P C PC mt b Q') ρ H):rX x (awp P C PC mt a Q) (awp P C PC mt b Q) ρ H:=
 h2 Q h1 (fun _ _ _ h=>h) (fun _ _ h=>h)
def CS(P:Program)(t:TypeId)(l:Option Nat)(d:Option Tmp)(j i f:Nat)(cs:List AV)(ρ:Env)(H:aC)(K:Env→aC→Prop):Prop:=match H j with
 | some r=>(i<r.es.length∧cs.length=l.getD 1∧f+cs.length≤r.sz∧(l=none→∃i,P.info? t=some i∧i.size=1))∧K (upd ρ d .any) (bG H j (some { r with es:=r.es.set i (oO (r.es.getD i []) f cs) }))
 | none=>False
def xG(P:Program)(t:TypeId)(l:Option Nat)(d:Option Tmp)(j i f:Nat)(cs:List AV)(ρ:Env)(H:aC)(K:Env→aC→Prop):Prop:=
 CS P t l d j i f cs ρ H K∨∃nl:List (Nat×TypeId×Nat),(∀x∈nl,cs[x.1]?=some (.v (.slice none 0 0))∧0<x.2.2)∧iF nl cs H fun cs H=>CS P t l d j i f cs ρ H K
theorem Nr{P:Program}{d:Option Tmp}{t:TypeId}{j i f:Nat}{cs:List AV}{ρ:Env}{H:aC}{K:Env→aC→Prop}:Mv P d t (.op j i f) cs ρ H K=bN (ldT P t) (fun l=>xG P t l d j i f cs ρ H K):=by
 have hB:∀cs H,tA P ⟨d,.move (.tmp 0),0,"",#[],none⟩ t (.op j i f) cs ρ H K=bN (ldT P t) (fun l=>CS P t l d j i f cs ρ H K):=by intro cs H;unfold tA CS;cases h1:H j <;> cases h2:ldT P t <;> simp[bN,h1]
 unfold Mv oB xG;simp only[hB];cases h2:ldT P t <;> simp[bN]
@[congr] theorem wputE_c {P t l d j i f cs cs' ρ H K} (h':cs=cs'):xG P t l d j i f cs ρ H K=xG P t l d j i f cs' ρ H K:=h'▸rfl
theorem fD{P:Program}{t:TypeId}{m:Nat}{d:Option Tmp}{j i f:Nat}{cs:List AV}{ρ:Env}{H:aC}{K:Env→aC→Prop}{r:Row}(hj:H j=some r)(h1:i<r.es.length∧cs.length=m∧f+cs.length≤r.sz)
  (h:K (upd ρ d .any) (bG H j (some { r with es:=r.es.set i (oO (r.es.getD i []) f cs) }))):xG P t (some m) d j i f cs ρ H K:=by
 refine .inl ?_;unfold CS;simp only[hj];exact⟨⟨h1.1,h1.2.1,h1.2.2,by simp⟩,h⟩
theorem Ao{P:Program}{t:TypeId}{d:Option Tmp}{j i f:Nat}{cs:List AV}{ρ:Env}{H:aC}{K:Env→aC→Prop}{r:Row}(ht:∃i,P.info? t=some i∧i.size=1)(hj:H j=some r)(h1:i<r.es.length∧cs.length=1∧f+cs.length≤r.sz)
  (h:K (upd ρ d .any) (bG H j (some { r with es:=r.es.set i (oO (r.es.getD i []) f cs) }))):xG P t none d j i f cs ρ H K:=by
 refine .inl ?_;unfold CS;simp only[hj];exact⟨⟨h1.1,h1.2.1,h1.2.2,fun _=>ht⟩,h⟩
theorem SP:Int.toNat 0=0:=rfl
theorem Oh{a b:Prop}:(a→b→a∧b)=True:=by simp;exact fun h1 h2=>⟨h1,h2⟩
attribute [go_sem ↓] PJ Nr
attribute [go_sem] Nr List.set_cons_zero List.set_cons_succ
attribute [go_sem] Int.reduceToNat SP beq_true beq_false Bool.not_eq_true' Bool.and_eq_true Oh
attribute [go_sem] PJ A0 uK AS Bool.or_true Bool.true_or Bool.false_or Bool.or_false
theorem cF{H:aC}{i j j':Nat}{r r':Row}(hi:H i=some r)(hji:j≠i)(hj':H j'=none):bG (bG H j none) j' (some r') i=some r:=by
 have h1:i≠j':=fun e=>by subst e;rw[hi]at hj';simp at hj'
 rw[aK _ _ _ _ h1,aK _ _ _ _ (Ne.symm hji),hi]
theorem jV{H:aC}{i j:Nat}{r r':Row}(hi:H i=some r)(hj:H j=none):bG H j (some r') i=some r:=by
 have h1:i≠j:=fun e=>by subst e;rw[hi]at hj;simp at hj
 rw[aK _ _ _ _ h1,hi]
theorem bM{H:aC}{i j:Nat}{r:Row}(hi:H i=some r)(hj:H j=none):i≠j:=fun e=>by subst e;rw[hi]at hj;simp at hj
theorem aL{H:aC}{r:Row}{F:Nat→aC→Prop}(h:∀i G,H i=none→G i=some r→(∀{j a},H j=some a→j≠i∧G j=some a)→F i G):kQ H r F:=
 fun i hi=>h i _ hi (aD _ _ _) fun hj=>⟨bM hj hi,jV hj hi⟩
theorem oL{P:Program}{t:TypeId}{m:Nat}{d:Option Tmp}{j i f:Nat}{cs:List AV}{ρ:Env}{H:aC}{K:Env→aC→Prop}{r:Row}(hj:H j=none)(h1:i<r.es.length∧cs.length=m∧f+cs.length≤r.sz)
  (h:∀G:aC,G j=some { r with es:=r.es.set i (oO (r.es.getD i []) f cs) }→(∀{k b},H k=some b→k≠j∧G k=some b)→K (upd ρ d .any) G):xG P t (some m) d j i f cs ρ (bG H j (some r)) K:=
 fD (aD _ _ _) h1 (h _ (aD _ _ _) fun hk=>⟨bM hk hj,(aK _ _ _ _ (bM hk hj)).trans (jV hk hj)⟩)
theorem upS{H G:aC}{i:Nat}{r:Row}(g:bG H i (some r)=G):G i=some r:=(congrFun g.symm i).trans (aD _ _ _)
def opt{α:Type}(b:Bool)(f:α):List α:=match b with|true=>[f]|false=>[]
theorem dW{α:Type}{b:Bool}{f:α}(h:b=true):opt b f=[f]:=by rw[h];rfl
theorem dV{α:Type}{b:Bool}{f:α}(h:b=false):opt b f=[]:=by rw[h];rfl
theorem aU{α:Type}(b:Bool)(f:α):(opt b f).length≤1:=by cases b <;> simp[opt]
theorem HY{α:Type}{e:TypeId}{sz:Nat}{enc:α→List AV}{H:aC}{k:Nat}{l l':List α}{cs:List (List AV)}(h:cs=l'.map enc):bG H k (some ⟨e,sz,l.map enc++cs⟩) k=some (⟨e,sz,(l++l').map enc⟩:Row):=by rw[aD,h,List.map_append]
theorem cD{e:TypeId}{sz:Nat}{enc:Fault→List AV}{H:aC}{k:Nat}{l l':List Fault}{cs:List (List AV)}(h:cs=l'.map enc):bG H k (some ⟨e,sz,l.map enc++cs⟩) k=some (⟨e,sz,(l++l').map enc⟩:Row):=HY h
theorem dL{e:TypeId}{sz:Nat}{enc:Int→List AV}{H:aC}{k:Nat}{l l':List Int}{cs:List (List AV)}(h:cs=l'.map enc):bG H k (some ⟨e,sz,l.map enc++cs⟩) k=some (⟨e,sz,(l++l').map enc⟩:Row):=HY h
abbrev kJ(t:VType):Row:=⟨112,14,[aX t]⟩
abbrev jT(o:Order):Row:=⟨64,16,[aB o]⟩
abbrev eD(a:Arc):Row:=⟨107,6,[eF a]⟩
abbrev cT(l:List Int):Row:=⟨35,1,l.map aY⟩
abbrev aJ(l:List Fault):Row:=⟨84,2,l.map cE⟩
theorem pcb(mt:Nat→Bool){f:FuncId}{fn:Func}{c:Code}{rs:List ResultVar}{args:List AV}{r:AV}(hf:Tryz.prog.funcs[f]? = some fn)(hb:fn.body=some c)(hr:fn.results=Array.mk rs)(h:awp Tryz.prog (cK Tryz.prog) (dE Tryz.prog) mt c (A0 Tryz.prog rs fun x H'=>Conv H' x r) (uY args) bV)(hc:pT fn c args.length=true:=by kernel_rfl):PC Tryz.prog f args r:=PC.body mt mixed hf hb hc (by rw[hr];exact h)
theorem pcd{f:FuncId}{fn:Func}{c:Code}{rs:List ResultVar}{args:List AV}{r:AV}(hf:Tryz.prog.funcs[f]? = some fn)(hb:fn.body=some c)(hr:fn.results=Array.mk rs)(h:awp Tryz.prog (cK Tryz.prog) (dE Tryz.prog) (fun _=>false) c (A0 Tryz.prog rs fun x H'=>Conv H' x r) (uY args) bV)(hc:pT fn c args.length=true:=by kernel_rfl):PC Tryz.prog f args r:=PC.body (fun _=>false) mixed hf hb hc (by rw[hr];exact h)
theorem ncb(mt:Nat→Bool){f:FuncId}{fn:Func}{c:Code}{rs:List ResultVar}{args:List AV}{row:Row}{mk:Nat→AV}(hf:Tryz.prog.funcs[f]? = some fn)(hb:fn.body=some c)(hr:fn.results=Array.mk rs)(h:awp Tryz.prog (cK Tryz.prog) (dE Tryz.prog) mt c (A0 Tryz.prog rs fun x H'=>∃k,x=mk k∧H' k=some row) (uY args) bV)(hc:pT fn c args.length=true:=by kernel_rfl):NC Tryz.prog f args row mk:=NC.body mt mixed hf hb hc (by rw[hr];exact h)
theorem Xaa:∀{α:Type} {a:α} {L:List α},List.length (a::L)=List.length L+1:=@List.length_cons
theorem Xab:∀{α:Type} {β:Type} {L:List α} (f:α→β),List.length (List.map f L)=List.length L:=@List.length_map
theorem Xac:∀{α:Type} {L bs:List α},List.length (L++bs)=List.length L+List.length bs:=@List.length_append
theorem Xad:∀(n:Nat),0≤n:=@Nat.zero_le
theorem Xae:∀(n:Nat),n≤n:=@Nat.le_refl
theorem Xaf:∀{α:Type} {b:α} {l:List α} {a:α},a∈b::l↔a=b∨a∈l:=@List.mem_cons
theorem Xag:∀(a b:Bool),((a&&b)=true)=(a=true∧b=true):=@Bool.and_eq_true
theorem Xah:∀{α:Type} (L:List α),L++[]=L:=@List.append_nil
theorem Xai:∀{α:Type} {a b:α},Option.getD (some a) b=a:=@Option.getD_some
theorem Xaj:∀{α:Type} {i:Nat} {l:List α},List.length l≤i→List.take i l=l:=@List.take_of_length_le
theorem Xak:∀{α:Type} {β:Type} {f:α→β} {a:α} {l:List α},List.map f (a::l)=f a::List.map f l:=@List.map_cons
theorem Xal:∀{α:Type} {β:Type} {f:α→β} {l₁ l₂:List α},List.map f (l₁++l₂)=List.map f l₁++List.map f l₂:=@List.map_append
theorem Xam:∀{n m k:Nat},n≤m→m≤k→n≤k:=@Nat.le_trans
theorem Xan:∀{α:Type} [inst:BEq α] [LawfulBEq α] {a b:α},(a == b)=true↔a=b:=@beq_iff_eq
theorem Xao:∀{α:Type} {β:Type} {f:α→β},List.map f []=[]:=@List.map_nil
theorem Xap:∀{α:Type} {a:α} {s t:List α},a∈s++t↔a∈s∨a∈t:=@List.mem_append
theorem Xaq:∀{x y:Bool},(x||y)=false↔x=false∧y=false:=@Bool.or_eq_false_iff
theorem Xar:∀{α:Type} (L bs cs:List α),L++bs++cs=L++(bs++cs):=@List.append_assoc
theorem Xas:∀{α:Type} {i:Nat} {l:List α},List.length (List.take i l)=min i (List.length l):=@List.length_take
theorem Xat:∀{α:Type} {β:Type} {b:β} {f:α→β} {l:List α},b∈List.map f l↔∃a,a∈l∧f a=b:=@List.mem_map
theorem Xau:∀{n:Nat},List.length (List.range n)=n:=@List.length_range
theorem Xav:∀{α:Type} {a:α} {L bs:List α},a::L++bs=a::(L++bs):=@List.cons_append
theorem Xaw:∀{a b:Bool},a=b↔(a=true↔b=true):=@Bool.eq_iff_iff
theorem Xax:∀{α:Type} {p:α→Bool} {l:List α},List.all l p=true↔∀(x:α),x∈l→p x=true:=@List.all_eq_true
theorem Xay:∀(b:Bool),((!b)=true)=(b=false):=@Bool.not_eq_true'
theorem Xaz:∀{α:Type} (L:List α),[]++L=L:=@List.nil_append
theorem Xba:∀(a b:Bool),((a||b)=true)=(a=true∨b=true):=@Bool.or_eq_true
theorem Xbb:∀{α:Type} {a b:α},a∈[b]↔a=b:=@List.mem_singleton
theorem Xbc:∀(n m:Nat),n<m∨n≥m:=@Nat.lt_or_ge
theorem Xbd:∀{x y:Bool},(x&&y)=false↔x=false∨y=false:=@Bool.and_eq_false_iff
theorem Xbe:∀{α:Type} {l:List α},List.take 0 l=[]:=@List.take_zero
theorem Xbf:∀{α:Type} {l:List α},0<List.length l↔l≠[]:=@List.length_pos_iff
theorem Xbg:∀{α:Type} {l:List α} {i:Nat} {a:α},l[i]?=some a→a∈l:=@List.mem_of_getElem?
theorem Xbh:∀{α:Type} {l:List α},List.length l=0→l=[]:=@List.eq_nil_of_length_eq_zero
theorem Xbi:(!true)=false:=@Bool.not_true
theorem Xbj:(false=true)=False:=@Bool.false_eq_true
theorem cH(k:Nat)(h:k≤4611686018427387904:=by omega):IntKind.i64.wrap ((k:Int)+1)=((k+1:Nat):Int):=fM h
theorem bB{f:FuncId}{args:List AV}{r:AV}{H:aC}{K:AV→aC→Prop}(h:PC Tryz.prog f args r)(hK:K r H):cK Tryz.prog f args H K:=h.use hK
end Go.Proofs.YthbiheckeoknlaaGreatDoor
end
