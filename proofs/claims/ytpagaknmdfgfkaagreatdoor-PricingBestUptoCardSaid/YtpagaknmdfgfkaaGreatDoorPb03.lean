import Derived.StillTail
import Derived.Deep.Quiet
import Derived.Scope
import Derived.Test.YtpagaknmdfgfkaaGreatDoorPb02
set_option linter.unusedSimpArgs false
set_option linter.unusedVariables false
set_option linter.defProp false
set_option maxRecDepth 100000
section
namespace Go.Aw
open Go.RowKit
section
variable{P:Program}{n:Nat}{S0:Sg}{w0:World}{H0:aH}{mt:Nat->Bool}{ops:Array Oper}{K:Env->aH->Prop}{K':Act->World->Prop}{Q':Exit->Act->World->Prop}{ρ:Env}{H:aH}{a:Act}{w:World}{o:Oper}{S:Sg}
def eD{G:Option Bool}(E:Region.wanted o (yielded ops a.tmps)=true↔gt G)(F:G=none):Region.wanted o (yielded ops a.tmps)=true:=by subst F;exact E.2 trivial
def Tz{f:FuncId}(h:aE P f=true):∃fn,P.funcs[f]?=some fn/\(fn.name == "runtime.NumGoroutine")=false/\fn.body.isNone=false:=by
 unfold aE at h;split at h
 . rename_i fn E;simp only[Bool.and_eq_true,bne_iff_ne,ne_eq]at h;refine⟨fn,E,by simpa using h.1,?_⟩;cases F:fn.body <;> simp_all
 . simp at h
def uR{f:FuncId}(h:aE P f=true)(args:Array Value)(w:World):(callFunc f args).run P w=.ok (.enter f args) w:=by
 obtain⟨fn,h1,J,I⟩:=Tz h;have F:¬fn.name = "runtime.NumGoroutine" := by simpa using J
 have E:¬fn.body=none:=fun e=>by rw[e]at I;simp at I
 simp[callFunc,h1,F,E]
def gT(E:Region.wanted o (yielded ops a.tmps)=true)(h:o.wp P a w K' Q'):A9 P ops o a w K' Q':=⟨fun _=>h,fun e=>by rw[E]at e;simp at e⟩
def Pl:∀(l:List Value),bN S w (l.map .v) l
 | []=>by simp[bN]
 | v::r=>by simp only[List.map_cons,bN];exact⟨v,r,rfl,nD,Pl r⟩
def DC{x:AV}{g:FuncId}{I F:List AV}{u:Value}(h:RD x=some (g,I,F))(J:rep S w x u):
  ∃first E:Array Value,u=.func (.func g) first E/\bN S w I first.toList/\bN S w F E.toList:=by
 unfold RD at h;split at h
 ·rename_i f first E
  simp only[Option.some.injEq,Prod.mk.injEq]at h;obtain⟨rfl,rfl,rfl⟩:=h;simp only[rep]at J;exact⟨first,E,J,Pl _,Pl _⟩
 ·rename_i f cap;simp only[Option.some.injEq,Prod.mk.injEq]at h;obtain⟨rfl,rfl,rfl⟩:=h;simp only[rep]at J;obtain⟨l,rfl,O⟩:=J;exact⟨#[],l.toArray,rfl,by simp[bN],by simpa using O⟩
 ·simp at h
def rC{c:Call}{f:Operand}(I:c.callee=.value f){g:FuncId}{first E:Array Value}(F:a.eval f=.func (.func g) first E)(ty:TypeId):
  resolve a.eval c ty=pure { target:=.fn (.func g) E,args:=first++c.args.map a.eval }:=by
 unfold resolve;simp only[I];rw[F];rfl
def Sp{nl av:Bool}{G:Option Bool}{c:Call}(O:St S w H)(X:FR S w ρ a)(hG:Grow S0 w0 S w)(hN:gV S0.N H0 H)(hd:a.defers=[])(hn:a.tmps.size=n)(ho:o.op=.call c)(hb:∀x∈o.op.operands,opB n x=true)
   (ae:Region.wanted o (yielded ops a.tmps)=true↔gt G) (hK:∀a9 H' a' w',K a9 H'->Rel n S0 w0 H0 a9 H' a' w'->K' a' w') (h:D7 P (bM P) (fB P) nl av G o c ρ H K):A9 P ops o a w K' Q':=by
 rw[ho]at hb;simp only[Op.operands,Call.operands]at hb;unfold D7 at h;split at h
 . rename_i b hc;obtain⟨ys,h2,ak⟩:=qC X c.args.toList (fun x hx=>hn▸hb x (by simp[Array.mem_toList_iff.1 hx])) h;clear h;have h:=h2;clear h2;split at h
   . rename_i x t J;obtain⟨z,hz,hl⟩:=Iw (G:=G) (ty:=o.type) O.rows h;refine⟨fun hw=>?_,fun hw=>?_⟩
     . have U:=ae.1 hw;have hr:=ak U;simp only[bN]at hr;obtain⟨u,t',e1,e2,rfl⟩:=hr;obtain⟨v,hv,aj⟩:=hl U u e2;have ea:c.args.map a.eval=#[u]:=by apply Array.toList_inj.1;simpa using e1
       have et:c.argTypes=#[t]:=Array.toList_inj.1 (by simpa using J);refine fR (v:=v) (w':=w) ?_ (hK _ _ _ _ hz (Rel.step O X hG hN hd hn O (Grow.refl S w) (gV.refl _ _) (gN U hv)));simp[execOp,ho,resolve,hc,invoke,builtin,ea,et,aj w (Agree.refl S H w)]
     . have U:¬gt G:=fun h=>by rw[ae.2 h]at hw;simp at hw
       exact hK _ _ _ _ hz (Rel.step O X hG hN hd hn O (Grow.refl S w) (gV.refl _ _) (fY U))
   . rename_i s x t t' J;split at h
     . rename_i Y;obtain⟨bf,ai,_⟩:=Y;subst ai;subst bf;have hw:=eD ae rfl;refine gT hw ?_;have hr:=ak trivial;simp only[bN]at hr;obtain⟨us,t1,e1,e2,ux,t2,rfl,e3,rfl⟩:=hr;have ea:c.args.map a.eval=#[us,ux]:=Array.toList_inj.1 (by simpa using e1);have et:c.argTypes=#[t,t]:=Array.toList_inj.1 (by simpa using J);unfold wT at h;split at h
       . rename_i k e sz aa he;split at h
         . rename_i r hk;have app : ∀ news, BE S w ux news -> ((r.e = e /\ r.sz = sz /\ dL sz news /\ (r.es.length + news.length) * aa <= 140737488355328) /\
               ∀k',H k'=none->K (upd ρ o.dst (.os k')) (aM (aM H k none) k' (some ⟨e,sz,r.es++news⟩)))->o.wp P a w K' Q':=by
             rintro news ag ⟨⟨rfl,rfl,al,ah⟩,aq⟩;simp only[rep]at e2;obtain⟨bk,rfl,_,_,_,a4⟩:=e2;obtain⟨v',w',q1,q2,q3,q4⟩:=O.append hk a4 (ty:=o.type) he ag al ah;refine fR (v:=v') (w':=w') ?_ (hK _ _ _ _ (aq S.N O.fresh) (Rel.step O X hG hN hd hn q3 q4 ?_ ?_))
             . simp[execOp,ho,resolve,hc,invoke,builtin,ea,et,q1]
             . intro j hj h0;rw[aJ _ _ _ _ (Nat.ne_of_lt hj)];by_cases e:j=k
               . subst e;exact aB _ _ _
               . rw[aJ _ _ _ _ e];exact h0
             . simp only[rep,Sg.addRow,if_true];exact⟨Nat.lt_succ_self _,trivial,q2⟩
           unfold Bc at h;split at h
           . exact app _ (N0 e3) h
           . rename_i k2;split at h
             . rename_i r2 Z;simp only[rep]at e3;obtain⟨_,rfl,_,_,_,ab⟩:=e3;exact app _ (OT (O.rows k2 r2 Z) ab) h
             . exact h.elim
           . rename_i k2 a2 b2;split at h
             . rename_i r2 Z;exact app _ (FQ (O.rows k2 r2 Z) e3).1 h
             . exact h.elim
           . exact h.elim
         . exact h.elim
       . rename_i es e sz aa he;have app : ∀ news, BE S w ux news -> ((news ≠ [] /\ dL sz es /\ dL sz news /\ (es.length + news.length) * aa <= 140737488355328) /\
             ∀k',H k'=none->K (upd ρ o.dst (.os k')) (aM H k' (some ⟨e,sz,es++news⟩)))->o.wp P a w K' Q':=by
           rintro news ag ⟨⟨az,ay,al,ah⟩,aq⟩;obtain⟨v',w',q1,q2,q3,q4⟩:=O.appendNew e2 (ty:=o.type) he ag az ay al ah;refine fR (v:=v') (w':=w') ?_ (hK _ _ _ _ (aq S.N O.fresh) (Rel.step O X hG hN hd hn q3 q4 ?_ ?_))
           . simp[execOp,ho,resolve,hc,invoke,builtin,ea,et,q1]
           . intro j hj h0;rw[aJ _ _ _ _ (Nat.ne_of_lt hj)];exact h0
           . simp only[rep,Sg.addRow,if_true];exact⟨Nat.lt_succ_self _,trivial,q2⟩
         unfold Bc at h;split at h
         . exact app _ (N0 e3) h
         . rename_i k2;split at h
           . rename_i r2 Z;simp only[rep]at e3;obtain⟨_,rfl,_,_,_,ab⟩:=e3;exact app _ (OT (O.rows k2 r2 Z) ab) h
           . exact h.elim
         . rename_i k2 a2 b2;split at h
           . rename_i r2 Z;exact app _ (FQ (O.rows k2 r2 Z) e3).1 h
           . exact h.elim
         . exact h.elim
       . rename_i e sz aa he;have bd:rep S w (.cl []) us:=by
           have hu:us=.slice none 0 0:=by simp only[rep]at e2;exact e2
           subst hu;simp only[rep];exact⟨none,0,rfl,rfl,Nat.zero_le _,.inl trivial⟩
         have app : ∀ news, BE S w ux news -> ((news ≠ [] /\ dL sz ([] : List (List AV)) /\ dL sz news /\ (([] : List (List AV)).length + news.length) * aa <= 140737488355328) /\
             ∀k',H k'=none->K (upd ρ o.dst (.os k')) (aM H k' (some ⟨e,sz,[]++news⟩)))->o.wp P a w K' Q':=by
           rintro news ag ⟨⟨az,ay,al,ah⟩,aq⟩;obtain⟨v',w',q1,q2,q3,q4⟩:=O.appendNew bd (ty:=o.type) he ag az ay al ah;refine fR (v:=v') (w':=w') ?_ (hK _ _ _ _ (aq S.N O.fresh) (Rel.step O X hG hN hd hn q3 q4 ?_ ?_))
           . simp[execOp,ho,resolve,hc,invoke,builtin,ea,et,q1]
           . intro j hj h0;rw[aJ _ _ _ _ (Nat.ne_of_lt hj)];exact h0
           . simp only[rep,Sg.addRow,if_true];exact⟨Nat.lt_succ_self _,trivial,q2⟩
         unfold Bc at h;split at h
         . exact app _ (N0 e3) h
         . rename_i k2;split at h
           . rename_i r2 Z;simp only[rep]at e3;obtain⟨_,rfl,_,_,_,ab⟩:=e3;exact app _ (OT (O.rows k2 r2 Z) ab) h
           . exact h.elim
         . rename_i k2 a2 b2;split at h
           . rename_i r2 Z;exact app _ (FQ (O.rows k2 r2 Z) e3).1 h
           . exact h.elim
         . exact h.elim
       . exact h.elim
     . exact h.elim
   . rename_i x y t t' J;split at h
     . rename_i Y;obtain⟨ai,_⟩:=Y;subst ai;have hw:=eD ae rfl;refine gT hw ?_;have hr:=ak trivial;simp only[bN]at hr;obtain⟨us,t1,e1,e2,ux,t2,rfl,e3,rfl⟩:=hr;have ea:c.args.map a.eval=#[us,ux]:=Array.toList_inj.1 (by simpa using e1);have et:c.argTypes=#[t,t']:=Array.toList_inj.1 (by simpa using J);have go : ∀ k a0 n0 r, H k = some r -> a0 + n0 <= r.es.length -> (∃ ad cc, us = .slice ad n0 cc /\ (0 < n0 -> ∃ g n' c', S.loc k = .slice (some ⟨g, 0, none⟩) n' c' /\ ad = some ⟨g, a0 * r.sz, none⟩)) -> ∀ news, BE S w ux news ->
           (match cM P t with
             | some (_,sz,_)=>(r.sz=sz/\dL sz news)/\K (upd ρ o.dst (.v (.int .i64 (min news.length n0:Nat)))) (aM H k (some { r with es:=r.es.take a0++news.take (min news.length n0)++r.es.drop (a0+min news.length n0) }))
             | none=>False)->o.wp P a w K' Q':=by
         intro k a0 n0 r hk a5 hx news ag ac;split at ac
         . rename_i e sz aa he;obtain⟨⟨h1,h2⟩,h3⟩:=ac;obtain⟨w',q1,q2,q3⟩:=O.copy hk (t':=t') (ty:=o.type) he h1 a5 ag h2 hx;refine fR (v:=goInt (min news.length n0:Nat)) (w':=w') ?_ (hK _ _ _ _ h3 (Rel.step O X hG hN hd hn q2 q3 ?_ (by simp only[rep];rfl)))
           . simp[execOp,ho,resolve,hc,invoke,builtin,ea,et,q1]
           . intro j hj h0;by_cases e:j=k
             . subst e;rw[hk]at h0;simp at h0
             . rw[aJ _ _ _ _ e];exact h0
         . exact ac.elim
       have src:∀F:List (List AV)->Prop,Bc H y F->∃news,BE S w ux news/\F news:=by
         intro F X;unfold Bc at X;split at X
         . exact⟨_,N0 e3,X⟩
         . rename_i k2;split at X
           . rename_i r2 Z;simp only[rep]at e3;obtain⟨_,rfl,_,_,_,ab⟩:=e3;exact⟨_,OT (O.rows k2 r2 Z) ab,X⟩
           . exact X.elim
         . rename_i k2 a2 b2;split at X
           . rename_i r2 Z;exact⟨_,(FQ (O.rows k2 r2 Z) e3).1,X⟩
           . exact X.elim
         . exact X.elim
       unfold W7 KN at h;split at h
       . rename_i k;split at h
         . rename_i r hk;obtain⟨news,hs,ac⟩:=src _ h;have hR:=O.rows k r hk;simp only[rep]at e2;obtain⟨_,rfl,ad,n,cc,V⟩:=e2;obtain⟨xs,ao,_,_⟩:=hR.sl V;have hn:n=r.es.length/\(0<r.es.length->∃g,ad=some ⟨g,0,none⟩):=by
             rcases ao.2 with⟨hv,h0⟩|⟨g,cap,cur,hv,_⟩
             . rw[V]at hv;injection hv with _ h2 _;exact⟨by omega,fun h=>by omega⟩
             . rw[V]at hv;injection hv with h1 h2 _;exact⟨h2,fun _=>⟨g,h1⟩⟩
           refine go k 0 r.es.length r hk (by omega) ⟨ad,cc,by rw[V,hn.1],fun hp=>?_⟩ news hs ac;obtain⟨g,rfl⟩:=hn.2 hp;exact⟨g,n,cc,V,by simp⟩
         . exact h.elim
       . rename_i k a0 b0;split at h
         . rename_i r hk;obtain⟨news,hs,ac⟩:=src _ h;have hR:=O.rows k r hk;obtain⟨_,hb,bi⟩:=FQ hR e2;simp only[rep]at e2;obtain⟨_,ad,n,c0,a6,cc,V,rfl,_,_,ar,_⟩:=e2;refine go k a0 (b0-a0) r hk (by omega) ⟨a6,cc,rfl,fun hp=>?_⟩ news hs ac;obtain⟨g,rfl,rfl⟩:=ar (by omega);exact⟨g,n,c0,V,by rw[hR.sz]⟩
         . exact h.elim
       . exact h.elim
     . exact h.elim
   . rename_i x t J;split at h
     . rename_i Y;obtain⟨ai,_⟩:=Y;subst ai;have hw:=eD ae rfl;refine gT hw ?_;have hr:=ak trivial;simp only[bN]at hr;obtain⟨us,t1,e1,e2,rfl⟩:=hr;have ea:c.args.map a.eval=#[us]:=Array.toList_inj.1 (by simpa using e1);have et:c.argTypes=#[t]:=Array.toList_inj.1 (by simpa using J);have go : ∀ k a0 n0 r, H k = some r -> a0 + n0 <= r.es.length -> (∃ ad cc, us = .slice ad n0 cc /\ (0 < n0 -> ∃ g n' c', S.loc k = .slice (some ⟨g, 0, none⟩) n' c' /\ ad = some ⟨g, a0 * r.sz, none⟩)) ->
           (match cM P t with
             | some (e,sz,_)=>match eI P e with
               | some zs=>r.sz=sz/\K (upd ρ o.dst .any) (aM H k (some { r with es:=r.es.take a0++List.replicate n0 zs++r.es.drop (a0+n0) }))
               | none=>False
             | none=>False)->o.wp P a w K' Q':=by
         intro k a0 n0 r hk a5 hx ac;split at ac
         . rename_i e sz aa he;split at ac
           . rename_i zs be;obtain⟨h1,h3⟩:=ac;obtain⟨w',q1,q2,q3⟩:=O.clear hk (ty:=o.type) he be h1 a5 hx;refine fR (v:=.tuple #[]) (w':=w') ?_ (hK _ _ _ _ h3 (Rel.step O X hG hN hd hn q2 q3 ?_ (by simp only[rep])))
             . simp[execOp,ho,resolve,hc,invoke,builtin,ea,et,q1]
             . intro j hj h0;by_cases e:j=k
               . subst e;rw[hk]at h0;simp at h0
               . rw[aJ _ _ _ _ e];exact h0
           . exact ac.elim
         . exact ac.elim
       unfold N9 KN at h;split at h
       . rename_i k;split at h
         . rename_i r hk;have hR:=O.rows k r hk;simp only[rep]at e2;obtain⟨_,rfl,ad,n,cc,V⟩:=e2;obtain⟨xs,ao,_,_⟩:=hR.sl V;have hn:n=r.es.length/\(0<r.es.length->∃g,ad=some ⟨g,0,none⟩):=by
             rcases ao.2 with⟨hv,h0⟩|⟨g,cap,cur,hv,_⟩
             . rw[V]at hv;injection hv with _ h2 _;exact⟨by omega,fun h=>by omega⟩
             . rw[V]at hv;injection hv with h1 h2 _;exact⟨h2,fun _=>⟨g,h1⟩⟩
           refine go k 0 r.es.length r hk (by omega) ⟨ad,cc,by rw[V,hn.1],fun hp=>?_⟩ h;obtain⟨g,rfl⟩:=hn.2 hp;exact⟨g,n,cc,V,by simp⟩
         . exact h.elim
       . rename_i k a0 b0;split at h
         . rename_i r hk;have hR:=O.rows k r hk;obtain⟨_,hb,bi⟩:=FQ hR e2;simp only[rep]at e2;obtain⟨_,ad,n,c0,a6,cc,V,rfl,_,_,ar,_⟩:=e2;refine go k a0 (b0-a0) r hk (by omega) ⟨a6,cc,rfl,fun hp=>?_⟩ h;obtain⟨g,rfl,rfl⟩:=ar (by omega);exact⟨g,n,c0,V,by rw[hR.sz]⟩
         . exact h.elim
       . exact h.elim
     . exact h.elim
   . rename_i x y t t' J;obtain⟨z,hz,hl⟩:=IA (P:=P) (S:=S) (w:=w) (H:=H) (G:=G) (tys:=c.argTypes) (ty:=o.type) h;refine⟨fun hw=>?_,fun hw=>?_⟩
     . have U:=ae.1 hw;have hr:=ak U;simp only[bN]at hr;obtain⟨us,t1,e1,e2,ux,t2,rfl,e3,rfl⟩:=hr;obtain⟨v,hv,aj⟩:=hl U us ux e2 e3;have ea:c.args.map a.eval=#[us,ux]:=Array.toList_inj.1 (by simpa using e1);refine fR (v:=v) (w':=w) ?_ (hK _ _ _ _ hz (Rel.step O X hG hN hd hn O (Grow.refl S w) (gV.refl _ _) (gN U hv)));simp[execOp,ho,resolve,hc,invoke,builtin,ea,aj w (Agree.refl S H w)]
     . have U:¬gt G:=fun h=>by rw[ae.2 h]at hw;simp at hw
       exact hK _ _ _ _ hz (Rel.step O X hG hN hd hn O (Grow.refl S w) (gV.refl _ _) (fY U))
   . rename_i x y t t' J;obtain⟨z,hz,hl⟩:=IR (P:=P) (S:=S) (w:=w) (H:=H) (G:=G) (tys:=c.argTypes) (ty:=o.type) h;refine⟨fun hw=>?_,fun hw=>?_⟩
     . have U:=ae.1 hw;have hr:=ak U;simp only[bN]at hr;obtain⟨us,t1,e1,e2,ux,t2,rfl,e3,rfl⟩:=hr;obtain⟨v,hv,aj⟩:=hl U us ux e2 e3;have ea:c.args.map a.eval=#[us,ux]:=Array.toList_inj.1 (by simpa using e1);refine fR (v:=v) (w':=w) ?_ (hK _ _ _ _ hz (Rel.step O X hG hN hd hn O (Grow.refl S w) (gV.refl _ _) (gN U hv)));simp[execOp,ho,resolve,hc,invoke,builtin,ea,aj w (Agree.refl S H w)]
     . have U:¬gt G:=fun h=>by rw[ae.2 h]at hw;simp at hw
       exact hK _ _ _ _ hz (Rel.step O X hG hN hd hn O (Grow.refl S w) (gV.refl _ _) (fY U))
   . exact h.elim
 . rename_i f hc;obtain⟨yf,h2,hf⟩:=bB (S:=S) (w:=w) h;clear h;have h:=h2;clear h2;split at h
   . rename_i g a8 bc ba;by_cases a7:nl=true
     . rw[if_pos a7]at h;obtain⟨ai,bj,ax,h⟩:=h;have hw:=ae.2 ai;obtain⟨first,E,aw,h2,h3⟩:=DC ba (hf ai _ (dG X (hn▸hb f (by simp[hc]))));have am:bN S w (a8++c.args.toList.map (OG ρ)++bc) (first++c.args.map a.eval++E).toList:=by simp only[Array.toList_append];refine eG _ _ _ _ (eG _ _ _ _ h2 ?_) h3;have:=F7 X c.args.toList (fun x hx=>hn▸hb x (by simp[hc,Array.mem_toList_iff.1 hx]));simpa using this
       have af:(execOp a.eval o).run P w=.ok (.enter g (first++c.args.map a.eval++E)) w:=by simp only[execOp,ho];rw[rC hc aw];simp[invoke,uR ax]
       refine gT hw ?_;have I:=h S w _ O am;unfold Oper.wp;rw[af];simp only[Oper.upon,Array.toArray_toList]at I |-;refine I.mono fun e w' ⟨v,r,H',S',he,hr,an,hv,au,ap⟩=>?_
       subst he;exact hK _ _ _ _ hr (Rel.step O X hG hN hd hn an au ap hv)
     rw[if_neg a7]at h;obtain⟨ys,h2,ak⟩:=qC X c.args.toList (fun x hx=>hn▸hb x (by simp[hc,Array.mem_toList_iff.1 hx])) h;clear h;obtain⟨ax,h⟩:=h2;have bh:=fun hg=>DC ba (hf hg _ (dG X (hn▸hb f (by simp[hc]))))
     have J:gt G->∃first E:Array Value,a.eval f=.func (.func g) first E/\bN S w (a8++ys++bc) (first++c.args.map a.eval++E).toList:=fun hg=>by obtain⟨first,E,h1,h2,h3⟩:=bh hg;refine⟨first,E,h1,?_⟩;simp only[Array.toList_append];refine eG _ _ _ _ (eG _ _ _ _ h2 ?_) h3;simpa using ak hg
     split at h
     . rename_i Y;obtain⟨ai,_⟩:=Y;subst ai;have hw:=eD ae rfl;obtain⟨first,E,aw,am⟩:=J trivial;have af:(execOp a.eval o).run P w=.ok (.enter g (first++c.args.map a.eval++E)) w:=by simp only[execOp,ho];rw[rC hc aw];simp[invoke,uR ax]
       refine gT hw ?_;have I:=h S w _ O am;unfold Oper.wp;rw[af];simp only[Oper.upon,Array.toArray_toList]at I |-;refine I.mono fun e w' ⟨v,r,H',S',he,hr,an,hv,au,ap⟩=>?_
       subst he;exact hK _ _ _ _ hr (Rel.step O X hG hN hd hn an au ap hv)
     . obtain⟨r,hq,hk⟩:=h;refine⟨fun hw=>?_,fun hw=>?_⟩
       . have U:=ae.1 hw;obtain⟨first,E,aw,am⟩:=J U;have af:(execOp a.eval o).run P w=.ok (.enter g (first++c.args.map a.eval++E)) w:=by simp only[execOp,ho];rw[rC hc aw];simp[invoke,uR ax]
         rcases hq U with hq|⟨x,rfl,bg⟩
         . obtain⟨v,bb⟩:=hq.val;obtain⟨hv,I⟩:=hq.calls bb O am;rw[Qc (by rw[bb];rfl)]at hk;unfold Oper.wp;rw[af];simp only[Oper.upon,Array.toArray_toList]at I |-;refine I.mono fun e w' ⟨he,p1,p2,p3,p4,p5⟩=>?_
           subst he;exact hK _ _ _ _ hk (Rel.step O X hG hN hd hn (O.after p4 p5) (O.grow p1 p2 p3 p4 p5) (gV.refl _ _) (gN U (hv S w')))
         . cases av with
           | true=>exact hk.elim
           | false=>
             have I:=(PC.use (H:=H) bg (K:=fun y H'=>y=x/\H'=H) ⟨rfl,rfl⟩) S w _ O am;unfold Oper.wp;rw[af];simp only[Oper.upon,Array.toArray_toList]at I |-;refine I.mono fun e w' ⟨v,r,H',S',he,⟨hr,hH⟩,an,hv,au,ap⟩=>?_
             subst he hr hH;exact hK _ _ _ _ hk (Rel.step O X hG hN hd hn an au ap (gN U hv))
       . have U:¬gt G:=fun h=>by rw[ae.2 h]at hw;simp at hw
         obtain⟨z,hk⟩:=QY hk;exact hK _ _ _ _ hk (Rel.step O X hG hN hd hn O (Grow.refl S w) (gV.refl _ _) (fY U))
   . exact h.elim
 . exact h.elim
end
end Go.Aw
end
section
namespace Go.Aw
open Go.RowKit
section
variable{P:Program}{n:Nat}{S0:Sg}{w0:World}{H0:aH}{mt:Nat->Bool}{ops:Array Oper}{K:Env->aH->Prop}{K':Act->World->Prop}{Q':Exit->Act->World->Prop}{ρ:Env}{H:aH}{a:Act}{w:World}{o:Oper}{S:Sg}
def zG{w':World}(h:(execOp a.eval o).run P w=.ok .skip w')(E:K' (a.put o.dst undef) w'):o.wp P a w K' Q':=by unfold Oper.wp;rw[h];exact E
def Pp{s:Sem Value}{v:Value}{w w':World}(h:s.run P w=.ok v w'):(do pure (Next.value (<-s)):Sem Next).run P w=.ok (.value v) w':=by simp[h]
def OR{t:TypeId}{l:Option Nat}(I:ldT P t=some l){v:Value}{vs:List Value}(O:v.cells=List.toArray vs)(F:vs.length=l.getD 1){g p:Nat}{w w':World}(E:l=none->∃i,P.info? t=some i/\i.size=1)
  (J:(storeCells ⟨g,p,none⟩ vs).run P w=.ok () w'):(Instr.storeAt t (.pointer (some ⟨g,p,none⟩)) v).run P w=.ok () w':=by
 have U:(sizeOf t).run P w=.ok vs.length w:=by
  cases l with
  | none=>obtain⟨i,hi,h1⟩:=E rfl;simp[sizeOf,typeInfo,hi,h1,F]
  | some m=>rw[yL I,F];rfl
 simp[Instr.storeAt,Instr.sureAddr,storeVar,U,O,J]
def BV(z:Array Value)(E:0<z.size):∀m,(madeCells z (m*z.size)).toList=(List.replicate m z.toList).flatten
 | 0=>by simp[madeCells]
 | m+1=>by
  have ih:=BV z E m;rw[show List.replicate (m+1) z.toList=List.replicate m z.toList++[z.toList]from List.replicate_succ',List.flatten_append,<-ih];simp only[madeCells,Array.toList_map,Array.toList_range,Nat.add_mul,Nat.one_mul,List.flatten_cons,List.flatten_nil,List.append_nil];rw[List.range_add,List.map_append]
  congr 1
  apply List.ext_getElem
  ·simp
  ·intro i h1 F;have hi:i<z.size:=by simpa using F
   simp[Nat.add_mod,Nat.mod_eq_of_lt hi,hi]
def JQ:∀(cs:List AV) (l:List Value) (j:Nat) {x:AV},bN S w cs l->(∀u,l[j]?=some u->rep S w x u)->bN S w (cs.set j x) l
 | [],_,_,_,h,_=>h
 | y::r,l,0,x,h,hx=>by simp only[bN,List.set_cons_zero]at h |-;obtain⟨u,t,rfl,h1,E⟩:=h;exact⟨u,t,rfl,hx u (by simp),E⟩
 | y::r,l,j+1,x,h,hx=>by simp only[bN,List.set_cons_succ]at h |-;obtain⟨u,t,rfl,h1,E⟩:=h;exact⟨u,t,rfl,h1,JQ r t j E fun u F=>hx u (by simpa using F)⟩
def tB:∀(nl:List (Nat×TypeId×Nat)) (z:List AV) (S:Sg) (H:aH) (vs:List Value) {K:List AV->aH->Prop},(∀x∈nl,vs[x.1]?=some (.slice none 0 0)/\0<x.2.2)->St S w H->bN S w z vs->lS nl z H K ->
  ∃F S' H',K F H'/\St S' w H'/\Grow S w S' w/\gV S.N H H'/\bN S' w F vs/\F.length=z.length
 | [],z,S,H,vs,K,_,hS,hr,h=>⟨z,S,H,h,hS,Grow.refl S w,gV.refl _ _,hr,rfl⟩
 | x::r,z,S,H,vs,K,hn,hS,hr,h=>by obtain⟨h0,E⟩:=hn x (by simp);have q:=hS.nilRow x.2.1 E;have J:=JQ z vs x.1 (x:=.os S.N) (eT q.2.le (q.2.kept hS) _ _ hr) (fun u I=>by rw[h0]at I;injection I with I;subst I;simp only[rep,Sg.addRow,if_true];exact⟨Nat.lt_succ_self _,trivial,_,_,_,rfl⟩);obtain⟨F,S',H',h1,O,V,X,Y,U⟩:=tB r _ _ _ vs (fun y Z=>hn y (by simp[Z])) q.1 J (h S.N hS.fresh);exact⟨F,S',H',h1,O,q.2.trans V,(qU hS).trans X q.2.le.N,Y,by simpa using U⟩
def Df{P:Program}{t:TypeId}{nl:List (Nat×TypeId×Nat)}(h:uC P t=some nl){i:TypeInfo}{v:Value}(hi:P.info? t=some i)(I:i.zero=some v):∀x∈nl,v.cells.toList[x.1]?=some (.slice none 0 0)/\0<x.2.2:=by
 unfold uC at h;rw[hi]at h;simp only[I]at h;split at h
 ·rename_i E;injection h with h;subst h;intro x F;have:=List.all_eq_true.1 E x F;simp only[Bool.and_eq_true,decide_eq_true_eq]at this;refine⟨?_,this.2⟩;have h1:=this.1;unfold aeX at h1;split at h1
  ·rename_i e;exact e
  ·simp at h1
 ·simp at h
def SL{t:TypeId}{z:List AV}(hS:St S w H)(hF:FR S w ρ a)(hG:Grow S0 w0 S w)(hN:gV S0.N H0 H)(hd:a.defers=[])(hn:a.tmps.size=n)(ho:o.op=.alloc t)(hz:eI P t=some z)
  (hw:Region.wanted o (yielded ops a.tmps)=true) (hK:∀O H' a' w',K O H'->Rel n S0 w0 H0 O H' a' w'->K' a' w') {nl:List (Nat×TypeId×Nat)} (U:uC P t=some nl)
  (h:lS nl z H fun z H=>rQ H ⟨t,z.length,[z]⟩ fun k H'=>K (upd ρ o.dst (.op k 0 0)) H'):A9 P ops o a w K' Q':=by
 obtain⟨i,v,hi,I,rfl,aa,ab,h1⟩:=pS hz;have J:(Instr.alloc t true (.tuple #[])).run P w=.ok (.pointer (some ⟨w.heap.size,0,none⟩)) (w.alloc (.cells v.cells t)):=by simp[Instr.alloc,zeroValue,typeInfo,hi,I,newVar,newRow]
 have V:∀x∈nl,v.cells.toList[x.1]?=some (.slice none 0 0)/\0<x.2.2:=Df U hi I;obtain⟨z',S',H',q0,E,F,Y,X,Z⟩:=tB nl _ S H v.cells.toList V hS (oL _) h;obtain⟨S2,q1,q2,q3⟩:=Ft (t:=t) (cs:=z') (l:=v.cells.toList) E (by rw[Z];simp;omega) X h1;refine gT hw (fR (v:=.pointer (some ⟨w.heap.size,0,none⟩)) (w':=w.alloc (.cells v.cells t)) (by simp[execOp,ho,J]) (hK _ _ _ _ (q0 S'.N E.fresh) (Rel.step E (hF.keep F.le (F.kept hS)) (hG.trans F) (hN.trans Y hG.le.N) hd hn (by simpa using q1) (by simpa using q2) (qU E) (by simpa using q3))))
def GS{t:TypeId}{x y:Operand}{x':AV}{cs:List AV}{l:List Value}(hS:St S w H)(hF:FR S w ρ a)(hG:Grow S0 w0 S w)(hN:gV S0.N H0 H)(hd:a.defers=[])(hn:a.tmps.size=n)(ho:o.op=.store t x y)
  (hw:Region.wanted o (yielded ops a.tmps)=true) (hK:∀O H' a' w',K O H'->Rel n S0 w0 H0 O H' a' w'->K' a' w') (ex:rep S w x' (a.eval x)) (e1:(a.eval y).cells=l.toArray) (e2:bN S w cs l) (e3:∀u∈l,u.oneCell'=true)
  (I:Bx P o t x' cs ρ H K):A9 P ops o a w K' Q':=by
 unfold Bx at I;split at I
 ·rename_i k i f;split at I
  ·rename_i r ld X Z;obtain⟨⟨c1,c2,c3,c4⟩,h5⟩:=I;simp only[rep]at ex;obtain⟨_,g,m,c,F,ep⟩:=ex;obtain⟨g',n',c',w',E,J,q1,q2⟩:=hS.store X c1 c3 F e2 e3;rw[F]at E;injection E with U i2 i3;injection U with U;injection U with U;subst U;rw[<-(hS.rows k r X).sz]at ep;have V:=OR (P:=P) Z e1 (by rw[iV _ _ e2,c2]) (by intro Y;subst Y;exact c4 rfl) (J P);refine gT hw (zG (w':=w') ?_ (hK _ _ _ _ h5 (Rel.step hS hF hG hN hd hn q1 q2 ?_ (by simp only[rep]))))
   ·simp[execOp,ho,ep,V]
   ·intro j _ h0;rw[aJ _ _ _ _ (fun e=>by subst e;rw[X]at h0;simp at h0)];exact h0
  ·exact I.elim
 ·exact I.elim
def Yd:∀(x:List AV) (l:List Value) (j:Nat) (v:Value),bN S w x l->x[j]?=some (.v v)->l[j]?=some v
 | [],_,_,_,_,h=>by simp at h
 | a::r,l,0,v,h,hx=>by
  simp only[bN]at h;obtain⟨u,t,rfl,h1,E⟩:=h;have e:a=.v v:=by simpa using hx
  subst e;simp only[rep]at h1;simp[h1]
 | a::r,l,j+1,v,h,hx=>by simp only[bN]at h;obtain⟨u,t,rfl,h1,E⟩:=h;simpa using Yd r t j v E (by simpa using hx)
def DX{t:TypeId}{x y:Operand}{x':AV}{cs:List AV}{l:List Value}(O:St S w H)(hF:FR S w ρ a)(Y:Grow S0 w0 S w)(hN:gV S0.N H0 H)(hd:a.defers=[])(hn:a.tmps.size=n)(ho:o.op=.store t x y)
  (hw:Region.wanted o (yielded ops a.tmps)=true) (hK:∀I H' a' w',K I H'->Rel n S0 w0 H0 I H' a' w'->K' a' w') (ex:rep S w x' (a.eval x)) (e1:(a.eval y).cells=l.toArray) (V:bN S w cs l) (e3:∀u∈l,u.oneCell'=true)
  (J:wO P o t x' cs ρ H K):A9 P ops o a w K' Q':=by
 rcases J with J|⟨_,nl,F,J⟩
 ·exact GS O hF Y hN hd hn ho hw hK ex e1 V e3 J
 ·obtain⟨z',S',H',q0,X,E,U,Z,aa⟩:=tB nl _ S H l (fun x hx=>⟨Yd _ _ _ _ V (F x hx).1,(F x hx).2⟩) O V J;exact GS X (hF.keep E.le (E.kept O)) (Y.trans E) (hN.trans U Y.le.N) hd hn ho hw hK (nO E.le (E.kept O) _ _ ex) e1 Z e3 q0
def MV{w:World}:∀(nl:List (Nat×TypeId×Nat)) (z:List AV) (vs:List Value),(∀x∈nl,vs[x.1]?=some (.slice none 0 0))->bN S w z vs->bN S w (LO nl z) vs
 | [],z,vs,_,h=>h
 | x :: r, z, vs, hn, h => MV r _ vs (fun y F => hn y (by simp [F])) (JQ z vs x.1 h fun u E => by rw[hn x (by simp)]at E;injection E with E;simp only[rep];exact E.symm)
def Gm{o:Oper}{w1:World}{t:TypeId}{E:Array (Nat×Operand)}(hF:FR S w1 ρ a)(hb:∀x∈o.op.operands,opB a.tmps.size x=true)(X:o.op=.build t E)
  (h:Ct P o t E.toList ρ H K):∃z,K (upd ρ o.dst z) H/\∃v,rep S w1 z v/\∀w,(execOp a.eval o).run P w=.ok (.value v) w:=by
 unfold Ct at h;obtain⟨ps,h,J⟩:=rD hF E.toList (fun p hp=>hb p.2 (by rw[X];simpa[Op.operands]using⟨p.1,by simpa using hp⟩)) h;split at h
 ·rename_i z pl nl hz U I;obtain⟨e1,e2⟩:=J trivial;obtain⟨i,v,hi,F,rfl,aa,ab,h1⟩:=pS hz;split at h
  ·rename_i cs V;obtain⟨O,Y,f2,f3⟩:=xU (S:=S) (w:=w1) hi F h1 (MV nl _ _ (fun x Z=>(Df I hi F x Z).1) (oL _)) U V e1 (fun j i c hj=>e2 j i c hj);refine⟨_,h,.agg O,?_,fun w=>?_⟩
   ·simp only[rep];exact⟨O.toList,by simp,f2,f3⟩
   ·have:(E.map fun(p:Nat×Operand)=>(p.1,a.eval p.2)).toList=E.toList.map fun p=>(p.1,a.eval p.2):=by simp
    rw[<-this]at Y;simp only[execOp,X];exact Cu (run_build w t _ O Y)
  ·exact h.elim
 ·exact h.elim
def Nz{t:TypeId}{E:Array (Nat×Operand)}(J:St S w H)(I:FR S w ρ a)(hG:Grow S0 w0 S w)(Z:gV S0.N H0 H)(U:a.defers=[])(hn:a.tmps.size=n)(Y:o.op=.build t E)(V:∀x∈o.op.operands,opB a.tmps.size x=true)
  (hw:Region.wanted o (yielded ops a.tmps)=true) (hK:∀F H' O w',K F H'->Rel n S0 w0 H0 F H' O w'->K' O w') (h:Ct P o t E.toList ρ H K):A9 P ops o a w K' Q':=by
 obtain⟨z,hz,v,hv,X⟩:=Gm (S:=S) (w1:=w) I V Y h;exact gT hw (fR (v:=v) (w':=w) (X w) (hK _ _ _ _ hz (Rel.step J I hG Z U hn J (Grow.refl S w) (gV.refl _ _) hv)))
def Pi{t:TypeId}{E:Array (Nat×Operand)}(Y:St S w H)(hF:FR S w ρ a)(hG:Grow S0 w0 S w)(hN:gV S0.N H0 H)(hd:a.defers=[])(hn:a.tmps.size=n)(ho:o.op=.build t E)(hb:∀x∈o.op.operands,opB a.tmps.size x=true)
  (hw:Region.wanted o (yielded ops a.tmps)=true) (hK:∀O H' a' w',K O H'->Rel n S0 w0 H0 O H' a' w'->K' a' w') (h:DL P o t E.toList ρ H K):A9 P ops o a w K' Q':=by
 unfold DL at h;obtain⟨ps,h,V⟩:=rD hF E.toList (fun p hp=>hb p.2 (by rw[ho];simpa[Op.operands]using⟨p.1,by simpa using hp⟩)) h;split at h
 ·rename_i z pl nl hz aa U;obtain⟨e1,e2⟩:=V trivial;obtain⟨i,v,hi,I,rfl,ac,ae,h1⟩:=pS hz;obtain⟨z',S',H',q0,J,F,Z,X,ad⟩:=tB nl _ S H v.cells.toList (Df U hi I) Y (oL _) h;split at q0
  ·rename_i cs ab;obtain⟨A',f1,f2,f3⟩:=xU (S:=S') (w:=w) (z:=z') hi I h1 X aa ab e1 (fun j i c hj=>by obtain⟨u,l,g1,g2,g3,g4⟩:=e2 j i c hj;exact⟨u,l,g1,g2,eT F.le (F.kept Y) _ _ g3,g4⟩);refine gT hw (fR (v:=.agg A') (w':=w) ?_ (hK _ _ _ _ q0 (Rel.step J (hF.keep F.le (F.kept Y)) (hG.trans F) (hN.trans Z hG.le.N) hd hn J (Grow.refl S' w) (gV.refl _ _) ?_)))
   ·have:(E.map fun(p:Nat×Operand)=>(p.1,a.eval p.2)).toList=E.toList.map fun p=>(p.1,a.eval p.2):=by simp
    rw[<-this]at f1;simp only[execOp,ho];exact Cu (run_build w t _ A' f1)
   ·simp only[rep];exact⟨A'.toList,by simp,f2,f3⟩
  ·exact q0.elim
 ·exact h.elim
def Hi{t:TypeId}{x:Operand}{K2:AV->Prop}(E:St S w H)(Y:FR S w ρ a)(hG:Grow S0 w0 S w)(hN:gV S0.N H0 H)(hd:a.defers=[])(hn:a.tmps.size=n)(ho:o.op=.store t x (.const (.slice none 0 0)))(hb:∀x∈o.op.operands,opB a.tmps.size x=true)
   (hw:Region.wanted o (yielded ops a.tmps)=true) (hK:∀I H' Z w',K I H'->Rel n S0 w0 H0 I H' Z w'->K' Z w')
   (h : cD none (aev ρ x) fun y => match cM P t with
       | some (e,sz,_)=>rQ H ⟨e,sz,[]⟩ fun k H=>wO P o t y [.os k] ρ H K
       | none=>False):A9 P ops o a w K' Q':=by
 obtain⟨x',J,U⟩:=bB (S:=S) (w:=w) h;have V:opB a.tmps.size x=true:=hb x (by simp[ho,Op.operands]);have ex:=U trivial _ (dG Y V);split at J
 . rename_i e sz X he;obtain⟨i,z,hu,hi,aa,_,F,_⟩:=kE he;have q:=E.nilRow e F;have h3:=J S.N E.fresh;have O:=qU E (r:=some ⟨e,sz,[]⟩);refine DX q.1 (Y.keep q.2.le (q.2.kept E)) (hG.trans q.2) (hN.trans O hG.le.N) hd hn ho hw hK (nO q.2.le (q.2.kept E) _ _ ex) (l:=[.slice none 0 0]) (by simp[Act.eval,Value.cells]) ?_ (by simp[Value.oneCell']) h3;simp only[bN,rep,Sg.addRow,if_true];exact⟨_,_,rfl,⟨Nat.lt_succ_self _,rfl,_,_,_,rfl⟩,rfl⟩
 . exact J.elim
def Nt{x:Operand}(J:St S w H)(hF:FR S w ρ a)(hG:Grow S0 w0 S w)(hN:gV S0.N H0 H)(hd:a.defers=[])(hn:a.tmps.size=n)(ho:o.op=.move x)(hb:∀x∈o.op.operands,opB a.tmps.size x=true)
  (hw:Region.wanted o (yielded ops a.tmps)=true) (hK:∀Z H' a' w',K Z H'->Rel n S0 w0 H0 Z H' a' w'->K' a' w') (h:Cs x ρ o.dst H K):A9 P ops o a w K' Q':=by
 unfold Cs at h;split at h
 ·rename_i t;split at h
  ·rename_i j hj;split at h
   ·rename_i r hr;have ab:=hb (.tmp t) (by simp[ho,Op.operands]);have hv:rep S w (ρ t) (a.eval (.tmp t)):=dG (x:=.tmp t) hF ab;rw[hj]at hv
    let Hf:aH:=fun k=>if k=j then H k else none
    let Hr:aH:=fun k=>if k=j then none else H k
    have Y:∀k r',Hf k=some r'->k=j/\H k=some r':=fun k r' E=>by
     by_cases e:k=j
     ·exact⟨e,by simpa[Hf,e]using E⟩
     ·simp[Hf,e]at E
    have I:∀k r',Hr k=some r'->k≠j/\H k=some r':=fun k r' E=>by
     by_cases e:k=j
     ·simp[Hr,e]at E
     ·exact⟨e,by simpa[Hr,e]using E⟩
    have ad:St S w Hf:=J.drop fun k r' E=>(Y k r' E).2
    have V:rep (S.froze Hf) w (.sl r.es) (a.eval (.tmp t)):=Conv.rep ad (Conv.row j r r.es (by simp[Hf,hr]) (ConvE.refl _)) hv;have X:St (S.froze Hf) w Hr:=by
     refine⟨?_,?_,fun k r' E=>(J.rows k r' (I k r' E).2).keep (S.le_froze Hf) (iL.refl S w) (fun _ _=>rfl),?_,fun k k' r1 O E aa ae g F ac=>J.disj k k' r1 O (I k r1 E).2 (I k' O aa).2 ae g F ac,J.tabs.keep (S.le_froze Hf) (iL.refl S w)⟩
     ·rintro g (F|F)
      ·exact .inl (J.ro_fz g F)
      ·exact .inr F
     ·rintro g (F|⟨k,r',E,F⟩)
      ·exact J.fz_lt g F
      ·exact(J.rows k r' (Y k r' E).2).block_lt F
     ·rintro k r' E g F (h1|⟨i,O,hi,h2⟩)
      ·exact J.free k r' (I k r' E).2 g F h1
      ·exact J.disj k i r' O (I k r' E).2 (Y i O hi).2 (fun e=>(I k r' E).1 (e.trans (Y i O hi).1)) g F h2
    have F:Grow S w (S.froze Hf) w:=by
     refine⟨S.le_froze Hf,fun k E=>.inl E,rfl,rfl,rfl,Nat.le_refl _,fun _ _=>rfl,?_⟩;rintro g (F|⟨k,r',E,F⟩)
     ·exact .inl F
     ·exact .inr (J.free k r' (Y k r' E).2 g F)
    have af:FR (S.froze Hf) w (upd ρ (some t) (.sl r.es)) a:=fun t' U=>by
     by_cases e:t'=t
     ·subst e;have h1:=V;simp only[upd,if_true];simpa[Act.eval,Array.getD,U]using h1
     ·simp only[upd,if_neg e];exact(hF.keep (S.le_froze Hf) (iL.refl S w)) t' U
    have E:=h Hr (by simp[Hr]) (fun k E=>by simp[Hr,E]);refine gT hw (fR (v:=a.eval (.tmp t)) (w':=w) ?_ (hK _ _ _ _ E (Rel.step X af (hG.trans F) (hN.trans (fun k _ h0=>by
     by_cases e:k=j
     ·simp[Hr,e]
     ·simp[Hr,e,h0]) hG.le.N) hd hn X (Grow.refl _ _) (gV.refl _ _) V)))
    simp[execOp,ho]
   ·exact h.elim
  ·exact h.elim
 ·exact h.elim
def IE{l:List Nat}:∀{xs E:List AV},Lm l H xs E->ConvL (fun k=>if k∈l then H k else none) xs E
 | [],[],_=>.nil
 | x::xs,y::E,h=>by
  simp only[Lm]at h;obtain⟨h1,F⟩:=h;refine .cons _ _ _ _ ?_ (IE F);rcases h1 with rfl|⟨j,r,I,rfl,J,rfl⟩
  ·exact .refl _
  ·exact .row j r r.es (by rw[if_pos I];exact J) (ConvE.refl _)
 | [],_::_,h=>by simp[Lm]at h
 | _::_,[],h=>by simp[Lm]at h
def aiZ{x y:AV}{d:Option Nat}{l:List Nat}{Y:Act}{w':World}(hR:Rel n S0 w0 H0 (upd ρ d x) H Y w')(hc:Conv (fun k=>if k∈l then H k else none) x y):Rel n S0 w0 H0 (upd ρ d y) (fun k=>if k∈l then none else H k) Y w':=by
 obtain⟨S,J,hF,hG,hN,hd,hn⟩:=hR
 let Hf:aH:=fun k=>if k∈l then H k else none
 let Hr:aH:=fun k=>if k∈l then none else H k
 have V:∀k r',Hf k=some r'->k∈l/\H k=some r':=fun k r' E=>by
  by_cases e:k∈l
  ·exact⟨e,by simpa[Hf,e]using E⟩
  ·simp[Hf,e]at E
 have I:∀k r',Hr k=some r'->¬k∈l/\H k=some r':=fun k r' E=>by
  by_cases e:k∈l
  ·simp[Hr,e]at E
  ·exact⟨e,by simpa[Hr,e]using E⟩
 have aa:St S w' Hf:=J.drop fun k r' E=>(V k r' E).2
 have ab:St (S.froze Hf) w' Hr:=by
  refine⟨?_,?_,fun k r' E=>(J.rows k r' (I k r' E).2).keep (S.le_froze Hf) (iL.refl S w') (fun _ _=>rfl),?_,fun k k' r1 O E X ac g F Z=>J.disj k k' r1 O (I k r1 E).2 (I k' O X).2 ac g F Z,J.tabs.keep (S.le_froze Hf) (iL.refl S w')⟩
  ·rintro g (F|F)
   ·exact .inl (J.ro_fz g F)
   ·exact .inr F
  ·rintro g (F|⟨k,r',E,F⟩)
   ·exact J.fz_lt g F
   ·exact(J.rows k r' (V k r' E).2).block_lt F
  ·rintro k r' E g F (h1|⟨i,O,hi,h2⟩)
   ·exact J.free k r' (I k r' E).2 g F h1
   ·exact J.disj k i r' O (I k r' E).2 (V i O hi).2 (fun e=>(I k r' E).1 (e▸(V i O hi).1)) g F h2
 have F:Grow S w' (S.froze Hf) w':=by
  refine⟨S.le_froze Hf,fun k E=>.inl E,rfl,rfl,rfl,Nat.le_refl _,fun _ _=>rfl,?_⟩;rintro g (F|⟨k,r',E,F⟩)
  ·exact .inl F
  ·exact .inr (J.free k r' (V k r' E).2 g F)
 have ad:FR (S.froze Hf) w' (upd ρ d y) Y:=fun t' U=>by
  have h1:=hF t' U;cases d with
  | none=>exact hF.keep (S.le_froze Hf) (iL.refl S w') t' U
  | some d=>
   by_cases e:t'=d
   ·subst e;simp only[upd,if_true]at h1 |-;exact Conv.rep aa hc h1
   ·simp only[upd,if_neg e]at h1 |-;exact nO (S.le_froze Hf) (iL.refl S w') _ _ h1
 exact⟨S.froze Hf,ab,ad,hG.trans F,hN.trans (fun k _ h0=>by
  by_cases e:k∈l
  ·simp[e]
  ·simp[e,h0]) hG.le.N,hd,hn⟩
def TY{G:Option Bool}{l:Option Nat}{y:AV}{E K2:AV->Prop}(F:∀z,E z->K2 z)(h:qQ G H l y E):qQ G H l y K2:=by
 unfold qQ at h |-;cases y with
 | rp cs off=>cases l <;> exact⟨h.1,F _ h.2⟩
 | op k i f=>
  simp only at h |-;cases I:H k with
  | none=>rw[I]at h;exact h.elim
  | some r=>rw[I]at h;cases l <;> exact⟨h.1,F _ h.2⟩
 | _=>exact h.elim
def YO{G:Option Bool}{x:AV}{E K2:AV->Prop}(F:∀z,E z->K2 z)(h:cD G x E):cD G x K2:=by
 unfold cD at h |-;split at h
 ·exact⟨h.1,F _ h.2⟩
 ·exact F _ h
def G7{G:Option Bool}{t:TypeId}{x:Operand}{E K2:AV->Prop}(I:∀z,E z->K2 z)(h:jN P G ρ H (.load t x) E):jN P G ρ H (.load t x) K2:=by
 simp only[jN]at h |-;cases F:ldT P t with
 | none=>rw[F]at h;exact h.elim
 | some l=>rw[F]at h;exact YO (fun y J=>TY I J) h
def Vt{t:TypeId}{x:Operand}(hS:St S w H)(V:FR S w ρ a)(hG:Grow S0 w0 S w)(Z:gV S0.N H0 H)(U:a.defers=[])(hn:a.tmps.size=n)(Y:o.op=.load t x)(X:∀x∈o.op.operands,opB n x=true)
  (I:Region.wanted o (yielded ops a.tmps)=true↔gt none) (hK:∀E H' J w',K E H'->Rel n S0 w0 H0 E H' J w'->K' J w') (h:jN P none ρ H (.load t x) fun x=>Mp x ρ o.dst H K):A9 P ops o a w K' Q':=by
 refine uY (K:=fun E H'=>∃z,E=upd ρ o.dst z/\H'=H/\Mp z ρ o.dst H K) hS V hG Z U hn X I ?_ (by rw[Y];exact G7 (fun z F=>⟨z,rfl,rfl,F⟩) h);rintro E H' J w' ⟨z,rfl,rfl,F⟩ hR;unfold Mp at F;split at F
 ·obtain⟨l,ys,ht,O⟩:=F;exact hK _ _ _ _ (O (fun k=>if k∈l then none else H' k) (fun k e=>if_pos e) (fun k e=>if_neg e)) (aiZ hR (.agg _ _ (IE ht)))
 ·exact F.elim
def G5{t:TypeId}{l c:Operand}(hS:St S w H)(hF:FR S w ρ a)(hG:Grow S0 w0 S w)(hN:gV S0.N H0 H)(hd:a.defers=[])(hn:a.tmps.size=n)(ho:o.op=.makeSlice t l c)(hb:∀x∈o.op.operands,opB a.tmps.size x=true)
  (hw:Region.wanted o (yielded ops a.tmps)=true) (hK:∀aa H' a' w',K aa H'->Rel n S0 w0 H0 aa H' a' w'->K' a' w')
  (h:cD none (aev ρ l) fun l=>cD none (aev ρ c) fun c=>vZ P o t l c ρ H K):A9 P ops o a w K' Q':=by
 rw[ho]at hb;simp only[Op.operands]at hb;obtain⟨l',h2,hl⟩:=bB (S:=S) (w:=w) h;obtain⟨c',U,hc⟩:=bB (S:=S) (w:=w) h2;have el:=hl trivial _ (dG hF (hb l (by simp)));have ec:=hc trivial _ (dG hF (hb c (by simp)));unfold vZ at U;split at U
 ·rename_i kl x kc y;simp only[rep]at el ec;split at U
  ·rename_i e sz F he;split at U
   ·rename_i z hz;obtain⟨⟨⟨p1,p2⟩,p3⟩,h4⟩:=U;obtain⟨i,v,hi,ab,rfl,ac,aj,h1⟩:=pS hz;obtain⟨i',z',ae,I,J,Y,Z,ad,ag,ah⟩:=kE he;rw[hi]at I;injection I with I;subst I;have E:v.cells.size=sz:=by rw[ac,J]
    have ai:y<=(F:Int)*y:=by have:(1:Int)*y<=(F:Int)*y:=Int.mul_le_mul_of_nonneg_right (by omega) (by omega);omega
    have O:=run_make (P:=P) w t e i v ae hi ab kl kc x y p1 p2 (by rw[Y];omega) (by omega);have hm:(madeCells v.cells (y.toNat*sz)).toList=(List.replicate y.toNat v.cells.toList).flatten:=by rw[<-E];exact BV _ (by omega) _
    have V:(madeCells v.cells (y.toNat*sz)).toList.take (x.toNat*sz)=(List.replicate x.toNat v.cells.toList).flatten:=by
     rw[hm,<-E];have:y.toNat=x.toNat+(y.toNat-x.toNat):=by omega
     rw[this,<-List.replicate_append_replicate,List.flatten_append,List.take_append_of_le_length (by simp[List.length_flatten]),List.take_of_length_le (by simp[List.length_flatten])]
    have X:∀m,bN S w (List.replicate m (v.cells.toList.map tI)).flatten (List.replicate m v.cells.toList).flatten:=by
     intro m;induction m with
     | zero=>simp[bN]
     | succ m ih=>simp only[List.replicate_succ,List.flatten_cons];exact eG _ _ _ _ (oL _) ih
    rw[J]at O;have q:=hS.newRow (e:=e) (sz:=sz) (cap:=y.toNat) (es:=List.replicate x.toNat (v.cells.toList.map tI)) (xs:=(List.replicate x.toNat v.cells.toList).flatten) (cur:=madeCells v.cells (y.toNat*sz)) Z
     (fun cs af=>by rw[List.eq_of_mem_replicate af];simp[E]) (X _) (fun u hu=>by obtain⟨l,hl,hu⟩:=List.mem_flatten.1 hu;rw[List.eq_of_mem_replicate hl]at hu;exact h1 u hu) (by rw[List.length_replicate];omega) (by simp only[maxLen];omega) (size_madeCells _ _) (by rw[List.length_replicate];exact V) (w':=w.alloc (.cells (madeCells v.cells (y.toNat*sz)) e)) rfl rfl rfl rfl
    refine gT hw (fR (v:=.slice (some ⟨w.heap.size,0,none⟩) x.toNat y.toNat) (w':=w.alloc (.cells (madeCells v.cells (y.toNat*sz)) e)) ?_ (hK _ _ _ _ (h4 S.N hS.fresh) (Rel.step hS hF hG hN hd hn q.1 q.2 (qU hS) ?_)))
    ·simp only[execOp,ho,el,ec];exact Pp O
    ·simp only[rep,Sg.addRow,if_true,List.length_replicate];exact⟨Nat.lt_succ_self _,trivial,_,_,_,rfl⟩
   ·exact U.elim
  ·exact U.elim
 ·exact U.elim
def HT{E new:Value}(h:∀n,Instr.sameBits (n+1) E new=true)(w:World):(Instr.keyThatStays E new).run P w=.ok new w:=by have:=h 9999;simp[Instr.keyThatStays,this]
def xI{ms:List MapEntry}{i:Nat}{m:MapEntry}(hi:ms[i]?=some m)(f:MapEntry->MapEntry):ms.modify i f=ms.set i (f m):=by
 apply List.ext_getElem?;intro j;rw[List.getElem?_modify,List.getElem?_set];by_cases e:i=j
 ·subst e;have E:i<ms.length:=(List.getElem?_eq_some_iff.1 hi).1;rw[hi];simp[E]
 ·simp[e]
def FC{t:TypeId}{m x:AV}{F:Nat->Row->TypeId×TypeId->Option Nat->Prop}(hS:St S w H){u v:Value}(U:rep S w m u)(hv:rep S w x v)(h:Gq P H t m x F):
  ∃j r E I g ms,F j r E I/\H j=some r/\u=.map (some g)/\S.loc j=.map (some g)/\w.heap[g]?=some (.map (List.toArray ms) ms.length)/\mR S w 0 r.es ms/\r.sz=2/\P.underlying t=some (.map E.1 E.2)/\(∀e (w':World),(Instr.checkKey e 10000 E.1 v).run P w'=.ok () w') /\
   ((I=none/\∀w':World,(Instr.findKey E.1 v ms).run P w'=.ok none w') \/
   ∃i m cs,I=some i/\ms[i]?=some m/\r.es[i]?=some cs/\(∀w':World,(Instr.findKey E.1 v ms).run P w'=.ok (some (i,m.val)) w')/\m.key=v/\(∀n,Instr.sameBits (n+1) m.key v=true)/\m.born=i/\bN S w cs [m.key,m.val]):=by
 unfold Gq at h;split at h
 ·rename_i j;split at h
  ·rename_i r E V ht;split at h
   ·rename_i I hf;obtain⟨hp,h⟩:=h;simp only[rep]at U;obtain⟨_,rfl,g0,O⟩:=U;have X:=(hS.rows j r V).mp O;obtain⟨g,ms,h1,Y,h3,h4,h5,Z⟩:=Qe ht hp hf X hv;obtain⟨_,_,_,_,_,J⟩:=X;exact⟨j,r,E,I,g,ms,h,V,h1,h1,Y,h3,J,h4,h5,Z⟩
   ·exact h.elim
  ·exact h.elim
 ·exact h.elim
def zF{j:Nat}{r:Row}{q:Option Row}(E:H j=some r):gV S.N H (aM H j q):=fun k _ h0=>by rw[aJ _ _ _ _ (fun e=>by subst e;rw[E]at h0;cases h0)];exact h0
def Hh{t:TypeId}{m x v:Operand}(U:St S w H)(J:FR S w ρ a)(hG:Grow S0 w0 S w)(hN:gV S0.N H0 H)(hd:a.defers=[])(hn:a.tmps.size=n)(ho:o.op=.mapUpdate t m x v)(Y:∀x∈o.op.operands,opB a.tmps.size x=true)
  (hw:Region.wanted o (yielded ops a.tmps)=true) (hK:∀Z H' a' w',K Z H'->Rel n S0 w0 H0 Z H' a' w'->K' a' w')
  (h:cD none (aev ρ m) fun m=>cD none (aev ρ x) fun x=>cD none (aev ρ v) fun v=>nZ P o t m x v ρ H K):A9 P ops o a w K' Q':=by
 rw[ho]at Y;simp only[Op.operands]at Y;obtain⟨m',h,hm⟩:=bB (S:=S) (w:=w) h;obtain⟨x',h,hx⟩:=bB (S:=S) (w:=w) h;obtain⟨v',h,hv⟩:=bB (S:=S) (w:=w) h;have em:=hm trivial _ (dG J (Y m (by simp)));have ex:=hx trivial _ (dG J (Y x (by simp)));have V:=hv trivial _ (dG J (Y v (by simp)));unfold nZ at h;obtain⟨j,r,kt,oi,g,ms,hk,hj,e0,hl,hg,F,O,ab,X,I⟩:=FC U em ex h;have aa:g<w.heap.size:=(Array.getElem?_eq_some_iff.1 hg).1;rcases I with⟨rfl,ad⟩|⟨i,me,cs,rfl,q1,q2,q3,q4,q5,q6,q7⟩
 ·have E:=Eh (m:=⟨a.eval x,a.eval v,ms.length⟩) (cs:=[x',v']) 0 _ _ F (by simp[B4 _ _ _ F]) (by simp only[bN];exact⟨_,_,rfl,ex,_,_,rfl,V,rfl⟩);have q:=U.setMap hj hl E O aa;refine gT hw (zG (w':={ w with heap:=w.heap.setIfInBounds g (.map (ms++[(⟨a.eval x,a.eval v,ms.length⟩:MapEntry)]).toArray (ms++[(⟨a.eval x,a.eval v,ms.length⟩:MapEntry)]).length) }) ?_ (hK _ _ _ _ hk (Rel.step U J hG hN hd hn q.1 q.2 (zF hj) (by simp only[rep]))));simp[execOp,ho,e0,Instr.mapUpdate,run_underlying ab,MapKept.run_getObj_map hg,X,ad,MapKept.run_setObj_map _ hg]
 ·have E:=Ep (m:=⟨a.eval x,a.eval v,i⟩) (cs:=[x',v']) 0 _ _ i F (by simp) (by simp only[bN];exact⟨_,_,rfl,ex,_,_,rfl,V,rfl⟩);have q:=U.setMap hj hl E O aa;refine gT hw (zG (w':={ w with heap:=w.heap.setIfInBounds g (.map (ms.set i ⟨a.eval x,a.eval v,i⟩).toArray (ms.set i (⟨a.eval x,a.eval v,i⟩:MapEntry)).length) }) ?_ (hK _ _ _ _ hk (Rel.step U J hG hN hd hn q.1 q.2 (zF hj) (by simp only[rep]))));have ac:=HT (P:=P) q5;simp[execOp,ho,e0,Instr.mapUpdate,run_underlying ab,MapKept.run_getObj_map hg,X,q3,q1,ac,MapKept.run_setObj_map _ hg,xI q1,q6]
def On{t:TypeId}{m x v:Operand}(U:St S w H)(J:FR S w ρ a)(hG:Grow S0 w0 S w)(hN:gV S0.N H0 H)(hd:a.defers=[])(hn:a.tmps.size=n)(ho:o.op=.insert t m x v)(Y:∀x∈o.op.operands,opB a.tmps.size x=true)
  (hw:Region.wanted o (yielded ops a.tmps)=true) (hK:∀Z H' a' w',K Z H'->Rel n S0 w0 H0 Z H' a' w'->K' a' w')
  (h:cD none (aev ρ m) fun m=>cD none (aev ρ x) fun x=>cD none (aev ρ v) fun v=>nZ P o t m x v ρ H K):A9 P ops o a w K' Q':=by
 rw[ho]at Y;simp only[Op.operands]at Y;obtain⟨m',h,hm⟩:=bB (S:=S) (w:=w) h;obtain⟨x',h,hx⟩:=bB (S:=S) (w:=w) h;obtain⟨v',h,hv⟩:=bB (S:=S) (w:=w) h;have em:=hm trivial _ (dG J (Y m (by simp)));have ex:=hx trivial _ (dG J (Y x (by simp)));have V:=hv trivial _ (dG J (Y v (by simp)));unfold nZ at h;obtain⟨j,r,kt,oi,g,ms,hk,hj,e0,hl,hg,F,O,ab,X,I⟩:=FC U em ex h;have aa:g<w.heap.size:=(Array.getElem?_eq_some_iff.1 hg).1;rcases I with⟨rfl,ad⟩|⟨i,me,cs,rfl,q1,q2,q3,q4,q5,q6,q7⟩
 ·have E:=Eh (m:=⟨a.eval x,a.eval v,ms.length⟩) (cs:=[x',v']) 0 _ _ F (by simp[B4 _ _ _ F]) (by simp only[bN];exact⟨_,_,rfl,ex,_,_,rfl,V,rfl⟩);have q:=U.setMap hj hl E O aa;refine gT hw (zG (w':={ w with heap:=w.heap.setIfInBounds g (.map (ms++[(⟨a.eval x,a.eval v,ms.length⟩:MapEntry)]).toArray (ms++[(⟨a.eval x,a.eval v,ms.length⟩:MapEntry)]).length) }) ?_ (hK _ _ _ _ hk (Rel.step U J hG hN hd hn q.1 q.2 (zF hj) (by simp only[rep]))));simp[execOp,ho,e0,Instr.mapUpdate,run_underlying ab,MapKept.run_getObj_map hg,X,ad,MapKept.run_setObj_map _ hg]
 ·have E:=Ep (m:=⟨a.eval x,a.eval v,i⟩) (cs:=[x',v']) 0 _ _ i F (by simp) (by simp only[bN];exact⟨_,_,rfl,ex,_,_,rfl,V,rfl⟩);have q:=U.setMap hj hl E O aa;refine gT hw (zG (w':={ w with heap:=w.heap.setIfInBounds g (.map (ms.set i ⟨a.eval x,a.eval v,i⟩).toArray (ms.set i (⟨a.eval x,a.eval v,i⟩:MapEntry)).length) }) ?_ (hK _ _ _ _ hk (Rel.step U J hG hN hd hn q.1 q.2 (zF hj) (by simp only[rep]))));have ac:=HT (P:=P) q5;simp[execOp,ho,e0,Instr.mapUpdate,run_underlying ab,MapKept.run_getObj_map hg,X,q3,q1,ac,MapKept.run_setObj_map _ hg,xI q1,q6]
def J9{t:TypeId}{m x:Operand}(hS:St S w H)(hF:FR S w ρ a)(hG:Grow S0 w0 S w)(hN:gV S0.N H0 H)(hd:a.defers=[])(hn:a.tmps.size=n)(ho:o.op=.mapEntry t m x)(hb:∀x∈o.op.operands,opB a.tmps.size x=true)
  (hw:Region.wanted o (yielded ops a.tmps)=true) (hK:∀ab H' a' w',K ab H'->Rel n S0 w0 H0 ab H' a' w'->K' a' w')
  (h:cD none (aev ρ m) fun m=>cD none (aev ρ x) fun x=>Cc P o t m x ρ H K):A9 P ops o a w K' Q':=by
 rw[ho]at hb;simp only[Op.operands]at hb;obtain⟨m',h,hm⟩:=bB (S:=S) (w:=w) h;obtain⟨x',h,hx⟩:=bB (S:=S) (w:=w) h;have em:=hm trivial _ (dG hF (hb m (by simp)));have ex:=hx trivial _ (dG hF (hb x (by simp)));unfold Cc at h;obtain⟨j,r,kt,oi,g,ms,O,hj,e0,hl,X,E,ad,ac,aa,U⟩:=FC hS em ex h;have I:g<w.heap.size:=(Array.getElem?_eq_some_iff.1 X).1;rcases U with⟨rfl,ag⟩|⟨i,Z,cs,rfl,q1,q2,q3,q4,q5,q6,q7⟩
 ·simp only at O;split at O
  ·rename_i z hz;obtain⟨zv,ae,Y⟩:=L8 hz;have F:=Eh (m:=⟨a.eval x,zv,ms.length⟩) (cs:=[x',z]) 0 _ _ E (by simp[B4 _ _ _ E]) (by simp only[bN];exact⟨_,_,rfl,ex,_,_,rfl,Y S w,rfl⟩);have q:=hS.setMap hj hl F ad I;refine gT hw (fR (v:=.tuple #[zv,goInt ms.length]) (w':={ w with heap:=w.heap.setIfInBounds g (.map (ms++[(⟨a.eval x,zv,ms.length⟩:MapEntry)]).toArray (ms++[(⟨a.eval x,zv,ms.length⟩:MapEntry)]).length) }) ?_ (hK _ _ _ _ O (Rel.step hS hF hG hN hd hn q.1 q.2 (zF hj) ?_)))
   ·simp[execOp,ho,e0,Instr.mapEntry,run_underlying ac,MapKept.run_getObj_map X,aa,ag,ae,MapKept.run_setObj_map _ X]
   ·simp only[rep,bN];exact⟨[zv,goInt ms.length],by simp,_,_,rfl,Y _ _,_,_,rfl,by rw[<-B4 _ _ _ E];rfl,rfl⟩
  ·exact O.elim
 ·simp only at O;have V:ms.set i ⟨a.eval x,Z.val,i⟩=ms:=by
   have e0:(⟨a.eval x,Z.val,i⟩:MapEntry)=Z:=by rw[<-q4,<-q6]
   rw[e0];apply List.ext_getElem?;intro k;rw[List.getElem?_set];by_cases e:i=k
   ·subst e;have I:i<ms.length:=(List.getElem?_eq_some_iff.1 q1).1;rw[q1];simp[I]
   ·simp[e]
  have hm:({ w with heap:=w.heap.setIfInBounds g (.map ms.toArray ms.length) }:World)=w:=by
   have hh:w.heap.setIfInBounds g (.map ms.toArray ms.length)=w.heap:=by
    apply Array.ext_getElem?;intro k;rw[Array.getElem?_setIfInBounds];by_cases e:g=k
    ·subst e;rw[X];simp[I]
    ·simp[e]
   rw[hh]
  obtain⟨xk,xv,rfl,r1,r2⟩:=IZ q7;have e1:(r.es.getD i []).getD 1 .any=xv:=by simp[List.getD,q2]
  rw[e1]at O;refine gT hw (fR (v:=.tuple #[Z.val,goInt i]) (w':=w) ?_ (hK _ _ _ _ O (Rel.step hS hF hG hN hd hn hS (Grow.refl S w) (gV.refl _ _) ?_)))
  ·have af:=HT (P:=P) q5;have J:=MapKept.run_setObj_map (P:=P) (.map (List.toArray ms) ms.length) X;rw[hm]at J;simp[execOp,ho,e0,Instr.mapEntry,run_underlying ac,MapKept.run_getObj_map X,aa,q3,q1,af,xI q1,V,J,q6]
  ·simp only[rep,bN];exact⟨[Z.val,goInt i],by simp,_,_,rfl,r2,_,_,rfl,rfl,rfl⟩
def L6:∀(i:Nat) (es:List (List AV)) (ms:List MapEntry) (j:Nat) {m:MapEntry},mR S w i es ms->ms[j]?=some m->ms.findIdx? (fun e=>(e.born:Int) == ((i+j:Nat):Int))=some j
 | _,[],ms,j,m,h,hj=>by simp only[mR]at h;subst h;simp at hj
 | i,c::r,ms,0,m,h,hj=>by simp only[mR]at h;obtain⟨F,t,rfl,h1,_,I⟩:=h;simp[List.findIdx?_cons,h1]
 | i,c::r,ms,j+1,m,h,hj=>by
  simp only[mR]at h;obtain⟨F,t,rfl,h1,_,I⟩:=h;have ih:=L6 (i+1) r t j I (by simpa using hj);have E:((F.born:Int) == ((i+(j+1):Nat):Int))=false:=by simp[h1];omega
  rw[List.findIdx?_cons,E,show i+(j+1)=i+1+j by omega,ih];rfl
def FO{t:TypeId}{m s v:Operand}(Z:St S w H)(X:FR S w ρ a)(hG:Grow S0 w0 S w)(hN:gV S0.N H0 H)(hd:a.defers=[])(hn:a.tmps.size=n)(ho:o.op=.entryStore t m s v)(O:∀x∈o.op.operands,opB a.tmps.size x=true)
  (hw:Region.wanted o (yielded ops a.tmps)=true) (hK:∀V H' a' w',K V H'->Rel n S0 w0 H0 V H' a' w'->K' a' w')
  (h:cD none (aev ρ m) fun m=>cD none (aev ρ s) fun s=>cD none (aev ρ v) fun v=>xJ o m s v ρ H K):A9 P ops o a w K' Q':=by
 rw[ho]at O;simp only[Op.operands]at O;obtain⟨m',h,hm⟩:=bB (S:=S) (w:=w) h;obtain⟨s',h,hs⟩:=bB (S:=S) (w:=w) h;obtain⟨v',h,hv⟩:=bB (S:=S) (w:=w) h;have em:=hm trivial _ (dG X (O m (by simp)));have es:=hs trivial _ (dG X (O s (by simp)));have aa:=hv trivial _ (dG X (O v (by simp)));unfold xJ at h;split at h
 ·rename_i j kd i _ _;split at h
  ·rename_i r hj;obtain⟨⟨i0,i1⟩,h⟩:=h;simp only[rep]at em es;obtain⟨_,e0,g0,J⟩:=em;rw[e0]at J;obtain⟨g,ms,hl,hg,E,Y⟩:=(Z.rows j r hj).mp J;have ab:g<w.heap.size:=(Array.getElem?_eq_some_iff.1 hg).1;obtain⟨I,g1,g2,g3⟩:=Tb 0 _ _ i.toNat E (by omega);obtain⟨xk,xv,e1,r1,r2⟩:=IZ g3;have e2:(r.es.getD i.toNat []).getD 0 .any=xk:=by rw[e1];rfl
   rw[e2]at h;have F:=Ep (m:=⟨I.key,a.eval v,I.born⟩) (cs:=[xk,v']) 0 _ _ i.toNat E (by simpa using g2) (by simp only[bN];exact⟨_,_,rfl,r1,_,_,rfl,aa,rfl⟩);have q:=Z.setMap hj hl F Y ab;have U:=L6 0 _ _ i.toNat E g1;rw[Nat.zero_add,Int.toNat_of_nonneg i0]at U;refine gT hw (zG (w':={ w with heap:=w.heap.setIfInBounds g (.map (ms.set i.toNat ⟨I.key,a.eval v,I.born⟩).toArray (ms.set i.toNat (⟨I.key,a.eval v,I.born⟩:MapEntry)).length) }) ?_ (hK _ _ _ _ h (Rel.step Z X hG hN hd hn q.1 q.2 (zF hj) (by simp only[rep]))));rw[hl]at e0;simp[execOp,ho,e0,es,asInt,asIntOf,Instr.entryStore,MapKept.run_getObj_map hg,U,MapKept.run_setObj_map _ hg,xI g1]
  ·exact h.elim
 ·exact h.elim
def KU{t:TypeId}(F:St S w H)(U:FR S w ρ a)(hG:Grow S0 w0 S w)(Z:gV S0.N H0 H)(O:a.defers=[])(V:a.tmps.size=n)(Y:o.op=.makeMap t none)
  (J:Region.wanted o (yielded ops a.tmps)=true) (X:∀E H' I w',K E H'->Rel n S0 w0 H0 E H' I w'->K' I w')
  (h:rQ H ⟨0,2,[]⟩ fun k H'=>K (upd ρ o.dst (.om k)) H'):A9 P ops o a w K' Q':=by
 have q:=F.newMap (w':=w.alloc (.map #[] 0)) rfl rfl rfl rfl;refine gT J (fR (v:=.map (some w.heap.size)) (w':=w.alloc (.map #[] 0)) ?_ (X _ _ _ _ (h S.N F.fresh) (Rel.step F U hG Z O V q.1 q.2 (qU F) ?_)))
 ·simp[execOp,Y,Instr.makeMap]
 ·simp only[rep,Sg.addRow,if_true];exact⟨Nat.lt_succ_self _,trivial,_,rfl⟩
def CK{ag:Bool}(aj:∀o∈ops,mB n o=true)(F:St S w H)(U:FR S w ρ a)(hG:Grow S0 w0 S w)(Z:gV S0.N H0 H)(V:a.defers=[])(O:a.tmps.size=n)(hb:mB n o=true)
   (X:∀ak H' a' w',K ak H'->Rel n S0 w0 H0 ak H' a' w'->K' a' w') (h:aop P (bM P) (fB P) mt ag ops o ρ H K):A9 P ops o a w K' Q':=by
 obtain⟨J,_⟩:=AU hb;unfold aop at h;obtain⟨G,h2,E⟩:=zZ aj U O h;clear h;have h:=h2;clear h2;split at h
 . -- assign
   rename_i x I;unfold Ek at h;split at h
   . rename_i af;obtain⟨_,rfl,_,hx⟩:=af;have hx:x=.const (.slice none 0 0):=by
       unfold vQ at hx;split at hx
       . rfl
       . simp at hx
     subst hx;split at h
     . rename_i e sz ae he;obtain⟨i,z,hu,hi,ap,_,Y,_⟩:=kE he;have hw:=eD E rfl;have q:=F.nilRow e Y;refine gT hw (fR (v:=.slice none 0 0) (w':=w) (by simp[execOp,I,Act.eval]) (X _ _ _ _ (h S.N F.fresh) (Rel.step F U hG Z V O q.1 q.2 (qU F) ?_)));simp only[rep,Sg.addRow,if_true];exact⟨Nat.lt_succ_self _,trivial,_,_,_,rfl⟩
     . exact h.elim
   . exact uY F U hG Z V O J E X (by rw[I];exact h)
 . -- alloc
   rename_i t I;split at h
   . rename_i z hz;obtain⟨rfl,_,h⟩:=h;have hw:=eD E rfl;split at h
     . split at h
       . rename_i nl al;exact SL F U hG Z V O I hz hw X al h
       . exact h.elim
     obtain⟨v,i,hi,rfl,h1,au,ab⟩:=YM hz (.tuple #[]) w;obtain⟨S',q1,q2,q3⟩:=Ft (t:=t) (cs:=v.cells.toList.map tI) (l:=v.cells.toList) F (by simp;omega) (oL _) h1;refine gT hw (fR (v:=.pointer (some ⟨w.heap.size,0,none⟩)) (w':=w.alloc (.cells v.cells t)) (by simp[execOp,I,ab]) (X _ _ _ _ (h S.N F.fresh) (Rel.step F U hG Z V O (by simpa using q1) (by simpa using q2) (qU F) (by simpa using q3))))
   . exact h.elim
 . -- box
   rename_i t x I;obtain⟨rfl,_,h⟩:=h;have hw:=eD E rfl;obtain⟨y,h2,hy⟩:=bB (S:=S) (w:=w) h;obtain⟨cs,h3,ai⟩:=Am (S:=S) (w:=w) h2;have hx:opB a.tmps.size x=true:=O▸J x (by simp[I,Op.operands]);obtain⟨l,e1,e2,e3⟩:=ai _ (hy trivial _ (dG U hx));have ab:(execOp a.eval o).run P w=.ok (.value (.pointer (some ⟨w.heap.size,0,none⟩))) (w.alloc (.cells l.toArray t)):=by simp[execOp,I,anA,e1]
   unfold anT at h3;split at h3
   . obtain⟨Y,h4⟩:=h3;obtain⟨S',q1,q2,q3⟩:=Ft (t:=t) F Y e2 e3;exact gT hw (fR ab (X _ _ _ _ (h4 S.N F.fresh) (Rel.step F U hG Z V O q1 q2 (qU F) q3)))
   . have q:=F.newRo (o:=.cells l.toArray t) (w':=w.alloc (.cells l.toArray t)) rfl rfl rfl rfl;refine gT hw (fR ab (X _ _ _ _ h3 (Rel.step F U hG Z V O q.1 q.2 (gV.refl _ _) ?_)));simp only[rep];refine⟨w.heap.size,0,by simp,.inr rfl,?_⟩;refine kT _ l 0 (eT q.2.le (q.2.kept F) _ _ e2) e3 fun j u hj=>?_
     rw[cell_of_row (w.alloc (.cells l.toArray t)) w.heap.size (0+j) l.toArray t (0,0) (heap_alloc_new w _)];simpa using hj
 . -- buildSlice
   rename_i t m aa I;obtain⟨_,h⟩:=h;obtain⟨ps,h2,aq⟩:=rD U aa.toList (fun p hp=>O▸J p.2 (by rw[I];simpa[Op.operands]using⟨p.1,by simpa using hp⟩)) h;unfold qN at h2;split at h2
   . rename_i e sz ae he;obtain⟨⟨p1,p2,p3⟩,h3⟩:=h2;have go:∀(_:gt G),∃xs:List Value,(execOp a.eval o).run P w=.ok (.value (.slice (some ⟨w.heap.size,0,none⟩) m m)) (w.alloc (.cells xs.toArray e))/\bN S w (ps.map (·.2)).flatten xs/\(∀u∈xs,u.oneCell'=true)/\ps.length=m/\xs.length=m*sz:=fun hg=>by
       obtain⟨f1,f2⟩:=aq hg;have hl:(aa.map fun(p:Nat×Operand)=>(p.1,a.eval p.2)).toList=aa.toList.map fun p=>(p.1,a.eval p.2):=by simp
       rw[<-hl]at f1 f2;obtain⟨xs,g1,g2,g3,g4,g5⟩:=IX (w:=w) he p1 p2 f1 f2 p3;refine⟨xs,?_,g2,g3,g4,g5⟩;simp only[execOp,I];exact Pp g1
     obtain⟨av,z,hu,hi,ap,_,Y,_⟩:=kE he;split at h3
     . rename_i af;obtain⟨_,rfl⟩:=af;have hw:=eD E rfl;obtain⟨xs,g1,g2,g3,g4,g5⟩:=go trivial;have ac:(ps.map (·.2)).length=m:=by simpa using g4
       have q:=F.newRow (e:=e) (sz:=sz) (cap:=m) (es:=ps.map (·.2)) (xs:=xs) (cur:=xs.toArray) Y (kG.1 p2) g2 g3 (by omega) (by simp only[maxLen];have:m<=m*sz:=Nat.le_mul_of_pos_right _ Y;omega) (by simpa using g5)
         (by rw[ac,List.take_of_length_le (by simp[g5])]) (w':=w.alloc (.cells xs.toArray e)) rfl rfl rfl rfl
       refine gT hw (fR g1 (X _ _ _ _ (h3 S.N F.fresh) (Rel.step F U hG Z V O q.1 q.2 (qU F) ?_)));simp only[rep,Sg.addRow,if_true];exact⟨Nat.lt_succ_self _,by rw[ac],_,_,_,rfl⟩
     . refine And.symm ⟨fun hw=>?_,fun hw=>?_⟩
       . have ad:¬gt G:=fun h=>by rw[E.2 h]at hw;simp at hw
         exact X _ _ _ _ h3 (Rel.step F U hG Z V O F (Grow.refl S w) (gV.refl _ _) (fY ad))
       have ad:=E.1 hw;obtain⟨xs,g1,g2,g3,g4,g5⟩:=go ad;have ac:(ps.map (·.2)).length=m:=by simpa using g4
       have q:=F.newRo (o:=.cells xs.toArray e) (w':=w.alloc (.cells xs.toArray e)) rfl rfl rfl rfl;refine fR g1 (X _ _ _ _ h3 (Rel.step F U hG Z V O q.1 q.2 (gV.refl _ _) (gN ad ?_)));simp only[rep];refine⟨_,_,_,rfl,ac,Nat.le_refl _,by simp only[maxLen];have:m<=m*sz:=Nat.le_mul_of_pos_right _ Y;omega,.inr ⟨w.heap.size,0,sz,rfl,.inr rfl,Y,?_⟩⟩;refine sY _ _ (kG.1 p2) (kT _ xs 0 (eT q.2.le (q.2.kept F) _ _ g2) g3 fun j u hj=>?_);rw[cell_of_row (w.alloc (.cells xs.toArray e)) w.heap.size (0+j) xs.toArray e (0,0) (heap_alloc_new w _)];simpa using hj
   . exact h2.elim
 . -- store
   rename_i t x y I;obtain⟨rfl,_,h⟩:=h;have hw:=eD E rfl;split at h
   . rename_i ah;have hy:y=.const (.slice none 0 0):=by
       unfold vQ at ah;split at ah
       . rfl
       . simp at ah
     subst hy;exact Hi (K2:=fun _=>True) F U hG Z V O I (fun x hx=>O▸J x hx) hw X h
   obtain⟨x',h2,am⟩:=bB (S:=S) (w:=w) h;obtain⟨y',h3,ar⟩:=bB (S:=S) (w:=w) h2;obtain⟨cs,h4,ai⟩:=Am (S:=S) (w:=w) h3;have an:opB a.tmps.size x=true:=O▸J x (by simp[I,Op.operands]);have ao:opB a.tmps.size y=true:=O▸J y (by simp[I,Op.operands]);have ex:=am trivial _ (dG U an);obtain⟨l,e1,e2,e3⟩:=ai _ (ar trivial _ (dG U ao));exact DX F U hG Z V O I hw X ex e1 e2 e3 h4
 . rename_i c I;exact Sp F U hG Z V O I J E X h
 all_goals first
   | exact h.elim
   | (rename_i I; split at h
      . obtain⟨rfl,_,h⟩:=h;exact Nt F U hG Z V O I (fun x hx=>O▸J x hx) (eD E rfl) X h
      . exact uY F U hG Z V O J E X (by rw[I];exact h))
   | (rename_i I; split at h
      . obtain⟨rfl,_,h⟩:=h;exact Vt F U hG Z V O I J E X h
      . exact uY F U hG Z V O J E X (by rw[I];exact h))
   | (rename_i I; split at h
      . obtain⟨rfl,h⟩:=h;split at h
        . exact Nz F U hG Z V O I (fun x hx=>O▸J x hx) (eD E rfl) X h
        . exact Pi F U hG Z V O I (fun x hx=>O▸J x hx) (eD E rfl) X h
      . exact uY F U hG Z V O J E X (by rw[I];exact h))
   | (rename_i I;obtain⟨rfl,_,h⟩:=h;exact G5 F U hG Z V O I (fun x hx=>O▸J x hx) (eD E rfl) X h)
   | (rename_i I;exact uY F U hG Z V O J E X (by rw[I];exact h))
   | (rename_i I;obtain⟨rfl,_,h⟩:=h;exact KU F U hG Z V O I (eD E rfl) X h)
   | (rename_i I;obtain⟨rfl,_,h⟩:=h;exact Hh F U hG Z V O I (fun x hx=>O▸J x hx) (eD E rfl) X h)
   | (rename_i I;obtain⟨rfl,_,h⟩:=h;exact On F U hG Z V O I (fun x hx=>O▸J x hx) (eD E rfl) X h)
   | (rename_i I;obtain⟨rfl,_,h⟩:=h;exact J9 F U hG Z V O I (fun x hx=>O▸J x hx) (eD E rfl) X h)
   | (rename_i I;obtain⟨rfl,_,h⟩:=h;exact FO F U hG Z V O I (fun x hx=>O▸J x hx) (eD E rfl) X h)
end
end Go.Aw
end
section
namespace Go.Aw
open Go.RowKit
section
variable{P:Program}{ops:Array Oper}{md:Region.Mode}{C:World->Prop}{R:World->World->Prop}{Q':Exit->Act->World->Prop}
def N5(P:Program)(K:Value->World->Prop):Result Next->Prop
 | .ok (.value v) w'=>K v w'
 | .ok .skip w'=>K undef w'
 | .ok (.enter f args) w'=>Calls P f args w' fun e w''=>∃v,e=.returned v/\K v w''
 | .ok (.row row args) w'=>Rows P row args w' K
 | _=>False
def gAt(P:Program)(o:Oper)(a:Act)(w:World)(K:Value->World->Prop):Prop:=N5 P K ((execOp a.eval o).run P w)
def gOp(P:Program)(ops:Array Oper)(i:Nat)(K:Act->World->Prop)(a:Act)(w:World):Prop:=
 match ops[i]? with
 | none=>False
 | some o=>if Region.wanted o (yielded ops a.tmps)=true then gAt P o a w (fun v w'=>K (a.put o.dst v) w')else K (a.put o.dst undef) w
def uU{K K':Value->World->Prop}(h:∀v w,K v w->K' v w){r:Result Next}(E:N5 P K r):N5 P K' r:=by
 cases r with
 | ok n w'=>
  cases n <;> simp only[N5]at E |-
  case value u=>exact h _ _ E
  case skip=>exact h _ _ E
  case enter f args=>exact E.mono fun e I ⟨v,J,F⟩=>⟨v,J,h _ _ F⟩
  case row row args=>exact E.mono h
 | halt x w'=>simp only[N5]at E
def Kf{i:Nat}{a:Act}{w:World}{K K':Act->World->Prop}(h:∀a w,K a w->K' a w)(E:gOp P ops i K a w):gOp P ops i K' a w:=by
 unfold gOp at *;split
 ·rename_i I;simp only[I]at E
 ·rename_i o I;simp only[I]at E;split
  ·rename_i F;rw[if_pos F]at E;exact uU (fun v w' J=>h _ _ J) E
  ·rename_i F;rw[if_neg F]at E;exact h _ _ E
def Zs{o:Oper}{a:Act}{w:World}{K:Act->World->Prop}(h:gAt P o a w (fun v w'=>K (a.put o.dst v) w')):o.wp P a w K Q':=by
 unfold Oper.wp;unfold gAt at h;generalize (execOp a.eval o).run P w=r at *;cases r with
 | ok n w'=>
  cases n <;> simp only[N5]at h <;> simp only[Oper.upon]
  case value u=>exact h
  case skip=>exact h
  case enter f args=>exact h.mono fun e F ⟨v,I,E⟩=>by subst I;exact E
  case row row args=>exact h
 | halt x w'=>simp only[N5]at h
def Px{i:Nat}{a:Act}{w:World}{K:Act->World->Prop}(h:gOp P ops i K a w):wpOp P ops Q' i K a w:=by
 unfold gOp at h;unfold wpOp;split
 ·rename_i F;simp only[F]at h
 ·rename_i o F;simp only[F]at h;split
  ·rename_i E;rw[if_pos E]at h;exact .inl (Zs h)
  ·rename_i E;rw[if_neg E]at h;exact h
def OY{o:Oper}{a:Act}{w:World}{v:Value}{D:World->Prop}(I:D w)(h:o.quietAt P a D w v):gAt P o a w (fun u w'=>u=v/\D w'):=by
 unfold Oper.quietAt at h;unfold gAt;generalize (execOp a.eval o).run P w=r at *;cases r with
 | ok n w'=>
  cases n <;> simp only[Oper.quietUpon]at h <;> simp only[N5]
  case value u=>obtain⟨E,F⟩:=h;rw[E];exact⟨F,I⟩
  case skip=>obtain⟨E,F⟩:=h;rw[E];exact⟨F.symm,I⟩
  case enter f args=>obtain⟨E,O⟩:=h;rw[E];exact O.mono fun e U ⟨V,J⟩=>⟨v,V,rfl,J⟩
 | halt x w'=>simp only[Oper.quietUpon]at h
def mI(P:Program)(md:Region.Mode)(ops:Array Oper)(C:World->Prop)(R:World->World->Prop)(Q':Exit->Act->World->Prop):Nat->Array Bool->Act->World->Prop
 | 0,listed,a,w=>Region.ready md ops listed=[]/\Q' .normal a w
 | f+1,listed,a,w=>Region.ready md ops listed≠[] /\
   ∀i∈Region.ready md ops listed,gOp P ops i (fun a' w'=>C w'/\∀w2,R w' w2->mI P md ops C R Q' f (listed.setIfInBounds i true) a' w2) a w
def zU(E:∀w,R w w):∀(f:Nat) (listed:Array Bool) (a:Act) (w:World),mI P md ops C R Q' f listed a w->wpAny P md ops Q' f listed a w
 | 0,_,_,_,h=>h
 | f+1,_,_,_,h=>⟨fun h0=>absurd h0 h.1,fun i hi=>Px (Kf (fun I w' F=>zU E f _ _ _ (F.2 w' (E w'))) (h.2 i hi))⟩
def YQ(P:Program)(ops:Array Oper)(C:World->Prop)(R:World->World->Prop)(o:Oper)(v:Value)(a:Act):Prop:=
 (Region.wanted o (yielded ops a.tmps)=true/\∀w,C w->o.quietAt P a (R w) w v)\/(Region.wanted o (yielded ops a.tmps)=false/\v=undef)
def YQ.of_same{o:Oper}{v:Value}{a E:Act}(I:YQ P ops C R o v a)(J:execOp E.eval o=execOp a.eval o)
  (F:Region.wanted o (yielded ops E.tmps)=Region.wanted o (yielded ops a.tmps)):YQ P ops C R o v E:=by
 unfold YQ Oper.quietAt at *;rw[J,F];exact I
def amI{j:Nat}{E F:Oper}{v:Value}(hj:ops[j]?=some F)(J:E.apart ops F=true)
  (I:∀cs b,E.op≠.select cs b) (O:∀cs b,F.op≠.select cs b) {K:Act->World->Prop} {a:Act} {w:World}
  (hy:YQ P ops C R E v a) (h:gOp P ops j K (a.put E.dst v) w):
  gOp P ops j (fun X w'=>YQ P ops C R E v X/\K (X.put E.dst v) w') a w:=by
 obtain⟨h1,V,Y⟩:=Oper.apart_spec J;have keep:∀u,YQ P ops C R E v (a.put F.dst u):=fun u=>hy.of_same (execOp_put E I a F.dst u Y) (wanted_put E a F.dst u Y)
 unfold gOp at *;simp only[hj]at *;rw[wanted_put F a E.dst v h1]at h;split
 ·rename_i U;rw[if_pos U]at h;unfold gAt at *;rw[execOp_put F O a E.dst v h1]at h;exact uU (fun u w' Z=>⟨keep u,by rw[<-Act.put_comm a v u V];exact Z⟩) h
 ·rename_i U;rw[if_neg U]at h;exact⟨keep _,by rw[<-Act.put_comm a v undef V];exact h⟩
def K5{i:Nat}{E:Oper}{v:Value}{a:Act}{w:World}(hi:ops[i]?=some E)(J:C w)(I:∀w,R w w)(U:YQ P ops C R E v a){K:Act->World->Prop}(h:∀w',R w w'->K (a.put E.dst v) w'):
  gOp P ops i K a w:=by
 unfold gOp;simp only[hi];rcases U with⟨F,V⟩|⟨F,rfl⟩
 ·rw[if_pos F];exact uU (fun u w' ⟨e,O⟩=>by subst e;exact h w' O) (OY (I w) (V w J))
 ·rw[if_neg (by simp[F])];exact h w (I w)
def oH{i:Nat}{oi:Oper}{v:Value}(hi:ops[i]?=some oi)(U:∀(j:Nat) (o:Oper) cs b,ops[j]?=some o->o.op≠.select cs b)
   (hR:∀w,R w w) (hT:∀w w' ag,R w w'->R w' ag->R w ag) (aa:∀w w',C w->R w w'->C w'):
   ∀(f:Nat) (E:Array Bool) (a:Act) (w:World),C w ->
     (∀j oj,ops[j]?=some oj->j≠i->E.getD j true=false->(∀e∈oj.after,Region.binds md e=true->e.on≠i)->oi.apart ops oj=true) ->
     i∈Region.ready md ops E->YQ P ops C R oi v a ->
     (∀X,R w X->mI P md ops C R Q' f (E.setIfInBounds i true) (a.put oi.dst v) X)->mI P md ops C R Q' (f+1) E a w:=by
 intro f;induction f with
 | zero=>
   intro E a w hC _ hr hy H;refine⟨fun h=>(by rw[h]at hr;cases hr),fun j hj=>?_⟩;by_cases F:j=i
   . subst F;exact K5 hi hC hR hy fun w' I=>⟨aa _ _ hC I,fun X V=>H X (hT _ _ _ I V)⟩
   . have:=ready_mono hj F;rw[(H w (hR w)).1]at this;cases this
 | succ f ih=>
   intro E a w hC J hr hy H;refine⟨fun h=>(by rw[h]at hr;cases hr),fun j hj=>?_⟩;by_cases F:j=i
   . subst F;exact K5 hi hC hR hy fun w' I=>⟨aa _ _ hC I,fun X V=>H X (hT _ _ _ I V)⟩
   . have h1:=(H w (hR w)).2 j (ready_mono hj F);obtain⟨Y,oj,Z,af⟩:=mem_ready.1 hj;have ad:∀e∈oj.after,Region.binds md e=true->e.on≠i:=fun e he hb ah=>by
       have h1:=af e he hb;have h0:=(mem_ready.1 hr).1;rw[ah]at h1;rcases Nat.lt_or_ge i E.size with h'|h'
       . simp[h']at h0 h1;rw[h0]at h1;cases h1
       . simp[Array.getElem?_eq_none h']at h1
     have V:=amI Z (J j oj Z F Y ad) (fun cs b=>U i oi cs b hi) (fun cs b=>U j oj cs b Z) hy h1;have O : ∀ k ok, ops[k]? = some ok -> k ≠ i -> (E.setIfInBounds j true).getD k true = false ->
         (∀e∈ok.after,Region.binds md e=true->e.on≠i)->oi.apart ops ok=true:=fun k ok hk aj ac ak=>by
       refine J k ok hk aj ?_ ak;by_cases ae:j=k
       . subst ae;exact Y
       . rw[getD_set_ne true ae]at ac;exact ac
     refine Kf (fun a' w' ⟨ai,ab,hk⟩=>⟨ab,fun X V=>ih (E.setIfInBounds j true) a' X (aa _ _ ab V) O (ready_mono hr (Ne.symm F)) ai fun w3 h3=>?_⟩) V;rw[Array.setIfInBounds_comm _ _ F];exact hk w3 (hT _ _ _ V h3)
end
def Rw(w w':World):Prop:=w'.os=w.os/\w'.tape=w.tape/\w'.output=w.output/\w.heap.size<=w'.heap.size/\∀k,k<w.heap.size->w'.heap[k]?=w.heap[k]?
def Rw.refl(w:World):Rw w w:=⟨rfl,rfl,rfl,Nat.le_refl _,fun _ _=>rfl⟩
def Rw.trans{w w' E:World}(h:Rw w w')(F:Rw w' E):Rw w E:=
 ⟨F.1.trans h.1,F.2.1.trans h.2.1,F.2.2.1.trans h.2.2.1,Nat.le_trans h.2.2.2.1 F.2.2.2.1,fun k I=>(F.2.2.2.2 k (Nat.lt_of_lt_of_le I h.2.2.2.1)).trans (h.2.2.2.2 k I)⟩
def Cb(S:Sg)(wb w:World):Prop:=w.os=wb.os/\w.tape=wb.tape/\w.output=wb.output/\wb.heap.size<=w.heap.size/\∀k,S.fz k->w.heap[k]?=wb.heap[k]?
def Cb.rw{S:Sg}{wb w w':World}{H:aH}(I:St S wb H)(h:Cb S wb w)(E:Rw w w'):Cb S wb w':=
 ⟨E.1.trans h.1,E.2.1.trans h.2.1,E.2.2.1.trans h.2.2.1,Nat.le_trans h.2.2.2.1 E.2.2.2.1,fun k F=>(E.2.2.2.2 k (Nat.lt_of_lt_of_le (I.fz_lt k F) h.2.2.2.1)).trans (h.2.2.2.2 k F)⟩
def Rw.cb{S:Sg}{wb w:World}{H:aH}(F:St S wb H)(h:Rw wb w):Cb S wb w:=⟨h.1,h.2.1,h.2.2.1,h.2.2.2.1,fun k E=>h.2.2.2.2 k (F.fz_lt k E)⟩
def Cb.st{S:Sg}{wb w:World}{H:aH}(F:St S wb H)(h:Cb S wb w):St S w bQ:=
 ⟨F.ro_fz,fun k E=>Nat.lt_of_lt_of_le (F.fz_lt k E) h.2.2.2.1,fun k r E=>by simp[bQ]at E,fun k r E=>by simp[bQ]at E,fun k k' r r' E=>by simp[bQ]at E,F.tabs.keep S.le_refl (fun k E=>h.2.2.2.2 k (F.ro_fz k E))⟩
def Cb.kept{S:Sg}{wb w:World}{H:aH}(F:St S wb H)(h:Cb S wb w):iL S wb w:=fun k E=>h.2.2.2.2 k (F.ro_fz k E)
def Cb.agree{S:Sg}{wb w:World}{H:aH}(F:St S wb H)(h:Cb S wb w):Agree S bQ wb w:=⟨h.kept F,fun k r E=>by simp[bQ]at E⟩
def Grow.cb{S S':Sg}{wb w:World}(h:Grow S wb S' w):Cb S wb w:=⟨h.os,h.tape,h.output,h.size,h.same⟩
section
variable{P:Program}{n:Nat}{S0:Sg}{w0:World}{H0:aH}{mt:Nat->Bool}{ops:Array Oper}{K:Env->aH->Prop}{ρ:Env}{H:aH}{a:Act}{w:World}
def Rel.rw{w':World}(h:Rel n S0 w0 H0 ρ H a w)(E:Rw w w'):Rel n S0 w0 H0 ρ H a w':=by obtain⟨S,F,O,X,V,J,U⟩:=h;have I:=F.grow E.1 E.2.1 E.2.2.1 E.2.2.2.1 E.2.2.2.2;exact⟨S,F.after E.2.2.2.1 E.2.2.2.2,O.keep S.le_refl (I.kept F),X.trans I,V,J,U⟩
def E8{o:Oper}{K':Act->World->Prop}(I:∀a w,K' a w->a.defers=[])(h:o.wp P a w K' fun _ _ _=>False):gAt P o a w fun v w'=>K' (a.put o.dst v) w':=by
 unfold Oper.wp at h;unfold gAt;generalize (execOp a.eval o).run P w=r at *;cases r with
 | ok m w'=>
  cases m <;> simp only[Oper.upon]at h <;> simp only[N5]
  case value u=>exact h
  case skip=>exact h
  case enter f args=>
   refine h.mono fun e F E=>?_
   cases e
   case returned v=>exact⟨v,rfl,E⟩
   case panicked c=>exact E.elim
   case outgrown=>obtain⟨_,_,h⟩:=E;exact h.elim
  case defer d=>have:=I _ _ h;rw[rW]at this;simp at this
  case row row args=>exact h
 | halt x w'=>cases x <;> simp only[Oper.upon]at h
variable{S:Sg}
def Aa{o:Oper}{w1:World}{CC:World->Prop}(I:∀w,CC w->St S w H/\Agree S H w1 w)(Y:St S w1 H)(J:FR S w1 ρ a)(Z:a.tmps.size=n)(O:∀x∈o.op.operands,opB n x=true){G:Option Bool}
  (E:Region.wanted o (yielded ops a.tmps)=true↔gt G) (h:jN P G ρ H o.op fun x=>K (upd ρ o.dst (wr G x)) H):
  ∃z,K (upd ρ o.dst z) H/\(Region.wanted o (yielded ops a.tmps)=true->∃v,rep S w1 z v/\∀w,CC w->o.quietAt P a (Rw w) w v)/\(Region.wanted o (yielded ops a.tmps)=false->rep S w1 z undef):=by
 obtain⟨z,hz,V⟩:=GA (Z▸O) J Y.rows h;refine⟨_,hz,fun F=>?_,fun F=>?_⟩
 ·obtain⟨v,hv,U⟩:=V (E.1 F);refine⟨v,gN (E.1 F) hv,fun w X=>?_⟩;unfold Oper.quietAt;rw[U w (I w X).2 o rfl];exact⟨rfl,rfl⟩
 ·exact fY fun h=>by rw[E.2 h]at F;simp at F
def Tx{o:Oper}{c:Call}{w1:World}{CC:World->Prop}(aa:∀w,CC w->St S w H/\Agree S H w1 w)(hS:St S w1 H)(hF:FR S w1 ρ a)(hn:a.tmps.size=n)(ho:o.op=.call c)(hb:∀x∈o.op.operands,opB n x=true){G:Option Bool}
  (V:Region.wanted o (yielded ops a.tmps)=true↔gt G) {nl:Bool} (h:D7 P (bM P) (fB P) nl true G o c ρ H K):
  ∃z,K (upd ρ o.dst z) H/\(Region.wanted o (yielded ops a.tmps)=true->∃v,rep S w1 z v/\∀w,CC w->o.quietAt P a (Rw w) w v)/\(Region.wanted o (yielded ops a.tmps)=false->rep S w1 z undef):=by
 rw[ho]at hb;simp only[Op.operands,Call.operands]at hb;unfold D7 at h;split at h
 ·rename_i b hc;obtain⟨ys,h2,Z⟩:=qC hF c.args.toList (fun x hx=>hn▸hb x (by simp[Array.mem_toList_iff.1 hx])) h;clear h;have h:=h2;clear h2;split at h
  ·rename_i x t J;obtain⟨z,hz,hl⟩:=Iw (G:=G) (ty:=o.type) hS.rows h;refine⟨_,hz,fun O=>?_,fun O=>fY fun h=>by rw[V.2 h]at O;simp at O⟩;have F:=V.1 O;have hr:=Z F;simp only[bN]at hr;obtain⟨u,t',e1,e2,rfl⟩:=hr;obtain⟨v,hv,X⟩:=hl F u e2;have ea:c.args.map a.eval=#[u]:=Array.toList_inj.1 (by simpa using e1);have et:c.argTypes=#[t]:=Array.toList_inj.1 (by simpa using J);refine⟨v,gN F hv,fun w U=>?_⟩;unfold Oper.quietAt;have:(execOp a.eval o).run P w=.ok (.value v) w:=by simp[execOp,ho,resolve,hc,invoke,builtin,ea,et,X w (aa w U).2]
   rw[this];exact⟨rfl,rfl⟩
  ·split at h
   ·rename_i I;simp at I
   ·exact h.elim
  ·split at h
   ·rename_i I;simp at I
   ·exact h.elim
  ·split at h
   ·rename_i I;simp at I
   ·exact h.elim
  ·rename_i x y t t' J;obtain⟨z,hz,hl⟩:=IA (P:=P) (S:=S) (w:=w1) (H:=H) (G:=G) (tys:=c.argTypes) (ty:=o.type) h;refine⟨_,hz,fun O=>?_,fun O=>fY fun h=>by rw[V.2 h]at O;simp at O⟩
   ·have F:=V.1 O;have hr:=Z F;simp only[bN]at hr;obtain⟨us,t1,e1,e2,ux,t2,rfl,e3,rfl⟩:=hr;obtain⟨v,hv,X⟩:=hl F us ux e2 e3;have ea:c.args.map a.eval=#[us,ux]:=Array.toList_inj.1 (by simpa using e1);refine⟨v,gN F hv,fun w U=>?_⟩;unfold Oper.quietAt;have:(execOp a.eval o).run P w=.ok (.value v) w:=by simp[execOp,ho,resolve,hc,invoke,builtin,ea,X w (aa w U).2]
    rw[this];exact⟨rfl,rfl⟩
  ·rename_i x y t t' J;obtain⟨z,hz,hl⟩:=IR (P:=P) (S:=S) (w:=w1) (H:=H) (G:=G) (tys:=c.argTypes) (ty:=o.type) h;refine⟨_,hz,fun O=>?_,fun O=>fY fun h=>by rw[V.2 h]at O;simp at O⟩
   ·have F:=V.1 O;have hr:=Z F;simp only[bN]at hr;obtain⟨us,t1,e1,e2,ux,t2,rfl,e3,rfl⟩:=hr;obtain⟨v,hv,X⟩:=hl F us ux e2 e3;have ea:c.args.map a.eval=#[us,ux]:=Array.toList_inj.1 (by simpa using e1);refine⟨v,gN F hv,fun w U=>?_⟩;unfold Oper.quietAt;have:(execOp a.eval o).run P w=.ok (.value v) w:=by simp[execOp,ho,resolve,hc,invoke,builtin,ea,X w (aa w U).2]
    rw[this];exact⟨rfl,rfl⟩
  ·exact h.elim
 ·rename_i f hc;obtain⟨yf,h2,hf⟩:=bB (S:=S) (w:=w1) h;clear h;have h:=h2;clear h2;split at h
  ·rename_i g ai af ah;by_cases ae:nl=true
   ·rw[if_pos ae]at h;exact absurd h.2.1 (by decide)
   rw[if_neg ae]at h;obtain⟨ys,h2,Z⟩:=qC hF c.args.toList (fun x hx=>hn▸hb x (by simp[hc,Array.mem_toList_iff.1 hx])) h;clear h;obtain⟨ag,h⟩:=h2;have aj:=fun hg=>DC ah (hf hg _ (dG hF (hn▸hb f (by simp[hc]))))
   have J:gt G->∃first E:Array Value,a.eval f=.func (.func g) first E/\bN S w1 (ai++ys++af) (first++c.args.map a.eval++E).toList:=fun hg=>by obtain⟨first,E,h1,h2,h3⟩:=aj hg;refine⟨first,E,h1,?_⟩;simp only[Array.toList_append];refine eG _ _ _ _ (eG _ _ _ _ h2 ?_) h3;simpa using Z hg
   split at h
   ·rename_i I;simp at I
   ·obtain⟨r,hq,hk⟩:=h;by_cases F:gt G
    ·rcases hq F with hq|⟨x,rfl,al⟩
     ·obtain⟨v,ab⟩:=hq.val;rw[Qc (by rw[ab];rfl)]at hk;refine⟨_,hk,fun O=>?_,fun O=>fY fun h=>by rw[V.2 h]at O;simp at O⟩;obtain⟨first,E,ak,ad⟩:=J F;have ac:∀w,(execOp a.eval o).run P w=.ok (.enter g (first++c.args.map a.eval++E)) w:=fun w=>by simp only[execOp,ho];rw[rC hc ak];simp[invoke,uR ag]
      have hv:=(hq.calls ab hS ad).1;refine⟨v,gN F (hv S w1),fun w U=>?_⟩;have Y:=(hq.calls ab (aa w U).1 (eT S.le_refl (aa w U).2.kept _ _ ad)).2;unfold Oper.quietAt;rw[ac];refine⟨rfl,?_⟩;rw[Array.toArray_toList]at Y;exact Y
     ·exact hk.elim
    ·obtain⟨z,hk⟩:=QY hk;refine⟨_,hk,fun O=>absurd (V.1 O) F,fun O=>fY F⟩
  ·exact h.elim
 ·exact h.elim
def Ck{o:Oper}{w1:World}{CC:World->Prop}(I:∀w,CC w->St S w H/\Agree S H w1 w)(V:∀o∈ops,mB n o=true)(X:St S w1 H)(O:FR S w1 ρ a)(U:a.tmps.size=n)(hb:mB n o=true)(h:aop P (bM P) (fB P) mt true ops o ρ H K):
   ∃z,K (upd ρ o.dst z) H/\(Region.wanted o (yielded ops a.tmps)=true->∃v,rep S w1 z v/\∀w,CC w->o.quietAt P a (Rw w) w v)/\(Region.wanted o (yielded ops a.tmps)=false->rep S w1 z undef):=by
 obtain⟨E,_⟩:=AU hb;unfold aop at h;obtain⟨G,Z,F⟩:=zZ V O U h;clear h;have h:=Z;clear Z;split at h
 . rename_i x J;unfold Ek at h;split at h
   . rename_i Y;simp at Y
   . exact Aa I X O U E F (by rw[J];exact h)
 . split at h
   . simp at h
   . exact h.elim
 . simp at h
 . simp at h
 . simp at h
 . rename_i c J;exact Tx I X O U J E F h
 all_goals first
   | exact h.elim
   | (simp at h;done)
   | (rename_i J; split at h
      . simp at h;done
      . exact Aa I X O U E F (by rw[J];exact h))
   | (rename_i J; split at h
      . obtain⟨rfl,h⟩:=h;rw[if_pos rfl]at h;obtain⟨z,hz,v,hv,hq⟩:=Gm (S:=S) (w1:=w1) O (fun x hx=>U▸E x hx) J h;exact⟨z,hz,fun _=>⟨v,hv,fun w _=>by unfold Oper.quietAt;rw[hq w];exact⟨rfl,rfl⟩⟩,fun hw=>by rw[eD F rfl]at hw;cases hw⟩
      . exact Aa I X O U E F (by rw[J];exact h))
   | (rename_i J;exact Aa I X O U E F (by rw[J];exact h))
def Qz{o:Oper}{w1:World}{CC:World->Prop}(I:∀w,CC w->St S w bQ/\Agree S bQ w1 w)(Z:St S w1 H)(U:FR S w1 ρ a)(hn:a.tmps.size=n){t:TypeId}{x:Operand}{lo hi m:Option Operand}(O:o.op=.slice t x lo hi m)(J:∀x∈o.op.operands,opB n x=true){G:Option Bool}
  (E:Region.wanted o (yielded ops a.tmps)=true↔gt G) (h:jN P G ρ H o.op fun x=>K (upd ρ o.dst (wr G x)) H):
  ∃z,K (upd ρ o.dst z) H/\(Region.wanted o (yielded ops a.tmps)=true->∃v,rep S w1 z v/\∀w,CC w->o.quietAt P a (Rw w) w v)/\(Region.wanted o (yielded ops a.tmps)=false->rep S w1 z undef):=by
 rw[O]at J h;obtain⟨z,hz,X⟩:=DN (H':=bQ) (hn▸J) U Z.rows h;refine⟨_,hz,fun F=>?_,fun F=>?_⟩
 ·obtain⟨v,hv,V⟩:=X (E.1 F);refine⟨v,gN (E.1 F) hv,fun w Y=>?_⟩;unfold Oper.quietAt;rw[V w (I w Y).2 o O];exact⟨rfl,rfl⟩
 ·exact fY fun h=>by rw[E.2 h]at F;simp at F
def VH{o:Oper}{w1:World}{CC:World->Prop}(J:∀w,CC w->St S w bQ/\Agree S bQ w1 w)(F:∀o∈ops,mB n o=true)(hS:St S w1 H)(O:FR S w1 ρ a)(X:a.tmps.size=n)(Z:mB n o=true){K:Env->Prop}(h:aop P (bM P) (fB P) mt true ops o ρ (qH o H) fun E _=>K E):
  ∃z,K (upd ρ o.dst z)/\(Region.wanted o (yielded ops a.tmps)=true->∃v,rep S w1 z v/\∀w,CC w->o.quietAt P a (Rw w) w v)/\(Region.wanted o (yielded ops a.tmps)=false->rep S w1 z undef):=by
 by_cases hs:∃t x lo hi m,o.op=.slice t x lo hi m
 ·obtain⟨t,x,lo,hi,m,I⟩:=hs;have e:qH o H=H:=by unfold qH;rw[I]
  rw[e]at h;obtain⟨U,_⟩:=AU Z;unfold aop at h;obtain⟨G,Y,V⟩:=zZ F O X h;clear h;rw[I]at Y;exact Qz (K:=fun E _=>K E) J hS O X I U V (by rw[I];exact Y)
 ·have e : qH o H = bQ := by
   unfold qH;split
   ·rename_i I;exact absurd ⟨_,_,_,_,_,I⟩ hs
   ·rfl
  rw[e]at h;exact Ck (K:=fun E _=>K E) J F (hS.drop fun k r hk=>by simp[bQ]at hk) O X Z h
def Ln{Q':Exit->Act->World->Prop}{wb:World}{Sb:Sg}{Hb:aH}(E:∀o∈ops,mB n o=true)(hQ:∀ρ H a w,K ρ H->Rel n Sb wb Hb ρ H a w->Q' .normal a w):
  ∀(l:List Oper) (k:Nat) (listed:Array Bool) (ρ:Env) (H:aH) (a:Act) (w:World),(∀j,l[j]?=ops[k+j]?)->(∀o∈l,mB n o=true)->Region.seqB .any ops l.length k listed=true ->
   yV P (bM P) (fB P) mt false ops K l ρ H->Rel n Sb wb Hb ρ H a w->mI P .any ops (Cb Sb wb) Rw Q' l.length listed a w
 | [],_,_,ρ,H,a,w,_,_,hB,h,hR=>⟨by simpa[Region.seqB]using hB,hQ ρ H a w h hR⟩
 | o::rest,k,listed,ρ,H,a,w,hl,hb,hB,h,hR=>by
  have h0:ops[k]?=some o:=by simpa using(hl 0).symm
  simp only[List.length_cons,Region.seqB,Bool.and_eq_true,decide_eq_true_eq]at hB;refine⟨by rw[hB.1];simp,fun i hi=>?_⟩;rw[hB.1]at hi;have V:i=k:=by simpa using hi
  subst V;obtain⟨S,hS,hF,hG,hN,hd,hn⟩:=hR;have he:=CK (K':=fun O w'=>O.defers=[]/\Cb Sb wb w'/\∀I,Rw w' I->mI P .any ops (Cb Sb wb) Rw Q' rest.length (listed.setIfInBounds i true) O I) (Q':=fun _ _ _=>False) E hS hF hG hN hd hn (hb o (by simp))
   (fun Y H' O w' F X=>by
    refine⟨?_,?_,fun I h2=>Ln E hQ rest (i+1) _ Y H' O I (fun j=>by have:=hl (j+1);simpa[Nat.add_assoc,Nat.add_comm 1 j]using this) (fun o ho=>hb o (by simp[ho])) hB.2 F (X.rw h2)⟩
    ·obtain⟨S',_,_,_,_,Z,_⟩:=X;exact Z
    ·obtain⟨S',_,_,U,_⟩:=X;exact U.cb) h
  unfold gOp;simp only[h0];by_cases J:Region.wanted o (yielded ops a.tmps)=true
  ·rw[if_pos J];exact uU (fun v w' F=>F.2) (E8 (fun a w F=>F.1) (he.1 J))
  ·rw[if_neg J];exact(he.2 (by simpa using J)).2
def JM{Q':Exit->Act->World->Prop}{wb:World}{Sb:Sg}(F:∀o∈ops,mB n o=true)(X:Region.noSelect ops=true)(I:St Sb wb bQ){g:Nat}
  (hK:∀ρ a E w,K ρ bQ->Rw wb w->FR Sb wb ρ a->a.defers=[]->a.tmps.size=n->∀k,Region.seqB .any ops g k E=true->k=ops.size-g->mI P .any ops (Cb Sb wb) Rw Q' g E a w):
  ∀(l:List Oper) (k:Nat) (E:Array Bool) (ρ:Env) (a:Act),(∀j,j<l.length->l[j]?=ops[k+j]?)->k+l.length=ops.size-g->(∀o∈l,mB n o=true)->Region.lexHead .any ops g l.length k E=true ->
   yV P (bM P) (fB P) mt true ops K l ρ bQ->FR Sb wb ρ a->a.defers=[]->a.tmps.size=n->∀w,Rw wb w->mI P .any ops (Cb Sb wb) Rw Q' (l.length+g) E a w
 | [],k,E,ρ,a,_,hk,_,hB,h,hF,hd,hn,w,hC=>by rw[List.length_nil,Nat.zero_add];exact hK ρ a E w h hC hF hd hn k hB (by simpa using hk)
 | o::rest,k,E,ρ,a,hl,hk,hb,hB,h,hF,hd,hn,w,hC=>by
  have h0:ops[k]?=some o:=by simpa using(hl 0 (by simp)).symm
  simp only[List.length_cons,Region.lexHead,Bool.and_eq_true]at hB;obtain⟨⟨J,hf⟩,Z⟩:=hB;obtain⟨z,hz,h1,Y⟩:=Ck (CC:=Cb Sb wb) (fun w O=>⟨O.st I,O.agree I⟩) F I hF hn (hb o (by simp)) h;have next:∀v,rep Sb wb z v->∀V,Rw w V->mI P .any ops (Cb Sb wb) Rw Q' (rest.length+g) (E.setIfInBounds k true) (a.put o.dst v) V:=fun v hv V Y=>JM F X I hK rest (k+1) _ _ _ (fun j hj=>by have:=hl (j+1) (by simp;omega);simpa[Nat.add_assoc,Nat.add_comm 1 j]using this) (by simp only[List.length_cons]at hk;omega) (fun o ho=>hb o (by simp[ho])) Z hz (FR.put hF hv) (by rw[rW];exact hd) (by rw[Bw];exact hn) V (hC.trans Y)
  rw[List.length_cons,show rest.length+1+g=(rest.length+g)+1 by omega];by_cases hw:Region.wanted o (yielded ops a.tmps)=true
  ·obtain⟨v,hv,hq⟩:=h1 hw;exact oH h0 (Region.noSelect_spec X) Rw.refl (fun _ _ _=>Rw.trans) (fun _ _ O J=>O.rw I J) _ E a w (hC.cb I) (Region.free_spec h0 hf) (by simpa using J) (.inl ⟨hw,hq⟩) (next v hv)
  ·have U:Region.wanted o (yielded ops a.tmps)=false:=by simpa using hw
   exact oH h0 (Region.noSelect_spec X) Rw.refl (fun _ _ _=>Rw.trans) (fun _ _ O J=>O.rw I J) _ E a w (hC.cb I) (Region.free_spec h0 hf) (by simpa using J) (.inr ⟨U,rfl⟩) (next _ (Y U))
def U4{Q':Exit->Act->World->Prop}{id m:Nat}(hm:P.follows .mixedOrders=true)(E:∀o∈ops,mB n o=true)(hB:Xe ops m=true)
  (h:yV P (bM P) (fB P) mt true ops (fun F _=>yV P (bM P) (fB P) mt false ops K (ops.toList.drop m) F H) (ops.toList.take m) ρ bQ)
  (hR:Rel n S0 w0 H0 ρ H a w) (hQ:∀ρ H a w,K ρ H->Rel n S0 w0 H0 ρ H a w->Q' .normal a w):(Code.region id ops true).wp P Q' a w:=by
 obtain⟨S,hS,hF,hG,hN,hd,hn⟩:=hR;simp only[Xe,Bool.and_eq_true,decide_eq_true_eq]at hB;obtain⟨⟨hs,ak⟩,ac⟩:=hB
 let w1:World:={ w with drawn:=w.drawn+1 }
 have I:St S w1 H:=hS.after (Nat.le_refl _) fun _ _=>rfl
 have aa:Grow S w S w1:=hS.grow rfl rfl rfl (Nat.le_refl _) fun _ _=>rfl
 have ag:FR S w1 ρ a:=hF.keep S.le_refl (aa.kept hS);have af:St S w1 bQ:=I.drop fun k r Z=>by simp[bQ]at Z
 refine wp_region_any hm (zU (C:=Cb S w1) (R:=Rw) Rw.refl _ _ _ _ ?_);have J:(ops.toList.take m).length=m:=by simp;omega
 have:=JM (Q':=Q') (g:=ops.size-m) (wb:=w1) (Sb:=S) E hs af (K:=fun F _=>yV P (bM P) (fB P) mt false ops K (ops.toList.drop m) F H) (fun F a' O w' Z V Y X U k ab al=>by
  have ae:k=m:=by omega
  subst ae;have hx:=Ln (Q':=Q') (wb:=w1) (Sb:=S) (Hb:=H) E (K:=K) (fun ρ H a w Z hr=>by
   obtain⟨S',ai,Y,ad,ah,X,U⟩:=hr;exact hQ ρ H a w Z ⟨S',ai,Y,hG.trans (aa.trans ad),hN.trans ah hG.le.N,X,U⟩) (ops.toList.drop k) k O F H a' w' (fun j=>by simp[List.getElem?_drop]) (fun o ho=>E o (Array.mem_toList_iff.1 (List.mem_of_mem_drop ho)))
   (by simpa using ab) Z ?_
  ·simpa using hx
  ·have hg:=I.grow V.1 V.2.1 V.2.2.1 V.2.2.2.1 V.2.2.2.2;exact⟨S,I.after V.2.2.2.1 V.2.2.2.2,Y.keep S.le_refl (hg.kept I),hg,gV.refl _ _,X,U⟩) (ops.toList.take m) 0 (Array.replicate ops.size false) ρ a (fun j hj=>by
    have aj:j<m:=by rw[J]at hj;exact hj
    simp[aj]) (by rw[J];omega) (fun o ho=>E o (Array.mem_toList_iff.1 (List.mem_of_mem_take ho))) (by rw[J];exact ac) h ag hd hn w1 (Rw.refl w1)
 rw[J,show m+(ops.size-m)=ops.size by omega]at this;exact this
def BT{C F:World->Prop}{R:World->World->Prop}{Q':Exit->Act->World->Prop}(h:∀w,F w->C w):∀(f:Nat) (listed:Array Bool) (a:Act) (w:World),mI P .any ops F R Q' f listed a w->mI P .any ops C R Q' f listed a w
 | 0,_,_,_,hw=>hw
 | f+1,_,_,_,hw=>⟨hw.1,fun i hi=>Kf (fun O w' E=>⟨h w' E.1,fun J I=>BT h f _ _ _ (E.2 J I)⟩) (hw.2 i hi)⟩
def Cb.mono{S S':Sg}{w w' I:World}{H:aH}(J:St S w H)(E:Grow S w S' w')(h:Cb S' w' I):Cb S w I:=
 ⟨h.1.trans E.os,h.2.1.trans E.tape,h.2.2.1.trans E.output,Nat.le_trans E.size h.2.2.2.1,fun k F=>(h.2.2.2.2 k (E.fz k F)).trans (E.same k F)⟩
def Bf{Q':Exit->Act->World->Prop}(E:∀o∈ops,mB n o=true)(F:Region.noSelect ops=true)(hQ:∀ρ H a w,K ρ H->Rel n S0 w0 H0 ρ H a w->Q' .normal a w):
  ∀(f:List (Nat×Bool)) (listed:Array Bool) (ρ:Env) (H:aH) (a:Act) (w:World) (S:Sg),tA ops f listed=true ->
   B5 P (bM P) (fB P) mt ops K f ρ H->St S w H->FR S w ρ a->Grow S0 w0 S w->gV S0.N H0 H->a.defers=[]->a.tmps.size=n->∀J,Rw w J->mI P .any ops (Cb S w) Rw Q' f.length listed a J
 | [],listed,ρ,H,a,w,S,hB,h,hS,hF,hG,hN,hd,hn,J,h2=>by refine⟨by simpa[tA]using hB,hQ ρ H a J h (Rel.rw ⟨S,hS,hF,hG,hN,hd,hn⟩ h2)⟩
 | (k,true)::f,listed,ρ,H,a,w,S,hB,h,hS,hF,hG,hN,hd,hn,J,h2=>by
  simp only[tA,Bool.and_eq_true]at hB;obtain⟨⟨U,hf⟩,ai⟩:=hB;unfold B5 at h;split at h
  ·rename_i o h0;rw[if_pos rfl]at h;have Y:=E o (Array.mem_of_getElem? h0);obtain⟨z,hz,h1,X⟩:=VH (CC:=Cb S w) (K:=fun Z=>B5 P (bM P) (fB P) mt ops K f Z H) (fun w hc=>⟨hc.st hS,hc.agree hS⟩) E hS hF hn Y h;have next:∀v,rep S w z v->∀I,Rw w I->mI P .any ops (Cb S w) Rw Q' f.length (listed.setIfInBounds k true) (a.put o.dst v) I:=fun v hv I X=>Bf E F hQ f _ _ H _ w S ai hz hS (FR.put hF hv) hG hN (by rw[rW];exact hd) (by rw[Bw];exact hn) I X
   rw[List.length_cons];by_cases O:Region.wanted o (yielded ops a.tmps)=true
   ·obtain⟨v,hv,hq⟩:=h1 O;exact oH h0 (Region.noSelect_spec F) Rw.refl (fun _ _ _=>Rw.trans) (fun _ _ hc U=>hc.rw hS U) _ listed a J (h2.cb hS) (Region.free_spec h0 hf) (by simpa using U) (.inl ⟨O,hq⟩) (fun I X=>next v hv I (h2.trans X))
   ·have aa:Region.wanted o (yielded ops a.tmps)=false:=by simpa using O
    exact oH h0 (Region.noSelect_spec F) Rw.refl (fun _ _ _=>Rw.trans) (fun _ _ hc U=>hc.rw hS U) _ listed a J (h2.cb hS) (Region.free_spec h0 hf) (by simpa using U) (.inr ⟨aa,rfl⟩) (fun I ag=>next _ (X aa) I (h2.trans ag))
  ·exact h.elim
 | (k,false)::f,listed,ρ,H,a,w,S,hB,h,hS,hF,hG,hN,hd,hn,J,h2=>by
  simp only[tA,Bool.and_eq_true,decide_eq_true_eq]at hB;unfold B5 at h;split at h
  ·rename_i o h0;rw[if_neg (by simp)]at h;have Y:=E o (Array.mem_of_getElem? h0);rw[List.length_cons];refine⟨by rw[hB.1];simp,fun i hi=>?_⟩;rw[hB.1]at hi;have am:i=k:=by simpa using hi
   subst am;have ab:=hS.grow h2.1 h2.2.1 h2.2.2.1 h2.2.2.2.1 h2.2.2.2.2;have ak:St S J H:=hS.after h2.2.2.2.1 h2.2.2.2.2;have af:FR S J ρ a:=hF.keep S.le_refl (ab.kept hS);have he:=CK (S0:=S) (w0:=J) (H0:=H) (K:=B5 P (bM P) (fB P) mt ops K f) (K':=fun a' w'=>a'.defers=[]/\Cb S w w'/\∀I,Rw w' I->mI P .any ops (Cb S w) Rw Q' f.length (listed.setIfInBounds i true) a' I) (Q':=fun _ _ _=>False) E ak af (Grow.refl S J) (gV.refl _ _) hd hn Y
    (fun Z H' a' w' hk U=>by obtain⟨S',aj,al,ae,ah,ac,ad⟩:=U;have V:Grow S w S' w':=ab.trans ae;refine⟨ac,V.cb,fun I X=>?_⟩;refine BT (fun x hx=>Cb.mono hS V hx) _ _ _ _ (Bf E F hQ f _ Z H' a' w' S' hB.2 hk aj al (hG.trans V) (hN.trans ah hG.le.N) ac ad I X)) h
   unfold gOp;simp only[h0];by_cases O:Region.wanted o (yielded ops a.tmps)=true
   ·rw[if_pos O];exact uU (fun v w' hk=>hk.2) (E8 (fun a w hk=>hk.1) (he.1 O))
   ·rw[if_neg O];exact(he.2 (by simpa using O)).2
  ·exact h.elim
def ZO{Q':Exit->Act->World->Prop}{id:Nat}{f:List (Nat×Bool)}(hm:P.follows .mixedOrders=true)(I:∀o∈ops,mB n o=true)(X:Vp ops f=true)
  (h:B5 P (bM P) (fB P) mt ops K f ρ H)
  (hR:Rel n S0 w0 H0 ρ H a w) (hQ:∀ρ H a w,K ρ H->Rel n S0 w0 H0 ρ H a w->Q' .normal a w):(Code.region id ops true).wp P Q' a w:=by
 obtain⟨S,V,Z,hG,hN,Y,hn⟩:=hR;simp only[Vp,Bool.and_eq_true,decide_eq_true_eq]at X;obtain⟨⟨hs,O⟩,F⟩:=X
 let w1:World:={ w with drawn:=w.drawn+1 }
 have J:St S w1 H:=V.after (Nat.le_refl _) fun _ _=>rfl
 have E:Grow S w S w1:=V.grow rfl rfl rfl (Nat.le_refl _) fun _ _=>rfl
 have U:FR S w1 ρ a:=Z.keep S.le_refl (E.kept V);refine wp_region_any hm (zU (C:=Cb S w1) (R:=Rw) Rw.refl _ _ _ _ ?_);have:=Bf (Q':=Q') I hs hQ f (Array.replicate ops.size false) ρ H a w1 S F h J U (hG.trans E) hN Y hn w1 (Rw.refl w1);rw[O]at this;exact this
structure Pin(S:Sg)(w:World)(Hp:aH):Prop where
 rows:BY S w Hp
 fz:∀k r,Hp k=some r->∀g,blk (S.loc k)=some g->S.fz g/\¬S.ro g
 disj:∀k k' r r',Hp k=some r->Hp k'=some r'->k≠k'->∀g,blk (S.loc k)=some g->blk (S.loc k')≠some g
def aqG(S:Sg)(Hp:aH)(g:Nat):Prop:=∃k r,Hp k=some r/\blk (S.loc k)=some g
def Sg.unpin(S:Sg)(Hp:aH):Sg:={ S with fz:=fun g=>S.fz g/\¬aqG S Hp g }
def Sg.pin(S:Sg)(Hp:aH):Sg:={ S with fz:=fun g=>S.fz g\/aqG S Hp g }
def Sg.le_unpin(S:Sg)(Hp:aH):S.le (S.unpin Hp):=⟨fun _ h=>h,Nat.le_refl _,fun _ _=>rfl,fun _ _=>rfl⟩
def Sg.unpin_le(S:Sg)(Hp:aH):(S.unpin Hp).le S:=⟨fun _ h=>h,Nat.le_refl _,fun _ _=>rfl,fun _ _=>rfl⟩
def Sg.le_pin(S:Sg)(Hp:aH):S.le (S.pin Hp):=⟨fun _ h=>h,Nat.le_refl _,fun _ _=>rfl,fun _ _=>rfl⟩
def Pin.merge{Hp X:aH}(h:Pin S w Hp)(J:St S w H)(V:∀k r,X k=some r->H k=some r\/Hp k=some r):St (S.unpin Hp) w X:=by
 have hr:∀k r,X k=some r->RowOK S w k r:=fun k r E=>by
  rcases V k r E with h1|h1
  ·exact J.rows k r h1
  ·exact h.rows k r h1
 refine⟨fun k E=>⟨J.ro_fz k E,fun⟨i,r,hi,I⟩=>(h.fz i r hi k I).2 E⟩,fun k E=>J.fz_lt k E.1,fun k r E=>(hr k r E).keep (S.le_unpin Hp) (iL.refl S w) (fun _ _=>rfl),fun k r E g I Z=>?_,fun k k' r r' E Y U g I F=>?_,J.tabs⟩
 ·rcases V k r E with h1|h1
  ·exact J.free k r h1 g I Z.1
  ·exact Z.2 ⟨k,r,h1,I⟩
 ·rcases V k r E with h1|h1 <;> rcases V k' r' Y with O|O
  ·exact J.disj k k' r r' h1 O U g I F
  ·exact J.free k r h1 g I (h.fz k' r' O g F).1
  ·exact J.free k' r' O g F (h.fz k r h1 g I).1
  ·exact h.disj k k' r r' h1 O U g I F
def Pin.keep{Hp:aH}{S':Sg}{w':World}(h:Pin S w Hp)(X:St S w H)(F:Grow S w S' w'):Pin S' w' Hp:=by
 refine⟨fun k r E=>(h.rows k r E).keep F.le (F.kept X) (fun g I=>F.same g (h.fz k r E g I).1),fun k r E g I=>?_,fun k k' r r' E J O g I=>?_⟩
 ·rw[F.le.loc k (h.rows k r E).lt]at I;have h1:=h.fz k r E g I;refine⟨F.fz g h1.1,fun V=>?_⟩;rcases F.newro g V with U|U
  ·exact h1.2 U
  ·exact U h1.1
 ·rw[F.le.loc k (h.rows k r E).lt]at I;rw[F.le.loc k' (h.rows k' r' J).lt];exact h.disj k k' r r' E J O g I
def Cb.pin{wb w:World}{H Hp:aH}(F:St S wb H)(I:Pin S wb Hp)(h:Cb S wb w):St (S.unpin Hp) w Hp/\Agree (S.unpin Hp) Hp wb w:=by have J:Grow S wb S w:=⟨S.le_refl,fun _ h=>h,h.1,h.2.1,h.2.2.1,h.2.2.2.1,h.2.2.2.2,fun _ h=>.inl h⟩;exact⟨(I.keep F J).merge (h.st F) (fun k r E=>.inr E),⟨fun k E=>h.2.2.2.2 k (F.ro_fz k E),fun k r E g O=>h.2.2.2.2 g (I.fz k r E g O).1⟩⟩
def uV{Q':Exit->Act->World->Prop}{Hp:aH}(O:∀o∈ops,mB n o=true){i m:Nat}{o:Oper}{E:Array Bool}{K1:Env->aH->Prop}(h0:ops[i]?=some o)(h:aop P (bM P) (fB P) mt false ops o ρ H K1)
  (hS:St S w H) (hP:Pin S w Hp) (hF:FR S w ρ a) (hd:a.defers=[]) (hn:a.tmps.size=n) {V:World} (U:Rw w V)
  (next:∀J H' F w' S',K1 J H'->St S' w' H'->Pin S' w' Hp->FR S' w' J F->Grow S w S' w'->gV S.N H H'->F.defers=[]->F.tmps.size=n->∀I,Rw w' I->mI P .any ops (Cb S' w') Rw Q' m (E.setIfInBounds i true) F I):
  gOp P ops i (fun F w'=>Cb S w w'/\∀I,Rw w' I->mI P .any ops (Cb S w) Rw Q' m (E.setIfInBounds i true) F I) a V:=by
 have ah:=O o (Array.mem_of_getElem? h0);have Y:=hS.grow U.1 U.2.1 U.2.2.1 U.2.2.2.1 U.2.2.2.2;have ab:St S V H:=hS.after U.2.2.2.1 U.2.2.2.2;have af:Pin S V Hp:=hP.keep hS Y;have ae:FR S V ρ a:=hF.keep S.le_refl (Y.kept hS);have he:=CK (S0:=S) (w0:=V) (H0:=H) (K:=K1) (K':=fun F w'=>F.defers=[]/\Cb S w w'/\∀I,Rw w' I->mI P .any ops (Cb S w) Rw Q' m (E.setIfInBounds i true) F I) (Q':=fun _ _ _=>False) O ab ae (Grow.refl S V) (gV.refl _ _) hd hn ah
  (fun J H' F w' Z hr=>by obtain⟨S',ai,aj,aa,ag,ac,ad⟩:=hr;have X:Grow S w S' w':=Y.trans aa;refine⟨ac,X.cb,fun I h3=>?_⟩;exact BT (fun x hx=>Cb.mono hS X hx) _ _ _ _ (next J H' F w' S' Z ai (af.keep ab aa) aj X ag ac ad I h3)) h
 unfold gOp;simp only[h0];by_cases hw:Region.wanted o (yielded ops a.tmps)=true
 ·rw[if_pos hw];exact uU (fun v w' Z=>Z.2) (E8 (fun a w Z=>Z.1) (he.1 hw))
 ·rw[if_neg hw];exact(he.2 (by simpa using hw)).2
def sL{q:Bool}{k:Nat}{E:Env->aH->Prop}(h:CN P (bM P) (fB P) mt q ops k ρ H E):∃o,ops[k]?=some o/\aop P (bM P) (fB P) mt q ops o ρ H E:=by
 unfold CN at h;split at h
 ·rename_i o h0;exact⟨o,h0,h⟩
 ·exact h.elim
def kW{Q':Exit->Act->World->Prop}{Hp:aH}(E:∀o∈ops,mB n o=true)(F:Region.noSelect ops=true)
  (hQ:∀ρ H a w S,K ρ H->St S w H->Pin S w Hp->FR S w ρ a->Grow S0 w0 S w->gV S0.N H0 H->a.defers=[]->a.tmps.size=n->Q' .normal a w):
  ∀(t:Mx) (m:Nat) (listed:Array Bool) (ρ:Env) (H:aH) (a:Act) (w:World) (S:Sg),gA ops t m listed=true ->
   nJ P (bM P) (fB P) mt ops K Hp t ρ H->St S w H->Pin S w Hp->FR S w ρ a->Grow S0 w0 S w->gV S0.N H0 H->a.defers=[]->a.tmps.size=n->∀w2,Rw w w2->mI P .any ops (Cb S w) Rw Q' m listed a w2
 | .nil,m,listed,ρ,H,a,w,S,hB,h,hS,hP,hF,hG,hN,hd,hn,w2,h2=>by
  cases m with
  | succ m=>simp[gA]at hB
  | zero=>have hg:=hS.grow h2.1 h2.2.1 h2.2.2.1 h2.2.2.2.1 h2.2.2.2.2;exact⟨by simpa[gA]using hB,hQ ρ H a w2 S h (hS.after h2.2.2.2.1 h2.2.2.2.2) (hP.keep hS hg) (hF.keep S.le_refl (hg.kept hS)) (hG.trans hg) hN hd hn⟩
 | .q k t,m,listed,ρ,H,a,w,S,hB,h,hS,hP,hF,hG,hN,hd,hn,w2,h2=>by
  cases m with
  | zero=>simp[gA]at hB
  | succ m=>
   simp only[gA,Bool.and_eq_true]at hB;obtain⟨⟨hr,hf⟩,ag⟩:=hB;obtain⟨o,h0,h⟩:=sL h;have ah:=E o (Array.mem_of_getElem? h0);obtain⟨z,hz,h1,h3⟩:=Ck (S:=S.unpin Hp) (CC:=Cb S w) (K:=fun I _=>nJ P (bM P) (fB P) mt ops K Hp t I H) (fun w hc=>hc.pin hS hP) E (hP.merge hS fun k r hk=>.inr hk) (hF.keep (S.le_unpin Hp) (iL.refl S w)) hn ah h;have next:∀v,rep (S.unpin Hp) w z v->∀w3,Rw w w3->mI P .any ops (Cb S w) Rw Q' m (listed.setIfInBounds k true) (a.put o.dst v) w3:=fun v hv w3 h3=>kW E F hQ t m _ _ H _ w S ag hz hS hP (FR.put hF (nO (S.unpin_le Hp) (iL.refl (S.unpin Hp) w) _ _ hv)) hG hN (by rw[rW];exact hd) (by rw[Bw];exact hn) w3 h3
   by_cases hw:Region.wanted o (yielded ops a.tmps)=true
   ·obtain⟨v,hv,hq⟩:=h1 hw;exact oH h0 (Region.noSelect_spec F) Rw.refl (fun _ _ _=>Rw.trans) (fun _ _ hc hr=>hc.rw hS hr) _ listed a w2 (h2.cb hS) (Region.free_spec h0 hf) (by simpa using hr) (.inl ⟨hw,hq⟩) (fun w3 h3=>next v hv w3 (h2.trans h3))
   ·have ab:Region.wanted o (yielded ops a.tmps)=false:=by simpa using hw
    exact oH h0 (Region.noSelect_spec F) Rw.refl (fun _ _ _=>Rw.trans) (fun _ _ hc hr=>hc.rw hS hr) _ listed a w2 (h2.cb hS) (Region.free_spec h0 hf) (by simpa using hr) (.inr ⟨ab,rfl⟩) (fun w3 af=>next _ (h3 ab) w3 (h2.trans af))
 | .a1 k t,m,listed,ρ,H,a,w,S,hB,h,hS,hP,hF,hG,hN,hd,hn,w2,h2=>by
  cases m with
  | zero=>simp[gA]at hB
  | succ m=>simp only[gA,Bool.and_eq_true,decide_eq_true_eq]at hB;obtain⟨o,h0,g⟩:=sL h;refine⟨by rw[hB.1];simp,fun i hi=>?_⟩;rw[hB.1]at hi;simp only[List.mem_cons,List.not_mem_nil,or_false]at hi;subst hi;exact uV E h0 g hS hP hF hd hn h2 fun I H' a' w' S' hk V X Z O U Y J w3 h3=>kW E F hQ t m _ I H' a' w' S' hB.2 hk V X Z (hG.trans O) (hN.trans U hG.le.N) Y J w3 h3
 | .a2 k t k' t',m,listed,ρ,H,a,w,S,hB,h,hS,hP,hF,hG,hN,hd,hn,w2,h2=>by
  cases m with
  | zero=>simp[gA]at hB
  | succ m=>
   simp only[gA,Bool.and_eq_true,decide_eq_true_eq]at hB;obtain⟨h,h'⟩:=h;obtain⟨o,h0,g⟩:=sL h;obtain⟨o',aa,g'⟩:=sL h';refine⟨by rw[hB.1.1];simp,fun i hi=>?_⟩;rw[hB.1.1]at hi;simp only[List.mem_cons,List.not_mem_nil,or_false]at hi;rcases hi with rfl|rfl
   ·exact uV E h0 g hS hP hF hd hn h2 fun I H' a' w' S' hk V X Z O U Y J w3 h3=>kW E F hQ t m _ I H' a' w' S' hB.1.2 hk V X Z (hG.trans O) (hN.trans U hG.le.N) Y J w3 h3
   ·exact uV E aa g' hS hP hF hd hn h2 fun I H' a' w' S' hk V X Z O U Y J w3 h3=>kW E F hQ t' m _ I H' a' w' S' hB.2 hk V X Z (hG.trans O) (hN.trans U hG.le.N) Y J w3 h3
 | .a3 k t k' t' k'' t'',m,listed,ρ,H,a,w,S,hB,h,hS,hP,hF,hG,hN,hd,hn,w2,h2=>by
  cases m with
  | zero=>simp[gA]at hB
  | succ m=>
   simp only[gA,Bool.and_eq_true,decide_eq_true_eq]at hB;obtain⟨h,h',ae⟩:=h;obtain⟨o,h0,g⟩:=sL h;obtain⟨o',aa,g'⟩:=sL h';obtain⟨ai,ac,ad⟩:=sL ae;refine⟨by rw[hB.1.1.1];simp,fun i hi=>?_⟩;rw[hB.1.1.1]at hi;simp only[List.mem_cons,List.not_mem_nil,or_false]at hi;rcases hi with rfl|rfl|rfl
   ·exact uV E h0 g hS hP hF hd hn h2 fun I H' a' w' S' hk V X Z O U Y J w3 h3=>kW E F hQ t m _ I H' a' w' S' hB.1.1.2 hk V X Z (hG.trans O) (hN.trans U hG.le.N) Y J w3 h3
   ·exact uV E aa g' hS hP hF hd hn h2 fun I H' a' w' S' hk V X Z O U Y J w3 h3=>kW E F hQ t' m _ I H' a' w' S' hB.1.2 hk V X Z (hG.trans O) (hN.trans U hG.le.N) Y J w3 h3
   ·exact uV E ac ad hS hP hF hd hn h2 fun I H' a' w' S' hk V X Z O U Y J w3 h3=>kW E F hQ t'' m _ I H' a' w' S' hB.2 hk V X Z (hG.trans O) (hN.trans U hG.le.N) Y J w3 h3
def Uv{Q':Exit->Act->World->Prop}{id:Nat}{l:List Nat}{t:Mx}(hm:P.follows .mixedOrders=true)(ak:∀o∈ops,mB n o=true)(hl:∀k,k∈l->(H k).isSome=true)(hB:GC ops t=true)
  (h:∀Hp V:aH,(∀k,k∈l->Hp k=H k)->(∀k,k∉l->V k=H k)->(∀k,k∉l->Hp k=none)->(∀k,k∈l->V k=none)->nJ P (bM P) (fB P) mt ops (sH l H K) Hp t ρ V)
  (hR:Rel n S0 w0 H0 ρ H a w) (hQ:∀ρ H a w,K ρ H->Rel n S0 w0 H0 ρ H a w->Q' .normal a w):(Code.region id ops true).wp P Q' a w:=by
 obtain⟨S,hS,hF,hG,hN,hd,hn⟩:=hR;simp only[GC,Bool.and_eq_true]at hB;obtain⟨hs,al⟩:=hB
 let Hp:aH:=fun k=>if k∈l then H k else none
 let V:aH:=fun k=>if k∈l then none else H k
 have ag:∀k,k∈l->Hp k=H k:=fun k E=>if_pos E
 have ai:∀k,k∉l->Hp k=none:=fun k E=>if_neg E
 have Y:∀k,k∉l->V k=H k:=fun k E=>if_neg E
 have Z:∀k,k∈l->V k=none:=fun k E=>if_pos E
 have J:∀k r,Hp k=some r->H k=some r/\k∈l:=fun k r E=>by
  by_cases h:k∈l
  ·exact⟨by rw[<-ag k h];exact E,h⟩
  ·rw[ai k h]at E;cases E
 have U:∀k r,V k=some r->H k=some r/\k∉l:=fun k r E=>by
  by_cases h:k∈l
  ·rw[Z k h]at E;cases E
  ·exact⟨by rw[<-Y k h];exact E,h⟩
 let w1:World:={ w with drawn:=w.drawn+1 }
 have F:St S w1 H:=hS.after (Nat.le_refl _) fun _ _=>rfl
 have ah:Grow S w S w1:=hS.grow rfl rfl rfl (Nat.le_refl _) fun _ _=>rfl
 have au:FR S w1 ρ a:=hF.keep S.le_refl (ah.kept hS);have an:St (S.pin Hp) w1 V:=by
  refine⟨fun k E=>.inl (F.ro_fz k E),fun k E=>?_,fun k r E=>(F.rows k r (U k r E).1).keep (S.le_pin Hp) (iL.refl S w1) (fun _ _=>rfl),fun k r E g X hf=>?_,fun k k' r r' E aa ac g X ae=>F.disj k k' r r' (U k r E).1 (U k' r' aa).1 ac g X ae,F.tabs⟩
  ·rcases E with h1|⟨i,r,hi,X⟩
   ·exact F.fz_lt k h1
   ·exact(F.rows i r (J i r hi).1).block_lt X
  ·rcases hf with h1|⟨i,r',hi,ae⟩
   ·exact F.free k r (U k r E).1 g X h1
   ·exact F.disj k i r r' (U k r E).1 (J i r' hi).1 (fun e=>(U k r E).2 (e▸(J i r' hi).2)) g X ae
 have am:Pin (S.pin Hp) w1 Hp:=by refine⟨fun k r E=>(F.rows k r (J k r E).1).keep (S.le_pin Hp) (iL.refl S w1) (fun _ _=>rfl),fun k r E g X=>⟨.inr ⟨k,r,E,X⟩,fun h1=>F.free k r (J k r E).1 g X (F.ro_fz g h1)⟩,fun k k' r r' E aa ac g X=>F.disj k k' r r' (J k r E).1 (J k' r' aa).1 ac g X⟩
 refine wp_region_any hm (zU (C:=Cb (S.pin Hp) w1) (R:=Rw) Rw.refl _ _ _ _ ?_);have:=kW (Q':=Q') (Hp:=Hp) (K:=sH l H K) (S0:=S.pin Hp) (w0:=w1) (H0:=V) ak hs (fun av H' a' w' S' E ao ax ap I aj aw ar=>by
  have ad:∀k,k∈l->H' k=none:=fun k E=>by obtain⟨r,hr⟩:=Option.isSome_iff_exists.1 (hl k E);exact aj k (hS.rows k r hr).lt (Z k E)
  let Hm:aH:=fun k=>if k∈l then H k else H' k
  have ab:∀k,k∈l->Hm k=H k:=fun k E=>if_pos E
  have af:∀k,k∉l->Hm k=H' k:=fun k E=>if_neg E
  refine hQ av Hm a' w' (E ad Hm ab af) ⟨S'.unpin Hp,ax.merge ao (fun k r E=>?_),ap.keep (S'.le_unpin Hp) (iL.refl S' w'),?_,?_,aw,ar⟩
  ·by_cases O:k∈l
   ·right;rw[ag k O,<-ab k O];exact E
   ·left;rw[<-af k O];exact E
  ·refine hG.trans (ah.trans ⟨⟨I.le.ro, I.le.N, I.le.loc, I.le.sz⟩, fun k E => ⟨I.fz k (.inl E), fun ⟨i, r, hi, hb⟩ => by
    have aq:=F.rows i r (J i r hi).1;have e:S'.loc i=S.loc i:=I.le.loc i aq.lt;rw[show(S'.loc i)=S.loc i from e]at hb;exact F.free i r (J i r hi).1 k hb E⟩,I.os,I.tape,I.output,I.size,fun k E=>I.same k (.inl E),fun k E=>by
    rcases I.newro k E with h2|h2
    ·exact .inl h2
    ·exact .inr fun h3=>h2 (.inl h3)⟩)
  ·intro k E h0;have hH:=hN k E h0;by_cases O:k∈l
   ·rw[ab k O];exact hH
   ·rw[af k O];exact aj k (Nat.lt_of_lt_of_le E hG.le.N) (by rw[Y k O];exact hH)) t ops.size (Array.replicate ops.size false) ρ V a w1 (S.pin Hp) al (h Hp V ag Y ai Z) an am (au.keep (S.le_pin Hp) (iL.refl S w1)) (Grow.refl _ _) (gV.refl _ _) hd hn w1 (Rw.refl w1)
 exact this
end
end Go.Aw
end
section
namespace Go.Aw
open Go.RowKit
section
variable{P:Program}{n:Nat}{S0:Sg}{w0:World}{H0:aH}{mt:Nat->Bool}{ops:Array Oper}{K:Env->aH->Prop}{ρ:Env}{H:aH}{a:Act}{w:World}{S:Sg}
def Jj(E:∀o∈ops,mB n o=true){Q':Exit->Act->World->Prop}(O:∀ρ H a w,K ρ H->Rel n S0 w0 H0 ρ H a w->Q' .normal a w):
  ∀(l:List Oper) (ρ:Env) (H:aH) (a:Act) (w:World),(∀o∈l,mB n o=true)->yV P (bM P) (fB P) mt false ops K l ρ H->Rel n S0 w0 H0 ρ H a w->wpList P ops Q' l a w
 | [],ρ,H,a,w,_,h,hR=>O ρ H a w h hR
 | o::rest,ρ,H,a,w,hl,h,hR=>by
  obtain⟨S,hS,X,hG,Z,V,hn⟩:=hR;have J:=CK (K':=wpList P ops Q' rest) (Q':=Q') E hS X hG Z V hn (hl o (by simp))
   (fun I H' a' w' U hr=>Jj E O rest I H' a' w' (fun o Y=>hl o (by simp[Y])) U hr) h
  unfold wpList;by_cases F:Region.wanted o (yielded ops a.tmps)=true
  ·rw[if_pos F];exact .inl (J.1 F)
  ·rw[if_neg F];exact J.2 (by simpa using F)
def Cls(S:Sg)(H:aH)(w1 w:World):Prop:=
 w.os=w1.os/\w.tape=w1.tape/\w.output=w1.output/\w1.heap.size<=w.heap.size/\∀k,k<w1.heap.size->w.heap[k]?=w1.heap[k]?
def Cls.st{w1:World}(E:St S w1 H)(h:Cls S H w1 w):St S w H:=E.after h.2.2.2.1 h.2.2.2.2
def Cls.grow{w1:World}(E:St S w1 H)(h:Cls S H w1 w):Grow S w1 S w:=E.grow h.1 h.2.1 h.2.2.1 h.2.2.2.1 h.2.2.2.2
def Cls.agree{w1:World}(E:St S w1 H)(h:Cls S H w1 w):Agree S H w1 w:=
 ⟨(h.grow E).kept E,fun k r I g F=>h.2.2.2.2 g ((E.rows k r I).block_lt F)⟩
def VP{P:Program}{o:Oper}{a:Act}{w w1:World}{v:Value}(E:Cls S H w1 w)(h:o.quietAt P a (Rw w) w v):o.quietAt P a (Cls S H w1) w v:=by
 unfold Oper.quietAt at *;generalize (execOp a.eval o).run P w=r at *;cases r with
 | ok m w'=>
  cases m <;> simp only[Oper.quietUpon]at h |-
  case value u=>exact h
  case skip=>exact h
  case enter f args=>exact⟨h.1,h.2.mono fun e Y ⟨O,I,J,U,X,V⟩=>⟨O,I.trans E.1,J.trans E.2.1,U.trans E.2.2.1,Nat.le_trans E.2.2.2.1 X,fun k F=>(V k (Nat.lt_of_lt_of_le F E.2.2.2.1)).trans (E.2.2.2.2 k F)⟩⟩
 | halt x w'=>simp only[Oper.quietUpon]at h
def Iq{w1:World}(F:∀o∈ops,mB n o=true)(U:St S w1 H):∀(l:List Oper) (ρ:Env) (a:Act),(∀o∈l,mB n o=true)->yV P (bM P) (fB P) mt true ops K l ρ H->FR S w1 ρ a->a.defers=[]->a.tmps.size=n ->
  wpQuiet P ops (Cls S H w1) (fun I=>∃E,K E H/\FR S w1 E I/\I.defers=[]/\I.tmps.size=n) l a
 | [],ρ,a,_,h,hF,hd,hn=>⟨ρ,h,hF,hd,hn⟩
 | o::rest,ρ,a,hl,h,hF,hd,hn=>by
  obtain⟨z,hz,h1,X⟩:=Ck (CC:=Cls S H w1) (fun w J=>⟨J.st U,J.agree U⟩) F U hF hn (hl o (by simp)) h;have next:∀v,rep S w1 z v->wpQuiet P ops (Cls S H w1) (fun I=>∃E,K E H/\FR S w1 E I/\I.defers=[]/\I.tmps.size=n) rest (a.put o.dst v):=fun v V=>Iq F U rest _ _ (fun o Z=>hl o (by simp[Z])) hz (FR.put hF V) (by rw[rW];exact hd) (by rw[Bw];exact hn)
  unfold wpQuiet;by_cases O:Region.wanted o (yielded ops a.tmps)=true
  ·rw[if_pos O];obtain⟨v,V,Y⟩:=h1 O;exact⟨v,fun w J=>VP J (Y w J),next v V⟩
  ·rw[if_neg O];exact next _ (X (by simpa using O))
end
def AM{P:Program}{ops:Array Oper}{C:World->Prop}{Q Q':Act->Prop}(F:∀a,Q a->Q' a):∀(l:List Oper) (a:Act),wpQuiet P ops C Q l a->wpQuiet P ops C Q' l a
 | [],a,h=>F a h
 | o::rest,a,h=>by
  unfold wpQuiet at h |-;split
  ·rename_i E;rw[if_pos E]at h;exact Oper.quiet_mono (fun I J=>AM F rest I J) h
  ·rename_i E;rw[if_neg E]at h;exact AM F rest _ h
def Bt(n:Nat):Code->Bool
 | .region _ ops _=>ops.all (mB n)
 | .seq a b=>Bt n a&&Bt n b
 | .cond c a b=>opB n c&&(Bt n a&&Bt n b)
 | .block _ c=>Bt n c
 | .loop c=>Bt n c
 | .scope c=>Bt n c
 | _=>true
def Za(n:Nat)(S0:Sg)(w0:World)(H0:aH)(Q:Ex->Env->aH->Prop):Exit->Act->World->Prop
 | .normal,a,w=>∃ρ H,Q .normal ρ H/\Rel n S0 w0 H0 ρ H a w
 | .exit id,a,w=>∃ρ H,Q (.exit id) ρ H/\Rel n S0 w0 H0 ρ H a w
 | .ret,a,w=>∃ρ H,Q .ret ρ H/\Rel n S0 w0 H0 ρ H a w
 | _,_,_=>False
def qI{P:Program}{n:Nat}{S0:Sg}{w0:World}{H0:aH}{mt:Nat->Bool}(Y:P.follows .mixedOrders=true):∀(c:Code) (Q:Ex->Env->aH->Prop) (ρ:Env) (H:aH) (a:Act) (w:World),Bt n c=true ->
  awp P (bM P) (fB P) mt c Q ρ H->Rel n S0 w0 H0 ρ H a w->c.wp P (Za n S0 w0 H0 Q) a w
 | .skip,Q,ρ,H,a,w,_,h,E=>wp_skip ⟨ρ,H,h,E⟩
 | .region id ops false,Q,ρ,H,a,w,hb,h,E=>by
  rw[Jg]at h;have F:∀o∈ops,mB n o=true:=fun o ho=>Array.all_eq_true_iff_forall_mem.1 hb o ho
  exact wp_region_list (Jj F (fun ρ H a w J V=>⟨ρ,H,J,V⟩) ops.toList ρ H a w (fun o ho=>F o (Array.mem_toList_iff.1 ho)) h E)
 | .region id ops true,Q,ρ,H,a,w,hb,h,E=>by
  rw[RE]at h;have F:∀o∈ops,mB n o=true:=fun o ho=>Array.all_eq_true_iff_forall_mem.1 hb o ho
  rcases h with⟨_,ab,h⟩|⟨hB,h⟩|⟨f,hB,h⟩|⟨l,t,hl,hB,h⟩
  ·obtain⟨S,hS,hF,hG,hN,hd,hn⟩:=E
   let w1:World:={ w with drawn:=w.drawn+1 }
   have X:St S w1 H:=hS.after (Nat.le_refl _) fun _ _=>rfl
   have aa:Grow S w S w1:=hS.grow rfl rfl rfl (Nat.le_refl _) fun _ _=>rfl
   have ae:FR S w1 ρ a:=hF.keep S.le_refl (aa.kept hS);refine wp_region_quiet (C:=Cls S H w1) Y ab ⟨rfl,rfl,rfl,Nat.le_refl _,fun _ _=>rfl⟩ ?_;have:=Iq F X ops.toList ρ a (fun o ho=>F o (Array.mem_toList_iff.1 ho)) h ae hd hn;refine AM (fun a' ⟨U,J,ai,ah,ad⟩ w' hc=>?_) ops.toList a this;exact⟨U,H,J,S,hc.st X,ai.keep S.le_refl ((hc.grow X).kept X),hG.trans (aa.trans (hc.grow X)),hN,ah,ad⟩
  ·exact U4 Y F hB h E fun ρ H a w J V=>⟨ρ,H,J,V⟩
  ·exact ZO Y F hB h E fun ρ H a w J V=>⟨ρ,H,J,V⟩
  ·exact Uv Y F hl hB h E fun ρ H a w J V=>⟨ρ,H,J,V⟩
 | .seq c d,Q,ρ,H,a,w,hb,h,E=>by
  simp only[Bt,Bool.and_eq_true]at hb;rw[WR]at h;refine wp_seq (wp_mono (qI Y c _ ρ H a w hb.1 h E) fun e a' w' O=>?_);cases e <;> simp only[Za,Exit.then]at O |-
  case normal=>obtain⟨U,H',J,V⟩:=O;exact qI Y d Q U H' a' w' hb.2 J V
  case exit id=>exact O
  case ret=>exact O
 | .cond c x y,Q,ρ,H,a,w,hb,h,E=>by
  simp only[Bt,Bool.and_eq_true]at hb;rw[Q0]at h;unfold A2 at h;split at h
  ·rename_i t ht;obtain⟨S,hS,hF,hG,hN,hd,hn⟩:=E;have e:=dG hF (x:=c) (hn▸hb.1);rw[ht]at e;simp only[rep]at e;have E:Rel n S0 w0 H0 ρ H a w:=⟨S,hS,hF,hG,hN,hd,hn⟩;exact wp_cond_split e (fun ht=>qI Y x Q ρ H a w hb.2.1 (h.1 ht) E) (fun ht=>qI Y y Q ρ H a w hb.2.2 (h.2 ht) E)
  ·exact h.elim
 | .block id c,Q,ρ,H,a,w,hb,h,E=>by
  rw[Lv]at h;refine wp_block (wp_mono (qI Y c _ ρ H a w hb h E) fun e a' w' O=>?_);cases e <;> simp only[Za,Exit.inBlock]at O |-
  case normal=>exact O
  case ret=>exact O
  case exit i=>
   obtain⟨U,H',J,V⟩:=O;simp only[Ex.blk]at J;by_cases e:i=id
   ·rw[if_pos e]at J |-;exact⟨U,H',J,V⟩
   ·rw[if_neg e]at J |-;exact⟨U,H',J,V⟩
 | .loop c,Q,ρ,H,a,w,hb,h,E=>by
  rw[Qg]at h;obtain⟨I,μ,h0,Z⟩:=h;refine wp_loop_ghost (fun m a w=>∃ρ H,I ρ H/\μ ρ H=m/\Rel n S0 w0 H0 ρ H a w) (μ ρ H) ⟨ρ,H,h0,rfl,E⟩ ?_;rintro m a' w' ⟨U,H',hI,rfl,af⟩;refine wp_mono (qI Y c _ U H' a' w' hb (Z U H' hI) af) fun e a2 w2 O=>?_
  cases e <;> simp only[Za,Exit.then]at O |-
  case normal=>obtain⟨ac,H2,⟨J,ag⟩,V⟩:=O;exact⟨_,ag,ac,H2,J,rfl,V⟩
  case exit id=>exact O
  case ret=>exact O
 | .exit id,Q,ρ,H,a,w,_,h,E=>wp_exit ⟨ρ,H,h,E⟩
 | .ret,Q,ρ,H,a,w,_,h,E=>wp_ret ⟨ρ,H,h,E⟩
 | .rangeFunc ..,_,_,_,_,_,_,h,_=>by simp[awp]at h
 | .scope c,Q,ρ,H,a,w,hb,h,E=>by
  rw[LQ]at h;refine wp_scope_straight (wp_mono (qI Y c _ ρ H a w hb h E) fun e a' w' O=>?_);cases e <;> simp only[Za,Exit.noGoto]at O |-
  case normal=>exact O
  case exit id=>exact O
  case ret=>exact O
 | .label _,Q,ρ,H,a,w,_,h,E=>wp_label ⟨ρ,H,h,E⟩
 | .goto _,_,_,_,_,_,_,h,_=>by simp[awp]at h
 | .refuse _,_,_,_,_,_,_,h,_=>by simp[awp]at h
def Gz(P:Program)(ρ:Env)(H:aH):List ResultVar->(List AV->Prop)->Prop
 | [],K=>K []
 | .tmp t::r,K=>Gz P ρ H r fun l=>K (ρ t::l)
 | .cell t ty::r,K=>match ldT P ty with
   | some l=>qQ none H l (ρ t) fun x=>Gz P ρ H r fun xs=>K (x::xs)
   | none=>False
def Xz(R:AV->Prop):List AV->Prop
 | [x]=>R x
 | l=>R (.tup l)
def KH(P:Program)(rs:List ResultVar)(R:AV->aH->Prop):Ex->Env->aH->Prop
 | .exit _,_,_=>False
 | _,ρ,H=>Gz P ρ H rs (Xz fun x=>R x H)
def aoQ(n:Nat):ResultVar->Bool
 | .tmp t=>decide (t<n)
 | .cell t _=>decide (t<n)
def CQ(fn:Func)(c:Code)(m:Nat):Bool:=Bt fn.ntmps c&&fn.results.toList.all (aoQ fn.ntmps)&&decide (m<=fn.ntmps)
section
variable{P:Program}{S:Sg}{H:aH}{w:World}{ρ:Env}{a:Act}
def ZM{G:Option Bool}{l:Option Nat}{x:AV}{K:AV->Prop}(h:qQ G H l x K){u:Value}(E:rep S w x u):∃F,u=.pointer (some F):=by
 unfold qQ at h;split at h
 ·simp only[rep]at E;obtain⟨b,o,rfl,_⟩:=E;exact⟨_,rfl⟩
 ·simp only[rep]at E;obtain⟨_,g,m,c,_,rfl⟩:=E;exact⟨_,rfl⟩
 ·exact h.elim
def N2(tmps:Array Value):ResultVar->Sem Value
 | .tmp t=>pure (tmps.getD t undef)
 | .cell b t=>do loadVar t (<-asAddr (tmps.getD b undef))
def U5(fn:Func)(E:Array Value):results fn E=(do
  let vs <-fn.results.mapM (N2 E)
  pure (if h:vs.size=1 then vs[0]else .tuple vs)):=by
 unfold results
 congr 1
def BL(V:BY S w H)(F:FR S w ρ a):∀(rs:List ResultVar) (K:List AV->Prop),(∀r∈rs,aoQ a.tmps.size r=true)->Gz P ρ H rs K ->
  ∃l vs,K l/\(rs.mapM (N2 a.tmps)).run P w=.ok vs w/\bN S w l vs
 | [],K,_,h=>⟨[],[],h,by simp,by simp[bN]⟩
 | .tmp t::r,K,hb,h=>by
  simp only[Gz]at h;obtain⟨l,vs,h1,U,X⟩:=BL V F r _ (fun x O=>hb x (by simp[O])) h;have J:t<a.tmps.size:=by simpa[aoQ]using hb (.tmp t) (by simp)
  refine⟨_,a.tmps.getD t undef::vs,h1,?_,?_⟩
  ·rw[List.mapM_cons];simp only[N2,Sem.run_bind,Sem.run_pure,Result.andThen_ok];rw[U];rfl
  ·simp only[bN];exact⟨_,_,rfl,F t J,X⟩
 | .cell t ty::r,K,hb,h=>by
  simp only[Gz]at h;split at h
  ·rename_i l hl;have J:t<a.tmps.size:=by simpa[aoQ]using hb (.cell t ty) (by simp)
   obtain⟨z,hz,Y⟩:=GH (S:=S) (w:=w) hl V h;obtain⟨v,hv,I⟩:=Y trivial _ (F t J);obtain⟨Z,e⟩:=ZM h (F t J);have E:=I w (Agree.refl S H w);rw[e]at E;simp only[Instr.loadAt,Instr.sureAddr,pure_bind]at E;obtain⟨l',vs,h1,U,X⟩:=BL V F r _ (fun x O=>hb x (by simp[O])) hz;refine⟨_,v::vs,h1,?_,?_⟩
   ·have ha:(asAddr (a.tmps.getD t undef)).run P w=.ok Z w:=by rw[e];rfl
    rw[List.mapM_cons];simp only[N2,Sem.run_bind,ha,Sem.run_pure,Result.andThen_ok,E];rw[U];rfl
   ·simp only[bN];exact⟨_,_,rfl,hv,X⟩
  ·exact h.elim
def bM.body{f:FuncId}{fn:Func}{c:Code}{args:List AV}{R:AV->aH->Prop}(mt:Nat->Bool)(hm:P.follows .mixedOrders=true)(hf:P.funcs[f]?=some fn)(hb:fn.body=some c)(hc:CQ fn c args.length=true)
  (h:awp P (bM P) (fB P) mt c (KH P fn.results.toList R) (Fx args) H):bM P f args H R:=by
 intro S w vals hS ha;simp only[CQ,Bool.and_eq_true,decide_eq_true_eq]at hc;obtain⟨⟨I,V⟩,ah⟩:=hc;have ab:=iV _ _ ha;refine calls_of_wp hf hb (wp_mono (qI (n:=fn.ntmps) (S0:=S) (w0:=w) (H0:=H) hm c _ _ H _ w I h ⟨S,hS,?_,Grow.refl S w,gV.refl _ _,rfl,?_⟩) ?_)
 ·intro t ht;by_cases e:t<args.length
  ·obtain⟨u,h1,F⟩:=EB args vals t ha e;have hu:(vals.toArray++Array.replicate (fn.ntmps-vals.toArray.size) undef).getD t undef=u:=by
    have X:t<vals.length:=by omega
    have:vals[t]=u:=by rw[List.getElem?_eq_getElem X]at h1;injection h1
    simp[Array.getD_eq_getD_getElem?,Array.getElem?_append,X,this]
   simp only[Fx];rw[hu];exact F
  ·simp only[Fx,List.getD,List.getElem?_eq_none (by omega:args.length<=t),Option.getD_none];simp only[rep]
 ·simp only[Array.size_append,List.size_toArray,Array.size_replicate,ab];omega
 ·intro e Z w' hq;have Y:∀E H',Gz P E H' fn.results.toList (Xz fun x=>R x H')->Rel fn.ntmps S w H E H' Z w'->Z.defers=[]/\∃v,(results fn Z.tmps).run P w'=.ok v w'/\atA S w H R (.returned v) w':=by
   rintro E H' h1 ⟨S',J,ag,O,U,af,aa⟩;refine⟨af,?_⟩;obtain⟨l,vs,F,h3,h4⟩:=BL (P:=P) J.rows ag fn.results.toList _ (fun r hr=>by rw[aa];exact List.all_eq_true.1 V r hr) h1;have hr:(results fn Z.tmps).run P w'=.ok (if h:vs.toArray.size=1 then vs.toArray[0]else .tuple vs.toArray) w':=by rw[U5,Array.mapM_eq_mapM_toList];simp only[Sem.run_bind,Sem.run_map];rw[h3];simp only[Result.andThen_ok,Sem.run_pure]
   refine⟨_,hr,?_⟩;unfold Xz at F;split at F
   ·rename_i x;simp only[bN]at h4;obtain⟨u,t,rfl,h5,rfl⟩:=h4;exact⟨_,x,H',S',rfl,F,J,by simpa using h5,O,U⟩
   ·rename_i ae;have ad:=iV _ _ h4;have ac:¬vs.toArray.size=1:=by
     intro e;have:l.length=1:=by rw[<-ad];simpa using e
     match l,this with
     | [x],_=>exact ae x rfl
    rw[dif_neg ac];exact⟨_,_,H',S',rfl,F,J,by simp only[rep];exact⟨vs,rfl,h4⟩,O,U⟩
  cases e <;> simp only[Za,bodyPost]at hq |-
  case normal=>obtain⟨E,H',h1,F⟩:=hq;exact Y E H' h1 F
  case ret=>obtain⟨E,H',h1,F⟩:=hq;exact Y E H' h1 F
  case exit id=>obtain⟨E,H',h1,F⟩:=hq;exact h1.elim
def RC.body{f:FuncId}{fn:Func}{c:Code}{args:List AV}{R:AV->aH->Prop}(mt:Nat->Bool)(E:P.follows .mixedOrders=true)(U:P.funcs[f]?=some fn)(J:fn.body=some c)(F:CQ fn c args.length=true)
 (h:awp P (bM P) (fB P) mt c (KH P fn.results.toList R) (Fx args) bQ):RC P f args R:=fun S w vals I _ O=>bM.body mt E U J F h S w vals I O
def PC.body{f:FuncId}{fn:Func}{c:Code}{args:List AV}{r:AV}(mt:Nat->Bool)(E:P.follows .mixedOrders=true)(J:P.funcs[f]?=some fn)(I:fn.body=some c)(F:CQ fn c args.length=true)
 (h:awp P (bM P) (fB P) mt c (KH P fn.results.toList fun x H'=>Conv H' x r) (Fx args) bQ):PC P f args r:=RC.conv (RC.body mt E J I F h)
def NC.body{f:FuncId}{fn:Func}{c:Code}{args:List AV}{row:Row}{E:Nat->AV}(mt:Nat->Bool)(F:P.follows .mixedOrders=true)(O:P.funcs[f]?=some fn)(J:fn.body=some c)(I:CQ fn c args.length=true)
 (h:awp P (bM P) (fB P) mt c (KH P fn.results.toList fun x H'=>∃k,x=E k/\H' k=some row) (Fx args) bQ):NC P f args row E:=RC.body mt F O J I h
def PC.q{f:FuncId}{args:List AV}{r:AV}(h:PC P f args r)(E:(fv r).isSome=true):fB P f args H r:=.inl ⟨args,ConvL.refl args,h,E⟩
def PC.qn{f:FuncId}{args:List AV}{r:AV}(h:PC P f args r):fB P f args H (.nf r):=.inr ⟨r,rfl,h⟩
def fB.use{f:FuncId}{args:List AV}{r:AV}{K:AV->aH->Prop}(h:DK P f args H r)(E:K r H):bM P f args H K:=DK.use h E
end
end Go.Aw
end
