import Derived.Test.YtohmomanmikphaaGreatDoorPl03
set_option linter.unusedSimpArgs false
set_option linter.unusedVariables false
set_option maxRecDepth 100000
section
namespace Go.Aw
open Go.RowKit
section
variable{P:Program}{n:Nat}{S0:Sg}{w0:World}{H0:aH}{mt:Nat->Bool}{ops:Array Oper}{K:Env->aH->Prop}{K':Act->World->Prop}{Q':Exit->Act->World->Prop}{ρ:Env}{H:aH}{a:Act}{w:World}{o:Oper}{S:Sg}
theorem cY{G:Option Bool}(u:Region.wanted o (yielded ops a.tmps)=true↔gt G)(E:G=none):Region.wanted o (yielded ops a.tmps)=true:=by subst E;exact u.2 trivial
theorem Mb{f:FuncId}(h:aC P f=true):∃fn,P.funcs[f]?=some fn/\(fn.name == "runtime.NumGoroutine")=false/\fn.body.isNone=false:=by
 unfold aC at h;split at h
 . rename_i fn u
   simp only[Bool.and_eq_true,bne_iff_ne,ne_eq]at h;refine⟨fn,u,by simpa using h.1,?_⟩;cases E:fn.body <;> simp_all
 . simp at h
theorem qK{f:FuncId}(h:aC P f=true)(args:Array Value)(w:World):(callFunc f args).run P w=.ok (.enter f args) w:=by
 obtain⟨fn,h1,I,F⟩:=Mb h;have E:¬fn.name = "runtime.NumGoroutine" := by simpa using I
 have u:¬fn.body=none:=fun e=>by rw[e]at F;simp at F
 simp[callFunc,h1,E,u]
theorem fF(u:Region.wanted o (yielded ops a.tmps)=true)(h:o.wp P a w K' Q'):xA P ops o a w K' Q':=⟨fun _=>h,fun e=>by rw[u]at e;simp at e⟩
theorem KK:∀(l:List Value),bG S w (l.map .v) l
 | []=>by simp[bG]
 | v::r=>by simp only[List.map_cons,bG];exact⟨v,r,rfl,kV,KK r⟩
theorem As{x:AV}{g:FuncId}{F I:List AV}{u:Value}(h:NX x=some (g,F,I))(J:rep S w x u):
   ∃first E:Array Value,u=.func (.func g) first E/\bG S w F first.toList/\bG S w I E.toList:=by
 unfold NX at h;split at h
 . rename_i f first E
   simp only[Option.some.injEq,Prod.mk.injEq]at h;obtain⟨rfl,rfl,rfl⟩:=h;simp only[rep]at J;exact⟨first,E,J,KK _,KK _⟩
 . rename_i f cap
   simp only[Option.some.injEq,Prod.mk.injEq]at h;obtain⟨rfl,rfl,rfl⟩:=h;simp only[rep]at J;obtain⟨l,rfl,M⟩:=J;exact⟨#[],l.toArray,rfl,by simp[bG],by simpa using M⟩
 . simp at h
theorem nY{c:Call}{f:Operand}(F:c.callee=.value f){g:FuncId}{first u:Array Value}(E:a.eval f=.func (.func g) first u)(ty:TypeId):
   resolve a.eval c ty=pure { target:=.fn (.func g) u,args:=first++c.args.map a.eval }:=by
 unfold resolve;simp only[F];rw[E];rfl
theorem Of{nl ar:Bool}{G:Option Bool}{c:Call}(M:St S w H)(Z:FR S w ρ a)(hG:Grow S0 w0 S w)(hN:eY S0.N H0 H)(hd:a.defers=[])(hn:a.tmps.size=n)(ho:o.op=.call c)(hb:∀x∈o.op.operands,opB n x=true)
   (ag:Region.wanted o (yielded ops a.tmps)=true↔gt G) (hK:∀bc H' a' w',K bc H'->Rel n S0 w0 H0 bc H' a' w'->K' a' w') (h:Bk P (bA P) (dN P) nl ar G o c ρ H K):xA P ops o a w K' Q':=by
 rw[ho]at hb;simp only[Op.operands,Call.operands]at hb;unfold Bk at h;split at h
 . rename_i b hc
   obtain⟨ys,h2,am⟩:=mW Z c.args.toList (fun x hx=>hn▸hb x (by simp[Array.mem_toList_iff.1 hx])) h;clear h;have h:=h2;clear h2;split at h
   . rename_i x t J
     obtain⟨z,hz,hl⟩:=ER (G:=G) (ty:=o.type) M.rows h;refine⟨fun hw=>?_,fun hw=>?_⟩
     . have O:=ag.1 hw
       have hr:=am O;simp only[bG]at hr;obtain⟨u,t',e1,e2,rfl⟩:=hr;obtain⟨v,hv,an⟩:=hl O u e2;have ea:c.args.map a.eval=#[u]:=by
         apply Array.toList_inj.1;simpa using e1
       have et:c.argTypes=#[t]:=Array.toList_inj.1 (by simpa using J);refine eK (v:=v) (w':=w) ?_ (hK _ _ _ _ hz (Rel.step M Z hG hN hd hn M (Grow.refl S w) (eY.refl _ _) (fC O hv)));simp[execOp,ho,resolve,hc,invoke,builtin,ea,et,an w (Agree.refl S H w)]
     . have O:¬gt G:=fun h=>by rw[ag.2 h]at hw;simp at hw
       exact hK _ _ _ _ hz (Rel.step M Z hG hN hd hn M (Grow.refl S w) (eY.refl _ _) (eN O))
   . rename_i s x t t' J
     split at h
     . rename_i ae
       obtain⟨bf,ak,_⟩:=ae;subst ak;subst bf;have hw:=cY ag rfl;refine fF hw ?_;have hr:=am trivial;simp only[bG]at hr;obtain⟨us,t1,e1,e2,ux,t2,rfl,e3,rfl⟩:=hr;have ea:c.args.map a.eval=#[us,ux]:=Array.toList_inj.1 (by simpa using e1);have et:c.argTypes=#[t,t]:=Array.toList_inj.1 (by simpa using J);unfold sJ at h;split at h
       . rename_i k e sz aa he
         split at h
         . rename_i r hk
           have app : ∀ news, xM S w ux news -> ((r.e = e /\ r.sz = sz /\ cZ sz news /\ (r.es.length + news.length) * aa <= 140737488355328) /\
               ∀k',H k'=none->K (upd ρ o.dst (.os k')) (aI (aI H k none) k' (some ⟨e,sz,r.es++news⟩)))->o.wp P a w K' Q':=by
             rintro news aj ⟨⟨rfl,rfl,al,ai⟩,au⟩;simp only[rep]at e2;obtain⟨bm,rfl,_,_,_,a4⟩:=e2;obtain⟨v',w',q1,q2,q3,q4⟩:=M.append hk a4 (ty:=o.type) he aj al ai;refine eK (v:=v') (w':=w') ?_ (hK _ _ _ _ (au S.N M.fresh) (Rel.step M Z hG hN hd hn q3 q4 ?_ ?_))
             . simp[execOp,ho,resolve,hc,invoke,builtin,ea,et,q1]
             . intro j hj h0
               rw[aD _ _ _ _ (Nat.ne_of_lt hj)];by_cases e:j=k
               . subst e;exact aB _ _ _
               . rw[aD _ _ _ _ e];exact h0
             . simp only[rep,Sg.addRow,if_true]
               exact⟨Nat.lt_succ_self _,trivial,q2⟩
           unfold wZ at h;split at h
           . exact app _ (JZ e3) h
           . rename_i k2
             split at h
             . rename_i r2 ac
               simp only[rep]at e3;obtain⟨_,rfl,_,_,_,ab⟩:=e3;exact app _ (KH (M.rows k2 r2 ac) ab) h
             . exact h.elim
           . rename_i k2 a2 b2
             split at h
             . rename_i r2 ac
               exact app _ (CX (M.rows k2 r2 ac) e3).1 h
             . exact h.elim
           . exact h.elim
         . exact h.elim
       . rename_i es e sz aa he
         have app : ∀ news, xM S w ux news -> ((news ≠ [] /\ cZ sz es /\ cZ sz news /\ (es.length + news.length) * aa <= 140737488355328) /\
             ∀k',H k'=none->K (upd ρ o.dst (.os k')) (aI H k' (some ⟨e,sz,es++news⟩)))->o.wp P a w K' Q':=by
           rintro news aj ⟨⟨a6,a7,al,ai⟩,au⟩;obtain⟨v',w',q1,q2,q3,q4⟩:=M.appendNew e2 (ty:=o.type) he aj a6 a7 al ai;refine eK (v:=v') (w':=w') ?_ (hK _ _ _ _ (au S.N M.fresh) (Rel.step M Z hG hN hd hn q3 q4 ?_ ?_))
           . simp[execOp,ho,resolve,hc,invoke,builtin,ea,et,q1]
           . intro j hj h0
             rw[aD _ _ _ _ (Nat.ne_of_lt hj)];exact h0
           . simp only[rep,Sg.addRow,if_true]
             exact⟨Nat.lt_succ_self _,trivial,q2⟩
         unfold wZ at h;split at h
         . exact app _ (JZ e3) h
         . rename_i k2
           split at h
           . rename_i r2 ac
             simp only[rep]at e3;obtain⟨_,rfl,_,_,_,ab⟩:=e3;exact app _ (KH (M.rows k2 r2 ac) ab) h
           . exact h.elim
         . rename_i k2 a2 b2
           split at h
           . rename_i r2 ac
             exact app _ (CX (M.rows k2 r2 ac) e3).1 h
           . exact h.elim
         . exact h.elim
       . rename_i e sz aa he
         have bj:rep S w (.cl []) us:=by
           have hu:us=.slice none 0 0:=by simp only[rep]at e2;exact e2
           subst hu;simp only[rep];exact⟨none,0,rfl,rfl,Nat.zero_le _,.inl trivial⟩
         have app : ∀ news, xM S w ux news -> ((news ≠ [] /\ cZ sz ([] : List (List AV)) /\ cZ sz news /\ (([] : List (List AV)).length + news.length) * aa <= 140737488355328) /\
             ∀k',H k'=none->K (upd ρ o.dst (.os k')) (aI H k' (some ⟨e,sz,[]++news⟩)))->o.wp P a w K' Q':=by
           rintro news aj ⟨⟨a6,a7,al,ai⟩,au⟩;obtain⟨v',w',q1,q2,q3,q4⟩:=M.appendNew bj (ty:=o.type) he aj a6 a7 al ai;refine eK (v:=v') (w':=w') ?_ (hK _ _ _ _ (au S.N M.fresh) (Rel.step M Z hG hN hd hn q3 q4 ?_ ?_))
           . simp[execOp,ho,resolve,hc,invoke,builtin,ea,et,q1]
           . intro j hj h0
             rw[aD _ _ _ _ (Nat.ne_of_lt hj)];exact h0
           . simp only[rep,Sg.addRow,if_true]
             exact⟨Nat.lt_succ_self _,trivial,q2⟩
         unfold wZ at h;split at h
         . exact app _ (JZ e3) h
         . rename_i k2
           split at h
           . rename_i r2 ac
             simp only[rep]at e3;obtain⟨_,rfl,_,_,_,ab⟩:=e3;exact app _ (KH (M.rows k2 r2 ac) ab) h
           . exact h.elim
         . rename_i k2 a2 b2
           split at h
           . rename_i r2 ac
             exact app _ (CX (M.rows k2 r2 ac) e3).1 h
           . exact h.elim
         . exact h.elim
       . exact h.elim
     . exact h.elim
   . rename_i x y t t' J
     split at h
     . rename_i ae
       obtain⟨ak,_⟩:=ae;subst ak;have hw:=cY ag rfl;refine fF hw ?_;have hr:=am trivial;simp only[bG]at hr;obtain⟨us,t1,e1,e2,ux,t2,rfl,e3,rfl⟩:=hr;have ea:c.args.map a.eval=#[us,ux]:=Array.toList_inj.1 (by simpa using e1);have et:c.argTypes=#[t,t']:=Array.toList_inj.1 (by simpa using J);have go : ∀ k a0 n0 r, H k = some r -> a0 + n0 <= r.es.length -> (∃ ad cc, us = .slice ad n0 cc /\ (0 < n0 -> ∃ g n' c', S.loc k = .slice (some ⟨g, 0, none⟩) n' c' /\ ad = some ⟨g, a0 * r.sz, none⟩)) -> ∀ news, xM S w ux news ->
           (match bW P t with
             | some (_,sz,_)=>(r.sz=sz/\cZ sz news)/\K (upd ρ o.dst (.v (.int .i64 (min news.length n0:Nat)))) (aI H k (some { r with es:=r.es.take a0++news.take (min news.length n0)++r.es.drop (a0+min news.length n0) }))
             | none=>False)->o.wp P a w K' Q':=by
         intro k a0 n0 r hk a5 hx news aj af;split at af
         . rename_i e sz aa he
           obtain⟨⟨h1,h2⟩,h3⟩:=af;obtain⟨w',q1,q2,q3⟩:=M.copy hk (t':=t') (ty:=o.type) he h1 a5 aj h2 hx;refine eK (v:=goInt (min news.length n0:Nat)) (w':=w') ?_ (hK _ _ _ _ h3 (Rel.step M Z hG hN hd hn q2 q3 ?_ (by simp only[rep];rfl)))
           . simp[execOp,ho,resolve,hc,invoke,builtin,ea,et,q1]
           . intro j hj h0
             by_cases e:j=k
             . subst e;rw[hk]at h0;simp at h0
             . rw[aD _ _ _ _ e];exact h0
         . exact af.elim
       have src:∀F:List (List AV)->Prop,wZ H y F->∃news,xM S w ux news/\F news:=by
         intro F Z;unfold wZ at Z;split at Z
         . exact⟨_,JZ e3,Z⟩
         . rename_i k2
           split at Z
           . rename_i r2 ac
             simp only[rep]at e3;obtain⟨_,rfl,_,_,_,ab⟩:=e3;exact⟨_,KH (M.rows k2 r2 ac) ab,Z⟩
           . exact Z.elim
         . rename_i k2 a2 b2
           split at Z
           . rename_i r2 ac
             exact⟨_,(CX (M.rows k2 r2 ac) e3).1,Z⟩
           . exact Z.elim
         . exact Z.elim
       unfold Sf GN at h;split at h
       . rename_i k
         split at h
         . rename_i r hk
           obtain⟨news,hs,af⟩:=src _ h;have hR:=M.rows k r hk;simp only[rep]at e2;obtain⟨_,rfl,ad,n,cc,T⟩:=e2;obtain⟨xs,ay,_,_⟩:=hR.sl T;have hn:n=r.es.length/\(0<r.es.length->∃g,ad=some ⟨g,0,none⟩):=by
             rcases ay.2 with⟨hv,h0⟩|⟨g,cap,cur,hv,_⟩
             . rw[T]at hv;injection hv with _ h2 _;exact⟨by omega,fun h=>by omega⟩
             . rw[T]at hv;injection hv with h1 h2 _;exact⟨h2,fun _=>⟨g,h1⟩⟩
           refine go k 0 r.es.length r hk (by omega) ⟨ad,cc,by rw[T,hn.1],fun hp=>?_⟩ news hs af;obtain⟨g,rfl⟩:=hn.2 hp;exact⟨g,n,cc,T,by simp⟩
         . exact h.elim
       . rename_i k a0 b0
         split at h
         . rename_i r hk
           obtain⟨news,hs,af⟩:=src _ h;have hR:=M.rows k r hk;obtain⟨_,hb,bk⟩:=CX hR e2;simp only[rep]at e2;obtain⟨_,ad,n,c0,a8,cc,T,rfl,_,_,av,_⟩:=e2;refine go k a0 (b0-a0) r hk (by omega) ⟨a8,cc,rfl,fun hp=>?_⟩ news hs af;obtain⟨g,rfl,rfl⟩:=av (by omega);exact⟨g,n,c0,T,by rw[hR.sz]⟩
         . exact h.elim
       . exact h.elim
     . exact h.elim
   . rename_i x t J
     split at h
     . rename_i ae
       obtain⟨ak,_⟩:=ae;subst ak;have hw:=cY ag rfl;refine fF hw ?_;have hr:=am trivial;simp only[bG]at hr;obtain⟨us,t1,e1,e2,rfl⟩:=hr;have ea:c.args.map a.eval=#[us]:=Array.toList_inj.1 (by simpa using e1);have et:c.argTypes=#[t]:=Array.toList_inj.1 (by simpa using J);have go : ∀ k a0 n0 r, H k = some r -> a0 + n0 <= r.es.length -> (∃ ad cc, us = .slice ad n0 cc /\ (0 < n0 -> ∃ g n' c', S.loc k = .slice (some ⟨g, 0, none⟩) n' c' /\ ad = some ⟨g, a0 * r.sz, none⟩)) ->
           (match bW P t with
             | some (e,sz,_)=>match dO P e with
               | some zs=>r.sz=sz/\K (upd ρ o.dst .any) (aI H k (some { r with es:=r.es.take a0++List.replicate n0 zs++r.es.drop (a0+n0) }))
               | none=>False
             | none=>False)->o.wp P a w K' Q':=by
         intro k a0 n0 r hk a5 hx af;split at af
         . rename_i e sz aa he
           split at af
           . rename_i zs bg
             obtain⟨h1,h3⟩:=af;obtain⟨w',q1,q2,q3⟩:=M.clear hk (ty:=o.type) he bg h1 a5 hx;refine eK (v:=.tuple #[]) (w':=w') ?_ (hK _ _ _ _ h3 (Rel.step M Z hG hN hd hn q2 q3 ?_ (by simp only[rep])))
             . simp[execOp,ho,resolve,hc,invoke,builtin,ea,et,q1]
             . intro j hj h0
               by_cases e:j=k
               . subst e;rw[hk]at h0;simp at h0
               . rw[aD _ _ _ _ e];exact h0
           . exact af.elim
         . exact af.elim
       unfold KC GN at h;split at h
       . rename_i k
         split at h
         . rename_i r hk
           have hR:=M.rows k r hk;simp only[rep]at e2;obtain⟨_,rfl,ad,n,cc,T⟩:=e2;obtain⟨xs,ay,_,_⟩:=hR.sl T;have hn:n=r.es.length/\(0<r.es.length->∃g,ad=some ⟨g,0,none⟩):=by
             rcases ay.2 with⟨hv,h0⟩|⟨g,cap,cur,hv,_⟩
             . rw[T]at hv;injection hv with _ h2 _;exact⟨by omega,fun h=>by omega⟩
             . rw[T]at hv;injection hv with h1 h2 _;exact⟨h2,fun _=>⟨g,h1⟩⟩
           refine go k 0 r.es.length r hk (by omega) ⟨ad,cc,by rw[T,hn.1],fun hp=>?_⟩ h;obtain⟨g,rfl⟩:=hn.2 hp;exact⟨g,n,cc,T,by simp⟩
         . exact h.elim
       . rename_i k a0 b0
         split at h
         . rename_i r hk
           have hR:=M.rows k r hk;obtain⟨_,hb,bk⟩:=CX hR e2;simp only[rep]at e2;obtain⟨_,ad,n,c0,a8,cc,T,rfl,_,_,av,_⟩:=e2;refine go k a0 (b0-a0) r hk (by omega) ⟨a8,cc,rfl,fun hp=>?_⟩ h;obtain⟨g,rfl,rfl⟩:=av (by omega);exact⟨g,n,c0,T,by rw[hR.sz]⟩
         . exact h.elim
       . exact h.elim
     . exact h.elim
   . rename_i x y t t' J
     obtain⟨z,hz,hl⟩:=Gp (P:=P) (S:=S) (w:=w) (H:=H) (G:=G) (tys:=c.argTypes) (ty:=o.type) h;refine⟨fun hw=>?_,fun hw=>?_⟩
     . have O:=ag.1 hw
       have hr:=am O;simp only[bG]at hr;obtain⟨us,t1,e1,e2,ux,t2,rfl,e3,rfl⟩:=hr;obtain⟨v,hv,an⟩:=hl O us ux e2 e3;have ea:c.args.map a.eval=#[us,ux]:=Array.toList_inj.1 (by simpa using e1);refine eK (v:=v) (w':=w) ?_ (hK _ _ _ _ hz (Rel.step M Z hG hN hd hn M (Grow.refl S w) (eY.refl _ _) (fC O hv)));simp[execOp,ho,resolve,hc,invoke,builtin,ea,an w (Agree.refl S H w)]
     . have O:¬gt G:=fun h=>by rw[ag.2 h]at hw;simp at hw
       exact hK _ _ _ _ hz (Rel.step M Z hG hN hd hn M (Grow.refl S w) (eY.refl _ _) (eN O))
   . rename_i x y t t' J
     obtain⟨z,hz,hl⟩:=Gl (P:=P) (S:=S) (w:=w) (H:=H) (G:=G) (tys:=c.argTypes) (ty:=o.type) h;refine⟨fun hw=>?_,fun hw=>?_⟩
     . have O:=ag.1 hw
       have hr:=am O;simp only[bG]at hr;obtain⟨us,t1,e1,e2,ux,t2,rfl,e3,rfl⟩:=hr;obtain⟨v,hv,an⟩:=hl O us ux e2 e3;have ea:c.args.map a.eval=#[us,ux]:=Array.toList_inj.1 (by simpa using e1);refine eK (v:=v) (w':=w) ?_ (hK _ _ _ _ hz (Rel.step M Z hG hN hd hn M (Grow.refl S w) (eY.refl _ _) (fC O hv)));simp[execOp,ho,resolve,hc,invoke,builtin,ea,an w (Agree.refl S H w)]
     . have O:¬gt G:=fun h=>by rw[ag.2 h]at hw;simp at hw
       exact hK _ _ _ _ hz (Rel.step M Z hG hN hd hn M (Grow.refl S w) (eY.refl _ _) (eN O))
   . exact h.elim
 . rename_i f hc
   obtain⟨yf,h2,hf⟩:=aU (S:=S) (w:=w) h;clear h;have h:=h2;clear h2;split at h
   . rename_i g be bb a9
     by_cases ba:nl=true
     . rw[if_pos ba]at h
       obtain⟨ak,bn,az,h⟩:=h;subst ak;have hw:=cY ag rfl;obtain⟨first,E,ap,h2,h3⟩:=As a9 (hf trivial _ (cO Z (hn▸hb f (by simp[hc]))));have ao:bG S w (be++c.args.toList.map (J5 ρ)++bb) (first++c.args.map a.eval++E).toList:=by
         simp only[Array.toList_append];refine dI _ _ _ _ (dI _ _ _ _ h2 ?_) h3;have:=DB Z c.args.toList (fun x hx=>hn▸hb x (by simp[hc,Array.mem_toList_iff.1 hx]));simpa using this
       have ah:(execOp a.eval o).run P w=.ok (.enter g (first++c.args.map a.eval++E)) w:=by
         simp only[execOp,ho];rw[nY hc ap];simp[invoke,qK az]
       refine fF hw ?_;have I:=h S w _ M ao;unfold Oper.wp;rw[ah];simp only[Oper.upon,Array.toArray_toList]at I |-;refine I.mono fun e w' ⟨v,r,H',S',he,hr,ax,hv,aq,aw⟩=>?_
       subst he;exact hK _ _ _ _ hr (Rel.step M Z hG hN hd hn ax aq aw hv)
     rw[if_neg ba]at h;obtain⟨ys,h2,am⟩:=mW Z c.args.toList (fun x hx=>hn▸hb x (by simp[hc,Array.mem_toList_iff.1 hx])) h;clear h;obtain⟨az,h⟩:=h2;have bi:=fun hg=>As a9 (hf hg _ (cO Z (hn▸hb f (by simp[hc]))))
     have J:gt G->∃first E:Array Value,a.eval f=.func (.func g) first E/\bG S w (be++ys++bb) (first++c.args.map a.eval++E).toList:=fun hg=>by
       obtain⟨first,E,h1,h2,h3⟩:=bi hg;refine⟨first,E,h1,?_⟩;simp only[Array.toList_append];refine dI _ _ _ _ (dI _ _ _ _ h2 ?_) h3;simpa using am hg
     split at h
     . rename_i ae
       obtain⟨ak,_⟩:=ae;subst ak;have hw:=cY ag rfl;obtain⟨first,E,ap,ao⟩:=J trivial;have ah:(execOp a.eval o).run P w=.ok (.enter g (first++c.args.map a.eval++E)) w:=by
         simp only[execOp,ho];rw[nY hc ap];simp[invoke,qK az]
       refine fF hw ?_;have I:=h S w _ M ao;unfold Oper.wp;rw[ah];simp only[Oper.upon,Array.toArray_toList]at I |-;refine I.mono fun e w' ⟨v,r,H',S',he,hr,ax,hv,aq,aw⟩=>?_
       subst he;exact hK _ _ _ _ hr (Rel.step M Z hG hN hd hn ax aq aw hv)
     . obtain⟨r,hq,hk⟩:=h
       refine⟨fun hw=>?_,fun hw=>?_⟩
       . have O:=ag.1 hw
         obtain⟨first,E,ap,ao⟩:=J O;have ah:(execOp a.eval o).run P w=.ok (.enter g (first++c.args.map a.eval++E)) w:=by
           simp only[execOp,ho];rw[nY hc ap];simp[invoke,qK az]
         rcases hq O with hq|⟨x,rfl,bh⟩
         . obtain⟨v,bd⟩:=hq.val
           obtain⟨hv,I⟩:=hq.calls bd M ao;rw[Mo (by rw[bd];rfl)]at hk;unfold Oper.wp;rw[ah];simp only[Oper.upon,Array.toArray_toList]at I |-;refine I.mono fun e w' ⟨he,p1,p2,p3,p4,p5⟩=>?_
           subst he;exact hK _ _ _ _ hk (Rel.step M Z hG hN hd hn (M.after p4 p5) (M.grow p1 p2 p3 p4 p5) (eY.refl _ _) (fC O (hv S w')))
         . cases ar with
           | true=>exact hk.elim
           | false=>
             have I:=(PC.use (H:=H) bh (K:=fun y H'=>y=x/\H'=H) ⟨rfl,rfl⟩) S w _ M ao;unfold Oper.wp;rw[ah];simp only[Oper.upon,Array.toArray_toList]at I |-;refine I.mono fun e w' ⟨v,r,H',S',he,⟨hr,hH⟩,ax,hv,aq,aw⟩=>?_
             subst he hr hH;exact hK _ _ _ _ hk (Rel.step M Z hG hN hd hn ax aq aw (fC O hv))
       . have O:¬gt G:=fun h=>by rw[ag.2 h]at hw;simp at hw
         obtain⟨z,hk⟩:=KS hk;exact hK _ _ _ _ hk (Rel.step M Z hG hN hd hn M (Grow.refl S w) (eY.refl _ _) (eN O))
   . exact h.elim
 . exact h.elim
end
end Go.Aw
end
section
namespace Go.Aw
open Go.RowKit
section
variable{P:Program}{n:Nat}{S0:Sg}{w0:World}{H0:aH}{mt:Nat->Bool}{ops:Array Oper}{K:Env->aH->Prop}{K':Act->World->Prop}{Q':Exit->Act->World->Prop}{ρ:Env}{H:aH}{a:Act}{w:World}{o:Oper}{S:Sg}
theorem uI{w':World}(h:(execOp a.eval o).run P w=.ok .skip w')(u:K' (a.put o.dst undef) w'):o.wp P a w K' Q':=by
 unfold Oper.wp;rw[h];exact u
theorem KR{s:Sem Value}{v:Value}{w w':World}(h:s.run P w=.ok v w'):(do pure (Next.value (<-s)):Sem Next).run P w=.ok (.value v) w':=by
 simp[h]
theorem JN{t:TypeId}{l:Option Nat}(O:ldT P t=some l){v:Value}{vs:List Value}(F:v.cells=List.toArray vs)(u:vs.length=l.getD 1){g p:Nat}{w w':World}(E:l=none->∃i,P.info? t=some i/\i.size=1)
   (J:(storeCells ⟨g,p,none⟩ vs).run P w=.ok () w'):(Instr.storeAt t (.pointer (some ⟨g,p,none⟩)) v).run P w=.ok () w':=by
 have M:(sizeOf t).run P w=.ok vs.length w:=by
   cases l with
   | none=>
     obtain⟨i,I,h1⟩:=E rfl;simp[sizeOf,typeInfo,I,h1,u]
   | some m=>
     rw[tP O,u];rfl
 simp[Instr.storeAt,Instr.sureAddr,storeVar,M,F,J]
theorem yC(z:Array Value)(F:0<z.size):∀m,(madeCells z (m*z.size)).toList=(List.replicate m z.toList).flatten
 | 0=>by simp[madeCells]
 | m+1=>by
   have ih:=yC z F m;rw[show List.replicate (m+1) z.toList=List.replicate m z.toList++[z.toList]from List.replicate_succ',List.flatten_append,<-ih];simp only[madeCells,Array.toList_map,Array.toList_range,Nat.add_mul,Nat.one_mul,List.flatten_cons,List.flatten_nil,List.append_nil];rw[List.range_add,List.map_append]
   congr 1
   apply List.ext_getElem
   . simp
   . intro i h1 E
     have u:i<z.size:=by simpa using E
     simp[Nat.add_mod,Nat.mod_eq_of_lt u,u]
theorem Gq:∀(cs:List AV) (l:List Value) (j:Nat) {x:AV},bG S w cs l->(∀u,l[j]?=some u->rep S w x u)->bG S w (cs.set j x) l
 | [],_,_,_,h,_=>h
 | y::r,l,0,x,h,hx=>by
   simp only[bG,List.set_cons_zero]at h |-;obtain⟨u,t,rfl,h1,E⟩:=h;exact⟨u,t,rfl,hx u (by simp),E⟩
 | y::r,l,j+1,x,h,hx=>by
   simp only[bG,List.set_cons_succ]at h |-;obtain⟨u,t,rfl,h1,E⟩:=h;exact⟨u,t,rfl,h1,Gq r t j E fun u F=>hx u (by simpa using F)⟩
theorem pG:∀(nl:List (Nat×TypeId×Nat)) (z:List AV) (S:Sg) (H:aH) (vs:List Value) {K:List AV->aH->Prop},(∀x∈nl,vs[x.1]?=some (.slice none 0 0)/\0<x.2.2)->St S w H->bG S w z vs->jO nl z H K ->
   ∃E S' H',K E H'/\St S' w H'/\Grow S w S' w/\eY S.N H H'/\bG S' w E vs/\E.length=z.length
 | [],z,S,H,vs,K,_,hS,hr,h=>⟨z,S,H,h,hS,Grow.refl S w,eY.refl _ _,hr,rfl⟩
 | x::r,z,S,H,vs,K,hn,hS,hr,h=>by
   obtain⟨h0,F⟩:=hn x (by simp);have q:=hS.nilRow x.2.1 F;have J:=Gq z vs x.1 (x:=.os S.N) (dR q.2.le (q.2.kept hS) _ _ hr) (fun u I=>by
     rw[h0]at I;injection I with I;subst I;simp only[rep,Sg.addRow,if_true];exact⟨Nat.lt_succ_self _,trivial,_,_,_,rfl⟩)
   obtain⟨E,S',H',h1,M,h3,Z,O,T⟩:=pG r _ _ _ vs (fun y hy=>hn y (by simp[hy])) q.1 J (h S.N hS.fresh);exact⟨E,S',H',h1,M,q.2.trans h3,(oB hS).trans Z q.2.le.N,O,by simpa using T⟩
theorem Ay{P:Program}{t:TypeId}{nl:List (Nat×TypeId×Nat)}(h:rE P t=some nl){i:TypeInfo}{v:Value}(F:P.info? t=some i)(E:i.zero=some v):∀x∈nl,v.cells.toList[x.1]?=some (.slice none 0 0)/\0<x.2.2:=by
 unfold rE at h;rw[F]at h;simp only[E]at h;split at h
 . rename_i u
   injection h with h;subst h;intro x I;have:=List.all_eq_true.1 u x I;simp only[Bool.and_eq_true,decide_eq_true_eq]at this;refine⟨?_,this.2⟩;have h1:=this.1;unfold X5 at h1;split at h1
   . rename_i e;exact e
   . simp at h1
 . simp at h
theorem Nn{t:TypeId}{z:List AV}(hS:St S w H)(hF:FR S w ρ a)(hG:Grow S0 w0 S w)(hN:eY S0.N H0 H)(hd:a.defers=[])(hn:a.tmps.size=n)(ho:o.op=.alloc t)(hz:dO P t=some z)
   (hw:Region.wanted o (yielded ops a.tmps)=true) (hK:∀J H' a' w',K J H'->Rel n S0 w0 H0 J H' a' w'->K' a' w') {nl:List (Nat×TypeId×Nat)} (aa:rE P t=some nl)
   (h:jO nl z H fun z H=>oM H ⟨t,z.length,[z]⟩ fun k H'=>K (upd ρ o.dst (.op k 0 0)) H'):xA P ops o a w K' Q':=by
 obtain⟨i,v,hi,F,rfl,ab,ac,h1⟩:=mP hz;have I:(Instr.alloc t true (.tuple #[])).run P w=.ok (.pointer (some ⟨w.heap.size,0,none⟩)) (w.alloc (.cells v.cells t)):=by
   simp[Instr.alloc,zeroValue,typeInfo,hi,F,newVar,newRow]
 have O:∀x∈nl,v.cells.toList[x.1]?=some (.slice none 0 0)/\0<x.2.2:=Ay aa hi F;obtain⟨z',S',H',q0,u,E,M,Z,T⟩:=pG nl _ S H v.cells.toList O hS (lN _) h;obtain⟨S2,q1,q2,q3⟩:=CV (t:=t) (cs:=z') (l:=v.cells.toList) u (by rw[T];simp;omega) Z h1;refine fF hw (eK (v:=.pointer (some ⟨w.heap.size,0,none⟩)) (w':=w.alloc (.cells v.cells t)) (by simp[execOp,ho,I]) (hK _ _ _ _ (q0 S'.N u.fresh) (Rel.step u (hF.keep E.le (E.kept hS)) (hG.trans E) (hN.trans M hG.le.N) hd hn (by simpa using q1) (by simpa using q2) (oB u) (by simpa using q3))))
theorem DZ{t:TypeId}{x y:Operand}{x':AV}{cs:List AV}{l:List Value}(hS:St S w H)(hF:FR S w ρ a)(hG:Grow S0 w0 S w)(hN:eY S0.N H0 H)(hd:a.defers=[])(hn:a.tmps.size=n)(ho:o.op=.store t x y)
   (hw:Region.wanted o (yielded ops a.tmps)=true) (hK:∀O H' a' w',K O H'->Rel n S0 w0 H0 O H' a' w'->K' a' w') (ex:rep S w x' (a.eval x)) (e1:(a.eval y).cells=l.toArray) (e2:bG S w cs l) (e3:∀u∈l,u.oneCell'=true)
   (I:xJ P o t x' cs ρ H K):xA P ops o a w K' Q':=by
 unfold xJ at I;split at I
 . rename_i k i f
   split at I
   . rename_i r ld hk Z
     obtain⟨⟨c1,c2,c3,c4⟩,h5⟩:=I;simp only[rep]at ex;obtain⟨_,g,m,c,F,ep⟩:=ex;obtain⟨g',n',c',w',E,M,q1,q2⟩:=hS.store hk c1 c3 F e2 e3;rw[F]at E;injection E with J i2 i3;injection J with J;injection J with J;subst J;rw[<-(hS.rows k r hk).sz]at ep;have aa:=JN (P:=P) Z e1 (by rw[gQ _ _ e2,c2]) (by
       intro T;subst T;exact c4 rfl) (M P)
     refine fF hw (uI (w':=w') ?_ (hK _ _ _ _ h5 (Rel.step hS hF hG hN hd hn q1 q2 ?_ (by simp only[rep]))))
     . simp[execOp,ho,ep,aa]
     . intro j _ h0
       rw[aD _ _ _ _ (fun e=>by subst e;rw[hk]at h0;simp at h0)];exact h0
   . exact I.elim
 . exact I.elim
theorem SB:∀(x:List AV) (l:List Value) (j:Nat) (v:Value),bG S w x l->x[j]?=some (.v v)->l[j]?=some v
 | [],_,_,_,_,h=>by simp at h
 | a::r,l,0,v,h,hx=>by
   simp only[bG]at h;obtain⟨u,t,rfl,h1,E⟩:=h;have e:a=.v v:=by simpa using hx
   subst e;simp only[rep]at h1;simp[h1]
 | a::r,l,j+1,v,h,hx=>by
   simp only[bG]at h;obtain⟨u,t,rfl,h1,E⟩:=h;simpa using SB r t j v E (by simpa using hx)
theorem Cc{t:TypeId}{x y:Operand}{x':AV}{cs:List AV}{l:List Value}(M:St S w H)(hF:FR S w ρ a)(Z:Grow S0 w0 S w)(hN:eY S0.N H0 H)(hd:a.defers=[])(hn:a.tmps.size=n)(ho:o.op=.store t x y)
   (hw:Region.wanted o (yielded ops a.tmps)=true) (hK:∀I H' a' w',K I H'->Rel n S0 w0 H0 I H' a' w'->K' a' w') (ex:rep S w x' (a.eval x)) (e1:(a.eval y).cells=l.toArray) (e2:bG S w cs l) (e3:∀u∈l,u.oneCell'=true)
   (F:sL P o t x' cs ρ H K):xA P ops o a w K' Q':=by
 rcases F with F|⟨_,nl,J,F⟩
 . exact DZ M hF Z hN hd hn ho hw hK ex e1 e2 e3 F
 . obtain⟨z',S',H',q0,T,E,aa,O,ab⟩:=pG nl _ S H l (fun x hx=>⟨SB _ _ _ _ e2 (J x hx).1,(J x hx).2⟩) M e2 F
   exact DZ T (hF.keep E.le (E.kept M)) (Z.trans E) (hN.trans aa Z.le.N) hd hn ho hw hK (kG E.le (E.kept M) _ _ ex) e1 O e3 q0
theorem IZ{w:World}:∀(nl:List (Nat×TypeId×Nat)) (z:List AV) (vs:List Value),(∀x∈nl,vs[x.1]?=some (.slice none 0 0))->bG S w z vs->bG S w (G6 nl z) vs
 | [],z,vs,_,h=>h
 | x :: r, z, vs, hn, h => IZ r _ vs (fun y F => hn y (by simp [F])) (Gq z vs x.1 h fun u E => by
     rw[hn x (by simp)]at E;injection E with E;simp only[rep];exact E.symm)
theorem Dp{o:Oper}{w1:World}{t:TypeId}{u:Array (Nat×Operand)}(hF:FR S w1 ρ a)(hb:∀x∈o.op.operands,opB a.tmps.size x=true)(T:o.op=.build t u)
   (h:zP P o t u.toList ρ H K):∃z,K (upd ρ o.dst z) H/\∃v,rep S w1 z v/\∀w,(execOp a.eval o).run P w=.ok (.value v) w:=by
 unfold zP at h;obtain⟨ps,h,F⟩:=nB hF u.toList (fun p hp=>hb p.2 (by rw[T];simpa[Op.operands]using⟨p.1,by simpa using hp⟩)) h;split at h
 . rename_i z pl nl hz I M
   obtain⟨e1,e2⟩:=F trivial;obtain⟨i,v,Z,E,rfl,aa,ab,h1⟩:=mP hz;split at h
   . rename_i cs O
     obtain⟨J,f1,f2,f3⟩:=tE (S:=S) (w:=w1) Z E h1 (IZ nl _ _ (fun x hx=>(Ay M Z E x hx).1) (lN _)) I O e1 (fun j i c hj=>e2 j i c hj);refine⟨_,h,.agg J,?_,fun w=>?_⟩
     . simp only[rep];exact⟨J.toList,by simp,f2,f3⟩
     . have:(u.map fun(p:Nat×Operand)=>(p.1,a.eval p.2)).toList=u.toList.map fun p=>(p.1,a.eval p.2):=by simp
       rw[<-this]at f1;simp only[execOp,T];exact zQ (run_build w t _ J f1)
   . exact h.elim
 . exact h.elim
theorem Kw{t:TypeId}{u:Array (Nat×Operand)}(J:St S w H)(F:FR S w ρ a)(Z:Grow S0 w0 S w)(hN:eY S0.N H0 H)(T:a.defers=[])(hn:a.tmps.size=n)(M:o.op=.build t u)(hb:∀x∈o.op.operands,opB a.tmps.size x=true)
   (hw:Region.wanted o (yielded ops a.tmps)=true) (hK:∀E H' I w',K E H'->Rel n S0 w0 H0 E H' I w'->K' I w') (h:zP P o t u.toList ρ H K):xA P ops o a w K' Q':=by
 obtain⟨z,hz,v,hv,O⟩:=Dp (S:=S) (w1:=w) F hb M h;exact fF hw (eK (v:=v) (w':=w) (O w) (hK _ _ _ _ hz (Rel.step J F Z hN T hn J (Grow.refl S w) (eY.refl _ _) hv)))
theorem Ka{t:TypeId}{E:Array (Nat×Operand)}(hS:St S w H)(hF:FR S w ρ a)(hG:Grow S0 w0 S w)(hN:eY S0.N H0 H)(hd:a.defers=[])(hn:a.tmps.size=n)(ho:o.op=.build t E)(hb:∀x∈o.op.operands,opB a.tmps.size x=true)
   (hw:Region.wanted o (yielded ops a.tmps)=true) (hK:∀M H' a' w',K M H'->Rel n S0 w0 H0 M H' a' w'->K' a' w') (h:BX P o t E.toList ρ H K):xA P ops o a w K' Q':=by
 unfold BX at h;obtain⟨ps,h,Z⟩:=nB hF E.toList (fun p hp=>hb p.2 (by rw[ho];simpa[Op.operands]using⟨p.1,by simpa using hp⟩)) h;split at h
 . rename_i z pl nl hz ab ac
   obtain⟨e1,e2⟩:=Z trivial;obtain⟨i,v,hi,J,rfl,ae,ag,h1⟩:=mP hz;obtain⟨z',S',H',T,I,F,O,aa,af⟩:=pG nl _ S H v.cells.toList (Ay ac hi J) hS (lN _) h;split at T
   . rename_i cs ad
     obtain⟨A',f1,f2,f3⟩:=tE (S:=S') (w:=w) (z:=z') hi J h1 aa ab ad e1 (fun j i c hj=>by
       obtain⟨u,l,g1,g2,g3,g4⟩:=e2 j i c hj;exact⟨u,l,g1,g2,dR F.le (F.kept hS) _ _ g3,g4⟩)
     refine fF hw (eK (v:=.agg A') (w':=w) ?_ (hK _ _ _ _ T (Rel.step I (hF.keep F.le (F.kept hS)) (hG.trans F) (hN.trans O hG.le.N) hd hn I (Grow.refl S' w) (eY.refl _ _) ?_)))
     . have:(E.map fun(p:Nat×Operand)=>(p.1,a.eval p.2)).toList=E.toList.map fun p=>(p.1,a.eval p.2):=by simp
       rw[<-this]at f1;simp only[execOp,ho];exact zQ (run_build w t _ A' f1)
     . simp only[rep];exact⟨A'.toList,by simp,f2,f3⟩
   . exact T.elim
 . exact h.elim
theorem Ei{t:TypeId}{x:Operand}{K2:AV->Prop}(F:St S w H)(hF:FR S w ρ a)(hG:Grow S0 w0 S w)(hN:eY S0.N H0 H)(hd:a.defers=[])(hn:a.tmps.size=n)(Z:o.op=.store t x (.const (.slice none 0 0)))(hb:∀x∈o.op.operands,opB a.tmps.size x=true)
   (hw:Region.wanted o (yielded ops a.tmps)=true) (hK:∀u H' a' w',K u H'->Rel n S0 w0 H0 u H' a' w'->K' a' w')
   (h : bT none (aev ρ x) fun y => match bW P t with
       | some (e,sz,_)=>oM H ⟨e,sz,[]⟩ fun k H=>sL P o t y [.os k] ρ H K
       | none=>False):xA P ops o a w K' Q':=by
 obtain⟨x',O,I⟩:=aU (S:=S) (w:=w) h;have M:opB a.tmps.size x=true:=hb x (by simp[Z,Op.operands]);have ex:=I trivial _ (cO hF M);split at O
 . rename_i e sz J he
   obtain⟨i,z,hu,hi,aa,_,E,_⟩:=iN he;have q:=F.nilRow e E;have h3:=O S.N F.fresh;have T:=oB F (r:=some ⟨e,sz,[]⟩);refine Cc q.1 (hF.keep q.2.le (q.2.kept F)) (hG.trans q.2) (hN.trans T hG.le.N) hd hn Z hw hK (kG q.2.le (q.2.kept F) _ _ ex) (l:=[.slice none 0 0]) (by simp[Act.eval,Value.cells]) ?_ (by simp[Value.oneCell']) h3;simp only[bG,rep,Sg.addRow,if_true];exact⟨_,_,rfl,⟨Nat.lt_succ_self _,rfl,_,_,_,rfl⟩,rfl⟩
 . exact O.elim
theorem KJ{x:Operand}(I:St S w H)(hF:FR S w ρ a)(hG:Grow S0 w0 S w)(hN:eY S0.N H0 H)(hd:a.defers=[])(hn:a.tmps.size=n)(ho:o.op=.move x)(hb:∀x∈o.op.operands,opB a.tmps.size x=true)
   (hw:Region.wanted o (yielded ops a.tmps)=true) (hK:∀T H' a' w',K T H'->Rel n S0 w0 H0 T H' a' w'->K' a' w') (h:zD x ρ o.dst H K):xA P ops o a w K' Q':=by
 unfold zD at h;split at h
 . rename_i t
   split at h
   . rename_i j hj
     split at h
     . rename_i r hr
       have ab:=hb (.tmp t) (by simp[ho,Op.operands]);have hv:rep S w (ρ t) (a.eval (.tmp t)):=cO (x:=.tmp t) hF ab;rw[hj]at hv
       let Hf:aH:=fun k=>if k=j then H k else none
       let Hr:aH:=fun k=>if k=j then none else H k
       have hf:∀k r',Hf k=some r'->k=j/\H k=some r':=fun k r' u=>by
         by_cases e:k=j
         . exact⟨e,by simpa[Hf,e]using u⟩
         . simp[Hf,e]at u
       have F:∀k r',Hr k=some r'->k≠j/\H k=some r':=fun k r' u=>by
         by_cases e:k=j
         . simp[Hr,e]at u
         . exact⟨e,by simpa[Hr,e]using u⟩
       have aa:St S w Hf:=I.drop fun k r' u=>(hf k r' u).2
       have M:rep (S.froze Hf) w (.sl r.es) (a.eval (.tmp t)):=Conv.rep aa (Conv.row j r r.es (by simp[Hf,hr]) (ConvE.refl _)) hv;have O:St (S.froze Hf) w Hr:=by
         refine⟨?_,?_,fun k r' u=>(I.rows k r' (F k r' u).2).keep (S.le_froze Hf) (fG.refl S w) (fun _ _=>rfl),?_,fun k k' r1 J u ac ad g E ae=>I.disj k k' r1 J (F k r1 u).2 (F k' J ac).2 ad g E ae,I.tabs.keep (S.le_froze Hf) (fG.refl S w)⟩
         . rintro g (E|E)
           . exact .inl (I.ro_fz g E)
           . exact .inr E
         . rintro g (E|⟨k,r',u,E⟩)
           . exact I.fz_lt g E
           . exact(I.rows k r' (hf k r' u).2).block_lt E
         . rintro k r' u g E (h1|⟨i,J,hi,h2⟩)
           . exact I.free k r' (F k r' u).2 g E h1
           . exact I.disj k i r' J (F k r' u).2 (hf i J hi).2 (fun e=>(F k r' u).1 (e.trans (hf i J hi).1)) g E h2
       have E:Grow S w (S.froze Hf) w:=by
         refine⟨S.le_froze Hf,fun k u=>.inl u,rfl,rfl,rfl,Nat.le_refl _,fun _ _=>rfl,?_⟩;rintro g (E|⟨k,r',u,E⟩)
         . exact .inl E
         . exact .inr (I.free k r' (hf k r' u).2 g E)
       have af:FR (S.froze Hf) w (upd ρ (some t) (.sl r.es)) a:=fun t' Z=>by
         by_cases e:t'=t
         . subst e
           have h1:=M;simp only[upd,if_true];simpa[Act.eval,Array.getD,Z]using h1
         . simp only[upd,if_neg e]
           exact(hF.keep (S.le_froze Hf) (fG.refl S w)) t' Z
       have u:=h Hr (by simp[Hr]) (fun k u=>by simp[Hr,u]);refine fF hw (eK (v:=a.eval (.tmp t)) (w':=w) ?_ (hK _ _ _ _ u (Rel.step O af (hG.trans E) (hN.trans (fun k _ h0=>by
         by_cases e:k=j
         . simp[Hr,e]
         . simp[Hr,e,h0]) hG.le.N) hd hn O (Grow.refl _ _) (eY.refl _ _) M)))
       simp[execOp,ho]
     . exact h.elim
   . exact h.elim
 . exact h.elim
theorem EW{l:List Nat}:∀{xs u:List AV},IL l H xs u->ConvL (fun k=>if k∈l then H k else none) xs u
 | [],[],_=>.nil
 | x::xs,y::u,h=>by
   simp only[IL]at h;obtain⟨h1,E⟩:=h;refine .cons _ _ _ _ ?_ (EW E);rcases h1 with rfl|⟨j,r,I,rfl,F,rfl⟩
   . exact .refl _
   . exact .row j r r.es (by rw[if_pos I];exact F) (ConvE.refl _)
 | [],_::_,h=>by simp[IL]at h
 | _::_,[],h=>by simp[IL]at h
theorem Xs{x y:AV}{d:Option Nat}{l:List Nat}{a':Act}{w':World}(hR:Rel n S0 w0 H0 (upd ρ d x) H a' w')(hc:Conv (fun k=>if k∈l then H k else none) x y):Rel n S0 w0 H0 (upd ρ d y) (fun k=>if k∈l then none else H k) a' w':=by
 obtain⟨S,I,hF,hG,hN,hd,hn⟩:=hR
 let Hf:aH:=fun k=>if k∈l then H k else none
 let Hr:aH:=fun k=>if k∈l then none else H k
 have O:∀k r',Hf k=some r'->k∈l/\H k=some r':=fun k r' u=>by
   by_cases e:k∈l
   . exact⟨e,by simpa[Hf,e]using u⟩
   . simp[Hf,e]at u
 have F:∀k r',Hr k=some r'->¬k∈l/\H k=some r':=fun k r' u=>by
   by_cases e:k∈l
   . simp[Hr,e]at u
   . exact⟨e,by simpa[Hr,e]using u⟩
 have T:St S w' Hf:=I.drop fun k r' u=>(O k r' u).2
 have Z:St (S.froze Hf) w' Hr:=by
   refine⟨?_,?_,fun k r' u=>(I.rows k r' (F k r' u).2).keep (S.le_froze Hf) (fG.refl S w') (fun _ _=>rfl),?_,fun k k' r1 J u aa ab g E ac=>I.disj k k' r1 J (F k r1 u).2 (F k' J aa).2 ab g E ac,I.tabs.keep (S.le_froze Hf) (fG.refl S w')⟩
   . rintro g (E|E)
     . exact .inl (I.ro_fz g E)
     . exact .inr E
   . rintro g (E|⟨k,r',u,E⟩)
     . exact I.fz_lt g E
     . exact(I.rows k r' (O k r' u).2).block_lt E
   . rintro k r' u g E (h1|⟨i,J,hi,h2⟩)
     . exact I.free k r' (F k r' u).2 g E h1
     . exact I.disj k i r' J (F k r' u).2 (O i J hi).2 (fun e=>(F k r' u).1 (e▸(O i J hi).1)) g E h2
 have E:Grow S w' (S.froze Hf) w':=by
   refine⟨S.le_froze Hf,fun k u=>.inl u,rfl,rfl,rfl,Nat.le_refl _,fun _ _=>rfl,?_⟩;rintro g (E|⟨k,r',u,E⟩)
   . exact .inl E
   . exact .inr (I.free k r' (O k r' u).2 g E)
 have ad:FR (S.froze Hf) w' (upd ρ d y) a':=fun t' M=>by
   have h1:=hF t' M;cases d with
   | none=>exact hF.keep (S.le_froze Hf) (fG.refl S w') t' M
   | some d=>
     by_cases e:t'=d
     . subst e
       simp only[upd,if_true]at h1 |-;exact Conv.rep T hc h1
     . simp only[upd,if_neg e]at h1 |-
       exact kG (S.le_froze Hf) (fG.refl S w') _ _ h1
 exact⟨S.froze Hf,Z,ad,hG.trans E,hN.trans (fun k _ h0=>by
   by_cases e:k∈l
   . simp[e]
   . simp[e,h0]) hG.le.N,hd,hn⟩
theorem Ot{G:Option Bool}{l:Option Nat}{y:AV}{u K2:AV->Prop}(F:∀z,u z->K2 z)(h:nP G H l y u):nP G H l y K2:=by
 unfold nP at h |-;cases y with
 | rp cs off=>cases l <;> exact⟨h.1,F _ h.2⟩
 | op k i f=>
   simp only at h |-;cases E:H k with
   | none=>rw[E]at h;exact h.elim
   | some r=>rw[E]at h;cases l <;> exact⟨h.1,F _ h.2⟩
 | _=>exact h.elim
theorem TT{G:Option Bool}{x:AV}{u K2:AV->Prop}(E:∀z,u z->K2 z)(h:bT G x u):bT G x K2:=by
 unfold bT at h |-;split at h
 . exact⟨h.1,E _ h.2⟩
 . exact E _ h
theorem Ed{G:Option Bool}{t:TypeId}{x:Operand}{u K2:AV->Prop}(I:∀z,u z->K2 z)(h:gK P G ρ H (.load t x) u):gK P G ρ H (.load t x) K2:=by
 simp only[gK]at h |-;cases E:ldT P t with
 | none=>rw[E]at h;exact h.elim
 | some l=>rw[E]at h;exact TT (fun y F=>Ot I F) h
theorem Py{t:TypeId}{x:Operand}(hS:St S w H)(hF:FR S w ρ a)(T:Grow S0 w0 S w)(hN:eY S0.N H0 H)(O:a.defers=[])(hn:a.tmps.size=n)(J:o.op=.load t x)(hb:∀x∈o.op.operands,opB n x=true)
   (F:Region.wanted o (yielded ops a.tmps)=true↔gt none) (hK:∀u H' I w',K u H'->Rel n S0 w0 H0 u H' I w'->K' I w') (h:gK P none ρ H (.load t x) fun x=>HE x ρ o.dst H K):xA P ops o a w K' Q':=by
 refine qU (K:=fun u H'=>∃z,u=upd ρ o.dst z/\H'=H/\HE z ρ o.dst H K) hS hF T hN O hn hb F ?_ (by
   rw[J];exact Ed (fun z E=>⟨z,rfl,rfl,E⟩) h)
 rintro u H' I w' ⟨z,rfl,rfl,E⟩ Z;unfold HE at E;split at E
 . obtain⟨l,ys,M,hk⟩:=E
   exact hK _ _ _ _ (hk (fun k=>if k∈l then none else H' k) (fun k e=>if_pos e) (fun k e=>if_neg e)) (Xs Z (.agg _ _ (EW M)))
 . exact E.elim
theorem Ek{t:TypeId}{l c:Operand}(hS:St S w H)(hF:FR S w ρ a)(hG:Grow S0 w0 S w)(hN:eY S0.N H0 H)(hd:a.defers=[])(hn:a.tmps.size=n)(ho:o.op=.makeSlice t l c)(hb:∀x∈o.op.operands,opB a.tmps.size x=true)
   (hw:Region.wanted o (yielded ops a.tmps)=true) (hK:∀aa H' a' w',K aa H'->Rel n S0 w0 H0 aa H' a' w'->K' a' w')
   (h:bT none (aev ρ l) fun l=>bT none (aev ρ c) fun c=>rG P o t l c ρ H K):xA P ops o a w K' Q':=by
 rw[ho]at hb;simp only[Op.operands]at hb;obtain⟨l',h2,hl⟩:=aU (S:=S) (w:=w) h;obtain⟨c',M,hc⟩:=aU (S:=S) (w:=w) h2;have el:=hl trivial _ (cO hF (hb l (by simp)));have ec:=hc trivial _ (cO hF (hb c (by simp)));unfold rG at M;split at M
 . rename_i kl x kc y
   simp only[rep]at el ec;split at M
   . rename_i e sz E he
     split at M
     . rename_i z hz
       obtain⟨⟨⟨p1,p2⟩,p3⟩,h4⟩:=M;obtain⟨i,v,hi,ad,rfl,ag,al,h1⟩:=mP hz;obtain⟨i',z',af,I,J,ac,ab,ae,ai,ak⟩:=iN he;rw[hi]at I;injection I with I;subst I;have F:v.cells.size=sz:=by rw[ag,J]
       have aj:y<=(E:Int)*y:=by
         have:(1:Int)*y<=(E:Int)*y:=Int.mul_le_mul_of_nonneg_right (by omega) (by omega);omega
       have O:=run_make (P:=P) w t e i v af hi ad kl kc x y p1 p2 (by rw[ac];omega) (by omega);have hm:(madeCells v.cells (y.toNat*sz)).toList=(List.replicate y.toNat v.cells.toList).flatten:=by
         rw[<-F];exact yC _ (by omega) _
       have T:(madeCells v.cells (y.toNat*sz)).toList.take (x.toNat*sz)=(List.replicate x.toNat v.cells.toList).flatten:=by
         rw[hm,<-F];have:y.toNat=x.toNat+(y.toNat-x.toNat):=by omega
         rw[this,<-List.replicate_append_replicate,List.flatten_append,List.take_append_of_le_length (by simp[List.length_flatten]),List.take_of_length_le (by simp[List.length_flatten])]
       have Z:∀m,bG S w (List.replicate m (v.cells.toList.map pJ)).flatten (List.replicate m v.cells.toList).flatten:=by
         intro m;induction m with
         | zero=>simp[bG]
         | succ m ih=>simp only[List.replicate_succ,List.flatten_cons];exact dI _ _ _ _ (lN _) ih
       rw[J]at O;have q:=hS.newRow (e:=e) (sz:=sz) (cap:=y.toNat) (es:=List.replicate x.toNat (v.cells.toList.map pJ)) (xs:=(List.replicate x.toNat v.cells.toList).flatten) (cur:=madeCells v.cells (y.toNat*sz)) ab
         (fun cs ah=>by rw[List.eq_of_mem_replicate ah];simp[F]) (Z _) (fun u hu=>by
           obtain⟨l,hl,hu⟩:=List.mem_flatten.1 hu;rw[List.eq_of_mem_replicate hl]at hu;exact h1 u hu) (by rw[List.length_replicate];omega) (by simp only[maxLen];omega) (size_madeCells _ _) (by rw[List.length_replicate];exact T) (w':=w.alloc (.cells (madeCells v.cells (y.toNat*sz)) e)) rfl rfl rfl rfl
       refine fF hw (eK (v:=.slice (some ⟨w.heap.size,0,none⟩) x.toNat y.toNat) (w':=w.alloc (.cells (madeCells v.cells (y.toNat*sz)) e)) ?_ (hK _ _ _ _ (h4 S.N hS.fresh) (Rel.step hS hF hG hN hd hn q.1 q.2 (oB hS) ?_)))
       . simp only[execOp,ho,el,ec]
         exact KR O
       . simp only[rep,Sg.addRow,if_true,List.length_replicate]
         exact⟨Nat.lt_succ_self _,trivial,_,_,_,rfl⟩
     . exact M.elim
   . exact M.elim
 . exact M.elim
theorem Gk{u new:Value}(h:∀n,Instr.sameBits (n+1) u new=true)(w:World):(Instr.keyThatStays u new).run P w=.ok new w:=by
 have:=h 9999;simp[Instr.keyThatStays,this]
theorem sC{ms:List MapEntry}{i:Nat}{m:MapEntry}(E:ms[i]?=some m)(f:MapEntry->MapEntry):ms.modify i f=ms.set i (f m):=by
 apply List.ext_getElem?;intro j;rw[List.getElem?_modify,List.getElem?_set];by_cases e:i=j
 . subst e
   have u:i<ms.length:=(List.getElem?_eq_some_iff.1 E).1;rw[E];simp[u]
 . simp[e]
theorem C6{t:TypeId}{m x:AV}{F:Nat->Row->TypeId×TypeId->Option Nat->Prop}(hS:St S w H){u v:Value}(T:rep S w m u)(hv:rep S w x v)(h:D3 P H t m x F):
   ∃j r E I g ms,F j r E I/\H j=some r/\u=.map (some g)/\S.loc j=.map (some g)/\w.heap[g]?=some (.map (List.toArray ms) ms.length)/\kJ S w 0 r.es ms/\r.sz=2/\P.underlying t=some (.map E.1 E.2)/\(∀e (w':World),(Instr.checkKey e 10000 E.1 v).run P w'=.ok () w') /\
     ((I=none/\∀w':World,(Instr.findKey E.1 v ms).run P w'=.ok none w') \/
     ∃i m cs,I=some i/\ms[i]?=some m/\r.es[i]?=some cs/\(∀w':World,(Instr.findKey E.1 v ms).run P w'=.ok (some (i,m.val)) w')/\m.key=v/\(∀n,Instr.sameBits (n+1) m.key v=true)/\m.born=i/\bG S w cs [m.key,m.val]):=by
 unfold D3 at h;split at h
 . rename_i j
   split at h
   . rename_i r E Z ht
     split at h
     . rename_i I hf
       obtain⟨hp,h⟩:=h;simp only[rep]at T;obtain⟨_,rfl,g0,M⟩:=T;have O:=(hS.rows j r Z).mp M;obtain⟨g,ms,h1,h2,h3,h4,h5,h6⟩:=Ni ht hp hf O hv;obtain⟨_,_,_,_,_,J⟩:=O;exact⟨j,r,E,I,g,ms,h,Z,h1,h1,h2,h3,J,h4,h5,h6⟩
     . exact h.elim
   . exact h.elim
 . exact h.elim
theorem uS{j:Nat}{r:Row}{q:Option Row}(u:H j=some r):eY S.N H (aI H j q):=fun k _ h0=>by
 rw[aD _ _ _ _ (fun e=>by subst e;rw[u]at h0;cases h0)];exact h0
theorem D8{t:TypeId}{m x v:Operand}(hS:St S w H)(M:FR S w ρ a)(hG:Grow S0 w0 S w)(hN:eY S0.N H0 H)(hd:a.defers=[])(hn:a.tmps.size=n)(ho:o.op=.mapUpdate t m x v)(O:∀x∈o.op.operands,opB a.tmps.size x=true)
   (hw:Region.wanted o (yielded ops a.tmps)=true) (hK:∀ab H' a' w',K ab H'->Rel n S0 w0 H0 ab H' a' w'->K' a' w')
   (h:bT none (aev ρ m) fun m=>bT none (aev ρ x) fun x=>bT none (aev ρ v) fun v=>kY P o t m x v ρ H K):xA P ops o a w K' Q':=by
 rw[ho]at O;simp only[Op.operands]at O;obtain⟨m',h,hm⟩:=aU (S:=S) (w:=w) h;obtain⟨x',h,hx⟩:=aU (S:=S) (w:=w) h;obtain⟨v',h,hv⟩:=aU (S:=S) (w:=w) h;have em:=hm trivial _ (cO M (O m (by simp)));have ex:=hx trivial _ (cO M (O x (by simp)));have I:=hv trivial _ (cO M (O v (by simp)));unfold kY at h;obtain⟨j,r,kt,oi,g,ms,hk,hj,e0,hl,hg,E,Z,T,J,F⟩:=C6 hS em ex h;have aa:g<w.heap.size:=(Array.getElem?_eq_some_iff.1 hg).1;rcases F with⟨rfl,ac⟩|⟨i,me,cs,rfl,q1,q2,q3,q4,q5,q6,q7⟩
 . have u:=Bf (m:=⟨a.eval x,a.eval v,ms.length⟩) (cs:=[x',v']) 0 _ _ E (by simp[xU _ _ _ E]) (by simp only[bG];exact⟨_,_,rfl,ex,_,_,rfl,I,rfl⟩)
   have q:=hS.setMap hj hl u Z aa;refine fF hw (uI (w':={ w with heap:=w.heap.setIfInBounds g (.map (ms++[(⟨a.eval x,a.eval v,ms.length⟩:MapEntry)]).toArray (ms++[(⟨a.eval x,a.eval v,ms.length⟩:MapEntry)]).length) }) ?_ (hK _ _ _ _ hk (Rel.step hS M hG hN hd hn q.1 q.2 (uS hj) (by simp only[rep]))));simp[execOp,ho,e0,Instr.mapUpdate,run_underlying T,MapKept.run_getObj_map hg,J,ac,MapKept.run_setObj_map _ hg]
 . have u:=B4 (m:=⟨a.eval x,a.eval v,i⟩) (cs:=[x',v']) 0 _ _ i E (by simp) (by simp only[bG];exact⟨_,_,rfl,ex,_,_,rfl,I,rfl⟩)
   have q:=hS.setMap hj hl u Z aa;refine fF hw (uI (w':={ w with heap:=w.heap.setIfInBounds g (.map (ms.set i ⟨a.eval x,a.eval v,i⟩).toArray (ms.set i (⟨a.eval x,a.eval v,i⟩:MapEntry)).length) }) ?_ (hK _ _ _ _ hk (Rel.step hS M hG hN hd hn q.1 q.2 (uS hj) (by simp only[rep]))));have ad:=Gk (P:=P) q5;simp[execOp,ho,e0,Instr.mapUpdate,run_underlying T,MapKept.run_getObj_map hg,J,q3,q1,ad,MapKept.run_setObj_map _ hg,sC q1,q6]
theorem Jo{t:TypeId}{m x v:Operand}(hS:St S w H)(M:FR S w ρ a)(hG:Grow S0 w0 S w)(hN:eY S0.N H0 H)(hd:a.defers=[])(hn:a.tmps.size=n)(ho:o.op=.insert t m x v)(O:∀x∈o.op.operands,opB a.tmps.size x=true)
   (hw:Region.wanted o (yielded ops a.tmps)=true) (hK:∀ab H' a' w',K ab H'->Rel n S0 w0 H0 ab H' a' w'->K' a' w')
   (h:bT none (aev ρ m) fun m=>bT none (aev ρ x) fun x=>bT none (aev ρ v) fun v=>kY P o t m x v ρ H K):xA P ops o a w K' Q':=by
 rw[ho]at O;simp only[Op.operands]at O;obtain⟨m',h,hm⟩:=aU (S:=S) (w:=w) h;obtain⟨x',h,hx⟩:=aU (S:=S) (w:=w) h;obtain⟨v',h,hv⟩:=aU (S:=S) (w:=w) h;have em:=hm trivial _ (cO M (O m (by simp)));have ex:=hx trivial _ (cO M (O x (by simp)));have I:=hv trivial _ (cO M (O v (by simp)));unfold kY at h;obtain⟨j,r,kt,oi,g,ms,hk,hj,e0,hl,hg,E,Z,T,J,F⟩:=C6 hS em ex h;have aa:g<w.heap.size:=(Array.getElem?_eq_some_iff.1 hg).1;rcases F with⟨rfl,ac⟩|⟨i,me,cs,rfl,q1,q2,q3,q4,q5,q6,q7⟩
 . have u:=Bf (m:=⟨a.eval x,a.eval v,ms.length⟩) (cs:=[x',v']) 0 _ _ E (by simp[xU _ _ _ E]) (by simp only[bG];exact⟨_,_,rfl,ex,_,_,rfl,I,rfl⟩)
   have q:=hS.setMap hj hl u Z aa;refine fF hw (uI (w':={ w with heap:=w.heap.setIfInBounds g (.map (ms++[(⟨a.eval x,a.eval v,ms.length⟩:MapEntry)]).toArray (ms++[(⟨a.eval x,a.eval v,ms.length⟩:MapEntry)]).length) }) ?_ (hK _ _ _ _ hk (Rel.step hS M hG hN hd hn q.1 q.2 (uS hj) (by simp only[rep]))));simp[execOp,ho,e0,Instr.mapUpdate,run_underlying T,MapKept.run_getObj_map hg,J,ac,MapKept.run_setObj_map _ hg]
 . have u:=B4 (m:=⟨a.eval x,a.eval v,i⟩) (cs:=[x',v']) 0 _ _ i E (by simp) (by simp only[bG];exact⟨_,_,rfl,ex,_,_,rfl,I,rfl⟩)
   have q:=hS.setMap hj hl u Z aa;refine fF hw (uI (w':={ w with heap:=w.heap.setIfInBounds g (.map (ms.set i ⟨a.eval x,a.eval v,i⟩).toArray (ms.set i (⟨a.eval x,a.eval v,i⟩:MapEntry)).length) }) ?_ (hK _ _ _ _ hk (Rel.step hS M hG hN hd hn q.1 q.2 (uS hj) (by simp only[rep]))));have ad:=Gk (P:=P) q5;simp[execOp,ho,e0,Instr.mapUpdate,run_underlying T,MapKept.run_getObj_map hg,J,q3,q1,ad,MapKept.run_setObj_map _ hg,sC q1,q6]
theorem Ft{t:TypeId}{m x:Operand}(hS:St S w H)(hF:FR S w ρ a)(hG:Grow S0 w0 S w)(hN:eY S0.N H0 H)(hd:a.defers=[])(hn:a.tmps.size=n)(ho:o.op=.mapEntry t m x)(hb:∀x∈o.op.operands,opB a.tmps.size x=true)
   (hw:Region.wanted o (yielded ops a.tmps)=true) (hK:∀ac H' a' w',K ac H'->Rel n S0 w0 H0 ac H' a' w'->K' a' w')
   (h:bT none (aev ρ m) fun m=>bT none (aev ρ x) fun x=>zI P o t m x ρ H K):xA P ops o a w K' Q':=by
 rw[ho]at hb;simp only[Op.operands]at hb;obtain⟨m',h,hm⟩:=aU (S:=S) (w:=w) h;obtain⟨x',h,hx⟩:=aU (S:=S) (w:=w) h;have em:=hm trivial _ (cO hF (hb m (by simp)));have ex:=hx trivial _ (cO hF (hb x (by simp)));unfold zI at h;obtain⟨j,r,kt,oi,g,ms,M,hj,e0,hl,T,u,af,ab,aa,J⟩:=C6 hS em ex h;have F:g<w.heap.size:=(Array.getElem?_eq_some_iff.1 T).1;rcases J with⟨rfl,ae⟩|⟨i,me,cs,rfl,q1,q2,q3,q4,q5,q6,q7⟩
 . simp only at M
   split at M
   . rename_i z hz
     obtain⟨Z,ag,ad⟩:=Ip hz;have E:=Bf (m:=⟨a.eval x,Z,ms.length⟩) (cs:=[x',z]) 0 _ _ u (by simp[xU _ _ _ u]) (by simp only[bG];exact⟨_,_,rfl,ex,_,_,rfl,ad S w,rfl⟩);have q:=hS.setMap hj hl E af F;refine fF hw (eK (v:=.tuple #[Z,goInt ms.length]) (w':={ w with heap:=w.heap.setIfInBounds g (.map (ms++[(⟨a.eval x,Z,ms.length⟩:MapEntry)]).toArray (ms++[(⟨a.eval x,Z,ms.length⟩:MapEntry)]).length) }) ?_ (hK _ _ _ _ M (Rel.step hS hF hG hN hd hn q.1 q.2 (uS hj) ?_)))
     . simp[execOp,ho,e0,Instr.mapEntry,run_underlying ab,MapKept.run_getObj_map T,aa,ae,ag,MapKept.run_setObj_map _ T]
     . simp only[rep,bG]
       exact⟨[Z,goInt ms.length],by simp,_,_,rfl,ad _ _,_,_,rfl,by rw[<-xU _ _ _ u];rfl,rfl⟩
   . exact M.elim
 . simp only at M
   have O:ms.set i ⟨a.eval x,me.val,i⟩=ms:=by
     have e0:(⟨a.eval x,me.val,i⟩:MapEntry)=me:=by rw[<-q4,<-q6]
     rw[e0];apply List.ext_getElem?;intro k;rw[List.getElem?_set];by_cases e:i=k
     . subst e
       have F:i<ms.length:=(List.getElem?_eq_some_iff.1 q1).1;rw[q1];simp[F]
     . simp[e]
   have hm:({ w with heap:=w.heap.setIfInBounds g (.map ms.toArray ms.length) }:World)=w:=by
     have hh:w.heap.setIfInBounds g (.map ms.toArray ms.length)=w.heap:=by
       apply Array.ext_getElem?;intro k;rw[Array.getElem?_setIfInBounds];by_cases e:g=k
       . subst e;rw[T];simp[F]
       . simp[e]
     rw[hh]
   obtain⟨xk,xv,rfl,r1,r2⟩:=Fo q7;have e1:(r.es.getD i []).getD 1 .any=xv:=by simp[List.getD,q2]
   rw[e1]at M;refine fF hw (eK (v:=.tuple #[me.val,goInt i]) (w':=w) ?_ (hK _ _ _ _ M (Rel.step hS hF hG hN hd hn hS (Grow.refl S w) (eY.refl _ _) ?_)))
   . have ah:=Gk (P:=P) q5
     have I:=MapKept.run_setObj_map (P:=P) (.map (List.toArray ms) ms.length) T;rw[hm]at I;simp[execOp,ho,e0,Instr.mapEntry,run_underlying ab,MapKept.run_getObj_map T,aa,q3,q1,ah,sC q1,O,I,q6]
   . simp only[rep,bG]
     exact⟨[me.val,goInt i],by simp,_,_,rfl,r2,_,_,rfl,rfl,rfl⟩
theorem Ix:∀(i:Nat) (es:List (List AV)) (ms:List MapEntry) (j:Nat) {m:MapEntry},kJ S w i es ms->ms[j]?=some m->ms.findIdx? (fun e=>(e.born:Int) == ((i+j:Nat):Int))=some j
 | _,[],ms,j,m,h,hj=>by simp only[kJ]at h;subst h;simp at hj
 | i,c::r,ms,0,m,h,hj=>by
   simp only[kJ]at h;obtain⟨F,t,rfl,h1,_,E⟩:=h;simp[List.findIdx?_cons,h1]
 | i,c::r,ms,j+1,m,h,hj=>by
   simp only[kJ]at h;obtain⟨F,t,rfl,h1,_,E⟩:=h;have ih:=Ix (i+1) r t j E (by simpa using hj);have u:((F.born:Int) == ((i+(j+1):Nat):Int))=false:=by simp[h1];omega
   rw[List.findIdx?_cons,u,show i+(j+1)=i+1+j by omega,ih];rfl
theorem C8{t:TypeId}{m s v:Operand}(hS:St S w H)(T:FR S w ρ a)(hG:Grow S0 w0 S w)(hN:eY S0.N H0 H)(hd:a.defers=[])(hn:a.tmps.size=n)(ho:o.op=.entryStore t m s v)(J:∀x∈o.op.operands,opB a.tmps.size x=true)
   (hw:Region.wanted o (yielded ops a.tmps)=true) (hK:∀M H' a' w',K M H'->Rel n S0 w0 H0 M H' a' w'->K' a' w')
   (h:bT none (aev ρ m) fun m=>bT none (aev ρ s) fun s=>bT none (aev ρ v) fun v=>sZ o m s v ρ H K):xA P ops o a w K' Q':=by
 rw[ho]at J;simp only[Op.operands]at J;obtain⟨m',h,hm⟩:=aU (S:=S) (w:=w) h;obtain⟨s',h,hs⟩:=aU (S:=S) (w:=w) h;obtain⟨v',h,hv⟩:=aU (S:=S) (w:=w) h;have em:=hm trivial _ (cO T (J m (by simp)));have es:=hs trivial _ (cO T (J s (by simp)));have Z:=hv trivial _ (cO T (J v (by simp)));unfold sZ at h;split at h
 . rename_i j kd i _ _
   split at h
   . rename_i r hj
     obtain⟨⟨i0,i1⟩,h⟩:=h;simp only[rep]at em es;obtain⟨_,e0,g0,O⟩:=em;rw[e0]at O;obtain⟨g,ms,hl,hg,u,aa⟩:=(hS.rows j r hj).mp O;have ab:g<w.heap.size:=(Array.getElem?_eq_some_iff.1 hg).1;obtain⟨F,g1,g2,g3⟩:=L6 0 _ _ i.toNat u (by omega);obtain⟨xk,xv,e1,r1,r2⟩:=Fo g3;have e2:(r.es.getD i.toNat []).getD 0 .any=xk:=by rw[e1];rfl
     rw[e2]at h;have E:=B4 (m:=⟨F.key,a.eval v,F.born⟩) (cs:=[xk,v']) 0 _ _ i.toNat u (by simpa using g2) (by simp only[bG];exact⟨_,_,rfl,r1,_,_,rfl,Z,rfl⟩);have q:=hS.setMap hj hl E aa ab;have I:=Ix 0 _ _ i.toNat u g1;rw[Nat.zero_add,Int.toNat_of_nonneg i0]at I;refine fF hw (uI (w':={ w with heap:=w.heap.setIfInBounds g (.map (ms.set i.toNat ⟨F.key,a.eval v,F.born⟩).toArray (ms.set i.toNat (⟨F.key,a.eval v,F.born⟩:MapEntry)).length) }) ?_ (hK _ _ _ _ h (Rel.step hS T hG hN hd hn q.1 q.2 (uS hj) (by simp only[rep]))));rw[hl]at e0;simp[execOp,ho,e0,es,asInt,asIntOf,Instr.entryStore,MapKept.run_getObj_map hg,I,MapKept.run_setObj_map _ hg,sC g1]
   . exact h.elim
 . exact h.elim
theorem GC{t:TypeId}(E:St S w H)(M:FR S w ρ a)(Z:Grow S0 w0 S w)(hN:eY S0.N H0 H)(hd:a.defers=[])(T:a.tmps.size=n)(I:o.op=.makeMap t none)
   (O:Region.wanted o (yielded ops a.tmps)=true) (J:∀u H' F w',K u H'->Rel n S0 w0 H0 u H' F w'->K' F w')
   (h:oM H ⟨0,2,[]⟩ fun k H'=>K (upd ρ o.dst (.om k)) H'):xA P ops o a w K' Q':=by
 have q:=E.newMap (w':=w.alloc (.map #[] 0)) rfl rfl rfl rfl;refine fF O (eK (v:=.map (some w.heap.size)) (w':=w.alloc (.map #[] 0)) ?_ (J _ _ _ _ (h S.N E.fresh) (Rel.step E M Z hN hd T q.1 q.2 (oB E) ?_)))
 . simp[execOp,I,Instr.makeMap]
 . simp only[rep,Sg.addRow,if_true]
   exact⟨Nat.lt_succ_self _,trivial,_,rfl⟩
theorem uT{ag:Bool}(ak:∀o∈ops,jK n o=true)(F:St S w H)(O:FR S w ρ a)(T:Grow S0 w0 S w)(hN:eY S0.N H0 H)(Z:a.defers=[])(M:a.tmps.size=n)(hb:jK n o=true)
   (hK:∀al H' a' w',K al H'->Rel n S0 w0 H0 al H' a' w'->K' a' w') (h:aop P (bA P) (dN P) mt ag ops o ρ H K):xA P ops o a w K' Q':=by
 obtain⟨J,_⟩:=wJ hb;unfold aop at h;obtain⟨G,h2,E⟩:=vF ak O M h;clear h;have h:=h2;clear h2;split at h
 . -- assign
   rename_i x I
   unfold B9 at h;split at h
   . rename_i ai
     obtain⟨_,rfl,_,hx⟩:=ai;have hx:x=.const (.slice none 0 0):=by
       unfold qW at hx;split at hx
       . rfl
       . simp at hx
     subst hx;split at h
     . rename_i e sz ah he
       obtain⟨i,z,hu,hi,ar,_,aa,_⟩:=iN he;have hw:=cY E rfl;have q:=F.nilRow e aa;refine fF hw (eK (v:=.slice none 0 0) (w':=w) (by simp[execOp,I,Act.eval]) (hK _ _ _ _ (h S.N F.fresh) (Rel.step F O T hN Z M q.1 q.2 (oB F) ?_)));simp only[rep,Sg.addRow,if_true];exact⟨Nat.lt_succ_self _,trivial,_,_,_,rfl⟩
     . exact h.elim
   . exact qU F O T hN Z M J E hK (by rw[I];exact h)
 . -- alloc
   rename_i t I
   split at h
   . rename_i z hz
     obtain⟨rfl,_,h⟩:=h;have hw:=cY E rfl;split at h
     . split at h
       . rename_i nl ap
         exact Nn F O T hN Z M I hz hw hK ap h
       . exact h.elim
     obtain⟨v,i,hi,rfl,h1,av,ad⟩:=TE hz (.tuple #[]) w;obtain⟨S',q1,q2,q3⟩:=CV (t:=t) (cs:=v.cells.toList.map pJ) (l:=v.cells.toList) F (by simp;omega) (lN _) h1;refine fF hw (eK (v:=.pointer (some ⟨w.heap.size,0,none⟩)) (w':=w.alloc (.cells v.cells t)) (by simp[execOp,I,ad]) (hK _ _ _ _ (h S.N F.fresh) (Rel.step F O T hN Z M (by simpa using q1) (by simpa using q2) (oB F) (by simpa using q3))))
   . exact h.elim
 . -- box
   rename_i t x I
   obtain⟨rfl,_,h⟩:=h;have hw:=cY E rfl;obtain⟨y,h2,hy⟩:=aU (S:=S) (w:=w) h;obtain⟨cs,h3,aj⟩:=vG (S:=S) (w:=w) h2;have hx:opB a.tmps.size x=true:=M▸J x (by simp[I,Op.operands]);obtain⟨l,e1,e2,e3⟩:=aj _ (hy trivial _ (cO O hx));have ad:(execOp a.eval o).run P w=.ok (.value (.pointer (some ⟨w.heap.size,0,none⟩))) (w.alloc (.cells l.toArray t)):=by
     simp[execOp,I,acV,e1]
   unfold aeC at h3;split at h3
   . obtain⟨aa,h4⟩:=h3
     obtain⟨S',q1,q2,q3⟩:=CV (t:=t) F aa e2 e3;exact fF hw (eK ad (hK _ _ _ _ (h4 S.N F.fresh) (Rel.step F O T hN Z M q1 q2 (oB F) q3)))
   . have q:=F.newRo (o:=.cells l.toArray t) (w':=w.alloc (.cells l.toArray t)) rfl rfl rfl rfl
     refine fF hw (eK ad (hK _ _ _ _ h3 (Rel.step F O T hN Z M q.1 q.2 (eY.refl _ _) ?_)));simp only[rep];refine⟨w.heap.size,0,by simp,.inr rfl,?_⟩;refine iT _ l 0 (dR q.2.le (q.2.kept F) _ _ e2) e3 fun j u hj=>?_
     rw[cell_of_row (w.alloc (.cells l.toArray t)) w.heap.size (0+j) l.toArray t (0,0) (heap_alloc_new w _)];simpa using hj
 . -- buildSlice
   rename_i t m ab I
   obtain⟨_,h⟩:=h;obtain⟨ps,h2,ao⟩:=nB O ab.toList (fun p hp=>M▸J p.2 (by rw[I];simpa[Op.operands]using⟨p.1,by simpa using hp⟩)) h;unfold mY at h2;split at h2
   . rename_i e sz ah he
     obtain⟨⟨p1,p2,p3⟩,h3⟩:=h2;have go:∀(_:gt G),∃xs:List Value,(execOp a.eval o).run P w=.ok (.value (.slice (some ⟨w.heap.size,0,none⟩) m m)) (w.alloc (.cells xs.toArray e))/\bG S w (ps.map (·.2)).flatten xs/\(∀u∈xs,u.oneCell'=true)/\ps.length=m/\xs.length=m*sz:=fun hg=>by
       obtain⟨f1,f2⟩:=ao hg;have hl:(ab.map fun(p:Nat×Operand)=>(p.1,a.eval p.2)).toList=ab.toList.map fun p=>(p.1,a.eval p.2):=by simp
       rw[<-hl]at f1 f2;obtain⟨xs,g1,g2,g3,g4,g5⟩:=Fc (w:=w) he p1 p2 f1 f2 p3;refine⟨xs,?_,g2,g3,g4,g5⟩;simp only[execOp,I];exact KR g1
     obtain⟨aw,z,hu,hi,ar,_,aa,_⟩:=iN he;split at h3
     . rename_i ai
       obtain⟨_,rfl⟩:=ai;have hw:=cY E rfl;obtain⟨xs,g1,g2,g3,g4,g5⟩:=go trivial;have ac:(ps.map (·.2)).length=m:=by simpa using g4
       have q:=F.newRow (e:=e) (sz:=sz) (cap:=m) (es:=ps.map (·.2)) (xs:=xs) (cur:=xs.toArray) aa (iM.1 p2) g2 g3 (by omega) (by simp only[maxLen];have:m<=m*sz:=Nat.le_mul_of_pos_right _ aa;omega) (by simpa using g5)
         (by rw[ac,List.take_of_length_le (by simp[g5])]) (w':=w.alloc (.cells xs.toArray e)) rfl rfl rfl rfl
       refine fF hw (eK g1 (hK _ _ _ _ (h3 S.N F.fresh) (Rel.step F O T hN Z M q.1 q.2 (oB F) ?_)));simp only[rep,Sg.addRow,if_true];exact⟨Nat.lt_succ_self _,by rw[ac],_,_,_,rfl⟩
     . refine And.symm ⟨fun hw=>?_,fun hw=>?_⟩
       . have ae:¬gt G:=fun h=>by rw[E.2 h]at hw;simp at hw
         exact hK _ _ _ _ h3 (Rel.step F O T hN Z M F (Grow.refl S w) (eY.refl _ _) (eN ae))
       have ae:=E.1 hw;obtain⟨xs,g1,g2,g3,g4,g5⟩:=go ae;have ac:(ps.map (·.2)).length=m:=by simpa using g4
       have q:=F.newRo (o:=.cells xs.toArray e) (w':=w.alloc (.cells xs.toArray e)) rfl rfl rfl rfl;refine eK g1 (hK _ _ _ _ h3 (Rel.step F O T hN Z M q.1 q.2 (eY.refl _ _) (fC ae ?_)));simp only[rep];refine⟨_,_,_,rfl,ac,Nat.le_refl _,by simp only[maxLen];have:m<=m*sz:=Nat.le_mul_of_pos_right _ aa;omega,.inr ⟨w.heap.size,0,sz,rfl,.inr rfl,aa,?_⟩⟩;refine pE _ _ (iM.1 p2) (iT _ xs 0 (dR q.2.le (q.2.kept F) _ _ g2) g3 fun j u hj=>?_);rw[cell_of_row (w.alloc (.cells xs.toArray e)) w.heap.size (0+j) xs.toArray e (0,0) (heap_alloc_new w _)];simpa using hj
   . exact h2.elim
 . -- store
   rename_i t x y I
   obtain⟨rfl,_,h⟩:=h;have hw:=cY E rfl;split at h
   . rename_i af
     have hy:y=.const (.slice none 0 0):=by
       unfold qW at af;split at af
       . rfl
       . simp at af
     subst hy;exact Ei (K2:=fun _=>True) F O T hN Z M I (fun x hx=>M▸J x hx) hw hK h
   obtain⟨x',h2,am⟩:=aU (S:=S) (w:=w) h;obtain⟨y',h3,au⟩:=aU (S:=S) (w:=w) h2;obtain⟨cs,h4,aj⟩:=vG (S:=S) (w:=w) h3;have an:opB a.tmps.size x=true:=M▸J x (by simp[I,Op.operands]);have aq:opB a.tmps.size y=true:=M▸J y (by simp[I,Op.operands]);have ex:=am trivial _ (cO O an);obtain⟨l,e1,e2,e3⟩:=aj _ (au trivial _ (cO O aq));exact Cc F O T hN Z M I hw hK ex e1 e2 e3 h4
 . rename_i c I;exact Of F O T hN Z M I J E hK h
 all_goals first
   | exact h.elim
   | (rename_i I; split at h
      . obtain⟨rfl,_,h⟩:=h;exact KJ F O T hN Z M I (fun x hx=>M▸J x hx) (cY E rfl) hK h
      . exact qU F O T hN Z M J E hK (by rw[I];exact h))
   | (rename_i I; split at h
      . obtain⟨rfl,_,h⟩:=h;exact Py F O T hN Z M I J E hK h
      . exact qU F O T hN Z M J E hK (by rw[I];exact h))
   | (rename_i I; split at h
      . obtain⟨rfl,h⟩:=h
        split at h
        . exact Kw F O T hN Z M I (fun x hx=>M▸J x hx) (cY E rfl) hK h
        . exact Ka F O T hN Z M I (fun x hx=>M▸J x hx) (cY E rfl) hK h
      . exact qU F O T hN Z M J E hK (by rw[I];exact h))
   | (rename_i I;obtain⟨rfl,_,h⟩:=h;exact Ek F O T hN Z M I (fun x hx=>M▸J x hx) (cY E rfl) hK h)
   | (rename_i I;exact qU F O T hN Z M J E hK (by rw[I];exact h))
   | (rename_i I;obtain⟨rfl,_,h⟩:=h;exact GC F O T hN Z M I (cY E rfl) hK h)
   | (rename_i I;obtain⟨rfl,_,h⟩:=h;exact D8 F O T hN Z M I (fun x hx=>M▸J x hx) (cY E rfl) hK h)
   | (rename_i I;obtain⟨rfl,_,h⟩:=h;exact Jo F O T hN Z M I (fun x hx=>M▸J x hx) (cY E rfl) hK h)
   | (rename_i I;obtain⟨rfl,_,h⟩:=h;exact Ft F O T hN Z M I (fun x hx=>M▸J x hx) (cY E rfl) hK h)
   | (rename_i I;obtain⟨rfl,_,h⟩:=h;exact C8 F O T hN Z M I (fun x hx=>M▸J x hx) (cY E rfl) hK h)
end
end Go.Aw
end
