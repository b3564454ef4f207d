import Derived.Test.YtohmomanmikphaaGreatDoorPf03
set_option linter.unusedSimpArgs false
set_option linter.unusedVariables false
set_option maxRecDepth 100000
section
namespace Go.Aw
open Go.RowKit
section
variable{P:Program}{n:Nat}{S0:Sg}{w0:World}{H0:aG}{mt:Nat->Bool}{ops:Array Oper}{K:Env->aG->Prop}{K':Act->World->Prop}{Q':Exit->Act->World->Prop}{ρ:Env}{H:aG}{a:Act}{w:World}{o:Oper}{S:Sg}
theorem cO{G:Option Bool}(u:Region.wanted o (yielded ops a.tmps)=true↔gt G)(E:G=none):Region.wanted o (yielded ops a.tmps)=true:=by subst E;exact u.2 trivial
theorem LO{f:FuncId}(h:aC P f=true):∃fn,P.funcs[f]?=some fn/\(fn.name == "runtime.NumGoroutine")=false/\fn.body.isNone=false:=by
 unfold aC at h;split at h
 . rename_i fn u
   simp only[Bool.and_eq_true,bne_iff_ne,ne_eq]at h;refine⟨fn,u,by simpa using h.1,?_⟩;cases E:fn.body <;> simp_all
 . simp at h
theorem oW{f:FuncId}(h:aC P f=true)(args:Array Value)(w:World):(callFunc f args).run P w=.ok (.enter f args) w:=by
 obtain⟨fn,h1,I,F⟩:=LO h;have E:¬fn.name = "runtime.NumGoroutine" := by simpa using I
 have u:¬fn.body=none:=fun e=>by rw[e]at F;simp at F
 simp[callFunc,h1,E,u]
theorem eK(u:Region.wanted o (yielded ops a.tmps)=true)(h:o.wp P a w K' Q'):vK P ops o a w K' Q':=⟨fun _=>h,fun e=>by rw[u]at e;simp at e⟩
theorem HS:∀(l:List Value),bF S w (l.map .v) l
 | []=>by simp[bF]
 | v::r=>by simp only[List.map_cons,bF];exact⟨v,r,rfl,kC,HS r⟩
theorem zV{x:AV}{g:FuncId}{I F:List AV}{u:Value}(h:LA x=some (g,I,F))(J:rep S w x u):
   ∃first E:Array Value,u=.func (.func g) first E/\bF S w I first.toList/\bF S w F E.toList:=by
 unfold LA at h;split at h
 . rename_i f first E
   simp only[Option.some.injEq,Prod.mk.injEq]at h;obtain⟨rfl,rfl,rfl⟩:=h;simp only[rep]at J;exact⟨first,E,J,HS _,HS _⟩
 . rename_i f cap
   simp only[Option.some.injEq,Prod.mk.injEq]at h;obtain⟨rfl,rfl,rfl⟩:=h;simp only[rep]at J;obtain⟨l,rfl,M⟩:=J;exact⟨#[],l.toArray,rfl,by simp[bF],by simpa using M⟩
 . simp at h
theorem lY{c:Call}{f:Operand}(F:c.callee=.value f){g:FuncId}{first u:Array Value}(E:a.eval f=.func (.func g) first u)(ty:TypeId):
   resolve a.eval c ty=pure { target:=.fn (.func g) u,args:=first++c.args.map a.eval }:=by
 unfold resolve;simp only[F];rw[E];rfl
theorem Lq{nl aq:Bool}{G:Option Bool}{c:Call}(M:St S w H)(Z:FR S w ρ a)(hG:Grow S0 w0 S w)(hN:eH S0.N H0 H)(hd:a.defers=[])(hn:a.tmps.size=n)(ho:o.op=.call c)(hb:∀x∈o.op.operands,opB n x=true)
   (ah:Region.wanted o (yielded ops a.tmps)=true↔gt G) (hK:∀bb H' a' w',K bb H'->Rel n S0 w0 H0 bb H' a' w'->K' a' w') (h:Ah P (aX P) (cZ P) nl aq G o c ρ H K):vK P ops o a w K' Q':=by
 rw[ho]at hb;simp only[Op.operands,Call.operands]at hb;unfold Ah at h;split at h
 . rename_i b hc
   obtain⟨ys,h2,al⟩:=lS Z c.args.toList (fun x hx=>hn▸hb x (by simp[Array.mem_toList_iff.1 hx])) h;clear h;have h:=h2;clear h2;split at h
   . rename_i x t J
     obtain⟨z,hz,hl⟩:=Er (G:=G) (ty:=o.type) M.rows h;refine⟨fun hw=>?_,fun hw=>?_⟩
     . have O:=ah.1 hw
       have hr:=al O;simp only[bF]at hr;obtain⟨u,t',e1,e2,rfl⟩:=hr;obtain⟨v,hv,an⟩:=hl O u e2;have ea:c.args.map a.eval=#[u]:=by
         apply Array.toList_inj.1;simpa using e1
       have et:c.argTypes=#[t]:=Array.toList_inj.1 (by simpa using J);refine dS (v:=v) (w':=w) ?_ (hK _ _ _ _ hz (Rel.step M Z hG hN hd hn M (Grow.refl S w) (eH.refl _ _) (eI O hv)));simp[execOp,ho,resolve,hc,invoke,builtin,ea,et,an w (Agree.refl S H w)]
     . have O:¬gt G:=fun h=>by rw[ah.2 h]at hw;simp at hw
       exact hK _ _ _ _ hz (Rel.step M Z hG hN hd hn M (Grow.refl S w) (eH.refl _ _) (dV O))
   . rename_i s x t t' J
     split at h
     . rename_i ac
       obtain⟨bk,ak,_⟩:=ac;subst ak;subst bk;have hw:=cO ah rfl;refine eK hw ?_;have hr:=al trivial;simp only[bF]at hr;obtain⟨us,t1,e1,e2,ux,t2,rfl,e3,rfl⟩:=hr;have ea:c.args.map a.eval=#[us,ux]:=Array.toList_inj.1 (by simpa using e1);have et:c.argTypes=#[t,t]:=Array.toList_inj.1 (by simpa using J);unfold rH at h;split at h
       . rename_i k e sz aa he
         split at h
         . rename_i r hk
           have app : ∀ news, vX S w ux news -> ((r.e = e /\ r.sz = sz /\ cP sz news /\ (r.es.length + news.length) * aa <= 140737488355328) /\
               ∀k',H k'=none->K (upd ρ o.dst (.os k')) (aI (aI H k none) k' (some ⟨e,sz,r.es++news⟩)))->o.wp P a w K' Q':=by
             rintro news ai ⟨⟨rfl,rfl,am,aj⟩,au⟩;simp only[rep]at e2;obtain⟨bm,rfl,_,_,_,a6⟩:=e2;obtain⟨v',w',q1,q2,q3,q4⟩:=M.append hk a6 (ty:=o.type) he ai am aj;refine dS (v:=v') (w':=w') ?_ (hK _ _ _ _ (au S.N M.fresh) (Rel.step M Z hG hN hd hn q3 q4 ?_ ?_))
             . simp[execOp,ho,resolve,hc,invoke,builtin,ea,et,q1]
             . intro j hj h0
               rw[aD _ _ _ _ (Nat.ne_of_lt hj)];by_cases e:j=k
               . subst e;exact aA _ _ _
               . rw[aD _ _ _ _ e];exact h0
             . simp only[rep,Sg.addRow,if_true]
               exact⟨Nat.lt_succ_self _,trivial,q2⟩
           unfold vM at h;split at h
           . exact app _ (H5 e3) h
           . rename_i k2
             split at h
             . rename_i r2 ab
               simp only[rep]at e3;obtain⟨_,rfl,_,_,_,ae⟩:=e3;exact app _ (Ib (M.rows k2 r2 ab) ae) h
             . exact h.elim
           . rename_i k2 a2 b2
             split at h
             . rename_i r2 ab
               exact app _ (BR (M.rows k2 r2 ab) e3).1 h
             . exact h.elim
           . exact h.elim
         . exact h.elim
       . rename_i es e sz aa he
         have app : ∀ news, vX S w ux news -> ((news ≠ [] /\ cP sz es /\ cP sz news /\ (es.length + news.length) * aa <= 140737488355328) /\
             ∀k',H k'=none->K (upd ρ o.dst (.os k')) (aI H k' (some ⟨e,sz,es++news⟩)))->o.wp P a w K' Q':=by
           rintro news ai ⟨⟨a8,a5,am,aj⟩,au⟩;obtain⟨v',w',q1,q2,q3,q4⟩:=M.appendNew e2 (ty:=o.type) he ai a8 a5 am aj;refine dS (v:=v') (w':=w') ?_ (hK _ _ _ _ (au S.N M.fresh) (Rel.step M Z hG hN hd hn q3 q4 ?_ ?_))
           . simp[execOp,ho,resolve,hc,invoke,builtin,ea,et,q1]
           . intro j hj h0
             rw[aD _ _ _ _ (Nat.ne_of_lt hj)];exact h0
           . simp only[rep,Sg.addRow,if_true]
             exact⟨Nat.lt_succ_self _,trivial,q2⟩
         unfold vM at h;split at h
         . exact app _ (H5 e3) h
         . rename_i k2
           split at h
           . rename_i r2 ab
             simp only[rep]at e3;obtain⟨_,rfl,_,_,_,ae⟩:=e3;exact app _ (Ib (M.rows k2 r2 ab) ae) h
           . exact h.elim
         . rename_i k2 a2 b2
           split at h
           . rename_i r2 ab
             exact app _ (BR (M.rows k2 r2 ab) e3).1 h
           . exact h.elim
         . exact h.elim
       . rename_i e sz aa he
         have bi:rep S w (.cl []) us:=by
           have hu:us=.slice none 0 0:=by simp only[rep]at e2;exact e2
           subst hu;simp only[rep];exact⟨none,0,rfl,rfl,Nat.zero_le _,.inl trivial⟩
         have app : ∀ news, vX S w ux news -> ((news ≠ [] /\ cP sz ([] : List (List AV)) /\ cP sz news /\ (([] : List (List AV)).length + news.length) * aa <= 140737488355328) /\
             ∀k',H k'=none->K (upd ρ o.dst (.os k')) (aI H k' (some ⟨e,sz,[]++news⟩)))->o.wp P a w K' Q':=by
           rintro news ai ⟨⟨a8,a5,am,aj⟩,au⟩;obtain⟨v',w',q1,q2,q3,q4⟩:=M.appendNew bi (ty:=o.type) he ai a8 a5 am aj;refine dS (v:=v') (w':=w') ?_ (hK _ _ _ _ (au S.N M.fresh) (Rel.step M Z hG hN hd hn q3 q4 ?_ ?_))
           . simp[execOp,ho,resolve,hc,invoke,builtin,ea,et,q1]
           . intro j hj h0
             rw[aD _ _ _ _ (Nat.ne_of_lt hj)];exact h0
           . simp only[rep,Sg.addRow,if_true]
             exact⟨Nat.lt_succ_self _,trivial,q2⟩
         unfold vM at h;split at h
         . exact app _ (H5 e3) h
         . rename_i k2
           split at h
           . rename_i r2 ab
             simp only[rep]at e3;obtain⟨_,rfl,_,_,_,ae⟩:=e3;exact app _ (Ib (M.rows k2 r2 ab) ae) h
           . exact h.elim
         . rename_i k2 a2 b2
           split at h
           . rename_i r2 ab
             exact app _ (BR (M.rows k2 r2 ab) e3).1 h
           . exact h.elim
         . exact h.elim
       . exact h.elim
     . exact h.elim
   . rename_i x y t t' J
     split at h
     . rename_i ac
       obtain⟨ak,_⟩:=ac;subst ak;have hw:=cO ah rfl;refine eK hw ?_;have hr:=al trivial;simp only[bF]at hr;obtain⟨us,t1,e1,e2,ux,t2,rfl,e3,rfl⟩:=hr;have ea:c.args.map a.eval=#[us,ux]:=Array.toList_inj.1 (by simpa using e1);have et:c.argTypes=#[t,t']:=Array.toList_inj.1 (by simpa using J);have go : ∀ k a0 n0 r, H k = some r -> a0 + n0 <= r.es.length -> (∃ ad cc, us = .slice ad n0 cc /\ (0 < n0 -> ∃ g n' c', S.loc k = .slice (some ⟨g, 0, none⟩) n' c' /\ ad = some ⟨g, a0 * r.sz, none⟩)) -> ∀ news, vX S w ux news ->
           (match bR P t with
             | some (_,sz,_)=>(r.sz=sz/\cP sz news)/\K (upd ρ o.dst (.v (.int .i64 (min news.length n0:Nat)))) (aI H k (some { r with es:=r.es.take a0++news.take (min news.length n0)++r.es.drop (a0+min news.length n0) }))
             | none=>False)->o.wp P a w K' Q':=by
         intro k a0 n0 r hk a4 hx news ai af;split at af
         . rename_i e sz aa he
           obtain⟨⟨h1,h2⟩,h3⟩:=af;obtain⟨w',q1,q2,q3⟩:=M.copy hk (t':=t') (ty:=o.type) he h1 a4 ai h2 hx;refine dS (v:=goInt (min news.length n0:Nat)) (w':=w') ?_ (hK _ _ _ _ h3 (Rel.step M Z hG hN hd hn q2 q3 ?_ (by simp only[rep];rfl)))
           . simp[execOp,ho,resolve,hc,invoke,builtin,ea,et,q1]
           . intro j hj h0
             by_cases e:j=k
             . subst e;rw[hk]at h0;simp at h0
             . rw[aD _ _ _ _ e];exact h0
         . exact af.elim
       have src:∀F:List (List AV)->Prop,vM H y F->∃news,vX S w ux news/\F news:=by
         intro F Z;unfold vM at Z;split at Z
         . exact⟨_,H5 e3,Z⟩
         . rename_i k2
           split at Z
           . rename_i r2 ab
             simp only[rep]at e3;obtain⟨_,rfl,_,_,_,ae⟩:=e3;exact⟨_,Ib (M.rows k2 r2 ab) ae,Z⟩
           . exact Z.elim
         . rename_i k2 a2 b2
           split at Z
           . rename_i r2 ab
             exact⟨_,(BR (M.rows k2 r2 ab) e3).1,Z⟩
           . exact Z.elim
         . exact Z.elim
       unfold Qe Fo at h;split at h
       . rename_i k
         split at h
         . rename_i r hk
           obtain⟨news,hs,af⟩:=src _ h;have hR:=M.rows k r hk;simp only[rep]at e2;obtain⟨_,rfl,ad,n,cc,T⟩:=e2;obtain⟨xs,av,_,_⟩:=hR.sl T;have hn:n=r.es.length/\(0<r.es.length->∃g,ad=some ⟨g,0,none⟩):=by
             rcases av.2 with⟨hv,h0⟩|⟨g,cap,cur,hv,_⟩
             . rw[T]at hv;injection hv with _ h2 _;exact⟨by omega,fun h=>by omega⟩
             . rw[T]at hv;injection hv with h1 h2 _;exact⟨h2,fun _=>⟨g,h1⟩⟩
           refine go k 0 r.es.length r hk (by omega) ⟨ad,cc,by rw[T,hn.1],fun hp=>?_⟩ news hs af;obtain⟨g,rfl⟩:=hn.2 hp;exact⟨g,n,cc,T,by simp⟩
         . exact h.elim
       . rename_i k a0 b0
         split at h
         . rename_i r hk
           obtain⟨news,hs,af⟩:=src _ h;have hR:=M.rows k r hk;obtain⟨_,hb,bh⟩:=BR hR e2;simp only[rep]at e2;obtain⟨_,ad,n,c0,a7,cc,T,rfl,_,_,ar,_⟩:=e2;refine go k a0 (b0-a0) r hk (by omega) ⟨a7,cc,rfl,fun hp=>?_⟩ news hs af;obtain⟨g,rfl,rfl⟩:=ar (by omega);exact⟨g,n,c0,T,by rw[hR.sz]⟩
         . exact h.elim
       . exact h.elim
     . exact h.elim
   . rename_i x t J
     split at h
     . rename_i ac
       obtain⟨ak,_⟩:=ac;subst ak;have hw:=cO ah rfl;refine eK hw ?_;have hr:=al trivial;simp only[bF]at hr;obtain⟨us,t1,e1,e2,rfl⟩:=hr;have ea:c.args.map a.eval=#[us]:=Array.toList_inj.1 (by simpa using e1);have et:c.argTypes=#[t]:=Array.toList_inj.1 (by simpa using J);have go : ∀ k a0 n0 r, H k = some r -> a0 + n0 <= r.es.length -> (∃ ad cc, us = .slice ad n0 cc /\ (0 < n0 -> ∃ g n' c', S.loc k = .slice (some ⟨g, 0, none⟩) n' c' /\ ad = some ⟨g, a0 * r.sz, none⟩)) ->
           (match bR P t with
             | some (e,sz,_)=>match dC P e with
               | some zs=>r.sz=sz/\K (upd ρ o.dst .any) (aI H k (some { r with es:=r.es.take a0++List.replicate n0 zs++r.es.drop (a0+n0) }))
               | none=>False
             | none=>False)->o.wp P a w K' Q':=by
         intro k a0 n0 r hk a4 hx af;split at af
         . rename_i e sz aa he
           split at af
           . rename_i zs bj
             obtain⟨h1,h3⟩:=af;obtain⟨w',q1,q2,q3⟩:=M.clear hk (ty:=o.type) he bj h1 a4 hx;refine dS (v:=.tuple #[]) (w':=w') ?_ (hK _ _ _ _ h3 (Rel.step M Z hG hN hd hn q2 q3 ?_ (by simp only[rep])))
             . simp[execOp,ho,resolve,hc,invoke,builtin,ea,et,q1]
             . intro j hj h0
               by_cases e:j=k
               . subst e;rw[hk]at h0;simp at h0
               . rw[aD _ _ _ _ e];exact h0
           . exact af.elim
         . exact af.elim
       unfold HV Fo at h;split at h
       . rename_i k
         split at h
         . rename_i r hk
           have hR:=M.rows k r hk;simp only[rep]at e2;obtain⟨_,rfl,ad,n,cc,T⟩:=e2;obtain⟨xs,av,_,_⟩:=hR.sl T;have hn:n=r.es.length/\(0<r.es.length->∃g,ad=some ⟨g,0,none⟩):=by
             rcases av.2 with⟨hv,h0⟩|⟨g,cap,cur,hv,_⟩
             . rw[T]at hv;injection hv with _ h2 _;exact⟨by omega,fun h=>by omega⟩
             . rw[T]at hv;injection hv with h1 h2 _;exact⟨h2,fun _=>⟨g,h1⟩⟩
           refine go k 0 r.es.length r hk (by omega) ⟨ad,cc,by rw[T,hn.1],fun hp=>?_⟩ h;obtain⟨g,rfl⟩:=hn.2 hp;exact⟨g,n,cc,T,by simp⟩
         . exact h.elim
       . rename_i k a0 b0
         split at h
         . rename_i r hk
           have hR:=M.rows k r hk;obtain⟨_,hb,bh⟩:=BR hR e2;simp only[rep]at e2;obtain⟨_,ad,n,c0,a7,cc,T,rfl,_,_,ar,_⟩:=e2;refine go k a0 (b0-a0) r hk (by omega) ⟨a7,cc,rfl,fun hp=>?_⟩ h;obtain⟨g,rfl,rfl⟩:=ar (by omega);exact⟨g,n,c0,T,by rw[hR.sz]⟩
         . exact h.elim
       . exact h.elim
     . exact h.elim
   . rename_i x y t t' J
     obtain⟨z,hz,hl⟩:=D0 (P:=P) (S:=S) (w:=w) (H:=H) (G:=G) (tys:=c.argTypes) (ty:=o.type) h;refine⟨fun hw=>?_,fun hw=>?_⟩
     . have O:=ah.1 hw
       have hr:=al O;simp only[bF]at hr;obtain⟨us,t1,e1,e2,ux,t2,rfl,e3,rfl⟩:=hr;obtain⟨v,hv,an⟩:=hl O us ux e2 e3;have ea:c.args.map a.eval=#[us,ux]:=Array.toList_inj.1 (by simpa using e1);refine dS (v:=v) (w':=w) ?_ (hK _ _ _ _ hz (Rel.step M Z hG hN hd hn M (Grow.refl S w) (eH.refl _ _) (eI O hv)));simp[execOp,ho,resolve,hc,invoke,builtin,ea,an w (Agree.refl S H w)]
     . have O:¬gt G:=fun h=>by rw[ah.2 h]at hw;simp at hw
       exact hK _ _ _ _ hz (Rel.step M Z hG hN hd hn M (Grow.refl S w) (eH.refl _ _) (dV O))
   . rename_i x y t t' J
     obtain⟨z,hz,hl⟩:=E8 (P:=P) (S:=S) (w:=w) (H:=H) (G:=G) (tys:=c.argTypes) (ty:=o.type) h;refine⟨fun hw=>?_,fun hw=>?_⟩
     . have O:=ah.1 hw
       have hr:=al O;simp only[bF]at hr;obtain⟨us,t1,e1,e2,ux,t2,rfl,e3,rfl⟩:=hr;obtain⟨v,hv,an⟩:=hl O us ux e2 e3;have ea:c.args.map a.eval=#[us,ux]:=Array.toList_inj.1 (by simpa using e1);refine dS (v:=v) (w':=w) ?_ (hK _ _ _ _ hz (Rel.step M Z hG hN hd hn M (Grow.refl S w) (eH.refl _ _) (eI O hv)));simp[execOp,ho,resolve,hc,invoke,builtin,ea,an w (Agree.refl S H w)]
     . have O:¬gt G:=fun h=>by rw[ah.2 h]at hw;simp at hw
       exact hK _ _ _ _ hz (Rel.step M Z hG hN hd hn M (Grow.refl S w) (eH.refl _ _) (dV O))
   . exact h.elim
 . rename_i f hc
   obtain⟨yf,h2,hf⟩:=aR (S:=S) (w:=w) h;clear h;have h:=h2;clear h2;split at h
   . rename_i g bd be bc
     by_cases a9:nl=true
     . rw[if_pos a9]at h
       obtain⟨ak,bn,az,h⟩:=h;subst ak;have hw:=cO ah rfl;obtain⟨first,E,ay,h2,h3⟩:=zV bc (hf trivial _ (cC Z (hn▸hb f (by simp[hc]))));have ao:bF S w (bd++c.args.toList.map (HA ρ)++be) (first++c.args.map a.eval++E).toList:=by
         simp only[Array.toList_append];refine cT _ _ _ _ (cT _ _ _ _ h2 ?_) h3;have:=Cs Z c.args.toList (fun x hx=>hn▸hb x (by simp[hc,Array.mem_toList_iff.1 hx]));simpa using this
       have ag:(execOp a.eval o).run P w=.ok (.enter g (first++c.args.map a.eval++E)) w:=by
         simp only[execOp,ho];rw[lY hc ay];simp[invoke,oW az]
       refine eK hw ?_;have I:=h S w _ M ao;unfold Oper.wp;rw[ag];simp only[Oper.upon,Array.toArray_toList]at I |-;refine I.mono fun e w' ⟨v,r,H',S',he,hr,ap,hv,ax,aw⟩=>?_
       subst he;exact hK _ _ _ _ hr (Rel.step M Z hG hN hd hn ap ax aw hv)
     rw[if_neg a9]at h;obtain⟨ys,h2,al⟩:=lS Z c.args.toList (fun x hx=>hn▸hb x (by simp[hc,Array.mem_toList_iff.1 hx])) h;clear h;obtain⟨az,h⟩:=h2;have bg:=fun hg=>zV bc (hf hg _ (cC Z (hn▸hb f (by simp[hc]))))
     have J:gt G->∃first E:Array Value,a.eval f=.func (.func g) first E/\bF S w (bd++ys++be) (first++c.args.map a.eval++E).toList:=fun hg=>by
       obtain⟨first,E,h1,h2,h3⟩:=bg hg;refine⟨first,E,h1,?_⟩;simp only[Array.toList_append];refine cT _ _ _ _ (cT _ _ _ _ h2 ?_) h3;simpa using al hg
     split at h
     . rename_i ac
       obtain⟨ak,_⟩:=ac;subst ak;have hw:=cO ah rfl;obtain⟨first,E,ay,ao⟩:=J trivial;have ag:(execOp a.eval o).run P w=.ok (.enter g (first++c.args.map a.eval++E)) w:=by
         simp only[execOp,ho];rw[lY hc ay];simp[invoke,oW az]
       refine eK hw ?_;have I:=h S w _ M ao;unfold Oper.wp;rw[ag];simp only[Oper.upon,Array.toArray_toList]at I |-;refine I.mono fun e w' ⟨v,r,H',S',he,hr,ap,hv,ax,aw⟩=>?_
       subst he;exact hK _ _ _ _ hr (Rel.step M Z hG hN hd hn ap ax aw hv)
     . obtain⟨r,hq,hk⟩:=h
       refine⟨fun hw=>?_,fun hw=>?_⟩
       . have O:=ah.1 hw
         obtain⟨first,E,ay,ao⟩:=J O;have ag:(execOp a.eval o).run P w=.ok (.enter g (first++c.args.map a.eval++E)) w:=by
           simp only[execOp,ho];rw[lY hc ay];simp[invoke,oW az]
         rcases hq O with hq|⟨x,rfl,bf⟩
         . obtain⟨v,ba⟩:=hq.val
           obtain⟨hv,I⟩:=hq.calls ba M ao;rw[MB (by rw[ba];rfl)]at hk;unfold Oper.wp;rw[ag];simp only[Oper.upon,Array.toArray_toList]at I |-;refine I.mono fun e w' ⟨he,p1,p2,p3,p4,p5⟩=>?_
           subst he;exact hK _ _ _ _ hk (Rel.step M Z hG hN hd hn (M.after p4 p5) (M.grow p1 p2 p3 p4 p5) (eH.refl _ _) (eI O (hv S w')))
         . cases aq with
           | true=>exact hk.elim
           | false=>
             have I:=(PC.use (H:=H) bf (K:=fun y H'=>y=x/\H'=H) ⟨rfl,rfl⟩) S w _ M ao;unfold Oper.wp;rw[ag];simp only[Oper.upon,Array.toArray_toList]at I |-;refine I.mono fun e w' ⟨v,r,H',S',he,⟨hr,hH⟩,ap,hv,ax,aw⟩=>?_
             subst he hr hH;exact hK _ _ _ _ hk (Rel.step M Z hG hN hd hn ap ax aw (eI O hv))
       . have O:¬gt G:=fun h=>by rw[ah.2 h]at hw;simp at hw
         obtain⟨z,hk⟩:=Lk hk;exact hK _ _ _ _ hk (Rel.step M Z hG hN hd hn M (Grow.refl S w) (eH.refl _ _) (dV O))
   . exact h.elim
 . exact h.elim
end
end Go.Aw
end
section
namespace Go.Aw
open Go.RowKit
section
variable{P:Program}{n:Nat}{S0:Sg}{w0:World}{H0:aG}{mt:Nat->Bool}{ops:Array Oper}{K:Env->aG->Prop}{K':Act->World->Prop}{Q':Exit->Act->World->Prop}{ρ:Env}{H:aG}{a:Act}{w:World}{o:Oper}{S:Sg}
theorem sQ{w':World}(h:(execOp a.eval o).run P w=.ok .skip w')(u:K' (a.put o.dst undef) w'):o.wp P a w K' Q':=by
 unfold Oper.wp;rw[h];exact u
theorem Mp{s:Sem Value}{v:Value}{w w':World}(h:s.run P w=.ok v w'):(do pure (Next.value (<-s)):Sem Next).run P w=.ok (.value v) w':=by
 simp[h]
theorem IT{t:TypeId}{l:Option Nat}(J:ldT P t=some l){v:Value}{vs:List Value}(M:v.cells=List.toArray vs)(E:vs.length=l.getD 1){g p:Nat}{w w':World}(u:l=none->∃i,P.info? t=some i/\i.size=1)
   (I:(storeCells ⟨g,p,none⟩ vs).run P w=.ok () w'):(Instr.storeAt t (.pointer (some ⟨g,p,none⟩)) v).run P w=.ok () w':=by
 have F:(sizeOf t).run P w=.ok vs.length w:=by
   cases l with
   | none=>
     obtain⟨i,O,h1⟩:=u rfl;simp[sizeOf,typeInfo,O,h1,E]
   | some m=>
     rw[rX J,E];rfl
 simp[Instr.storeAt,Instr.sureAddr,storeVar,F,M,I]
theorem wX(z:Array Value)(F:0<z.size):∀m,(madeCells z (m*z.size)).toList=(List.replicate m z.toList).flatten
 | 0=>by simp[madeCells]
 | m+1=>by
   have ih:=wX z F m;rw[show List.replicate (m+1) z.toList=List.replicate m z.toList++[z.toList]from List.replicate_succ',List.flatten_append,<-ih];simp only[madeCells,Array.toList_map,Array.toList_range,Nat.add_mul,Nat.one_mul,List.flatten_cons,List.flatten_nil,List.append_nil];rw[List.range_add,List.map_append]
   congr 1
   apply List.ext_getElem
   . simp
   . intro i h1 E
     have u:i<z.size:=by simpa using E
     simp[Nat.add_mod,Nat.mod_eq_of_lt u,u]
theorem D5:∀(cs:List AV) (l:List Value) (j:Nat) {x:AV},bF S w cs l->(∀u,l[j]?=some u->rep S w x u)->bF S w (cs.set j x) l
 | [],_,_,_,h,_=>h
 | y::r,l,0,x,h,hx=>by
   simp only[bF,List.set_cons_zero]at h |-;obtain⟨u,t,rfl,h1,E⟩:=h;exact⟨u,t,rfl,hx u (by simp),E⟩
 | y::r,l,j+1,x,h,hx=>by
   simp only[bF,List.set_cons_succ]at h |-;obtain⟨u,t,rfl,h1,E⟩:=h;exact⟨u,t,rfl,h1,D5 r t j E fun u F=>hx u (by simpa using F)⟩
theorem nT:∀(nl:List (Nat×TypeId×Nat)) (z:List AV) (S:Sg) (H:aG) (vs:List Value) {K:List AV->aG->Prop},(∀x∈nl,vs[x.1]?=some (.slice none 0 0)/\0<x.2.2)->St S w H->bF S w z vs->iR nl z H K ->
   ∃F S' H',K F H'/\St S' w H'/\Grow S w S' w/\eH S.N H H'/\bF S' w F vs/\F.length=z.length
 | [],z,S,H,vs,K,_,hS,hr,h=>⟨z,S,H,h,hS,Grow.refl S w,eH.refl _ _,hr,rfl⟩
 | x::r,z,S,H,vs,K,hn,hS,hr,h=>by
   obtain⟨h0,E⟩:=hn x (by simp);have q:=hS.nilRow x.2.1 E;have J:=D5 z vs x.1 (x:=.os S.N) (dD q.2.le (q.2.kept hS) _ _ hr) (fun u I=>by
     rw[h0]at I;injection I with I;subst I;simp only[rep,Sg.addRow,if_true];exact⟨Nat.lt_succ_self _,trivial,_,_,_,rfl⟩)
   obtain⟨F,S',H',h1,h2,O,T,Z,h6⟩:=nT r _ _ _ vs (fun y M=>hn y (by simp[M])) q.1 J (h S.N hS.fresh);exact⟨F,S',H',h1,h2,q.2.trans O,(mM hS).trans T q.2.le.N,Z,by simpa using h6⟩
theorem zY{P:Program}{t:TypeId}{nl:List (Nat×TypeId×Nat)}(h:pN P t=some nl){i:TypeInfo}{v:Value}(F:P.info? t=some i)(I:i.zero=some v):∀x∈nl,v.cells.toList[x.1]?=some (.slice none 0 0)/\0<x.2.2:=by
 unfold pN at h;rw[F]at h;simp only[I]at h;split at h
 . rename_i u
   injection h with h;subst h;intro x E;have:=List.all_eq_true.1 u x E;simp only[Bool.and_eq_true,decide_eq_true_eq]at this;refine⟨?_,this.2⟩;have h1:=this.1;unfold Xp at h1;split at h1
   . rename_i e;exact e
   . simp at h1
 . simp at h
theorem Lp{t:TypeId}{z:List AV}(hS:St S w H)(hF:FR S w ρ a)(hG:Grow S0 w0 S w)(hN:eH S0.N H0 H)(hd:a.defers=[])(hn:a.tmps.size=n)(ho:o.op=.alloc t)(hz:dC P t=some z)
   (hw:Region.wanted o (yielded ops a.tmps)=true) (hK:∀F H' a' w',K F H'->Rel n S0 w0 H0 F H' a' w'->K' a' w') {nl:List (Nat×TypeId×Nat)} (M:pN P t=some nl)
   (h:iR nl z H fun z H=>nL H ⟨t,z.length,[z]⟩ fun k H'=>K (upd ρ o.dst (.op k 0 0)) H'):vK P ops o a w K' Q':=by
 obtain⟨i,v,hi,I,rfl,ab,ac,h1⟩:=lK hz;have J:(Instr.alloc t true (.tuple #[])).run P w=.ok (.pointer (some ⟨w.heap.size,0,none⟩)) (w.alloc (.cells v.cells t)):=by
   simp[Instr.alloc,zeroValue,typeInfo,hi,I,newVar,newRow]
 have T:∀x∈nl,v.cells.toList[x.1]?=some (.slice none 0 0)/\0<x.2.2:=zY M hi I;obtain⟨z',S',H',q0,u,E,O,Z,aa⟩:=nT nl _ S H v.cells.toList T hS (kM _) h;obtain⟨S2,q1,q2,q3⟩:=BB (t:=t) (cs:=z') (l:=v.cells.toList) u (by rw[aa];simp;omega) Z h1;refine eK hw (dS (v:=.pointer (some ⟨w.heap.size,0,none⟩)) (w':=w.alloc (.cells v.cells t)) (by simp[execOp,ho,J]) (hK _ _ _ _ (q0 S'.N u.fresh) (Rel.step u (hF.keep E.le (E.kept hS)) (hG.trans E) (hN.trans O hG.le.N) hd hn (by simpa using q1) (by simpa using q2) (mM u) (by simpa using q3))))
theorem BY{t:TypeId}{x y:Operand}{x':AV}{cs:List AV}{l:List Value}(hS:St S w H)(hF:FR S w ρ a)(hG:Grow S0 w0 S w)(hN:eH S0.N H0 H)(hd:a.defers=[])(hn:a.tmps.size=n)(ho:o.op=.store t x y)
   (hw:Region.wanted o (yielded ops a.tmps)=true) (hK:∀M H' a' w',K M H'->Rel n S0 w0 H0 M H' a' w'->K' a' w') (ex:rep S w x' (a.eval x)) (e1:(a.eval y).cells=l.toArray) (e2:bF S w cs l) (e3:∀u∈l,u.oneCell'=true)
   (I:wM P o t x' cs ρ H K):vK P ops o a w K' Q':=by
 unfold wM at I;split at I
 . rename_i k i f
   split at I
   . rename_i r ld hk T
     obtain⟨⟨c1,c2,c3,c4⟩,h5⟩:=I;simp only[rep]at ex;obtain⟨_,g,m,c,F,ep⟩:=ex;obtain⟨g',n',c',w',E,O,q1,q2⟩:=hS.store hk c1 c3 F e2 e3;rw[F]at E;injection E with J i2 i3;injection J with J;injection J with J;subst J;rw[<-(hS.rows k r hk).sz]at ep;have Z:=IT (P:=P) T e1 (by rw[fV _ _ e2,c2]) (by
       intro aa;subst aa;exact c4 rfl) (O P)
     refine eK hw (sQ (w':=w') ?_ (hK _ _ _ _ h5 (Rel.step hS hF hG hN hd hn q1 q2 ?_ (by simp only[rep]))))
     . simp[execOp,ho,ep,Z]
     . intro j _ h0
       rw[aD _ _ _ _ (fun e=>by subst e;rw[hk]at h0;simp at h0)];exact h0
   . exact I.elim
 . exact I.elim
theorem Qt:∀(x:List AV) (l:List Value) (j:Nat) (v:Value),bF S w x l->x[j]?=some (.v v)->l[j]?=some v
 | [],_,_,_,_,h=>by simp at h
 | a::r,l,0,v,h,hx=>by
   simp only[bF]at h;obtain⟨u,t,rfl,h1,E⟩:=h;have e:a=.v v:=by simpa using hx
   subst e;simp only[rep]at h1;simp[h1]
 | a::r,l,j+1,v,h,hx=>by
   simp only[bF]at h;obtain⟨u,t,rfl,h1,E⟩:=h;simpa using Qt r t j v E (by simpa using hx)
theorem AB{t:TypeId}{x y:Operand}{x':AV}{cs:List AV}{l:List Value}(M:St S w H)(hF:FR S w ρ a)(O:Grow S0 w0 S w)(hN:eH S0.N H0 H)(hd:a.defers=[])(hn:a.tmps.size=n)(ho:o.op=.store t x y)
   (hw:Region.wanted o (yielded ops a.tmps)=true) (hK:∀J H' a' w',K J H'->Rel n S0 w0 H0 J H' a' w'->K' a' w') (ex:rep S w x' (a.eval x)) (e1:(a.eval y).cells=l.toArray) (Z:bF S w cs l) (e3:∀u∈l,u.oneCell'=true)
   (I:qK P o t x' cs ρ H K):vK P ops o a w K' Q':=by
 rcases I with I|⟨_,nl,F,I⟩
 . exact BY M hF O hN hd hn ho hw hK ex e1 Z e3 I
 . obtain⟨z',S',H',q0,T,E,aa,ab,ac⟩:=nT nl _ S H l (fun x hx=>⟨Qt _ _ _ _ Z (F x hx).1,(F x hx).2⟩) M Z I
   exact BY T (hF.keep E.le (E.kept M)) (O.trans E) (hN.trans aa O.le.N) hd hn ho hw hK (jI E.le (E.kept M) _ _ ex) e1 ab e3 q0
theorem Gf{w:World}:∀(nl:List (Nat×TypeId×Nat)) (z:List AV) (vs:List Value),(∀x∈nl,vs[x.1]?=some (.slice none 0 0))->bF S w z vs->bF S w (Gl nl z) vs
 | [],z,vs,_,h=>h
 | x :: r, z, vs, hn, h => Gf r _ vs (fun y F => hn y (by simp [F])) (D5 z vs x.1 h fun u E => by
     rw[hn x (by simp)]at E;injection E with E;simp only[rep];exact E.symm)
theorem CF{o:Oper}{w1:World}{t:TypeId}{u:Array (Nat×Operand)}(hF:FR S w1 ρ a)(hb:∀x∈o.op.operands,opB a.tmps.size x=true)(Z:o.op=.build t u)
   (h:xU P o t u.toList ρ H K):∃z,K (upd ρ o.dst z) H/\∃v,rep S w1 z v/\∀w,(execOp a.eval o).run P w=.ok (.value v) w:=by
 unfold xU at h;obtain⟨ps,h,I⟩:=mB hF u.toList (fun p hp=>hb p.2 (by rw[Z];simpa[Op.operands]using⟨p.1,by simpa using hp⟩)) h;split at h
 . rename_i z pl nl hz J F
   obtain⟨e1,e2⟩:=I trivial;obtain⟨i,v,hi,E,rfl,aa,ab,h1⟩:=lK hz;split at h
   . rename_i cs O
     obtain⟨M,T,f2,f3⟩:=rY (S:=S) (w:=w1) hi E h1 (Gf nl _ _ (fun x hx=>(zY F hi E x hx).1) (kM _)) J O e1 (fun j i c hj=>e2 j i c hj);refine⟨_,h,.agg M,?_,fun w=>?_⟩
     . simp only[rep];exact⟨M.toList,by simp,f2,f3⟩
     . have:(u.map fun(p:Nat×Operand)=>(p.1,a.eval p.2)).toList=u.toList.map fun p=>(p.1,a.eval p.2):=by simp
       rw[<-this]at T;simp only[execOp,Z];exact xL (run_build w t _ M T)
   . exact h.elim
 . exact h.elim
theorem IN{t:TypeId}{u:Array (Nat×Operand)}(F:St S w H)(J:FR S w ρ a)(O:Grow S0 w0 S w)(hN:eH S0.N H0 H)(hd:a.defers=[])(hn:a.tmps.size=n)(ho:o.op=.build t u)(hb:∀x∈o.op.operands,opB a.tmps.size x=true)
   (M:Region.wanted o (yielded ops a.tmps)=true) (hK:∀E H' I w',K E H'->Rel n S0 w0 H0 E H' I w'->K' I w') (h:xU P o t u.toList ρ H K):vK P ops o a w K' Q':=by
 obtain⟨z,Z,v,hv,T⟩:=CF (S:=S) (w1:=w) J hb ho h;exact eK M (dS (v:=v) (w':=w) (T w) (hK _ _ _ _ Z (Rel.step F J O hN hd hn F (Grow.refl S w) (eH.refl _ _) hv)))
theorem HD{t:TypeId}{E:Array (Nat×Operand)}(hS:St S w H)(hF:FR S w ρ a)(hG:Grow S0 w0 S w)(hN:eH S0.N H0 H)(hd:a.defers=[])(hn:a.tmps.size=n)(ho:o.op=.build t E)(hb:∀x∈o.op.operands,opB a.tmps.size x=true)
   (hw:Region.wanted o (yielded ops a.tmps)=true) (hK:∀J H' a' w',K J H'->Rel n S0 w0 H0 J H' a' w'->K' a' w') (h:AZ P o t E.toList ρ H K):vK P ops o a w K' Q':=by
 unfold AZ at h;obtain⟨ps,h,aa⟩:=mB hF E.toList (fun p hp=>hb p.2 (by rw[ho];simpa[Op.operands]using⟨p.1,by simpa using hp⟩)) h;split at h
 . rename_i z pl nl hz ac T
   obtain⟨e1,e2⟩:=aa trivial;obtain⟨i,v,hi,M,rfl,ae,ag,h1⟩:=lK hz;obtain⟨z',S',H',O,I,F,Z,ab,af⟩:=nT nl _ S H v.cells.toList (zY T hi M) hS (kM _) h;split at O
   . rename_i cs ad
     obtain⟨A',f1,f2,f3⟩:=rY (S:=S') (w:=w) (z:=z') hi M h1 ab ac ad e1 (fun j i c hj=>by
       obtain⟨u,l,g1,g2,g3,g4⟩:=e2 j i c hj;exact⟨u,l,g1,g2,dD F.le (F.kept hS) _ _ g3,g4⟩)
     refine eK hw (dS (v:=.agg A') (w':=w) ?_ (hK _ _ _ _ O (Rel.step I (hF.keep F.le (F.kept hS)) (hG.trans F) (hN.trans Z hG.le.N) hd hn I (Grow.refl S' w) (eH.refl _ _) ?_)))
     . have:(E.map fun(p:Nat×Operand)=>(p.1,a.eval p.2)).toList=E.toList.map fun p=>(p.1,a.eval p.2):=by simp
       rw[<-this]at f1;simp only[execOp,ho];exact xL (run_build w t _ A' f1)
     . simp only[rep];exact⟨A'.toList,by simp,f2,f3⟩
   . exact O.elim
 . exact h.elim
theorem C4{t:TypeId}{x:Operand}{K2:AV->Prop}(E:St S w H)(hF:FR S w ρ a)(Z:Grow S0 w0 S w)(hN:eH S0.N H0 H)(hd:a.defers=[])(hn:a.tmps.size=n)(ho:o.op=.store t x (.const (.slice none 0 0)))(hb:∀x∈o.op.operands,opB a.tmps.size x=true)
   (hw:Region.wanted o (yielded ops a.tmps)=true) (hK:∀u H' a' w',K u H'->Rel n S0 w0 H0 u H' a' w'->K' a' w')
   (h : bP none (aev ρ x) fun y => match bR P t with
       | some (e,sz,_)=>nL H ⟨e,sz,[]⟩ fun k H=>qK P o t y [.os k] ρ H K
       | none=>False):vK P ops o a w K' Q':=by
 obtain⟨x',M,O⟩:=aR (S:=S) (w:=w) h;have T:opB a.tmps.size x=true:=hb x (by simp[ho,Op.operands]);have ex:=O trivial _ (cC hF T);split at M
 . rename_i e sz I he
   obtain⟨i,z,hu,hi,aa,_,F,_⟩:=gR he;have q:=E.nilRow e F;have h3:=M S.N E.fresh;have J:=mM E (r:=some ⟨e,sz,[]⟩);refine AB q.1 (hF.keep q.2.le (q.2.kept E)) (Z.trans q.2) (hN.trans J Z.le.N) hd hn ho hw hK (jI q.2.le (q.2.kept E) _ _ ex) (l:=[.slice none 0 0]) (by simp[Act.eval,Value.cells]) ?_ (by simp[Value.oneCell']) h3;simp only[bF,rep,Sg.addRow,if_true];exact⟨_,_,rfl,⟨Nat.lt_succ_self _,rfl,_,_,_,rfl⟩,rfl⟩
 . exact M.elim
theorem Je{x:Operand}(I:St S w H)(hF:FR S w ρ a)(hG:Grow S0 w0 S w)(hN:eH S0.N H0 H)(hd:a.defers=[])(hn:a.tmps.size=n)(ho:o.op=.move x)(hb:∀x∈o.op.operands,opB a.tmps.size x=true)
   (hw:Region.wanted o (yielded ops a.tmps)=true) (hK:∀T H' a' w',K T H'->Rel n S0 w0 H0 T H' a' w'->K' a' w') (h:xK x ρ o.dst H K):vK P ops o a w K' Q':=by
 unfold xK at h;split at h
 . rename_i t
   split at h
   . rename_i j hj
     split at h
     . rename_i r hr
       have ab:=hb (.tmp t) (by simp[ho,Op.operands]);have hv:rep S w (ρ t) (a.eval (.tmp t)):=cC (x:=.tmp t) hF ab;rw[hj]at hv
       let Hf:aG:=fun k=>if k=j then H k else none
       let Hr:aG:=fun k=>if k=j then none else H k
       have hf:∀k r',Hf k=some r'->k=j/\H k=some r':=fun k r' u=>by
         by_cases e:k=j
         . exact⟨e,by simpa[Hf,e]using u⟩
         . simp[Hf,e]at u
       have F:∀k r',Hr k=some r'->k≠j/\H k=some r':=fun k r' u=>by
         by_cases e:k=j
         . simp[Hr,e]at u
         . exact⟨e,by simpa[Hr,e]using u⟩
       have ad:St S w Hf:=I.drop fun k r' u=>(hf k r' u).2
       have M:rep (S.froze Hf) w (.sl r.es) (a.eval (.tmp t)):=Conv.rep ad (Conv.row j r r.es (by simp[Hf,hr]) (ConvE.refl _)) hv;have O:St (S.froze Hf) w Hr:=by
         refine⟨?_,?_,fun k r' u=>(I.rows k r' (F k r' u).2).keep (S.le_froze Hf) (eL.refl S w) (fun _ _=>rfl),?_,fun k k' r1 J u ac af g E ae=>I.disj k k' r1 J (F k r1 u).2 (F k' J ac).2 af g E ae,I.tabs.keep (S.le_froze Hf) (eL.refl S w)⟩
         . rintro g (E|E)
           . exact .inl (I.ro_fz g E)
           . exact .inr E
         . rintro g (E|⟨k,r',u,E⟩)
           . exact I.fz_lt g E
           . exact(I.rows k r' (hf k r' u).2).block_lt E
         . rintro k r' u g E (h1|⟨i,J,hi,h2⟩)
           . exact I.free k r' (F k r' u).2 g E h1
           . exact I.disj k i r' J (F k r' u).2 (hf i J hi).2 (fun e=>(F k r' u).1 (e.trans (hf i J hi).1)) g E h2
       have E:Grow S w (S.froze Hf) w:=by
         refine⟨S.le_froze Hf,fun k u=>.inl u,rfl,rfl,rfl,Nat.le_refl _,fun _ _=>rfl,?_⟩;rintro g (E|⟨k,r',u,E⟩)
         . exact .inl E
         . exact .inr (I.free k r' (hf k r' u).2 g E)
       have aa:FR (S.froze Hf) w (upd ρ (some t) (.sl r.es)) a:=fun t' Z=>by
         by_cases e:t'=t
         . subst e
           have h1:=M;simp only[upd,if_true];simpa[Act.eval,Array.getD,Z]using h1
         . simp only[upd,if_neg e]
           exact(hF.keep (S.le_froze Hf) (eL.refl S w)) t' Z
       have u:=h Hr (by simp[Hr]) (fun k u=>by simp[Hr,u]);refine eK hw (dS (v:=a.eval (.tmp t)) (w':=w) ?_ (hK _ _ _ _ u (Rel.step O aa (hG.trans E) (hN.trans (fun k _ h0=>by
         by_cases e:k=j
         . simp[Hr,e]
         . simp[Hr,e,h0]) hG.le.N) hd hn O (Grow.refl _ _) (eH.refl _ _) M)))
       simp[execOp,ho]
     . exact h.elim
   . exact h.elim
 . exact h.elim
theorem DV{l:List Nat}:∀{xs u:List AV},He l H xs u->ConvL (fun k=>if k∈l then H k else none) xs u
 | [],[],_=>.nil
 | x::xs,y::u,h=>by
   simp only[He]at h;obtain⟨h1,I⟩:=h;refine .cons _ _ _ _ ?_ (DV I);rcases h1 with rfl|⟨j,r,E,rfl,F,rfl⟩
   . exact .refl _
   . exact .row j r r.es (by rw[if_pos E];exact F) (ConvE.refl _)
 | [],_::_,h=>by simp[He]at h
 | _::_,[],h=>by simp[He]at h
theorem Wa{x y:AV}{d:Option Nat}{l:List Nat}{a':Act}{w':World}(hR:Rel n S0 w0 H0 (upd ρ d x) H a' w')(hc:Conv (fun k=>if k∈l then H k else none) x y):Rel n S0 w0 H0 (upd ρ d y) (fun k=>if k∈l then none else H k) a' w':=by
 obtain⟨S,I,hF,hG,hN,hd,hn⟩:=hR
 let Hf:aG:=fun k=>if k∈l then H k else none
 let Hr:aG:=fun k=>if k∈l then none else H k
 have O:∀k r',Hf k=some r'->k∈l/\H k=some r':=fun k r' u=>by
   by_cases e:k∈l
   . exact⟨e,by simpa[Hf,e]using u⟩
   . simp[Hf,e]at u
 have F:∀k r',Hr k=some r'->¬k∈l/\H k=some r':=fun k r' u=>by
   by_cases e:k∈l
   . simp[Hr,e]at u
   . exact⟨e,by simpa[Hr,e]using u⟩
 have ab:St S w' Hf:=I.drop fun k r' u=>(O k r' u).2
 have T:St (S.froze Hf) w' Hr:=by
   refine⟨?_,?_,fun k r' u=>(I.rows k r' (F k r' u).2).keep (S.le_froze Hf) (eL.refl S w') (fun _ _=>rfl),?_,fun k k' r1 J u aa ad g E ac=>I.disj k k' r1 J (F k r1 u).2 (F k' J aa).2 ad g E ac,I.tabs.keep (S.le_froze Hf) (eL.refl S w')⟩
   . rintro g (E|E)
     . exact .inl (I.ro_fz g E)
     . exact .inr E
   . rintro g (E|⟨k,r',u,E⟩)
     . exact I.fz_lt g E
     . exact(I.rows k r' (O k r' u).2).block_lt E
   . rintro k r' u g E (h1|⟨i,J,hi,h2⟩)
     . exact I.free k r' (F k r' u).2 g E h1
     . exact I.disj k i r' J (F k r' u).2 (O i J hi).2 (fun e=>(F k r' u).1 (e▸(O i J hi).1)) g E h2
 have E:Grow S w' (S.froze Hf) w':=by
   refine⟨S.le_froze Hf,fun k u=>.inl u,rfl,rfl,rfl,Nat.le_refl _,fun _ _=>rfl,?_⟩;rintro g (E|⟨k,r',u,E⟩)
   . exact .inl E
   . exact .inr (I.free k r' (O k r' u).2 g E)
 have Z:FR (S.froze Hf) w' (upd ρ d y) a':=fun t' M=>by
   have h1:=hF t' M;cases d with
   | none=>exact hF.keep (S.le_froze Hf) (eL.refl S w') t' M
   | some d=>
     by_cases e:t'=d
     . subst e
       simp only[upd,if_true]at h1 |-;exact Conv.rep ab hc h1
     . simp only[upd,if_neg e]at h1 |-
       exact jI (S.le_froze Hf) (eL.refl S w') _ _ h1
 exact⟨S.froze Hf,T,Z,hG.trans E,hN.trans (fun k _ h0=>by
   by_cases e:k∈l
   . simp[e]
   . simp[e,h0]) hG.le.N,hd,hn⟩
theorem Oe{G:Option Bool}{l:Option Nat}{y:AV}{F K2:AV->Prop}(E:∀z,F z->K2 z)(h:mU G H l y F):mU G H l y K2:=by
 unfold mU at h |-;cases y with
 | rp cs off=>cases l <;> exact⟨h.1,E _ h.2⟩
 | op k i f=>
   simp only at h |-;cases u:H k with
   | none=>rw[u]at h;exact h.elim
   | some r=>rw[u]at h;cases l <;> exact⟨h.1,E _ h.2⟩
 | _=>exact h.elim
theorem SJ{G:Option Bool}{x:AV}{E K2:AV->Prop}(u:∀z,E z->K2 z)(h:bP G x E):bP G x K2:=by
 unfold bP at h |-;split at h
 . exact⟨h.1,u _ h.2⟩
 . exact u _ h
theorem CY{G:Option Bool}{t:TypeId}{x:Operand}{E K2:AV->Prop}(I:∀z,E z->K2 z)(h:fT P G ρ H (.load t x) E):fT P G ρ H (.load t x) K2:=by
 simp only[fT]at h |-;cases u:ldT P t with
 | none=>rw[u]at h;exact h.elim
 | some l=>rw[u]at h;exact SJ (fun y F=>Oe I F) h
theorem MP{t:TypeId}{x:Operand}(O:St S w H)(hF:FR S w ρ a)(M:Grow S0 w0 S w)(T:eH S0.N H0 H)(hd:a.defers=[])(Z:a.tmps.size=n)(ho:o.op=.load t x)(hb:∀x∈o.op.operands,opB n x=true)
   (F:Region.wanted o (yielded ops a.tmps)=true↔gt none) (hK:∀u H' I w',K u H'->Rel n S0 w0 H0 u H' I w'->K' I w') (h:fT P none ρ H (.load t x) fun x=>F6 x ρ o.dst H K):vK P ops o a w K' Q':=by
 refine pB (K:=fun u H'=>∃z,u=upd ρ o.dst z/\H'=H/\F6 z ρ o.dst H K) O hF M T hd Z hb F ?_ (by
   rw[ho];exact CY (fun z E=>⟨z,rfl,rfl,E⟩) h)
 rintro u H' I w' ⟨z,rfl,rfl,E⟩ hR;unfold F6 at E;split at E
 . obtain⟨l,ys,J,hk⟩:=E
   exact hK _ _ _ _ (hk (fun k=>if k∈l then none else H' k) (fun k e=>if_pos e) (fun k e=>if_neg e)) (Wa hR (.agg _ _ (DV J)))
 . exact E.elim
theorem CW{t:TypeId}{l c:Operand}(hS:St S w H)(hF:FR S w ρ a)(hG:Grow S0 w0 S w)(hN:eH S0.N H0 H)(hd:a.defers=[])(hn:a.tmps.size=n)(ho:o.op=.makeSlice t l c)(hb:∀x∈o.op.operands,opB a.tmps.size x=true)
   (hw:Region.wanted o (yielded ops a.tmps)=true) (hK:∀Z H' a' w',K Z H'->Rel n S0 w0 H0 Z H' a' w'->K' a' w')
   (h:bP none (aev ρ l) fun l=>bP none (aev ρ c) fun c=>pY P o t l c ρ H K):vK P ops o a w K' Q':=by
 rw[ho]at hb;simp only[Op.operands]at hb;obtain⟨l',h2,hl⟩:=aR (S:=S) (w:=w) h;obtain⟨c',M,hc⟩:=aR (S:=S) (w:=w) h2;have el:=hl trivial _ (cC hF (hb l (by simp)));have ec:=hc trivial _ (cC hF (hb c (by simp)));unfold pY at M;split at M
 . rename_i kl x kc y
   simp only[rep]at el ec;split at M
   . rename_i e sz E he
     split at M
     . rename_i z hz
       obtain⟨⟨⟨p1,p2⟩,p3⟩,h4⟩:=M;obtain⟨i,v,hi,ae,rfl,ad,ak,h1⟩:=lK hz;obtain⟨i',z',ag,I,J,aa,ac,ah,al,ai⟩:=gR he;rw[hi]at I;injection I with I;subst I;have F:v.cells.size=sz:=by rw[ad,J]
       have aj:y<=(E:Int)*y:=by
         have:(1:Int)*y<=(E:Int)*y:=Int.mul_le_mul_of_nonneg_right (by omega) (by omega);omega
       have O:=run_make (P:=P) w t e i v ag hi ae kl kc x y p1 p2 (by rw[aa];omega) (by omega);have hm:(madeCells v.cells (y.toNat*sz)).toList=(List.replicate y.toNat v.cells.toList).flatten:=by
         rw[<-F];exact wX _ (by omega) _
       have T:(madeCells v.cells (y.toNat*sz)).toList.take (x.toNat*sz)=(List.replicate x.toNat v.cells.toList).flatten:=by
         rw[hm,<-F];have:y.toNat=x.toNat+(y.toNat-x.toNat):=by omega
         rw[this,<-List.replicate_append_replicate,List.flatten_append,List.take_append_of_le_length (by simp[List.length_flatten]),List.take_of_length_le (by simp[List.length_flatten])]
       have ab:∀m,bF S w (List.replicate m (v.cells.toList.map nY)).flatten (List.replicate m v.cells.toList).flatten:=by
         intro m;induction m with
         | zero=>simp[bF]
         | succ m ih=>simp only[List.replicate_succ,List.flatten_cons];exact cT _ _ _ _ (kM _) ih
       rw[J]at O;have q:=hS.newRow (e:=e) (sz:=sz) (cap:=y.toNat) (es:=List.replicate x.toNat (v.cells.toList.map nY)) (xs:=(List.replicate x.toNat v.cells.toList).flatten) (cur:=madeCells v.cells (y.toNat*sz)) ac
         (fun cs af=>by rw[List.eq_of_mem_replicate af];simp[F]) (ab _) (fun u hu=>by
           obtain⟨l,hl,hu⟩:=List.mem_flatten.1 hu;rw[List.eq_of_mem_replicate hl]at hu;exact h1 u hu) (by rw[List.length_replicate];omega) (by simp only[maxLen];omega) (size_madeCells _ _) (by rw[List.length_replicate];exact T) (w':=w.alloc (.cells (madeCells v.cells (y.toNat*sz)) e)) rfl rfl rfl rfl
       refine eK hw (dS (v:=.slice (some ⟨w.heap.size,0,none⟩) x.toNat y.toNat) (w':=w.alloc (.cells (madeCells v.cells (y.toNat*sz)) e)) ?_ (hK _ _ _ _ (h4 S.N hS.fresh) (Rel.step hS hF hG hN hd hn q.1 q.2 (mM hS) ?_)))
       . simp only[execOp,ho,el,ec]
         exact Mp O
       . simp only[rep,Sg.addRow,if_true,List.length_replicate]
         exact⟨Nat.lt_succ_self _,trivial,_,_,_,rfl⟩
     . exact M.elim
   . exact M.elim
 . exact M.elim
theorem DP{u new:Value}(h:∀n,Instr.sameBits (n+1) u new=true)(w:World):(Instr.keyThatStays u new).run P w=.ok new w:=by
 have:=h 9999;simp[Instr.keyThatStays,this]
theorem qZ{ms:List MapEntry}{i:Nat}{m:MapEntry}(E:ms[i]?=some m)(f:MapEntry->MapEntry):ms.modify i f=ms.set i (f m):=by
 apply List.ext_getElem?;intro j;rw[List.getElem?_modify,List.getElem?_set];by_cases e:i=j
 . subst e
   have u:i<ms.length:=(List.getElem?_eq_some_iff.1 E).1;rw[E];simp[u]
 . simp[e]
theorem Bn{t:TypeId}{m x:AV}{F:Nat->Row->TypeId×TypeId->Option Nat->Prop}(hS:St S w H){u v:Value}(Z:rep S w m u)(hv:rep S w x v)(h:Cc P H t m x F):
   ∃j r E I g ms,F j r E I/\H j=some r/\u=.map (some g)/\S.loc j=.map (some g)/\w.heap[g]?=some (.map (List.toArray ms) ms.length)/\jL S w 0 r.es ms/\r.sz=2/\P.underlying t=some (.map E.1 E.2)/\(∀e (w':World),(Instr.checkKey e 10000 E.1 v).run P w'=.ok () w') /\
     ((I=none/\∀w':World,(Instr.findKey E.1 v ms).run P w'=.ok none w') \/
     ∃i m cs,I=some i/\ms[i]?=some m/\r.es[i]?=some cs/\(∀w':World,(Instr.findKey E.1 v ms).run P w'=.ok (some (i,m.val)) w')/\m.key=v/\(∀n,Instr.sameBits (n+1) m.key v=true)/\m.born=i/\bF S w cs [m.key,m.val]):=by
 unfold Cc at h;split at h
 . rename_i j
   split at h
   . rename_i r E O ht
     split at h
     . rename_i I hf
       obtain⟨hp,h⟩:=h;simp only[rep]at Z;obtain⟨_,rfl,g0,M⟩:=Z;have T:=(hS.rows j r O).mp M;obtain⟨g,ms,h1,h2,h3,h4,h5,h6⟩:=Mj ht hp hf T hv;obtain⟨_,_,_,_,_,J⟩:=T;exact⟨j,r,E,I,g,ms,h,O,h1,h1,h2,h3,J,h4,h5,h6⟩
     . exact h.elim
   . exact h.elim
 . exact h.elim
theorem sW{j:Nat}{r:Row}{q:Option Row}(u:H j=some r):eH S.N H (aI H j q):=fun k _ h0=>by
 rw[aD _ _ _ _ (fun e=>by subst e;rw[u]at h0;cases h0)];exact h0
theorem CV{t:TypeId}{m x v:Operand}(hS:St S w H)(T:FR S w ρ a)(hG:Grow S0 w0 S w)(hN:eH S0.N H0 H)(hd:a.defers=[])(hn:a.tmps.size=n)(ho:o.op=.mapUpdate t m x v)(Z:∀x∈o.op.operands,opB a.tmps.size x=true)
   (hw:Region.wanted o (yielded ops a.tmps)=true) (hK:∀O H' a' w',K O H'->Rel n S0 w0 H0 O H' a' w'->K' a' w')
   (h:bP none (aev ρ m) fun m=>bP none (aev ρ x) fun x=>bP none (aev ρ v) fun v=>kD P o t m x v ρ H K):vK P ops o a w K' Q':=by
 rw[ho]at Z;simp only[Op.operands]at Z;obtain⟨m',h,hm⟩:=aR (S:=S) (w:=w) h;obtain⟨x',h,hx⟩:=aR (S:=S) (w:=w) h;obtain⟨v',h,hv⟩:=aR (S:=S) (w:=w) h;have em:=hm trivial _ (cC T (Z m (by simp)));have ex:=hx trivial _ (cC T (Z x (by simp)));have I:=hv trivial _ (cC T (Z v (by simp)));unfold kD at h;obtain⟨j,r,kt,oi,g,ms,hk,hj,e0,hl,J,E,M,aa,ac,F⟩:=Bn hS em ex h;have ab:g<w.heap.size:=(Array.getElem?_eq_some_iff.1 J).1;rcases F with⟨rfl,ae⟩|⟨i,me,cs,rfl,q1,q2,q3,q4,q5,q6,q7⟩
 . have u:=Ak (m:=⟨a.eval x,a.eval v,ms.length⟩) (cs:=[x',v']) 0 _ _ E (by simp[wH _ _ _ E]) (by simp only[bF];exact⟨_,_,rfl,ex,_,_,rfl,I,rfl⟩)
   have q:=hS.setMap hj hl u M ab;refine eK hw (sQ (w':={ w with heap:=w.heap.setIfInBounds g (.map (ms++[(⟨a.eval x,a.eval v,ms.length⟩:MapEntry)]).toArray (ms++[(⟨a.eval x,a.eval v,ms.length⟩:MapEntry)]).length) }) ?_ (hK _ _ _ _ hk (Rel.step hS T hG hN hd hn q.1 q.2 (sW hj) (by simp only[rep]))));simp[execOp,ho,e0,Instr.mapUpdate,run_underlying aa,MapKept.run_getObj_map J,ac,ae,MapKept.run_setObj_map _ J]
 . have u:=AA (m:=⟨a.eval x,a.eval v,i⟩) (cs:=[x',v']) 0 _ _ i E (by simp) (by simp only[bF];exact⟨_,_,rfl,ex,_,_,rfl,I,rfl⟩)
   have q:=hS.setMap hj hl u M ab;refine eK hw (sQ (w':={ w with heap:=w.heap.setIfInBounds g (.map (ms.set i ⟨a.eval x,a.eval v,i⟩).toArray (ms.set i (⟨a.eval x,a.eval v,i⟩:MapEntry)).length) }) ?_ (hK _ _ _ _ hk (Rel.step hS T hG hN hd hn q.1 q.2 (sW hj) (by simp only[rep]))));have ad:=DP (P:=P) q5;simp[execOp,ho,e0,Instr.mapUpdate,run_underlying aa,MapKept.run_getObj_map J,ac,q3,q1,ad,MapKept.run_setObj_map _ J,qZ q1,q6]
theorem Jb{t:TypeId}{m x v:Operand}(hS:St S w H)(T:FR S w ρ a)(hG:Grow S0 w0 S w)(hN:eH S0.N H0 H)(hd:a.defers=[])(hn:a.tmps.size=n)(ho:o.op=.insert t m x v)(Z:∀x∈o.op.operands,opB a.tmps.size x=true)
   (hw:Region.wanted o (yielded ops a.tmps)=true) (hK:∀O H' a' w',K O H'->Rel n S0 w0 H0 O H' a' w'->K' a' w')
   (h:bP none (aev ρ m) fun m=>bP none (aev ρ x) fun x=>bP none (aev ρ v) fun v=>kD P o t m x v ρ H K):vK P ops o a w K' Q':=by
 rw[ho]at Z;simp only[Op.operands]at Z;obtain⟨m',h,hm⟩:=aR (S:=S) (w:=w) h;obtain⟨x',h,hx⟩:=aR (S:=S) (w:=w) h;obtain⟨v',h,hv⟩:=aR (S:=S) (w:=w) h;have em:=hm trivial _ (cC T (Z m (by simp)));have ex:=hx trivial _ (cC T (Z x (by simp)));have I:=hv trivial _ (cC T (Z v (by simp)));unfold kD at h;obtain⟨j,r,kt,oi,g,ms,hk,hj,e0,hl,J,E,M,aa,ac,F⟩:=Bn hS em ex h;have ab:g<w.heap.size:=(Array.getElem?_eq_some_iff.1 J).1;rcases F with⟨rfl,ae⟩|⟨i,me,cs,rfl,q1,q2,q3,q4,q5,q6,q7⟩
 . have u:=Ak (m:=⟨a.eval x,a.eval v,ms.length⟩) (cs:=[x',v']) 0 _ _ E (by simp[wH _ _ _ E]) (by simp only[bF];exact⟨_,_,rfl,ex,_,_,rfl,I,rfl⟩)
   have q:=hS.setMap hj hl u M ab;refine eK hw (sQ (w':={ w with heap:=w.heap.setIfInBounds g (.map (ms++[(⟨a.eval x,a.eval v,ms.length⟩:MapEntry)]).toArray (ms++[(⟨a.eval x,a.eval v,ms.length⟩:MapEntry)]).length) }) ?_ (hK _ _ _ _ hk (Rel.step hS T hG hN hd hn q.1 q.2 (sW hj) (by simp only[rep]))));simp[execOp,ho,e0,Instr.mapUpdate,run_underlying aa,MapKept.run_getObj_map J,ac,ae,MapKept.run_setObj_map _ J]
 . have u:=AA (m:=⟨a.eval x,a.eval v,i⟩) (cs:=[x',v']) 0 _ _ i E (by simp) (by simp only[bF];exact⟨_,_,rfl,ex,_,_,rfl,I,rfl⟩)
   have q:=hS.setMap hj hl u M ab;refine eK hw (sQ (w':={ w with heap:=w.heap.setIfInBounds g (.map (ms.set i ⟨a.eval x,a.eval v,i⟩).toArray (ms.set i (⟨a.eval x,a.eval v,i⟩:MapEntry)).length) }) ?_ (hK _ _ _ _ hk (Rel.step hS T hG hN hd hn q.1 q.2 (sW hj) (by simp only[rep]))));have ad:=DP (P:=P) q5;simp[execOp,ho,e0,Instr.mapUpdate,run_underlying aa,MapKept.run_getObj_map J,ac,q3,q1,ad,MapKept.run_setObj_map _ J,qZ q1,q6]
theorem EO{t:TypeId}{m x:Operand}(hS:St S w H)(hF:FR S w ρ a)(hG:Grow S0 w0 S w)(hN:eH S0.N H0 H)(hd:a.defers=[])(hn:a.tmps.size=n)(ho:o.op=.mapEntry t m x)(hb:∀x∈o.op.operands,opB a.tmps.size x=true)
   (hw:Region.wanted o (yielded ops a.tmps)=true) (hK:∀aa H' a' w',K aa H'->Rel n S0 w0 H0 aa H' a' w'->K' a' w')
   (h:bP none (aev ρ m) fun m=>bP none (aev ρ x) fun x=>xI P o t m x ρ H K):vK P ops o a w K' Q':=by
 rw[ho]at hb;simp only[Op.operands]at hb;obtain⟨m',h,hm⟩:=aR (S:=S) (w:=w) h;obtain⟨x',h,hx⟩:=aR (S:=S) (w:=w) h;have em:=hm trivial _ (cC hF (hb m (by simp)));have ex:=hx trivial _ (cC hF (hb x (by simp)));unfold xI at h;obtain⟨j,r,kt,oi,g,ms,O,hj,e0,hl,T,u,ad,ab,ac,J⟩:=Bn hS em ex h;have F:g<w.heap.size:=(Array.getElem?_eq_some_iff.1 T).1;rcases J with⟨rfl,af⟩|⟨i,me,cs,rfl,q1,q2,q3,q4,q5,q6,q7⟩
 . simp only at O
   split at O
   . rename_i z hz
     obtain⟨zv,ag,Z⟩:=G1 hz;have E:=Ak (m:=⟨a.eval x,zv,ms.length⟩) (cs:=[x',z]) 0 _ _ u (by simp[wH _ _ _ u]) (by simp only[bF];exact⟨_,_,rfl,ex,_,_,rfl,Z S w,rfl⟩);have q:=hS.setMap hj hl E ad F;refine eK hw (dS (v:=.tuple #[zv,goInt ms.length]) (w':={ w with heap:=w.heap.setIfInBounds g (.map (ms++[(⟨a.eval x,zv,ms.length⟩:MapEntry)]).toArray (ms++[(⟨a.eval x,zv,ms.length⟩:MapEntry)]).length) }) ?_ (hK _ _ _ _ O (Rel.step hS hF hG hN hd hn q.1 q.2 (sW hj) ?_)))
     . simp[execOp,ho,e0,Instr.mapEntry,run_underlying ab,MapKept.run_getObj_map T,ac,af,ag,MapKept.run_setObj_map _ T]
     . simp only[rep,bF]
       exact⟨[zv,goInt ms.length],by simp,_,_,rfl,Z _ _,_,_,rfl,by rw[<-wH _ _ _ u];rfl,rfl⟩
   . exact O.elim
 . simp only at O
   have M:ms.set i ⟨a.eval x,me.val,i⟩=ms:=by
     have e0:(⟨a.eval x,me.val,i⟩:MapEntry)=me:=by rw[<-q4,<-q6]
     rw[e0];apply List.ext_getElem?;intro k;rw[List.getElem?_set];by_cases e:i=k
     . subst e
       have F:i<ms.length:=(List.getElem?_eq_some_iff.1 q1).1;rw[q1];simp[F]
     . simp[e]
   have hm:({ w with heap:=w.heap.setIfInBounds g (.map ms.toArray ms.length) }:World)=w:=by
     have hh:w.heap.setIfInBounds g (.map ms.toArray ms.length)=w.heap:=by
       apply Array.ext_getElem?;intro k;rw[Array.getElem?_setIfInBounds];by_cases e:g=k
       . subst e;rw[T];simp[F]
       . simp[e]
     rw[hh]
   obtain⟨xk,xv,rfl,r1,r2⟩:=D2 q7;have e1:(r.es.getD i []).getD 1 .any=xv:=by simp[List.getD,q2]
   rw[e1]at O;refine eK hw (dS (v:=.tuple #[me.val,goInt i]) (w':=w) ?_ (hK _ _ _ _ O (Rel.step hS hF hG hN hd hn hS (Grow.refl S w) (eH.refl _ _) ?_)))
   . have ae:=DP (P:=P) q5
     have I:=MapKept.run_setObj_map (P:=P) (.map (List.toArray ms) ms.length) T;rw[hm]at I;simp[execOp,ho,e0,Instr.mapEntry,run_underlying ab,MapKept.run_getObj_map T,ac,q3,q1,ae,qZ q1,M,I,q6]
   . simp only[rep,bF]
     exact⟨[me.val,goInt i],by simp,_,_,rfl,r2,_,_,rfl,rfl,rfl⟩
theorem FO:∀(i:Nat) (es:List (List AV)) (ms:List MapEntry) (j:Nat) {m:MapEntry},jL S w i es ms->ms[j]?=some m->ms.findIdx? (fun e=>(e.born:Int) == ((i+j:Nat):Int))=some j
 | _,[],ms,j,m,h,hj=>by simp only[jL]at h;subst h;simp at hj
 | i,c::r,ms,0,m,h,hj=>by
   simp only[jL]at h;obtain⟨F,t,rfl,h1,_,E⟩:=h;simp[List.findIdx?_cons,h1]
 | i,c::r,ms,j+1,m,h,hj=>by
   simp only[jL]at h;obtain⟨F,t,rfl,h1,_,E⟩:=h;have ih:=FO (i+1) r t j E (by simpa using hj);have u:((F.born:Int) == ((i+(j+1):Nat):Int))=false:=by simp[h1];omega
   rw[List.findIdx?_cons,u,show i+(j+1)=i+1+j by omega,ih];rfl
theorem BM{t:TypeId}{m s v:Operand}(hS:St S w H)(T:FR S w ρ a)(hG:Grow S0 w0 S w)(hN:eH S0.N H0 H)(hd:a.defers=[])(hn:a.tmps.size=n)(ho:o.op=.entryStore t m s v)(J:∀x∈o.op.operands,opB a.tmps.size x=true)
   (hw:Region.wanted o (yielded ops a.tmps)=true) (hK:∀I H' a' w',K I H'->Rel n S0 w0 H0 I H' a' w'->K' a' w')
   (h:bP none (aev ρ m) fun m=>bP none (aev ρ s) fun s=>bP none (aev ρ v) fun v=>rF o m s v ρ H K):vK P ops o a w K' Q':=by
 rw[ho]at J;simp only[Op.operands]at J;obtain⟨m',h,hm⟩:=aR (S:=S) (w:=w) h;obtain⟨s',h,hs⟩:=aR (S:=S) (w:=w) h;obtain⟨v',h,hv⟩:=aR (S:=S) (w:=w) h;have em:=hm trivial _ (cC T (J m (by simp)));have es:=hs trivial _ (cC T (J s (by simp)));have aa:=hv trivial _ (cC T (J v (by simp)));unfold rF at h;split at h
 . rename_i j kd i _ _
   split at h
   . rename_i r Z
     obtain⟨⟨i0,i1⟩,h⟩:=h;simp only[rep]at em es;obtain⟨_,e0,g0,M⟩:=em;rw[e0]at M;obtain⟨g,ms,hl,hg,u,ab⟩:=(hS.rows j r Z).mp M;have ac:g<w.heap.size:=(Array.getElem?_eq_some_iff.1 hg).1;obtain⟨F,g1,g2,g3⟩:=Mi 0 _ _ i.toNat u (by omega);obtain⟨xk,xv,e1,r1,r2⟩:=D2 g3;have e2:(r.es.getD i.toNat []).getD 0 .any=xk:=by rw[e1];rfl
     rw[e2]at h;have E:=AA (m:=⟨F.key,a.eval v,F.born⟩) (cs:=[xk,v']) 0 _ _ i.toNat u (by simpa using g2) (by simp only[bF];exact⟨_,_,rfl,r1,_,_,rfl,aa,rfl⟩);have q:=hS.setMap Z hl E ab ac;have O:=FO 0 _ _ i.toNat u g1;rw[Nat.zero_add,Int.toNat_of_nonneg i0]at O;refine eK hw (sQ (w':={ w with heap:=w.heap.setIfInBounds g (.map (ms.set i.toNat ⟨F.key,a.eval v,F.born⟩).toArray (ms.set i.toNat (⟨F.key,a.eval v,F.born⟩:MapEntry)).length) }) ?_ (hK _ _ _ _ h (Rel.step hS T hG hN hd hn q.1 q.2 (sW Z) (by simp only[rep]))));rw[hl]at e0;simp[execOp,ho,e0,es,asInt,asIntOf,Instr.entryStore,MapKept.run_getObj_map hg,O,MapKept.run_setObj_map _ hg,qZ g1]
   . exact h.elim
 . exact h.elim
theorem Fl{t:TypeId}(E:St S w H)(Z:FR S w ρ a)(T:Grow S0 w0 S w)(I:eH S0.N H0 H)(hd:a.defers=[])(J:a.tmps.size=n)(M:o.op=.makeMap t none)
   (O:Region.wanted o (yielded ops a.tmps)=true) (hK:∀u H' F w',K u H'->Rel n S0 w0 H0 u H' F w'->K' F w')
   (h:nL H ⟨0,2,[]⟩ fun k H'=>K (upd ρ o.dst (.om k)) H'):vK P ops o a w K' Q':=by
 have q:=E.newMap (w':=w.alloc (.map #[] 0)) rfl rfl rfl rfl;refine eK O (dS (v:=.map (some w.heap.size)) (w':=w.alloc (.map #[] 0)) ?_ (hK _ _ _ _ (h S.N E.fresh) (Rel.step E Z T I hd J q.1 q.2 (mM E) ?_)))
 . simp[execOp,M,Instr.makeMap]
 . simp only[rep,Sg.addRow,if_true]
   exact⟨Nat.lt_succ_self _,trivial,_,rfl⟩
theorem tE{aj:Bool}(al:∀o∈ops,iJ n o=true)(F:St S w H)(O:FR S w ρ a)(Z:Grow S0 w0 S w)(T:eH S0.N H0 H)(hd:a.defers=[])(M:a.tmps.size=n)(hb:iJ n o=true)
   (hK:∀ak H' a' w',K ak H'->Rel n S0 w0 H0 ak H' a' w'->K' a' w') (h:aop P (aX P) (cZ P) mt aj ops o ρ H K):vK P ops o a w K' Q':=by
 obtain⟨J,_⟩:=uS hb;unfold aop at h;obtain⟨G,h2,E⟩:=uK al O M h;clear h;have h:=h2;clear h2;split at h
 . -- assign
   rename_i x I
   unfold A0 at h;split at h
   . rename_i ag
     obtain⟨_,rfl,_,hx⟩:=ag;have hx:x=.const (.slice none 0 0):=by
       unfold pV at hx;split at hx
       . rfl
       . simp at hx
     subst hx;split at h
     . rename_i e sz af he
       obtain⟨i,z,hu,hi,an,_,aa,_⟩:=gR he;have hw:=cO E rfl;have q:=F.nilRow e aa;refine eK hw (dS (v:=.slice none 0 0) (w':=w) (by simp[execOp,I,Act.eval]) (hK _ _ _ _ (h S.N F.fresh) (Rel.step F O Z T hd M q.1 q.2 (mM F) ?_)));simp only[rep,Sg.addRow,if_true];exact⟨Nat.lt_succ_self _,trivial,_,_,_,rfl⟩
     . exact h.elim
   . exact pB F O Z T hd M J E hK (by rw[I];exact h)
 . -- alloc
   rename_i t I
   split at h
   . rename_i z hz
     obtain⟨rfl,_,h⟩:=h;have hw:=cO E rfl;split at h
     . split at h
       . rename_i nl am
         exact Lp F O Z T hd M I hz hw hK am h
       . exact h.elim
     obtain⟨v,i,hi,rfl,h1,aw,ac⟩:=SX hz (.tuple #[]) w;obtain⟨S',q1,q2,q3⟩:=BB (t:=t) (cs:=v.cells.toList.map nY) (l:=v.cells.toList) F (by simp;omega) (kM _) h1;refine eK hw (dS (v:=.pointer (some ⟨w.heap.size,0,none⟩)) (w':=w.alloc (.cells v.cells t)) (by simp[execOp,I,ac]) (hK _ _ _ _ (h S.N F.fresh) (Rel.step F O Z T hd M (by simpa using q1) (by simpa using q2) (mM F) (by simpa using q3))))
   . exact h.elim
 . -- box
   rename_i t x I
   obtain⟨rfl,_,h⟩:=h;have hw:=cO E rfl;obtain⟨y,h2,hy⟩:=aR (S:=S) (w:=w) h;obtain⟨cs,h3,ai⟩:=tM (S:=S) (w:=w) h2;have hx:opB a.tmps.size x=true:=M▸J x (by simp[I,Op.operands]);obtain⟨l,e1,e2,e3⟩:=ai _ (hy trivial _ (cC O hx));have ac:(execOp a.eval o).run P w=.ok (.value (.pointer (some ⟨w.heap.size,0,none⟩))) (w.alloc (.cells l.toArray t)):=by
     simp[execOp,I,aaK,e1]
   unfold aaH at h3;split at h3
   . obtain⟨aa,h4⟩:=h3
     obtain⟨S',q1,q2,q3⟩:=BB (t:=t) F aa e2 e3;exact eK hw (dS ac (hK _ _ _ _ (h4 S.N F.fresh) (Rel.step F O Z T hd M q1 q2 (mM F) q3)))
   . have q:=F.newRo (o:=.cells l.toArray t) (w':=w.alloc (.cells l.toArray t)) rfl rfl rfl rfl
     refine eK hw (dS ac (hK _ _ _ _ h3 (Rel.step F O Z T hd M q.1 q.2 (eH.refl _ _) ?_)));simp only[rep];refine⟨w.heap.size,0,by simp,.inr rfl,?_⟩;refine gV _ l 0 (dD q.2.le (q.2.kept F) _ _ e2) e3 fun j u hj=>?_
     rw[cell_of_row (w.alloc (.cells l.toArray t)) w.heap.size (0+j) l.toArray t (0,0) (heap_alloc_new w _)];simpa using hj
 . -- buildSlice
   rename_i t m ab I
   obtain⟨_,h⟩:=h;obtain⟨ps,h2,ar⟩:=mB O ab.toList (fun p hp=>M▸J p.2 (by rw[I];simpa[Op.operands]using⟨p.1,by simpa using hp⟩)) h;unfold lT at h2;split at h2
   . rename_i e sz af he
     obtain⟨⟨p1,p2,p3⟩,h3⟩:=h2;have go:∀(_:gt G),∃xs:List Value,(execOp a.eval o).run P w=.ok (.value (.slice (some ⟨w.heap.size,0,none⟩) m m)) (w.alloc (.cells xs.toArray e))/\bF S w (ps.map (·.2)).flatten xs/\(∀u∈xs,u.oneCell'=true)/\ps.length=m/\xs.length=m*sz:=fun hg=>by
       obtain⟨f1,f2⟩:=ar hg;have hl:(ab.map fun(p:Nat×Operand)=>(p.1,a.eval p.2)).toList=ab.toList.map fun p=>(p.1,a.eval p.2):=by simp
       rw[<-hl]at f1 f2;obtain⟨xs,g1,g2,g3,g4,g5⟩:=DH (w:=w) he p1 p2 f1 f2 p3;refine⟨xs,?_,g2,g3,g4,g5⟩;simp only[execOp,I];exact Mp g1
     obtain⟨av,z,hu,hi,an,_,aa,_⟩:=gR he;split at h3
     . rename_i ag
       obtain⟨_,rfl⟩:=ag;have hw:=cO E rfl;obtain⟨xs,g1,g2,g3,g4,g5⟩:=go trivial;have ad:(ps.map (·.2)).length=m:=by simpa using g4
       have q:=F.newRow (e:=e) (sz:=sz) (cap:=m) (es:=ps.map (·.2)) (xs:=xs) (cur:=xs.toArray) aa (gP.1 p2) g2 g3 (by omega) (by simp only[maxLen];have:m<=m*sz:=Nat.le_mul_of_pos_right _ aa;omega) (by simpa using g5)
         (by rw[ad,List.take_of_length_le (by simp[g5])]) (w':=w.alloc (.cells xs.toArray e)) rfl rfl rfl rfl
       refine eK hw (dS g1 (hK _ _ _ _ (h3 S.N F.fresh) (Rel.step F O Z T hd M q.1 q.2 (mM F) ?_)));simp only[rep,Sg.addRow,if_true];exact⟨Nat.lt_succ_self _,by rw[ad],_,_,_,rfl⟩
     . refine And.symm ⟨fun hw=>?_,fun hw=>?_⟩
       . have ae:¬gt G:=fun h=>by rw[E.2 h]at hw;simp at hw
         exact hK _ _ _ _ h3 (Rel.step F O Z T hd M F (Grow.refl S w) (eH.refl _ _) (dV ae))
       have ae:=E.1 hw;obtain⟨xs,g1,g2,g3,g4,g5⟩:=go ae;have ad:(ps.map (·.2)).length=m:=by simpa using g4
       have q:=F.newRo (o:=.cells xs.toArray e) (w':=w.alloc (.cells xs.toArray e)) rfl rfl rfl rfl;refine dS g1 (hK _ _ _ _ h3 (Rel.step F O Z T hd M q.1 q.2 (eH.refl _ _) (eI ae ?_)));simp only[rep];refine⟨_,_,_,rfl,ad,Nat.le_refl _,by simp only[maxLen];have:m<=m*sz:=Nat.le_mul_of_pos_right _ aa;omega,.inr ⟨w.heap.size,0,sz,rfl,.inr rfl,aa,?_⟩⟩;refine nU _ _ (gP.1 p2) (gV _ xs 0 (dD q.2.le (q.2.kept F) _ _ g2) g3 fun j u hj=>?_);rw[cell_of_row (w.alloc (.cells xs.toArray e)) w.heap.size (0+j) xs.toArray e (0,0) (heap_alloc_new w _)];simpa using hj
   . exact h2.elim
 . -- store
   rename_i t x y I
   obtain⟨rfl,_,h⟩:=h;have hw:=cO E rfl;split at h
   . rename_i ah
     have hy:y=.const (.slice none 0 0):=by
       unfold pV at ah;split at ah
       . rfl
       . simp at ah
     subst hy;exact C4 (K2:=fun _=>True) F O Z T hd M I (fun x hx=>M▸J x hx) hw hK h
   obtain⟨x',h2,ao⟩:=aR (S:=S) (w:=w) h;obtain⟨y',h3,au⟩:=aR (S:=S) (w:=w) h2;obtain⟨cs,h4,ai⟩:=tM (S:=S) (w:=w) h3;have ap:opB a.tmps.size x=true:=M▸J x (by simp[I,Op.operands]);have aq:opB a.tmps.size y=true:=M▸J y (by simp[I,Op.operands]);have ex:=ao trivial _ (cC O ap);obtain⟨l,e1,e2,e3⟩:=ai _ (au trivial _ (cC O aq));exact AB F O Z T hd M I hw hK ex e1 e2 e3 h4
 . rename_i c I;exact Lq F O Z T hd M I J E hK h
 all_goals first
   | exact h.elim
   | (rename_i I; split at h
      . obtain⟨rfl,_,h⟩:=h;exact Je F O Z T hd M I (fun x hx=>M▸J x hx) (cO E rfl) hK h
      . exact pB F O Z T hd M J E hK (by rw[I];exact h))
   | (rename_i I; split at h
      . obtain⟨rfl,_,h⟩:=h;exact MP F O Z T hd M I J E hK h
      . exact pB F O Z T hd M J E hK (by rw[I];exact h))
   | (rename_i I; split at h
      . obtain⟨rfl,h⟩:=h
        split at h
        . exact IN F O Z T hd M I (fun x hx=>M▸J x hx) (cO E rfl) hK h
        . exact HD F O Z T hd M I (fun x hx=>M▸J x hx) (cO E rfl) hK h
      . exact pB F O Z T hd M J E hK (by rw[I];exact h))
   | (rename_i I;obtain⟨rfl,_,h⟩:=h;exact CW F O Z T hd M I (fun x hx=>M▸J x hx) (cO E rfl) hK h)
   | (rename_i I;exact pB F O Z T hd M J E hK (by rw[I];exact h))
   | (rename_i I;obtain⟨rfl,_,h⟩:=h;exact Fl F O Z T hd M I (cO E rfl) hK h)
   | (rename_i I;obtain⟨rfl,_,h⟩:=h;exact CV F O Z T hd M I (fun x hx=>M▸J x hx) (cO E rfl) hK h)
   | (rename_i I;obtain⟨rfl,_,h⟩:=h;exact Jb F O Z T hd M I (fun x hx=>M▸J x hx) (cO E rfl) hK h)
   | (rename_i I;obtain⟨rfl,_,h⟩:=h;exact EO F O Z T hd M I (fun x hx=>M▸J x hx) (cO E rfl) hK h)
   | (rename_i I;obtain⟨rfl,_,h⟩:=h;exact BM F O Z T hd M I (fun x hx=>M▸J x hx) (cO E rfl) hK h)
end
end Go.Aw
end
