import Derived.Test.YtdlijlecpopadaaGreatDoorZu03
set_option linter.unusedSimpArgs false
set_option linter.unusedVariables false
set_option maxRecDepth 100000
section
namespace Go.Aw
open Go.RowKit
section
variable{P:Program}{n:Nat}{S0:Sg}{w0:World}{H0:aJ}{mt:Nat->Bool}{ops:Array Oper}{K:Env->aJ->Prop}{K':Act->World->Prop}{Q':Exit->Act->World->Prop}{ρ:Env}{H:aJ}{a:Act}{w:World}{o:Oper}{S:Sg}
theorem dE{G:Option Bool}(E:Region.wanted o (yielded ops a.tmps)=true↔gt G)(F:G=none):Region.wanted o (yielded ops a.tmps)=true:=by subst F;exact E.2 trivial
theorem Ow{f:FuncId}(h:aE P f=true):∃fn,P.funcs[f]?=some fn/\(fn.name == "runtime.NumGoroutine")=false/\fn.body.isNone=false:=by
 unfold aE at h;split at h
 . rename_i fn E
   simp only[Bool.and_eq_true,bne_iff_ne,ne_eq]at h;refine⟨fn,E,by simpa using h.1,?_⟩;cases F:fn.body <;> simp_all
 . simp at h
theorem rU{f:FuncId}(h:aE P f=true)(args:Array Value)(w:World):(callFunc f args).run P w=.ok (.enter f args) w:=by
 obtain⟨fn,h1,J,I⟩:=Ow h;have F:¬fn.name = "runtime.NumGoroutine" := by simpa using J
 have E:¬fn.body=none:=fun e=>by rw[e]at I;simp at I
 simp[callFunc,h1,F,E]
theorem fU(E:Region.wanted o (yielded ops a.tmps)=true)(h:o.wp P a w K' Q'):xU P ops o a w K' Q':=⟨fun _=>h,fun e=>by rw[E]at e;simp at e⟩
theorem LE:∀(l:List Value),bC S w (l.map .v) l
 | []=>by simp[bC]
 | v::r=>by simp only[List.map_cons,bC];exact⟨v,r,rfl,lY,LE r⟩
theorem A3{x:AV}{g:FuncId}{F I:List AV}{u:Value}(h:OP x=some (g,F,I))(J:rep S w x u):
   ∃first E:Array Value,u=.func (.func g) first E/\bC S w F first.toList/\bC S w I E.toList:=by
 unfold OP at h;split at h
 . rename_i f first E
   simp only[Option.some.injEq,Prod.mk.injEq]at h;obtain⟨rfl,rfl,rfl⟩:=h;simp only[rep]at J;exact⟨first,E,J,LE _,LE _⟩
 . rename_i f cap
   simp only[Option.some.injEq,Prod.mk.injEq]at h;obtain⟨rfl,rfl,rfl⟩:=h;simp only[rep]at J;obtain⟨l,rfl,O⟩:=J;exact⟨#[],l.toArray,rfl,by simp[bC],by simpa using O⟩
 . simp at h
theorem oS{c:Call}{f:Operand}(F:c.callee=.value f){g:FuncId}{first E:Array Value}(I:a.eval f=.func (.func g) first E)(ty:TypeId):
   resolve a.eval c ty=pure { target:=.fn (.func g) E,args:=first++c.args.map a.eval }:=by
 unfold resolve;simp only[F];rw[I];rfl
theorem OZ{nl ax:Bool}{G:Option Bool}{c:Call}(O:St S w H)(Z:FR S w ρ a)(hG:Grow S0 w0 S w)(hN:fM S0.N H0 H)(hd:a.defers=[])(hn:a.tmps.size=n)(ho:o.op=.call c)(hb:∀x∈o.op.operands,opB n x=true)
   (ag:Region.wanted o (yielded ops a.tmps)=true↔gt G) (hK:∀bb H' a' w',K bb H'->Rel n S0 w0 H0 bb H' a' w'->K' a' w') (h:Cq P (bA P) (dG P) nl ax G o c ρ H K):xU P ops o a w K' Q':=by
 rw[ho]at hb;simp only[Op.operands,Call.operands]at hb;unfold Cq at h;split at h
 . rename_i b hc
   obtain⟨ys,h2,al⟩:=nY Z c.args.toList (fun x hx=>hn▸hb x (by simp[Array.mem_toList_iff.1 hx])) h;clear h;have h:=h2;clear h2;split at h
   . rename_i x t J
     obtain⟨z,hz,hl⟩:=Gc (G:=G) (ty:=o.type) O.rows h;refine⟨fun hw=>?_,fun hw=>?_⟩
     . have X:=ag.1 hw
       have hr:=al X;simp only[bC]at hr;obtain⟨u,t',e1,e2,rfl⟩:=hr;obtain⟨v,hv,an⟩:=hl X u e2;have ea:c.args.map a.eval=#[u]:=by
         apply Array.toList_inj.1;simpa using e1
       have et:c.argTypes=#[t]:=Array.toList_inj.1 (by simpa using J);refine fA (v:=v) (w':=w) ?_ (hK _ _ _ _ hz (Rel.step O Z hG hN hd hn O (Grow.refl S w) (fM.refl _ _) (fT X hv)));simp[execOp,ho,resolve,hc,invoke,builtin,ea,et,an w (Agree.refl S H w)]
     . have X:¬gt G:=fun h=>by rw[ag.2 h]at hw;simp at hw
       exact hK _ _ _ _ hz (Rel.step O Z hG hN hd hn O (Grow.refl S w) (fM.refl _ _) (fB X))
   . rename_i s x t t' J
     split at h
     . rename_i aa
       obtain⟨bk,ak,_⟩:=aa;subst ak;subst bk;have hw:=dE ag rfl;refine fU hw ?_;have hr:=al trivial;simp only[bC]at hr;obtain⟨us,t1,e1,e2,ux,t2,rfl,e3,rfl⟩:=hr;have ea:c.args.map a.eval=#[us,ux]:=Array.toList_inj.1 (by simpa using e1);have et:c.argTypes=#[t,t]:=Array.toList_inj.1 (by simpa using J);unfold tO at h;split at h
       . rename_i k e sz ac he
         split at h
         . rename_i r hk
           have app : ∀ news, yC S w ux news -> ((r.e = e /\ r.sz = sz /\ cZ sz news /\ (r.es.length + news.length) * ac <= 140737488355328) /\
               ∀k',H k'=none->K (upd ρ o.dst (.os k')) (aI (aI H k none) k' (some ⟨e,sz,r.es++news⟩)))->o.wp P a w K' Q':=by
             rintro news aj ⟨⟨rfl,rfl,am,ai⟩,av⟩;simp only[rep]at e2;obtain⟨bn,rfl,_,_,_,a6⟩:=e2;obtain⟨v',w',q1,q2,q3,q4⟩:=O.append hk a6 (ty:=o.type) he aj am ai;refine fA (v:=v') (w':=w') ?_ (hK _ _ _ _ (av S.N O.fresh) (Rel.step O Z hG hN hd hn q3 q4 ?_ ?_))
             . simp[execOp,ho,resolve,hc,invoke,builtin,ea,et,q1]
             . intro j hj h0
               rw[aD _ _ _ _ (Nat.ne_of_lt hj)];by_cases e:j=k
               . subst e;exact aA _ _ _
               . rw[aD _ _ _ _ e];exact h0
             . simp only[rep,Sg.addRow,if_true]
               exact⟨Nat.lt_succ_self _,trivial,q2⟩
           unfold xV at h;split at h
           . exact app _ (KX e3) h
           . rename_i k2
             split at h
             . rename_i r2 ae
               simp only[rep]at e3;obtain⟨_,rfl,_,_,_,ab⟩:=e3;exact app _ (KD (O.rows k2 r2 ae) ab) h
             . exact h.elim
           . rename_i k2 a2 b2
             split at h
             . rename_i r2 ae
               exact app _ (Db (O.rows k2 r2 ae) e3).1 h
             . exact h.elim
           . exact h.elim
         . exact h.elim
       . rename_i es e sz ac he
         have app : ∀ news, yC S w ux news -> ((news ≠ [] /\ cZ sz es /\ cZ sz news /\ (es.length + news.length) * ac <= 140737488355328) /\
             ∀k',H k'=none->K (upd ρ o.dst (.os k')) (aI H k' (some ⟨e,sz,es++news⟩)))->o.wp P a w K' Q':=by
           rintro news aj ⟨⟨a7,a4,am,ai⟩,av⟩;obtain⟨v',w',q1,q2,q3,q4⟩:=O.appendNew e2 (ty:=o.type) he aj a7 a4 am ai;refine fA (v:=v') (w':=w') ?_ (hK _ _ _ _ (av S.N O.fresh) (Rel.step O Z hG hN hd hn q3 q4 ?_ ?_))
           . simp[execOp,ho,resolve,hc,invoke,builtin,ea,et,q1]
           . intro j hj h0
             rw[aD _ _ _ _ (Nat.ne_of_lt hj)];exact h0
           . simp only[rep,Sg.addRow,if_true]
             exact⟨Nat.lt_succ_self _,trivial,q2⟩
         unfold xV at h;split at h
         . exact app _ (KX e3) h
         . rename_i k2
           split at h
           . rename_i r2 ae
             simp only[rep]at e3;obtain⟨_,rfl,_,_,_,ab⟩:=e3;exact app _ (KD (O.rows k2 r2 ae) ab) h
           . exact h.elim
         . rename_i k2 a2 b2
           split at h
           . rename_i r2 ae
             exact app _ (Db (O.rows k2 r2 ae) e3).1 h
           . exact h.elim
         . exact h.elim
       . rename_i e sz ac he
         have bi:rep S w (.cl []) us:=by
           have hu:us=.slice none 0 0:=by simp only[rep]at e2;exact e2
           subst hu;simp only[rep];exact⟨none,0,rfl,rfl,Nat.zero_le _,.inl trivial⟩
         have app : ∀ news, yC S w ux news -> ((news ≠ [] /\ cZ sz ([] : List (List AV)) /\ cZ sz news /\ (([] : List (List AV)).length + news.length) * ac <= 140737488355328) /\
             ∀k',H k'=none->K (upd ρ o.dst (.os k')) (aI H k' (some ⟨e,sz,[]++news⟩)))->o.wp P a w K' Q':=by
           rintro news aj ⟨⟨a7,a4,am,ai⟩,av⟩;obtain⟨v',w',q1,q2,q3,q4⟩:=O.appendNew bi (ty:=o.type) he aj a7 a4 am ai;refine fA (v:=v') (w':=w') ?_ (hK _ _ _ _ (av S.N O.fresh) (Rel.step O Z hG hN hd hn q3 q4 ?_ ?_))
           . simp[execOp,ho,resolve,hc,invoke,builtin,ea,et,q1]
           . intro j hj h0
             rw[aD _ _ _ _ (Nat.ne_of_lt hj)];exact h0
           . simp only[rep,Sg.addRow,if_true]
             exact⟨Nat.lt_succ_self _,trivial,q2⟩
         unfold xV at h;split at h
         . exact app _ (KX e3) h
         . rename_i k2
           split at h
           . rename_i r2 ae
             simp only[rep]at e3;obtain⟨_,rfl,_,_,_,ab⟩:=e3;exact app _ (KD (O.rows k2 r2 ae) ab) h
           . exact h.elim
         . rename_i k2 a2 b2
           split at h
           . rename_i r2 ae
             exact app _ (Db (O.rows k2 r2 ae) e3).1 h
           . exact h.elim
         . exact h.elim
       . exact h.elim
     . exact h.elim
   . rename_i x y t t' J
     split at h
     . rename_i aa
       obtain⟨ak,_⟩:=aa;subst ak;have hw:=dE ag rfl;refine fU hw ?_;have hr:=al trivial;simp only[bC]at hr;obtain⟨us,t1,e1,e2,ux,t2,rfl,e3,rfl⟩:=hr;have ea:c.args.map a.eval=#[us,ux]:=Array.toList_inj.1 (by simpa using e1);have et:c.argTypes=#[t,t']:=Array.toList_inj.1 (by simpa using J);have go : ∀ k a0 n0 r, H k = some r -> a0 + n0 <= r.es.length -> (∃ ad cc, us = .slice ad n0 cc /\ (0 < n0 -> ∃ g n' c', S.loc k = .slice (some ⟨g, 0, none⟩) n' c' /\ ad = some ⟨g, a0 * r.sz, none⟩)) -> ∀ news, yC S w ux news ->
           (match bY P t with
             | some (_,sz,_)=>(r.sz=sz/\cZ sz news)/\K (upd ρ o.dst (.v (.int .i64 (min news.length n0:Nat)))) (aI H k (some { r with es:=r.es.take a0++news.take (min news.length n0)++r.es.drop (a0+min news.length n0) }))
             | none=>False)->o.wp P a w K' Q':=by
         intro k a0 n0 r hk a5 hx news aj ah;split at ah
         . rename_i e sz ac he
           obtain⟨⟨h1,h2⟩,h3⟩:=ah;obtain⟨w',q1,q2,q3⟩:=O.copy hk (t':=t') (ty:=o.type) he h1 a5 aj h2 hx;refine fA (v:=goInt (min news.length n0:Nat)) (w':=w') ?_ (hK _ _ _ _ h3 (Rel.step O Z hG hN hd hn q2 q3 ?_ (by simp only[rep];rfl)))
           . simp[execOp,ho,resolve,hc,invoke,builtin,ea,et,q1]
           . intro j hj h0
             by_cases e:j=k
             . subst e;rw[hk]at h0;simp at h0
             . rw[aD _ _ _ _ e];exact h0
         . exact ah.elim
       have src:∀F:List (List AV)->Prop,xV H y F->∃news,yC S w ux news/\F news:=by
         intro F Z;unfold xV at Z;split at Z
         . exact⟨_,KX e3,Z⟩
         . rename_i k2
           split at Z
           . rename_i r2 ae
             simp only[rep]at e3;obtain⟨_,rfl,_,_,_,ab⟩:=e3;exact⟨_,KD (O.rows k2 r2 ae) ab,Z⟩
           . exact Z.elim
         . rename_i k2 a2 b2
           split at Z
           . rename_i r2 ae
             exact⟨_,(Db (O.rows k2 r2 ae) e3).1,Z⟩
           . exact Z.elim
         . exact Z.elim
       unfold Uw G4 at h;split at h
       . rename_i k
         split at h
         . rename_i r hk
           obtain⟨news,hs,ah⟩:=src _ h;have hR:=O.rows k r hk;simp only[rep]at e2;obtain⟨_,rfl,ad,n,cc,Y⟩:=e2;obtain⟨xs,ay,_,_⟩:=hR.sl Y;have hn:n=r.es.length/\(0<r.es.length->∃g,ad=some ⟨g,0,none⟩):=by
             rcases ay.2 with⟨hv,h0⟩|⟨g,cap,cur,hv,_⟩
             . rw[Y]at hv;injection hv with _ h2 _;exact⟨by omega,fun h=>by omega⟩
             . rw[Y]at hv;injection hv with h1 h2 _;exact⟨h2,fun _=>⟨g,h1⟩⟩
           refine go k 0 r.es.length r hk (by omega) ⟨ad,cc,by rw[Y,hn.1],fun hp=>?_⟩ news hs ah;obtain⟨g,rfl⟩:=hn.2 hp;exact⟨g,n,cc,Y,by simp⟩
         . exact h.elim
       . rename_i k a0 b0
         split at h
         . rename_i r hk
           obtain⟨news,hs,ah⟩:=src _ h;have hR:=O.rows k r hk;obtain⟨_,hb,bg⟩:=Db hR e2;simp only[rep]at e2;obtain⟨_,ad,n,c0,a8,cc,Y,rfl,_,_,ar,_⟩:=e2;refine go k a0 (b0-a0) r hk (by omega) ⟨a8,cc,rfl,fun hp=>?_⟩ news hs ah;obtain⟨g,rfl,rfl⟩:=ar (by omega);exact⟨g,n,c0,Y,by rw[hR.sz]⟩
         . exact h.elim
       . exact h.elim
     . exact h.elim
   . rename_i x t J
     split at h
     . rename_i aa
       obtain⟨ak,_⟩:=aa;subst ak;have hw:=dE ag rfl;refine fU hw ?_;have hr:=al trivial;simp only[bC]at hr;obtain⟨us,t1,e1,e2,rfl⟩:=hr;have ea:c.args.map a.eval=#[us]:=Array.toList_inj.1 (by simpa using e1);have et:c.argTypes=#[t]:=Array.toList_inj.1 (by simpa using J);have go : ∀ k a0 n0 r, H k = some r -> a0 + n0 <= r.es.length -> (∃ ad cc, us = .slice ad n0 cc /\ (0 < n0 -> ∃ g n' c', S.loc k = .slice (some ⟨g, 0, none⟩) n' c' /\ ad = some ⟨g, a0 * r.sz, none⟩)) ->
           (match bY P t with
             | some (e,sz,_)=>match dR P e with
               | some zs=>r.sz=sz/\K (upd ρ o.dst .any) (aI H k (some { r with es:=r.es.take a0++List.replicate n0 zs++r.es.drop (a0+n0) }))
               | none=>False
             | none=>False)->o.wp P a w K' Q':=by
         intro k a0 n0 r hk a5 hx ah;split at ah
         . rename_i e sz ac he
           split at ah
           . rename_i zs bj
             obtain⟨h1,h3⟩:=ah;obtain⟨w',q1,q2,q3⟩:=O.clear hk (ty:=o.type) he bj h1 a5 hx;refine fA (v:=.tuple #[]) (w':=w') ?_ (hK _ _ _ _ h3 (Rel.step O Z hG hN hd hn q2 q3 ?_ (by simp only[rep])))
             . simp[execOp,ho,resolve,hc,invoke,builtin,ea,et,q1]
             . intro j hj h0
               by_cases e:j=k
               . subst e;rw[hk]at h0;simp at h0
               . rw[aD _ _ _ _ e];exact h0
           . exact ah.elim
         . exact ah.elim
       unfold JW G4 at h;split at h
       . rename_i k
         split at h
         . rename_i r hk
           have hR:=O.rows k r hk;simp only[rep]at e2;obtain⟨_,rfl,ad,n,cc,Y⟩:=e2;obtain⟨xs,ay,_,_⟩:=hR.sl Y;have hn:n=r.es.length/\(0<r.es.length->∃g,ad=some ⟨g,0,none⟩):=by
             rcases ay.2 with⟨hv,h0⟩|⟨g,cap,cur,hv,_⟩
             . rw[Y]at hv;injection hv with _ h2 _;exact⟨by omega,fun h=>by omega⟩
             . rw[Y]at hv;injection hv with h1 h2 _;exact⟨h2,fun _=>⟨g,h1⟩⟩
           refine go k 0 r.es.length r hk (by omega) ⟨ad,cc,by rw[Y,hn.1],fun hp=>?_⟩ h;obtain⟨g,rfl⟩:=hn.2 hp;exact⟨g,n,cc,Y,by simp⟩
         . exact h.elim
       . rename_i k a0 b0
         split at h
         . rename_i r hk
           have hR:=O.rows k r hk;obtain⟨_,hb,bg⟩:=Db hR e2;simp only[rep]at e2;obtain⟨_,ad,n,c0,a8,cc,Y,rfl,_,_,ar,_⟩:=e2;refine go k a0 (b0-a0) r hk (by omega) ⟨a8,cc,rfl,fun hp=>?_⟩ h;obtain⟨g,rfl,rfl⟩:=ar (by omega);exact⟨g,n,c0,Y,by rw[hR.sz]⟩
         . exact h.elim
       . exact h.elim
     . exact h.elim
   . rename_i x y t t' J
     obtain⟨z,hz,hl⟩:=FN (P:=P) (S:=S) (w:=w) (H:=H) (G:=G) (tys:=c.argTypes) (ty:=o.type) h;refine⟨fun hw=>?_,fun hw=>?_⟩
     . have X:=ag.1 hw
       have hr:=al X;simp only[bC]at hr;obtain⟨us,t1,e1,e2,ux,t2,rfl,e3,rfl⟩:=hr;obtain⟨v,hv,an⟩:=hl X us ux e2 e3;have ea:c.args.map a.eval=#[us,ux]:=Array.toList_inj.1 (by simpa using e1);refine fA (v:=v) (w':=w) ?_ (hK _ _ _ _ hz (Rel.step O Z hG hN hd hn O (Grow.refl S w) (fM.refl _ _) (fT X hv)));simp[execOp,ho,resolve,hc,invoke,builtin,ea,an w (Agree.refl S H w)]
     . have X:¬gt G:=fun h=>by rw[ag.2 h]at hw;simp at hw
       exact hK _ _ _ _ hz (Rel.step O Z hG hN hd hn O (Grow.refl S w) (fM.refl _ _) (fB X))
   . rename_i x y t t' J
     obtain⟨z,hz,hl⟩:=Fp (P:=P) (S:=S) (w:=w) (H:=H) (G:=G) (tys:=c.argTypes) (ty:=o.type) h;refine⟨fun hw=>?_,fun hw=>?_⟩
     . have X:=ag.1 hw
       have hr:=al X;simp only[bC]at hr;obtain⟨us,t1,e1,e2,ux,t2,rfl,e3,rfl⟩:=hr;obtain⟨v,hv,an⟩:=hl X us ux e2 e3;have ea:c.args.map a.eval=#[us,ux]:=Array.toList_inj.1 (by simpa using e1);refine fA (v:=v) (w':=w) ?_ (hK _ _ _ _ hz (Rel.step O Z hG hN hd hn O (Grow.refl S w) (fM.refl _ _) (fT X hv)));simp[execOp,ho,resolve,hc,invoke,builtin,ea,an w (Agree.refl S H w)]
     . have X:¬gt G:=fun h=>by rw[ag.2 h]at hw;simp at hw
       exact hK _ _ _ _ hz (Rel.step O Z hG hN hd hn O (Grow.refl S w) (fM.refl _ _) (fB X))
   . exact h.elim
 . rename_i f hc
   obtain⟨yf,h2,hf⟩:=aU (S:=S) (w:=w) h;clear h;have h:=h2;clear h2;split at h
   . rename_i g a9 ba bc
     by_cases bd:nl=true
     . rw[if_pos bd]at h
       obtain⟨ak,bm,az,h⟩:=h;subst ak;have hw:=dE ag rfl;obtain⟨first,E,aq,h2,h3⟩:=A3 bc (hf trivial _ (cM Z (hn▸hb f (by simp[hc]))));have ao:bC S w (a9++c.args.toList.map (KI ρ)++ba) (first++c.args.map a.eval++E).toList:=by
         simp only[Array.toList_append];refine dJ _ _ _ _ (dJ _ _ _ _ h2 ?_) h3;have:=DP Z c.args.toList (fun x hx=>hn▸hb x (by simp[hc,Array.mem_toList_iff.1 hx]));simpa using this
       have af:(execOp a.eval o).run P w=.ok (.enter g (first++c.args.map a.eval++E)) w:=by
         simp only[execOp,ho];rw[oS hc aq];simp[invoke,rU az]
       refine fU hw ?_;have I:=h S w _ O ao;unfold Oper.wp;rw[af];simp only[Oper.upon,Array.toArray_toList]at I |-;refine I.mono fun e w' ⟨v,r,H',S',he,hr,ap,hv,au,aw⟩=>?_
       subst he;exact hK _ _ _ _ hr (Rel.step O Z hG hN hd hn ap au aw hv)
     rw[if_neg bd]at h;obtain⟨ys,h2,al⟩:=nY Z c.args.toList (fun x hx=>hn▸hb x (by simp[hc,Array.mem_toList_iff.1 hx])) h;clear h;obtain⟨az,h⟩:=h2;have bf:=fun hg=>A3 bc (hf hg _ (cM Z (hn▸hb f (by simp[hc]))))
     have J:gt G->∃first E:Array Value,a.eval f=.func (.func g) first E/\bC S w (a9++ys++ba) (first++c.args.map a.eval++E).toList:=fun hg=>by
       obtain⟨first,E,h1,h2,h3⟩:=bf hg;refine⟨first,E,h1,?_⟩;simp only[Array.toList_append];refine dJ _ _ _ _ (dJ _ _ _ _ h2 ?_) h3;simpa using al hg
     split at h
     . rename_i aa
       obtain⟨ak,_⟩:=aa;subst ak;have hw:=dE ag rfl;obtain⟨first,E,aq,ao⟩:=J trivial;have af:(execOp a.eval o).run P w=.ok (.enter g (first++c.args.map a.eval++E)) w:=by
         simp only[execOp,ho];rw[oS hc aq];simp[invoke,rU az]
       refine fU hw ?_;have I:=h S w _ O ao;unfold Oper.wp;rw[af];simp only[Oper.upon,Array.toArray_toList]at I |-;refine I.mono fun e w' ⟨v,r,H',S',he,hr,ap,hv,au,aw⟩=>?_
       subst he;exact hK _ _ _ _ hr (Rel.step O Z hG hN hd hn ap au aw hv)
     . obtain⟨r,hq,hk⟩:=h
       refine⟨fun hw=>?_,fun hw=>?_⟩
       . have X:=ag.1 hw
         obtain⟨first,E,aq,ao⟩:=J X;have af:(execOp a.eval o).run P w=.ok (.enter g (first++c.args.map a.eval++E)) w:=by
           simp only[execOp,ho];rw[oS hc aq];simp[invoke,rU az]
         rcases hq X with hq|⟨x,rfl,bh⟩
         . obtain⟨v,be⟩:=hq.val
           obtain⟨hv,I⟩:=hq.calls be O ao;rw[OQ (by rw[be];rfl)]at hk;unfold Oper.wp;rw[af];simp only[Oper.upon,Array.toArray_toList]at I |-;refine I.mono fun e w' ⟨he,p1,p2,p3,p4,p5⟩=>?_
           subst he;exact hK _ _ _ _ hk (Rel.step O Z hG hN hd hn (O.after p4 p5) (O.grow p1 p2 p3 p4 p5) (fM.refl _ _) (fT X (hv S w')))
         . cases ax with
           | true=>exact hk.elim
           | false=>
             have I:=(PC.use (H:=H) bh (K:=fun y H'=>y=x/\H'=H) ⟨rfl,rfl⟩) S w _ O ao;unfold Oper.wp;rw[af];simp only[Oper.upon,Array.toArray_toList]at I |-;refine I.mono fun e w' ⟨v,r,H',S',he,⟨hr,hH⟩,ap,hv,au,aw⟩=>?_
             subst he hr hH;exact hK _ _ _ _ hk (Rel.step O Z hG hN hd hn ap au aw (fT X hv))
       . have X:¬gt G:=fun h=>by rw[ag.2 h]at hw;simp at hw
         obtain⟨z,hk⟩:=Pn hk;exact hK _ _ _ _ hk (Rel.step O Z hG hN hd hn O (Grow.refl S w) (fM.refl _ _) (fB X))
   . exact h.elim
 . exact h.elim
end
end Go.Aw
end
section
namespace Go.Aw
open Go.RowKit
section
variable{P:Program}{n:Nat}{S0:Sg}{w0:World}{H0:aJ}{mt:Nat->Bool}{ops:Array Oper}{K:Env->aJ->Prop}{K':Act->World->Prop}{Q':Exit->Act->World->Prop}{ρ:Env}{H:aJ}{a:Act}{w:World}{o:Oper}{S:Sg}
theorem vG{w':World}(h:(execOp a.eval o).run P w=.ok .skip w')(E:K' (a.put o.dst undef) w'):o.wp P a w K' Q':=by
 unfold Oper.wp;rw[h];exact E
theorem Oa{s:Sem Value}{v:Value}{w w':World}(h:s.run P w=.ok v w'):(do pure (Next.value (<-s)):Sem Next).run P w=.ok (.value v) w':=by
 simp[h]
theorem J4{t:TypeId}{l:Option Nat}(J:ldT P t=some l){v:Value}{vs:List Value}(O:v.cells=List.toArray vs)(F:vs.length=l.getD 1){g p:Nat}{w w':World}(E:l=none->∃i,P.info? t=some i/\i.size=1)
   (X:(storeCells ⟨g,p,none⟩ vs).run P w=.ok () w'):(Instr.storeAt t (.pointer (some ⟨g,p,none⟩)) v).run P w=.ok () w':=by
 have I:(sizeOf t).run P w=.ok vs.length w:=by
   cases l with
   | none=>
     obtain⟨i,hi,h1⟩:=E rfl;simp[sizeOf,typeInfo,hi,h1,F]
   | some m=>
     rw[uQ J,F];rfl
 simp[Instr.storeAt,Instr.sureAddr,storeVar,I,O,X]
theorem zP(z:Array Value)(E:0<z.size):∀m,(madeCells z (m*z.size)).toList=(List.replicate m z.toList).flatten
 | 0=>by simp[madeCells]
 | m+1=>by
   have ih:=zP z E m;rw[show List.replicate (m+1) z.toList=List.replicate m z.toList++[z.toList]from List.replicate_succ',List.flatten_append,<-ih];simp only[madeCells,Array.toList_map,Array.toList_range,Nat.add_mul,Nat.one_mul,List.flatten_cons,List.flatten_nil,List.append_nil];rw[List.range_add,List.map_append]
   congr 1
   apply List.ext_getElem
   . simp
   . intro i h1 F
     have hi:i<z.size:=by simpa using F
     simp[Nat.add_mod,Nat.mod_eq_of_lt hi,hi]
theorem FY:∀(cs:List AV) (l:List Value) (j:Nat) {x:AV},bC S w cs l->(∀u,l[j]?=some u->rep S w x u)->bC S w (cs.set j x) l
 | [],_,_,_,h,_=>h
 | y::r,l,0,x,h,hx=>by
   simp only[bC,List.set_cons_zero]at h |-;obtain⟨u,t,rfl,h1,E⟩:=h;exact⟨u,t,rfl,hx u (by simp),E⟩
 | y::r,l,j+1,x,h,hx=>by
   simp only[bC,List.set_cons_succ]at h |-;obtain⟨u,t,rfl,h1,E⟩:=h;exact⟨u,t,rfl,h1,FY r t j E fun u F=>hx u (by simpa using F)⟩
theorem qB:∀(nl:List (Nat×TypeId×Nat)) (z:List AV) (S:Sg) (H:aJ) (vs:List Value) {K:List AV->aJ->Prop},(∀x∈nl,vs[x.1]?=some (.slice none 0 0)/\0<x.2.2)->St S w H->bC S w z vs->kM nl z H K ->
   ∃E S' H',K E H'/\St S' w H'/\Grow S w S' w/\fM S.N H H'/\bC S' w E vs/\E.length=z.length
 | [],z,S,H,vs,K,_,hS,hr,h=>⟨z,S,H,h,hS,Grow.refl S w,fM.refl _ _,hr,rfl⟩
 | x::r,z,S,H,vs,K,hn,hS,hr,h=>by
   obtain⟨h0,F⟩:=hn x (by simp);have q:=hS.nilRow x.2.1 F;have J:=FY z vs x.1 (x:=.os S.N) (dQ q.2.le (q.2.kept hS) _ _ hr) (fun u I=>by
     rw[h0]at I;injection I with I;subst I;simp only[rep,Sg.addRow,if_true];exact⟨Nat.lt_succ_self _,trivial,_,_,_,rfl⟩)
   obtain⟨E,S',H',h1,O,h3,Y,Z,X⟩:=qB r _ _ _ vs (fun y hy=>hn y (by simp[hy])) q.1 J (h S.N hS.fresh);exact⟨E,S',H',h1,O,q.2.trans h3,(oV hS).trans Y q.2.le.N,Z,by simpa using X⟩
theorem AW{P:Program}{t:TypeId}{nl:List (Nat×TypeId×Nat)}(h:qG P t=some nl){i:TypeInfo}{v:Value}(hi:P.info? t=some i)(F:i.zero=some v):∀x∈nl,v.cells.toList[x.1]?=some (.slice none 0 0)/\0<x.2.2:=by
 unfold qG at h;rw[hi]at h;simp only[F]at h;split at h
 . rename_i E
   injection h with h;subst h;intro x I;have:=List.all_eq_true.1 E x I;simp only[Bool.and_eq_true,decide_eq_true_eq]at this;refine⟨?_,this.2⟩;have h1:=this.1;unfold Z7 at h1;split at h1
   . rename_i e;exact e
   . simp at h1
 . simp at h
theorem Mq{t:TypeId}{z:List AV}(hS:St S w H)(hF:FR S w ρ a)(hG:Grow S0 w0 S w)(hN:fM S0.N H0 H)(hd:a.defers=[])(hn:a.tmps.size=n)(ho:o.op=.alloc t)(hz:dR P t=some z)
   (hw:Region.wanted o (yielded ops a.tmps)=true) (hK:∀J H' a' w',K J H'->Rel n S0 w0 H0 J H' a' w'->K' a' w') {nl:List (Nat×TypeId×Nat)} (Z:qG P t=some nl)
   (h:kM nl z H fun z H=>pO H ⟨t,z.length,[z]⟩ fun k H'=>K (upd ρ o.dst (.op k 0 0)) H'):xU P ops o a w K' Q':=by
 obtain⟨i,v,hi,I,rfl,ad,ac,h1⟩:=nS hz;have O:(Instr.alloc t true (.tuple #[])).run P w=.ok (.pointer (some ⟨w.heap.size,0,none⟩)) (w.alloc (.cells v.cells t)):=by
   simp[Instr.alloc,zeroValue,typeInfo,hi,I,newVar,newRow]
 have ab:∀x∈nl,v.cells.toList[x.1]?=some (.slice none 0 0)/\0<x.2.2:=AW Z hi I;obtain⟨z',S',H',q0,E,F,aa,Y,X⟩:=qB nl _ S H v.cells.toList ab hS (mK _) h;obtain⟨S2,q1,q2,q3⟩:=CN (t:=t) (cs:=z') (l:=v.cells.toList) E (by rw[X];simp;omega) Y h1;refine fU hw (fA (v:=.pointer (some ⟨w.heap.size,0,none⟩)) (w':=w.alloc (.cells v.cells t)) (by simp[execOp,ho,O]) (hK _ _ _ _ (q0 S'.N E.fresh) (Rel.step E (hF.keep F.le (F.kept hS)) (hG.trans F) (hN.trans aa hG.le.N) hd hn (by simpa using q1) (by simpa using q2) (oV E) (by simpa using q3))))
theorem DL{t:TypeId}{x y:Operand}{x':AV}{cs:List AV}{l:List Value}(Z:St S w H)(hF:FR S w ρ a)(hG:Grow S0 w0 S w)(hN:fM S0.N H0 H)(hd:a.defers=[])(hn:a.tmps.size=n)(ho:o.op=.store t x y)
   (hw:Region.wanted o (yielded ops a.tmps)=true) (hK:∀O H' a' w',K O H'->Rel n S0 w0 H0 O H' a' w'->K' a' w') (ex:rep S w x' (a.eval x)) (e1:(a.eval y).cells=l.toArray) (e2:bC S w cs l) (e3:∀u∈l,u.oneCell'=true)
   (I:zE P o t x' cs ρ H K):xU P ops o a w K' Q':=by
 unfold zE at I;split at I
 . rename_i k i f
   split at I
   . rename_i r ld hk aa
     obtain⟨⟨c1,c2,c3,c4⟩,h5⟩:=I;simp only[rep]at ex;obtain⟨_,g,m,c,F,ep⟩:=ex;obtain⟨g',n',c',w',E,X,q1,q2⟩:=Z.store hk c1 c3 F e2 e3;rw[F]at E;injection E with J i2 i3;injection J with J;injection J with J;subst J;rw[<-(Z.rows k r hk).sz]at ep;have ab:=J4 (P:=P) aa e1 (by rw[iD _ _ e2,c2]) (by
       intro Y;subst Y;exact c4 rfl) (X P)
     refine fU hw (vG (w':=w') ?_ (hK _ _ _ _ h5 (Rel.step Z hF hG hN hd hn q1 q2 ?_ (by simp only[rep]))))
     . simp[execOp,ho,ep,ab]
     . intro j _ h0
       rw[aD _ _ _ _ (fun e=>by subst e;rw[hk]at h0;simp at h0)];exact h0
   . exact I.elim
 . exact I.elim
theorem TN:∀(x:List AV) (l:List Value) (j:Nat) (v:Value),bC S w x l->x[j]?=some (.v v)->l[j]?=some v
 | [],_,_,_,_,h=>by simp at h
 | a::r,l,0,v,h,hx=>by
   simp only[bC]at h;obtain⟨u,t,rfl,h1,E⟩:=h;have e:a=.v v:=by simpa using hx
   subst e;simp only[rep]at h1;simp[h1]
 | a::r,l,j+1,v,h,hx=>by
   simp only[bC]at h;obtain⟨u,t,rfl,h1,E⟩:=h;simpa using TN r t j v E (by simpa using hx)
theorem CB{t:TypeId}{x y:Operand}{x':AV}{cs:List AV}{l:List Value}(O:St S w H)(hF:FR S w ρ a)(hG:Grow S0 w0 S w)(hN:fM S0.N H0 H)(hd:a.defers=[])(hn:a.tmps.size=n)(ho:o.op=.store t x y)
   (hw:Region.wanted o (yielded ops a.tmps)=true) (hK:∀J H' a' w',K J H'->Rel n S0 w0 H0 J H' a' w'->K' a' w') (ex:rep S w x' (a.eval x)) (e1:(a.eval y).cells=l.toArray) (Y:bC S w cs l) (e3:∀u∈l,u.oneCell'=true)
   (I:tV P o t x' cs ρ H K):xU P ops o a w K' Q':=by
 rcases I with I|⟨_,nl,F,I⟩
 . exact DL O hF hG hN hd hn ho hw hK ex e1 Y e3 I
 . obtain⟨z',S',H',q0,X,E,Z,aa,ab⟩:=qB nl _ S H l (fun x hx=>⟨TN _ _ _ _ Y (F x hx).1,(F x hx).2⟩) O Y I
   exact DL X (hF.keep E.le (E.kept O)) (hG.trans E) (hN.trans Z hG.le.N) hd hn ho hw hK (lD E.le (E.kept O) _ _ ex) e1 aa e3 q0
theorem Js{w:World}:∀(nl:List (Nat×TypeId×Nat)) (z:List AV) (vs:List Value),(∀x∈nl,vs[x.1]?=some (.slice none 0 0))->bC S w z vs->bC S w (Ho nl z) vs
 | [],z,vs,_,h=>h
 | x :: r, z, vs, hn, h => Js r _ vs (fun y F => hn y (by simp [F])) (FY z vs x.1 h fun u E => by
     rw[hn x (by simp)]at E;injection E with E;simp only[rep];exact E.symm)
theorem DN{o:Oper}{w1:World}{t:TypeId}{E:Array (Nat×Operand)}(hF:FR S w1 ρ a)(hb:∀x∈o.op.operands,opB a.tmps.size x=true)(ho:o.op=.build t E)
   (h:Aa P o t E.toList ρ H K):∃z,K (upd ρ o.dst z) H/\∃v,rep S w1 z v/\∀w,(execOp a.eval o).run P w=.ok (.value v) w:=by
 unfold Aa at h;obtain⟨ps,h,X⟩:=oT hF E.toList (fun p hp=>hb p.2 (by rw[ho];simpa[Op.operands]using⟨p.1,by simpa using hp⟩)) h;split at h
 . rename_i z pl nl hz I Y
   obtain⟨e1,e2⟩:=X trivial;obtain⟨i,v,hi,F,rfl,ab,aa,h1⟩:=nS hz;split at h
   . rename_i cs J
     obtain⟨O,Z,f2,f3⟩:=uJ (S:=S) (w:=w1) hi F h1 (Js nl _ _ (fun x hx=>(AW Y hi F x hx).1) (mK _)) I J e1 (fun j i c hj=>e2 j i c hj);refine⟨_,h,.agg O,?_,fun w=>?_⟩
     . simp only[rep];exact⟨O.toList,by simp,f2,f3⟩
     . have:(E.map fun(p:Nat×Operand)=>(p.1,a.eval p.2)).toList=E.toList.map fun p=>(p.1,a.eval p.2):=by simp
       rw[<-this]at Z;simp only[execOp,ho];exact Ar (run_build w t _ O Z)
   . exact h.elim
 . exact h.elim
theorem J2{t:TypeId}{E:Array (Nat×Operand)}(I:St S w H)(J:FR S w ρ a)(hG:Grow S0 w0 S w)(Z:fM S0.N H0 H)(hd:a.defers=[])(hn:a.tmps.size=n)(ho:o.op=.build t E)(hb:∀x∈o.op.operands,opB a.tmps.size x=true)
   (hw:Region.wanted o (yielded ops a.tmps)=true) (Y:∀F H' O w',K F H'->Rel n S0 w0 H0 F H' O w'->K' O w') (h:Aa P o t E.toList ρ H K):xU P ops o a w K' Q':=by
 obtain⟨z,hz,v,X,hq⟩:=DN (S:=S) (w1:=w) J hb ho h;exact fU hw (fA (v:=v) (w':=w) (hq w) (Y _ _ _ _ hz (Rel.step I J hG Z hd hn I (Grow.refl S w) (fM.refl _ _) X)))
theorem Ln{t:TypeId}{E:Array (Nat×Operand)}(hS:St S w H)(hF:FR S w ρ a)(hG:Grow S0 w0 S w)(hN:fM S0.N H0 H)(hd:a.defers=[])(hn:a.tmps.size=n)(ho:o.op=.build t E)(hb:∀x∈o.op.operands,opB a.tmps.size x=true)
   (hw:Region.wanted o (yielded ops a.tmps)=true) (hK:∀J H' a' w',K J H'->Rel n S0 w0 H0 J H' a' w'->K' a' w') (h:BG P o t E.toList ρ H K):xU P ops o a w K' Q':=by
 unfold BG at h;obtain⟨ps,h,aa⟩:=oT hF E.toList (fun p hp=>hb p.2 (by rw[ho];simpa[Op.operands]using⟨p.1,by simpa using hp⟩)) h;split at h
 . rename_i z pl nl hz X ac
   obtain⟨e1,e2⟩:=aa trivial;obtain⟨i,v,hi,I,rfl,ag,af,h1⟩:=nS hz;obtain⟨z',S',H',q0,O,F,ad,ab,ae⟩:=qB nl _ S H v.cells.toList (AW ac hi I) hS (mK _) h;split at q0
   . rename_i cs Y
     obtain⟨Z,f1,f2,f3⟩:=uJ (S:=S') (w:=w) (z:=z') hi I h1 ab X Y e1 (fun j i c hj=>by
       obtain⟨u,l,g1,g2,g3,g4⟩:=e2 j i c hj;exact⟨u,l,g1,g2,dQ F.le (F.kept hS) _ _ g3,g4⟩)
     refine fU hw (fA (v:=.agg Z) (w':=w) ?_ (hK _ _ _ _ q0 (Rel.step O (hF.keep F.le (F.kept hS)) (hG.trans F) (hN.trans ad hG.le.N) hd hn O (Grow.refl S' w) (fM.refl _ _) ?_)))
     . have:(E.map fun(p:Nat×Operand)=>(p.1,a.eval p.2)).toList=E.toList.map fun p=>(p.1,a.eval p.2):=by simp
       rw[<-this]at f1;simp only[execOp,ho];exact Ar (run_build w t _ Z f1)
     . simp only[rep];exact⟨Z.toList,by simp,f2,f3⟩
   . exact q0.elim
 . exact h.elim
theorem El{t:TypeId}{x:Operand}{K2:AV->Prop}(I:St S w H)(hF:FR S w ρ a)(hG:Grow S0 w0 S w)(hN:fM S0.N H0 H)(hd:a.defers=[])(hn:a.tmps.size=n)(ho:o.op=.store t x (.const (.slice none 0 0)))(hb:∀x∈o.op.operands,opB a.tmps.size x=true)
   (hw:Region.wanted o (yielded ops a.tmps)=true) (hK:∀F H' a' w',K F H'->Rel n S0 w0 H0 F H' a' w'->K' a' w')
   (h : bR none (aev ρ x) fun y => match bY P t with
       | some (e,sz,_)=>pO H ⟨e,sz,[]⟩ fun k H=>tV P o t y [.os k] ρ H K
       | none=>False):xU P ops o a w K' Q':=by
 obtain⟨x',J,O⟩:=aU (S:=S) (w:=w) h;have Y:opB a.tmps.size x=true:=hb x (by simp[ho,Op.operands]);have ex:=O trivial _ (cM hF Y);split at J
 . rename_i e sz X he
   obtain⟨i,z,hu,hi,aa,_,E,_⟩:=jG he;have q:=I.nilRow e E;have h3:=J S.N I.fresh;have Z:=oV I (r:=some ⟨e,sz,[]⟩);refine CB q.1 (hF.keep q.2.le (q.2.kept I)) (hG.trans q.2) (hN.trans Z hG.le.N) hd hn ho hw hK (lD q.2.le (q.2.kept I) _ _ ex) (l:=[.slice none 0 0]) (by simp[Act.eval,Value.cells]) ?_ (by simp[Value.oneCell']) h3;simp only[bC,rep,Sg.addRow,if_true];exact⟨_,_,rfl,⟨Nat.lt_succ_self _,rfl,_,_,_,rfl⟩,rfl⟩
 . exact J.elim
theorem Lh{x:Operand}(J:St S w H)(hF:FR S w ρ a)(hG:Grow S0 w0 S w)(hN:fM S0.N H0 H)(hd:a.defers=[])(hn:a.tmps.size=n)(ho:o.op=.move x)(hb:∀x∈o.op.operands,opB a.tmps.size x=true)
   (hw:Region.wanted o (yielded ops a.tmps)=true) (hK:∀aa H' a' w',K aa H'->Rel n S0 w0 H0 aa H' a' w'->K' a' w') (h:Ak x ρ o.dst H K):xU P ops o a w K' Q':=by
 unfold Ak at h;split at h
 . rename_i t
   split at h
   . rename_i j hj
     split at h
     . rename_i r hr
       have af:=hb (.tmp t) (by simp[ho,Op.operands]);have hv:rep S w (ρ t) (a.eval (.tmp t)):=cM (x:=.tmp t) hF af;rw[hj]at hv
       let Hf:aJ:=fun k=>if k=j then H k else none
       let Hr:aJ:=fun k=>if k=j then none else H k
       have X:∀k r',Hf k=some r'->k=j/\H k=some r':=fun k r' E=>by
         by_cases e:k=j
         . exact⟨e,by simpa[Hf,e]using E⟩
         . simp[Hf,e]at E
       have I:∀k r',Hr k=some r'->k≠j/\H k=some r':=fun k r' E=>by
         by_cases e:k=j
         . simp[Hr,e]at E
         . exact⟨e,by simpa[Hr,e]using E⟩
       have ah:St S w Hf:=J.drop fun k r' E=>(X k r' E).2
       have Z:rep (S.froze Hf) w (.sl r.es) (a.eval (.tmp t)):=Conv.rep ah (Conv.row j r r.es (by simp[Hf,hr]) (ConvE.refl _)) hv;have ab:St (S.froze Hf) w Hr:=by
         refine⟨?_,?_,fun k r' E=>(J.rows k r' (I k r' E).2).keep (S.le_froze Hf) (fR.refl S w) (fun _ _=>rfl),?_,fun k k' r1 O E ad ag g F ac=>J.disj k k' r1 O (I k r1 E).2 (I k' O ad).2 ag g F ac,J.tabs.keep (S.le_froze Hf) (fR.refl S w)⟩
         . rintro g (F|F)
           . exact .inl (J.ro_fz g F)
           . exact .inr F
         . rintro g (F|⟨k,r',E,F⟩)
           . exact J.fz_lt g F
           . exact(J.rows k r' (X k r' E).2).block_lt F
         . rintro k r' E g F (h1|⟨i,O,hi,h2⟩)
           . exact J.free k r' (I k r' E).2 g F h1
           . exact J.disj k i r' O (I k r' E).2 (X i O hi).2 (fun e=>(I k r' E).1 (e.trans (X i O hi).1)) g F h2
       have F:Grow S w (S.froze Hf) w:=by
         refine⟨S.le_froze Hf,fun k E=>.inl E,rfl,rfl,rfl,Nat.le_refl _,fun _ _=>rfl,?_⟩;rintro g (F|⟨k,r',E,F⟩)
         . exact .inl F
         . exact .inr (J.free k r' (X k r' E).2 g F)
       have ae:FR (S.froze Hf) w (upd ρ (some t) (.sl r.es)) a:=fun t' Y=>by
         by_cases e:t'=t
         . subst e
           have h1:=Z;simp only[upd,if_true];simpa[Act.eval,Array.getD,Y]using h1
         . simp only[upd,if_neg e]
           exact(hF.keep (S.le_froze Hf) (fR.refl S w)) t' Y
       have E:=h Hr (by simp[Hr]) (fun k E=>by simp[Hr,E]);refine fU hw (fA (v:=a.eval (.tmp t)) (w':=w) ?_ (hK _ _ _ _ E (Rel.step ab ae (hG.trans F) (hN.trans (fun k _ h0=>by
         by_cases e:k=j
         . simp[Hr,e]
         . simp[Hr,e,h0]) hG.le.N) hd hn ab (Grow.refl _ _) (fM.refl _ _) Z)))
       simp[execOp,ho]
     . exact h.elim
   . exact h.elim
 . exact h.elim
theorem ER{l:List Nat}:∀{xs E:List AV},Ip l H xs E->ConvL (fun k=>if k∈l then H k else none) xs E
 | [],[],_=>.nil
 | x::xs,y::E,h=>by
   simp only[Ip]at h;obtain⟨h1,J⟩:=h;refine .cons _ _ _ _ ?_ (ER J);rcases h1 with rfl|⟨j,r,F,rfl,I,rfl⟩
   . exact .refl _
   . exact .row j r r.es (by rw[if_pos F];exact I) (ConvE.refl _)
 | [],_::_,h=>by simp[Ip]at h
 | _::_,[],h=>by simp[Ip]at h
theorem aaY{x y:AV}{d:Option Nat}{l:List Nat}{a':Act}{w':World}(hR:Rel n S0 w0 H0 (upd ρ d x) H a' w')(hc:Conv (fun k=>if k∈l then H k else none) x y):Rel n S0 w0 H0 (upd ρ d y) (fun k=>if k∈l then none else H k) a' w':=by
 obtain⟨S,J,hF,hG,hN,hd,hn⟩:=hR
 let Hf:aJ:=fun k=>if k∈l then H k else none
 let Hr:aJ:=fun k=>if k∈l then none else H k
 have X:∀k r',Hf k=some r'->k∈l/\H k=some r':=fun k r' E=>by
   by_cases e:k∈l
   . exact⟨e,by simpa[Hf,e]using E⟩
   . simp[Hf,e]at E
 have I:∀k r',Hr k=some r'->¬k∈l/\H k=some r':=fun k r' E=>by
   by_cases e:k∈l
   . simp[Hr,e]at E
   . exact⟨e,by simpa[Hr,e]using E⟩
 have ae:St S w' Hf:=J.drop fun k r' E=>(X k r' E).2
 have ad:St (S.froze Hf) w' Hr:=by
   refine⟨?_,?_,fun k r' E=>(J.rows k r' (I k r' E).2).keep (S.le_froze Hf) (fR.refl S w') (fun _ _=>rfl),?_,fun k k' r1 O E aa ac g F Z=>J.disj k k' r1 O (I k r1 E).2 (I k' O aa).2 ac g F Z,J.tabs.keep (S.le_froze Hf) (fR.refl S w')⟩
   . rintro g (F|F)
     . exact .inl (J.ro_fz g F)
     . exact .inr F
   . rintro g (F|⟨k,r',E,F⟩)
     . exact J.fz_lt g F
     . exact(J.rows k r' (X k r' E).2).block_lt F
   . rintro k r' E g F (h1|⟨i,O,hi,h2⟩)
     . exact J.free k r' (I k r' E).2 g F h1
     . exact J.disj k i r' O (I k r' E).2 (X i O hi).2 (fun e=>(I k r' E).1 (e▸(X i O hi).1)) g F h2
 have F:Grow S w' (S.froze Hf) w':=by
   refine⟨S.le_froze Hf,fun k E=>.inl E,rfl,rfl,rfl,Nat.le_refl _,fun _ _=>rfl,?_⟩;rintro g (F|⟨k,r',E,F⟩)
   . exact .inl F
   . exact .inr (J.free k r' (X k r' E).2 g F)
 have ab:FR (S.froze Hf) w' (upd ρ d y) a':=fun t' Y=>by
   have h1:=hF t' Y;cases d with
   | none=>exact hF.keep (S.le_froze Hf) (fR.refl S w') t' Y
   | some d=>
     by_cases e:t'=d
     . subst e
       simp only[upd,if_true]at h1 |-;exact Conv.rep ae hc h1
     . simp only[upd,if_neg e]at h1 |-
       exact lD (S.le_froze Hf) (fR.refl S w') _ _ h1
 exact⟨S.froze Hf,ad,ab,hG.trans F,hN.trans (fun k _ h0=>by
   by_cases e:k∈l
   . simp[e]
   . simp[e,h0]) hG.le.N,hd,hn⟩
theorem SH{G:Option Bool}{l:Option Nat}{y:AV}{E K2:AV->Prop}(I:∀z,E z->K2 z)(h:oJ G H l y E):oJ G H l y K2:=by
 unfold oJ at h |-;cases y with
 | rp cs off=>cases l <;> exact⟨h.1,I _ h.2⟩
 | op k i f=>
   simp only at h |-;cases F:H k with
   | none=>rw[F]at h;exact h.elim
   | some r=>rw[F]at h;cases l <;> exact⟨h.1,I _ h.2⟩
 | _=>exact h.elim
theorem Vz{G:Option Bool}{x:AV}{F K2:AV->Prop}(E:∀z,F z->K2 z)(h:bR G x F):bR G x K2:=by
 unfold bR at h |-;split at h
 . exact⟨h.1,E _ h.2⟩
 . exact E _ h
theorem Eu{G:Option Bool}{t:TypeId}{x:Operand}{F K2:AV->Prop}(I:∀z,F z->K2 z)(h:iA P G ρ H (.load t x) F):iA P G ρ H (.load t x) K2:=by
 simp only[iA]at h |-;cases E:ldT P t with
 | none=>rw[E]at h;exact h.elim
 | some l=>rw[E]at h;exact Vz (fun y J=>SH I J) h
theorem RU{t:TypeId}{x:Operand}(Z:St S w H)(hF:FR S w ρ a)(hG:Grow S0 w0 S w)(X:fM S0.N H0 H)(hd:a.defers=[])(hn:a.tmps.size=n)(ho:o.op=.load t x)(hb:∀x∈o.op.operands,opB n x=true)
   (I:Region.wanted o (yielded ops a.tmps)=true↔gt none) (O:∀E H' J w',K E H'->Rel n S0 w0 H0 E H' J w'->K' J w') (h:iA P none ρ H (.load t x) fun x=>Hg x ρ o.dst H K):xU P ops o a w K' Q':=by
 refine sD (K:=fun E H'=>∃z,E=upd ρ o.dst z/\H'=H/\Hg z ρ o.dst H K) Z hF hG X hd hn hb I ?_ (by
   rw[ho];exact Eu (fun z F=>⟨z,rfl,rfl,F⟩) h)
 rintro E H' J w' ⟨z,rfl,rfl,F⟩ hR;unfold Hg at F;split at F
 . obtain⟨l,ys,Y,hk⟩:=F
   exact O _ _ _ _ (hk (fun k=>if k∈l then none else H' k) (fun k e=>if_pos e) (fun k e=>if_neg e)) (aaY hR (.agg _ _ (ER Y)))
 . exact F.elim
theorem Ep{t:TypeId}{l c:Operand}(hS:St S w H)(hF:FR S w ρ a)(hG:Grow S0 w0 S w)(hN:fM S0.N H0 H)(hd:a.defers=[])(hn:a.tmps.size=n)(ho:o.op=.makeSlice t l c)(hb:∀x∈o.op.operands,opB a.tmps.size x=true)
   (hw:Region.wanted o (yielded ops a.tmps)=true) (hK:∀Z H' a' w',K Z H'->Rel n S0 w0 H0 Z H' a' w'->K' a' w')
   (h:bR none (aev ρ l) fun l=>bR none (aev ρ c) fun c=>sV P o t l c ρ H K):xU P ops o a w K' Q':=by
 rw[ho]at hb;simp only[Op.operands]at hb;obtain⟨l',h2,hl⟩:=aU (S:=S) (w:=w) h;obtain⟨c',J,hc⟩:=aU (S:=S) (w:=w) h2;have el:=hl trivial _ (cM hF (hb l (by simp)));have ec:=hc trivial _ (cM hF (hb c (by simp)));unfold sV at J;split at J
 . rename_i kl x kc y
   simp only[rep]at el ec;split at J
   . rename_i e sz E he
     split at J
     . rename_i z hz
       obtain⟨⟨⟨p1,p2⟩,p3⟩,h4⟩:=J;obtain⟨i,v,hi,ad,rfl,ah,ai,h1⟩:=nS hz;obtain⟨i',z',ag,I,O,ac,aa,af,ak,aj⟩:=jG he;rw[hi]at I;injection I with I;subst I;have F:v.cells.size=sz:=by rw[ah,O]
       have al:y<=(E:Int)*y:=by
         have:(1:Int)*y<=(E:Int)*y:=Int.mul_le_mul_of_nonneg_right (by omega) (by omega);omega
       have X:=run_make (P:=P) w t e i v ag hi ad kl kc x y p1 p2 (by rw[ac];omega) (by omega);have hm:(madeCells v.cells (y.toNat*sz)).toList=(List.replicate y.toNat v.cells.toList).flatten:=by
         rw[<-F];exact zP _ (by omega) _
       have Y:(madeCells v.cells (y.toNat*sz)).toList.take (x.toNat*sz)=(List.replicate x.toNat v.cells.toList).flatten:=by
         rw[hm,<-F];have:y.toNat=x.toNat+(y.toNat-x.toNat):=by omega
         rw[this,<-List.replicate_append_replicate,List.flatten_append,List.take_append_of_le_length (by simp[List.length_flatten]),List.take_of_length_le (by simp[List.length_flatten])]
       have ab:∀m,bC S w (List.replicate m (v.cells.toList.map qV)).flatten (List.replicate m v.cells.toList).flatten:=by
         intro m;induction m with
         | zero=>simp[bC]
         | succ m ih=>simp only[List.replicate_succ,List.flatten_cons];exact dJ _ _ _ _ (mK _) ih
       rw[O]at X;have q:=hS.newRow (e:=e) (sz:=sz) (cap:=y.toNat) (es:=List.replicate x.toNat (v.cells.toList.map qV)) (xs:=(List.replicate x.toNat v.cells.toList).flatten) (cur:=madeCells v.cells (y.toNat*sz)) aa
         (fun cs ae=>by rw[List.eq_of_mem_replicate ae];simp[F]) (ab _) (fun u hu=>by
           obtain⟨l,hl,hu⟩:=List.mem_flatten.1 hu;rw[List.eq_of_mem_replicate hl]at hu;exact h1 u hu) (by rw[List.length_replicate];omega) (by simp only[maxLen];omega) (size_madeCells _ _) (by rw[List.length_replicate];exact Y) (w':=w.alloc (.cells (madeCells v.cells (y.toNat*sz)) e)) rfl rfl rfl rfl
       refine fU hw (fA (v:=.slice (some ⟨w.heap.size,0,none⟩) x.toNat y.toNat) (w':=w.alloc (.cells (madeCells v.cells (y.toNat*sz)) e)) ?_ (hK _ _ _ _ (h4 S.N hS.fresh) (Rel.step hS hF hG hN hd hn q.1 q.2 (oV hS) ?_)))
       . simp only[execOp,ho,el,ec]
         exact Oa X
       . simp only[rep,Sg.addRow,if_true,List.length_replicate]
         exact⟨Nat.lt_succ_self _,trivial,_,_,_,rfl⟩
     . exact J.elim
   . exact J.elim
 . exact J.elim
theorem F3{F E:Value}(h:∀n,Instr.sameBits (n+1) F E=true)(w:World):(Instr.keyThatStays F E).run P w=.ok E w:=by
 have:=h 9999;simp[Instr.keyThatStays,this]
theorem tQ{E:List MapEntry}{i:Nat}{m:MapEntry}(hi:E[i]?=some m)(f:MapEntry->MapEntry):E.modify i f=E.set i (f m):=by
 apply List.ext_getElem?;intro j;rw[List.getElem?_modify,List.getElem?_set];by_cases e:i=j
 . subst e
   have F:i<E.length:=(List.getElem?_eq_some_iff.1 hi).1;rw[hi];simp[F]
 . simp[e]
theorem Dc{t:TypeId}{m x:AV}{F:Nat->Row->TypeId×TypeId->Option Nat->Prop}(hS:St S w H){u v:Value}(hu:rep S w m u)(hv:rep S w x v)(h:DB P H t m x F):
   ∃j r I J g E,F j r I J/\H j=some r/\u=.map (some g)/\S.loc j=.map (some g)/\w.heap[g]?=some (.map (List.toArray E) E.length)/\lG S w 0 r.es E/\r.sz=2/\P.underlying t=some (.map I.1 I.2)/\(∀e (w':World),(Instr.checkKey e 10000 I.1 v).run P w'=.ok () w') /\
     ((J=none/\∀w':World,(Instr.findKey I.1 v E).run P w'=.ok none w') \/
     ∃i m cs,J=some i/\E[i]?=some m/\r.es[i]?=some cs/\(∀w':World,(Instr.findKey I.1 v E).run P w'=.ok (some (i,m.val)) w')/\m.key=v/\(∀n,Instr.sameBits (n+1) m.key v=true)/\m.born=i/\bC S w cs [m.key,m.val]):=by
 unfold DB at h;split at h
 . rename_i j
   split at h
   . rename_i r I Y ht
     split at h
     . rename_i J hf
       obtain⟨hp,h⟩:=h;simp only[rep]at hu;obtain⟨_,rfl,g0,O⟩:=hu;have Z:=(hS.rows j r Y).mp O;obtain⟨g,E,h1,h2,h3,h4,h5,h6⟩:=Nd ht hp hf Z hv;obtain⟨_,_,_,_,_,X⟩:=Z;exact⟨j,r,I,J,g,E,h,Y,h1,h1,h2,h3,X,h4,h5,h6⟩
     . exact h.elim
   . exact h.elim
 . exact h.elim
theorem vA{j:Nat}{r:Row}{q:Option Row}(E:H j=some r):fM S.N H (aI H j q):=fun k _ h0=>by
 rw[aD _ _ _ _ (fun e=>by subst e;rw[E]at h0;cases h0)];exact h0
theorem Eh{t:TypeId}{m x v:Operand}(hS:St S w H)(X:FR S w ρ a)(hG:Grow S0 w0 S w)(hN:fM S0.N H0 H)(hd:a.defers=[])(hn:a.tmps.size=n)(ho:o.op=.mapUpdate t m x v)(hb:∀x∈o.op.operands,opB a.tmps.size x=true)
   (hw:Region.wanted o (yielded ops a.tmps)=true) (hK:∀ab H' a' w',K ab H'->Rel n S0 w0 H0 ab H' a' w'->K' a' w')
   (h:bR none (aev ρ m) fun m=>bR none (aev ρ x) fun x=>bR none (aev ρ v) fun v=>mD P o t m x v ρ H K):xU P ops o a w K' Q':=by
 rw[ho]at hb;simp only[Op.operands]at hb;obtain⟨m',h,hm⟩:=aU (S:=S) (w:=w) h;obtain⟨x',h,hx⟩:=aU (S:=S) (w:=w) h;obtain⟨v',h,hv⟩:=aU (S:=S) (w:=w) h;have em:=hm trivial _ (cM X (hb m (by simp)));have ex:=hx trivial _ (cM X (hb x (by simp)));have O:=hv trivial _ (cM X (hb v (by simp)));unfold mD at h;obtain⟨j,r,kt,oi,g,J,hk,hj,e0,hl,Z,F,Y,ad,aa,I⟩:=Dc hS em ex h;have ac:g<w.heap.size:=(Array.getElem?_eq_some_iff.1 Z).1;rcases I with⟨rfl,ae⟩|⟨i,me,cs,rfl,q1,q2,q3,q4,q5,q6,q7⟩
 . have E:=BQ (m:=⟨a.eval x,a.eval v,J.length⟩) (cs:=[x',v']) 0 _ _ F (by simp[yO _ _ _ F]) (by simp only[bC];exact⟨_,_,rfl,ex,_,_,rfl,O,rfl⟩)
   have q:=hS.setMap hj hl E Y ac;refine fU hw (vG (w':={ w with heap:=w.heap.setIfInBounds g (.map (J++[(⟨a.eval x,a.eval v,J.length⟩:MapEntry)]).toArray (J++[(⟨a.eval x,a.eval v,J.length⟩:MapEntry)]).length) }) ?_ (hK _ _ _ _ hk (Rel.step hS X hG hN hd hn q.1 q.2 (vA hj) (by simp only[rep]))));simp[execOp,ho,e0,Instr.mapUpdate,run_underlying ad,MapKept.run_getObj_map Z,aa,ae,MapKept.run_setObj_map _ Z]
 . have E:=B6 (m:=⟨a.eval x,a.eval v,i⟩) (cs:=[x',v']) 0 _ _ i F (by simp) (by simp only[bC];exact⟨_,_,rfl,ex,_,_,rfl,O,rfl⟩)
   have q:=hS.setMap hj hl E Y ac;refine fU hw (vG (w':={ w with heap:=w.heap.setIfInBounds g (.map (J.set i ⟨a.eval x,a.eval v,i⟩).toArray (J.set i (⟨a.eval x,a.eval v,i⟩:MapEntry)).length) }) ?_ (hK _ _ _ _ hk (Rel.step hS X hG hN hd hn q.1 q.2 (vA hj) (by simp only[rep]))));have af:=F3 (P:=P) q5;simp[execOp,ho,e0,Instr.mapUpdate,run_underlying ad,MapKept.run_getObj_map Z,aa,q3,q1,af,MapKept.run_setObj_map _ Z,tQ q1,q6]
theorem K4{t:TypeId}{m x v:Operand}(hS:St S w H)(X:FR S w ρ a)(hG:Grow S0 w0 S w)(hN:fM S0.N H0 H)(hd:a.defers=[])(hn:a.tmps.size=n)(ho:o.op=.insert t m x v)(hb:∀x∈o.op.operands,opB a.tmps.size x=true)
   (hw:Region.wanted o (yielded ops a.tmps)=true) (hK:∀ab H' a' w',K ab H'->Rel n S0 w0 H0 ab H' a' w'->K' a' w')
   (h:bR none (aev ρ m) fun m=>bR none (aev ρ x) fun x=>bR none (aev ρ v) fun v=>mD P o t m x v ρ H K):xU P ops o a w K' Q':=by
 rw[ho]at hb;simp only[Op.operands]at hb;obtain⟨m',h,hm⟩:=aU (S:=S) (w:=w) h;obtain⟨x',h,hx⟩:=aU (S:=S) (w:=w) h;obtain⟨v',h,hv⟩:=aU (S:=S) (w:=w) h;have em:=hm trivial _ (cM X (hb m (by simp)));have ex:=hx trivial _ (cM X (hb x (by simp)));have O:=hv trivial _ (cM X (hb v (by simp)));unfold mD at h;obtain⟨j,r,kt,oi,g,J,hk,hj,e0,hl,Z,F,Y,ad,aa,I⟩:=Dc hS em ex h;have ac:g<w.heap.size:=(Array.getElem?_eq_some_iff.1 Z).1;rcases I with⟨rfl,ae⟩|⟨i,me,cs,rfl,q1,q2,q3,q4,q5,q6,q7⟩
 . have E:=BQ (m:=⟨a.eval x,a.eval v,J.length⟩) (cs:=[x',v']) 0 _ _ F (by simp[yO _ _ _ F]) (by simp only[bC];exact⟨_,_,rfl,ex,_,_,rfl,O,rfl⟩)
   have q:=hS.setMap hj hl E Y ac;refine fU hw (vG (w':={ w with heap:=w.heap.setIfInBounds g (.map (J++[(⟨a.eval x,a.eval v,J.length⟩:MapEntry)]).toArray (J++[(⟨a.eval x,a.eval v,J.length⟩:MapEntry)]).length) }) ?_ (hK _ _ _ _ hk (Rel.step hS X hG hN hd hn q.1 q.2 (vA hj) (by simp only[rep]))));simp[execOp,ho,e0,Instr.mapUpdate,run_underlying ad,MapKept.run_getObj_map Z,aa,ae,MapKept.run_setObj_map _ Z]
 . have E:=B6 (m:=⟨a.eval x,a.eval v,i⟩) (cs:=[x',v']) 0 _ _ i F (by simp) (by simp only[bC];exact⟨_,_,rfl,ex,_,_,rfl,O,rfl⟩)
   have q:=hS.setMap hj hl E Y ac;refine fU hw (vG (w':={ w with heap:=w.heap.setIfInBounds g (.map (J.set i ⟨a.eval x,a.eval v,i⟩).toArray (J.set i (⟨a.eval x,a.eval v,i⟩:MapEntry)).length) }) ?_ (hK _ _ _ _ hk (Rel.step hS X hG hN hd hn q.1 q.2 (vA hj) (by simp only[rep]))));have af:=F3 (P:=P) q5;simp[execOp,ho,e0,Instr.mapUpdate,run_underlying ad,MapKept.run_getObj_map Z,aa,q3,q1,af,MapKept.run_setObj_map _ Z,tQ q1,q6]
theorem FK{t:TypeId}{m x:Operand}(hS:St S w H)(hF:FR S w ρ a)(hG:Grow S0 w0 S w)(hN:fM S0.N H0 H)(hd:a.defers=[])(hn:a.tmps.size=n)(ho:o.op=.mapEntry t m x)(hb:∀x∈o.op.operands,opB a.tmps.size x=true)
   (hw:Region.wanted o (yielded ops a.tmps)=true) (hK:∀aa H' a' w',K aa H'->Rel n S0 w0 H0 aa H' a' w'->K' a' w')
   (h:bR none (aev ρ m) fun m=>bR none (aev ρ x) fun x=>Ap P o t m x ρ H K):xU P ops o a w K' Q':=by
 rw[ho]at hb;simp only[Op.operands]at hb;obtain⟨m',h,hm⟩:=aU (S:=S) (w:=w) h;obtain⟨x',h,hx⟩:=aU (S:=S) (w:=w) h;have em:=hm trivial _ (cM hF (hb m (by simp)));have ex:=hx trivial _ (cM hF (hb x (by simp)));unfold Ap at h;obtain⟨j,r,kt,oi,g,E,Y,hj,e0,hl,hg,F,ae,ac,ab,X⟩:=Dc hS em ex h;have J:g<w.heap.size:=(Array.getElem?_eq_some_iff.1 hg).1;rcases X with⟨rfl,af⟩|⟨i,me,cs,rfl,q1,q2,q3,q4,q5,q6,q7⟩
 . simp only at Y
   split at Y
   . rename_i z hz
     obtain⟨zv,ah,ad⟩:=Ic hz;have I:=BQ (m:=⟨a.eval x,zv,E.length⟩) (cs:=[x',z]) 0 _ _ F (by simp[yO _ _ _ F]) (by simp only[bC];exact⟨_,_,rfl,ex,_,_,rfl,ad S w,rfl⟩);have q:=hS.setMap hj hl I ae J;refine fU hw (fA (v:=.tuple #[zv,goInt E.length]) (w':={ w with heap:=w.heap.setIfInBounds g (.map (E++[(⟨a.eval x,zv,E.length⟩:MapEntry)]).toArray (E++[(⟨a.eval x,zv,E.length⟩:MapEntry)]).length) }) ?_ (hK _ _ _ _ Y (Rel.step hS hF hG hN hd hn q.1 q.2 (vA hj) ?_)))
     . simp[execOp,ho,e0,Instr.mapEntry,run_underlying ac,MapKept.run_getObj_map hg,ab,af,ah,MapKept.run_setObj_map _ hg]
     . simp only[rep,bC]
       exact⟨[zv,goInt E.length],by simp,_,_,rfl,ad _ _,_,_,rfl,by rw[<-yO _ _ _ F];rfl,rfl⟩
   . exact Y.elim
 . simp only at Y
   have Z:E.set i ⟨a.eval x,me.val,i⟩=E:=by
     have e0:(⟨a.eval x,me.val,i⟩:MapEntry)=me:=by rw[<-q4,<-q6]
     rw[e0];apply List.ext_getElem?;intro k;rw[List.getElem?_set];by_cases e:i=k
     . subst e
       have J:i<E.length:=(List.getElem?_eq_some_iff.1 q1).1;rw[q1];simp[J]
     . simp[e]
   have hm:({ w with heap:=w.heap.setIfInBounds g (.map E.toArray E.length) }:World)=w:=by
     have hh:w.heap.setIfInBounds g (.map E.toArray E.length)=w.heap:=by
       apply Array.ext_getElem?;intro k;rw[Array.getElem?_setIfInBounds];by_cases e:g=k
       . subst e;rw[hg];simp[J]
       . simp[e]
     rw[hh]
   obtain⟨xk,xv,rfl,r1,r2⟩:=Gr q7;have e1:(r.es.getD i []).getD 1 .any=xv:=by simp[List.getD,q2]
   rw[e1]at Y;refine fU hw (fA (v:=.tuple #[me.val,goInt i]) (w':=w) ?_ (hK _ _ _ _ Y (Rel.step hS hF hG hN hd hn hS (Grow.refl S w) (fM.refl _ _) ?_)))
   . have ag:=F3 (P:=P) q5
     have O:=MapKept.run_setObj_map (P:=P) (.map (List.toArray E) E.length) hg;rw[hm]at O;simp[execOp,ho,e0,Instr.mapEntry,run_underlying ac,MapKept.run_getObj_map hg,ab,q3,q1,ag,tQ q1,Z,O,q6]
   . simp only[rep,bC]
     exact⟨[me.val,goInt i],by simp,_,_,rfl,r2,_,_,rfl,rfl,rfl⟩
theorem IV:∀(i:Nat) (es:List (List AV)) (ms:List MapEntry) (j:Nat) {m:MapEntry},lG S w i es ms->ms[j]?=some m->ms.findIdx? (fun e=>(e.born:Int) == ((i+j:Nat):Int))=some j
 | _,[],ms,j,m,h,hj=>by simp only[lG]at h;subst h;simp at hj
 | i,c::r,ms,0,m,h,hj=>by
   simp only[lG]at h;obtain⟨F,t,rfl,h1,_,I⟩:=h;simp[List.findIdx?_cons,h1]
 | i,c::r,ms,j+1,m,h,hj=>by
   simp only[lG]at h;obtain⟨F,t,rfl,h1,_,I⟩:=h;have ih:=IV (i+1) r t j I (by simpa using hj);have E:((F.born:Int) == ((i+(j+1):Nat):Int))=false:=by simp[h1];omega
   rw[List.findIdx?_cons,E,show i+(j+1)=i+1+j by omega,ih];rfl
theorem Dl{t:TypeId}{m s v:Operand}(hS:St S w H)(Z:FR S w ρ a)(hG:Grow S0 w0 S w)(hN:fM S0.N H0 H)(hd:a.defers=[])(hn:a.tmps.size=n)(ho:o.op=.entryStore t m s v)(O:∀x∈o.op.operands,opB a.tmps.size x=true)
   (hw:Region.wanted o (yielded ops a.tmps)=true) (hK:∀X H' a' w',K X H'->Rel n S0 w0 H0 X H' a' w'->K' a' w')
   (h:bR none (aev ρ m) fun m=>bR none (aev ρ s) fun s=>bR none (aev ρ v) fun v=>tP o m s v ρ H K):xU P ops o a w K' Q':=by
 rw[ho]at O;simp only[Op.operands]at O;obtain⟨m',h,hm⟩:=aU (S:=S) (w:=w) h;obtain⟨s',h,hs⟩:=aU (S:=S) (w:=w) h;obtain⟨v',h,hv⟩:=aU (S:=S) (w:=w) h;have em:=hm trivial _ (cM Z (O m (by simp)));have es:=hs trivial _ (cM Z (O s (by simp)));have aa:=hv trivial _ (cM Z (O v (by simp)));unfold tP at h;split at h
 . rename_i j kd i _ _
   split at h
   . rename_i r hj
     obtain⟨⟨i0,i1⟩,h⟩:=h;simp only[rep]at em es;obtain⟨_,e0,g0,J⟩:=em;rw[e0]at J;obtain⟨g,ms,hl,hg,E,ac⟩:=(hS.rows j r hj).mp J;have ab:g<w.heap.size:=(Array.getElem?_eq_some_iff.1 hg).1;obtain⟨I,g1,g2,g3⟩:=Pi 0 _ _ i.toNat E (by omega);obtain⟨xk,xv,e1,r1,r2⟩:=Gr g3;have e2:(r.es.getD i.toNat []).getD 0 .any=xk:=by rw[e1];rfl
     rw[e2]at h;have F:=B6 (m:=⟨I.key,a.eval v,I.born⟩) (cs:=[xk,v']) 0 _ _ i.toNat E (by simpa using g2) (by simp only[bC];exact⟨_,_,rfl,r1,_,_,rfl,aa,rfl⟩);have q:=hS.setMap hj hl F ac ab;have Y:=IV 0 _ _ i.toNat E g1;rw[Nat.zero_add,Int.toNat_of_nonneg i0]at Y;refine fU hw (vG (w':={ w with heap:=w.heap.setIfInBounds g (.map (ms.set i.toNat ⟨I.key,a.eval v,I.born⟩).toArray (ms.set i.toNat (⟨I.key,a.eval v,I.born⟩:MapEntry)).length) }) ?_ (hK _ _ _ _ h (Rel.step hS Z hG hN hd hn q.1 q.2 (vA hj) (by simp only[rep]))));rw[hl]at e0;simp[execOp,ho,e0,es,asInt,asIntOf,Instr.entryStore,MapKept.run_getObj_map hg,Y,MapKept.run_setObj_map _ hg,tQ g1]
   . exact h.elim
 . exact h.elim
theorem GK{t:TypeId}(F:St S w H)(Y:FR S w ρ a)(hG:Grow S0 w0 S w)(O:fM S0.N H0 H)(X:a.defers=[])(hn:a.tmps.size=n)(Z:o.op=.makeMap t none)
   (hw:Region.wanted o (yielded ops a.tmps)=true) (J:∀E H' I w',K E H'->Rel n S0 w0 H0 E H' I w'->K' I w')
   (h:pO H ⟨0,2,[]⟩ fun k H'=>K (upd ρ o.dst (.om k)) H'):xU P ops o a w K' Q':=by
 have q:=F.newMap (w':=w.alloc (.map #[] 0)) rfl rfl rfl rfl;refine fU hw (fA (v:=.map (some w.heap.size)) (w':=w.alloc (.map #[] 0)) ?_ (J _ _ _ _ (h S.N F.fresh) (Rel.step F Y hG O X hn q.1 q.2 (oV F) ?_)))
 . simp[execOp,Z,Instr.makeMap]
 . simp only[rep,Sg.addRow,if_true]
   exact⟨Nat.lt_succ_self _,trivial,_,rfl⟩
theorem vR{ai:Bool}(ak:∀o∈ops,kJ n o=true)(F:St S w H)(X:FR S w ρ a)(hG:Grow S0 w0 S w)(Y:fM S0.N H0 H)(hd:a.defers=[])(O:a.tmps.size=n)(hb:kJ n o=true)
   (hK:∀aj H' a' w',K aj H'->Rel n S0 w0 H0 aj H' a' w'->K' a' w') (h:aop P (bA P) (dG P) mt ai ops o ρ H K):xU P ops o a w K' Q':=by
 obtain⟨J,_⟩:=wT hb;unfold aop at h;obtain⟨G,h2,E⟩:=xJ ak X O h;clear h;have h:=h2;clear h2;split at h
 . -- assign
   rename_i x I
   unfold CF at h;split at h
   . rename_i af
     obtain⟨_,rfl,_,hx⟩:=af;have hx:x=.const (.slice none 0 0):=by
       unfold sY at hx;split at hx
       . rfl
       . simp at hx
     subst hx;split at h
     . rename_i e sz ah he
       obtain⟨i,z,hu,hi,ar,_,Z,_⟩:=jG he;have hw:=dE E rfl;have q:=F.nilRow e Z;refine fU hw (fA (v:=.slice none 0 0) (w':=w) (by simp[execOp,I,Act.eval]) (hK _ _ _ _ (h S.N F.fresh) (Rel.step F X hG Y hd O q.1 q.2 (oV F) ?_)));simp only[rep,Sg.addRow,if_true];exact⟨Nat.lt_succ_self _,trivial,_,_,_,rfl⟩
     . exact h.elim
   . exact sD F X hG Y hd O J E hK (by rw[I];exact h)
 . -- alloc
   rename_i t I
   split at h
   . rename_i z hz
     obtain⟨rfl,_,h⟩:=h;have hw:=dE E rfl;split at h
     . split at h
       . rename_i nl aq
         exact Mq F X hG Y hd O I hz hw hK aq h
       . exact h.elim
     obtain⟨v,i,hi,rfl,h1,au,ac⟩:=WD hz (.tuple #[]) w;obtain⟨S',q1,q2,q3⟩:=CN (t:=t) (cs:=v.cells.toList.map qV) (l:=v.cells.toList) F (by simp;omega) (mK _) h1;refine fU hw (fA (v:=.pointer (some ⟨w.heap.size,0,none⟩)) (w':=w.alloc (.cells v.cells t)) (by simp[execOp,I,ac]) (hK _ _ _ _ (h S.N F.fresh) (Rel.step F X hG Y hd O (by simpa using q1) (by simpa using q2) (oV F) (by simpa using q3))))
   . exact h.elim
 . -- box
   rename_i t x I
   obtain⟨rfl,_,h⟩:=h;have hw:=dE E rfl;obtain⟨y,h2,hy⟩:=aU (S:=S) (w:=w) h;obtain⟨cs,h3,ag⟩:=xE (S:=S) (w:=w) h2;have hx:opB a.tmps.size x=true:=O▸J x (by simp[I,Op.operands]);obtain⟨l,e1,e2,e3⟩:=ag _ (hy trivial _ (cM X hx));have ac:(execOp a.eval o).run P w=.ok (.value (.pointer (some ⟨w.heap.size,0,none⟩))) (w.alloc (.cells l.toArray t)):=by
     simp[execOp,I,aeU,e1]
   unfold adF at h3;split at h3
   . obtain⟨Z,h4⟩:=h3
     obtain⟨S',q1,q2,q3⟩:=CN (t:=t) F Z e2 e3;exact fU hw (fA ac (hK _ _ _ _ (h4 S.N F.fresh) (Rel.step F X hG Y hd O q1 q2 (oV F) q3)))
   . have q:=F.newRo (o:=.cells l.toArray t) (w':=w.alloc (.cells l.toArray t)) rfl rfl rfl rfl
     refine fU hw (fA ac (hK _ _ _ _ h3 (Rel.step F X hG Y hd O q.1 q.2 (fM.refl _ _) ?_)));simp only[rep];refine⟨w.heap.size,0,by simp,.inr rfl,?_⟩;refine jS _ l 0 (dQ q.2.le (q.2.kept F) _ _ e2) e3 fun j u hj=>?_
     rw[cell_of_row (w.alloc (.cells l.toArray t)) w.heap.size (0+j) l.toArray t (0,0) (heap_alloc_new w _)];simpa using hj
 . -- buildSlice
   rename_i t m aa I
   obtain⟨_,h⟩:=h;obtain⟨ps,h2,al⟩:=oT X aa.toList (fun p hp=>O▸J p.2 (by rw[I];simpa[Op.operands]using⟨p.1,by simpa using hp⟩)) h;unfold nT at h2;split at h2
   . rename_i e sz ah he
     obtain⟨⟨p1,p2,p3⟩,h3⟩:=h2;have go:∀(_:gt G),∃xs:List Value,(execOp a.eval o).run P w=.ok (.value (.slice (some ⟨w.heap.size,0,none⟩) m m)) (w.alloc (.cells xs.toArray e))/\bC S w (ps.map (·.2)).flatten xs/\(∀u∈xs,u.oneCell'=true)/\ps.length=m/\xs.length=m*sz:=fun hg=>by
       obtain⟨f1,f2⟩:=al hg;have hl:(aa.map fun(p:Nat×Operand)=>(p.1,a.eval p.2)).toList=aa.toList.map fun p=>(p.1,a.eval p.2):=by simp
       rw[<-hl]at f1 f2;obtain⟨xs,g1,g2,g3,g4,g5⟩:=Fd (w:=w) he p1 p2 f1 f2 p3;refine⟨xs,?_,g2,g3,g4,g5⟩;simp only[execOp,I];exact Oa g1
     obtain⟨av,z,hu,hi,ar,_,Z,_⟩:=jG he;split at h3
     . rename_i af
       obtain⟨_,rfl⟩:=af;have hw:=dE E rfl;obtain⟨xs,g1,g2,g3,g4,g5⟩:=go trivial;have ab:(ps.map (·.2)).length=m:=by simpa using g4
       have q:=F.newRow (e:=e) (sz:=sz) (cap:=m) (es:=ps.map (·.2)) (xs:=xs) (cur:=xs.toArray) Z (jJ.1 p2) g2 g3 (by omega) (by simp only[maxLen];have:m<=m*sz:=Nat.le_mul_of_pos_right _ Z;omega) (by simpa using g5)
         (by rw[ab,List.take_of_length_le (by simp[g5])]) (w':=w.alloc (.cells xs.toArray e)) rfl rfl rfl rfl
       refine fU hw (fA g1 (hK _ _ _ _ (h3 S.N F.fresh) (Rel.step F X hG Y hd O q.1 q.2 (oV F) ?_)));simp only[rep,Sg.addRow,if_true];exact⟨Nat.lt_succ_self _,by rw[ab],_,_,_,rfl⟩
     . refine And.symm ⟨fun hw=>?_,fun hw=>?_⟩
       . have ad:¬gt G:=fun h=>by rw[E.2 h]at hw;simp at hw
         exact hK _ _ _ _ h3 (Rel.step F X hG Y hd O F (Grow.refl S w) (fM.refl _ _) (fB ad))
       have ad:=E.1 hw;obtain⟨xs,g1,g2,g3,g4,g5⟩:=go ad;have ab:(ps.map (·.2)).length=m:=by simpa using g4
       have q:=F.newRo (o:=.cells xs.toArray e) (w':=w.alloc (.cells xs.toArray e)) rfl rfl rfl rfl;refine fA g1 (hK _ _ _ _ h3 (Rel.step F X hG Y hd O q.1 q.2 (fM.refl _ _) (fT ad ?_)));simp only[rep];refine⟨_,_,_,rfl,ab,Nat.le_refl _,by simp only[maxLen];have:m<=m*sz:=Nat.le_mul_of_pos_right _ Z;omega,.inr ⟨w.heap.size,0,sz,rfl,.inr rfl,Z,?_⟩⟩;refine qD _ _ (jJ.1 p2) (jS _ xs 0 (dQ q.2.le (q.2.kept F) _ _ g2) g3 fun j u hj=>?_);rw[cell_of_row (w.alloc (.cells xs.toArray e)) w.heap.size (0+j) xs.toArray e (0,0) (heap_alloc_new w _)];simpa using hj
   . exact h2.elim
 . -- store
   rename_i t x y I
   obtain⟨rfl,_,h⟩:=h;have hw:=dE E rfl;split at h
   . rename_i ae
     have hy:y=.const (.slice none 0 0):=by
       unfold sY at ae;split at ae
       . rfl
       . simp at ae
     subst hy;exact El (K2:=fun _=>True) F X hG Y hd O I (fun x hx=>O▸J x hx) hw hK h
   obtain⟨x',h2,ap⟩:=aU (S:=S) (w:=w) h;obtain⟨y',h3,an⟩:=aU (S:=S) (w:=w) h2;obtain⟨cs,h4,ag⟩:=xE (S:=S) (w:=w) h3;have am:opB a.tmps.size x=true:=O▸J x (by simp[I,Op.operands]);have ao:opB a.tmps.size y=true:=O▸J y (by simp[I,Op.operands]);have ex:=ap trivial _ (cM X am);obtain⟨l,e1,e2,e3⟩:=ag _ (an trivial _ (cM X ao));exact CB F X hG Y hd O I hw hK ex e1 e2 e3 h4
 . rename_i c I;exact OZ F X hG Y hd O I J E hK h
 all_goals first
   | exact h.elim
   | (rename_i I; split at h
      . obtain⟨rfl,_,h⟩:=h;exact Lh F X hG Y hd O I (fun x hx=>O▸J x hx) (dE E rfl) hK h
      . exact sD F X hG Y hd O J E hK (by rw[I];exact h))
   | (rename_i I; split at h
      . obtain⟨rfl,_,h⟩:=h;exact RU F X hG Y hd O I J E hK h
      . exact sD F X hG Y hd O J E hK (by rw[I];exact h))
   | (rename_i I; split at h
      . obtain⟨rfl,h⟩:=h
        split at h
        . exact J2 F X hG Y hd O I (fun x hx=>O▸J x hx) (dE E rfl) hK h
        . exact Ln F X hG Y hd O I (fun x hx=>O▸J x hx) (dE E rfl) hK h
      . exact sD F X hG Y hd O J E hK (by rw[I];exact h))
   | (rename_i I;obtain⟨rfl,_,h⟩:=h;exact Ep F X hG Y hd O I (fun x hx=>O▸J x hx) (dE E rfl) hK h)
   | (rename_i I;exact sD F X hG Y hd O J E hK (by rw[I];exact h))
   | (rename_i I;obtain⟨rfl,_,h⟩:=h;exact GK F X hG Y hd O I (dE E rfl) hK h)
   | (rename_i I;obtain⟨rfl,_,h⟩:=h;exact Eh F X hG Y hd O I (fun x hx=>O▸J x hx) (dE E rfl) hK h)
   | (rename_i I;obtain⟨rfl,_,h⟩:=h;exact K4 F X hG Y hd O I (fun x hx=>O▸J x hx) (dE E rfl) hK h)
   | (rename_i I;obtain⟨rfl,_,h⟩:=h;exact FK F X hG Y hd O I (fun x hx=>O▸J x hx) (dE E rfl) hK h)
   | (rename_i I;obtain⟨rfl,_,h⟩:=h;exact Dl F X hG Y hd O I (fun x hx=>O▸J x hx) (dE E rfl) hK h)
end
end Go.Aw
end
