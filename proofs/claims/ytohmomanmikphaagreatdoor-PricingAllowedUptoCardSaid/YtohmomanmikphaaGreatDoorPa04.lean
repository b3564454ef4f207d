import Derived.Test.YtohmomanmikphaaGreatDoorPa03
set_option linter.unusedSimpArgs false
set_option linter.unusedVariables false
set_option maxRecDepth 100000
section
namespace Go.Aw
open Go.RowKit
section
variable{P:Program}{n:Nat}{S0:Sg}{w0:World}{H0:aK}{mt:Nat->Bool}{ops:Array Oper}{K:Env->aK->Prop}{K':Act->World->Prop}{Q':Exit->Act->World->Prop}{ρ:Env}{H:aK}{a:Act}{w:World}{o:Oper}{S:Sg}
theorem dN{G:Option Bool}(E:Region.wanted o (yielded ops a.tmps)=true↔gt G)(F:G=none):Region.wanted o (yielded ops a.tmps)=true:=by subst F;exact E.2 trivial
theorem Pi{f:FuncId}(h:aG P f=true):∃fn,P.funcs[f]?=some fn/\(fn.name == "runtime.NumGoroutine")=false/\fn.body.isNone=false:=by
 unfold aG at h;split at h
 . rename_i fn E
   simp only[Bool.and_eq_true,bne_iff_ne,ne_eq]at h;refine⟨fn,E,by simpa using h.1,?_⟩;cases F:fn.body <;> simp_all
 . simp at h
theorem sN{f:FuncId}(h:aG P f=true)(args:Array Value)(w:World):(callFunc f args).run P w=.ok (.enter f args) w:=by
 obtain⟨fn,h1,J,I⟩:=Pi h;have F:¬fn.name = "runtime.NumGoroutine" := by simpa using J
 have E:¬fn.body=none:=fun e=>by rw[e]at I;simp at I
 simp[callFunc,h1,F,E]
theorem gD(E:Region.wanted o (yielded ops a.tmps)=true)(h:o.wp P a w K' Q'):zV P ops o a w K' Q':=⟨fun _=>h,fun e=>by rw[E]at e;simp at e⟩
theorem LO:∀(l:List Value),bG S w (l.map .v) l
 | []=>by simp[bG]
 | v::r=>by simp only[List.map_cons,bG];exact⟨v,r,rfl,mK,LO r⟩
theorem BT{x:AV}{g:FuncId}{F I:List AV}{u:Value}(h:Ni x=some (g,F,I))(J:rep S w x u):
   ∃first E:Array Value,u=.func (.func g) first E/\bG S w F first.toList/\bG S w I E.toList:=by
 unfold Ni at h;split at h
 . rename_i f first E
   simp only[Option.some.injEq,Prod.mk.injEq]at h;obtain⟨rfl,rfl,rfl⟩:=h;simp only[rep]at J;exact⟨first,E,J,LO _,LO _⟩
 . rename_i f cap
   simp only[Option.some.injEq,Prod.mk.injEq]at h;obtain⟨rfl,rfl,rfl⟩:=h;simp only[rep]at J;obtain⟨l,rfl,O⟩:=J;exact⟨#[],l.toArray,rfl,by simp[bG],by simpa using O⟩
 . simp at h
theorem pE{c:Call}{f:Operand}(I:c.callee=.value f){g:FuncId}{first E:Array Value}(F:a.eval f=.func (.func g) first E)(ty:TypeId):
   resolve a.eval c ty=pure { target:=.fn (.func g) E,args:=first++c.args.map a.eval }:=by
 unfold resolve;simp only[I];rw[F];rfl
theorem M6{nl ax:Bool}{G:Option Bool}{c:Call}(O:St S w H)(X:FR S w ρ a)(hG:Grow S0 w0 S w)(hN:fS S0.N H0 H)(hd:a.defers=[])(hn:a.tmps.size=n)(ho:o.op=.call c)(hb:∀x∈o.op.operands,opB n x=true)
   (ac:Region.wanted o (yielded ops a.tmps)=true↔gt G) (hK:∀ba H' a' w',K ba H'->Rel n S0 w0 H0 ba H' a' w'->K' a' w') (h:Cj P (bF P) (dP P) nl ax G o c ρ H K):zV P ops o a w K' Q':=by
 rw[ho]at hb;simp only[Op.operands,Call.operands]at hb;unfold Cj at h;split at h
 . rename_i b hc
   obtain⟨ys,h2,am⟩:=oL X c.args.toList (fun x hx=>hn▸hb x (by simp[Array.mem_toList_iff.1 hx])) h;clear h;have h:=h2;clear h2;split at h
   . rename_i x t J
     obtain⟨z,hz,hl⟩:=F2 (G:=G) (ty:=o.type) O.rows h;refine⟨fun hw=>?_,fun hw=>?_⟩
     . have U:=ac.1 hw
       have hr:=am U;simp only[bG]at hr;obtain⟨u,t',e1,e2,rfl⟩:=hr;obtain⟨v,hv,ak⟩:=hl U u e2;have ea:c.args.map a.eval=#[u]:=by
         apply Array.toList_inj.1;simpa using e1
       have et:c.argTypes=#[t]:=Array.toList_inj.1 (by simpa using J);refine fA (v:=v) (w':=w) ?_ (hK _ _ _ _ hz (Rel.step O X hG hN hd hn O (Grow.refl S w) (fS.refl _ _) (fW U hv)));simp[execOp,ho,resolve,hc,invoke,builtin,ea,et,ak w (Agree.refl S H w)]
     . have U:¬gt G:=fun h=>by rw[ac.2 h]at hw;simp at hw
       exact hK _ _ _ _ hz (Rel.step O X hG hN hd hn O (Grow.refl S w) (fS.refl _ _) (fE U))
   . rename_i s x t t' J
     split at h
     . rename_i aa
       obtain⟨be,aj,_⟩:=aa;subst aj;subst be;have hw:=dN ac rfl;refine gD hw ?_;have hr:=am trivial;simp only[bG]at hr;obtain⟨us,t1,e1,e2,ux,t2,rfl,e3,rfl⟩:=hr;have ea:c.args.map a.eval=#[us,ux]:=Array.toList_inj.1 (by simpa using e1);have et:c.argTypes=#[t,t]:=Array.toList_inj.1 (by simpa using J);unfold uP at h;split at h
       . rename_i k e sz ab he
         split at h
         . rename_i r hk
           have ah : ∀ news, AH S w ux news -> ((r.e = e /\ r.sz = sz /\ cZ sz news /\ (r.es.length + news.length) * ab <= 140737488355328) /\
               ∀k',H k'=none->K (upd ρ o.dst (.os k')) (aI (aI H k none) k' (some ⟨e,sz,r.es++news⟩)))->o.wp P a w K' Q':=by
             rintro news ai ⟨⟨rfl,rfl,al,ag⟩,ao⟩;simp only[rep]at e2;obtain⟨bm,rfl,_,_,_,a5⟩:=e2;obtain⟨v',w',q1,q2,q3,q4⟩:=O.append hk a5 (ty:=o.type) he ai al ag;refine fA (v:=v') (w':=w') ?_ (hK _ _ _ _ (ao S.N O.fresh) (Rel.step O X hG hN hd hn q3 q4 ?_ ?_))
             . simp[execOp,ho,resolve,hc,invoke,builtin,ea,et,q1]
             . intro j hj h0
               rw[aF _ _ _ _ (Nat.ne_of_lt hj)];by_cases e:j=k
               . subst e;exact aA _ _ _
               . rw[aF _ _ _ _ e];exact h0
             . simp only[rep,Sg.addRow,if_true]
               exact⟨Nat.lt_succ_self _,trivial,q2⟩
           unfold zW at h;split at h
           . exact ah _ (Lc e3) h
           . rename_i k2
             split at h
             . rename_i r2 Z
               simp only[rep]at e3;obtain⟨_,rfl,_,_,_,Y⟩:=e3;exact ah _ (Mj (O.rows k2 r2 Z) Y) h
             . exact h.elim
           . rename_i k2 a2 b2
             split at h
             . rename_i r2 Z
               exact ah _ (Dx (O.rows k2 r2 Z) e3).1 h
             . exact h.elim
           . exact h.elim
         . exact h.elim
       . rename_i es e sz ab he
         have ah : ∀ news, AH S w ux news -> ((news ≠ [] /\ cZ sz es /\ cZ sz news /\ (es.length + news.length) * ab <= 140737488355328) /\
             ∀k',H k'=none->K (upd ρ o.dst (.os k')) (aI H k' (some ⟨e,sz,es++news⟩)))->o.wp P a w K' Q':=by
           rintro news ai ⟨⟨a7,az,al,ag⟩,ao⟩;obtain⟨v',w',q1,q2,q3,q4⟩:=O.appendNew e2 (ty:=o.type) he ai a7 az al ag;refine fA (v:=v') (w':=w') ?_ (hK _ _ _ _ (ao S.N O.fresh) (Rel.step O X hG hN hd hn q3 q4 ?_ ?_))
           . simp[execOp,ho,resolve,hc,invoke,builtin,ea,et,q1]
           . intro j hj h0
             rw[aF _ _ _ _ (Nat.ne_of_lt hj)];exact h0
           . simp only[rep,Sg.addRow,if_true]
             exact⟨Nat.lt_succ_self _,trivial,q2⟩
         unfold zW at h;split at h
         . exact ah _ (Lc e3) h
         . rename_i k2
           split at h
           . rename_i r2 Z
             simp only[rep]at e3;obtain⟨_,rfl,_,_,_,Y⟩:=e3;exact ah _ (Mj (O.rows k2 r2 Z) Y) h
           . exact h.elim
         . rename_i k2 a2 b2
           split at h
           . rename_i r2 Z
             exact ah _ (Dx (O.rows k2 r2 Z) e3).1 h
           . exact h.elim
         . exact h.elim
       . rename_i e sz ab he
         have bj:rep S w (.cl []) us:=by
           have hu:us=.slice none 0 0:=by simp only[rep]at e2;exact e2
           subst hu;simp only[rep];exact⟨none,0,rfl,rfl,Nat.zero_le _,.inl trivial⟩
         have ah : ∀ news, AH S w ux news -> ((news ≠ [] /\ cZ sz ([] : List (List AV)) /\ cZ sz news /\ (([] : List (List AV)).length + news.length) * ab <= 140737488355328) /\
             ∀k',H k'=none->K (upd ρ o.dst (.os k')) (aI H k' (some ⟨e,sz,[]++news⟩)))->o.wp P a w K' Q':=by
           rintro news ai ⟨⟨a7,az,al,ag⟩,ao⟩;obtain⟨v',w',q1,q2,q3,q4⟩:=O.appendNew bj (ty:=o.type) he ai a7 az al ag;refine fA (v:=v') (w':=w') ?_ (hK _ _ _ _ (ao S.N O.fresh) (Rel.step O X hG hN hd hn q3 q4 ?_ ?_))
           . simp[execOp,ho,resolve,hc,invoke,builtin,ea,et,q1]
           . intro j hj h0
             rw[aF _ _ _ _ (Nat.ne_of_lt hj)];exact h0
           . simp only[rep,Sg.addRow,if_true]
             exact⟨Nat.lt_succ_self _,trivial,q2⟩
         unfold zW at h;split at h
         . exact ah _ (Lc e3) h
         . rename_i k2
           split at h
           . rename_i r2 Z
             simp only[rep]at e3;obtain⟨_,rfl,_,_,_,Y⟩:=e3;exact ah _ (Mj (O.rows k2 r2 Z) Y) h
           . exact h.elim
         . rename_i k2 a2 b2
           split at h
           . rename_i r2 Z
             exact ah _ (Dx (O.rows k2 r2 Z) e3).1 h
           . exact h.elim
         . exact h.elim
       . exact h.elim
     . exact h.elim
   . rename_i x y t t' J
     split at h
     . rename_i aa
       obtain⟨aj,_⟩:=aa;subst aj;have hw:=dN ac rfl;refine gD hw ?_;have hr:=am trivial;simp only[bG]at hr;obtain⟨us,t1,e1,e2,ux,t2,rfl,e3,rfl⟩:=hr;have ea:c.args.map a.eval=#[us,ux]:=Array.toList_inj.1 (by simpa using e1);have et:c.argTypes=#[t,t']:=Array.toList_inj.1 (by simpa using J);have go : ∀ k a0 n0 r, H k = some r -> a0 + n0 <= r.es.length -> (∃ ad cc, us = .slice ad n0 cc /\ (0 < n0 -> ∃ g n' c', S.loc k = .slice (some ⟨g, 0, none⟩) n' c' /\ ad = some ⟨g, a0 * r.sz, none⟩)) -> ∀ news, AH S w ux news ->
           (match cF P t with
             | some (_,sz,_)=>(r.sz=sz/\cZ sz news)/\K (upd ρ o.dst (.v (.int .i64 (min news.length n0:Nat)))) (aI H k (some { r with es:=r.es.take a0++news.take (min news.length n0)++r.es.drop (a0+min news.length n0) }))
             | none=>False)->o.wp P a w K' Q':=by
         intro k a0 n0 r hk a4 hx news ai ae;split at ae
         . rename_i e sz ab he
           obtain⟨⟨h1,h2⟩,h3⟩:=ae;obtain⟨w',q1,q2,q3⟩:=O.copy hk (t':=t') (ty:=o.type) he h1 a4 ai h2 hx;refine fA (v:=goInt (min news.length n0:Nat)) (w':=w') ?_ (hK _ _ _ _ h3 (Rel.step O X hG hN hd hn q2 q3 ?_ (by simp only[rep];rfl)))
           . simp[execOp,ho,resolve,hc,invoke,builtin,ea,et,q1]
           . intro j hj h0
             by_cases e:j=k
             . subst e;rw[hk]at h0;simp at h0
             . rw[aF _ _ _ _ e];exact h0
         . exact ae.elim
       have src:∀F:List (List AV)->Prop,zW H y F->∃news,AH S w ux news/\F news:=by
         intro F X;unfold zW at X;split at X
         . exact⟨_,Lc e3,X⟩
         . rename_i k2
           split at X
           . rename_i r2 Z
             simp only[rep]at e3;obtain⟨_,rfl,_,_,_,Y⟩:=e3;exact⟨_,Mj (O.rows k2 r2 Z) Y,X⟩
           . exact X.elim
         . rename_i k2 a2 b2
           split at X
           . rename_i r2 Z
             exact⟨_,(Dx (O.rows k2 r2 Z) e3).1,X⟩
           . exact X.elim
         . exact X.elim
       unfold VC IG at h;split at h
       . rename_i k
         split at h
         . rename_i r hk
           obtain⟨news,hs,ae⟩:=src _ h;have hR:=O.rows k r hk;simp only[rep]at e2;obtain⟨_,rfl,ad,n,cc,V⟩:=e2;obtain⟨xs,ar,_,_⟩:=hR.sl V;have hn:n=r.es.length/\(0<r.es.length->∃g,ad=some ⟨g,0,none⟩):=by
             rcases ar.2 with⟨hv,h0⟩|⟨g,cap,cur,hv,_⟩
             . rw[V]at hv;injection hv with _ h2 _;exact⟨by omega,fun h=>by omega⟩
             . rw[V]at hv;injection hv with h1 h2 _;exact⟨h2,fun _=>⟨g,h1⟩⟩
           refine go k 0 r.es.length r hk (by omega) ⟨ad,cc,by rw[V,hn.1],fun hp=>?_⟩ news hs ae;obtain⟨g,rfl⟩:=hn.2 hp;exact⟨g,n,cc,V,by simp⟩
         . exact h.elim
       . rename_i k a0 b0
         split at h
         . rename_i r hk
           obtain⟨news,hs,ae⟩:=src _ h;have hR:=O.rows k r hk;obtain⟨_,hb,bh⟩:=Dx hR e2;simp only[rep]at e2;obtain⟨_,ad,n,c0,a6,cc,V,rfl,_,_,ap,_⟩:=e2;refine go k a0 (b0-a0) r hk (by omega) ⟨a6,cc,rfl,fun hp=>?_⟩ news hs ae;obtain⟨g,rfl,rfl⟩:=ap (by omega);exact⟨g,n,c0,V,by rw[hR.sz]⟩
         . exact h.elim
       . exact h.elim
     . exact h.elim
   . rename_i x t J
     split at h
     . rename_i aa
       obtain⟨aj,_⟩:=aa;subst aj;have hw:=dN ac rfl;refine gD hw ?_;have hr:=am trivial;simp only[bG]at hr;obtain⟨us,t1,e1,e2,rfl⟩:=hr;have ea:c.args.map a.eval=#[us]:=Array.toList_inj.1 (by simpa using e1);have et:c.argTypes=#[t]:=Array.toList_inj.1 (by simpa using J);have go : ∀ k a0 n0 r, H k = some r -> a0 + n0 <= r.es.length -> (∃ ad cc, us = .slice ad n0 cc /\ (0 < n0 -> ∃ g n' c', S.loc k = .slice (some ⟨g, 0, none⟩) n' c' /\ ad = some ⟨g, a0 * r.sz, none⟩)) ->
           (match cF P t with
             | some (e,sz,_)=>match dU P e with
               | some zs=>r.sz=sz/\K (upd ρ o.dst .any) (aI H k (some { r with es:=r.es.take a0++List.replicate n0 zs++r.es.drop (a0+n0) }))
               | none=>False
             | none=>False)->o.wp P a w K' Q':=by
         intro k a0 n0 r hk a4 hx ae;split at ae
         . rename_i e sz ab he
           split at ae
           . rename_i zs bi
             obtain⟨h1,h3⟩:=ae;obtain⟨w',q1,q2,q3⟩:=O.clear hk (ty:=o.type) he bi h1 a4 hx;refine fA (v:=.tuple #[]) (w':=w') ?_ (hK _ _ _ _ h3 (Rel.step O X hG hN hd hn q2 q3 ?_ (by simp only[rep])))
             . simp[execOp,ho,resolve,hc,invoke,builtin,ea,et,q1]
             . intro j hj h0
               by_cases e:j=k
               . subst e;rw[hk]at h0;simp at h0
               . rw[aF _ _ _ _ e];exact h0
           . exact ae.elim
         . exact ae.elim
       unfold Lh IG at h;split at h
       . rename_i k
         split at h
         . rename_i r hk
           have hR:=O.rows k r hk;simp only[rep]at e2;obtain⟨_,rfl,ad,n,cc,V⟩:=e2;obtain⟨xs,ar,_,_⟩:=hR.sl V;have hn:n=r.es.length/\(0<r.es.length->∃g,ad=some ⟨g,0,none⟩):=by
             rcases ar.2 with⟨hv,h0⟩|⟨g,cap,cur,hv,_⟩
             . rw[V]at hv;injection hv with _ h2 _;exact⟨by omega,fun h=>by omega⟩
             . rw[V]at hv;injection hv with h1 h2 _;exact⟨h2,fun _=>⟨g,h1⟩⟩
           refine go k 0 r.es.length r hk (by omega) ⟨ad,cc,by rw[V,hn.1],fun hp=>?_⟩ h;obtain⟨g,rfl⟩:=hn.2 hp;exact⟨g,n,cc,V,by simp⟩
         . exact h.elim
       . rename_i k a0 b0
         split at h
         . rename_i r hk
           have hR:=O.rows k r hk;obtain⟨_,hb,bh⟩:=Dx hR e2;simp only[rep]at e2;obtain⟨_,ad,n,c0,a6,cc,V,rfl,_,_,ap,_⟩:=e2;refine go k a0 (b0-a0) r hk (by omega) ⟨a6,cc,rfl,fun hp=>?_⟩ h;obtain⟨g,rfl,rfl⟩:=ap (by omega);exact⟨g,n,c0,V,by rw[hR.sz]⟩
         . exact h.elim
       . exact h.elim
     . exact h.elim
   . rename_i x y t t' J
     obtain⟨z,hz,hl⟩:=HZ (P:=P) (S:=S) (w:=w) (H:=H) (G:=G) (tys:=c.argTypes) (ty:=o.type) h;refine⟨fun hw=>?_,fun hw=>?_⟩
     . have U:=ac.1 hw
       have hr:=am U;simp only[bG]at hr;obtain⟨us,t1,e1,e2,ux,t2,rfl,e3,rfl⟩:=hr;obtain⟨v,hv,ak⟩:=hl U us ux e2 e3;have ea:c.args.map a.eval=#[us,ux]:=Array.toList_inj.1 (by simpa using e1);refine fA (v:=v) (w':=w) ?_ (hK _ _ _ _ hz (Rel.step O X hG hN hd hn O (Grow.refl S w) (fS.refl _ _) (fW U hv)));simp[execOp,ho,resolve,hc,invoke,builtin,ea,ak w (Agree.refl S H w)]
     . have U:¬gt G:=fun h=>by rw[ac.2 h]at hw;simp at hw
       exact hK _ _ _ _ hz (Rel.step O X hG hN hd hn O (Grow.refl S w) (fS.refl _ _) (fE U))
   . rename_i x y t t' J
     obtain⟨z,hz,hl⟩:=GB (P:=P) (S:=S) (w:=w) (H:=H) (G:=G) (tys:=c.argTypes) (ty:=o.type) h;refine⟨fun hw=>?_,fun hw=>?_⟩
     . have U:=ac.1 hw
       have hr:=am U;simp only[bG]at hr;obtain⟨us,t1,e1,e2,ux,t2,rfl,e3,rfl⟩:=hr;obtain⟨v,hv,ak⟩:=hl U us ux e2 e3;have ea:c.args.map a.eval=#[us,ux]:=Array.toList_inj.1 (by simpa using e1);refine fA (v:=v) (w':=w) ?_ (hK _ _ _ _ hz (Rel.step O X hG hN hd hn O (Grow.refl S w) (fS.refl _ _) (fW U hv)));simp[execOp,ho,resolve,hc,invoke,builtin,ea,ak w (Agree.refl S H w)]
     . have U:¬gt G:=fun h=>by rw[ac.2 h]at hw;simp at hw
       exact hK _ _ _ _ hz (Rel.step O X hG hN hd hn O (Grow.refl S w) (fS.refl _ _) (fE U))
   . exact h.elim
 . rename_i f hc
   obtain⟨yf,h2,hf⟩:=aW (S:=S) (w:=w) h;clear h;have h:=h2;clear h2;split at h
   . rename_i g bd a8 a9
     by_cases bc:nl=true
     . rw[if_pos bc]at h
       obtain⟨aj,bk,ay,h⟩:=h;subst aj;have hw:=dN ac rfl;obtain⟨first,E,aw,h2,h3⟩:=BT a9 (hf trivial _ (cV X (hn▸hb f (by simp[hc]))));have an:bG S w (bd++c.args.toList.map (Mo ρ)++a8) (first++c.args.map a.eval++E).toList:=by
         simp only[Array.toList_append];refine dO _ _ _ _ (dO _ _ _ _ h2 ?_) h3;have:=Ee X c.args.toList (fun x hx=>hn▸hb x (by simp[hc,Array.mem_toList_iff.1 hx]));simpa using this
       have af:(execOp a.eval o).run P w=.ok (.enter g (first++c.args.map a.eval++E)) w:=by
         simp only[execOp,ho];rw[pE hc aw];simp[invoke,sN ay]
       refine gD hw ?_;have I:=h S w _ O an;unfold Oper.wp;rw[af];simp only[Oper.upon,Array.toArray_toList]at I |-;refine I.mono fun e w' ⟨v,r,H',S',he,hr,av,hv,aq,au⟩=>?_
       subst he;exact hK _ _ _ _ hr (Rel.step O X hG hN hd hn av aq au hv)
     rw[if_neg bc]at h;obtain⟨ys,h2,am⟩:=oL X c.args.toList (fun x hx=>hn▸hb x (by simp[hc,Array.mem_toList_iff.1 hx])) h;clear h;obtain⟨ay,h⟩:=h2;have bg:=fun hg=>BT a9 (hf hg _ (cV X (hn▸hb f (by simp[hc]))))
     have J:gt G->∃first E:Array Value,a.eval f=.func (.func g) first E/\bG S w (bd++ys++a8) (first++c.args.map a.eval++E).toList:=fun hg=>by
       obtain⟨first,E,h1,h2,h3⟩:=bg hg;refine⟨first,E,h1,?_⟩;simp only[Array.toList_append];refine dO _ _ _ _ (dO _ _ _ _ h2 ?_) h3;simpa using am hg
     split at h
     . rename_i aa
       obtain⟨aj,_⟩:=aa;subst aj;have hw:=dN ac rfl;obtain⟨first,E,aw,an⟩:=J trivial;have af:(execOp a.eval o).run P w=.ok (.enter g (first++c.args.map a.eval++E)) w:=by
         simp only[execOp,ho];rw[pE hc aw];simp[invoke,sN ay]
       refine gD hw ?_;have I:=h S w _ O an;unfold Oper.wp;rw[af];simp only[Oper.upon,Array.toArray_toList]at I |-;refine I.mono fun e w' ⟨v,r,H',S',he,hr,av,hv,aq,au⟩=>?_
       subst he;exact hK _ _ _ _ hr (Rel.step O X hG hN hd hn av aq au hv)
     . obtain⟨r,hq,hk⟩:=h
       refine⟨fun hw=>?_,fun hw=>?_⟩
       . have U:=ac.1 hw
         obtain⟨first,E,aw,an⟩:=J U;have af:(execOp a.eval o).run P w=.ok (.enter g (first++c.args.map a.eval++E)) w:=by
           simp only[execOp,ho];rw[pE hc aw];simp[invoke,sN ay]
         rcases hq U with hq|⟨x,rfl,bf⟩
         . obtain⟨v,bb⟩:=hq.val
           obtain⟨hv,I⟩:=hq.calls bb O an;rw[PQ (by rw[bb];rfl)]at hk;unfold Oper.wp;rw[af];simp only[Oper.upon,Array.toArray_toList]at I |-;refine I.mono fun e w' ⟨he,p1,p2,p3,p4,p5⟩=>?_
           subst he;exact hK _ _ _ _ hk (Rel.step O X hG hN hd hn (O.after p4 p5) (O.grow p1 p2 p3 p4 p5) (fS.refl _ _) (fW U (hv S w')))
         . cases ax with
           | true=>exact hk.elim
           | false=>
             have I:=(PC.use (H:=H) bf (K:=fun y H'=>y=x/\H'=H) ⟨rfl,rfl⟩) S w _ O an;unfold Oper.wp;rw[af];simp only[Oper.upon,Array.toArray_toList]at I |-;refine I.mono fun e w' ⟨v,r,H',S',he,⟨hr,hH⟩,av,hv,aq,au⟩=>?_
             subst he hr hH;exact hK _ _ _ _ hk (Rel.step O X hG hN hd hn av aq au (fW U hv))
       . have U:¬gt G:=fun h=>by rw[ac.2 h]at hw;simp at hw
         obtain⟨z,hk⟩:=N3 hk;exact hK _ _ _ _ hk (Rel.step O X hG hN hd hn O (Grow.refl S w) (fS.refl _ _) (fE U))
   . exact h.elim
 . exact h.elim
end
end Go.Aw
end
section
namespace Go.Aw
open Go.RowKit
section
variable{P:Program}{n:Nat}{S0:Sg}{w0:World}{H0:aK}{mt:Nat->Bool}{ops:Array Oper}{K:Env->aK->Prop}{K':Act->World->Prop}{Q':Exit->Act->World->Prop}{ρ:Env}{H:aK}{a:Act}{w:World}{o:Oper}{S:Sg}
theorem wZ{w':World}(h:(execOp a.eval o).run P w=.ok .skip w')(E:K' (a.put o.dst undef) w'):o.wp P a w K' Q':=by
 unfold Oper.wp;rw[h];exact E
theorem OQ{s:Sem Value}{v:Value}{w w':World}(h:s.run P w=.ok v w'):(do pure (Next.value (<-s)):Sem Next).run P w=.ok (.value v) w':=by
 simp[h]
theorem L2{t:TypeId}{l:Option Nat}(J:ldT P t=some l){v:Value}{vs:List Value}(U:v.cells=List.toArray vs)(F:vs.length=l.getD 1){g p:Nat}{w w':World}(E:l=none->∃i,P.info? t=some i/\i.size=1)
   (O:(storeCells ⟨g,p,none⟩ vs).run P w=.ok () w'):(Instr.storeAt t (.pointer (some ⟨g,p,none⟩)) v).run P w=.ok () w':=by
 have I:(sizeOf t).run P w=.ok vs.length w:=by
   cases l with
   | none=>
     obtain⟨i,hi,h1⟩:=E rfl;simp[sizeOf,typeInfo,hi,h1,F]
   | some m=>
     rw[vV J,F];rfl
 simp[Instr.storeAt,Instr.sureAddr,storeVar,I,U,O]
theorem AT(z:Array Value)(E:0<z.size):∀m,(madeCells z (m*z.size)).toList=(List.replicate m z.toList).flatten
 | 0=>by simp[madeCells]
 | m+1=>by
   have ih:=AT z E m;rw[show List.replicate (m+1) z.toList=List.replicate m z.toList++[z.toList]from List.replicate_succ',List.flatten_append,<-ih];simp only[madeCells,Array.toList_map,Array.toList_range,Nat.add_mul,Nat.one_mul,List.flatten_cons,List.flatten_nil,List.append_nil];rw[List.range_add,List.map_append]
   congr 1
   apply List.ext_getElem
   . simp
   . intro i h1 F
     have hi:i<z.size:=by simpa using F
     simp[Nat.add_mod,Nat.mod_eq_of_lt hi,hi]
theorem Gn:∀(cs:List AV) (l:List Value) (j:Nat) {x:AV},bG S w cs l->(∀u,l[j]?=some u->rep S w x u)->bG S w (cs.set j x) l
 | [],_,_,_,h,_=>h
 | y::r,l,0,x,h,hx=>by
   simp only[bG,List.set_cons_zero]at h |-;obtain⟨u,t,rfl,h1,E⟩:=h;exact⟨u,t,rfl,hx u (by simp),E⟩
 | y::r,l,j+1,x,h,hx=>by
   simp only[bG,List.set_cons_succ]at h |-;obtain⟨u,t,rfl,h1,E⟩:=h;exact⟨u,t,rfl,h1,Gn r t j E fun u F=>hx u (by simpa using F)⟩
theorem rD:∀(nl:List (Nat×TypeId×Nat)) (z:List AV) (S:Sg) (H:aK) (vs:List Value) {K:List AV->aK->Prop},(∀x∈nl,vs[x.1]?=some (.slice none 0 0)/\0<x.2.2)->St S w H->bG S w z vs->kM nl z H K ->
   ∃F S' H',K F H'/\St S' w H'/\Grow S w S' w/\fS S.N H H'/\bG S' w F vs/\F.length=z.length
 | [],z,S,H,vs,K,_,hS,hr,h=>⟨z,S,H,h,hS,Grow.refl S w,fS.refl _ _,hr,rfl⟩
 | x::r,z,S,H,vs,K,hn,hS,hr,h=>by
   obtain⟨h0,E⟩:=hn x (by simp);have q:=hS.nilRow x.2.1 E;have J:=Gn z vs x.1 (x:=.os S.N) (dW q.2.le (q.2.kept hS) _ _ hr) (fun u I=>by
     rw[h0]at I;injection I with I;subst I;simp only[rep,Sg.addRow,if_true];exact⟨Nat.lt_succ_self _,trivial,_,_,_,rfl⟩)
   obtain⟨F,S',H',h1,U,Z,X,V,Y⟩:=rD r _ _ _ vs (fun y O=>hn y (by simp[O])) q.1 J (h S.N hS.fresh);exact⟨F,S',H',h1,U,q.2.trans Z,(oZ hS).trans X q.2.le.N,V,by simpa using Y⟩
theorem B2{P:Program}{t:TypeId}{nl:List (Nat×TypeId×Nat)}(h:tU P t=some nl){i:TypeInfo}{v:Value}(hi:P.info? t=some i)(F:i.zero=some v):∀x∈nl,v.cells.toList[x.1]?=some (.slice none 0 0)/\0<x.2.2:=by
 unfold tU at h;rw[hi]at h;simp only[F]at h;split at h
 . rename_i E
   injection h with h;subst h;intro x I;have:=List.all_eq_true.1 E x I;simp only[Bool.and_eq_true,decide_eq_true_eq]at this;refine⟨?_,this.2⟩;have h1:=this.1;unfold aaU at h1;split at h1
   . rename_i e;exact e
   . simp at h1
 . simp at h
theorem Nx{t:TypeId}{z:List AV}(hS:St S w H)(hF:FR S w ρ a)(hG:Grow S0 w0 S w)(hN:fS S0.N H0 H)(hd:a.defers=[])(hn:a.tmps.size=n)(ho:o.op=.alloc t)(hz:dU P t=some z)
   (hw:Region.wanted o (yielded ops a.tmps)=true) (hK:∀I H' a' w',K I H'->Rel n S0 w0 H0 I H' a' w'->K' a' w') {nl:List (Nat×TypeId×Nat)} (U:tU P t=some nl)
   (h:kM nl z H fun z H=>qB H ⟨t,z.length,[z]⟩ fun k H'=>K (upd ρ o.dst (.op k 0 0)) H'):zV P ops o a w K' Q':=by
 obtain⟨i,v,hi,O,rfl,ab,aa,h1⟩:=oB hz;have J:(Instr.alloc t true (.tuple #[])).run P w=.ok (.pointer (some ⟨w.heap.size,0,none⟩)) (w.alloc (.cells v.cells t)):=by
   simp[Instr.alloc,zeroValue,typeInfo,hi,O,newVar,newRow]
 have Z:∀x∈nl,v.cells.toList[x.1]?=some (.slice none 0 0)/\0<x.2.2:=B2 U hi O;obtain⟨z',S',H',q0,E,F,Y,X,V⟩:=rD nl _ S H v.cells.toList Z hS (mS _) h;obtain⟨S2,q1,q2,q3⟩:=D2 (t:=t) (cs:=z') (l:=v.cells.toList) E (by rw[V];simp;omega) X h1;refine gD hw (fA (v:=.pointer (some ⟨w.heap.size,0,none⟩)) (w':=w.alloc (.cells v.cells t)) (by simp[execOp,ho,J]) (hK _ _ _ _ (q0 S'.N E.fresh) (Rel.step E (hF.keep F.le (F.kept hS)) (hG.trans F) (hN.trans Y hG.le.N) hd hn (by simpa using q1) (by simpa using q2) (oZ E) (by simpa using q3))))
theorem E0{t:TypeId}{x y:Operand}{x':AV}{cs:List AV}{l:List Value}(Y:St S w H)(hF:FR S w ρ a)(hG:Grow S0 w0 S w)(hN:fS S0.N H0 H)(hd:a.defers=[])(hn:a.tmps.size=n)(ho:o.op=.store t x y)
   (hw:Region.wanted o (yielded ops a.tmps)=true) (hK:∀J H' a' w',K J H'->Rel n S0 w0 H0 J H' a' w'->K' a' w') (ex:rep S w x' (a.eval x)) (e1:(a.eval y).cells=l.toArray) (e2:bG S w cs l) (e3:∀u∈l,u.oneCell'=true)
   (I:Ah P o t x' cs ρ H K):zV P ops o a w K' Q':=by
 unfold Ah at I;split at I
 . rename_i k i f
   split at I
   . rename_i r ld Z X
     obtain⟨⟨c1,c2,c3,c4⟩,h5⟩:=I;simp only[rep]at ex;obtain⟨_,g,m,c,F,ep⟩:=ex;obtain⟨g',n',c',w',E,U,q1,q2⟩:=Y.store Z c1 c3 F e2 e3;rw[F]at E;injection E with O i2 i3;injection O with O;injection O with O;subst O;rw[<-(Y.rows k r Z).sz]at ep;have V:=L2 (P:=P) X e1 (by rw[iC _ _ e2,c2]) (by
       intro aa;subst aa;exact c4 rfl) (U P)
     refine gD hw (wZ (w':=w') ?_ (hK _ _ _ _ h5 (Rel.step Y hF hG hN hd hn q1 q2 ?_ (by simp only[rep]))))
     . simp[execOp,ho,ep,V]
     . intro j _ h0
       rw[aF _ _ _ _ (fun e=>by subst e;rw[Z]at h0;simp at h0)];exact h0
   . exact I.elim
 . exact I.elim
theorem Vc:∀(x:List AV) (l:List Value) (j:Nat) (v:Value),bG S w x l->x[j]?=some (.v v)->l[j]?=some v
 | [],_,_,_,_,h=>by simp at h
 | a::r,l,0,v,h,hx=>by
   simp only[bG]at h;obtain⟨u,t,rfl,h1,E⟩:=h;have e:a=.v v:=by simpa using hx
   subst e;simp only[rep]at h1;simp[h1]
 | a::r,l,j+1,v,h,hx=>by
   simp only[bG]at h;obtain⟨u,t,rfl,h1,E⟩:=h;simpa using Vc r t j v E (by simpa using hx)
theorem CS{t:TypeId}{x y:Operand}{x':AV}{cs:List AV}{l:List Value}(O:St S w H)(hF:FR S w ρ a)(V:Grow S0 w0 S w)(hN:fS S0.N H0 H)(hd:a.defers=[])(hn:a.tmps.size=n)(ho:o.op=.store t x y)
   (hw:Region.wanted o (yielded ops a.tmps)=true) (hK:∀F H' a' w',K F H'->Rel n S0 w0 H0 F H' a' w'->K' a' w') (ex:rep S w x' (a.eval x)) (e1:(a.eval y).cells=l.toArray) (Y:bG S w cs l) (e3:∀u∈l,u.oneCell'=true)
   (I:uV P o t x' cs ρ H K):zV P ops o a w K' Q':=by
 rcases I with I|⟨_,nl,J,I⟩
 . exact E0 O hF V hN hd hn ho hw hK ex e1 Y e3 I
 . obtain⟨z',S',H',q0,U,E,Z,X,aa⟩:=rD nl _ S H l (fun x hx=>⟨Vc _ _ _ _ Y (J x hx).1,(J x hx).2⟩) O Y I
   exact E0 U (hF.keep E.le (E.kept O)) (V.trans E) (hN.trans Z V.le.N) hd hn ho hw hK (lI E.le (E.kept O) _ _ ex) e1 X e3 q0
theorem JO{w:World}:∀(nl:List (Nat×TypeId×Nat)) (z:List AV) (vs:List Value),(∀x∈nl,vs[x.1]?=some (.slice none 0 0))->bG S w z vs->bG S w (Kc nl z) vs
 | [],z,vs,_,h=>h
 | x :: r, z, vs, hn, h => JO r _ vs (fun y F => hn y (by simp [F])) (Gn z vs x.1 h fun u E => by
     rw[hn x (by simp)]at E;injection E with E;simp only[rep];exact E.symm)
theorem ED{o:Oper}{w1:World}{t:TypeId}{E:Array (Nat×Operand)}(hF:FR S w1 ρ a)(Z:∀x∈o.op.operands,opB a.tmps.size x=true)(Y:o.op=.build t E)
   (h:Bb P o t E.toList ρ H K):∃z,K (upd ρ o.dst z) H/\∃v,rep S w1 z v/\∀w,(execOp a.eval o).run P w=.ok (.value v) w:=by
 unfold Bb at h;obtain⟨ps,h,V⟩:=pI hF E.toList (fun p hp=>Z p.2 (by rw[Y];simpa[Op.operands]using⟨p.1,by simpa using hp⟩)) h;split at h
 . rename_i z pl nl hz O U
   obtain⟨e1,e2⟩:=V trivial;obtain⟨i,v,hi,F,rfl,ab,aa,h1⟩:=oB hz;split at h
   . rename_i cs I
     obtain⟨J,X,f2,f3⟩:=vQ (S:=S) (w:=w1) hi F h1 (JO nl _ _ (fun x hx=>(B2 U hi F x hx).1) (mS _)) O I e1 (fun j i c hj=>e2 j i c hj);refine⟨_,h,.agg J,?_,fun w=>?_⟩
     . simp only[rep];exact⟨J.toList,by simp,f2,f3⟩
     . have:(E.map fun(p:Nat×Operand)=>(p.1,a.eval p.2)).toList=E.toList.map fun p=>(p.1,a.eval p.2):=by simp
       rw[<-this]at X;simp only[execOp,Y];exact Bm (run_build w t _ J X)
   . exact h.elim
 . exact h.elim
theorem L9{t:TypeId}{E:Array (Nat×Operand)}(O:St S w H)(I:FR S w ρ a)(X:Grow S0 w0 S w)(Y:fS S0.N H0 H)(hd:a.defers=[])(hn:a.tmps.size=n)(ho:o.op=.build t E)(V:∀x∈o.op.operands,opB a.tmps.size x=true)
   (hw:Region.wanted o (yielded ops a.tmps)=true) (hK:∀F H' J w',K F H'->Rel n S0 w0 H0 F H' J w'->K' J w') (h:Bb P o t E.toList ρ H K):zV P ops o a w K' Q':=by
 obtain⟨z,U,v,Z,hq⟩:=ED (S:=S) (w1:=w) I V ho h;exact gD hw (fA (v:=v) (w':=w) (hq w) (hK _ _ _ _ U (Rel.step O I X Y hd hn O (Grow.refl S w) (fS.refl _ _) Z)))
theorem Mu{t:TypeId}{E:Array (Nat×Operand)}(hS:St S w H)(hF:FR S w ρ a)(hG:Grow S0 w0 S w)(hN:fS S0.N H0 H)(hd:a.defers=[])(hn:a.tmps.size=n)(ho:o.op=.build t E)(hb:∀x∈o.op.operands,opB a.tmps.size x=true)
   (hw:Region.wanted o (yielded ops a.tmps)=true) (hK:∀J H' a' w',K J H'->Rel n S0 w0 H0 J H' a' w'->K' a' w') (h:Di P o t E.toList ρ H K):zV P ops o a w K' Q':=by
 unfold Di at h;obtain⟨ps,h,aa⟩:=pI hF E.toList (fun p hp=>hb p.2 (by rw[ho];simpa[Op.operands]using⟨p.1,by simpa using hp⟩)) h;split at h
 . rename_i z pl nl hz X Y
   obtain⟨e1,e2⟩:=aa trivial;obtain⟨i,v,hi,O,rfl,ae,ad,h1⟩:=oB hz;obtain⟨z',S',H',Z,I,F,ac,ab,af⟩:=rD nl _ S H v.cells.toList (B2 Y hi O) hS (mS _) h;split at Z
   . rename_i cs U
     obtain⟨V,f1,f2,f3⟩:=vQ (S:=S') (w:=w) (z:=z') hi O h1 ab X U e1 (fun j i c hj=>by
       obtain⟨u,l,g1,g2,g3,g4⟩:=e2 j i c hj;exact⟨u,l,g1,g2,dW F.le (F.kept hS) _ _ g3,g4⟩)
     refine gD hw (fA (v:=.agg V) (w':=w) ?_ (hK _ _ _ _ Z (Rel.step I (hF.keep F.le (F.kept hS)) (hG.trans F) (hN.trans ac hG.le.N) hd hn I (Grow.refl S' w) (fS.refl _ _) ?_)))
     . have:(E.map fun(p:Nat×Operand)=>(p.1,a.eval p.2)).toList=E.toList.map fun p=>(p.1,a.eval p.2):=by simp
       rw[<-this]at f1;simp only[execOp,ho];exact Bm (run_build w t _ V f1)
     . simp only[rep];exact⟨V.toList,by simp,f2,f3⟩
   . exact Z.elim
 . exact h.elim
theorem Fj{t:TypeId}{x:Operand}{K2:AV->Prop}(F:St S w H)(Z:FR S w ρ a)(Y:Grow S0 w0 S w)(hN:fS S0.N H0 H)(hd:a.defers=[])(hn:a.tmps.size=n)(ho:o.op=.store t x (.const (.slice none 0 0)))(hb:∀x∈o.op.operands,opB a.tmps.size x=true)
   (hw:Region.wanted o (yielded ops a.tmps)=true) (hK:∀E H' a' w',K E H'->Rel n S0 w0 H0 E H' a' w'->K' a' w')
   (h : bZ none (aev ρ x) fun y => match cF P t with
       | some (e,sz,_)=>qB H ⟨e,sz,[]⟩ fun k H=>uV P o t y [.os k] ρ H K
       | none=>False):zV P ops o a w K' Q':=by
 obtain⟨x',O,X⟩:=aW (S:=S) (w:=w) h;have U:opB a.tmps.size x=true:=hb x (by simp[ho,Op.operands]);have ex:=X trivial _ (cV Z U);split at O
 . rename_i e sz J he
   obtain⟨i,z,hu,hi,aa,_,I,_⟩:=jD he;have q:=F.nilRow e I;have h3:=O S.N F.fresh;have V:=oZ F (r:=some ⟨e,sz,[]⟩);refine CS q.1 (Z.keep q.2.le (q.2.kept F)) (Y.trans q.2) (hN.trans V Y.le.N) hd hn ho hw hK (lI q.2.le (q.2.kept F) _ _ ex) (l:=[.slice none 0 0]) (by simp[Act.eval,Value.cells]) ?_ (by simp[Value.oneCell']) h3;simp only[bG,rep,Sg.addRow,if_true];exact⟨_,_,rfl,⟨Nat.lt_succ_self _,rfl,_,_,_,rfl⟩,rfl⟩
 . exact O.elim
theorem Mr{x:Operand}(J:St S w H)(hF:FR S w ρ a)(hG:Grow S0 w0 S w)(hN:fS S0.N H0 H)(hd:a.defers=[])(hn:a.tmps.size=n)(ho:o.op=.move x)(hb:∀x∈o.op.operands,opB a.tmps.size x=true)
   (hw:Region.wanted o (yielded ops a.tmps)=true) (hK:∀Y H' a' w',K Y H'->Rel n S0 w0 H0 Y H' a' w'->K' a' w') (h:A6 x ρ o.dst H K):zV P ops o a w K' Q':=by
 unfold A6 at h;split at h
 . rename_i t
   split at h
   . rename_i j hj
     split at h
     . rename_i r hr
       have aa:=hb (.tmp t) (by simp[ho,Op.operands]);have hv:rep S w (ρ t) (a.eval (.tmp t)):=cV (x:=.tmp t) hF aa;rw[hj]at hv
       let Hf:aK:=fun k=>if k=j then H k else none
       let Hr:aK:=fun k=>if k=j then none else H k
       have X:∀k r',Hf k=some r'->k=j/\H k=some r':=fun k r' E=>by
         by_cases e:k=j
         . exact⟨e,by simpa[Hf,e]using E⟩
         . simp[Hf,e]at E
       have I:∀k r',Hr k=some r'->k≠j/\H k=some r':=fun k r' E=>by
         by_cases e:k=j
         . simp[Hr,e]at E
         . exact⟨e,by simpa[Hr,e]using E⟩
       have ad:St S w Hf:=J.drop fun k r' E=>(X k r' E).2
       have V:rep (S.froze Hf) w (.sl r.es) (a.eval (.tmp t)):=Conv.rep ad (Conv.row j r r.es (by simp[Hf,hr]) (ConvE.refl _)) hv;have U:St (S.froze Hf) w Hr:=by
         refine⟨?_,?_,fun k r' E=>(J.rows k r' (I k r' E).2).keep (S.le_froze Hf) (gE.refl S w) (fun _ _=>rfl),?_,fun k k' r1 O E ac ab g F ae=>J.disj k k' r1 O (I k r1 E).2 (I k' O ac).2 ab g F ae,J.tabs.keep (S.le_froze Hf) (gE.refl S w)⟩
         . rintro g (F|F)
           . exact .inl (J.ro_fz g F)
           . exact .inr F
         . rintro g (F|⟨k,r',E,F⟩)
           . exact J.fz_lt g F
           . exact(J.rows k r' (X k r' E).2).block_lt F
         . rintro k r' E g F (h1|⟨i,O,hi,h2⟩)
           . exact J.free k r' (I k r' E).2 g F h1
           . exact J.disj k i r' O (I k r' E).2 (X i O hi).2 (fun e=>(I k r' E).1 (e.trans (X i O hi).1)) g F h2
       have F:Grow S w (S.froze Hf) w:=by
         refine⟨S.le_froze Hf,fun k E=>.inl E,rfl,rfl,rfl,Nat.le_refl _,fun _ _=>rfl,?_⟩;rintro g (F|⟨k,r',E,F⟩)
         . exact .inl F
         . exact .inr (J.free k r' (X k r' E).2 g F)
       have af:FR (S.froze Hf) w (upd ρ (some t) (.sl r.es)) a:=fun t' Z=>by
         by_cases e:t'=t
         . subst e
           have h1:=V;simp only[upd,if_true];simpa[Act.eval,Array.getD,Z]using h1
         . simp only[upd,if_neg e]
           exact(hF.keep (S.le_froze Hf) (gE.refl S w)) t' Z
       have E:=h Hr (by simp[Hr]) (fun k E=>by simp[Hr,E]);refine gD hw (fA (v:=a.eval (.tmp t)) (w':=w) ?_ (hK _ _ _ _ E (Rel.step U af (hG.trans F) (hN.trans (fun k _ h0=>by
         by_cases e:k=j
         . simp[Hr,e]
         . simp[Hr,e,h0]) hG.le.N) hd hn U (Grow.refl _ _) (fS.refl _ _) V)))
       simp[execOp,ho]
     . exact h.elim
   . exact h.elim
 . exact h.elim
theorem Ga{l:List Nat}:∀{xs E:List AV},Kk l H xs E->ConvL (fun k=>if k∈l then H k else none) xs E
 | [],[],_=>.nil
 | x::xs,y::E,h=>by
   simp only[Kk]at h;obtain⟨h1,F⟩:=h;refine .cons _ _ _ _ ?_ (Ga F);rcases h1 with rfl|⟨j,r,J,rfl,I,rfl⟩
   . exact .refl _
   . exact .row j r r.es (by rw[if_pos J];exact I) (ConvE.refl _)
 | [],_::_,h=>by simp[Kk]at h
 | _::_,[],h=>by simp[Kk]at h
theorem acT{x y:AV}{d:Option Nat}{l:List Nat}{a':Act}{w':World}(hR:Rel n S0 w0 H0 (upd ρ d x) H a' w')(hc:Conv (fun k=>if k∈l then H k else none) x y):Rel n S0 w0 H0 (upd ρ d y) (fun k=>if k∈l then none else H k) a' w':=by
 obtain⟨S,J,hF,hG,hN,hd,hn⟩:=hR
 let Hf:aK:=fun k=>if k∈l then H k else none
 let Hr:aK:=fun k=>if k∈l then none else H k
 have U:∀k r',Hf k=some r'->k∈l/\H k=some r':=fun k r' E=>by
   by_cases e:k∈l
   . exact⟨e,by simpa[Hf,e]using E⟩
   . simp[Hf,e]at E
 have I:∀k r',Hr k=some r'->¬k∈l/\H k=some r':=fun k r' E=>by
   by_cases e:k∈l
   . simp[Hr,e]at E
   . exact⟨e,by simpa[Hr,e]using E⟩
 have aa:St S w' Hf:=J.drop fun k r' E=>(U k r' E).2
 have X:St (S.froze Hf) w' Hr:=by
   refine⟨?_,?_,fun k r' E=>(J.rows k r' (I k r' E).2).keep (S.le_froze Hf) (gE.refl S w') (fun _ _=>rfl),?_,fun k k' r1 O E Z Y g F ab=>J.disj k k' r1 O (I k r1 E).2 (I k' O Z).2 Y g F ab,J.tabs.keep (S.le_froze Hf) (gE.refl S w')⟩
   . rintro g (F|F)
     . exact .inl (J.ro_fz g F)
     . exact .inr F
   . rintro g (F|⟨k,r',E,F⟩)
     . exact J.fz_lt g F
     . exact(J.rows k r' (U k r' E).2).block_lt F
   . rintro k r' E g F (h1|⟨i,O,hi,h2⟩)
     . exact J.free k r' (I k r' E).2 g F h1
     . exact J.disj k i r' O (I k r' E).2 (U i O hi).2 (fun e=>(I k r' E).1 (e▸(U i O hi).1)) g F h2
 have F:Grow S w' (S.froze Hf) w':=by
   refine⟨S.le_froze Hf,fun k E=>.inl E,rfl,rfl,rfl,Nat.le_refl _,fun _ _=>rfl,?_⟩;rintro g (F|⟨k,r',E,F⟩)
   . exact .inl F
   . exact .inr (J.free k r' (U k r' E).2 g F)
 have ac:FR (S.froze Hf) w' (upd ρ d y) a':=fun t' V=>by
   have h1:=hF t' V;cases d with
   | none=>exact hF.keep (S.le_froze Hf) (gE.refl S w') t' V
   | some d=>
     by_cases e:t'=d
     . subst e
       simp only[upd,if_true]at h1 |-;exact Conv.rep aa hc h1
     . simp only[upd,if_neg e]at h1 |-
       exact lI (S.le_froze Hf) (gE.refl S w') _ _ h1
 exact⟨S.froze Hf,X,ac,hG.trans F,hN.trans (fun k _ h0=>by
   by_cases e:k∈l
   . simp[e]
   . simp[e,h0]) hG.le.N,hd,hn⟩
theorem RA{G:Option Bool}{l:Option Nat}{y:AV}{F K2:AV->Prop}(E:∀z,F z->K2 z)(h:pM G H l y F):pM G H l y K2:=by
 unfold pM at h |-;cases y with
 | rp cs off=>cases l <;> exact⟨h.1,E _ h.2⟩
 | op k i f=>
   simp only at h |-;cases I:H k with
   | none=>rw[I]at h;exact h.elim
   | some r=>rw[I]at h;cases l <;> exact⟨h.1,E _ h.2⟩
 | _=>exact h.elim
theorem VT{G:Option Bool}{x:AV}{F K2:AV->Prop}(E:∀z,F z->K2 z)(h:bZ G x F):bZ G x K2:=by
 unfold bZ at h |-;split at h
 . exact⟨h.1,E _ h.2⟩
 . exact E _ h
theorem Ff{G:Option Bool}{t:TypeId}{x:Operand}{F K2:AV->Prop}(J:∀z,F z->K2 z)(h:iP P G ρ H (.load t x) F):iP P G ρ H (.load t x) K2:=by
 simp only[iP]at h |-;cases E:ldT P t with
 | none=>rw[E]at h;exact h.elim
 | some l=>rw[E]at h;exact VT (fun y I=>RA J I) h
theorem Rb{t:TypeId}{x:Operand}(hS:St S w H)(Y:FR S w ρ a)(U:Grow S0 w0 S w)(X:fS S0.N H0 H)(hd:a.defers=[])(Z:a.tmps.size=n)(ho:o.op=.load t x)(O:∀x∈o.op.operands,opB n x=true)
   (I:Region.wanted o (yielded ops a.tmps)=true↔gt none) (hK:∀E H' J w',K E H'->Rel n S0 w0 H0 E H' J w'->K' J w') (h:iP P none ρ H (.load t x) fun x=>Jz x ρ o.dst H K):zV P ops o a w K' Q':=by
 refine sR (K:=fun E H'=>∃z,E=upd ρ o.dst z/\H'=H/\Jz z ρ o.dst H K) hS Y U X hd Z O I ?_ (by
   rw[ho];exact Ff (fun z F=>⟨z,rfl,rfl,F⟩) h)
 rintro E H' J w' ⟨z,rfl,rfl,F⟩ V;unfold Jz at F;split at F
 . obtain⟨l,ys,ht,hk⟩:=F
   exact hK _ _ _ _ (hk (fun k=>if k∈l then none else H' k) (fun k e=>if_pos e) (fun k e=>if_neg e)) (acT V (.agg _ _ (Ga ht)))
 . exact F.elim
theorem Fi{t:TypeId}{l c:Operand}(hS:St S w H)(hF:FR S w ρ a)(hG:Grow S0 w0 S w)(hN:fS S0.N H0 H)(hd:a.defers=[])(hn:a.tmps.size=n)(ho:o.op=.makeSlice t l c)(hb:∀x∈o.op.operands,opB a.tmps.size x=true)
   (hw:Region.wanted o (yielded ops a.tmps)=true) (hK:∀X H' a' w',K X H'->Rel n S0 w0 H0 X H' a' w'->K' a' w')
   (h:bZ none (aev ρ l) fun l=>bZ none (aev ρ c) fun c=>tZ P o t l c ρ H K):zV P ops o a w K' Q':=by
 rw[ho]at hb;simp only[Op.operands]at hb;obtain⟨l',h2,hl⟩:=aW (S:=S) (w:=w) h;obtain⟨c',O,hc⟩:=aW (S:=S) (w:=w) h2;have el:=hl trivial _ (cV hF (hb l (by simp)));have ec:=hc trivial _ (cV hF (hb c (by simp)));unfold tZ at O;split at O
 . rename_i kl x kc y
   simp only[rep]at el ec;split at O
   . rename_i e sz E he
     split at O
     . rename_i z hz
       obtain⟨⟨⟨p1,p2⟩,p3⟩,h4⟩:=O;obtain⟨i,v,hi,ae,rfl,ad,ag,h1⟩:=oB hz;obtain⟨i',z',ab,I,U,Y,Z,af,aj,ah⟩:=jD he;rw[hi]at I;injection I with I;subst I;have F:v.cells.size=sz:=by rw[ad,U]
       have ai:y<=(E:Int)*y:=by
         have:(1:Int)*y<=(E:Int)*y:=Int.mul_le_mul_of_nonneg_right (by omega) (by omega);omega
       have J:=run_make (P:=P) w t e i v ab hi ae kl kc x y p1 p2 (by rw[Y];omega) (by omega);have hm:(madeCells v.cells (y.toNat*sz)).toList=(List.replicate y.toNat v.cells.toList).flatten:=by
         rw[<-F];exact AT _ (by omega) _
       have V:(madeCells v.cells (y.toNat*sz)).toList.take (x.toNat*sz)=(List.replicate x.toNat v.cells.toList).flatten:=by
         rw[hm,<-F];have:y.toNat=x.toNat+(y.toNat-x.toNat):=by omega
         rw[this,<-List.replicate_append_replicate,List.flatten_append,List.take_append_of_le_length (by simp[List.length_flatten]),List.take_of_length_le (by simp[List.length_flatten])]
       have aa:∀m,bG S w (List.replicate m (v.cells.toList.map rI)).flatten (List.replicate m v.cells.toList).flatten:=by
         intro m;induction m with
         | zero=>simp[bG]
         | succ m ih=>simp only[List.replicate_succ,List.flatten_cons];exact dO _ _ _ _ (mS _) ih
       rw[U]at J;have q:=hS.newRow (e:=e) (sz:=sz) (cap:=y.toNat) (es:=List.replicate x.toNat (v.cells.toList.map rI)) (xs:=(List.replicate x.toNat v.cells.toList).flatten) (cur:=madeCells v.cells (y.toNat*sz)) Z
         (fun cs ac=>by rw[List.eq_of_mem_replicate ac];simp[F]) (aa _) (fun u hu=>by
           obtain⟨l,hl,hu⟩:=List.mem_flatten.1 hu;rw[List.eq_of_mem_replicate hl]at hu;exact h1 u hu) (by rw[List.length_replicate];omega) (by simp only[maxLen];omega) (size_madeCells _ _) (by rw[List.length_replicate];exact V) (w':=w.alloc (.cells (madeCells v.cells (y.toNat*sz)) e)) rfl rfl rfl rfl
       refine gD hw (fA (v:=.slice (some ⟨w.heap.size,0,none⟩) x.toNat y.toNat) (w':=w.alloc (.cells (madeCells v.cells (y.toNat*sz)) e)) ?_ (hK _ _ _ _ (h4 S.N hS.fresh) (Rel.step hS hF hG hN hd hn q.1 q.2 (oZ hS) ?_)))
       . simp only[execOp,ho,el,ec]
         exact OQ J
       . simp only[rep,Sg.addRow,if_true,List.length_replicate]
         exact⟨Nat.lt_succ_self _,trivial,_,_,_,rfl⟩
     . exact O.elim
   . exact O.elim
 . exact O.elim
theorem F5{F E:Value}(h:∀n,Instr.sameBits (n+1) F E=true)(w:World):(Instr.keyThatStays F E).run P w=.ok E w:=by
 have:=h 9999;simp[Instr.keyThatStays,this]
theorem vC{E:List MapEntry}{i:Nat}{m:MapEntry}(hi:E[i]?=some m)(f:MapEntry->MapEntry):E.modify i f=E.set i (f m):=by
 apply List.ext_getElem?;intro j;rw[List.getElem?_modify,List.getElem?_set];by_cases e:i=j
 . subst e
   have F:i<E.length:=(List.getElem?_eq_some_iff.1 hi).1;rw[hi];simp[F]
 . simp[e]
theorem Dm{t:TypeId}{m x:AV}{F:Nat->Row->TypeId×TypeId->Option Nat->Prop}(hS:St S w H){u v:Value}(X:rep S w m u)(hv:rep S w x v)(h:Er P H t m x F):
   ∃j r I J g E,F j r I J/\H j=some r/\u=.map (some g)/\S.loc j=.map (some g)/\w.heap[g]?=some (.map (List.toArray E) E.length)/\lK S w 0 r.es E/\r.sz=2/\P.underlying t=some (.map I.1 I.2)/\(∀e (w':World),(Instr.checkKey e 10000 I.1 v).run P w'=.ok () w') /\
     ((J=none/\∀w':World,(Instr.findKey I.1 v E).run P w'=.ok none w') \/
     ∃i m cs,J=some i/\E[i]?=some m/\r.es[i]?=some cs/\(∀w':World,(Instr.findKey I.1 v E).run P w'=.ok (some (i,m.val)) w')/\m.key=v/\(∀n,Instr.sameBits (n+1) m.key v=true)/\m.born=i/\bG S w cs [m.key,m.val]):=by
 unfold Er at h;split at h
 . rename_i j
   split at h
   . rename_i r I Y ht
     split at h
     . rename_i J Z
       obtain⟨hp,h⟩:=h;simp only[rep]at X;obtain⟨_,rfl,g0,O⟩:=X;have V:=(hS.rows j r Y).mp O;obtain⟨g,E,h1,h2,h3,h4,h5,h6⟩:=Qj ht hp Z V hv;obtain⟨_,_,_,_,_,U⟩:=V;exact⟨j,r,I,J,g,E,h,Y,h1,h1,h2,h3,U,h4,h5,h6⟩
     . exact h.elim
   . exact h.elim
 . exact h.elim
theorem wD{j:Nat}{r:Row}{q:Option Row}(E:H j=some r):fS S.N H (aI H j q):=fun k _ h0=>by
 rw[aF _ _ _ _ (fun e=>by subst e;rw[E]at h0;cases h0)];exact h0
theorem Fh{t:TypeId}{m x v:Operand}(hS:St S w H)(Y:FR S w ρ a)(hG:Grow S0 w0 S w)(hN:fS S0.N H0 H)(hd:a.defers=[])(hn:a.tmps.size=n)(ho:o.op=.mapUpdate t m x v)(O:∀x∈o.op.operands,opB a.tmps.size x=true)
   (hw:Region.wanted o (yielded ops a.tmps)=true) (hK:∀V H' a' w',K V H'->Rel n S0 w0 H0 V H' a' w'->K' a' w')
   (h:bZ none (aev ρ m) fun m=>bZ none (aev ρ x) fun x=>bZ none (aev ρ v) fun v=>mE P o t m x v ρ H K):zV P ops o a w K' Q':=by
 rw[ho]at O;simp only[Op.operands]at O;obtain⟨m',h,hm⟩:=aW (S:=S) (w:=w) h;obtain⟨x',h,hx⟩:=aW (S:=S) (w:=w) h;obtain⟨v',h,hv⟩:=aW (S:=S) (w:=w) h;have em:=hm trivial _ (cV Y (O m (by simp)));have ex:=hx trivial _ (cV Y (O x (by simp)));have ab:=hv trivial _ (cV Y (O v (by simp)));unfold mE at h;obtain⟨j,r,kt,oi,g,I,hk,hj,e0,hl,hg,F,Z,U,X,J⟩:=Dm hS em ex h;have aa:g<w.heap.size:=(Array.getElem?_eq_some_iff.1 hg).1;rcases J with⟨rfl,ac⟩|⟨i,me,cs,rfl,q1,q2,q3,q4,q5,q6,q7⟩
 . have E:=Ch (m:=⟨a.eval x,a.eval v,I.length⟩) (cs:=[x',v']) 0 _ _ F (by simp[AP _ _ _ F]) (by simp only[bG];exact⟨_,_,rfl,ex,_,_,rfl,ab,rfl⟩)
   have q:=hS.setMap hj hl E Z aa;refine gD hw (wZ (w':={ w with heap:=w.heap.setIfInBounds g (.map (I++[(⟨a.eval x,a.eval v,I.length⟩:MapEntry)]).toArray (I++[(⟨a.eval x,a.eval v,I.length⟩:MapEntry)]).length) }) ?_ (hK _ _ _ _ hk (Rel.step hS Y hG hN hd hn q.1 q.2 (wD hj) (by simp only[rep]))));simp[execOp,ho,e0,Instr.mapUpdate,run_underlying U,MapKept.run_getObj_map hg,X,ac,MapKept.run_setObj_map _ hg]
 . have E:=CF (m:=⟨a.eval x,a.eval v,i⟩) (cs:=[x',v']) 0 _ _ i F (by simp) (by simp only[bG];exact⟨_,_,rfl,ex,_,_,rfl,ab,rfl⟩)
   have q:=hS.setMap hj hl E Z aa;refine gD hw (wZ (w':={ w with heap:=w.heap.setIfInBounds g (.map (I.set i ⟨a.eval x,a.eval v,i⟩).toArray (I.set i (⟨a.eval x,a.eval v,i⟩:MapEntry)).length) }) ?_ (hK _ _ _ _ hk (Rel.step hS Y hG hN hd hn q.1 q.2 (wD hj) (by simp only[rep]))));have ad:=F5 (P:=P) q5;simp[execOp,ho,e0,Instr.mapUpdate,run_underlying U,MapKept.run_getObj_map hg,X,q3,q1,ad,MapKept.run_setObj_map _ hg,vC q1,q6]
theorem Lj{t:TypeId}{m x v:Operand}(hS:St S w H)(Y:FR S w ρ a)(hG:Grow S0 w0 S w)(hN:fS S0.N H0 H)(hd:a.defers=[])(hn:a.tmps.size=n)(ho:o.op=.insert t m x v)(O:∀x∈o.op.operands,opB a.tmps.size x=true)
   (hw:Region.wanted o (yielded ops a.tmps)=true) (hK:∀V H' a' w',K V H'->Rel n S0 w0 H0 V H' a' w'->K' a' w')
   (h:bZ none (aev ρ m) fun m=>bZ none (aev ρ x) fun x=>bZ none (aev ρ v) fun v=>mE P o t m x v ρ H K):zV P ops o a w K' Q':=by
 rw[ho]at O;simp only[Op.operands]at O;obtain⟨m',h,hm⟩:=aW (S:=S) (w:=w) h;obtain⟨x',h,hx⟩:=aW (S:=S) (w:=w) h;obtain⟨v',h,hv⟩:=aW (S:=S) (w:=w) h;have em:=hm trivial _ (cV Y (O m (by simp)));have ex:=hx trivial _ (cV Y (O x (by simp)));have ab:=hv trivial _ (cV Y (O v (by simp)));unfold mE at h;obtain⟨j,r,kt,oi,g,I,hk,hj,e0,hl,hg,F,Z,U,X,J⟩:=Dm hS em ex h;have aa:g<w.heap.size:=(Array.getElem?_eq_some_iff.1 hg).1;rcases J with⟨rfl,ac⟩|⟨i,me,cs,rfl,q1,q2,q3,q4,q5,q6,q7⟩
 . have E:=Ch (m:=⟨a.eval x,a.eval v,I.length⟩) (cs:=[x',v']) 0 _ _ F (by simp[AP _ _ _ F]) (by simp only[bG];exact⟨_,_,rfl,ex,_,_,rfl,ab,rfl⟩)
   have q:=hS.setMap hj hl E Z aa;refine gD hw (wZ (w':={ w with heap:=w.heap.setIfInBounds g (.map (I++[(⟨a.eval x,a.eval v,I.length⟩:MapEntry)]).toArray (I++[(⟨a.eval x,a.eval v,I.length⟩:MapEntry)]).length) }) ?_ (hK _ _ _ _ hk (Rel.step hS Y hG hN hd hn q.1 q.2 (wD hj) (by simp only[rep]))));simp[execOp,ho,e0,Instr.mapUpdate,run_underlying U,MapKept.run_getObj_map hg,X,ac,MapKept.run_setObj_map _ hg]
 . have E:=CF (m:=⟨a.eval x,a.eval v,i⟩) (cs:=[x',v']) 0 _ _ i F (by simp) (by simp only[bG];exact⟨_,_,rfl,ex,_,_,rfl,ab,rfl⟩)
   have q:=hS.setMap hj hl E Z aa;refine gD hw (wZ (w':={ w with heap:=w.heap.setIfInBounds g (.map (I.set i ⟨a.eval x,a.eval v,i⟩).toArray (I.set i (⟨a.eval x,a.eval v,i⟩:MapEntry)).length) }) ?_ (hK _ _ _ _ hk (Rel.step hS Y hG hN hd hn q.1 q.2 (wD hj) (by simp only[rep]))));have ad:=F5 (P:=P) q5;simp[execOp,ho,e0,Instr.mapUpdate,run_underlying U,MapKept.run_getObj_map hg,X,q3,q1,ad,MapKept.run_setObj_map _ hg,vC q1,q6]
theorem FH{t:TypeId}{m x:Operand}(hS:St S w H)(hF:FR S w ρ a)(hG:Grow S0 w0 S w)(hN:fS S0.N H0 H)(hd:a.defers=[])(hn:a.tmps.size=n)(ho:o.op=.mapEntry t m x)(hb:∀x∈o.op.operands,opB a.tmps.size x=true)
   (hw:Region.wanted o (yielded ops a.tmps)=true) (hK:∀aa H' a' w',K aa H'->Rel n S0 w0 H0 aa H' a' w'->K' a' w')
   (h:bZ none (aev ρ m) fun m=>bZ none (aev ρ x) fun x=>Bf P o t m x ρ H K):zV P ops o a w K' Q':=by
 rw[ho]at hb;simp only[Op.operands]at hb;obtain⟨m',h,hm⟩:=aW (S:=S) (w:=w) h;obtain⟨x',h,hx⟩:=aW (S:=S) (w:=w) h;have em:=hm trivial _ (cV hF (hb m (by simp)));have ex:=hx trivial _ (cV hF (hb x (by simp)));unfold Bf at h;obtain⟨j,r,kt,oi,g,E,X,hj,e0,hl,Y,F,ae,Z,ab,U⟩:=Dm hS em ex h;have I:g<w.heap.size:=(Array.getElem?_eq_some_iff.1 Y).1;rcases U with⟨rfl,ad⟩|⟨i,me,cs,rfl,q1,q2,q3,q4,q5,q6,q7⟩
 . simp only at X
   split at X
   . rename_i z hz
     obtain⟨zv,ag,ac⟩:=JR hz;have J:=Ch (m:=⟨a.eval x,zv,E.length⟩) (cs:=[x',z]) 0 _ _ F (by simp[AP _ _ _ F]) (by simp only[bG];exact⟨_,_,rfl,ex,_,_,rfl,ac S w,rfl⟩);have q:=hS.setMap hj hl J ae I;refine gD hw (fA (v:=.tuple #[zv,goInt E.length]) (w':={ w with heap:=w.heap.setIfInBounds g (.map (E++[(⟨a.eval x,zv,E.length⟩:MapEntry)]).toArray (E++[(⟨a.eval x,zv,E.length⟩:MapEntry)]).length) }) ?_ (hK _ _ _ _ X (Rel.step hS hF hG hN hd hn q.1 q.2 (wD hj) ?_)))
     . simp[execOp,ho,e0,Instr.mapEntry,run_underlying Z,MapKept.run_getObj_map Y,ab,ad,ag,MapKept.run_setObj_map _ Y]
     . simp only[rep,bG]
       exact⟨[zv,goInt E.length],by simp,_,_,rfl,ac _ _,_,_,rfl,by rw[<-AP _ _ _ F];rfl,rfl⟩
   . exact X.elim
 . simp only at X
   have V:E.set i ⟨a.eval x,me.val,i⟩=E:=by
     have e0:(⟨a.eval x,me.val,i⟩:MapEntry)=me:=by rw[<-q4,<-q6]
     rw[e0];apply List.ext_getElem?;intro k;rw[List.getElem?_set];by_cases e:i=k
     . subst e
       have I:i<E.length:=(List.getElem?_eq_some_iff.1 q1).1;rw[q1];simp[I]
     . simp[e]
   have hm:({ w with heap:=w.heap.setIfInBounds g (.map E.toArray E.length) }:World)=w:=by
     have hh:w.heap.setIfInBounds g (.map E.toArray E.length)=w.heap:=by
       apply Array.ext_getElem?;intro k;rw[Array.getElem?_setIfInBounds];by_cases e:g=k
       . subst e;rw[Y];simp[I]
       . simp[e]
     rw[hh]
   obtain⟨xk,xv,rfl,r1,r2⟩:=Io q7;have e1:(r.es.getD i []).getD 1 .any=xv:=by simp[List.getD,q2]
   rw[e1]at X;refine gD hw (fA (v:=.tuple #[me.val,goInt i]) (w':=w) ?_ (hK _ _ _ _ X (Rel.step hS hF hG hN hd hn hS (Grow.refl S w) (fS.refl _ _) ?_)))
   . have af:=F5 (P:=P) q5
     have O:=MapKept.run_setObj_map (P:=P) (.map (List.toArray E) E.length) Y;rw[hm]at O;simp[execOp,ho,e0,Instr.mapEntry,run_underlying Z,MapKept.run_getObj_map Y,ab,q3,q1,af,vC q1,V,O,q6]
   . simp only[rep,bG]
     exact⟨[me.val,goInt i],by simp,_,_,rfl,r2,_,_,rfl,rfl,rfl⟩
theorem I5:∀(i:Nat) (es:List (List AV)) (ms:List MapEntry) (j:Nat) {m:MapEntry},lK S w i es ms->ms[j]?=some m->ms.findIdx? (fun e=>(e.born:Int) == ((i+j:Nat):Int))=some j
 | _,[],ms,j,m,h,hj=>by simp only[lK]at h;subst h;simp at hj
 | i,c::r,ms,0,m,h,hj=>by
   simp only[lK]at h;obtain⟨F,t,rfl,h1,_,I⟩:=h;simp[List.findIdx?_cons,h1]
 | i,c::r,ms,j+1,m,h,hj=>by
   simp only[lK]at h;obtain⟨F,t,rfl,h1,_,I⟩:=h;have ih:=I5 (i+1) r t j I (by simpa using hj);have E:((F.born:Int) == ((i+(j+1):Nat):Int))=false:=by simp[h1];omega
   rw[List.findIdx?_cons,E,show i+(j+1)=i+1+j by omega,ih];rfl
theorem DZ{t:TypeId}{m s v:Operand}(Z:St S w H)(X:FR S w ρ a)(hG:Grow S0 w0 S w)(hN:fS S0.N H0 H)(hd:a.defers=[])(hn:a.tmps.size=n)(ho:o.op=.entryStore t m s v)(J:∀x∈o.op.operands,opB a.tmps.size x=true)
   (hw:Region.wanted o (yielded ops a.tmps)=true) (hK:∀O H' a' w',K O H'->Rel n S0 w0 H0 O H' a' w'->K' a' w')
   (h:bZ none (aev ρ m) fun m=>bZ none (aev ρ s) fun s=>bZ none (aev ρ v) fun v=>uS o m s v ρ H K):zV P ops o a w K' Q':=by
 rw[ho]at J;simp only[Op.operands]at J;obtain⟨m',h,hm⟩:=aW (S:=S) (w:=w) h;obtain⟨s',h,hs⟩:=aW (S:=S) (w:=w) h;obtain⟨v',h,hv⟩:=aW (S:=S) (w:=w) h;have em:=hm trivial _ (cV X (J m (by simp)));have es:=hs trivial _ (cV X (J s (by simp)));have ab:=hv trivial _ (cV X (J v (by simp)));unfold uS at h;split at h
 . rename_i j kd i _ _
   split at h
   . rename_i r hj
     obtain⟨⟨i0,i1⟩,h⟩:=h;simp only[rep]at em es;obtain⟨_,e0,g0,U⟩:=em;rw[e0]at U;obtain⟨g,ms,hl,hg,E,Y⟩:=(Z.rows j r hj).mp U;have aa:g<w.heap.size:=(Array.getElem?_eq_some_iff.1 hg).1;obtain⟨I,g1,g2,g3⟩:=PZ 0 _ _ i.toNat E (by omega);obtain⟨xk,xv,e1,r1,r2⟩:=Io g3;have e2:(r.es.getD i.toNat []).getD 0 .any=xk:=by rw[e1];rfl
     rw[e2]at h;have F:=CF (m:=⟨I.key,a.eval v,I.born⟩) (cs:=[xk,v']) 0 _ _ i.toNat E (by simpa using g2) (by simp only[bG];exact⟨_,_,rfl,r1,_,_,rfl,ab,rfl⟩);have q:=Z.setMap hj hl F Y aa;have V:=I5 0 _ _ i.toNat E g1;rw[Nat.zero_add,Int.toNat_of_nonneg i0]at V;refine gD hw (wZ (w':={ w with heap:=w.heap.setIfInBounds g (.map (ms.set i.toNat ⟨I.key,a.eval v,I.born⟩).toArray (ms.set i.toNat (⟨I.key,a.eval v,I.born⟩:MapEntry)).length) }) ?_ (hK _ _ _ _ h (Rel.step Z X hG hN hd hn q.1 q.2 (wD hj) (by simp only[rep]))));rw[hl]at e0;simp[execOp,ho,e0,es,asInt,asIntOf,Instr.entryStore,MapKept.run_getObj_map hg,V,MapKept.run_setObj_map _ hg,vC g1]
   . exact h.elim
 . exact h.elim
theorem IS{t:TypeId}(F:St S w H)(X:FR S w ρ a)(O:Grow S0 w0 S w)(U:fS S0.N H0 H)(Y:a.defers=[])(J:a.tmps.size=n)(Z:o.op=.makeMap t none)
   (V:Region.wanted o (yielded ops a.tmps)=true) (hK:∀E H' I w',K E H'->Rel n S0 w0 H0 E H' I w'->K' I w')
   (h:qB H ⟨0,2,[]⟩ fun k H'=>K (upd ρ o.dst (.om k)) H'):zV P ops o a w K' Q':=by
 have q:=F.newMap (w':=w.alloc (.map #[] 0)) rfl rfl rfl rfl;refine gD V (fA (v:=.map (some w.heap.size)) (w':=w.alloc (.map #[] 0)) ?_ (hK _ _ _ _ (h S.N F.fresh) (Rel.step F X O U Y J q.1 q.2 (oZ F) ?_)))
 . simp[execOp,Z,Instr.makeMap]
 . simp only[rep,Sg.addRow,if_true]
   exact⟨Nat.lt_succ_self _,trivial,_,rfl⟩
theorem xD{ag:Bool}(ak:∀o∈ops,kJ n o=true)(F:St S w H)(U:FR S w ρ a)(V:Grow S0 w0 S w)(hN:fS S0.N H0 H)(Z:a.defers=[])(O:a.tmps.size=n)(hb:kJ n o=true)
   (Y:∀aj H' a' w',K aj H'->Rel n S0 w0 H0 aj H' a' w'->K' a' w') (h:aop P (bF P) (dP P) mt ag ops o ρ H K):zV P ops o a w K' Q':=by
 obtain⟨J,_⟩:=yI hb;unfold aop at h;obtain⟨G,h2,E⟩:=zB ak U O h;clear h;have h:=h2;clear h2;split at h
 . -- assign
   rename_i x I
   unfold Dh at h;split at h
   . rename_i ai
     obtain⟨_,rfl,_,hx⟩:=ai;have hx:x=.const (.slice none 0 0):=by
       unfold uD at hx;split at hx
       . rfl
       . simp at hx
     subst hx;split at h
     . rename_i e sz af he
       obtain⟨i,z,hu,hi,al,_,X,_⟩:=jD he;have hw:=dN E rfl;have q:=F.nilRow e X;refine gD hw (fA (v:=.slice none 0 0) (w':=w) (by simp[execOp,I,Act.eval]) (Y _ _ _ _ (h S.N F.fresh) (Rel.step F U V hN Z O q.1 q.2 (oZ F) ?_)));simp only[rep,Sg.addRow,if_true];exact⟨Nat.lt_succ_self _,trivial,_,_,_,rfl⟩
     . exact h.elim
   . exact sR F U V hN Z O J E Y (by rw[I];exact h)
 . -- alloc
   rename_i t I
   split at h
   . rename_i z hz
     obtain⟨rfl,_,h⟩:=h;have hw:=dN E rfl;split at h
     . split at h
       . rename_i nl ap
         exact Nx F U V hN Z O I hz hw Y ap h
       . exact h.elim
     obtain⟨v,i,hi,rfl,h1,au,ab⟩:=WZ hz (.tuple #[]) w;obtain⟨S',q1,q2,q3⟩:=D2 (t:=t) (cs:=v.cells.toList.map rI) (l:=v.cells.toList) F (by simp;omega) (mS _) h1;refine gD hw (fA (v:=.pointer (some ⟨w.heap.size,0,none⟩)) (w':=w.alloc (.cells v.cells t)) (by simp[execOp,I,ab]) (Y _ _ _ _ (h S.N F.fresh) (Rel.step F U V hN Z O (by simpa using q1) (by simpa using q2) (oZ F) (by simpa using q3))))
   . exact h.elim
 . -- box
   rename_i t x I
   obtain⟨rfl,_,h⟩:=h;have hw:=dN E rfl;obtain⟨y,h2,hy⟩:=aW (S:=S) (w:=w) h;obtain⟨cs,h3,ae⟩:=yB (S:=S) (w:=w) h2;have hx:opB a.tmps.size x=true:=O▸J x (by simp[I,Op.operands]);obtain⟨l,e1,e2,e3⟩:=ae _ (hy trivial _ (cV U hx));have ab:(execOp a.eval o).run P w=.ok (.value (.pointer (some ⟨w.heap.size,0,none⟩))) (w.alloc (.cells l.toArray t)):=by
     simp[execOp,I,ahK,e1]
   unfold akA at h3;split at h3
   . obtain⟨X,h4⟩:=h3
     obtain⟨S',q1,q2,q3⟩:=D2 (t:=t) F X e2 e3;exact gD hw (fA ab (Y _ _ _ _ (h4 S.N F.fresh) (Rel.step F U V hN Z O q1 q2 (oZ F) q3)))
   . have q:=F.newRo (o:=.cells l.toArray t) (w':=w.alloc (.cells l.toArray t)) rfl rfl rfl rfl
     refine gD hw (fA ab (Y _ _ _ _ h3 (Rel.step F U V hN Z O q.1 q.2 (fS.refl _ _) ?_)));simp only[rep];refine⟨w.heap.size,0,by simp,.inr rfl,?_⟩;refine jQ _ l 0 (dW q.2.le (q.2.kept F) _ _ e2) e3 fun j u hj=>?_
     rw[cell_of_row (w.alloc (.cells l.toArray t)) w.heap.size (0+j) l.toArray t (0,0) (heap_alloc_new w _)];simpa using hj
 . -- buildSlice
   rename_i t m aa I
   obtain⟨_,h⟩:=h;obtain⟨ps,h2,am⟩:=pI U aa.toList (fun p hp=>O▸J p.2 (by rw[I];simpa[Op.operands]using⟨p.1,by simpa using hp⟩)) h;unfold oS at h2;split at h2
   . rename_i e sz af he
     obtain⟨⟨p1,p2,p3⟩,h3⟩:=h2;have go:∀(_:gt G),∃xs:List Value,(execOp a.eval o).run P w=.ok (.value (.slice (some ⟨w.heap.size,0,none⟩) m m)) (w.alloc (.cells xs.toArray e))/\bG S w (ps.map (·.2)).flatten xs/\(∀u∈xs,u.oneCell'=true)/\ps.length=m/\xs.length=m*sz:=fun hg=>by
       obtain⟨f1,f2⟩:=am hg;have hl:(aa.map fun(p:Nat×Operand)=>(p.1,a.eval p.2)).toList=aa.toList.map fun p=>(p.1,a.eval p.2):=by simp
       rw[<-hl]at f1 f2;obtain⟨xs,g1,g2,g3,g4,g5⟩:=GQ (w:=w) he p1 p2 f1 f2 p3;refine⟨xs,?_,g2,g3,g4,g5⟩;simp only[execOp,I];exact OQ g1
     obtain⟨av,z,hu,hi,al,_,X,_⟩:=jD he;split at h3
     . rename_i ai
       obtain⟨_,rfl⟩:=ai;have hw:=dN E rfl;obtain⟨xs,g1,g2,g3,g4,g5⟩:=go trivial;have ac:(ps.map (·.2)).length=m:=by simpa using g4
       have q:=F.newRow (e:=e) (sz:=sz) (cap:=m) (es:=ps.map (·.2)) (xs:=xs) (cur:=xs.toArray) X (jC.1 p2) g2 g3 (by omega) (by simp only[maxLen];have:m<=m*sz:=Nat.le_mul_of_pos_right _ X;omega) (by simpa using g5)
         (by rw[ac,List.take_of_length_le (by simp[g5])]) (w':=w.alloc (.cells xs.toArray e)) rfl rfl rfl rfl
       refine gD hw (fA g1 (Y _ _ _ _ (h3 S.N F.fresh) (Rel.step F U V hN Z O q.1 q.2 (oZ F) ?_)));simp only[rep,Sg.addRow,if_true];exact⟨Nat.lt_succ_self _,by rw[ac],_,_,_,rfl⟩
     . refine And.symm ⟨fun hw=>?_,fun hw=>?_⟩
       . have ad:¬gt G:=fun h=>by rw[E.2 h]at hw;simp at hw
         exact Y _ _ _ _ h3 (Rel.step F U V hN Z O F (Grow.refl S w) (fS.refl _ _) (fE ad))
       have ad:=E.1 hw;obtain⟨xs,g1,g2,g3,g4,g5⟩:=go ad;have ac:(ps.map (·.2)).length=m:=by simpa using g4
       have q:=F.newRo (o:=.cells xs.toArray e) (w':=w.alloc (.cells xs.toArray e)) rfl rfl rfl rfl;refine fA g1 (Y _ _ _ _ h3 (Rel.step F U V hN Z O q.1 q.2 (fS.refl _ _) (fW ad ?_)));simp only[rep];refine⟨_,_,_,rfl,ac,Nat.le_refl _,by simp only[maxLen];have:m<=m*sz:=Nat.le_mul_of_pos_right _ X;omega,.inr ⟨w.heap.size,0,sz,rfl,.inr rfl,X,?_⟩⟩;refine rA _ _ (jC.1 p2) (jQ _ xs 0 (dW q.2.le (q.2.kept F) _ _ g2) g3 fun j u hj=>?_);rw[cell_of_row (w.alloc (.cells xs.toArray e)) w.heap.size (0+j) xs.toArray e (0,0) (heap_alloc_new w _)];simpa using hj
   . exact h2.elim
 . -- store
   rename_i t x y I
   obtain⟨rfl,_,h⟩:=h;have hw:=dN E rfl;split at h
   . rename_i ah
     have hy:y=.const (.slice none 0 0):=by
       unfold uD at ah;split at ah
       . rfl
       . simp at ah
     subst hy;exact Fj (K2:=fun _=>True) F U V hN Z O I (fun x hx=>O▸J x hx) hw Y h
   obtain⟨x',h2,ar⟩:=aW (S:=S) (w:=w) h;obtain⟨y',h3,an⟩:=aW (S:=S) (w:=w) h2;obtain⟨cs,h4,ae⟩:=yB (S:=S) (w:=w) h3;have ao:opB a.tmps.size x=true:=O▸J x (by simp[I,Op.operands]);have aq:opB a.tmps.size y=true:=O▸J y (by simp[I,Op.operands]);have ex:=ar trivial _ (cV U ao);obtain⟨l,e1,e2,e3⟩:=ae _ (an trivial _ (cV U aq));exact CS F U V hN Z O I hw Y ex e1 e2 e3 h4
 . rename_i c I;exact M6 F U V hN Z O I J E Y h
 all_goals first
   | exact h.elim
   | (rename_i I; split at h
      . obtain⟨rfl,_,h⟩:=h;exact Mr F U V hN Z O I (fun x hx=>O▸J x hx) (dN E rfl) Y h
      . exact sR F U V hN Z O J E Y (by rw[I];exact h))
   | (rename_i I; split at h
      . obtain⟨rfl,_,h⟩:=h;exact Rb F U V hN Z O I J E Y h
      . exact sR F U V hN Z O J E Y (by rw[I];exact h))
   | (rename_i I; split at h
      . obtain⟨rfl,h⟩:=h
        split at h
        . exact L9 F U V hN Z O I (fun x hx=>O▸J x hx) (dN E rfl) Y h
        . exact Mu F U V hN Z O I (fun x hx=>O▸J x hx) (dN E rfl) Y h
      . exact sR F U V hN Z O J E Y (by rw[I];exact h))
   | (rename_i I;obtain⟨rfl,_,h⟩:=h;exact Fi F U V hN Z O I (fun x hx=>O▸J x hx) (dN E rfl) Y h)
   | (rename_i I;exact sR F U V hN Z O J E Y (by rw[I];exact h))
   | (rename_i I;obtain⟨rfl,_,h⟩:=h;exact IS F U V hN Z O I (dN E rfl) Y h)
   | (rename_i I;obtain⟨rfl,_,h⟩:=h;exact Fh F U V hN Z O I (fun x hx=>O▸J x hx) (dN E rfl) Y h)
   | (rename_i I;obtain⟨rfl,_,h⟩:=h;exact Lj F U V hN Z O I (fun x hx=>O▸J x hx) (dN E rfl) Y h)
   | (rename_i I;obtain⟨rfl,_,h⟩:=h;exact FH F U V hN Z O I (fun x hx=>O▸J x hx) (dN E rfl) Y h)
   | (rename_i I;obtain⟨rfl,_,h⟩:=h;exact DZ F U V hN Z O I (fun x hx=>O▸J x hx) (dN E rfl) Y h)
end
end Go.Aw
end
