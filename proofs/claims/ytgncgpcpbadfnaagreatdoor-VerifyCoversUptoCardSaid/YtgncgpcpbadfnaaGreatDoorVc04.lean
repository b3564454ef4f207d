import Derived.Test.YtgncgpcpbadfnaaGreatDoorVc03
set_option linter.unusedSimpArgs false
set_option linter.unusedVariables false
set_option linter.defProp false
set_option maxRecDepth 100000
section
namespace Go.Aw
open Go.RowKit
section
variable{P:Program}{n:Nat}{S0:Sg}{w0:World}{H0:aH}{mt:Nat->Bool}{ops:Array Oper}{K:Env->aH->Prop}{K':Act->World->Prop}{Q':Exit->Act->World->Prop}{ρ:Env}{H:aH}{a:Act}{w:World}{o:Oper}{S:Sg}
def cY{G:Option Bool}(A:Region.wanted o (yielded ops a.tmps)=true↔gt G)(E:G=none):Region.wanted o (yielded ops a.tmps)=true:=by subst E;exact A.2 trivial
def MD{f:FuncId}(h:aG P f=true):∃fn,P.funcs[f]?=some fn/\(fn.name == "runtime.NumGoroutine")=false/\fn.body.isNone=false:=by
 unfold aG at h;split at h
 . rename_i fn A;simp only[Bool.and_eq_true,bne_iff_ne,ne_eq]at h;refine⟨fn,A,by simpa using h.1,?_⟩;cases E:fn.body <;> simp_all
 . simp at h
def qR{f:FuncId}(h:aG P f=true)(args:Array Value)(w:World):(callFunc f args).run P w=.ok (.enter f args) w:=by
 obtain⟨fn,h1,I,F⟩:=MD h;have A:¬fn.name = "runtime.NumGoroutine" := by simpa using I
 have E:¬fn.body=none:=fun e=>by rw[e]at F;simp at F
 simp[callFunc,h1,A,E]
def eZ(A:Region.wanted o (yielded ops a.tmps)=true)(h:o.wp P a w K' Q'):xW P ops o a w K' Q':=⟨fun _=>h,fun e=>by rw[A]at e;simp at e⟩
def KF:∀(l:List Value),bC S w (l.map .v) l
 | []=>by simp[bC]
 | v::r=>by simp only[List.map_cons,bC];exact⟨v,r,rfl,kG,KF r⟩
def Bg{x:AV}{g:FuncId}{F E:List AV}{u:Value}(h:HT x=some (g,F,E))(I:rep S w x u):
  ∃first A:Array Value,u=.func (.func g) first A/\bC S w F first.toList/\bC S w E A.toList:=by
 unfold HT at h;split at h
 ·rename_i f first A
  simp only[Option.some.injEq,Prod.mk.injEq]at h;obtain⟨rfl,rfl,rfl⟩:=h;simp only[rep]at I;exact⟨first,A,I,KF _,KF _⟩
 ·rename_i f cap;simp only[Option.some.injEq,Prod.mk.injEq]at h;obtain⟨rfl,rfl,rfl⟩:=h;simp only[rep]at I;obtain⟨l,rfl,J⟩:=I;exact⟨#[],l.toArray,rfl,by simp[bC],by simpa using J⟩
 ·simp at h
def nP{c:Call}{f:Operand}(E:c.callee=.value f){g:FuncId}{first A:Array Value}(F:a.eval f=.func (.func g) first A)(ty:TypeId):
  resolve a.eval c ty=pure { target:=.fn (.func g) A,args:=first++c.args.map a.eval }:=by
 unfold resolve;simp only[E];rw[F];rfl
def LE{nl ar:Bool}{G:Option Bool}{c:Call}(E:St S w H)(Z:FR S w ρ a)(hG:Grow S0 w0 S w)(hN:eV S0.N H0 H)(hd:a.defers=[])(hn:a.tmps.size=n)(ho:o.op=.call c)(hb:∀x∈o.op.operands,opB n x=true)
   (af:Region.wanted o (yielded ops a.tmps)=true↔gt G) (hK:∀bd H' a' w',K bd H'->Rel n S0 w0 H0 bd H' a' w'->K' a' w') (h:Cs P (bF P) (dD P) nl ar G o c ρ H K):xW P ops o a w K' Q':=by
 rw[ho]at hb;simp only[Op.operands,Call.operands]at hb;unfold Cs at h;split at h
 . rename_i b hc;obtain⟨ys,h2,aj⟩:=mW Z c.args.toList (fun x hx=>hn▸hb x (by simp[Array.mem_toList_iff.1 hx])) h;clear h;have h:=h2;clear h2;split at h
   . rename_i x t J;obtain⟨z,hz,hl⟩:=F2 (G:=G) (ty:=o.type) E.rows h;refine⟨fun hw=>?_,fun hw=>?_⟩
     . have M:=af.1 hw;have hr:=aj M;simp only[bC]at hr;obtain⟨u,t',e1,e2,rfl⟩:=hr;obtain⟨v,hv,ai⟩:=hl M u e2;have ea:c.args.map a.eval=#[u]:=by apply Array.toList_inj.1;simpa using e1
       have et:c.argTypes=#[t]:=Array.toList_inj.1 (by simpa using J);refine dJ (v:=v) (w':=w) ?_ (hK _ _ _ _ hz (Rel.step E Z hG hN hd hn E (Grow.refl S w) (eV.refl _ _) (eY M hv)));simp[execOp,ho,resolve,hc,invoke,builtin,ea,et,ai w (Agree.refl S H w)]
     . have M:¬gt G:=fun h=>by rw[af.2 h]at hw;simp at hw
       exact hK _ _ _ _ hz (Rel.step E Z hG hN hd hn E (Grow.refl S w) (eV.refl _ _) (dU M))
   . rename_i s x t t' J;split at h
     . rename_i aa;obtain⟨bh,ah,_⟩:=aa;subst ah;subst bh;have hw:=cY af rfl;refine eZ hw ?_;have hr:=aj trivial;simp only[bC]at hr;obtain⟨us,t1,e1,e2,ux,t2,rfl,e3,rfl⟩:=hr;have ea:c.args.map a.eval=#[us,ux]:=Array.toList_inj.1 (by simpa using e1);have et:c.argTypes=#[t,t]:=Array.toList_inj.1 (by simpa using J);unfold qK at h;split at h
       . rename_i k e sz X he;split at h
         . rename_i r hk;have app : ∀ news, sQ S w ux news -> ((r.e = e /\ r.sz = sz /\ cH sz news /\ (r.es.length + news.length) * X <= 140737488355328) /\
               ∀k',H k'=none->K (upd ρ o.dst (.os k')) (aI (aI H k none) k' (some ⟨e,sz,r.es++news⟩)))->o.wp P a w K' Q':=by
             rintro news Y ⟨⟨rfl,rfl,ag,ab⟩,ak⟩;simp only[rep]at e2;obtain⟨bt,rfl,_,_,_,ay⟩:=e2;obtain⟨v',w',q1,q2,q3,q4⟩:=E.append hk ay (ty:=o.type) he Y ag ab;refine dJ (v:=v') (w':=w') ?_ (hK _ _ _ _ (ak S.N E.fresh) (Rel.step E Z hG hN hd hn q3 q4 ?_ ?_))
             . simp[execOp,ho,resolve,hc,invoke,builtin,ea,et,q1]
             . intro j hj h0;rw[aD _ _ _ _ (Nat.ne_of_lt hj)];by_cases e:j=k
               . subst e;exact aB _ _ _
               . rw[aD _ _ _ _ e];exact h0
             . simp only[rep,Sg.addRow,if_true];exact⟨Nat.lt_succ_self _,trivial,q2⟩
           unfold rV at h;split at h
           . exact app _ (Dc e3) h
           . rename_i k2;split at h
             . rename_i r2 U;simp only[rep]at e3;obtain⟨_,rfl,_,_,_,O⟩:=e3;exact app _ (Ds (E.rows k2 r2 U) O) h
             . exact h.elim
           . rename_i k2 a2 b2;split at h
             . rename_i r2 U;exact app _ (zH (E.rows k2 r2 U) e3).1 h
             . exact h.elim
           . exact h.elim
         . exact h.elim
       . rename_i es e sz X he;have app : ∀ news, sQ S w ux news -> ((news ≠ [] /\ cH sz es /\ cH sz news /\ (es.length + news.length) * X <= 140737488355328) /\
             ∀k',H k'=none->K (upd ρ o.dst (.os k')) (aI H k' (some ⟨e,sz,es++news⟩)))->o.wp P a w K' Q':=by
           rintro news Y ⟨⟨au,a6,ag,ab⟩,ak⟩;obtain⟨v',w',q1,q2,q3,q4⟩:=E.appendNew e2 (ty:=o.type) he Y au a6 ag ab;refine dJ (v:=v') (w':=w') ?_ (hK _ _ _ _ (ak S.N E.fresh) (Rel.step E Z hG hN hd hn q3 q4 ?_ ?_))
           . simp[execOp,ho,resolve,hc,invoke,builtin,ea,et,q1]
           . intro j hj h0;rw[aD _ _ _ _ (Nat.ne_of_lt hj)];exact h0
           . simp only[rep,Sg.addRow,if_true];exact⟨Nat.lt_succ_self _,trivial,q2⟩
         unfold rV at h;split at h
         . exact app _ (Dc e3) h
         . rename_i k2;split at h
           . rename_i r2 U;simp only[rep]at e3;obtain⟨_,rfl,_,_,_,O⟩:=e3;exact app _ (Ds (E.rows k2 r2 U) O) h
           . exact h.elim
         . rename_i k2 a2 b2;split at h
           . rename_i r2 U;exact app _ (zH (E.rows k2 r2 U) e3).1 h
           . exact h.elim
         . exact h.elim
       . rename_i k a0 b0 e sz X he;split at h
         . rename_i r hk;have app : ∀ news, sQ S w ux news -> ((r.e = e /\ r.sz = sz /\ news ≠ [] /\ cH sz news /\ b0 = r.es.length /\ (r.es.length + news.length) * X <= 140737488355328) /\
               ∀(k':Nat) (al:List (List AV)),al.length<=a0->H k'=none->K (upd ρ o.dst (.oz k' al.length (al.length+(b0-a0)+news.length))) (aI (aI H k none) k' (some ⟨e,sz,al++(r.es.drop a0++news)⟩)))->o.wp P a w K' Q':=by
             rintro news Y ⟨⟨rfl,rfl,au,ag,hb,ab⟩,ak⟩;obtain⟨v',w',vl,al,q1,q3,q4,q5,q6⟩:=E.appendOz hk e2 (ty:=o.type) he Y au hb ag ab;refine dJ (v:=v') (w':=w') ?_ (hK _ _ _ _ (ak S.N al q6 E.fresh) (Rel.step E Z hG hN hd hn q3 q4 ?_ q5))
             . simp[execOp,ho,resolve,hc,invoke,builtin,ea,et,q1]
             . intro j hj h0;rw[aD _ _ _ _ (Nat.ne_of_lt hj)];by_cases e:j=k
               . subst e;exact aB _ _ _
               . rw[aD _ _ _ _ e];exact h0
           unfold rV at h;split at h
           . exact app _ (Dc e3) h
           . rename_i k2;split at h
             . rename_i r2 U;simp only[rep]at e3;obtain⟨_,rfl,_,_,_,O⟩:=e3;exact app _ (Ds (E.rows k2 r2 U) O) h
             . exact h.elim
           . rename_i k2 a2 b2;split at h
             . rename_i r2 U;exact app _ (zH (E.rows k2 r2 U) e3).1 h
             . exact h.elim
           . exact h.elim
         . exact h.elim
       . rename_i e sz X he;have bk:rep S w (.cl []) us:=by
           have hu:us=.slice none 0 0:=by simp only[rep]at e2;exact e2
           subst hu;simp only[rep];exact⟨none,0,rfl,rfl,Nat.zero_le _,.inl trivial⟩
         have app : ∀ news, sQ S w ux news -> ((news = [] /\ K (upd ρ o.dst (.v (.slice none 0 0))) H) \/ (news ≠ [] /\ cH sz ([] : List (List AV)) /\ cH sz news /\ (([] : List (List AV)).length + news.length) * X <= 140737488355328) /\
             ∀k',H k'=none->K (upd ρ o.dst (.os k')) (aI H k' (some ⟨e,sz,[]++news⟩)))->o.wp P a w K' Q':=by
           rintro news Y (⟨rfl,h0⟩|⟨⟨au,a6,ag,ab⟩,ak⟩)
           . obtain⟨bo,z,az,hi,_⟩:=fB he;obtain⟨ad,c,l,rfl,_⟩:=Y;have hu:us=.slice none 0 0:=by simp only[rep]at e2;exact e2
             subst hu;refine dJ (v:=.slice none 0 0) (w':=w) ?_ (hK _ _ _ _ h0 (Rel.step E Z hG hN hd hn E (Grow.refl S w) (eV.refl _ _) e2));simp[execOp,ho,resolve,hc,invoke,builtin,ea,et,rN (b:=none) (ad:=ad) (c2:=c) (ty:=o.type) az hi (Nat.le_refl 0)]
           obtain⟨v',w',q1,q2,q3,q4⟩:=E.appendNew bk (ty:=o.type) he Y au a6 ag ab;refine dJ (v:=v') (w':=w') ?_ (hK _ _ _ _ (ak S.N E.fresh) (Rel.step E Z hG hN hd hn q3 q4 ?_ ?_))
           . simp[execOp,ho,resolve,hc,invoke,builtin,ea,et,q1]
           . intro j hj h0;rw[aD _ _ _ _ (Nat.ne_of_lt hj)];exact h0
           . simp only[rep,Sg.addRow,if_true];exact⟨Nat.lt_succ_self _,trivial,q2⟩
         unfold rV at h;split at h
         . exact app _ (Dc e3) h
         . rename_i k2;split at h
           . rename_i r2 U;simp only[rep]at e3;obtain⟨_,rfl,_,_,_,O⟩:=e3;exact app _ (Ds (E.rows k2 r2 U) O) h
           . exact h.elim
         . rename_i k2 a2 b2;split at h
           . rename_i r2 U;exact app _ (zH (E.rows k2 r2 U) e3).1 h
           . exact h.elim
         . exact h.elim
       . rename_i es e' he;have app:∀news,sQ S w ux news->(news=[]/\K (upd ρ o.dst (.sl es)) H)->o.wp P a w K' Q':=by rintro news Y ⟨rfl,h0⟩;obtain⟨e,sz,X⟩:=e';obtain⟨bo,z,az,hi,_⟩:=fB he;obtain⟨ad,c,l,rfl,_⟩:=Y;have e4:=e2;simp only[rep]at e2;obtain⟨be,n2,c2,rfl,br,bi,_⟩:=e2;refine dJ (v:=.slice be n2 c2) (w':=w) ?_ (hK _ _ _ _ h0 (Rel.step E Z hG hN hd hn E (Grow.refl S w) (eV.refl _ _) e4));simp[execOp,ho,resolve,hc,invoke,builtin,ea,et,rN (b:=be) (ad:=ad) (c2:=c) (ty:=o.type) az hi bi]
         unfold rV at h;split at h
         . exact app _ (Dc e3) h
         . rename_i k2;split at h
           . rename_i r2 U;simp only[rep]at e3;obtain⟨_,rfl,_,_,_,O⟩:=e3;exact app _ (Ds (E.rows k2 r2 U) O) h
           . exact h.elim
         . rename_i k2 a2 b2;split at h
           . rename_i r2 U;exact app _ (zH (E.rows k2 r2 U) e3).1 h
           . exact h.elim
         . exact h.elim
       . exact h.elim
     . exact h.elim
   . rename_i x y t t' J;split at h
     . rename_i aa;obtain⟨ah,_⟩:=aa;subst ah;have hw:=cY af rfl;refine eZ hw ?_;have hr:=aj trivial;simp only[bC]at hr;obtain⟨us,t1,e1,e2,ux,t2,rfl,e3,rfl⟩:=hr;have ea:c.args.map a.eval=#[us,ux]:=Array.toList_inj.1 (by simpa using e1);have et:c.argTypes=#[t,t']:=Array.toList_inj.1 (by simpa using J);have go : ∀ k a0 n0 r, H k = some r -> a0 + n0 <= r.es.length -> (∃ ad cc, us = .slice ad n0 cc /\ (0 < n0 -> ∃ g n' c', S.loc k = .slice (some ⟨g, 0, none⟩) n' c' /\ ad = some ⟨g, a0 * r.sz, none⟩)) -> ∀ news, sQ S w ux news ->
           (match bT P t with
             | some (_,sz,_)=>(r.sz=sz/\cH sz news)/\K (upd ρ o.dst (.v (.int .i64 (min news.length n0:Nat)))) (aI H k (some { r with es:=r.es.take a0++news.take (min news.length n0)++r.es.drop (a0+min news.length n0) }))
             | none=>False)->o.wp P a w K' Q':=by
         intro k a0 n0 r hk a4 hx news Y ae;split at ae
         . rename_i e sz X he;obtain⟨⟨h1,h2⟩,h3⟩:=ae;obtain⟨w',q1,q2,q3⟩:=E.copy hk (t':=t') (ty:=o.type) he h1 a4 Y h2 hx;refine dJ (v:=goInt (min news.length n0:Nat)) (w':=w') ?_ (hK _ _ _ _ h3 (Rel.step E Z hG hN hd hn q2 q3 ?_ (by simp only[rep];rfl)))
           . simp[execOp,ho,resolve,hc,invoke,builtin,ea,et,q1]
           . intro j hj h0;by_cases e:j=k
             . subst e;rw[hk]at h0;simp at h0
             . rw[aD _ _ _ _ e];exact h0
         . exact ae.elim
       have src:∀F:List (List AV)->Prop,rV H y F->∃news,sQ S w ux news/\F news:=by
         intro F Z;unfold rV at Z;split at Z
         . exact⟨_,Dc e3,Z⟩
         . rename_i k2;split at Z
           . rename_i r2 U;simp only[rep]at e3;obtain⟨_,rfl,_,_,_,O⟩:=e3;exact⟨_,Ds (E.rows k2 r2 U) O,Z⟩
           . exact Z.elim
         . rename_i k2 a2 b2;split at Z
           . rename_i r2 U;exact⟨_,(zH (E.rows k2 r2 U) e3).1,Z⟩
           . exact Z.elim
         . exact Z.elim
       unfold SA Qz at h;split at h
       . rename_i k;split at h
         . rename_i r hk;obtain⟨news,hs,ae⟩:=src _ h;have hR:=E.rows k r hk;simp only[rep]at e2;obtain⟨_,rfl,ad,n,cc,T⟩:=e2;obtain⟨xs,an,_,_⟩:=hR.sl T;have hn:n=r.es.length/\(0<r.es.length->∃g,ad=some ⟨g,0,none⟩):=by
             rcases an.2 with⟨hv,h0⟩|⟨g,cap,cur,hv,_⟩
             . rw[T]at hv;injection hv with _ h2 _;exact⟨by omega,fun h=>by omega⟩
             . rw[T]at hv;injection hv with h1 h2 _;exact⟨h2,fun _=>⟨g,h1⟩⟩
           refine go k 0 r.es.length r hk (by omega) ⟨ad,cc,by rw[T,hn.1],fun hp=>?_⟩ news hs ae;obtain⟨g,rfl⟩:=hn.2 hp;exact⟨g,n,cc,T,by simp⟩
         . exact h.elim
       . rename_i k a0 b0;split at h
         . rename_i r hk;obtain⟨news,hs,ae⟩:=src _ h;have hR:=E.rows k r hk;obtain⟨_,hb,bp⟩:=zH hR e2;simp only[rep]at e2;obtain⟨_,ad,n,c0,a5,cc,T,rfl,bf,a8,av,_,bc,_⟩:=e2;refine go k a0 (b0-a0) r hk (by omega) ⟨a5,cc,rfl,fun hp=>?_⟩ news hs ae;obtain⟨g,rfl,rfl⟩:=av (by omega);exact⟨g,n,c0,T,by rw[hR.sz]⟩
         . exact h.elim
       . exact h.elim
     . exact h.elim
   . rename_i x t J;split at h
     . rename_i aa;obtain⟨ah,_⟩:=aa;subst ah;have hw:=cY af rfl;refine eZ hw ?_;have hr:=aj trivial;simp only[bC]at hr;obtain⟨us,t1,e1,e2,rfl⟩:=hr;have ea:c.args.map a.eval=#[us]:=Array.toList_inj.1 (by simpa using e1);have et:c.argTypes=#[t]:=Array.toList_inj.1 (by simpa using J);have go : ∀ k a0 n0 r, H k = some r -> a0 + n0 <= r.es.length -> (∃ ad cc, us = .slice ad n0 cc /\ (0 < n0 -> ∃ g n' c', S.loc k = .slice (some ⟨g, 0, none⟩) n' c' /\ ad = some ⟨g, a0 * r.sz, none⟩)) ->
           (match bT P t with
             | some (e,sz,_)=>match cV P e with
               | some zs=>r.sz=sz/\K (upd ρ o.dst .any) (aI H k (some { r with es:=r.es.take a0++List.replicate n0 zs++r.es.drop (a0+n0) }))
               | none=>False
             | none=>False)->o.wp P a w K' Q':=by
         intro k a0 n0 r hk a4 hx ae;split at ae
         . rename_i e sz X he;split at ae
           . rename_i zs bn;obtain⟨h1,h3⟩:=ae;obtain⟨w',q1,q2,q3⟩:=E.clear hk (ty:=o.type) he bn h1 a4 hx;refine dJ (v:=.tuple #[]) (w':=w') ?_ (hK _ _ _ _ h3 (Rel.step E Z hG hN hd hn q2 q3 ?_ (by simp only[rep])))
             . simp[execOp,ho,resolve,hc,invoke,builtin,ea,et,q1]
             . intro j hj h0;by_cases e:j=k
               . subst e;rw[hk]at h0;simp at h0
               . rw[aD _ _ _ _ e];exact h0
           . exact ae.elim
         . exact ae.elim
       unfold Pt Qz at h;split at h
       . rename_i k;split at h
         . rename_i r hk;have hR:=E.rows k r hk;simp only[rep]at e2;obtain⟨_,rfl,ad,n,cc,T⟩:=e2;obtain⟨xs,an,_,_⟩:=hR.sl T;have hn:n=r.es.length/\(0<r.es.length->∃g,ad=some ⟨g,0,none⟩):=by
             rcases an.2 with⟨hv,h0⟩|⟨g,cap,cur,hv,_⟩
             . rw[T]at hv;injection hv with _ h2 _;exact⟨by omega,fun h=>by omega⟩
             . rw[T]at hv;injection hv with h1 h2 _;exact⟨h2,fun _=>⟨g,h1⟩⟩
           refine go k 0 r.es.length r hk (by omega) ⟨ad,cc,by rw[T,hn.1],fun hp=>?_⟩ h;obtain⟨g,rfl⟩:=hn.2 hp;exact⟨g,n,cc,T,by simp⟩
         . exact h.elim
       . rename_i k a0 b0;split at h
         . rename_i r hk;have hR:=E.rows k r hk;obtain⟨_,hb,bp⟩:=zH hR e2;simp only[rep]at e2;obtain⟨_,ad,n,c0,a5,cc,T,rfl,bf,a8,av,_,bc,_⟩:=e2;refine go k a0 (b0-a0) r hk (by omega) ⟨a5,cc,rfl,fun hp=>?_⟩ h;obtain⟨g,rfl,rfl⟩:=av (by omega);exact⟨g,n,c0,T,by rw[hR.sz]⟩
         . exact h.elim
       . exact h.elim
     . exact h.elim
   . rename_i x y t t' J;obtain⟨z,hz,hl⟩:=FF (P:=P) (S:=S) (w:=w) (H:=H) (G:=G) (tys:=c.argTypes) (ty:=o.type) h;refine⟨fun hw=>?_,fun hw=>?_⟩
     . have M:=af.1 hw;have hr:=aj M;simp only[bC]at hr;obtain⟨us,t1,e1,e2,ux,t2,rfl,e3,rfl⟩:=hr;obtain⟨v,hv,ai⟩:=hl M us ux e2 e3;have ea:c.args.map a.eval=#[us,ux]:=Array.toList_inj.1 (by simpa using e1);refine dJ (v:=v) (w':=w) ?_ (hK _ _ _ _ hz (Rel.step E Z hG hN hd hn E (Grow.refl S w) (eV.refl _ _) (eY M hv)));simp[execOp,ho,resolve,hc,invoke,builtin,ea,ai w (Agree.refl S H w)]
     . have M:¬gt G:=fun h=>by rw[af.2 h]at hw;simp at hw
       exact hK _ _ _ _ hz (Rel.step E Z hG hN hd hn E (Grow.refl S w) (eV.refl _ _) (dU M))
   . rename_i x y t t' J;obtain⟨z,hz,hl⟩:=He (P:=P) (S:=S) (w:=w) (H:=H) (G:=G) (tys:=c.argTypes) (ty:=o.type) h;refine⟨fun hw=>?_,fun hw=>?_⟩
     . have M:=af.1 hw;have hr:=aj M;simp only[bC]at hr;obtain⟨us,t1,e1,e2,ux,t2,rfl,e3,rfl⟩:=hr;obtain⟨v,hv,ai⟩:=hl M us ux e2 e3;have ea:c.args.map a.eval=#[us,ux]:=Array.toList_inj.1 (by simpa using e1);refine dJ (v:=v) (w':=w) ?_ (hK _ _ _ _ hz (Rel.step E Z hG hN hd hn E (Grow.refl S w) (eV.refl _ _) (eY M hv)));simp[execOp,ho,resolve,hc,invoke,builtin,ea,ai w (Agree.refl S H w)]
     . have M:¬gt G:=fun h=>by rw[af.2 h]at hw;simp at hw
       exact hK _ _ _ _ hz (Rel.step E Z hG hN hd hn E (Grow.refl S w) (eV.refl _ _) (dU M))
   . exact h.elim
 . rename_i f hc;obtain⟨yf,h2,hf⟩:=aU (S:=S) (w:=w) h;clear h;have h:=h2;clear h2;split at h
   . rename_i g a9 ba bb;by_cases bg:nl=true
     . rw[if_pos bg]at h;obtain⟨ah,bq,ax,h⟩:=h;have hw:=af.2 ah;obtain⟨first,A,aw,h2,h3⟩:=Bg bb (hf ah _ (cJ Z (hn▸hb f (by simp[hc]))));have am:bC S w (a9++c.args.toList.map (Ls ρ)++ba) (first++c.args.map a.eval++A).toList:=by simp only[Array.toList_append];refine cR _ _ _ _ (cR _ _ _ _ h2 ?_) h3;have:=D2 Z c.args.toList (fun x hx=>hn▸hb x (by simp[hc,Array.mem_toList_iff.1 hx]));simpa using this
       have ac:(execOp a.eval o).run P w=.ok (.enter g (first++c.args.map a.eval++A)) w:=by simp only[execOp,ho];rw[nP hc aw];simp[invoke,qR ax]
       refine eZ hw ?_;have I:=h S w _ E am;unfold Oper.wp;rw[ac];simp only[Oper.upon,Array.toArray_toList]at I |-;refine I.mono fun e w' ⟨v,r,H',S',he,hr,ao,hv,ap,aq⟩=>?_
       subst he;exact hK _ _ _ _ hr (Rel.step E Z hG hN hd hn ao ap aq hv)
     rw[if_neg bg]at h;obtain⟨ys,h2,aj⟩:=mW Z c.args.toList (fun x hx=>hn▸hb x (by simp[hc,Array.mem_toList_iff.1 hx])) h;clear h;obtain⟨ax,h⟩:=h2;have bm:=fun hg=>Bg bb (hf hg _ (cJ Z (hn▸hb f (by simp[hc]))))
     have J:gt G->∃first A:Array Value,a.eval f=.func (.func g) first A/\bC S w (a9++ys++ba) (first++c.args.map a.eval++A).toList:=fun hg=>by obtain⟨first,A,h1,h2,h3⟩:=bm hg;refine⟨first,A,h1,?_⟩;simp only[Array.toList_append];refine cR _ _ _ _ (cR _ _ _ _ h2 ?_) h3;simpa using aj hg
     split at h
     . rename_i aa;obtain⟨ah,_⟩:=aa;subst ah;have hw:=cY af rfl;obtain⟨first,A,aw,am⟩:=J trivial;have ac:(execOp a.eval o).run P w=.ok (.enter g (first++c.args.map a.eval++A)) w:=by simp only[execOp,ho];rw[nP hc aw];simp[invoke,qR ax]
       refine eZ hw ?_;have I:=h S w _ E am;unfold Oper.wp;rw[ac];simp only[Oper.upon,Array.toArray_toList]at I |-;refine I.mono fun e w' ⟨v,r,H',S',he,hr,ao,hv,ap,aq⟩=>?_
       subst he;exact hK _ _ _ _ hr (Rel.step E Z hG hN hd hn ao ap aq hv)
     . obtain⟨r,hq,hk⟩:=h;refine⟨fun hw=>?_,fun hw=>?_⟩
       . have M:=af.1 hw;obtain⟨first,A,aw,am⟩:=J M;have ac:(execOp a.eval o).run P w=.ok (.enter g (first++c.args.map a.eval++A)) w:=by simp only[execOp,ho];rw[nP hc aw];simp[invoke,qR ax]
         rcases hq M with hq|⟨x,rfl,bj⟩
         . obtain⟨v,a7⟩:=hq.val;obtain⟨hv,I⟩:=hq.calls a7 E am;rw[LY (by rw[a7];rfl)]at hk;unfold Oper.wp;rw[ac];simp only[Oper.upon,Array.toArray_toList]at I |-;refine I.mono fun e w' ⟨he,p1,p2,p3,p4,p5⟩=>?_
           subst he;exact hK _ _ _ _ hk (Rel.step E Z hG hN hd hn (E.after p4 p5) (E.grow p1 p2 p3 p4 p5) (eV.refl _ _) (eY M (hv S w')))
         . cases ar with
           | true=>exact hk.elim
           | false=>
             have I:=(PC.use (H:=H) bj (K:=fun y H'=>y=x/\H'=H) ⟨rfl,rfl⟩) S w _ E am;unfold Oper.wp;rw[ac];simp only[Oper.upon,Array.toArray_toList]at I |-;refine I.mono fun e w' ⟨v,r,H',S',he,⟨hr,hH⟩,ao,hv,ap,aq⟩=>?_
             subst he hr hH;exact hK _ _ _ _ hk (Rel.step E Z hG hN hd hn ao ap aq (eY M hv))
       . have M:¬gt G:=fun h=>by rw[af.2 h]at hw;simp at hw
         obtain⟨z,hk⟩:=Nd hk;exact hK _ _ _ _ hk (Rel.step E Z hG hN hd hn E (Grow.refl S w) (eV.refl _ _) (dU M))
   . exact h.elim
 . exact h.elim
end
end Go.Aw
end
section
namespace Go.Aw
open Go.RowKit
section
variable{P:Program}{n:Nat}{S0:Sg}{w0:World}{H0:aH}{mt:Nat->Bool}{ops:Array Oper}{K:Env->aH->Prop}{K':Act->World->Prop}{Q':Exit->Act->World->Prop}{ρ:Env}{H:aH}{a:Act}{w:World}{o:Oper}{S:Sg}
def vN{w':World}(h:(execOp a.eval o).run P w=.ok .skip w')(A:K' (a.put o.dst undef) w'):o.wp P a w K' Q':=by unfold Oper.wp;rw[h];exact A
def L9{s:Sem Value}{v:Value}{w w':World}(h:s.run P w=.ok v w'):(do pure (Next.value (<-s)):Sem Next).run P w=.ok (.value v) w':=by simp[h]
def Ks{t:TypeId}{l:Option Nat}(J:ldT P t=some l){v:Value}{vs:List Value}(O:v.cells=List.toArray vs)(E:vs.length=l.getD 1){g p:Nat}{w w':World}(A:l=none->∃i,P.info? t=some i/\i.size=1)
  (F:(storeCells ⟨g,p,none⟩ vs).run P w=.ok () w'):(Instr.storeAt t (.pointer (some ⟨g,p,none⟩)) v).run P w=.ok () w':=by
 have M:(sizeOf t).run P w=.ok vs.length w:=by
  cases l with
  | none=>obtain⟨i,I,h1⟩:=A rfl;simp[sizeOf,typeInfo,I,h1,E]
  | some m=>rw[tZ J,E];rfl
 simp[Instr.storeAt,Instr.sureAddr,storeVar,M,O,F]
def zQ(z:Array Value)(F:0<z.size):∀m,(madeCells z (m*z.size)).toList=(List.replicate m z.toList).flatten
 | 0=>by simp[madeCells]
 | m+1=>by
  have ih:=zQ z F m;rw[show List.replicate (m+1) z.toList=List.replicate m z.toList++[z.toList]from List.replicate_succ',List.flatten_append,<-ih];simp only[madeCells,Array.toList_map,Array.toList_range,Nat.add_mul,Nat.one_mul,List.flatten_cons,List.flatten_nil,List.append_nil];rw[List.range_add,List.map_append]
  congr 1
  apply List.ext_getElem
  ·simp
  ·intro i h1 E;have A:i<z.size:=by simpa using E
   simp[Nat.add_mod,Nat.mod_eq_of_lt A,A]
def Gd:∀(cs:List AV) (l:List Value) (j:Nat) {x:AV},bC S w cs l->(∀u,l[j]?=some u->rep S w x u)->bC S w (cs.set j x) l
 | [],_,_,_,h,_=>h
 | y::r,l,0,x,h,hx=>by simp only[bC,List.set_cons_zero]at h |-;obtain⟨u,t,rfl,h1,A⟩:=h;exact⟨u,t,rfl,hx u (by simp),A⟩
 | y::r,l,j+1,x,h,hx=>by simp only[bC,List.set_cons_succ]at h |-;obtain⟨u,t,rfl,h1,A⟩:=h;exact⟨u,t,rfl,h1,Gd r t j A fun u E=>hx u (by simpa using E)⟩
def pF:∀(nl:List (Nat×TypeId×Nat)) (z:List AV) (S:Sg) (H:aH) (vs:List Value) {K:List AV->aH->Prop},(∀x∈nl,vs[x.1]?=some (.slice none 0 0)/\0<x.2.2)->St S w H->bC S w z vs->jC nl z H K ->
  ∃E S' H',K E H'/\St S' w H'/\Grow S w S' w/\eV S.N H H'/\bC S' w E vs/\E.length=z.length
 | [],z,S,H,vs,K,_,hS,hr,h=>⟨z,S,H,h,hS,Grow.refl S w,eV.refl _ _,hr,rfl⟩
 | x::r,z,S,H,vs,K,hn,hS,hr,h=>by obtain⟨h0,A⟩:=hn x (by simp);have q:=hS.nilRow x.2.1 A;have I:=Gd z vs x.1 (x:=.os S.N) (dK q.2.le (q.2.kept hS) _ _ hr) (fun u F=>by rw[h0]at F;injection F with F;subst F;simp only[rep,Sg.addRow,if_true];exact⟨Nat.lt_succ_self _,trivial,_,_,_,rfl⟩);obtain⟨E,S',H',h1,X,U,J,M,T⟩:=pF r _ _ _ vs (fun y O=>hn y (by simp[O])) q.1 I (h S.N hS.fresh);exact⟨E,S',H',h1,X,q.2.trans U,(nK hS).trans J q.2.le.N,M,by simpa using T⟩
def Bl{P:Program}{t:TypeId}{nl:List (Nat×TypeId×Nat)}(h:qI P t=some nl){i:TypeInfo}{v:Value}(E:P.info? t=some i)(I:i.zero=some v):∀x∈nl,v.cells.toList[x.1]?=some (.slice none 0 0)/\0<x.2.2:=by
 unfold qI at h;rw[E]at h;simp only[I]at h;split at h
 ·rename_i A;injection h with h;subst h;intro x F;have:=List.all_eq_true.1 A x F;simp only[Bool.and_eq_true,decide_eq_true_eq]at this;refine⟨?_,this.2⟩;have h1:=this.1;unfold WW at h1;split at h1
  ·rename_i e;exact e
  ·simp at h1
 ·simp at h
def Mr{t:TypeId}{z:List AV}(Z:St S w H)(hF:FR S w ρ a)(Y:Grow S0 w0 S w)(hN:eV S0.N H0 H)(hd:a.defers=[])(hn:a.tmps.size=n)(ho:o.op=.alloc t)(hz:cV P t=some z)
  (hw:Region.wanted o (yielded ops a.tmps)=true) (hK:∀F H' a' w',K F H'->Rel n S0 w0 H0 F H' a' w'->K' a' w') {nl:List (Nat×TypeId×Nat)} (X:qI P t=some nl)
  (h:jC nl z H fun z H=>oA H ⟨t,z.length,[z]⟩ fun k H'=>K (upd ρ o.dst (.op k 0 0)) H'):xW P ops o a w K' Q':=by
 obtain⟨i,v,hi,I,rfl,aa,ab,h1⟩:=mT hz;have J:(Instr.alloc t true (.tuple #[])).run P w=.ok (.pointer (some ⟨w.heap.size,0,none⟩)) (w.alloc (.cells v.cells t)):=by simp[Instr.alloc,zeroValue,typeInfo,hi,I,newVar,newRow]
 have U:∀x∈nl,v.cells.toList[x.1]?=some (.slice none 0 0)/\0<x.2.2:=Bl X hi I;obtain⟨z',S',H',q0,A,E,M,T,O⟩:=pF nl _ S H v.cells.toList U Z (lS _) h;obtain⟨S2,q1,q2,q3⟩:=Di (t:=t) (cs:=z') (l:=v.cells.toList) A (by rw[O];simp;omega) T h1;refine eZ hw (dJ (v:=.pointer (some ⟨w.heap.size,0,none⟩)) (w':=w.alloc (.cells v.cells t)) (by simp[execOp,ho,J]) (hK _ _ _ _ (q0 S'.N A.fresh) (Rel.step A (hF.keep E.le (E.kept Z)) (Y.trans E) (hN.trans M Y.le.N) hd hn (by simpa using q1) (by simpa using q2) (nK A) (by simpa using q3))))
def D7{t:TypeId}{x y:Operand}{x':AV}{cs:List AV}{l:List Value}(T:St S w H)(hF:FR S w ρ a)(hG:Grow S0 w0 S w)(hN:eV S0.N H0 H)(hd:a.defers=[])(hn:a.tmps.size=n)(ho:o.op=.store t x y)
  (hw:Region.wanted o (yielded ops a.tmps)=true) (hK:∀I H' a' w',K I H'->Rel n S0 w0 H0 I H' a' w'->K' a' w') (ex:rep S w x' (a.eval x)) (e1:(a.eval y).cells=l.toArray) (Z:bC S w cs l) (e3:∀u∈l,u.oneCell'=true)
  (F:yA P o t x' cs ρ H K):xW P ops o a w K' Q':=by
 unfold yA at F;split at F
 ·rename_i k i f;split at F
  ·rename_i r ld Y U;obtain⟨⟨c1,c2,c3,c4⟩,h5⟩:=F;simp only[rep]at ex;obtain⟨_,g,m,c,E,ep⟩:=ex;obtain⟨g',n',c',w',A,M,q1,q2⟩:=T.store Y c1 c3 E Z e3;rw[E]at A;injection A with J i2 i3;injection J with J;injection J with J;subst J;rw[<-(T.rows k r Y).sz]at ep;have O:=Ks (P:=P) U e1 (by rw[fS _ _ Z,c2]) (by intro X;subst X;exact c4 rfl) (M P);refine eZ hw (vN (w':=w') ?_ (hK _ _ _ _ h5 (Rel.step T hF hG hN hd hn q1 q2 ?_ (by simp only[rep]))))
   ·simp[execOp,ho,ep,O]
   ·intro j _ h0;rw[aD _ _ _ _ (fun e=>by subst e;rw[Y]at h0;simp at h0)];exact h0
  ·exact F.elim
 ·exact F.elim
def SJ:∀(x:List AV) (l:List Value) (j:Nat) (v:Value),bC S w x l->x[j]?=some (.v v)->l[j]?=some v
 | [],_,_,_,_,h=>by simp at h
 | a::r,l,0,v,h,hx=>by
  simp only[bC]at h;obtain⟨u,t,rfl,h1,A⟩:=h;have e:a=.v v:=by simpa using hx
  subst e;simp only[rep]at h1;simp[h1]
 | a::r,l,j+1,v,h,hx=>by simp only[bC]at h;obtain⟨u,t,rfl,h1,A⟩:=h;simpa using SJ r t j v A (by simpa using hx)
def Ce{t:TypeId}{x y:Operand}{x':AV}{cs:List AV}{l:List Value}(J:St S w H)(hF:FR S w ρ a)(T:Grow S0 w0 S w)(Y:eV S0.N H0 H)(hd:a.defers=[])(hn:a.tmps.size=n)(ho:o.op=.store t x y)
  (hw:Region.wanted o (yielded ops a.tmps)=true) (hK:∀I H' a' w',K I H'->Rel n S0 w0 H0 I H' a' w'->K' a' w') (ex:rep S w x' (a.eval x)) (Z:(a.eval y).cells=l.toArray) (X:bC S w cs l) (e3:∀u∈l,u.oneCell'=true)
  (E:sR P o t x' cs ρ H K):xW P ops o a w K' Q':=by
 rcases E with E|⟨_,nl,F,E⟩
 ·exact D7 J hF T Y hd hn ho hw hK ex Z X e3 E
 ·obtain⟨z',S',H',q0,O,A,M,U,aa⟩:=pF nl _ S H l (fun x hx=>⟨SJ _ _ _ _ X (F x hx).1,(F x hx).2⟩) J X E;exact D7 O (hF.keep A.le (A.kept J)) (T.trans A) (Y.trans M T.le.N) hd hn ho hw hK (lG A.le (A.kept J) _ _ ex) Z U e3 q0
def Ir{w:World}:∀(nl:List (Nat×TypeId×Nat)) (z:List AV) (vs:List Value),(∀x∈nl,vs[x.1]?=some (.slice none 0 0))->bC S w z vs->bC S w (IU nl z) vs
 | [],z,vs,_,h=>h
 | x :: r, z, vs, hn, h => Ir r _ vs (fun y E => hn y (by simp [E])) (Gd z vs x.1 h fun u A => by rw[hn x (by simp)]at A;injection A with A;simp only[rep];exact A.symm)
def D6{o:Oper}{w1:World}{t:TypeId}{A:Array (Nat×Operand)}(hF:FR S w1 ρ a)(hb:∀x∈o.op.operands,opB a.tmps.size x=true)(X:o.op=.build t A)
  (h:Au P o t A.toList ρ H K):∃z,K (upd ρ o.dst z) H/\∃v,rep S w1 z v/\∀w,(execOp a.eval o).run P w=.ok (.value v) w:=by
 unfold Au at h;obtain⟨ps,h,M⟩:=nX hF A.toList (fun p hp=>hb p.2 (by rw[X];simpa[Op.operands]using⟨p.1,by simpa using hp⟩)) h;split at h
 ·rename_i z pl nl hz F J;obtain⟨Y,e2⟩:=M trivial;obtain⟨i,v,U,E,rfl,Z,aa,h1⟩:=mT hz;split at h
  ·rename_i cs I;obtain⟨O,T,f2,f3⟩:=tT (S:=S) (w:=w1) U E h1 (Ir nl _ _ (fun x hx=>(Bl J U E x hx).1) (lS _)) F I Y (fun j i c hj=>e2 j i c hj);refine⟨_,h,.agg O,?_,fun w=>?_⟩
   ·simp only[rep];exact⟨O.toList,by simp,f2,f3⟩
   ·have:(A.map fun(p:Nat×Operand)=>(p.1,a.eval p.2)).toList=A.toList.map fun p=>(p.1,a.eval p.2):=by simp
    rw[<-this]at T;simp only[execOp,X];exact Af (run_build w t _ O T)
  ·exact h.elim
 ·exact h.elim
def KK{t:TypeId}{A:Array (Nat×Operand)}(F:St S w H)(I:FR S w ρ a)(M:Grow S0 w0 S w)(O:eV S0.N H0 H)(U:a.defers=[])(hn:a.tmps.size=n)(Z:o.op=.build t A)(Y:∀x∈o.op.operands,opB a.tmps.size x=true)
  (X:Region.wanted o (yielded ops a.tmps)=true) (T:∀E H' J w',K E H'->Rel n S0 w0 H0 E H' J w'->K' J w') (h:Au P o t A.toList ρ H K):xW P ops o a w K' Q':=by
 obtain⟨z,hz,v,hv,hq⟩:=D6 (S:=S) (w1:=w) I Y Z h;exact eZ X (dJ (v:=v) (w':=w) (hq w) (T _ _ _ _ hz (Rel.step F I M O U hn F (Grow.refl S w) (eV.refl _ _) hv)))
def Ku{t:TypeId}{A:Array (Nat×Operand)}(U:St S w H)(hF:FR S w ρ a)(hG:Grow S0 w0 S w)(hN:eV S0.N H0 H)(hd:a.defers=[])(hn:a.tmps.size=n)(ho:o.op=.build t A)(hb:∀x∈o.op.operands,opB a.tmps.size x=true)
  (hw:Region.wanted o (yielded ops a.tmps)=true) (hK:∀I H' a' w',K I H'->Rel n S0 w0 H0 I H' a' w'->K' a' w') (h:BR P o t A.toList ρ H K):xW P ops o a w K' Q':=by
 unfold BR at h;obtain⟨ps,h,aa⟩:=nX hF A.toList (fun p hp=>hb p.2 (by rw[ho];simpa[Op.operands]using⟨p.1,by simpa using hp⟩)) h;split at h
 ·rename_i z pl nl hz M Z;obtain⟨e1,e2⟩:=aa trivial;obtain⟨i,v,hi,J,rfl,ac,ae,h1⟩:=mT hz;obtain⟨z',S',H',Y,F,E,O,T,ab⟩:=pF nl _ S H v.cells.toList (Bl Z hi J) U (lS _) h;split at Y
  ·rename_i cs X;obtain⟨A',f1,f2,f3⟩:=tT (S:=S') (w:=w) (z:=z') hi J h1 T M X e1 (fun j i c hj=>by obtain⟨u,l,g1,g2,g3,g4⟩:=e2 j i c hj;exact⟨u,l,g1,g2,dK E.le (E.kept U) _ _ g3,g4⟩);refine eZ hw (dJ (v:=.agg A') (w':=w) ?_ (hK _ _ _ _ Y (Rel.step F (hF.keep E.le (E.kept U)) (hG.trans E) (hN.trans O hG.le.N) hd hn F (Grow.refl S' w) (eV.refl _ _) ?_)))
   ·have:(A.map fun(p:Nat×Operand)=>(p.1,a.eval p.2)).toList=A.toList.map fun p=>(p.1,a.eval p.2):=by simp
    rw[<-this]at f1;simp only[execOp,ho];exact Af (run_build w t _ A' f1)
   ·simp only[rep];exact⟨A'.toList,by simp,f2,f3⟩
  ·exact Y.elim
 ·exact h.elim
def EO{t:TypeId}{x:Operand}{K2:AV->Prop}(A:St S w H)(X:FR S w ρ a)(U:Grow S0 w0 S w)(hN:eV S0.N H0 H)(hd:a.defers=[])(hn:a.tmps.size=n)(Z:o.op=.store t x (.const (.slice none 0 0)))(hb:∀x∈o.op.operands,opB a.tmps.size x=true)
   (hw:Region.wanted o (yielded ops a.tmps)=true) (hK:∀E H' Y w',K E H'->Rel n S0 w0 H0 E H' Y w'->K' Y w')
   (h : bR none (aev ρ x) fun y => match bT P t with
       | some (e,sz,_)=>oA H ⟨e,sz,[]⟩ fun k H=>sR P o t y [.os k] ρ H K
       | none=>False):xW P ops o a w K' Q':=by
 obtain⟨x',O,T⟩:=aU (S:=S) (w:=w) h;have I:opB a.tmps.size x=true:=hb x (by simp[Z,Op.operands]);have ex:=T trivial _ (cJ X I);split at O
 . rename_i e sz J he;obtain⟨i,z,hu,hi,aa,_,F,_⟩:=fB he;have q:=A.nilRow e F;have h3:=O S.N A.fresh;have M:=nK A (r:=some ⟨e,sz,[]⟩);refine Ce q.1 (X.keep q.2.le (q.2.kept A)) (U.trans q.2) (hN.trans M U.le.N) hd hn Z hw hK (lG q.2.le (q.2.kept A) _ _ ex) (l:=[.slice none 0 0]) (by simp[Act.eval,Value.cells]) ?_ (by simp[Value.oneCell']) h3;simp only[bC,rep,Sg.addRow,if_true];exact⟨_,_,rfl,⟨Nat.lt_succ_self _,rfl,_,_,_,rfl⟩,rfl⟩
 . exact O.elim
def KL{x:Operand}(I:St S w H)(hF:FR S w ρ a)(hG:Grow S0 w0 S w)(hN:eV S0.N H0 H)(hd:a.defers=[])(hn:a.tmps.size=n)(ho:o.op=.move x)(hb:∀x∈o.op.operands,opB a.tmps.size x=true)
  (hw:Region.wanted o (yielded ops a.tmps)=true) (hK:∀T H' a' w',K T H'->Rel n S0 w0 H0 T H' a' w'->K' a' w') (h:Al x ρ o.dst H K):xW P ops o a w K' Q':=by
 unfold Al at h;split at h
 ·rename_i t;split at h
  ·rename_i j hj;split at h
   ·rename_i r hr;have ac:=hb (.tmp t) (by simp[ho,Op.operands]);have hv:rep S w (ρ t) (a.eval (.tmp t)):=cJ (x:=.tmp t) hF ac;rw[hj]at hv
    let Hf:aH:=fun k=>if k=j then H k else none
    let Hr:aH:=fun k=>if k=j then none else H k
    have U:∀k r',Hf k=some r'->k=j/\H k=some r':=fun k r' A=>by
     by_cases e:k=j
     ·exact⟨e,by simpa[Hf,e]using A⟩
     ·simp[Hf,e]at A
    have F:∀k r',Hr k=some r'->k≠j/\H k=some r':=fun k r' A=>by
     by_cases e:k=j
     ·simp[Hr,e]at A
     ·exact⟨e,by simpa[Hr,e]using A⟩
    have Z:St S w Hf:=I.drop fun k r' A=>(U k r' A).2
    have M:rep (S.froze Hf) w (.sl r.es) (a.eval (.tmp t)):=Conv.rep Z (Conv.row j r r.es (by simp[Hf,hr]) (ConvE.refl _)) hv;have J:St (S.froze Hf) w Hr:=by
     refine⟨?_,?_,fun k r' A=>(I.rows k r' (F k r' A).2).keep (S.le_froze Hf) (fN.refl S w) (fun _ _=>rfl),?_,fun k k' r1 r2 A Y aa g E X=>I.disj k k' r1 r2 (F k r1 A).2 (F k' r2 Y).2 aa g E X,I.tabs.keep (S.le_froze Hf) (fN.refl S w)⟩
     ·rintro g (E|E)
      ·exact .inl (I.ro_fz g E)
      ·exact .inr E
     ·rintro g (E|⟨k,r',A,E⟩)
      ·exact I.fz_lt g E
      ·exact(I.rows k r' (U k r' A).2).block_lt E
     ·rintro k r' A g E (h1|⟨i,r2,hi,h2⟩)
      ·exact I.free k r' (F k r' A).2 g E h1
      ·exact I.disj k i r' r2 (F k r' A).2 (U i r2 hi).2 (fun e=>(F k r' A).1 (e.trans (U i r2 hi).1)) g E h2
    have E:Grow S w (S.froze Hf) w:=by
     refine⟨S.le_froze Hf,fun k A=>.inl A,rfl,rfl,rfl,Nat.le_refl _,fun _ _=>rfl,?_⟩;rintro g (E|⟨k,r',A,E⟩)
     ·exact .inl E
     ·exact .inr (I.free k r' (U k r' A).2 g E)
    have ab:FR (S.froze Hf) w (upd ρ (some t) (.sl r.es)) a:=fun t' O=>by
     by_cases e:t'=t
     ·subst e;have h1:=M;simp only[upd,if_true];simpa[Act.eval,Array.getD,O]using h1
     ·simp only[upd,if_neg e];exact(hF.keep (S.le_froze Hf) (fN.refl S w)) t' O
    have A:=h Hr (by simp[Hr]) (fun k A=>by simp[Hr,A]);refine eZ hw (dJ (v:=a.eval (.tmp t)) (w':=w) ?_ (hK _ _ _ _ A (Rel.step J ab (hG.trans E) (hN.trans (fun k _ h0=>by
     by_cases e:k=j
     ·simp[Hr,e]
     ·simp[Hr,e,h0]) hG.le.N) hd hn J (Grow.refl _ _) (eV.refl _ _) M)))
    simp[execOp,ho]
   ·exact h.elim
  ·exact h.elim
 ·exact h.elim
def GL{l:List Nat}:∀{xs A:List AV},Jt l H xs A->ConvL (fun k=>if k∈l then H k else none) xs A
 | [],[],_=>.nil
 | x::xs,y::A,h=>by
  simp only[Jt]at h;obtain⟨h1,I⟩:=h;refine .cons _ _ _ _ ?_ (GL I);rcases h1 with rfl|⟨j,r,F,rfl,E,rfl⟩
  ·exact .refl _
  ·exact .row j r r.es (by rw[if_pos F];exact E) (ConvE.refl _)
 | [],_::_,h=>by simp[Jt]at h
 | _::_,[],h=>by simp[Jt]at h
def YC{x y:AV}{d:Option Nat}{l:List Nat}{Y:Act}{w':World}(hR:Rel n S0 w0 H0 (upd ρ d x) H Y w')(hc:Conv (fun k=>if k∈l then H k else none) x y):Rel n S0 w0 H0 (upd ρ d y) (fun k=>if k∈l then none else H k) Y w':=by
 obtain⟨S,I,hF,hG,hN,hd,hn⟩:=hR
 let Hf:aH:=fun k=>if k∈l then H k else none
 let Hr:aH:=fun k=>if k∈l then none else H k
 have M:∀k r',Hf k=some r'->k∈l/\H k=some r':=fun k r' A=>by
  by_cases e:k∈l
  ·exact⟨e,by simpa[Hf,e]using A⟩
  ·simp[Hf,e]at A
 have F:∀k r',Hr k=some r'->¬k∈l/\H k=some r':=fun k r' A=>by
  by_cases e:k∈l
  ·simp[Hr,e]at A
  ·exact⟨e,by simpa[Hr,e]using A⟩
 have X:St S w' Hf:=I.drop fun k r' A=>(M k r' A).2
 have O:St (S.froze Hf) w' Hr:=by
  refine⟨?_,?_,fun k r' A=>(I.rows k r' (F k r' A).2).keep (S.le_froze Hf) (fN.refl S w') (fun _ _=>rfl),?_,fun k k' r1 r2 A U Z g E T=>I.disj k k' r1 r2 (F k r1 A).2 (F k' r2 U).2 Z g E T,I.tabs.keep (S.le_froze Hf) (fN.refl S w')⟩
  ·rintro g (E|E)
   ·exact .inl (I.ro_fz g E)
   ·exact .inr E
  ·rintro g (E|⟨k,r',A,E⟩)
   ·exact I.fz_lt g E
   ·exact(I.rows k r' (M k r' A).2).block_lt E
  ·rintro k r' A g E (h1|⟨i,r2,hi,h2⟩)
   ·exact I.free k r' (F k r' A).2 g E h1
   ·exact I.disj k i r' r2 (F k r' A).2 (M i r2 hi).2 (fun e=>(F k r' A).1 (e▸(M i r2 hi).1)) g E h2
 have E:Grow S w' (S.froze Hf) w':=by
  refine⟨S.le_froze Hf,fun k A=>.inl A,rfl,rfl,rfl,Nat.le_refl _,fun _ _=>rfl,?_⟩;rintro g (E|⟨k,r',A,E⟩)
  ·exact .inl E
  ·exact .inr (I.free k r' (M k r' A).2 g E)
 have aa:FR (S.froze Hf) w' (upd ρ d y) Y:=fun t' J=>by
  have h1:=hF t' J;cases d with
  | none=>exact hF.keep (S.le_froze Hf) (fN.refl S w') t' J
  | some d=>
   by_cases e:t'=d
   ·subst e;simp only[upd,if_true]at h1 |-;exact Conv.rep X hc h1
   ·simp only[upd,if_neg e]at h1 |-;exact lG (S.le_froze Hf) (fN.refl S w') _ _ h1
 exact⟨S.froze Hf,O,aa,hG.trans E,hN.trans (fun k _ h0=>by
  by_cases e:k∈l
  ·simp[e]
  ·simp[e,h0]) hG.le.N,hd,hn⟩
def RV{G:Option Bool}{l:Option Nat}{y:AV}{F K2:AV->Prop}(E:∀z,F z->K2 z)(h:nG G H l y F):nG G H l y K2:=by
 unfold nG at h |-;cases y with
 | rp cs off=>cases l <;> exact⟨h.1,E _ h.2⟩
 | op k i f=>
  simp only at h |-;cases A:H k with
  | none=>rw[A]at h;exact h.elim
  | some r=>rw[A]at h;cases l <;> exact⟨h.1,E _ h.2⟩
 | _=>exact h.elim
def VA{G:Option Bool}{x:AV}{A K2:AV->Prop}(E:∀z,A z->K2 z)(h:bR G x A):bR G x K2:=by
 unfold bR at h |-;split at h
 ·exact⟨h.1,E _ h.2⟩
 ·exact E _ h
def EQ{G:Option Bool}{t:TypeId}{x:Operand}{E K2:AV->Prop}(I:∀z,E z->K2 z)(h:gP P G ρ H (.load t x) E):gP P G ρ H (.load t x) K2:=by
 simp only[gP]at h |-;cases A:ldT P t with
 | none=>rw[A]at h;exact h.elim
 | some l=>rw[A]at h;exact VA (fun y F=>RV I F) h
def Ql{t:TypeId}{x:Operand}(U:St S w H)(X:FR S w ρ a)(M:Grow S0 w0 S w)(O:eV S0.N H0 H)(Y:a.defers=[])(hn:a.tmps.size=n)(ho:o.op=.load t x)(Z:∀x∈o.op.operands,opB n x=true)
  (I:Region.wanted o (yielded ops a.tmps)=true↔gt none) (T:∀A H' F w',K A H'->Rel n S0 w0 H0 A H' F w'->K' F w') (h:gP P none ρ H (.load t x) fun x=>JC x ρ o.dst H K):xW P ops o a w K' Q':=by
 refine rI (K:=fun A H'=>∃z,A=upd ρ o.dst z/\H'=H/\JC z ρ o.dst H K) U X M O Y hn Z I ?_ (by rw[ho];exact EQ (fun z E=>⟨z,rfl,rfl,E⟩) h);rintro A H' F w' ⟨z,rfl,rfl,E⟩ hR;unfold JC at E;split at E
 ·obtain⟨l,ys,J,hk⟩:=E;exact T _ _ _ _ (hk (fun k=>if k∈l then none else H' k) (fun k e=>if_pos e) (fun k e=>if_neg e)) (YC hR (.agg _ _ (GL J)))
 ·exact E.elim
def EI{t:TypeId}{l c:Operand}(Z:St S w H)(hF:FR S w ρ a)(hG:Grow S0 w0 S w)(hN:eV S0.N H0 H)(hd:a.defers=[])(hn:a.tmps.size=n)(ho:o.op=.makeSlice t l c)(hb:∀x∈o.op.operands,opB a.tmps.size x=true)
  (hw:Region.wanted o (yielded ops a.tmps)=true) (hK:∀X H' a' w',K X H'->Rel n S0 w0 H0 X H' a' w'->K' a' w')
  (h:bR none (aev ρ l) fun l=>bR none (aev ρ c) fun c=>sA P o t l c ρ H K):xW P ops o a w K' Q':=by
 rw[ho]at hb;simp only[Op.operands]at hb;obtain⟨l',h2,hl⟩:=aU (S:=S) (w:=w) h;obtain⟨c',J,hc⟩:=aU (S:=S) (w:=w) h2;have el:=hl trivial _ (cJ hF (hb l (by simp)));have ec:=hc trivial _ (cJ hF (hb c (by simp)));unfold sA at J;split at J
 ·rename_i kl x kc y;simp only[rep]at el ec;split at J
  ·rename_i e sz A he;split at J
   ·rename_i z hz;obtain⟨⟨⟨p1,p2⟩,p3⟩,h4⟩:=J;obtain⟨i,v,hi,af,rfl,ac,aj,h1⟩:=mT hz;obtain⟨i',z',aa,F,I,T,Y,ab,ai,ah⟩:=fB he;rw[hi]at F;injection F with F;subst F;have E:v.cells.size=sz:=by rw[ac,I]
    have ag:y<=(A:Int)*y:=by have:(1:Int)*y<=(A:Int)*y:=Int.mul_le_mul_of_nonneg_right (by omega) (by omega);omega
    have M:=run_make (P:=P) w t e i v aa hi af kl kc x y p1 p2 (by rw[T];omega) (by omega);have hm:(madeCells v.cells (y.toNat*sz)).toList=(List.replicate y.toNat v.cells.toList).flatten:=by rw[<-E];exact zQ _ (by omega) _
    have O:(madeCells v.cells (y.toNat*sz)).toList.take (x.toNat*sz)=(List.replicate x.toNat v.cells.toList).flatten:=by
     rw[hm,<-E];have:y.toNat=x.toNat+(y.toNat-x.toNat):=by omega
     rw[this,<-List.replicate_append_replicate,List.flatten_append,List.take_append_of_le_length (by simp[List.length_flatten]),List.take_of_length_le (by simp[List.length_flatten])]
    have U:∀m,bC S w (List.replicate m (v.cells.toList.map pQ)).flatten (List.replicate m v.cells.toList).flatten:=by
     intro m;induction m with
     | zero=>simp[bC]
     | succ m ih=>simp only[List.replicate_succ,List.flatten_cons];exact cR _ _ _ _ (lS _) ih
    rw[I]at M;have q:=Z.newRow (e:=e) (sz:=sz) (cap:=y.toNat) (es:=List.replicate x.toNat (v.cells.toList.map pQ)) (xs:=(List.replicate x.toNat v.cells.toList).flatten) (cur:=madeCells v.cells (y.toNat*sz)) Y
     (fun cs ae=>by rw[List.eq_of_mem_replicate ae];simp[E]) (U _) (fun u hu=>by obtain⟨l,hl,hu⟩:=List.mem_flatten.1 hu;rw[List.eq_of_mem_replicate hl]at hu;exact h1 u hu) (by rw[List.length_replicate];omega) (by simp only[maxLen];omega) (size_madeCells _ _) (by rw[List.length_replicate];exact O) (w':=w.alloc (.cells (madeCells v.cells (y.toNat*sz)) e)) rfl rfl rfl rfl
    refine eZ hw (dJ (v:=.slice (some ⟨w.heap.size,0,none⟩) x.toNat y.toNat) (w':=w.alloc (.cells (madeCells v.cells (y.toNat*sz)) e)) ?_ (hK _ _ _ _ (h4 S.N Z.fresh) (Rel.step Z hF hG hN hd hn q.1 q.2 (nK Z) ?_)))
    ·simp only[execOp,ho,el,ec];exact L9 M
    ·simp only[rep,Sg.addRow,if_true,List.length_replicate];exact⟨Nat.lt_succ_self _,trivial,_,_,_,rfl⟩
   ·exact J.elim
  ·exact J.elim
 ·exact J.elim
def F7{A new:Value}(h:∀n,Instr.sameBits (n+1) A new=true)(w:World):(Instr.keyThatStays A new).run P w=.ok new w:=by have:=h 9999;simp[Instr.keyThatStays,this]
def tI{ms:List MapEntry}{i:Nat}{m:MapEntry}(E:ms[i]?=some m)(f:MapEntry->MapEntry):ms.modify i f=ms.set i (f m):=by
 apply List.ext_getElem?;intro j;rw[List.getElem?_modify,List.getElem?_set];by_cases e:i=j
 ·subst e;have A:i<ms.length:=(List.getElem?_eq_some_iff.1 E).1;rw[E];simp[A]
 ·simp[e]
def DA{t:TypeId}{m x:AV}{F:Nat->Row->TypeId×TypeId->Option Nat->Prop}(Y:St S w H){u v:Value}(T:rep S w m u)(hv:rep S w x v)(h:DR P H t m x F):
  ∃j r A E g ms,F j r A E/\H j=some r/\u=.map (some g)/\S.loc j=.map (some g)/\w.heap[g]?=some (.map (List.toArray ms) ms.length)/\kJ S w 0 r.es ms/\r.sz=2/\P.underlying t=some (.map A.1 A.2)/\(∀e (w':World),(Instr.checkKey e 10000 A.1 v).run P w'=.ok () w') /\
   ((E=none/\∀w':World,(Instr.findKey A.1 v ms).run P w'=.ok none w') \/
   ∃i m cs,E=some i/\ms[i]?=some m/\r.es[i]?=some cs/\(∀w':World,(Instr.findKey A.1 v ms).run P w'=.ok (some (i,m.val)) w')/\m.key=v/\(∀n,Instr.sameBits (n+1) m.key v=true)/\m.born=i/\bC S w cs [m.key,m.val]):=by
 unfold DR at h;split at h
 ·rename_i j;split at h
  ·rename_i r A O X;split at h
   ·rename_i E hf;obtain⟨hp,h⟩:=h;simp only[rep]at T;obtain⟨_,rfl,g0,I⟩:=T;have M:=(Y.rows j r O).mp I;obtain⟨g,ms,h1,h2,h3,U,h5,Z⟩:=OL X hp hf M hv;obtain⟨_,_,_,_,_,J⟩:=M;exact⟨j,r,A,E,g,ms,h,O,h1,h1,h2,h3,J,U,h5,Z⟩
   ·exact h.elim
  ·exact h.elim
 ·exact h.elim
def vM{j:Nat}{r:Row}{q:Option Row}(A:H j=some r):eV S.N H (aI H j q):=fun k _ h0=>by rw[aD _ _ _ _ (fun e=>by subst e;rw[A]at h0;cases h0)];exact h0
def EK{t:TypeId}{m x v:Operand}(M:St S w H)(O:FR S w ρ a)(hG:Grow S0 w0 S w)(hN:eV S0.N H0 H)(hd:a.defers=[])(hn:a.tmps.size=n)(ho:o.op=.mapUpdate t m x v)(Z:∀x∈o.op.operands,opB a.tmps.size x=true)
  (hw:Region.wanted o (yielded ops a.tmps)=true) (hK:∀U H' a' w',K U H'->Rel n S0 w0 H0 U H' a' w'->K' a' w')
  (h:bR none (aev ρ m) fun m=>bR none (aev ρ x) fun x=>bR none (aev ρ v) fun v=>lF P o t m x v ρ H K):xW P ops o a w K' Q':=by
 rw[ho]at Z;simp only[Op.operands]at Z;obtain⟨m',h,hm⟩:=aU (S:=S) (w:=w) h;obtain⟨x',h,hx⟩:=aU (S:=S) (w:=w) h;obtain⟨v',h,hv⟩:=aU (S:=S) (w:=w) h;have em:=hm trivial _ (cJ O (Z m (by simp)));have ex:=hx trivial _ (cJ O (Z x (by simp)));have T:=hv trivial _ (cJ O (Z v (by simp)));unfold lF at h;obtain⟨j,r,kt,oi,g,ms,hk,hj,e0,hl,X,E,J,I,aa,F⟩:=DA M em ex h;have Y:g<w.heap.size:=(Array.getElem?_eq_some_iff.1 X).1;rcases F with⟨rfl,ab⟩|⟨i,me,cs,rfl,q1,q2,q3,q4,q5,q6,q7⟩
 ·have A:=BP (m:=⟨a.eval x,a.eval v,ms.length⟩) (cs:=[x',v']) 0 _ _ E (by simp[zF _ _ _ E]) (by simp only[bC];exact⟨_,_,rfl,ex,_,_,rfl,T,rfl⟩);have q:=M.setMap hj hl A J Y;refine eZ hw (vN (w':={ w with heap:=w.heap.setIfInBounds g (.map (ms++[(⟨a.eval x,a.eval v,ms.length⟩:MapEntry)]).toArray (ms++[(⟨a.eval x,a.eval v,ms.length⟩:MapEntry)]).length) }) ?_ (hK _ _ _ _ hk (Rel.step M O hG hN hd hn q.1 q.2 (vM hj) (by simp only[rep]))));simp[execOp,ho,e0,Instr.mapUpdate,run_underlying I,MapKept.run_getObj_map X,aa,ab,MapKept.run_setObj_map _ X]
 ·have A:=Cg (m:=⟨a.eval x,a.eval v,i⟩) (cs:=[x',v']) 0 _ _ i E (by simp) (by simp only[bC];exact⟨_,_,rfl,ex,_,_,rfl,T,rfl⟩);have q:=M.setMap hj hl A J Y;refine eZ hw (vN (w':={ w with heap:=w.heap.setIfInBounds g (.map (ms.set i ⟨a.eval x,a.eval v,i⟩).toArray (ms.set i (⟨a.eval x,a.eval v,i⟩:MapEntry)).length) }) ?_ (hK _ _ _ _ hk (Rel.step M O hG hN hd hn q.1 q.2 (vM hj) (by simp only[rep]))));have ac:=F7 (P:=P) q5;simp[execOp,ho,e0,Instr.mapUpdate,run_underlying I,MapKept.run_getObj_map X,aa,q3,q1,ac,MapKept.run_setObj_map _ X,tI q1,q6]
def Lo{t:TypeId}{m x v:Operand}(M:St S w H)(O:FR S w ρ a)(hG:Grow S0 w0 S w)(hN:eV S0.N H0 H)(hd:a.defers=[])(hn:a.tmps.size=n)(ho:o.op=.insert t m x v)(Z:∀x∈o.op.operands,opB a.tmps.size x=true)
  (hw:Region.wanted o (yielded ops a.tmps)=true) (hK:∀U H' a' w',K U H'->Rel n S0 w0 H0 U H' a' w'->K' a' w')
  (h:bR none (aev ρ m) fun m=>bR none (aev ρ x) fun x=>bR none (aev ρ v) fun v=>lF P o t m x v ρ H K):xW P ops o a w K' Q':=by
 rw[ho]at Z;simp only[Op.operands]at Z;obtain⟨m',h,hm⟩:=aU (S:=S) (w:=w) h;obtain⟨x',h,hx⟩:=aU (S:=S) (w:=w) h;obtain⟨v',h,hv⟩:=aU (S:=S) (w:=w) h;have em:=hm trivial _ (cJ O (Z m (by simp)));have ex:=hx trivial _ (cJ O (Z x (by simp)));have T:=hv trivial _ (cJ O (Z v (by simp)));unfold lF at h;obtain⟨j,r,kt,oi,g,ms,hk,hj,e0,hl,X,E,J,I,aa,F⟩:=DA M em ex h;have Y:g<w.heap.size:=(Array.getElem?_eq_some_iff.1 X).1;rcases F with⟨rfl,ab⟩|⟨i,me,cs,rfl,q1,q2,q3,q4,q5,q6,q7⟩
 ·have A:=BP (m:=⟨a.eval x,a.eval v,ms.length⟩) (cs:=[x',v']) 0 _ _ E (by simp[zF _ _ _ E]) (by simp only[bC];exact⟨_,_,rfl,ex,_,_,rfl,T,rfl⟩);have q:=M.setMap hj hl A J Y;refine eZ hw (vN (w':={ w with heap:=w.heap.setIfInBounds g (.map (ms++[(⟨a.eval x,a.eval v,ms.length⟩:MapEntry)]).toArray (ms++[(⟨a.eval x,a.eval v,ms.length⟩:MapEntry)]).length) }) ?_ (hK _ _ _ _ hk (Rel.step M O hG hN hd hn q.1 q.2 (vM hj) (by simp only[rep]))));simp[execOp,ho,e0,Instr.mapUpdate,run_underlying I,MapKept.run_getObj_map X,aa,ab,MapKept.run_setObj_map _ X]
 ·have A:=Cg (m:=⟨a.eval x,a.eval v,i⟩) (cs:=[x',v']) 0 _ _ i E (by simp) (by simp only[bC];exact⟨_,_,rfl,ex,_,_,rfl,T,rfl⟩);have q:=M.setMap hj hl A J Y;refine eZ hw (vN (w':={ w with heap:=w.heap.setIfInBounds g (.map (ms.set i ⟨a.eval x,a.eval v,i⟩).toArray (ms.set i (⟨a.eval x,a.eval v,i⟩:MapEntry)).length) }) ?_ (hK _ _ _ _ hk (Rel.step M O hG hN hd hn q.1 q.2 (vM hj) (by simp only[rep]))));have ac:=F7 (P:=P) q5;simp[execOp,ho,e0,Instr.mapUpdate,run_underlying I,MapKept.run_getObj_map X,aa,q3,q1,ac,MapKept.run_setObj_map _ X,tI q1,q6]
def FG{t:TypeId}{m x:Operand}(X:St S w H)(hF:FR S w ρ a)(hG:Grow S0 w0 S w)(hN:eV S0.N H0 H)(hd:a.defers=[])(hn:a.tmps.size=n)(ho:o.op=.mapEntry t m x)(hb:∀x∈o.op.operands,opB a.tmps.size x=true)
  (hw:Region.wanted o (yielded ops a.tmps)=true) (hK:∀Y H' a' w',K Y H'->Rel n S0 w0 H0 Y H' a' w'->K' a' w')
  (h:bR none (aev ρ m) fun m=>bR none (aev ρ x) fun x=>Ao P o t m x ρ H K):xW P ops o a w K' Q':=by
 rw[ho]at hb;simp only[Op.operands]at hb;obtain⟨m',h,hm⟩:=aU (S:=S) (w:=w) h;obtain⟨x',h,hx⟩:=aU (S:=S) (w:=w) h;have em:=hm trivial _ (cJ hF (hb m (by simp)));have ex:=hx trivial _ (cJ hF (hb x (by simp)));unfold Ao at h;obtain⟨j,r,kt,oi,g,ms,O,hj,e0,hl,T,A,ac,U,aa,M⟩:=DA X em ex h;have E:g<w.heap.size:=(Array.getElem?_eq_some_iff.1 T).1;rcases M with⟨rfl,ae⟩|⟨i,Z,cs,rfl,q1,q2,q3,q4,q5,q6,q7⟩
 ·simp only at O;split at O
  ·rename_i z hz;obtain⟨zv,ag,ab⟩:=Jg hz;have F:=BP (m:=⟨a.eval x,zv,ms.length⟩) (cs:=[x',z]) 0 _ _ A (by simp[zF _ _ _ A]) (by simp only[bC];exact⟨_,_,rfl,ex,_,_,rfl,ab S w,rfl⟩);have q:=X.setMap hj hl F ac E;refine eZ hw (dJ (v:=.tuple #[zv,goInt ms.length]) (w':={ w with heap:=w.heap.setIfInBounds g (.map (ms++[(⟨a.eval x,zv,ms.length⟩:MapEntry)]).toArray (ms++[(⟨a.eval x,zv,ms.length⟩:MapEntry)]).length) }) ?_ (hK _ _ _ _ O (Rel.step X hF hG hN hd hn q.1 q.2 (vM hj) ?_)))
   ·simp[execOp,ho,e0,Instr.mapEntry,run_underlying U,MapKept.run_getObj_map T,aa,ae,ag,MapKept.run_setObj_map _ T]
   ·simp only[rep,bC];exact⟨[zv,goInt ms.length],by simp,_,_,rfl,ab _ _,_,_,rfl,by rw[<-zF _ _ _ A];rfl,rfl⟩
  ·exact O.elim
 ·simp only at O;have J:ms.set i ⟨a.eval x,Z.val,i⟩=ms:=by
   have e0:(⟨a.eval x,Z.val,i⟩:MapEntry)=Z:=by rw[<-q4,<-q6]
   rw[e0];apply List.ext_getElem?;intro k;rw[List.getElem?_set];by_cases e:i=k
   ·subst e;have E:i<ms.length:=(List.getElem?_eq_some_iff.1 q1).1;rw[q1];simp[E]
   ·simp[e]
  have hm:({ w with heap:=w.heap.setIfInBounds g (.map ms.toArray ms.length) }:World)=w:=by
   have hh:w.heap.setIfInBounds g (.map ms.toArray ms.length)=w.heap:=by
    apply Array.ext_getElem?;intro k;rw[Array.getElem?_setIfInBounds];by_cases e:g=k
    ·subst e;rw[T];simp[E]
    ·simp[e]
   rw[hh]
  obtain⟨xk,xv,rfl,r1,r2⟩:=Gw q7;have e1:(r.es.getD i []).getD 1 .any=xv:=by simp[List.getD,q2]
  rw[e1]at O;refine eZ hw (dJ (v:=.tuple #[Z.val,goInt i]) (w':=w) ?_ (hK _ _ _ _ O (Rel.step X hF hG hN hd hn X (Grow.refl S w) (eV.refl _ _) ?_)))
  ·have af:=F7 (P:=P) q5;have I:=MapKept.run_setObj_map (P:=P) (.map (List.toArray ms) ms.length) T;rw[hm]at I;simp[execOp,ho,e0,Instr.mapEntry,run_underlying U,MapKept.run_getObj_map T,aa,q3,q1,af,tI q1,J,I,q6]
  ·simp only[rep,bC];exact⟨[Z.val,goInt i],by simp,_,_,rfl,r2,_,_,rfl,rfl,rfl⟩
def Jk:∀(i:Nat) (es:List (List AV)) (ms:List MapEntry) (j:Nat) {m:MapEntry},kJ S w i es ms->ms[j]?=some m->ms.findIdx? (fun e=>(e.born:Int) == ((i+j:Nat):Int))=some j
 | _,[],ms,j,m,h,hj=>by simp only[kJ]at h;subst h;simp at hj
 | i,c::r,ms,0,m,h,hj=>by simp only[kJ]at h;obtain⟨F,t,rfl,h1,_,E⟩:=h;simp[List.findIdx?_cons,h1]
 | i,c::r,ms,j+1,m,h,hj=>by
  simp only[kJ]at h;obtain⟨F,t,rfl,h1,_,E⟩:=h;have ih:=Jk (i+1) r t j E (by simpa using hj);have A:((F.born:Int) == ((i+(j+1):Nat):Int))=false:=by simp[h1];omega
  rw[List.findIdx?_cons,A,show i+(j+1)=i+1+j by omega,ih];rfl
def C2{t:TypeId}{m s v:Operand}(X:St S w H)(T:FR S w ρ a)(hG:Grow S0 w0 S w)(hN:eV S0.N H0 H)(hd:a.defers=[])(hn:a.tmps.size=n)(ho:o.op=.entryStore t m s v)(O:∀x∈o.op.operands,opB a.tmps.size x=true)
  (hw:Region.wanted o (yielded ops a.tmps)=true) (hK:∀J H' a' w',K J H'->Rel n S0 w0 H0 J H' a' w'->K' a' w')
  (h:bR none (aev ρ m) fun m=>bR none (aev ρ s) fun s=>bR none (aev ρ v) fun v=>sS o m s v ρ H K):xW P ops o a w K' Q':=by
 rw[ho]at O;simp only[Op.operands]at O;obtain⟨m',h,hm⟩:=aU (S:=S) (w:=w) h;obtain⟨s',h,hs⟩:=aU (S:=S) (w:=w) h;obtain⟨v',h,hv⟩:=aU (S:=S) (w:=w) h;have em:=hm trivial _ (cJ T (O m (by simp)));have es:=hs trivial _ (cJ T (O s (by simp)));have Y:=hv trivial _ (cJ T (O v (by simp)));unfold sS at h;split at h
 ·rename_i j kd i _ _;split at h
  ·rename_i r hj;obtain⟨⟨i0,i1⟩,h⟩:=h;simp only[rep]at em es;obtain⟨_,e0,g0,I⟩:=em;rw[e0]at I;obtain⟨g,ms,hl,Z,A,U⟩:=(X.rows j r hj).mp I;have aa:g<w.heap.size:=(Array.getElem?_eq_some_iff.1 Z).1;obtain⟨F,g1,g2,g3⟩:=Np 0 _ _ i.toNat A (by omega);obtain⟨xk,xv,e1,r1,r2⟩:=Gw g3;have e2:(r.es.getD i.toNat []).getD 0 .any=xk:=by rw[e1];rfl
   rw[e2]at h;have E:=Cg (m:=⟨F.key,a.eval v,F.born⟩) (cs:=[xk,v']) 0 _ _ i.toNat A (by simpa using g2) (by simp only[bC];exact⟨_,_,rfl,r1,_,_,rfl,Y,rfl⟩);have q:=X.setMap hj hl E U aa;have M:=Jk 0 _ _ i.toNat A g1;rw[Nat.zero_add,Int.toNat_of_nonneg i0]at M;refine eZ hw (vN (w':={ w with heap:=w.heap.setIfInBounds g (.map (ms.set i.toNat ⟨F.key,a.eval v,F.born⟩).toArray (ms.set i.toNat (⟨F.key,a.eval v,F.born⟩:MapEntry)).length) }) ?_ (hK _ _ _ _ h (Rel.step X T hG hN hd hn q.1 q.2 (vM hj) (by simp only[rep]))));rw[hl]at e0;simp[execOp,ho,e0,es,asInt,asIntOf,Instr.entryStore,MapKept.run_getObj_map Z,M,MapKept.run_setObj_map _ Z,tI g1]
  ·exact h.elim
 ·exact h.elim
def HV{t:TypeId}(E:St S w H)(I:FR S w ρ a)(O:Grow S0 w0 S w)(U:eV S0.N H0 H)(J:a.defers=[])(X:a.tmps.size=n)(T:o.op=.makeMap t none)
  (M:Region.wanted o (yielded ops a.tmps)=true) (Y:∀A H' F w',K A H'->Rel n S0 w0 H0 A H' F w'->K' F w')
  (h:oA H ⟨0,2,[]⟩ fun k H'=>K (upd ρ o.dst (.om k)) H'):xW P ops o a w K' Q':=by
 have q:=E.newMap (w':=w.alloc (.map #[] 0)) rfl rfl rfl rfl;refine eZ M (dJ (v:=.map (some w.heap.size)) (w':=w.alloc (.map #[] 0)) ?_ (Y _ _ _ _ (h S.N E.fresh) (Rel.step E I O U J X q.1 q.2 (nK E) ?_)))
 ·simp[execOp,T,Instr.makeMap]
 ·simp only[rep,Sg.addRow,if_true];exact⟨Nat.lt_succ_self _,trivial,_,rfl⟩
def Ap{ah:Bool}(al:∀o∈ops,jQ n o=true)(E:St S w H)(M:FR S w ρ a)(O:Grow S0 w0 S w)(T:eV S0.N H0 H)(X:a.defers=[])(J:a.tmps.size=n)(hb:jQ n o=true)
   (U:∀ak H' a' w',K ak H'->Rel n S0 w0 H0 ak H' a' w'->K' a' w') (h:aop P (bF P) (dD P) mt ah ops o ρ H K):xW P ops o a w K' Q':=by
 obtain⟨I,_⟩:=wY hb;unfold aop at h;obtain⟨G,h2,A⟩:=wB al M J h;clear h;have h:=h2;clear h2;split at h
 . -- assign
   rename_i x F;unfold B5 at h;split at h
   . rename_i aj;obtain⟨_,rfl,_,Z⟩:=aj;have Z:x=.const (.slice none 0 0):=by
       unfold sF at Z;split at Z
       . rfl
       . simp at Z
     subst Z;split at h
     . rename_i e sz ag he;obtain⟨i,z,hu,hi,aq,_,Y,_⟩:=fB he;have hw:=cY A rfl;have q:=E.nilRow e Y;refine eZ hw (dJ (v:=.slice none 0 0) (w':=w) (by simp[execOp,F,Act.eval]) (U _ _ _ _ (h S.N E.fresh) (Rel.step E M O T X J q.1 q.2 (nK E) ?_)));simp only[rep,Sg.addRow,if_true];exact⟨Nat.lt_succ_self _,trivial,_,_,_,rfl⟩
     . exact h.elim
   . exact rI E M O T X J I A U (by rw[F];exact h)
 . -- alloc
   rename_i t F;split at h
   . rename_i z hz;obtain⟨rfl,_,h⟩:=h;have hw:=cY A rfl;split at h
     . split at h
       . rename_i nl au;exact Mr E M O T X J F hz hw U au h
       . exact h.elim
     obtain⟨v,i,hi,rfl,h1,av,ac⟩:=VB hz (.tuple #[]) w;obtain⟨S',q1,q2,q3⟩:=Di (t:=t) (cs:=v.cells.toList.map pQ) (l:=v.cells.toList) E (by simp;omega) (lS _) h1;refine eZ hw (dJ (v:=.pointer (some ⟨w.heap.size,0,none⟩)) (w':=w.alloc (.cells v.cells t)) (by simp[execOp,F,ac]) (U _ _ _ _ (h S.N E.fresh) (Rel.step E M O T X J (by simpa using q1) (by simpa using q2) (nK E) (by simpa using q3))))
   . exact h.elim
 . -- box
   rename_i t x F;obtain⟨rfl,_,h⟩:=h;have hw:=cY A rfl;obtain⟨y,h2,hy⟩:=aU (S:=S) (w:=w) h;obtain⟨cs,h3,ai⟩:=wD (S:=S) (w:=w) h2;have Z:opB a.tmps.size x=true:=J▸I x (by simp[F,Op.operands]);obtain⟨l,e1,e2,e3⟩:=ai _ (hy trivial _ (cJ M Z));have ac:(execOp a.eval o).run P w=.ok (.value (.pointer (some ⟨w.heap.size,0,none⟩))) (w.alloc (.cells l.toArray t)):=by simp[execOp,F,acI,e1]
   unfold acO at h3;split at h3
   . obtain⟨Y,h4⟩:=h3;obtain⟨S',q1,q2,q3⟩:=Di (t:=t) E Y e2 e3;exact eZ hw (dJ ac (U _ _ _ _ (h4 S.N E.fresh) (Rel.step E M O T X J q1 q2 (nK E) q3)))
   . have q:=E.newRo (o:=.cells l.toArray t) (w':=w.alloc (.cells l.toArray t)) rfl rfl rfl rfl;refine eZ hw (dJ ac (U _ _ _ _ h3 (Rel.step E M O T X J q.1 q.2 (eV.refl _ _) ?_)));simp only[rep];refine⟨w.heap.size,0,by simp,.inr rfl,?_⟩;refine iJ _ l 0 (dK q.2.le (q.2.kept E) _ _ e2) e3 fun j u hj=>?_
     rw[cell_of_row (w.alloc (.cells l.toArray t)) w.heap.size (0+j) l.toArray t (0,0) (heap_alloc_new w _)];simpa using hj
 . -- buildSlice
   rename_i t m aa F;obtain⟨_,h⟩:=h;obtain⟨ps,h2,an⟩:=nX M aa.toList (fun p hp=>J▸I p.2 (by rw[F];simpa[Op.operands]using⟨p.1,by simpa using hp⟩)) h;unfold nA at h2;split at h2
   . rename_i e sz ag he;obtain⟨⟨p1,p2,p3⟩,h3⟩:=h2;have go:∀(_:gt G),∃xs:List Value,(execOp a.eval o).run P w=.ok (.value (.slice (some ⟨w.heap.size,0,none⟩) m m)) (w.alloc (.cells xs.toArray e))/\bC S w (ps.map (·.2)).flatten xs/\(∀u∈xs,u.oneCell'=true)/\ps.length=m/\xs.length=m*sz:=fun hg=>by
       obtain⟨f1,f2⟩:=an hg;have hl:(aa.map fun(p:Nat×Operand)=>(p.1,a.eval p.2)).toList=aa.toList.map fun p=>(p.1,a.eval p.2):=by simp
       rw[<-hl]at f1 f2;obtain⟨xs,g1,g2,g3,g4,g5⟩:=G2 (w:=w) he p1 p2 f1 f2 p3;refine⟨xs,?_,g2,g3,g4,g5⟩;simp only[execOp,F];exact L9 g1
     obtain⟨aw,z,hu,hi,aq,_,Y,_⟩:=fB he;split at h3
     . rename_i aj;obtain⟨_,rfl⟩:=aj;have hw:=cY A rfl;obtain⟨xs,g1,g2,g3,g4,g5⟩:=go trivial;have ab:(ps.map (·.2)).length=m:=by simpa using g4
       have q:=E.newRow (e:=e) (sz:=sz) (cap:=m) (es:=ps.map (·.2)) (xs:=xs) (cur:=xs.toArray) Y (gL.1 p2) g2 g3 (by omega) (by simp only[maxLen];have:m<=m*sz:=Nat.le_mul_of_pos_right _ Y;omega) (by simpa using g5)
         (by rw[ab,List.take_of_length_le (by simp[g5])]) (w':=w.alloc (.cells xs.toArray e)) rfl rfl rfl rfl
       refine eZ hw (dJ g1 (U _ _ _ _ (h3 S.N E.fresh) (Rel.step E M O T X J q.1 q.2 (nK E) ?_)));simp only[rep,Sg.addRow,if_true];exact⟨Nat.lt_succ_self _,by rw[ab],_,_,_,rfl⟩
     . refine And.symm ⟨fun hw=>?_,fun hw=>?_⟩
       . have ae:¬gt G:=fun h=>by rw[A.2 h]at hw;simp at hw
         exact U _ _ _ _ h3 (Rel.step E M O T X J E (Grow.refl S w) (eV.refl _ _) (dU ae))
       have ae:=A.1 hw;obtain⟨xs,g1,g2,g3,g4,g5⟩:=go ae;have ab:(ps.map (·.2)).length=m:=by simpa using g4
       have q:=E.newRo (o:=.cells xs.toArray e) (w':=w.alloc (.cells xs.toArray e)) rfl rfl rfl rfl;refine dJ g1 (U _ _ _ _ h3 (Rel.step E M O T X J q.1 q.2 (eV.refl _ _) (eY ae ?_)));simp only[rep];refine⟨_,_,_,rfl,ab,Nat.le_refl _,by simp only[maxLen];have:m<=m*sz:=Nat.le_mul_of_pos_right _ Y;omega,.inr ⟨w.heap.size,0,sz,rfl,.inr rfl,Y,?_⟩⟩;refine pG _ _ (gL.1 p2) (iJ _ xs 0 (dK q.2.le (q.2.kept E) _ _ g2) g3 fun j u hj=>?_);rw[cell_of_row (w.alloc (.cells xs.toArray e)) w.heap.size (0+j) xs.toArray e (0,0) (heap_alloc_new w _)];simpa using hj
   . exact h2.elim
 . -- store
   rename_i t x y F;obtain⟨rfl,_,h⟩:=h;have hw:=cY A rfl;split at h
   . rename_i af;have hy:y=.const (.slice none 0 0):=by
       unfold sF at af;split at af
       . rfl
       . simp at af
     subst hy;exact EO (K2:=fun _=>True) E M O T X J F (fun x Z=>J▸I x Z) hw U h
   obtain⟨x',h2,ao⟩:=aU (S:=S) (w:=w) h;obtain⟨y',h3,ar⟩:=aU (S:=S) (w:=w) h2;obtain⟨cs,h4,ai⟩:=wD (S:=S) (w:=w) h3;have ap:opB a.tmps.size x=true:=J▸I x (by simp[F,Op.operands]);have am:opB a.tmps.size y=true:=J▸I y (by simp[F,Op.operands]);have ex:=ao trivial _ (cJ M ap);obtain⟨l,e1,e2,e3⟩:=ai _ (ar trivial _ (cJ M am));exact Ce E M O T X J F hw U ex e1 e2 e3 h4
 . rename_i c F;exact LE E M O T X J F I A U h
 all_goals first
   | exact h.elim
   | (rename_i F; split at h
      . obtain⟨rfl,_,h⟩:=h;exact KL E M O T X J F (fun x Z=>J▸I x Z) (cY A rfl) U h
      . exact rI E M O T X J I A U (by rw[F];exact h))
   | (rename_i F; split at h
      . obtain⟨rfl,_,h⟩:=h;exact Ql E M O T X J F I A U h
      . exact rI E M O T X J I A U (by rw[F];exact h))
   | (rename_i F; split at h
      . obtain⟨rfl,h⟩:=h;split at h
        . exact KK E M O T X J F (fun x Z=>J▸I x Z) (cY A rfl) U h
        . exact Ku E M O T X J F (fun x Z=>J▸I x Z) (cY A rfl) U h
      . exact rI E M O T X J I A U (by rw[F];exact h))
   | (rename_i F;obtain⟨rfl,_,h⟩:=h;exact EI E M O T X J F (fun x Z=>J▸I x Z) (cY A rfl) U h)
   | (rename_i F;exact rI E M O T X J I A U (by rw[F];exact h))
   | (rename_i F;obtain⟨rfl,_,h⟩:=h;exact HV E M O T X J F (cY A rfl) U h)
   | (rename_i F;obtain⟨rfl,_,h⟩:=h;exact EK E M O T X J F (fun x Z=>J▸I x Z) (cY A rfl) U h)
   | (rename_i F;obtain⟨rfl,_,h⟩:=h;exact Lo E M O T X J F (fun x Z=>J▸I x Z) (cY A rfl) U h)
   | (rename_i F;obtain⟨rfl,_,h⟩:=h;exact FG E M O T X J F (fun x Z=>J▸I x Z) (cY A rfl) U h)
   | (rename_i F;obtain⟨rfl,_,h⟩:=h;exact C2 E M O T X J F (fun x Z=>J▸I x Z) (cY A rfl) U h)
end
end Go.Aw
end
