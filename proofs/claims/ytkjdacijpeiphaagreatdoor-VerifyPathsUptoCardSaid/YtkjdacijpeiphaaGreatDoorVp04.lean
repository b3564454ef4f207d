import Derived.Test.YtkjdacijpeiphaaGreatDoorVp03
set_option linter.unusedSimpArgs false
set_option linter.unusedVariables false
set_option linter.defProp false
set_option maxRecDepth 100000
section
namespace Go.Aw
open Go.RowKit
section
variable{P:Program}{n:Nat}{S0:Sg}{w0:World}{H0:aG}{mt:Nat->Bool}{ops:Array Oper}{K:Env->aG->Prop}{K':Act->World->Prop}{Q':Exit->Act->World->Prop}{ρ:Env}{H:aG}{a:Act}{w:World}{o:Oper}{S:Sg}
def cO{G:Option Bool}(A:Region.wanted o (yielded ops a.tmps)=true↔gt G)(E:G=none):Region.wanted o (yielded ops a.tmps)=true:=by subst E;exact A.2 trivial
def Ly{f:FuncId}(h:aH P f=true):∃fn,P.funcs[f]?=some fn/\(fn.name == "runtime.NumGoroutine")=false/\fn.body.isNone=false:=by
 unfold aH at h;split at h
 . rename_i fn A;simp only[Bool.and_eq_true,bne_iff_ne,ne_eq]at h;refine⟨fn,A,by simpa using h.1,?_⟩;cases E:fn.body <;> simp_all
 . simp at h
def nX{f:FuncId}(h:aH P f=true)(args:Array Value)(w:World):(callFunc f args).run P w=.ok (.enter f args) w:=by
 obtain⟨fn,h1,I,F⟩:=Ly h;have A:¬fn.name = "runtime.NumGoroutine" := by simpa using I
 have E:¬fn.body=none:=fun e=>by rw[e]at F;simp at F
 simp[callFunc,h1,A,E]
def eG(A:Region.wanted o (yielded ops a.tmps)=true)(h:o.wp P a w K' Q'):uR P ops o a w K' Q':=⟨fun _=>h,fun e=>by rw[A]at e;simp at e⟩
def HA:∀(l:List Value),aW S w (l.map .v) l
 | []=>by simp[aW]
 | v::r=>by simp only[List.map_cons,aW];exact⟨v,r,rfl,iT,HA r⟩
def zS{x:AV}{g:FuncId}{F E:List AV}{u:Value}(h:Fb x=some (g,F,E))(I:rep S w x u):
  ∃first A:Array Value,u=.func (.func g) first A/\aW S w F first.toList/\aW S w E A.toList:=by
 unfold Fb at h;split at h
 ·rename_i f first A
  simp only[Option.some.injEq,Prod.mk.injEq]at h;obtain⟨rfl,rfl,rfl⟩:=h;simp only[rep]at I;exact⟨first,A,I,HA _,HA _⟩
 ·rename_i f cap;simp only[Option.some.injEq,Prod.mk.injEq]at h;obtain⟨rfl,rfl,rfl⟩:=h;simp only[rep]at I;obtain⟨l,rfl,J⟩:=I;exact⟨#[],l.toArray,rfl,by simp[aW],by simpa using J⟩
 ·simp at h
def lN{c:Call}{f:Operand}(F:c.callee=.value f){g:FuncId}{first A:Array Value}(E:a.eval f=.func (.func g) first A)(ty:TypeId):
  resolve a.eval c ty=pure { target:=.fn (.func g) A,args:=first++c.args.map a.eval }:=by
 unfold resolve;simp only[F];rw[E];rfl
def Lb{nl aq:Bool}{G:Option Bool}{c:Call}(E:St S w H)(Z:FR S w ρ a)(hG:Grow S0 w0 S w)(hN:eF S0.N H0 H)(hd:a.defers=[])(hn:a.tmps.size=n)(ho:o.op=.call c)(hb:∀x∈o.op.operands,opB n x=true)
   (ac:Region.wanted o (yielded ops a.tmps)=true↔gt G) (hK:∀bg H' a' w',K bg H'->Rel n S0 w0 H0 bg H' a' w'->K' a' w') (h:Ah P (aX P) (cQ P) nl aq G o c ρ H K):uR P ops o a w K' Q':=by
 rw[ho]at hb;simp only[Op.operands,Call.operands]at hb;unfold Ah at h;split at h
 . rename_i b hc;obtain⟨ys,h2,ai⟩:=lE Z c.args.toList (fun x hx=>hn▸hb x (by simp[Array.mem_toList_iff.1 hx])) h;clear h;have h:=h2;clear h2;split at h
   . rename_i x t J;obtain⟨z,hz,hl⟩:=Eb (G:=G) (ty:=o.type) E.rows h;refine⟨fun hw=>?_,fun hw=>?_⟩
     . have M:=ac.1 hw;have hr:=ai M;simp only[aW]at hr;obtain⟨u,t',e1,e2,rfl⟩:=hr;obtain⟨v,hv,aj⟩:=hl M u e2;have ea:c.args.map a.eval=#[u]:=by apply Array.toList_inj.1;simpa using e1
       have et:c.argTypes=#[t]:=Array.toList_inj.1 (by simpa using J);refine cX (v:=v) (w':=w) ?_ (hK _ _ _ _ hz (Rel.step E Z hG hN hd hn E (Grow.refl S w) (eF.refl _ _) (eD M hv)));simp[execOp,ho,resolve,hc,invoke,builtin,ea,et,aj w (Agree.refl S H w)]
     . have M:¬gt G:=fun h=>by rw[ac.2 h]at hw;simp at hw
       exact hK _ _ _ _ hz (Rel.step E Z hG hN hd hn E (Grow.refl S w) (eF.refl _ _) (dH M))
   . rename_i s x t t' J;split at h
     . rename_i aa;obtain⟨bh,ah,_⟩:=aa;subst ah;subst bh;have hw:=cO ac rfl;refine eG hw ?_;have hr:=ai trivial;simp only[aW]at hr;obtain⟨us,t1,e1,e2,ux,t2,rfl,e3,rfl⟩:=hr;have ea:c.args.map a.eval=#[us,ux]:=Array.toList_inj.1 (by simpa using e1);have et:c.argTypes=#[t,t]:=Array.toList_inj.1 (by simpa using J);unfold oC at h;split at h
       . rename_i k e sz X he;split at h
         . rename_i r hk;have app : ∀ news, qX S w ux news -> ((r.e = e /\ r.sz = sz /\ cA sz news /\ (r.es.length + news.length) * X <= 140737488355328) /\
               ∀k',H k'=none->K (upd ρ o.dst (.os k')) (aI (aI H k none) k' (some ⟨e,sz,r.es++news⟩)))->o.wp P a w K' Q':=by
             rintro news Y ⟨⟨rfl,rfl,ag,ab⟩,ak⟩;simp only[rep]at e2;obtain⟨bq,rfl,_,_,_,a5⟩:=e2;obtain⟨v',w',q1,q2,q3,q4⟩:=E.append hk a5 (ty:=o.type) he Y ag ab;refine cX (v:=v') (w':=w') ?_ (hK _ _ _ _ (ak S.N E.fresh) (Rel.step E Z hG hN hd hn q3 q4 ?_ ?_))
             . simp[execOp,ho,resolve,hc,invoke,builtin,ea,et,q1]
             . intro j hj h0;rw[aD _ _ _ _ (Nat.ne_of_lt hj)];by_cases e:j=k
               . subst e;exact aB _ _ _
               . rw[aD _ _ _ _ e];exact h0
             . simp only[rep,Sg.addRow,if_true];exact⟨Nat.lt_succ_self _,trivial,q2⟩
           unfold pM at h;split at h
           . exact app _ (BM e3) h
           . rename_i k2;split at h
             . rename_i r2 O;simp only[rep]at e3;obtain⟨_,rfl,_,_,_,T⟩:=e3;exact app _ (Bq (E.rows k2 r2 O) T) h
             . exact h.elim
           . rename_i k2 a2 b2;split at h
             . rename_i r2 O;exact app _ (uZ (E.rows k2 r2 O) e3).1 h
             . exact h.elim
           . exact h.elim
         . exact h.elim
       . rename_i es e sz X he;have app : ∀ news, qX S w ux news -> ((news ≠ [] /\ cA sz es /\ cA sz news /\ (es.length + news.length) * X <= 140737488355328) /\
             ∀k',H k'=none->K (upd ρ o.dst (.os k')) (aI H k' (some ⟨e,sz,es++news⟩)))->o.wp P a w K' Q':=by
           rintro news Y ⟨⟨au,az,ag,ab⟩,ak⟩;obtain⟨v',w',q1,q2,q3,q4⟩:=E.appendNew e2 (ty:=o.type) he Y au az ag ab;refine cX (v:=v') (w':=w') ?_ (hK _ _ _ _ (ak S.N E.fresh) (Rel.step E Z hG hN hd hn q3 q4 ?_ ?_))
           . simp[execOp,ho,resolve,hc,invoke,builtin,ea,et,q1]
           . intro j hj h0;rw[aD _ _ _ _ (Nat.ne_of_lt hj)];exact h0
           . simp only[rep,Sg.addRow,if_true];exact⟨Nat.lt_succ_self _,trivial,q2⟩
         unfold pM at h;split at h
         . exact app _ (BM e3) h
         . rename_i k2;split at h
           . rename_i r2 O;simp only[rep]at e3;obtain⟨_,rfl,_,_,_,T⟩:=e3;exact app _ (Bq (E.rows k2 r2 O) T) h
           . exact h.elim
         . rename_i k2 a2 b2;split at h
           . rename_i r2 O;exact app _ (uZ (E.rows k2 r2 O) e3).1 h
           . exact h.elim
         . exact h.elim
       . rename_i k a0 b0 e sz X he;split at h
         . rename_i r hk;have app : ∀ news, qX S w ux news -> ((r.e = e /\ r.sz = sz /\ news ≠ [] /\ cA sz news /\ b0 = r.es.length /\ (r.es.length + news.length) * X <= 140737488355328) /\
               ∀(k':Nat) (am:List (List AV)),am.length<=a0->H k'=none->K (upd ρ o.dst (.oz k' am.length (am.length+(b0-a0)+news.length))) (aI (aI H k none) k' (some ⟨e,sz,am++(r.es.drop a0++news)⟩)))->o.wp P a w K' Q':=by
             rintro news Y ⟨⟨rfl,rfl,au,ag,hb,ab⟩,ak⟩;obtain⟨v',w',vl,am,q1,q3,q4,q5,q6⟩:=E.appendOz hk e2 (ty:=o.type) he Y au hb ag ab;refine cX (v:=v') (w':=w') ?_ (hK _ _ _ _ (ak S.N am q6 E.fresh) (Rel.step E Z hG hN hd hn q3 q4 ?_ q5))
             . simp[execOp,ho,resolve,hc,invoke,builtin,ea,et,q1]
             . intro j hj h0;rw[aD _ _ _ _ (Nat.ne_of_lt hj)];by_cases e:j=k
               . subst e;exact aB _ _ _
               . rw[aD _ _ _ _ e];exact h0
           unfold pM at h;split at h
           . exact app _ (BM e3) h
           . rename_i k2;split at h
             . rename_i r2 O;simp only[rep]at e3;obtain⟨_,rfl,_,_,_,T⟩:=e3;exact app _ (Bq (E.rows k2 r2 O) T) h
             . exact h.elim
           . rename_i k2 a2 b2;split at h
             . rename_i r2 O;exact app _ (uZ (E.rows k2 r2 O) e3).1 h
             . exact h.elim
           . exact h.elim
         . exact h.elim
       . rename_i e sz X he;have bm:rep S w (.cl []) us:=by
           have hu:us=.slice none 0 0:=by simp only[rep]at e2;exact e2
           subst hu;simp only[rep];exact⟨none,0,rfl,rfl,Nat.zero_le _,.inl trivial⟩
         have app : ∀ news, qX S w ux news -> ((news = [] /\ K (upd ρ o.dst (.v (.slice none 0 0))) H) \/ (news ≠ [] /\ cA sz ([] : List (List AV)) /\ cA sz news /\ (([] : List (List AV)).length + news.length) * X <= 140737488355328) /\
             ∀k',H k'=none->K (upd ρ o.dst (.os k')) (aI H k' (some ⟨e,sz,[]++news⟩)))->o.wp P a w K' Q':=by
           rintro news Y (⟨rfl,h0⟩|⟨⟨au,az,ag,ab⟩,ak⟩)
           . obtain⟨bj,z,a4,hi,_⟩:=eN he;obtain⟨ad,c,l,rfl,_⟩:=Y;have hu:us=.slice none 0 0:=by simp only[rep]at e2;exact e2
             subst hu;refine cX (v:=.slice none 0 0) (w':=w) ?_ (hK _ _ _ _ h0 (Rel.step E Z hG hN hd hn E (Grow.refl S w) (eF.refl _ _) e2));simp[execOp,ho,resolve,hc,invoke,builtin,ea,et,pQ (b:=none) (ad:=ad) (c2:=c) (ty:=o.type) a4 hi (Nat.le_refl 0)]
           obtain⟨v',w',q1,q2,q3,q4⟩:=E.appendNew bm (ty:=o.type) he Y au az ag ab;refine cX (v:=v') (w':=w') ?_ (hK _ _ _ _ (ak S.N E.fresh) (Rel.step E Z hG hN hd hn q3 q4 ?_ ?_))
           . simp[execOp,ho,resolve,hc,invoke,builtin,ea,et,q1]
           . intro j hj h0;rw[aD _ _ _ _ (Nat.ne_of_lt hj)];exact h0
           . simp only[rep,Sg.addRow,if_true];exact⟨Nat.lt_succ_self _,trivial,q2⟩
         unfold pM at h;split at h
         . exact app _ (BM e3) h
         . rename_i k2;split at h
           . rename_i r2 O;simp only[rep]at e3;obtain⟨_,rfl,_,_,_,T⟩:=e3;exact app _ (Bq (E.rows k2 r2 O) T) h
           . exact h.elim
         . rename_i k2 a2 b2;split at h
           . rename_i r2 O;exact app _ (uZ (E.rows k2 r2 O) e3).1 h
           . exact h.elim
         . exact h.elim
       . rename_i es e' he;have app:∀news,qX S w ux news->(news=[]/\K (upd ρ o.dst (.sl es)) H)->o.wp P a w K' Q':=by rintro news Y ⟨rfl,h0⟩;obtain⟨e,sz,X⟩:=e';obtain⟨bj,z,a4,hi,_⟩:=eN he;obtain⟨ad,c,l,rfl,_⟩:=Y;have e4:=e2;simp only[rep]at e2;obtain⟨bc,n2,c2,rfl,bt,bi,_⟩:=e2;refine cX (v:=.slice bc n2 c2) (w':=w) ?_ (hK _ _ _ _ h0 (Rel.step E Z hG hN hd hn E (Grow.refl S w) (eF.refl _ _) e4));simp[execOp,ho,resolve,hc,invoke,builtin,ea,et,pQ (b:=bc) (ad:=ad) (c2:=c) (ty:=o.type) a4 hi bi]
         unfold pM at h;split at h
         . exact app _ (BM e3) h
         . rename_i k2;split at h
           . rename_i r2 O;simp only[rep]at e3;obtain⟨_,rfl,_,_,_,T⟩:=e3;exact app _ (Bq (E.rows k2 r2 O) T) h
           . exact h.elim
         . rename_i k2 a2 b2;split at h
           . rename_i r2 O;exact app _ (uZ (E.rows k2 r2 O) e3).1 h
           . exact h.elim
         . exact h.elim
       . exact h.elim
     . exact h.elim
   . rename_i x y t t' J;split at h
     . rename_i aa;obtain⟨ah,_⟩:=aa;subst ah;have hw:=cO ac rfl;refine eG hw ?_;have hr:=ai trivial;simp only[aW]at hr;obtain⟨us,t1,e1,e2,ux,t2,rfl,e3,rfl⟩:=hr;have ea:c.args.map a.eval=#[us,ux]:=Array.toList_inj.1 (by simpa using e1);have et:c.argTypes=#[t,t']:=Array.toList_inj.1 (by simpa using J);have go : ∀ k a0 n0 r, H k = some r -> a0 + n0 <= r.es.length -> (∃ ad cc, us = .slice ad n0 cc /\ (0 < n0 -> ∃ g n' c', S.loc k = .slice (some ⟨g, 0, none⟩) n' c' /\ ad = some ⟨g, a0 * r.sz, none⟩)) -> ∀ news, qX S w ux news ->
           (match bN P t with
             | some (_,sz,_)=>(r.sz=sz/\cA sz news)/\K (upd ρ o.dst (.v (.int .i64 (min news.length n0:Nat)))) (aI H k (some { r with es:=r.es.take a0++news.take (min news.length n0)++r.es.drop (a0+min news.length n0) }))
             | none=>False)->o.wp P a w K' Q':=by
         intro k a0 n0 r hk ay hx news Y af;split at af
         . rename_i e sz X he;obtain⟨⟨h1,h2⟩,h3⟩:=af;obtain⟨w',q1,q2,q3⟩:=E.copy hk (t':=t') (ty:=o.type) he h1 ay Y h2 hx;refine cX (v:=goInt (min news.length n0:Nat)) (w':=w') ?_ (hK _ _ _ _ h3 (Rel.step E Z hG hN hd hn q2 q3 ?_ (by simp only[rep];rfl)))
           . simp[execOp,ho,resolve,hc,invoke,builtin,ea,et,q1]
           . intro j hj h0;by_cases e:j=k
             . subst e;rw[hk]at h0;simp at h0
             . rw[aD _ _ _ _ e];exact h0
         . exact af.elim
       have src:∀F:List (List AV)->Prop,pM H y F->∃news,qX S w ux news/\F news:=by
         intro F Z;unfold pM at Z;split at Z
         . exact⟨_,BM e3,Z⟩
         . rename_i k2;split at Z
           . rename_i r2 O;simp only[rep]at e3;obtain⟨_,rfl,_,_,_,T⟩:=e3;exact⟨_,Bq (E.rows k2 r2 O) T,Z⟩
           . exact Z.elim
         . rename_i k2 a2 b2;split at Z
           . rename_i r2 O;exact⟨_,(uZ (E.rows k2 r2 O) e3).1,Z⟩
           . exact Z.elim
         . exact Z.elim
       unfold QA MV at h;split at h
       . rename_i k;split at h
         . rename_i r hk;obtain⟨news,hs,af⟩:=src _ h;have hR:=E.rows k r hk;simp only[rep]at e2;obtain⟨_,rfl,ad,n,cc,U⟩:=e2;obtain⟨xs,ao,_,_⟩:=hR.sl U;have hn:n=r.es.length/\(0<r.es.length->∃g,ad=some ⟨g,0,none⟩):=by
             rcases ao.2 with⟨hv,h0⟩|⟨g,cap,cur,hv,_⟩
             . rw[U]at hv;injection hv with _ h2 _;exact⟨by omega,fun h=>by omega⟩
             . rw[U]at hv;injection hv with h1 h2 _;exact⟨h2,fun _=>⟨g,h1⟩⟩
           refine go k 0 r.es.length r hk (by omega) ⟨ad,cc,by rw[U,hn.1],fun hp=>?_⟩ news hs af;obtain⟨g,rfl⟩:=hn.2 hp;exact⟨g,n,cc,U,by simp⟩
         . exact h.elim
       . rename_i k a0 b0;split at h
         . rename_i r hk;obtain⟨news,hs,af⟩:=src _ h;have hR:=E.rows k r hk;obtain⟨_,hb,bo⟩:=uZ hR e2;simp only[rep]at e2;obtain⟨_,ad,n,c0,a6,cc,U,rfl,a8,bd,an,_,be,_⟩:=e2;refine go k a0 (b0-a0) r hk (by omega) ⟨a6,cc,rfl,fun hp=>?_⟩ news hs af;obtain⟨g,rfl,rfl⟩:=an (by omega);exact⟨g,n,c0,U,by rw[hR.sz]⟩
         . exact h.elim
       . exact h.elim
     . exact h.elim
   . rename_i x t J;split at h
     . rename_i aa;obtain⟨ah,_⟩:=aa;subst ah;have hw:=cO ac rfl;refine eG hw ?_;have hr:=ai trivial;simp only[aW]at hr;obtain⟨us,t1,e1,e2,rfl⟩:=hr;have ea:c.args.map a.eval=#[us]:=Array.toList_inj.1 (by simpa using e1);have et:c.argTypes=#[t]:=Array.toList_inj.1 (by simpa using J);have go : ∀ k a0 n0 r, H k = some r -> a0 + n0 <= r.es.length -> (∃ ad cc, us = .slice ad n0 cc /\ (0 < n0 -> ∃ g n' c', S.loc k = .slice (some ⟨g, 0, none⟩) n' c' /\ ad = some ⟨g, a0 * r.sz, none⟩)) ->
           (match bN P t with
             | some (e,sz,_)=>match cM P e with
               | some zs=>r.sz=sz/\K (upd ρ o.dst .any) (aI H k (some { r with es:=r.es.take a0++List.replicate n0 zs++r.es.drop (a0+n0) }))
               | none=>False
             | none=>False)->o.wp P a w K' Q':=by
         intro k a0 n0 r hk ay hx af;split at af
         . rename_i e sz X he;split at af
           . rename_i zs bp;obtain⟨h1,h3⟩:=af;obtain⟨w',q1,q2,q3⟩:=E.clear hk (ty:=o.type) he bp h1 ay hx;refine cX (v:=.tuple #[]) (w':=w') ?_ (hK _ _ _ _ h3 (Rel.step E Z hG hN hd hn q2 q3 ?_ (by simp only[rep])))
             . simp[execOp,ho,resolve,hc,invoke,builtin,ea,et,q1]
             . intro j hj h0;by_cases e:j=k
               . subst e;rw[hk]at h0;simp at h0
               . rw[aD _ _ _ _ e];exact h0
           . exact af.elim
         . exact af.elim
       unfold Me MV at h;split at h
       . rename_i k;split at h
         . rename_i r hk;have hR:=E.rows k r hk;simp only[rep]at e2;obtain⟨_,rfl,ad,n,cc,U⟩:=e2;obtain⟨xs,ao,_,_⟩:=hR.sl U;have hn:n=r.es.length/\(0<r.es.length->∃g,ad=some ⟨g,0,none⟩):=by
             rcases ao.2 with⟨hv,h0⟩|⟨g,cap,cur,hv,_⟩
             . rw[U]at hv;injection hv with _ h2 _;exact⟨by omega,fun h=>by omega⟩
             . rw[U]at hv;injection hv with h1 h2 _;exact⟨h2,fun _=>⟨g,h1⟩⟩
           refine go k 0 r.es.length r hk (by omega) ⟨ad,cc,by rw[U,hn.1],fun hp=>?_⟩ h;obtain⟨g,rfl⟩:=hn.2 hp;exact⟨g,n,cc,U,by simp⟩
         . exact h.elim
       . rename_i k a0 b0;split at h
         . rename_i r hk;have hR:=E.rows k r hk;obtain⟨_,hb,bo⟩:=uZ hR e2;simp only[rep]at e2;obtain⟨_,ad,n,c0,a6,cc,U,rfl,a8,bd,an,_,be,_⟩:=e2;refine go k a0 (b0-a0) r hk (by omega) ⟨a6,cc,rfl,fun hp=>?_⟩ h;obtain⟨g,rfl,rfl⟩:=an (by omega);exact⟨g,n,c0,U,by rw[hR.sz]⟩
         . exact h.elim
       . exact h.elim
     . exact h.elim
   . rename_i x y t t' J;obtain⟨z,hz,hl⟩:=DE (P:=P) (S:=S) (w:=w) (H:=H) (G:=G) (tys:=c.argTypes) (ty:=o.type) h;refine⟨fun hw=>?_,fun hw=>?_⟩
     . have M:=ac.1 hw;have hr:=ai M;simp only[aW]at hr;obtain⟨us,t1,e1,e2,ux,t2,rfl,e3,rfl⟩:=hr;obtain⟨v,hv,aj⟩:=hl M us ux e2 e3;have ea:c.args.map a.eval=#[us,ux]:=Array.toList_inj.1 (by simpa using e1);refine cX (v:=v) (w':=w) ?_ (hK _ _ _ _ hz (Rel.step E Z hG hN hd hn E (Grow.refl S w) (eF.refl _ _) (eD M hv)));simp[execOp,ho,resolve,hc,invoke,builtin,ea,aj w (Agree.refl S H w)]
     . have M:¬gt G:=fun h=>by rw[ac.2 h]at hw;simp at hw
       exact hK _ _ _ _ hz (Rel.step E Z hG hN hd hn E (Grow.refl S w) (eF.refl _ _) (dH M))
   . rename_i x y t t' J;obtain⟨z,hz,hl⟩:=Ea (P:=P) (S:=S) (w:=w) (H:=H) (G:=G) (tys:=c.argTypes) (ty:=o.type) h;refine⟨fun hw=>?_,fun hw=>?_⟩
     . have M:=ac.1 hw;have hr:=ai M;simp only[aW]at hr;obtain⟨us,t1,e1,e2,ux,t2,rfl,e3,rfl⟩:=hr;obtain⟨v,hv,aj⟩:=hl M us ux e2 e3;have ea:c.args.map a.eval=#[us,ux]:=Array.toList_inj.1 (by simpa using e1);refine cX (v:=v) (w':=w) ?_ (hK _ _ _ _ hz (Rel.step E Z hG hN hd hn E (Grow.refl S w) (eF.refl _ _) (eD M hv)));simp[execOp,ho,resolve,hc,invoke,builtin,ea,aj w (Agree.refl S H w)]
     . have M:¬gt G:=fun h=>by rw[ac.2 h]at hw;simp at hw
       exact hK _ _ _ _ hz (Rel.step E Z hG hN hd hn E (Grow.refl S w) (eF.refl _ _) (dH M))
   . exact h.elim
 . rename_i f hc;obtain⟨yf,h2,hf⟩:=aS (S:=S) (w:=w) h;clear h;have h:=h2;clear h2;split at h
   . rename_i g a7 bb ba;by_cases a9:nl=true
     . rw[if_pos a9]at h;obtain⟨ah,br,ax,h⟩:=h;have hw:=ac.2 ah;obtain⟨first,A,ar,h2,h3⟩:=zS ba (hf ah _ (cC Z (hn▸hb f (by simp[hc]))));have al:aW S w (a7++c.args.toList.map (HC ρ)++bb) (first++c.args.map a.eval++A).toList:=by simp only[Array.toList_append];refine cJ _ _ _ _ (cJ _ _ _ _ h2 ?_) h3;have:=Cd Z c.args.toList (fun x hx=>hn▸hb x (by simp[hc,Array.mem_toList_iff.1 hx]));simpa using this
       have ae:(execOp a.eval o).run P w=.ok (.enter g (first++c.args.map a.eval++A)) w:=by simp only[execOp,ho];rw[lN hc ar];simp[invoke,nX ax]
       refine eG hw ?_;have I:=h S w _ E al;unfold Oper.wp;rw[ae];simp only[Oper.upon,Array.toArray_toList]at I |-;refine I.mono fun e w' ⟨v,r,H',S',he,hr,aw,hv,av,ap⟩=>?_
       subst he;exact hK _ _ _ _ hr (Rel.step E Z hG hN hd hn aw av ap hv)
     rw[if_neg a9]at h;obtain⟨ys,h2,ai⟩:=lE Z c.args.toList (fun x hx=>hn▸hb x (by simp[hc,Array.mem_toList_iff.1 hx])) h;clear h;obtain⟨ax,h⟩:=h2;have bk:=fun hg=>zS ba (hf hg _ (cC Z (hn▸hb f (by simp[hc]))))
     have J:gt G->∃first A:Array Value,a.eval f=.func (.func g) first A/\aW S w (a7++ys++bb) (first++c.args.map a.eval++A).toList:=fun hg=>by obtain⟨first,A,h1,h2,h3⟩:=bk hg;refine⟨first,A,h1,?_⟩;simp only[Array.toList_append];refine cJ _ _ _ _ (cJ _ _ _ _ h2 ?_) h3;simpa using ai hg
     split at h
     . rename_i aa;obtain⟨ah,_⟩:=aa;subst ah;have hw:=cO ac rfl;obtain⟨first,A,ar,al⟩:=J trivial;have ae:(execOp a.eval o).run P w=.ok (.enter g (first++c.args.map a.eval++A)) w:=by simp only[execOp,ho];rw[lN hc ar];simp[invoke,nX ax]
       refine eG hw ?_;have I:=h S w _ E al;unfold Oper.wp;rw[ae];simp only[Oper.upon,Array.toArray_toList]at I |-;refine I.mono fun e w' ⟨v,r,H',S',he,hr,aw,hv,av,ap⟩=>?_
       subst he;exact hK _ _ _ _ hr (Rel.step E Z hG hN hd hn aw av ap hv)
     . obtain⟨r,hq,hk⟩:=h;refine⟨fun hw=>?_,fun hw=>?_⟩
       . have M:=ac.1 hw;obtain⟨first,A,ar,al⟩:=J M;have ae:(execOp a.eval o).run P w=.ok (.enter g (first++c.args.map a.eval++A)) w:=by simp only[execOp,ho];rw[lN hc ar];simp[invoke,nX ax]
         rcases hq M with hq|⟨x,rfl,bn⟩
         . obtain⟨v,bf⟩:=hq.val;obtain⟨hv,I⟩:=hq.calls bf E al;rw[JC (by rw[bf];rfl)]at hk;unfold Oper.wp;rw[ae];simp only[Oper.upon,Array.toArray_toList]at I |-;refine I.mono fun e w' ⟨he,p1,p2,p3,p4,p5⟩=>?_
           subst he;exact hK _ _ _ _ hk (Rel.step E Z hG hN hd hn (E.after p4 p5) (E.grow p1 p2 p3 p4 p5) (eF.refl _ _) (eD M (hv S w')))
         . cases aq with
           | true=>exact hk.elim
           | false=>
             have I:=(PC.use (H:=H) bn (K:=fun y H'=>y=x/\H'=H) ⟨rfl,rfl⟩) S w _ E al;unfold Oper.wp;rw[ae];simp only[Oper.upon,Array.toArray_toList]at I |-;refine I.mono fun e w' ⟨v,r,H',S',he,⟨hr,hH⟩,aw,hv,av,ap⟩=>?_
             subst he hr hH;exact hK _ _ _ _ hk (Rel.step E Z hG hN hd hn aw av ap (eD M hv))
       . have M:¬gt G:=fun h=>by rw[ac.2 h]at hw;simp at hw
         obtain⟨z,hk⟩:=KU hk;exact hK _ _ _ _ hk (Rel.step E Z hG hN hd hn E (Grow.refl S w) (eF.refl _ _) (dH M))
   . exact h.elim
 . exact h.elim
end
end Go.Aw
end
section
namespace Go.Aw
open Go.RowKit
section
variable{P:Program}{n:Nat}{S0:Sg}{w0:World}{H0:aG}{mt:Nat->Bool}{ops:Array Oper}{K:Env->aG->Prop}{K':Act->World->Prop}{Q':Exit->Act->World->Prop}{ρ:Env}{H:aG}{a:Act}{w:World}{o:Oper}{S:Sg}
def rR{w':World}(h:(execOp a.eval o).run P w=.ok .skip w')(A:K' (a.put o.dst undef) w'):o.wp P a w K' Q':=by unfold Oper.wp;rw[h];exact A
def Jt{s:Sem Value}{v:Value}{w w':World}(h:s.run P w=.ok v w'):(do pure (Next.value (<-s)):Sem Next).run P w=.ok (.value v) w':=by simp[h]
def II{t:TypeId}{l:Option Nat}(O:ldT P t=some l){v:Value}{vs:List Value}(F:v.cells=List.toArray vs)(E:vs.length=l.getD 1){g p:Nat}{w w':World}(A:l=none->∃i,P.info? t=some i/\i.size=1)
  (M:(storeCells ⟨g,p,none⟩ vs).run P w=.ok () w'):(Instr.storeAt t (.pointer (some ⟨g,p,none⟩)) v).run P w=.ok () w':=by
 have I:(sizeOf t).run P w=.ok vs.length w:=by
  cases l with
  | none=>obtain⟨i,J,h1⟩:=A rfl;simp[sizeOf,typeInfo,J,h1,E]
  | some m=>rw[rE O,E];rfl
 simp[Instr.storeAt,Instr.sureAddr,storeVar,I,F,M]
def wF(z:Array Value)(F:0<z.size):∀m,(madeCells z (m*z.size)).toList=(List.replicate m z.toList).flatten
 | 0=>by simp[madeCells]
 | m+1=>by
  have ih:=wF z F m;rw[show List.replicate (m+1) z.toList=List.replicate m z.toList++[z.toList]from List.replicate_succ',List.flatten_append,<-ih];simp only[madeCells,Array.toList_map,Array.toList_range,Nat.add_mul,Nat.one_mul,List.flatten_cons,List.flatten_nil,List.append_nil];rw[List.range_add,List.map_append]
  congr 1
  apply List.ext_getElem
  ·simp
  ·intro i h1 E;have A:i<z.size:=by simpa using E
   simp[Nat.add_mod,Nat.mod_eq_of_lt A,A]
def EU:∀(cs:List AV) (l:List Value) (j:Nat) {x:AV},aW S w cs l->(∀u,l[j]?=some u->rep S w x u)->aW S w (cs.set j x) l
 | [],_,_,_,h,_=>h
 | y::r,l,0,x,h,hx=>by simp only[aW,List.set_cons_zero]at h |-;obtain⟨u,t,rfl,h1,A⟩:=h;exact⟨u,t,rfl,hx u (by simp),A⟩
 | y::r,l,j+1,x,h,hx=>by simp only[aW,List.set_cons_succ]at h |-;obtain⟨u,t,rfl,h1,A⟩:=h;exact⟨u,t,rfl,h1,EU r t j A fun u E=>hx u (by simpa using E)⟩
def mV:∀(nl:List (Nat×TypeId×Nat)) (z:List AV) (S:Sg) (H:aG) (vs:List Value) {K:List AV->aG->Prop},(∀x∈nl,vs[x.1]?=some (.slice none 0 0)/\0<x.2.2)->St S w H->aW S w z vs->gX nl z H K ->
  ∃A S' H',K A H'/\St S' w H'/\Grow S w S' w/\eF S.N H H'/\aW S' w A vs/\A.length=z.length
 | [],z,S,H,vs,K,_,hS,hr,h=>⟨z,S,H,h,hS,Grow.refl S w,eF.refl _ _,hr,rfl⟩
 | x::r,z,S,H,vs,K,hn,hS,hr,h=>by obtain⟨h0,E⟩:=hn x (by simp);have q:=hS.nilRow x.2.1 E;have I:=EU z vs x.1 (x:=.os S.N) (cZ q.2.le (q.2.kept hS) _ _ hr) (fun u F=>by rw[h0]at F;injection F with F;subst F;simp only[rep,Sg.addRow,if_true];exact⟨Nat.lt_succ_self _,trivial,_,_,_,rfl⟩);obtain⟨A,S',H',h1,J,M,U,X,T⟩:=mV r _ _ _ vs (fun y O=>hn y (by simp[O])) q.1 I (h S.N hS.fresh);exact⟨A,S',H',h1,J,q.2.trans M,(lM hS).trans U q.2.le.N,X,by simpa using T⟩
def zI{P:Program}{t:TypeId}{nl:List (Nat×TypeId×Nat)}(h:nU P t=some nl){i:TypeInfo}{v:Value}(F:P.info? t=some i)(I:i.zero=some v):∀x∈nl,v.cells.toList[x.1]?=some (.slice none 0 0)/\0<x.2.2:=by
 unfold nU at h;rw[F]at h;simp only[I]at h;split at h
 ·rename_i A;injection h with h;subst h;intro x E;have:=List.all_eq_true.1 A x E;simp only[Bool.and_eq_true,decide_eq_true_eq]at this;refine⟨?_,this.2⟩;have h1:=this.1;unfold WJ at h1;split at h1
  ·rename_i e;exact e
  ·simp at h1
 ·simp at h
def J9{t:TypeId}{z:List AV}(Z:St S w H)(hF:FR S w ρ a)(hG:Grow S0 w0 S w)(hN:eF S0.N H0 H)(hd:a.defers=[])(hn:a.tmps.size=n)(ho:o.op=.alloc t)(hz:cM P t=some z)
  (hw:Region.wanted o (yielded ops a.tmps)=true) (hK:∀I H' Y w',K I H'->Rel n S0 w0 H0 I H' Y w'->K' Y w') {nl:List (Nat×TypeId×Nat)} (O:nU P t=some nl)
  (h:gX nl z H fun z H=>mB H ⟨t,z.length,[z]⟩ fun k H'=>K (upd ρ o.dst (.op k 0 0)) H'):uR P ops o a w K' Q':=by
 obtain⟨i,v,hi,F,rfl,aa,ab,h1⟩:=lB hz;have J:(Instr.alloc t true (.tuple #[])).run P w=.ok (.pointer (some ⟨w.heap.size,0,none⟩)) (w.alloc (.cells v.cells t)):=by simp[Instr.alloc,zeroValue,typeInfo,hi,F,newVar,newRow]
 have T:∀x∈nl,v.cells.toList[x.1]?=some (.slice none 0 0)/\0<x.2.2:=zI O hi F;obtain⟨z',S',H',q0,A,E,U,M,X⟩:=mV nl _ S H v.cells.toList T Z (jY _) h;obtain⟨S2,q1,q2,q3⟩:=A5 (t:=t) (cs:=z') (l:=v.cells.toList) A (by rw[X];simp;omega) M h1;refine eG hw (cX (v:=.pointer (some ⟨w.heap.size,0,none⟩)) (w':=w.alloc (.cells v.cells t)) (by simp[execOp,ho,J]) (hK _ _ _ _ (q0 S'.N A.fresh) (Rel.step A (hF.keep E.le (E.kept Z)) (hG.trans E) (hN.trans U hG.le.N) hd hn (by simpa using q1) (by simpa using q2) (lM A) (by simpa using q3))))
def Ch{t:TypeId}{x y:Operand}{x':AV}{cs:List AV}{l:List Value}(O:St S w H)(hF:FR S w ρ a)(hG:Grow S0 w0 S w)(hN:eF S0.N H0 H)(hd:a.defers=[])(hn:a.tmps.size=n)(ho:o.op=.store t x y)
  (hw:Region.wanted o (yielded ops a.tmps)=true) (hK:∀J H' Z w',K J H'->Rel n S0 w0 H0 J H' Z w'->K' Z w') (ex:rep S w x' (a.eval x)) (e1:(a.eval y).cells=l.toArray) (e2:aW S w cs l) (e3:∀u∈l,u.oneCell'=true)
  (F:vN P o t x' cs ρ H K):uR P ops o a w K' Q':=by
 unfold vN at F;split at F
 ·rename_i k i f;split at F
  ·rename_i r ld U T;obtain⟨⟨c1,c2,c3,c4⟩,h5⟩:=F;simp only[rep]at ex;obtain⟨_,g,m,c,E,ep⟩:=ex;obtain⟨g',n',c',w',A,M,q1,q2⟩:=O.store U c1 c3 E e2 e3;rw[E]at A;injection A with I i2 i3;injection I with I;injection I with I;subst I;rw[<-(O.rows k r U).sz]at ep;have Y:=II (P:=P) T e1 (by rw[eZ _ _ e2,c2]) (by intro X;subst X;exact c4 rfl) (M P);refine eG hw (rR (w':=w') ?_ (hK _ _ _ _ h5 (Rel.step O hF hG hN hd hn q1 q2 ?_ (by simp only[rep]))))
   ·simp[execOp,ho,ep,Y]
   ·intro j _ h0;rw[aD _ _ _ _ (fun e=>by subst e;rw[U]at h0;simp at h0)];exact h0
  ·exact F.elim
 ·exact F.elim
def P2:∀(x:List AV) (l:List Value) (j:Nat) (v:Value),aW S w x l->x[j]?=some (.v v)->l[j]?=some v
 | [],_,_,_,_,h=>by simp at h
 | a::r,l,0,v,h,hx=>by
  simp only[aW]at h;obtain⟨u,t,rfl,h1,A⟩:=h;have e:a=.v v:=by simpa using hx
  subst e;simp only[rep]at h1;simp[h1]
 | a::r,l,j+1,v,h,hx=>by simp only[aW]at h;obtain⟨u,t,rfl,h1,A⟩:=h;simpa using P2 r t j v A (by simpa using hx)
def zZ{t:TypeId}{x y:Operand}{x':AV}{cs:List AV}{l:List Value}(J:St S w H)(Y:FR S w ρ a)(T:Grow S0 w0 S w)(Z:eF S0.N H0 H)(hd:a.defers=[])(hn:a.tmps.size=n)(ho:o.op=.store t x y)
  (hw:Region.wanted o (yielded ops a.tmps)=true) (hK:∀I H' a' w',K I H'->Rel n S0 w0 H0 I H' a' w'->K' a' w') (ex:rep S w x' (a.eval x)) (e1:(a.eval y).cells=l.toArray) (M:aW S w cs l) (e3:∀u∈l,u.oneCell'=true)
  (F:qJ P o t x' cs ρ H K):uR P ops o a w K' Q':=by
 rcases F with F|⟨_,nl,E,F⟩
 ·exact Ch J Y T Z hd hn ho hw hK ex e1 M e3 F
 ·obtain⟨z',S',H',q0,O,A,X,U,aa⟩:=mV nl _ S H l (fun x hx=>⟨P2 _ _ _ _ M (E x hx).1,(E x hx).2⟩) J M F;exact Ch O (Y.keep A.le (A.kept J)) (T.trans A) (Z.trans X T.le.N) hd hn ho hw hK (jM A.le (A.kept J) _ _ ex) e1 U e3 q0
def GI{w:World}:∀(nl:List (Nat×TypeId×Nat)) (z:List AV) (vs:List Value),(∀x∈nl,vs[x.1]?=some (.slice none 0 0))->aW S w z vs->aW S w (Gu nl z) vs
 | [],z,vs,_,h=>h
 | x :: r, z, vs, hn, h => GI r _ vs (fun y E => hn y (by simp [E])) (EU z vs x.1 h fun u A => by rw[hn x (by simp)]at A;injection A with A;simp only[rep];exact A.symm)
def Ca{o:Oper}{w1:World}{t:TypeId}{A:Array (Nat×Operand)}(hF:FR S w1 ρ a)(hb:∀x∈o.op.operands,opB a.tmps.size x=true)(X:o.op=.build t A)
  (h:wR P o t A.toList ρ H K):∃z,K (upd ρ o.dst z) H/\∃v,rep S w1 z v/\∀w,(execOp a.eval o).run P w=.ok (.value v) w:=by
 unfold wR at h;obtain⟨ps,h,I⟩:=lS hF A.toList (fun p hp=>hb p.2 (by rw[X];simpa[Op.operands]using⟨p.1,by simpa using hp⟩)) h;split at h
 ·rename_i z pl nl hz M F;obtain⟨e1,e2⟩:=I trivial;obtain⟨i,v,U,E,rfl,Z,aa,h1⟩:=lB hz;split at h
  ·rename_i cs J;obtain⟨O,T,f2,f3⟩:=rB (S:=S) (w:=w1) U E h1 (GI nl _ _ (fun x hx=>(zI F U E x hx).1) (jY _)) M J e1 (fun j i c Y=>e2 j i c Y);refine⟨_,h,.agg O,?_,fun w=>?_⟩
   ·simp only[rep];exact⟨O.toList,by simp,f2,f3⟩
   ·have:(A.map fun(p:Nat×Operand)=>(p.1,a.eval p.2)).toList=A.toList.map fun p=>(p.1,a.eval p.2):=by simp
    rw[<-this]at T;simp only[execOp,X];exact wT (run_build w t _ O T)
  ·exact h.elim
 ·exact h.elim
def H5{t:TypeId}{A:Array (Nat×Operand)}(J:St S w H)(F:FR S w ρ a)(X:Grow S0 w0 S w)(M:eF S0.N H0 H)(T:a.defers=[])(Z:a.tmps.size=n)(U:o.op=.build t A)(hb:∀x∈o.op.operands,opB a.tmps.size x=true)
  (hw:Region.wanted o (yielded ops a.tmps)=true) (hK:∀E H' I w',K E H'->Rel n S0 w0 H0 E H' I w'->K' I w') (h:wR P o t A.toList ρ H K):uR P ops o a w K' Q':=by
 obtain⟨z,Y,v,hv,O⟩:=Ca (S:=S) (w1:=w) F hb U h;exact eG hw (cX (v:=v) (w':=w) (O w) (hK _ _ _ _ Y (Rel.step J F X M T Z J (Grow.refl S w) (eF.refl _ _) hv)))
def IS{t:TypeId}{A:Array (Nat×Operand)}(T:St S w H)(hF:FR S w ρ a)(hG:Grow S0 w0 S w)(hN:eF S0.N H0 H)(hd:a.defers=[])(hn:a.tmps.size=n)(ho:o.op=.build t A)(hb:∀x∈o.op.operands,opB a.tmps.size x=true)
  (hw:Region.wanted o (yielded ops a.tmps)=true) (hK:∀J H' a' w',K J H'->Rel n S0 w0 H0 J H' a' w'->K' a' w') (h:Af P o t A.toList ρ H K):uR P ops o a w K' Q':=by
 unfold Af at h;obtain⟨ps,h,U⟩:=lS hF A.toList (fun p hp=>hb p.2 (by rw[ho];simpa[Op.operands]using⟨p.1,by simpa using hp⟩)) h;split at h
 ·rename_i z pl nl hz Z O;obtain⟨e1,e2⟩:=U trivial;obtain⟨i,v,hi,I,rfl,ab,ac,h1⟩:=lB hz;obtain⟨z',S',H',Y,F,E,aa,M,ae⟩:=mV nl _ S H v.cells.toList (zI O hi I) T (jY _) h;split at Y
  ·rename_i cs X;obtain⟨A',f1,f2,f3⟩:=rB (S:=S') (w:=w) (z:=z') hi I h1 M Z X e1 (fun j i c hj=>by obtain⟨u,l,g1,g2,g3,g4⟩:=e2 j i c hj;exact⟨u,l,g1,g2,cZ E.le (E.kept T) _ _ g3,g4⟩);refine eG hw (cX (v:=.agg A') (w':=w) ?_ (hK _ _ _ _ Y (Rel.step F (hF.keep E.le (E.kept T)) (hG.trans E) (hN.trans aa hG.le.N) hd hn F (Grow.refl S' w) (eF.refl _ _) ?_)))
   ·have:(A.map fun(p:Nat×Operand)=>(p.1,a.eval p.2)).toList=A.toList.map fun p=>(p.1,a.eval p.2):=by simp
    rw[<-this]at f1;simp only[execOp,ho];exact wT (run_build w t _ A' f1)
   ·simp only[rep];exact⟨A'.toList,by simp,f2,f3⟩
  ·exact Y.elim
 ·exact h.elim
def CI{t:TypeId}{x:Operand}{K2:AV->Prop}(E:St S w H)(X:FR S w ρ a)(Z:Grow S0 w0 S w)(hN:eF S0.N H0 H)(hd:a.defers=[])(hn:a.tmps.size=n)(Y:o.op=.store t x (.const (.slice none 0 0)))(hb:∀x∈o.op.operands,opB a.tmps.size x=true)
   (hw:Region.wanted o (yielded ops a.tmps)=true) (hK:∀F H' U w',K F H'->Rel n S0 w0 H0 F H' U w'->K' U w')
   (h : bK none (aev ρ x) fun y => match bN P t with
       | some (e,sz,_)=>mB H ⟨e,sz,[]⟩ fun k H=>qJ P o t y [.os k] ρ H K
       | none=>False):uR P ops o a w K' Q':=by
 obtain⟨x',O,M⟩:=aS (S:=S) (w:=w) h;have T:opB a.tmps.size x=true:=hb x (by simp[Y,Op.operands]);have ex:=M trivial _ (cC X T);split at O
 . rename_i e sz I he;obtain⟨i,z,hu,hi,aa,_,A,_⟩:=eN he;have q:=E.nilRow e A;have h3:=O S.N E.fresh;have J:=lM E (r:=some ⟨e,sz,[]⟩);refine zZ q.1 (X.keep q.2.le (q.2.kept E)) (Z.trans q.2) (hN.trans J Z.le.N) hd hn Y hw hK (jM q.2.le (q.2.kept E) _ _ ex) (l:=[.slice none 0 0]) (by simp[Act.eval,Value.cells]) ?_ (by simp[Value.oneCell']) h3;simp only[aW,rep,Sg.addRow,if_true];exact⟨_,_,rfl,⟨Nat.lt_succ_self _,rfl,_,_,_,rfl⟩,rfl⟩
 . exact O.elim
def HE{x:Operand}(I:St S w H)(hF:FR S w ρ a)(hG:Grow S0 w0 S w)(hN:eF S0.N H0 H)(hd:a.defers=[])(hn:a.tmps.size=n)(ho:o.op=.move x)(hb:∀x∈o.op.operands,opB a.tmps.size x=true)
  (hw:Region.wanted o (yielded ops a.tmps)=true) (hK:∀U H' a' w',K U H'->Rel n S0 w0 H0 U H' a' w'->K' a' w') (h:wZ x ρ o.dst H K):uR P ops o a w K' Q':=by
 unfold wZ at h;split at h
 ·rename_i t;split at h
  ·rename_i j hj;split at h
   ·rename_i r hr;have ab:=hb (.tmp t) (by simp[ho,Op.operands]);have hv:rep S w (ρ t) (a.eval (.tmp t)):=cC (x:=.tmp t) hF ab;rw[hj]at hv
    let Hf:aG:=fun k=>if k=j then H k else none
    let Hr:aG:=fun k=>if k=j then none else H k
    have O:∀k r',Hf k=some r'->k=j/\H k=some r':=fun k r' A=>by
     by_cases e:k=j
     ·exact⟨e,by simpa[Hf,e]using A⟩
     ·simp[Hf,e]at A
    have F:∀k r',Hr k=some r'->k≠j/\H k=some r':=fun k r' A=>by
     by_cases e:k=j
     ·simp[Hr,e]at A
     ·exact⟨e,by simpa[Hr,e]using A⟩
    have Z:St S w Hf:=I.drop fun k r' A=>(O k r' A).2
    have T:rep (S.froze Hf) w (.sl r.es) (a.eval (.tmp t)):=Conv.rep Z (Conv.row j r r.es (by simp[Hf,hr]) (ConvE.refl _)) hv;have J:St (S.froze Hf) w Hr:=by
     refine⟨?_,?_,fun k r' A=>(I.rows k r' (F k r' A).2).keep (S.le_froze Hf) (eQ.refl S w) (fun _ _=>rfl),?_,fun k k' r1 r2 A X aa g E ac=>I.disj k k' r1 r2 (F k r1 A).2 (F k' r2 X).2 aa g E ac,I.tabs.keep (S.le_froze Hf) (eQ.refl S w)⟩
     ·rintro g (E|E)
      ·exact .inl (I.ro_fz g E)
      ·exact .inr E
     ·rintro g (E|⟨k,r',A,E⟩)
      ·exact I.fz_lt g E
      ·exact(I.rows k r' (O k r' A).2).block_lt E
     ·rintro k r' A g E (h1|⟨i,r2,hi,h2⟩)
      ·exact I.free k r' (F k r' A).2 g E h1
      ·exact I.disj k i r' r2 (F k r' A).2 (O i r2 hi).2 (fun e=>(F k r' A).1 (e.trans (O i r2 hi).1)) g E h2
    have E:Grow S w (S.froze Hf) w:=by
     refine⟨S.le_froze Hf,fun k A=>.inl A,rfl,rfl,rfl,Nat.le_refl _,fun _ _=>rfl,?_⟩;rintro g (E|⟨k,r',A,E⟩)
     ·exact .inl E
     ·exact .inr (I.free k r' (O k r' A).2 g E)
    have Y:FR (S.froze Hf) w (upd ρ (some t) (.sl r.es)) a:=fun t' M=>by
     by_cases e:t'=t
     ·subst e;have h1:=T;simp only[upd,if_true];simpa[Act.eval,Array.getD,M]using h1
     ·simp only[upd,if_neg e];exact(hF.keep (S.le_froze Hf) (eQ.refl S w)) t' M
    have A:=h Hr (by simp[Hr]) (fun k A=>by simp[Hr,A]);refine eG hw (cX (v:=a.eval (.tmp t)) (w':=w) ?_ (hK _ _ _ _ A (Rel.step J Y (hG.trans E) (hN.trans (fun k _ h0=>by
     by_cases e:k=j
     ·simp[Hr,e]
     ·simp[Hr,e,h0]) hG.le.N) hd hn J (Grow.refl _ _) (eF.refl _ _) T)))
    simp[execOp,ho]
   ·exact h.elim
  ·exact h.elim
 ·exact h.elim
def Du{l:List Nat}:∀{xs A:List AV},Gb l H xs A->ConvL (fun k=>if k∈l then H k else none) xs A
 | [],[],_=>.nil
 | x::xs,y::A,h=>by
  simp only[Gb]at h;obtain⟨h1,E⟩:=h;refine .cons _ _ _ _ ?_ (Du E);rcases h1 with rfl|⟨j,r,F,rfl,I,rfl⟩
  ·exact .refl _
  ·exact .row j r r.es (by rw[if_pos F];exact I) (ConvE.refl _)
 | [],_::_,h=>by simp[Gb]at h
 | _::_,[],h=>by simp[Gb]at h
def V7{x y:AV}{d:Option Nat}{l:List Nat}{X:Act}{w':World}(hR:Rel n S0 w0 H0 (upd ρ d x) H X w')(hc:Conv (fun k=>if k∈l then H k else none) x y):Rel n S0 w0 H0 (upd ρ d y) (fun k=>if k∈l then none else H k) X w':=by
 obtain⟨S,I,hF,hG,hN,hd,hn⟩:=hR
 let Hf:aG:=fun k=>if k∈l then H k else none
 let Hr:aG:=fun k=>if k∈l then none else H k
 have M:∀k r',Hf k=some r'->k∈l/\H k=some r':=fun k r' A=>by
  by_cases e:k∈l
  ·exact⟨e,by simpa[Hf,e]using A⟩
  ·simp[Hf,e]at A
 have F:∀k r',Hr k=some r'->¬k∈l/\H k=some r':=fun k r' A=>by
  by_cases e:k∈l
  ·simp[Hr,e]at A
  ·exact⟨e,by simpa[Hr,e]using A⟩
 have Y:St S w' Hf:=I.drop fun k r' A=>(M k r' A).2
 have U:St (S.froze Hf) w' Hr:=by
  refine⟨?_,?_,fun k r' A=>(I.rows k r' (F k r' A).2).keep (S.le_froze Hf) (eQ.refl S w') (fun _ _=>rfl),?_,fun k k' r1 r2 A O Z g E aa=>I.disj k k' r1 r2 (F k r1 A).2 (F k' r2 O).2 Z g E aa,I.tabs.keep (S.le_froze Hf) (eQ.refl S w')⟩
  ·rintro g (E|E)
   ·exact .inl (I.ro_fz g E)
   ·exact .inr E
  ·rintro g (E|⟨k,r',A,E⟩)
   ·exact I.fz_lt g E
   ·exact(I.rows k r' (M k r' A).2).block_lt E
  ·rintro k r' A g E (h1|⟨i,r2,hi,h2⟩)
   ·exact I.free k r' (F k r' A).2 g E h1
   ·exact I.disj k i r' r2 (F k r' A).2 (M i r2 hi).2 (fun e=>(F k r' A).1 (e▸(M i r2 hi).1)) g E h2
 have E:Grow S w' (S.froze Hf) w':=by
  refine⟨S.le_froze Hf,fun k A=>.inl A,rfl,rfl,rfl,Nat.le_refl _,fun _ _=>rfl,?_⟩;rintro g (E|⟨k,r',A,E⟩)
  ·exact .inl E
  ·exact .inr (I.free k r' (M k r' A).2 g E)
 have T:FR (S.froze Hf) w' (upd ρ d y) X:=fun t' J=>by
  have h1:=hF t' J;cases d with
  | none=>exact hF.keep (S.le_froze Hf) (eQ.refl S w') t' J
  | some d=>
   by_cases e:t'=d
   ·subst e;simp only[upd,if_true]at h1 |-;exact Conv.rep Y hc h1
   ·simp only[upd,if_neg e]at h1 |-;exact jM (S.le_froze Hf) (eQ.refl S w') _ _ h1
 exact⟨S.froze Hf,U,T,hG.trans E,hN.trans (fun k _ h0=>by
  by_cases e:k∈l
  ·simp[e]
  ·simp[e,h0]) hG.le.N,hd,hn⟩
def M2{G:Option Bool}{l:Option Nat}{y:AV}{E K2:AV->Prop}(A:∀z,E z->K2 z)(h:lY G H l y E):lY G H l y K2:=by
 unfold lY at h |-;cases y with
 | rp cs off=>cases l <;> exact⟨h.1,A _ h.2⟩
 | op k i f=>
  simp only at h |-;cases F:H k with
  | none=>rw[F]at h;exact h.elim
  | some r=>rw[F]at h;cases l <;> exact⟨h.1,A _ h.2⟩
 | _=>exact h.elim
def QX{G:Option Bool}{x:AV}{E K2:AV->Prop}(A:∀z,E z->K2 z)(h:bK G x E):bK G x K2:=by
 unfold bK at h |-;split at h
 ·exact⟨h.1,A _ h.2⟩
 ·exact A _ h
def CU{G:Option Bool}{t:TypeId}{x:Operand}{A K2:AV->Prop}(I:∀z,A z->K2 z)(h:fR P G ρ H (.load t x) A):fR P G ρ H (.load t x) K2:=by
 simp only[fR]at h |-;cases E:ldT P t with
 | none=>rw[E]at h;exact h.elim
 | some l=>rw[E]at h;exact QX (fun y F=>M2 I F) h
def Oy{t:TypeId}{x:Operand}(Y:St S w H)(J:FR S w ρ a)(U:Grow S0 w0 S w)(M:eF S0.N H0 H)(O:a.defers=[])(Z:a.tmps.size=n)(T:o.op=.load t x)(hb:∀x∈o.op.operands,opB n x=true)
  (I:Region.wanted o (yielded ops a.tmps)=true↔gt none) (hK:∀A H' F w',K A H'->Rel n S0 w0 H0 A H' F w'->K' F w') (h:fR P none ρ H (.load t x) fun x=>GN x ρ o.dst H K):uR P ops o a w K' Q':=by
 refine oQ (K:=fun A H'=>∃z,A=upd ρ o.dst z/\H'=H/\GN z ρ o.dst H K) Y J U M O Z hb I ?_ (by rw[T];exact CU (fun z E=>⟨z,rfl,rfl,E⟩) h);rintro A H' F w' ⟨z,rfl,rfl,E⟩ hR;unfold GN at E;split at E
 ·obtain⟨l,ys,X,hk⟩:=E;exact hK _ _ _ _ (hk (fun k=>if k∈l then none else H' k) (fun k e=>if_pos e) (fun k e=>if_neg e)) (V7 hR (.agg _ _ (Du X)))
 ·exact E.elim
def CY{t:TypeId}{l c:Operand}(Z:St S w H)(hF:FR S w ρ a)(hG:Grow S0 w0 S w)(hN:eF S0.N H0 H)(hd:a.defers=[])(hn:a.tmps.size=n)(ho:o.op=.makeSlice t l c)(hb:∀x∈o.op.operands,opB a.tmps.size x=true)
  (hw:Region.wanted o (yielded ops a.tmps)=true) (hK:∀Y H' a' w',K Y H'->Rel n S0 w0 H0 Y H' a' w'->K' a' w')
  (h:bK none (aev ρ l) fun l=>bK none (aev ρ c) fun c=>pI P o t l c ρ H K):uR P ops o a w K' Q':=by
 rw[ho]at hb;simp only[Op.operands]at hb;obtain⟨l',h2,hl⟩:=aS (S:=S) (w:=w) h;obtain⟨c',I,hc⟩:=aS (S:=S) (w:=w) h2;have el:=hl trivial _ (cC hF (hb l (by simp)));have ec:=hc trivial _ (cC hF (hb c (by simp)));unfold pI at I;split at I
 ·rename_i kl x kc y;simp only[rep]at el ec;split at I
  ·rename_i e sz A he;split at I
   ·rename_i z hz;obtain⟨⟨⟨p1,p2⟩,p3⟩,h4⟩:=I;obtain⟨i,v,hi,ab,rfl,aa,ai,h1⟩:=lB hz;obtain⟨i',z',ae,F,J,U,X,af,ag,aj⟩:=eN he;rw[hi]at F;injection F with F;subst F;have E:v.cells.size=sz:=by rw[aa,J]
    have ah:y<=(A:Int)*y:=by have:(1:Int)*y<=(A:Int)*y:=Int.mul_le_mul_of_nonneg_right (by omega) (by omega);omega
    have M:=run_make (P:=P) w t e i v ae hi ab kl kc x y p1 p2 (by rw[U];omega) (by omega);have hm:(madeCells v.cells (y.toNat*sz)).toList=(List.replicate y.toNat v.cells.toList).flatten:=by rw[<-E];exact wF _ (by omega) _
    have O:(madeCells v.cells (y.toNat*sz)).toList.take (x.toNat*sz)=(List.replicate x.toNat v.cells.toList).flatten:=by
     rw[hm,<-E];have:y.toNat=x.toNat+(y.toNat-x.toNat):=by omega
     rw[this,<-List.replicate_append_replicate,List.flatten_append,List.take_append_of_le_length (by simp[List.length_flatten]),List.take_of_length_le (by simp[List.length_flatten])]
    have T:∀m,aW S w (List.replicate m (v.cells.toList.map nC)).flatten (List.replicate m v.cells.toList).flatten:=by
     intro m;induction m with
     | zero=>simp[aW]
     | succ m ih=>simp only[List.replicate_succ,List.flatten_cons];exact cJ _ _ _ _ (jY _) ih
    rw[J]at M;have q:=Z.newRow (e:=e) (sz:=sz) (cap:=y.toNat) (es:=List.replicate x.toNat (v.cells.toList.map nC)) (xs:=(List.replicate x.toNat v.cells.toList).flatten) (cur:=madeCells v.cells (y.toNat*sz)) X
     (fun cs ac=>by rw[List.eq_of_mem_replicate ac];simp[E]) (T _) (fun u hu=>by obtain⟨l,hl,hu⟩:=List.mem_flatten.1 hu;rw[List.eq_of_mem_replicate hl]at hu;exact h1 u hu) (by rw[List.length_replicate];omega) (by simp only[maxLen];omega) (size_madeCells _ _) (by rw[List.length_replicate];exact O) (w':=w.alloc (.cells (madeCells v.cells (y.toNat*sz)) e)) rfl rfl rfl rfl
    refine eG hw (cX (v:=.slice (some ⟨w.heap.size,0,none⟩) x.toNat y.toNat) (w':=w.alloc (.cells (madeCells v.cells (y.toNat*sz)) e)) ?_ (hK _ _ _ _ (h4 S.N Z.fresh) (Rel.step Z hF hG hN hd hn q.1 q.2 (lM Z) ?_)))
    ·simp only[execOp,ho,el,ec];exact Jt M
    ·simp only[rep,Sg.addRow,if_true,List.length_replicate];exact⟨Nat.lt_succ_self _,trivial,_,_,_,rfl⟩
   ·exact I.elim
  ·exact I.elim
 ·exact I.elim
def Eg{A new:Value}(h:∀n,Instr.sameBits (n+1) A new=true)(w:World):(Instr.keyThatStays A new).run P w=.ok new w:=by have:=h 9999;simp[Instr.keyThatStays,this]
def qL{ms:List MapEntry}{i:Nat}{m:MapEntry}(E:ms[i]?=some m)(f:MapEntry->MapEntry):ms.modify i f=ms.set i (f m):=by
 apply List.ext_getElem?;intro j;rw[List.getElem?_modify,List.getElem?_set];by_cases e:i=j
 ·subst e;have A:i<ms.length:=(List.getElem?_eq_some_iff.1 E).1;rw[E];simp[A]
 ·simp[e]
def Bk{t:TypeId}{m x:AV}{F:Nat->Row->TypeId×TypeId->Option Nat->Prop}(Y:St S w H){u v:Value}(T:rep S w m u)(hv:rep S w x v)(h:CF P H t m x F):
  ∃j r A E g ms,F j r A E/\H j=some r/\u=.map (some g)/\S.loc j=.map (some g)/\w.heap[g]?=some (.map (List.toArray ms) ms.length)/\iU S w 0 r.es ms/\r.sz=2/\P.underlying t=some (.map A.1 A.2)/\(∀e (w':World),(Instr.checkKey e 10000 A.1 v).run P w'=.ok () w') /\
   ((E=none/\∀w':World,(Instr.findKey A.1 v ms).run P w'=.ok none w') \/
   ∃i m cs,E=some i/\ms[i]?=some m/\r.es[i]?=some cs/\(∀w':World,(Instr.findKey A.1 v ms).run P w'=.ok (some (i,m.val)) w')/\m.key=v/\(∀n,Instr.sameBits (n+1) m.key v=true)/\m.born=i/\aW S w cs [m.key,m.val]):=by
 unfold CF at h;split at h
 ·rename_i j;split at h
  ·rename_i r A M U;split at h
   ·rename_i E hf;obtain⟨hp,h⟩:=h;simp only[rep]at T;obtain⟨_,rfl,g0,J⟩:=T;have O:=(Y.rows j r M).mp J;obtain⟨g,ms,h1,h2,X,h4,Z,h6⟩:=Lh U hp hf O hv;obtain⟨_,_,_,_,_,I⟩:=O;exact⟨j,r,A,E,g,ms,h,M,h1,h1,h2,X,I,h4,Z,h6⟩
   ·exact h.elim
  ·exact h.elim
 ·exact h.elim
def sM{j:Nat}{r:Row}{q:Option Row}(A:H j=some r):eF S.N H (aI H j q):=fun k _ h0=>by rw[aD _ _ _ _ (fun e=>by subst e;rw[A]at h0;cases h0)];exact h0
def CJ{t:TypeId}{m x v:Operand}(O:St S w H)(U:FR S w ρ a)(hG:Grow S0 w0 S w)(hN:eF S0.N H0 H)(hd:a.defers=[])(hn:a.tmps.size=n)(ho:o.op=.mapUpdate t m x v)(T:∀x∈o.op.operands,opB a.tmps.size x=true)
  (hw:Region.wanted o (yielded ops a.tmps)=true) (hK:∀aa H' a' w',K aa H'->Rel n S0 w0 H0 aa H' a' w'->K' a' w')
  (h:bK none (aev ρ m) fun m=>bK none (aev ρ x) fun x=>bK none (aev ρ v) fun v=>jO P o t m x v ρ H K):uR P ops o a w K' Q':=by
 rw[ho]at T;simp only[Op.operands]at T;obtain⟨m',h,hm⟩:=aS (S:=S) (w:=w) h;obtain⟨x',h,hx⟩:=aS (S:=S) (w:=w) h;obtain⟨v',h,hv⟩:=aS (S:=S) (w:=w) h;have em:=hm trivial _ (cC U (T m (by simp)));have ex:=hx trivial _ (cC U (T x (by simp)));have I:=hv trivial _ (cC U (T v (by simp)));unfold jO at h;obtain⟨j,r,kt,oi,g,ms,hk,hj,e0,hl,X,E,M,Z,J,F⟩:=Bk O em ex h;have Y:g<w.heap.size:=(Array.getElem?_eq_some_iff.1 X).1;rcases F with⟨rfl,ab⟩|⟨i,me,cs,rfl,q1,q2,q3,q4,q5,q6,q7⟩
 ·have A:=AL (m:=⟨a.eval x,a.eval v,ms.length⟩) (cs:=[x',v']) 0 _ _ E (by simp[uW _ _ _ E]) (by simp only[aW];exact⟨_,_,rfl,ex,_,_,rfl,I,rfl⟩);have q:=O.setMap hj hl A M Y;refine eG hw (rR (w':={ w with heap:=w.heap.setIfInBounds g (.map (ms++[(⟨a.eval x,a.eval v,ms.length⟩:MapEntry)]).toArray (ms++[(⟨a.eval x,a.eval v,ms.length⟩:MapEntry)]).length) }) ?_ (hK _ _ _ _ hk (Rel.step O U hG hN hd hn q.1 q.2 (sM hj) (by simp only[rep]))));simp[execOp,ho,e0,Instr.mapUpdate,run_underlying Z,MapKept.run_getObj_map X,J,ab,MapKept.run_setObj_map _ X]
 ·have A:=AZ (m:=⟨a.eval x,a.eval v,i⟩) (cs:=[x',v']) 0 _ _ i E (by simp) (by simp only[aW];exact⟨_,_,rfl,ex,_,_,rfl,I,rfl⟩);have q:=O.setMap hj hl A M Y;refine eG hw (rR (w':={ w with heap:=w.heap.setIfInBounds g (.map (ms.set i ⟨a.eval x,a.eval v,i⟩).toArray (ms.set i (⟨a.eval x,a.eval v,i⟩:MapEntry)).length) }) ?_ (hK _ _ _ _ hk (Rel.step O U hG hN hd hn q.1 q.2 (sM hj) (by simp only[rep]))));have ac:=Eg (P:=P) q5;simp[execOp,ho,e0,Instr.mapUpdate,run_underlying Z,MapKept.run_getObj_map X,J,q3,q1,ac,MapKept.run_setObj_map _ X,qL q1,q6]
def H6{t:TypeId}{m x v:Operand}(O:St S w H)(U:FR S w ρ a)(hG:Grow S0 w0 S w)(hN:eF S0.N H0 H)(hd:a.defers=[])(hn:a.tmps.size=n)(ho:o.op=.insert t m x v)(T:∀x∈o.op.operands,opB a.tmps.size x=true)
  (hw:Region.wanted o (yielded ops a.tmps)=true) (hK:∀aa H' a' w',K aa H'->Rel n S0 w0 H0 aa H' a' w'->K' a' w')
  (h:bK none (aev ρ m) fun m=>bK none (aev ρ x) fun x=>bK none (aev ρ v) fun v=>jO P o t m x v ρ H K):uR P ops o a w K' Q':=by
 rw[ho]at T;simp only[Op.operands]at T;obtain⟨m',h,hm⟩:=aS (S:=S) (w:=w) h;obtain⟨x',h,hx⟩:=aS (S:=S) (w:=w) h;obtain⟨v',h,hv⟩:=aS (S:=S) (w:=w) h;have em:=hm trivial _ (cC U (T m (by simp)));have ex:=hx trivial _ (cC U (T x (by simp)));have I:=hv trivial _ (cC U (T v (by simp)));unfold jO at h;obtain⟨j,r,kt,oi,g,ms,hk,hj,e0,hl,X,E,M,Z,J,F⟩:=Bk O em ex h;have Y:g<w.heap.size:=(Array.getElem?_eq_some_iff.1 X).1;rcases F with⟨rfl,ab⟩|⟨i,me,cs,rfl,q1,q2,q3,q4,q5,q6,q7⟩
 ·have A:=AL (m:=⟨a.eval x,a.eval v,ms.length⟩) (cs:=[x',v']) 0 _ _ E (by simp[uW _ _ _ E]) (by simp only[aW];exact⟨_,_,rfl,ex,_,_,rfl,I,rfl⟩);have q:=O.setMap hj hl A M Y;refine eG hw (rR (w':={ w with heap:=w.heap.setIfInBounds g (.map (ms++[(⟨a.eval x,a.eval v,ms.length⟩:MapEntry)]).toArray (ms++[(⟨a.eval x,a.eval v,ms.length⟩:MapEntry)]).length) }) ?_ (hK _ _ _ _ hk (Rel.step O U hG hN hd hn q.1 q.2 (sM hj) (by simp only[rep]))));simp[execOp,ho,e0,Instr.mapUpdate,run_underlying Z,MapKept.run_getObj_map X,J,ab,MapKept.run_setObj_map _ X]
 ·have A:=AZ (m:=⟨a.eval x,a.eval v,i⟩) (cs:=[x',v']) 0 _ _ i E (by simp) (by simp only[aW];exact⟨_,_,rfl,ex,_,_,rfl,I,rfl⟩);have q:=O.setMap hj hl A M Y;refine eG hw (rR (w':={ w with heap:=w.heap.setIfInBounds g (.map (ms.set i ⟨a.eval x,a.eval v,i⟩).toArray (ms.set i (⟨a.eval x,a.eval v,i⟩:MapEntry)).length) }) ?_ (hK _ _ _ _ hk (Rel.step O U hG hN hd hn q.1 q.2 (sM hj) (by simp only[rep]))));have ac:=Eg (P:=P) q5;simp[execOp,ho,e0,Instr.mapUpdate,run_underlying Z,MapKept.run_getObj_map X,J,q3,q1,ac,MapKept.run_setObj_map _ X,qL q1,q6]
def DF{t:TypeId}{m x:Operand}(Y:St S w H)(hF:FR S w ρ a)(hG:Grow S0 w0 S w)(hN:eF S0.N H0 H)(hd:a.defers=[])(hn:a.tmps.size=n)(ho:o.op=.mapEntry t m x)(hb:∀x∈o.op.operands,opB a.tmps.size x=true)
  (hw:Region.wanted o (yielded ops a.tmps)=true) (hK:∀ab H' a' w',K ab H'->Rel n S0 w0 H0 ab H' a' w'->K' a' w')
  (h:bK none (aev ρ m) fun m=>bK none (aev ρ x) fun x=>wU P o t m x ρ H K):uR P ops o a w K' Q':=by
 rw[ho]at hb;simp only[Op.operands]at hb;obtain⟨m',h,hm⟩:=aS (S:=S) (w:=w) h;obtain⟨x',h,hx⟩:=aS (S:=S) (w:=w) h;have em:=hm trivial _ (cC hF (hb m (by simp)));have ex:=hx trivial _ (cC hF (hb x (by simp)));unfold wU at h;obtain⟨j,r,kt,oi,g,ms,O,hj,e0,hl,T,A,ac,aa,U,J⟩:=Bk Y em ex h;have F:g<w.heap.size:=(Array.getElem?_eq_some_iff.1 T).1;rcases J with⟨rfl,af⟩|⟨i,me,cs,rfl,q1,q2,q3,q4,q5,q6,q7⟩
 ·simp only at O;split at O
  ·rename_i z hz;obtain⟨Z,ae,X⟩:=Hg hz;have E:=AL (m:=⟨a.eval x,Z,ms.length⟩) (cs:=[x',z]) 0 _ _ A (by simp[uW _ _ _ A]) (by simp only[aW];exact⟨_,_,rfl,ex,_,_,rfl,X S w,rfl⟩);have q:=Y.setMap hj hl E ac F;refine eG hw (cX (v:=.tuple #[Z,goInt ms.length]) (w':={ w with heap:=w.heap.setIfInBounds g (.map (ms++[(⟨a.eval x,Z,ms.length⟩:MapEntry)]).toArray (ms++[(⟨a.eval x,Z,ms.length⟩:MapEntry)]).length) }) ?_ (hK _ _ _ _ O (Rel.step Y hF hG hN hd hn q.1 q.2 (sM hj) ?_)))
   ·simp[execOp,ho,e0,Instr.mapEntry,run_underlying aa,MapKept.run_getObj_map T,U,af,ae,MapKept.run_setObj_map _ T]
   ·simp only[rep,aW];exact⟨[Z,goInt ms.length],by simp,_,_,rfl,X _ _,_,_,rfl,by rw[<-uW _ _ _ A];rfl,rfl⟩
  ·exact O.elim
 ·simp only at O;have M:ms.set i ⟨a.eval x,me.val,i⟩=ms:=by
   have e0:(⟨a.eval x,me.val,i⟩:MapEntry)=me:=by rw[<-q4,<-q6]
   rw[e0];apply List.ext_getElem?;intro k;rw[List.getElem?_set];by_cases e:i=k
   ·subst e;have F:i<ms.length:=(List.getElem?_eq_some_iff.1 q1).1;rw[q1];simp[F]
   ·simp[e]
  have hm:({ w with heap:=w.heap.setIfInBounds g (.map ms.toArray ms.length) }:World)=w:=by
   have hh:w.heap.setIfInBounds g (.map ms.toArray ms.length)=w.heap:=by
    apply Array.ext_getElem?;intro k;rw[Array.getElem?_setIfInBounds];by_cases e:g=k
    ·subst e;rw[T];simp[F]
    ·simp[e]
   rw[hh]
  obtain⟨xk,xv,rfl,r1,r2⟩:=Et q7;have e1:(r.es.getD i []).getD 1 .any=xv:=by simp[List.getD,q2]
  rw[e1]at O;refine eG hw (cX (v:=.tuple #[me.val,goInt i]) (w':=w) ?_ (hK _ _ _ _ O (Rel.step Y hF hG hN hd hn Y (Grow.refl S w) (eF.refl _ _) ?_)))
  ·have ag:=Eg (P:=P) q5;have I:=MapKept.run_setObj_map (P:=P) (.map (List.toArray ms) ms.length) T;rw[hm]at I;simp[execOp,ho,e0,Instr.mapEntry,run_underlying aa,MapKept.run_getObj_map T,U,q3,q1,ag,qL q1,M,I,q6]
  ·simp only[rep,aW];exact⟨[me.val,goInt i],by simp,_,_,rfl,r2,_,_,rfl,rfl,rfl⟩
def FV:∀(i:Nat) (es:List (List AV)) (ms:List MapEntry) (j:Nat) {m:MapEntry},iU S w i es ms->ms[j]?=some m->ms.findIdx? (fun e=>(e.born:Int) == ((i+j:Nat):Int))=some j
 | _,[],ms,j,m,h,hj=>by simp only[iU]at h;subst h;simp at hj
 | i,c::r,ms,0,m,h,hj=>by simp only[iU]at h;obtain⟨E,t,rfl,h1,_,F⟩:=h;simp[List.findIdx?_cons,h1]
 | i,c::r,ms,j+1,m,h,hj=>by
  simp only[iU]at h;obtain⟨E,t,rfl,h1,_,F⟩:=h;have ih:=FV (i+1) r t j F (by simpa using hj);have A:((E.born:Int) == ((i+(j+1):Nat):Int))=false:=by simp[h1];omega
  rw[List.findIdx?_cons,A,show i+(j+1)=i+1+j by omega,ih];rfl
def BF{t:TypeId}{m s v:Operand}(Z:St S w H)(T:FR S w ρ a)(hG:Grow S0 w0 S w)(hN:eF S0.N H0 H)(hd:a.defers=[])(hn:a.tmps.size=n)(ho:o.op=.entryStore t m s v)(I:∀x∈o.op.operands,opB a.tmps.size x=true)
  (hw:Region.wanted o (yielded ops a.tmps)=true) (hK:∀O H' a' w',K O H'->Rel n S0 w0 H0 O H' a' w'->K' a' w')
  (h:bK none (aev ρ m) fun m=>bK none (aev ρ s) fun s=>bK none (aev ρ v) fun v=>pX o m s v ρ H K):uR P ops o a w K' Q':=by
 rw[ho]at I;simp only[Op.operands]at I;obtain⟨m',h,hm⟩:=aS (S:=S) (w:=w) h;obtain⟨s',h,hs⟩:=aS (S:=S) (w:=w) h;obtain⟨v',h,hv⟩:=aS (S:=S) (w:=w) h;have em:=hm trivial _ (cC T (I m (by simp)));have es:=hs trivial _ (cC T (I s (by simp)));have U:=hv trivial _ (cC T (I v (by simp)));unfold pX at h;split at h
 ·rename_i j kd i _ _;split at h
  ·rename_i r X;obtain⟨⟨i0,i1⟩,h⟩:=h;simp only[rep]at em es;obtain⟨_,e0,g0,M⟩:=em;rw[e0]at M;obtain⟨g,ms,hl,hg,A,Y⟩:=(Z.rows j r X).mp M;have aa:g<w.heap.size:=(Array.getElem?_eq_some_iff.1 hg).1;obtain⟨F,g1,g2,g3⟩:=Kz 0 _ _ i.toNat A (by omega);obtain⟨xk,xv,e1,r1,r2⟩:=Et g3;have e2:(r.es.getD i.toNat []).getD 0 .any=xk:=by rw[e1];rfl
   rw[e2]at h;have E:=AZ (m:=⟨F.key,a.eval v,F.born⟩) (cs:=[xk,v']) 0 _ _ i.toNat A (by simpa using g2) (by simp only[aW];exact⟨_,_,rfl,r1,_,_,rfl,U,rfl⟩);have q:=Z.setMap X hl E Y aa;have J:=FV 0 _ _ i.toNat A g1;rw[Nat.zero_add,Int.toNat_of_nonneg i0]at J;refine eG hw (rR (w':={ w with heap:=w.heap.setIfInBounds g (.map (ms.set i.toNat ⟨F.key,a.eval v,F.born⟩).toArray (ms.set i.toNat (⟨F.key,a.eval v,F.born⟩:MapEntry)).length) }) ?_ (hK _ _ _ _ h (Rel.step Z T hG hN hd hn q.1 q.2 (sM X) (by simp only[rep]))));rw[hl]at e0;simp[execOp,ho,e0,es,asInt,asIntOf,Instr.entryStore,MapKept.run_getObj_map hg,J,MapKept.run_setObj_map _ hg,qL g1]
  ·exact h.elim
 ·exact h.elim
def E3{t:TypeId}(E:St S w H)(I:FR S w ρ a)(T:Grow S0 w0 S w)(J:eF S0.N H0 H)(M:a.defers=[])(Y:a.tmps.size=n)(O:o.op=.makeMap t none)
  (X:Region.wanted o (yielded ops a.tmps)=true) (U:∀A H' F w',K A H'->Rel n S0 w0 H0 A H' F w'->K' F w')
  (h:mB H ⟨0,2,[]⟩ fun k H'=>K (upd ρ o.dst (.om k)) H'):uR P ops o a w K' Q':=by
 have q:=E.newMap (w':=w.alloc (.map #[] 0)) rfl rfl rfl rfl;refine eG X (cX (v:=.map (some w.heap.size)) (w':=w.alloc (.map #[] 0)) ?_ (U _ _ _ _ (h S.N E.fresh) (Rel.step E I T J M Y q.1 q.2 (lM E) ?_)))
 ·simp[execOp,O,Instr.makeMap]
 ·simp only[rep,Sg.addRow,if_true];exact⟨Nat.lt_succ_self _,trivial,_,rfl⟩
def xC{aj:Bool}(ak:∀o∈ops,iF n o=true)(E:St S w H)(M:FR S w ρ a)(Y:Grow S0 w0 S w)(X:eF S0.N H0 H)(U:a.defers=[])(J:a.tmps.size=n)(hb:iF n o=true)
   (T:∀al H' a' w',K al H'->Rel n S0 w0 H0 al H' a' w'->K' a' w') (h:aop P (aX P) (cQ P) mt aj ops o ρ H K):uR P ops o a w K' Q':=by
 obtain⟨I,_⟩:=sZ hb;unfold aop at h;obtain⟨G,h2,A⟩:=tR ak M J h;clear h;have h:=h2;clear h2;split at h
 . -- assign
   rename_i x F;unfold zY at h;split at h
   . rename_i ai;obtain⟨_,rfl,_,Z⟩:=ai;have Z:x=.const (.slice none 0 0):=by
       unfold oV at Z;split at Z
       . rfl
       . simp at Z
     subst Z;split at h
     . rename_i e sz ag he;obtain⟨i,z,hu,hi,ao,_,O,_⟩:=eN he;have hw:=cO A rfl;have q:=E.nilRow e O;refine eG hw (cX (v:=.slice none 0 0) (w':=w) (by simp[execOp,F,Act.eval]) (T _ _ _ _ (h S.N E.fresh) (Rel.step E M Y X U J q.1 q.2 (lM E) ?_)));simp only[rep,Sg.addRow,if_true];exact⟨Nat.lt_succ_self _,trivial,_,_,_,rfl⟩
     . exact h.elim
   . exact oQ E M Y X U J I A T (by rw[F];exact h)
 . -- alloc
   rename_i t F;split at h
   . rename_i z hz;obtain⟨rfl,_,h⟩:=h;have hw:=cO A rfl;split at h
     . split at h
       . rename_i nl an;exact J9 E M Y X U J F hz hw T an h
       . exact h.elim
     obtain⟨v,i,hi,rfl,h1,aw,ac⟩:=QM hz (.tuple #[]) w;obtain⟨S',q1,q2,q3⟩:=A5 (t:=t) (cs:=v.cells.toList.map nC) (l:=v.cells.toList) E (by simp;omega) (jY _) h1;refine eG hw (cX (v:=.pointer (some ⟨w.heap.size,0,none⟩)) (w':=w.alloc (.cells v.cells t)) (by simp[execOp,F,ac]) (T _ _ _ _ (h S.N E.fresh) (Rel.step E M Y X U J (by simpa using q1) (by simpa using q2) (lM E) (by simpa using q3))))
   . exact h.elim
 . -- box
   rename_i t x F;obtain⟨rfl,_,h⟩:=h;have hw:=cO A rfl;obtain⟨y,h2,hy⟩:=aS (S:=S) (w:=w) h;obtain⟨cs,h3,ah⟩:=tA (S:=S) (w:=w) h2;have Z:opB a.tmps.size x=true:=J▸I x (by simp[F,Op.operands]);obtain⟨l,e1,e2,e3⟩:=ah _ (hy trivial _ (cC M Z));have ac:(execOp a.eval o).run P w=.ok (.value (.pointer (some ⟨w.heap.size,0,none⟩))) (w.alloc (.cells l.toArray t)):=by simp[execOp,F,XX,e1]
   unfold Yi at h3;split at h3
   . obtain⟨O,h4⟩:=h3;obtain⟨S',q1,q2,q3⟩:=A5 (t:=t) E O e2 e3;exact eG hw (cX ac (T _ _ _ _ (h4 S.N E.fresh) (Rel.step E M Y X U J q1 q2 (lM E) q3)))
   . have q:=E.newRo (o:=.cells l.toArray t) (w':=w.alloc (.cells l.toArray t)) rfl rfl rfl rfl;refine eG hw (cX ac (T _ _ _ _ h3 (Rel.step E M Y X U J q.1 q.2 (eF.refl _ _) ?_)));simp only[rep];refine⟨w.heap.size,0,by simp,.inr rfl,?_⟩;refine gF _ l 0 (cZ q.2.le (q.2.kept E) _ _ e2) e3 fun j u hj=>?_
     rw[cell_of_row (w.alloc (.cells l.toArray t)) w.heap.size (0+j) l.toArray t (0,0) (heap_alloc_new w _)];simpa using hj
 . -- buildSlice
   rename_i t m aa F;obtain⟨_,h⟩:=h;obtain⟨ps,h2,ap⟩:=lS M aa.toList (fun p hp=>J▸I p.2 (by rw[F];simpa[Op.operands]using⟨p.1,by simpa using hp⟩)) h;unfold lH at h2;split at h2
   . rename_i e sz ag he;obtain⟨⟨p1,p2,p3⟩,h3⟩:=h2;have go:∀(_:gt G),∃xs:List Value,(execOp a.eval o).run P w=.ok (.value (.slice (some ⟨w.heap.size,0,none⟩) m m)) (w.alloc (.cells xs.toArray e))/\aW S w (ps.map (·.2)).flatten xs/\(∀u∈xs,u.oneCell'=true)/\ps.length=m/\xs.length=m*sz:=fun hg=>by
       obtain⟨f1,f2⟩:=ap hg;have hl:(aa.map fun(p:Nat×Operand)=>(p.1,a.eval p.2)).toList=aa.toList.map fun p=>(p.1,a.eval p.2):=by simp
       rw[<-hl]at f1 f2;obtain⟨xs,g1,g2,g3,g4,g5⟩:=EF (w:=w) he p1 p2 f1 f2 p3;refine⟨xs,?_,g2,g3,g4,g5⟩;simp only[execOp,F];exact Jt g1
     obtain⟨av,z,hu,hi,ao,_,O,_⟩:=eN he;split at h3
     . rename_i ai;obtain⟨_,rfl⟩:=ai;have hw:=cO A rfl;obtain⟨xs,g1,g2,g3,g4,g5⟩:=go trivial;have ab:(ps.map (·.2)).length=m:=by simpa using g4
       have q:=E.newRow (e:=e) (sz:=sz) (cap:=m) (es:=ps.map (·.2)) (xs:=xs) (cur:=xs.toArray) O (fN.1 p2) g2 g3 (by omega) (by simp only[maxLen];have:m<=m*sz:=Nat.le_mul_of_pos_right _ O;omega) (by simpa using g5)
         (by rw[ab,List.take_of_length_le (by simp[g5])]) (w':=w.alloc (.cells xs.toArray e)) rfl rfl rfl rfl
       refine eG hw (cX g1 (T _ _ _ _ (h3 S.N E.fresh) (Rel.step E M Y X U J q.1 q.2 (lM E) ?_)));simp only[rep,Sg.addRow,if_true];exact⟨Nat.lt_succ_self _,by rw[ab],_,_,_,rfl⟩
     . refine And.symm ⟨fun hw=>?_,fun hw=>?_⟩
       . have ae:¬gt G:=fun h=>by rw[A.2 h]at hw;simp at hw
         exact T _ _ _ _ h3 (Rel.step E M Y X U J E (Grow.refl S w) (eF.refl _ _) (dH ae))
       have ae:=A.1 hw;obtain⟨xs,g1,g2,g3,g4,g5⟩:=go ae;have ab:(ps.map (·.2)).length=m:=by simpa using g4
       have q:=E.newRo (o:=.cells xs.toArray e) (w':=w.alloc (.cells xs.toArray e)) rfl rfl rfl rfl;refine cX g1 (T _ _ _ _ h3 (Rel.step E M Y X U J q.1 q.2 (eF.refl _ _) (eD ae ?_)));simp only[rep];refine⟨_,_,_,rfl,ab,Nat.le_refl _,by simp only[maxLen];have:m<=m*sz:=Nat.le_mul_of_pos_right _ O;omega,.inr ⟨w.heap.size,0,sz,rfl,.inr rfl,O,?_⟩⟩;refine mU _ _ (fN.1 p2) (gF _ xs 0 (cZ q.2.le (q.2.kept E) _ _ g2) g3 fun j u hj=>?_);rw[cell_of_row (w.alloc (.cells xs.toArray e)) w.heap.size (0+j) xs.toArray e (0,0) (heap_alloc_new w _)];simpa using hj
   . exact h2.elim
 . -- store
   rename_i t x y F;obtain⟨rfl,_,h⟩:=h;have hw:=cO A rfl;split at h
   . rename_i af;have hy:y=.const (.slice none 0 0):=by
       unfold oV at af;split at af
       . rfl
       . simp at af
     subst hy;exact CI (K2:=fun _=>True) E M Y X U J F (fun x Z=>J▸I x Z) hw T h
   obtain⟨x',h2,ar⟩:=aS (S:=S) (w:=w) h;obtain⟨y',h3,au⟩:=aS (S:=S) (w:=w) h2;obtain⟨cs,h4,ah⟩:=tA (S:=S) (w:=w) h3;have am:opB a.tmps.size x=true:=J▸I x (by simp[F,Op.operands]);have aq:opB a.tmps.size y=true:=J▸I y (by simp[F,Op.operands]);have ex:=ar trivial _ (cC M am);obtain⟨l,e1,e2,e3⟩:=ah _ (au trivial _ (cC M aq));exact zZ E M Y X U J F hw T ex e1 e2 e3 h4
 . rename_i c F;exact Lb E M Y X U J F I A T h
 all_goals first
   | exact h.elim
   | (rename_i F; split at h
      . obtain⟨rfl,_,h⟩:=h;exact HE E M Y X U J F (fun x Z=>J▸I x Z) (cO A rfl) T h
      . exact oQ E M Y X U J I A T (by rw[F];exact h))
   | (rename_i F; split at h
      . obtain⟨rfl,_,h⟩:=h;exact Oy E M Y X U J F I A T h
      . exact oQ E M Y X U J I A T (by rw[F];exact h))
   | (rename_i F; split at h
      . obtain⟨rfl,h⟩:=h;split at h
        . exact H5 E M Y X U J F (fun x Z=>J▸I x Z) (cO A rfl) T h
        . exact IS E M Y X U J F (fun x Z=>J▸I x Z) (cO A rfl) T h
      . exact oQ E M Y X U J I A T (by rw[F];exact h))
   | (rename_i F;obtain⟨rfl,_,h⟩:=h;exact CY E M Y X U J F (fun x Z=>J▸I x Z) (cO A rfl) T h)
   | (rename_i F;exact oQ E M Y X U J I A T (by rw[F];exact h))
   | (rename_i F;obtain⟨rfl,_,h⟩:=h;exact E3 E M Y X U J F (cO A rfl) T h)
   | (rename_i F;obtain⟨rfl,_,h⟩:=h;exact CJ E M Y X U J F (fun x Z=>J▸I x Z) (cO A rfl) T h)
   | (rename_i F;obtain⟨rfl,_,h⟩:=h;exact H6 E M Y X U J F (fun x Z=>J▸I x Z) (cO A rfl) T h)
   | (rename_i F;obtain⟨rfl,_,h⟩:=h;exact DF E M Y X U J F (fun x Z=>J▸I x Z) (cO A rfl) T h)
   | (rename_i F;obtain⟨rfl,_,h⟩:=h;exact BF E M Y X U J F (fun x Z=>J▸I x Z) (cO A rfl) T h)
end
end Go.Aw
end
