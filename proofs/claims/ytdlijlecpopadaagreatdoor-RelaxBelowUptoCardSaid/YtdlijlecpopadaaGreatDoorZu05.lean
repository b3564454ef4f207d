import Derived.StillTail
import Derived.Deep.Quiet
import Derived.Scope
import Derived.Test.YtdlijlecpopadaaGreatDoorZu04
set_option linter.unusedSimpArgs false
set_option linter.unusedVariables false
set_option maxRecDepth 100000
section
namespace Go.Aw
open Go.RowKit
section
variable{P:Program}{ops:Array Oper}{md:Region.Mode}{C:World->Prop}{R:World->World->Prop}{Q':Exit->Act->World->Prop}
def LB(P:Program)(K:Value->World->Prop):Result Next->Prop
 | .ok (.value v) w'=>K v w'
 | .ok .skip w'=>K undef w'
 | .ok (.enter f args) w'=>Calls P f args w' fun e w''=>∃v,e=.returned v/\K v w''
 | .ok (.row row args) w'=>Rows P row args w' K
 | _=>False
def gAt(P:Program)(o:Oper)(a:Act)(w:World)(K:Value->World->Prop):Prop:=LB P K ((execOp a.eval o).run P w)
def gOp(P:Program)(ops:Array Oper)(i:Nat)(K:Act->World->Prop)(a:Act)(w:World):Prop:=
 match ops[i]? with
 | none=>False
 | some o=>if Region.wanted o (yielded ops a.tmps)=true then gAt P o a w (fun v w'=>K (a.put o.dst v) w')else K (a.put o.dst undef) w
theorem pT{K K':Value->World->Prop}(h:∀v w,K v w->K' v w){r:Result Next}(E:LB P K r):LB P K' r:=by
 cases r with
 | ok n w'=>
   cases n <;> simp only[LB]at E |-
   case value u=>exact h _ _ E
   case skip=>exact h _ _ E
   case enter f args=>exact E.mono fun e I ⟨v,F,J⟩=>⟨v,F,h _ _ J⟩
   case row row args=>exact E.mono h
 | halt x w'=>simp only[LB]at E
theorem E7{i:Nat}{a:Act}{w:World}{K K':Act->World->Prop}(h:∀a w,K a w->K' a w)(E:gOp P ops i K a w):gOp P ops i K' a w:=by
 unfold gOp at *;split
 . rename_i F;simp only[F]at E
 . rename_i o F
   simp only[F]at E;split
   . rename_i I;rw[if_pos I]at E;exact pT (fun v w' J=>h _ _ J) E
   . rename_i I;rw[if_neg I]at E;exact h _ _ E
theorem U0{o:Oper}{a:Act}{w:World}{K:Act->World->Prop}(h:gAt P o a w (fun v w'=>K (a.put o.dst v) w')):o.wp P a w K Q':=by
 unfold Oper.wp;unfold gAt at h;generalize (execOp a.eval o).run P w=r at *;cases r with
 | ok n w'=>
   cases n <;> simp only[LB]at h <;> simp only[Oper.upon]
   case value u=>exact h
   case skip=>exact h
   case enter f args=>exact h.mono fun e F ⟨v,E,I⟩=>by subst E;exact I
   case row row args=>exact h
 | halt x w'=>simp only[LB]at h
theorem Om{i:Nat}{a:Act}{w:World}{K:Act->World->Prop}(h:gOp P ops i K a w):wpOp P ops Q' i K a w:=by
 unfold gOp at h;unfold wpOp;split
 . rename_i E;simp only[E]at h
 . rename_i o E
   simp only[E]at h;split
   . rename_i F;rw[if_pos F]at h;exact .inl (U0 h)
   . rename_i F;rw[if_neg F]at h;exact h
theorem Lm{o:Oper}{a:Act}{w:World}{v:Value}{D:World->Prop}(I:D w)(h:o.quietAt P a D w v):gAt P o a w (fun u w'=>u=v/\D w'):=by
 unfold Oper.quietAt at h;unfold gAt;generalize (execOp a.eval o).run P w=r at *;cases r with
 | ok n w'=>
   cases n <;> simp only[Oper.quietUpon]at h <;> simp only[LB]
   case value u=>obtain⟨E,F⟩:=h;rw[E];exact⟨F,I⟩
   case skip=>obtain⟨E,F⟩:=h;rw[E];exact⟨F.symm,I⟩
   case enter f args=>obtain⟨E,Y⟩:=h;rw[E];exact Y.mono fun e O ⟨J,X⟩=>⟨v,J,rfl,X⟩
 | halt x w'=>simp only[Oper.quietUpon]at h
def jP(P:Program)(md:Region.Mode)(ops:Array Oper)(C:World->Prop)(R:World->World->Prop)(Q':Exit->Act->World->Prop):Nat->Array Bool->Act->World->Prop
 | 0,listed,a,w=>Region.ready md ops listed=[]/\Q' .normal a w
 | f+1,listed,a,w=>Region.ready md ops listed≠[] /\
   ∀i∈Region.ready md ops listed,gOp P ops i (fun a' w'=>C w'/\∀w2,R w' w2->jP P md ops C R Q' f (listed.setIfInBounds i true) a' w2) a w
theorem sN(E:∀w,R w w):∀(f:Nat) (listed:Array Bool) (a:Act) (w:World),jP P md ops C R Q' f listed a w->wpAny P md ops Q' f listed a w
 | 0,_,_,_,h=>h
 | f+1,_,_,_,h=>⟨fun h0=>absurd h0 h.1,fun i hi=>Om (E7 (fun I w' F=>sN E f _ _ _ (F.2 w' (E w'))) (h.2 i hi))⟩
def YQ(P:Program)(ops:Array Oper)(C:World->Prop)(R:World->World->Prop)(o:Oper)(v:Value)(a:Act):Prop:=
 (Region.wanted o (yielded ops a.tmps)=true/\∀w,C w->o.quietAt P a (R w) w v)\/(Region.wanted o (yielded ops a.tmps)=false/\v=undef)
theorem YQ.of_same{o:Oper}{v:Value}{a E:Act}(J:YQ P ops C R o v a)(I:execOp E.eval o=execOp a.eval o)
   (F:Region.wanted o (yielded ops E.tmps)=Region.wanted o (yielded ops a.tmps)):YQ P ops C R o v E:=by
 unfold YQ Oper.quietAt at *;rw[I,F];exact J
theorem ajI{j:Nat}{E F:Oper}{v:Value}(hj:ops[j]?=some F)(I:E.apart ops F=true)
   (X:∀cs b,E.op≠.select cs b) (O:∀cs b,F.op≠.select cs b) {K:Act->World->Prop} {a:Act} {w:World}
   (hy:YQ P ops C R E v a) (h:gOp P ops j K (a.put E.dst v) w):
   gOp P ops j (fun Z w'=>YQ P ops C R E v Z/\K (Z.put E.dst v) w') a w:=by
 obtain⟨h1,Y,h3⟩:=Oper.apart_spec I;have keep:∀u,YQ P ops C R E v (a.put F.dst u):=fun u=>
   hy.of_same (execOp_put E X a F.dst u h3) (wanted_put E a F.dst u h3)
 unfold gOp at *;simp only[hj]at *;rw[wanted_put F a E.dst v h1]at h;split
 . rename_i J
   rw[if_pos J]at h;unfold gAt at *;rw[execOp_put F O a E.dst v h1]at h;exact pT (fun u w' hk=>⟨keep u,by rw[<-Act.put_comm a v u Y];exact hk⟩) h
 . rename_i J
   rw[if_neg J]at h;exact⟨keep _,by rw[<-Act.put_comm a v undef Y];exact h⟩
theorem IL{i:Nat}{E:Oper}{v:Value}{a:Act}{w:World}(hi:ops[i]?=some E)(O:C w)(I:∀w,R w w)(X:YQ P ops C R E v a){K:Act->World->Prop}(h:∀w',R w w'->K (a.put E.dst v) w'):
   gOp P ops i K a w:=by
 unfold gOp;simp only[hi];rcases X with⟨F,J⟩|⟨F,rfl⟩
 . rw[if_pos F]
   exact pT (fun u w' ⟨e,Y⟩=>by subst e;exact h w' Y) (Lm (I w) (J w O))
 . rw[if_neg (by simp[F])]
   exact h w (I w)
theorem kB{i:Nat}{oi:Oper}{v:Value}(hi:ops[i]?=some oi)(aa:∀(j:Nat) (o:Oper) cs b,ops[j]?=some o->o.op≠.select cs b)
   (hR:∀w,R w w) (hT:∀w w' ag,R w w'->R w' ag->R w ag) (ab:∀w w',C w->R w w'->C w'):
   ∀(f:Nat) (E:Array Bool) (a:Act) (w:World),C w ->
     (∀j oj,ops[j]?=some oj->j≠i->E.getD j true=false->(∀e∈oj.after,Region.binds md e=true->e.on≠i)->oi.apart ops oj=true) ->
     i∈Region.ready md ops E->YQ P ops C R oi v a ->
     (∀Y,R w Y->jP P md ops C R Q' f (E.setIfInBounds i true) (a.put oi.dst v) Y)->jP P md ops C R Q' (f+1) E a w:=by
 intro f;induction f with
 | zero=>
   intro E a w hC _ hr hy H;refine⟨fun h=>(by rw[h]at hr;cases hr),fun j hj=>?_⟩;by_cases F:j=i
   . subst F;exact IL hi hC hR hy fun w' J=>⟨ab _ _ hC J,fun Y Z=>H Y (hT _ _ _ J Z)⟩
   . have:=ready_mono hj F
     rw[(H w (hR w)).1]at this;cases this
 | succ f ih=>
   intro E a w hC I hr hy H;refine⟨fun h=>(by rw[h]at hr;cases hr),fun j hj=>?_⟩;by_cases F:j=i
   . subst F;exact IL hi hC hR hy fun w' J=>⟨ab _ _ hC J,fun Y Z=>H Y (hT _ _ _ J Z)⟩
   . have h1:=(H w (hR w)).2 j (ready_mono hj F)
     obtain⟨X,oj,ac,ae⟩:=mem_ready.1 hj;have ai:∀e∈oj.after,Region.binds md e=true->e.on≠i:=fun e he hb am=>by
       have h1:=ae e he hb;have h0:=(mem_ready.1 hr).1;rw[am]at h1;rcases Nat.lt_or_ge i E.size with h'|h'
       . simp[h']at h0 h1;rw[h0]at h1;cases h1
       . simp[Array.getElem?_eq_none h']at h1
     have Z:=ajI ac (I j oj ac F X ai) (fun cs b=>aa i oi cs b hi) (fun cs b=>aa j oj cs b ac) hy h1;have O : ∀ k ok, ops[k]? = some ok -> k ≠ i -> (E.setIfInBounds j true).getD k true = false ->
         (∀e∈ok.after,Region.binds md e=true->e.on≠i)->oi.apart ops ok=true:=fun k ok hk aj ah ak=>by
       refine I k ok hk aj ?_ ak;by_cases af:j=k
       . subst af;exact X
       . rw[getD_set_ne true af]at ah;exact ah
     refine E7 (fun a' w' ⟨al,ad,hk⟩=>⟨ad,fun Y Z=>ih (E.setIfInBounds j true) a' Y (ab _ _ ad Z) O (ready_mono hr (Ne.symm F)) al fun w3 h3=>?_⟩) Z;rw[Array.setIfInBounds_comm _ _ F];exact hk w3 (hT _ _ _ Z h3)
end
def Rw(w w':World):Prop:=w'.os=w.os/\w'.tape=w.tape/\w'.output=w.output/\w.heap.size<=w'.heap.size/\∀k,k<w.heap.size->w'.heap[k]?=w.heap[k]?
theorem Rw.refl(w:World):Rw w w:=⟨rfl,rfl,rfl,Nat.le_refl _,fun _ _=>rfl⟩
theorem Rw.trans{w w' E:World}(h:Rw w w')(F:Rw w' E):Rw w E:=
 ⟨F.1.trans h.1,F.2.1.trans h.2.1,F.2.2.1.trans h.2.2.1,Nat.le_trans h.2.2.2.1 F.2.2.2.1,fun k I=>(F.2.2.2.2 k (Nat.lt_of_lt_of_le I h.2.2.2.1)).trans (h.2.2.2.2 k I)⟩
def Cb(S:Sg)(wb w:World):Prop:=w.os=wb.os/\w.tape=wb.tape/\w.output=wb.output/\wb.heap.size<=w.heap.size/\∀k,S.fz k->w.heap[k]?=wb.heap[k]?
theorem Cb.rw{S:Sg}{wb w w':World}{H:aJ}(I:St S wb H)(h:Cb S wb w)(E:Rw w w'):Cb S wb w':=
 ⟨E.1.trans h.1,E.2.1.trans h.2.1,E.2.2.1.trans h.2.2.1,Nat.le_trans h.2.2.2.1 E.2.2.2.1,fun k F=>(E.2.2.2.2 k (Nat.lt_of_lt_of_le (I.fz_lt k F) h.2.2.2.1)).trans (h.2.2.2.2 k F)⟩
theorem Rw.cb{S:Sg}{wb w:World}{H:aJ}(F:St S wb H)(h:Rw wb w):Cb S wb w:=⟨h.1,h.2.1,h.2.2.1,h.2.2.2.1,fun k E=>h.2.2.2.2 k (F.fz_lt k E)⟩
theorem Cb.st{S:Sg}{wb w:World}{H:aJ}(F:St S wb H)(h:Cb S wb w):St S w bS:=
 ⟨F.ro_fz,fun k E=>Nat.lt_of_lt_of_le (F.fz_lt k E) h.2.2.2.1,fun k r E=>by simp[bS]at E,fun k r E=>by simp[bS]at E,fun k k' r r' E=>by simp[bS]at E,F.tabs.keep S.le_refl (fun k E=>h.2.2.2.2 k (F.ro_fz k E))⟩
theorem Cb.kept{S:Sg}{wb w:World}{H:aJ}(F:St S wb H)(h:Cb S wb w):fR S wb w:=fun k E=>h.2.2.2.2 k (F.ro_fz k E)
theorem Cb.agree{S:Sg}{wb w:World}{H:aJ}(E:St S wb H)(h:Cb S wb w):Agree S bS wb w:=⟨h.kept E,fun k r F=>by simp[bS]at F⟩
theorem Grow.cb{S S':Sg}{wb w:World}(h:Grow S wb S' w):Cb S wb w:=⟨h.os,h.tape,h.output,h.size,h.same⟩
section
variable{P:Program}{n:Nat}{S0:Sg}{w0:World}{H0:aJ}{mt:Nat->Bool}{ops:Array Oper}{K:Env->aJ->Prop}{ρ:Env}{H:aJ}{a:Act}{w:World}
theorem Rel.rw{w':World}(h:Rel n S0 w0 H0 ρ H a w)(E:Rw w w'):Rel n S0 w0 H0 ρ H a w':=by
 obtain⟨S,F,X,Z,J,O,Y⟩:=h;have I:=F.grow E.1 E.2.1 E.2.2.1 E.2.2.2.1 E.2.2.2.2;exact⟨S,F.after E.2.2.2.1 E.2.2.2.2,X.keep S.le_refl (I.kept F),Z.trans I,J,O,Y⟩
theorem Ag{o:Oper}{K':Act->World->Prop}(F:∀a w,K' a w->a.defers=[])(h:o.wp P a w K' fun _ _ _=>False):gAt P o a w fun v w'=>K' (a.put o.dst v) w':=by
 unfold Oper.wp at h;unfold gAt;generalize (execOp a.eval o).run P w=r at *;cases r with
 | ok m w'=>
   cases m <;> simp only[Oper.upon]at h <;> simp only[LB]
   case value u=>exact h
   case skip=>exact h
   case enter f args=>
     refine h.mono fun e I E=>?_
     cases e
     case returned v=>exact⟨v,rfl,E⟩
     case panicked c=>exact E.elim
     case outgrown=>obtain⟨_,_,h⟩:=E;exact h.elim
   case defer d=>have:=F _ _ h;rw[nQ]at this;simp at this
   case row row args=>exact h
 | halt x w'=>cases x <;> simp only[Oper.upon]at h
variable{S:Sg}
theorem wV{o:Oper}{w1:World}{CC:World->Prop}(I:∀w,CC w->St S w H/\Agree S H w1 w)(O:St S w1 H)(X:FR S w1 ρ a)(Y:a.tmps.size=n)(hb:∀x∈o.op.operands,opB n x=true){G:Option Bool}
   (E:Region.wanted o (yielded ops a.tmps)=true↔gt G) (h:iA P G ρ H o.op fun x=>K (upd ρ o.dst (wr G x)) H):
   ∃z,K (upd ρ o.dst z) H/\(Region.wanted o (yielded ops a.tmps)=true->∃v,rep S w1 z v/\∀w,CC w->o.quietAt P a (Rw w) w v)/\(Region.wanted o (yielded ops a.tmps)=false->rep S w1 z undef):=by
 obtain⟨z,hz,Z⟩:=DI (Y▸hb) X O.rows h;refine⟨_,hz,fun F=>?_,fun F=>?_⟩
 . obtain⟨v,J,hr⟩:=Z (E.1 F)
   refine⟨v,fT (E.1 F) J,fun w hc=>?_⟩;unfold Oper.quietAt;rw[hr w (I w hc).2 o rfl];exact⟨rfl,rfl⟩
 . exact fB fun h=>by rw[E.2 h]at F;simp at F
theorem Mu{o:Oper}{c:Call}{w1:World}{CC:World->Prop}(ac:∀w,CC w->St S w H/\Agree S H w1 w)(hS:St S w1 H)(hF:FR S w1 ρ a)(hn:a.tmps.size=n)(ho:o.op=.call c)(hb:∀x∈o.op.operands,opB n x=true){G:Option Bool}
   (X:Region.wanted o (yielded ops a.tmps)=true↔gt G) {nl:Bool} (h:Cq P (bA P) (dG P) nl true G o c ρ H K):
   ∃z,K (upd ρ o.dst z) H/\(Region.wanted o (yielded ops a.tmps)=true->∃v,rep S w1 z v/\∀w,CC w->o.quietAt P a (Rw w) w v)/\(Region.wanted o (yielded ops a.tmps)=false->rep S w1 z undef):=by
 rw[ho]at hb;simp only[Op.operands,Call.operands]at hb;unfold Cq at h;split at h
 . rename_i b hc
   obtain⟨ys,h2,ab⟩:=nY hF c.args.toList (fun x hx=>hn▸hb x (by simp[Array.mem_toList_iff.1 hx])) h;clear h;have h:=h2;clear h2;split at h
   . rename_i x t J
     obtain⟨z,hz,hl⟩:=Gc (G:=G) (ty:=o.type) hS.rows h;refine⟨_,hz,fun O=>?_,fun O=>fB fun h=>by rw[X.2 h]at O;simp at O⟩;have F:=X.1 O;have hr:=ab F;simp only[bC]at hr;obtain⟨u,t',e1,e2,rfl⟩:=hr;obtain⟨v,hv,Z⟩:=hl F u e2;have ea:c.args.map a.eval=#[u]:=Array.toList_inj.1 (by simpa using e1);have et:c.argTypes=#[t]:=Array.toList_inj.1 (by simpa using J);refine⟨v,fT F hv,fun w Y=>?_⟩;unfold Oper.quietAt;have:(execOp a.eval o).run P w=.ok (.value v) w:=by simp[execOp,ho,resolve,hc,invoke,builtin,ea,et,Z w (ac w Y).2]
     rw[this];exact⟨rfl,rfl⟩
   . split at h
     . rename_i I;simp at I
     . exact h.elim
   . split at h
     . rename_i I;simp at I
     . exact h.elim
   . split at h
     . rename_i I;simp at I
     . exact h.elim
   . rename_i x y t t' J
     obtain⟨z,hz,hl⟩:=FN (P:=P) (S:=S) (w:=w1) (H:=H) (G:=G) (tys:=c.argTypes) (ty:=o.type) h;refine⟨_,hz,fun O=>?_,fun O=>fB fun h=>by rw[X.2 h]at O;simp at O⟩
     . have F:=X.1 O
       have hr:=ab F;simp only[bC]at hr;obtain⟨us,t1,e1,e2,ux,t2,rfl,e3,rfl⟩:=hr;obtain⟨v,hv,Z⟩:=hl F us ux e2 e3;have ea:c.args.map a.eval=#[us,ux]:=Array.toList_inj.1 (by simpa using e1);refine⟨v,fT F hv,fun w Y=>?_⟩;unfold Oper.quietAt;have:(execOp a.eval o).run P w=.ok (.value v) w:=by simp[execOp,ho,resolve,hc,invoke,builtin,ea,Z w (ac w Y).2]
       rw[this];exact⟨rfl,rfl⟩
   . rename_i x y t t' J
     obtain⟨z,hz,hl⟩:=Fp (P:=P) (S:=S) (w:=w1) (H:=H) (G:=G) (tys:=c.argTypes) (ty:=o.type) h;refine⟨_,hz,fun O=>?_,fun O=>fB fun h=>by rw[X.2 h]at O;simp at O⟩
     . have F:=X.1 O
       have hr:=ab F;simp only[bC]at hr;obtain⟨us,t1,e1,e2,ux,t2,rfl,e3,rfl⟩:=hr;obtain⟨v,hv,Z⟩:=hl F us ux e2 e3;have ea:c.args.map a.eval=#[us,ux]:=Array.toList_inj.1 (by simpa using e1);refine⟨v,fT F hv,fun w Y=>?_⟩;unfold Oper.quietAt;have:(execOp a.eval o).run P w=.ok (.value v) w:=by simp[execOp,ho,resolve,hc,invoke,builtin,ea,Z w (ac w Y).2]
       rw[this];exact⟨rfl,rfl⟩
   . exact h.elim
 . rename_i f hc
   obtain⟨yf,h2,hf⟩:=aU (S:=S) (w:=w1) h;clear h;have h:=h2;clear h2;split at h
   . rename_i g ah ak am
     by_cases af:nl=true
     . rw[if_pos af]at h
       exact absurd h.2.1 (by decide)
     rw[if_neg af]at h;obtain⟨ys,h2,ab⟩:=nY hF c.args.toList (fun x hx=>hn▸hb x (by simp[hc,Array.mem_toList_iff.1 hx])) h;clear h;obtain⟨aj,h⟩:=h2;have ai:=fun hg=>A3 am (hf hg _ (cM hF (hn▸hb f (by simp[hc]))))
     have J:gt G->∃first E:Array Value,a.eval f=.func (.func g) first E/\bC S w1 (ah++ys++ak) (first++c.args.map a.eval++E).toList:=fun hg=>by
       obtain⟨first,E,h1,h2,h3⟩:=ai hg;refine⟨first,E,h1,?_⟩;simp only[Array.toList_append];refine dJ _ _ _ _ (dJ _ _ _ _ h2 ?_) h3;simpa using ab hg
     split at h
     . rename_i I;simp at I
     . obtain⟨r,hq,hk⟩:=h
       by_cases F:gt G
       . rcases hq F with hq|⟨x,rfl,an⟩
         . obtain⟨v,ad⟩:=hq.val
           rw[OQ (by rw[ad];rfl)]at hk;refine⟨_,hk,fun O=>?_,fun O=>fB fun h=>by rw[X.2 h]at O;simp at O⟩;obtain⟨first,E,al,ag⟩:=J F;have ae:∀w,(execOp a.eval o).run P w=.ok (.enter g (first++c.args.map a.eval++E)) w:=fun w=>by
             simp only[execOp,ho];rw[oS hc al];simp[invoke,rU aj]
           have hv:=(hq.calls ad hS ag).1;refine⟨v,fT F (hv S w1),fun w Y=>?_⟩;have aa:=(hq.calls ad (ac w Y).1 (dQ S.le_refl (ac w Y).2.kept _ _ ag)).2;unfold Oper.quietAt;rw[ae];refine⟨rfl,?_⟩;rw[Array.toArray_toList]at aa;exact aa
         . exact hk.elim
       . obtain⟨z,hk⟩:=Pn hk
         refine⟨_,hk,fun O=>absurd (X.1 O) F,fun O=>fB F⟩
   . exact h.elim
 . exact h.elim
theorem vH{o:Oper}{w1:World}{CC:World->Prop}(I:∀w,CC w->St S w H/\Agree S H w1 w)(Z:∀o∈ops,kJ n o=true)(Y:St S w1 H)(O:FR S w1 ρ a)(X:a.tmps.size=n)(hb:kJ n o=true)(h:aop P (bA P) (dG P) mt true ops o ρ H K):
   ∃z,K (upd ρ o.dst z) H/\(Region.wanted o (yielded ops a.tmps)=true->∃v,rep S w1 z v/\∀w,CC w->o.quietAt P a (Rw w) w v)/\(Region.wanted o (yielded ops a.tmps)=false->rep S w1 z undef):=by
 obtain⟨F,_⟩:=wT hb;unfold aop at h;obtain⟨G,h2,E⟩:=xJ Z O X h;clear h;have h:=h2;clear h2;split at h
 . rename_i x J
   unfold CF at h;split at h
   . rename_i aa;simp at aa
   . exact wV I Y O X F E (by rw[J];exact h)
 . split at h
   . simp at h
   . exact h.elim
 . simp at h
 . simp at h
 . simp at h
 . rename_i c J;exact Mu I Y O X J F E h
 all_goals first
   | exact h.elim
   | (simp at h;done)
   | (rename_i J; split at h
      . simp at h;done
      . exact wV I Y O X F E (by rw[J];exact h))
   | (rename_i J; split at h
      . obtain⟨rfl,h⟩:=h
        rw[if_pos rfl]at h;obtain⟨z,hz,v,hv,hq⟩:=DN (S:=S) (w1:=w1) O (fun x hx=>X▸F x hx) J h;exact⟨z,hz,fun _=>⟨v,hv,fun w _=>by unfold Oper.quietAt;rw[hq w];exact⟨rfl,rfl⟩⟩,fun hw=>by rw[dE E rfl]at hw;cases hw⟩
      . exact wV I Y O X F E (by rw[J];exact h))
   | (rename_i J;exact wV I Y O X F E (by rw[J];exact h))
theorem MW{o:Oper}{w1:World}{CC:World->Prop}(I:∀w,CC w->St S w bS/\Agree S bS w1 w)(Y:St S w1 H)(Z:FR S w1 ρ a)(hn:a.tmps.size=n){t:TypeId}{x:Operand}{lo hi m:Option Operand}(J:o.op=.slice t x lo hi m)(O:∀x∈o.op.operands,opB n x=true){G:Option Bool}
   (E:Region.wanted o (yielded ops a.tmps)=true↔gt G) (h:iA P G ρ H o.op fun x=>K (upd ρ o.dst (wr G x)) H):
   ∃z,K (upd ρ o.dst z) H/\(Region.wanted o (yielded ops a.tmps)=true->∃v,rep S w1 z v/\∀w,CC w->o.quietAt P a (Rw w) w v)/\(Region.wanted o (yielded ops a.tmps)=false->rep S w1 z undef):=by
 rw[J]at O h;obtain⟨z,hz,hg⟩:=CA (H':=bS) (hn▸O) Z Y.rows h;refine⟨_,hz,fun F=>?_,fun F=>?_⟩
 . obtain⟨v,X,hr⟩:=hg (E.1 F)
   refine⟨v,fT (E.1 F) X,fun w hc=>?_⟩;unfold Oper.quietAt;rw[hr w (I w hc).2 o J];exact⟨rfl,rfl⟩
 . exact fB fun h=>by rw[E.2 h]at F;simp at F
theorem RZ{o:Oper}{w1:World}{CC:World->Prop}(J:∀w,CC w->St S w bS/\Agree S bS w1 w)(F:∀o∈ops,kJ n o=true)(hS:St S w1 H)(X:FR S w1 ρ a)(Y:a.tmps.size=n)(hb:kJ n o=true){K:Env->Prop}(h:aop P (bA P) (dG P) mt true ops o ρ (qH o H) fun E _=>K E):
   ∃z,K (upd ρ o.dst z)/\(Region.wanted o (yielded ops a.tmps)=true->∃v,rep S w1 z v/\∀w,CC w->o.quietAt P a (Rw w) w v)/\(Region.wanted o (yielded ops a.tmps)=false->rep S w1 z undef):=by
 by_cases hs:∃t x lo hi m,o.op=.slice t x lo hi m
 . obtain⟨t,x,lo,hi,m,I⟩:=hs
   have e:qH o H=H:=by unfold qH;rw[I]
   rw[e]at h;obtain⟨Z,_⟩:=wT hb;unfold aop at h;obtain⟨G,h2,O⟩:=xJ F X Y h;clear h;rw[I]at h2;exact MW (K:=fun E _=>K E) J hS X Y I Z O (by rw[I];exact h2)
 . have e : qH o H = bS := by
     unfold qH;split
     . rename_i I;exact absurd ⟨_,_,_,_,_,I⟩ hs
     . rfl
   rw[e]at h;exact vH (K:=fun E _=>K E) J F (hS.drop fun k r hk=>by simp[bS]at hk) X Y hb h
theorem HT{Q':Exit->Act->World->Prop}{wb:World}{Sb:Sg}{Hb:aJ}(E:∀o∈ops,kJ n o=true)(hQ:∀ρ H a w,K ρ H->Rel n Sb wb Hb ρ H a w->Q' .normal a w):
   ∀(l:List Oper) (k:Nat) (listed:Array Bool) (ρ:Env) (H:aJ) (a:Act) (w:World),(∀j,l[j]?=ops[k+j]?)->(∀o∈l,kJ n o=true)->Region.seqB .any ops l.length k listed=true ->
     xC P (bA P) (dG P) mt false ops K l ρ H->Rel n Sb wb Hb ρ H a w->jP P .any ops (Cb Sb wb) Rw Q' l.length listed a w
 | [],_,_,ρ,H,a,w,_,_,hB,h,hR=>⟨by simpa[Region.seqB]using hB,hQ ρ H a w h hR⟩
 | o::rest,k,listed,ρ,H,a,w,hl,hb,hB,h,hR=>by
   have h0:ops[k]?=some o:=by simpa using(hl 0).symm
   simp only[List.length_cons,Region.seqB,Bool.and_eq_true,decide_eq_true_eq]at hB;refine⟨by rw[hB.1];simp,fun i hi=>?_⟩;rw[hB.1]at hi;have ab:i=k:=by simpa using hi
   subst ab;obtain⟨S,hS,hF,hG,hN,hd,hn⟩:=hR;have he:=vR (K':=fun O w'=>O.defers=[]/\Cb Sb wb w'/\∀I,Rw w' I->jP P .any ops (Cb Sb wb) Rw Q' rest.length (listed.setIfInBounds i true) O I) (Q':=fun _ _ _=>False) E hS hF hG hN hd hn (hb o (by simp))
     (fun Z H' O w' F Y=>by
       refine⟨?_,?_,fun I h2=>HT E hQ rest (i+1) _ Z H' O I (fun j=>by have:=hl (j+1);simpa[Nat.add_assoc,Nat.add_comm 1 j]using this) (fun o ho=>hb o (by simp[ho])) hB.2 F (Y.rw h2)⟩
       . obtain⟨S',_,_,_,_,aa,_⟩:=Y;exact aa
       . obtain⟨S',_,_,X,_⟩:=Y;exact X.cb) h
   unfold gOp;simp only[h0];by_cases J:Region.wanted o (yielded ops a.tmps)=true
   . rw[if_pos J]
     exact pT (fun v w' F=>F.2) (Ag (fun a w F=>F.1) (he.1 J))
   . rw[if_neg J]
     exact(he.2 (by simpa using J)).2
theorem ET{Q':Exit->Act->World->Prop}{wb:World}{Sb:Sg}(I:∀o∈ops,kJ n o=true)(Z:Region.noSelect ops=true)(F:St Sb wb bS){g:Nat}
   (hK:∀ρ a E w,K ρ bS->Rw wb w->FR Sb wb ρ a->a.defers=[]->a.tmps.size=n->∀k,Region.seqB .any ops g k E=true->k=ops.size-g->jP P .any ops (Cb Sb wb) Rw Q' g E a w):
   ∀(l:List Oper) (k:Nat) (E:Array Bool) (ρ:Env) (a:Act),(∀j,j<l.length->l[j]?=ops[k+j]?)->k+l.length=ops.size-g->(∀o∈l,kJ n o=true)->Region.lexHead .any ops g l.length k E=true ->
     xC P (bA P) (dG P) mt true ops K l ρ bS->FR Sb wb ρ a->a.defers=[]->a.tmps.size=n->∀w,Rw wb w->jP P .any ops (Cb Sb wb) Rw Q' (l.length+g) E a w
 | [],k,E,ρ,a,_,hk,_,hB,h,hF,hd,hn,w,hC=>by
   rw[List.length_nil,Nat.zero_add];exact hK ρ a E w h hC hF hd hn k hB (by simpa using hk)
 | o::rest,k,E,ρ,a,hl,hk,hb,hB,h,hF,hd,hn,w,hC=>by
   have h0:ops[k]?=some o:=by simpa using(hl 0 (by simp)).symm
   simp only[List.length_cons,Region.lexHead,Bool.and_eq_true]at hB;obtain⟨⟨O,hf⟩,aa⟩:=hB;obtain⟨z,hz,h1,h2⟩:=vH (CC:=Cb Sb wb) (fun w J=>⟨J.st F,J.agree F⟩) I F hF hn (hb o (by simp)) h;have next:∀v,rep Sb wb z v->∀Y,Rw w Y->jP P .any ops (Cb Sb wb) Rw Q' (rest.length+g) (E.setIfInBounds k true) (a.put o.dst v) Y:=fun v hv Y h2=>
     ET I Z F hK rest (k+1) _ _ _ (fun j hj=>by have:=hl (j+1) (by simp;omega);simpa[Nat.add_assoc,Nat.add_comm 1 j]using this) (by simp only[List.length_cons]at hk;omega) (fun o ho=>hb o (by simp[ho])) aa hz (FR.put hF hv) (by rw[nQ];exact hd) (by rw[vN];exact hn) Y (hC.trans h2)
   rw[List.length_cons,show rest.length+1+g=(rest.length+g)+1 by omega];by_cases hw:Region.wanted o (yielded ops a.tmps)=true
   . obtain⟨v,hv,hq⟩:=h1 hw
     exact kB h0 (Region.noSelect_spec Z) Rw.refl (fun _ _ _=>Rw.trans) (fun _ _ J O=>J.rw F O) _ E a w (hC.cb F) (Region.free_spec h0 hf) (by simpa using O) (.inl ⟨hw,hq⟩) (next v hv)
   . have X:Region.wanted o (yielded ops a.tmps)=false:=by simpa using hw
     exact kB h0 (Region.noSelect_spec Z) Rw.refl (fun _ _ _=>Rw.trans) (fun _ _ J O=>J.rw F O) _ E a w (hC.cb F) (Region.free_spec h0 hf) (by simpa using O) (.inr ⟨X,rfl⟩) (next _ (h2 X))
theorem Su{Q':Exit->Act->World->Prop}{id m:Nat}(hm:P.follows .mixedOrders=true)(E:∀o∈ops,kJ n o=true)(hB:Uq ops m=true)
   (h:xC P (bA P) (dG P) mt true ops (fun F _=>xC P (bA P) (dG P) mt false ops K (ops.toList.drop m) F H) (ops.toList.take m) ρ bS)
   (hR:Rel n S0 w0 H0 ρ H a w) (hQ:∀ρ H a w,K ρ H->Rel n S0 w0 H0 ρ H a w->Q' .normal a w):(Code.region id ops true).wp P Q' a w:=by
 obtain⟨S,hS,hF,hG,hN,hd,hn⟩:=hR;simp only[Uq,Bool.and_eq_true,decide_eq_true_eq]at hB;obtain⟨⟨hs,am⟩,ad⟩:=hB
 let w1:World:={ w with drawn:=w.drawn+1 }
 have O:St S w1 H:=hS.after (Nat.le_refl _) fun _ _=>rfl
 have ab:Grow S w S w1:=hS.grow rfl rfl rfl (Nat.le_refl _) fun _ _=>rfl
 have ae:FR S w1 ρ a:=hF.keep S.le_refl (ab.kept hS);have ai:St S w1 bS:=O.drop fun k r hk=>by simp[bS]at hk
 refine wp_region_any hm (sN (C:=Cb S w1) (R:=Rw) Rw.refl _ _ _ _ ?_);have J:(ops.toList.take m).length=m:=by simp;omega
 have:=ET (Q':=Q') (g:=ops.size-m) (wb:=w1) (Sb:=S) E hs ai (K:=fun F _=>xC P (bA P) (dG P) mt false ops K (ops.toList.drop m) F H) (fun F a' I w' hk Y X aa Z k ac al=>by
   have af:k=m:=by omega
   subst af;have hx:=HT (Q':=Q') (wb:=w1) (Sb:=S) (Hb:=H) E (K:=K) (fun ρ H a w hk hr=>by
     obtain⟨S',ah,X,ag,aj,aa,Z⟩:=hr;exact hQ ρ H a w hk ⟨S',ah,X,hG.trans (ab.trans ag),hN.trans aj hG.le.N,aa,Z⟩) (ops.toList.drop k) k I F H a' w' (fun j=>by simp[List.getElem?_drop]) (fun o ho=>E o (Array.mem_toList_iff.1 (List.mem_of_mem_drop ho)))
     (by simpa using ac) hk ?_
   . simpa using hx
   . have hg:=O.grow Y.1 Y.2.1 Y.2.2.1 Y.2.2.2.1 Y.2.2.2.2
     exact⟨S,O.after Y.2.2.2.1 Y.2.2.2.2,X.keep S.le_refl (hg.kept O),hg,fM.refl _ _,aa,Z⟩) (ops.toList.take m) 0 (Array.replicate ops.size false) ρ a (fun j hj=>by
       have ak:j<m:=by rw[J]at hj;exact hj
       simp[ak]) (by rw[J];omega) (fun o ho=>E o (Array.mem_toList_iff.1 (List.mem_of_mem_take ho))) (by rw[J];exact ad) h ae hd hn w1 (Rw.refl w1)
 rw[J,show m+(ops.size-m)=ops.size by omega]at this;exact this
theorem tJ{C E:World->Prop}{R:World->World->Prop}{Q':Exit->Act->World->Prop}(h:∀w,E w->C w):∀(f:Nat) (listed:Array Bool) (a:Act) (w:World),jP P .any ops E R Q' f listed a w->jP P .any ops C R Q' f listed a w
 | 0,_,_,_,hw=>hw
 | f+1,_,_,_,hw=>⟨hw.1,fun i hi=>E7 (fun O w' F=>⟨h w' F.1,fun I J=>tJ h f _ _ _ (F.2 I J)⟩) (hw.2 i hi)⟩
theorem Cb.mono{S S':Sg}{w w' F:World}{H:aJ}(J:St S w H)(E:Grow S w S' w')(h:Cb S' w' F):Cb S w F:=
 ⟨h.1.trans E.os,h.2.1.trans E.tape,h.2.2.1.trans E.output,Nat.le_trans E.size h.2.2.2.1,fun k I=>(h.2.2.2.2 k (E.fz k I)).trans (E.same k I)⟩
theorem zA{Q':Exit->Act->World->Prop}(E:∀o∈ops,kJ n o=true)(F:Region.noSelect ops=true)(hQ:∀ρ H a w,K ρ H->Rel n S0 w0 H0 ρ H a w->Q' .normal a w):
   ∀(f:List (Nat×Bool)) (listed:Array Bool) (ρ:Env) (H:aJ) (a:Act) (w:World) (S:Sg),pA ops f listed=true ->
     yT P (bA P) (dG P) mt ops K f ρ H->St S w H->FR S w ρ a->Grow S0 w0 S w->fM S0.N H0 H->a.defers=[]->a.tmps.size=n->∀J,Rw w J->jP P .any ops (Cb S w) Rw Q' f.length listed a J
 | [],listed,ρ,H,a,w,S,hB,h,hS,hF,hG,hN,hd,hn,J,h2=>by
   refine⟨by simpa[pA]using hB,hQ ρ H a J h (Rel.rw ⟨S,hS,hF,hG,hN,hd,hn⟩ h2)⟩
 | (k,true)::f,listed,ρ,H,a,w,S,hB,h,hS,hF,hG,hN,hd,hn,J,h2=>by
   simp only[pA,Bool.and_eq_true]at hB;obtain⟨⟨X,hf⟩,al⟩:=hB;unfold yT at h;split at h
   . rename_i o h0
     rw[if_pos rfl]at h;have Y:=E o (Array.mem_of_getElem? h0);obtain⟨z,hz,h1,h3⟩:=RZ (CC:=Cb S w) (K:=fun aa=>yT P (bA P) (dG P) mt ops K f aa H) (fun w hc=>⟨hc.st hS,hc.agree hS⟩) E hS hF hn Y h;have next:∀v,rep S w z v->∀I,Rw w I->jP P .any ops (Cb S w) Rw Q' f.length (listed.setIfInBounds k true) (a.put o.dst v) I:=fun v hv I h3=>
       zA E F hQ f _ _ H _ w S al hz hS (FR.put hF hv) hG hN (by rw[nQ];exact hd) (by rw[vN];exact hn) I h3
     rw[List.length_cons];by_cases O:Region.wanted o (yielded ops a.tmps)=true
     . obtain⟨v,hv,hq⟩:=h1 O
       exact kB h0 (Region.noSelect_spec F) Rw.refl (fun _ _ _=>Rw.trans) (fun _ _ hc X=>hc.rw hS X) _ listed a J (h2.cb hS) (Region.free_spec h0 hf) (by simpa using X) (.inl ⟨O,hq⟩) (fun I h3=>next v hv I (h2.trans h3))
     . have ad:Region.wanted o (yielded ops a.tmps)=false:=by simpa using O
       exact kB h0 (Region.noSelect_spec F) Rw.refl (fun _ _ _=>Rw.trans) (fun _ _ hc X=>hc.rw hS X) _ listed a J (h2.cb hS) (Region.free_spec h0 hf) (by simpa using X) (.inr ⟨ad,rfl⟩) (fun I ai=>next _ (h3 ad) I (h2.trans ai))
   . exact h.elim
 | (k,false)::f,listed,ρ,H,a,w,S,hB,h,hS,hF,hG,hN,hd,hn,J,h2=>by
   simp only[pA,Bool.and_eq_true,decide_eq_true_eq]at hB;unfold yT at h;split at h
   . rename_i o h0
     rw[if_neg (by simp)]at h;have Y:=E o (Array.mem_of_getElem? h0);rw[List.length_cons];refine⟨by rw[hB.1];simp,fun i hi=>?_⟩;rw[hB.1]at hi;have an:i=k:=by simpa using hi
     subst an;have ab:=hS.grow h2.1 h2.2.1 h2.2.2.1 h2.2.2.2.1 h2.2.2.2.2;have af:St S J H:=hS.after h2.2.2.2.1 h2.2.2.2.2;have aj:FR S J ρ a:=hF.keep S.le_refl (ab.kept hS);have he:=vR (S0:=S) (w0:=J) (H0:=H) (K:=yT P (bA P) (dG P) mt ops K f) (K':=fun a' w'=>a'.defers=[]/\Cb S w w'/\∀I,Rw w' I->jP P .any ops (Cb S w) Rw Q' f.length (listed.setIfInBounds i true) a' I) (Q':=fun _ _ _=>False) E af aj (Grow.refl S J) (fM.refl _ _) hd hn Y
       (fun aa H' a' w' hk X=>by
         obtain⟨S',ak,ae,ah,am,ac,ag⟩:=X;have Z:Grow S w S' w':=ab.trans ah;refine⟨ac,Z.cb,fun I h3=>?_⟩;refine tJ (fun x hx=>Cb.mono hS Z hx) _ _ _ _ (zA E F hQ f _ aa H' a' w' S' hB.2 hk ak ae (hG.trans Z) (hN.trans am hG.le.N) ac ag I h3)) h
     unfold gOp;simp only[h0];by_cases O:Region.wanted o (yielded ops a.tmps)=true
     . rw[if_pos O]
       exact pT (fun v w' hk=>hk.2) (Ag (fun a w hk=>hk.1) (he.1 O))
     . rw[if_neg O]
       exact(he.2 (by simpa using O)).2
   . exact h.elim
theorem Wc{Q':Exit->Act->World->Prop}{id:Nat}{f:List (Nat×Bool)}(hm:P.follows .mixedOrders=true)(F:∀o∈ops,kJ n o=true)(Z:Pl ops f=true)
   (h:yT P (bA P) (dG P) mt ops K f ρ H)
   (hR:Rel n S0 w0 H0 ρ H a w) (hQ:∀ρ H a w,K ρ H->Rel n S0 w0 H0 ρ H a w->Q' .normal a w):(Code.region id ops true).wp P Q' a w:=by
 obtain⟨S,O,hF,hG,hN,hd,hn⟩:=hR;simp only[Pl,Bool.and_eq_true,decide_eq_true_eq]at Z;obtain⟨⟨hs,Y⟩,I⟩:=Z
 let w1:World:={ w with drawn:=w.drawn+1 }
 have X:St S w1 H:=O.after (Nat.le_refl _) fun _ _=>rfl
 have E:Grow S w S w1:=O.grow rfl rfl rfl (Nat.le_refl _) fun _ _=>rfl
 have J:FR S w1 ρ a:=hF.keep S.le_refl (E.kept O);refine wp_region_any hm (sN (C:=Cb S w1) (R:=Rw) Rw.refl _ _ _ _ ?_);have:=zA (Q':=Q') F hs hQ f (Array.replicate ops.size false) ρ H a w1 S I h X J (hG.trans E) hN hd hn w1 (Rw.refl w1);rw[Y]at this;exact this
structure Pin(S:Sg)(w:World)(Hp:aJ):Prop where
 rows:xZ S w Hp
 fz:∀k r,Hp k=some r->∀g,blk (S.loc k)=some g->S.fz g/\¬S.ro g
 disj:∀k k' r r',Hp k=some r->Hp k'=some r'->k≠k'->∀g,blk (S.loc k)=some g->blk (S.loc k')≠some g
def akA(S:Sg)(Hp:aJ)(g:Nat):Prop:=∃k r,Hp k=some r/\blk (S.loc k)=some g
def Sg.unpin(S:Sg)(Hp:aJ):Sg:={ S with fz:=fun g=>S.fz g/\¬akA S Hp g }
def Sg.pin(S:Sg)(Hp:aJ):Sg:={ S with fz:=fun g=>S.fz g\/akA S Hp g }
theorem Sg.le_unpin(S:Sg)(Hp:aJ):S.le (S.unpin Hp):=⟨fun _ h=>h,Nat.le_refl _,fun _ _=>rfl,fun _ _=>rfl⟩
theorem Sg.unpin_le(S:Sg)(Hp:aJ):(S.unpin Hp).le S:=⟨fun _ h=>h,Nat.le_refl _,fun _ _=>rfl,fun _ _=>rfl⟩
theorem Sg.le_pin(S:Sg)(Hp:aJ):S.le (S.pin Hp):=⟨fun _ h=>h,Nat.le_refl _,fun _ _=>rfl,fun _ _=>rfl⟩
theorem Pin.merge{Hp Hm:aJ}(h:Pin S w Hp)(J:St S w H)(Y:∀k r,Hm k=some r->H k=some r\/Hp k=some r):St (S.unpin Hp) w Hm:=by
 have hr:∀k r,Hm k=some r->RowOK S w k r:=fun k r E=>by
   rcases Y k r E with h1|h1
   . exact J.rows k r h1
   . exact h.rows k r h1
 refine⟨fun k E=>⟨J.ro_fz k E,fun⟨i,r,hi,I⟩=>(h.fz i r hi k I).2 E⟩,fun k E=>J.fz_lt k E.1,fun k r E=>(hr k r E).keep (S.le_unpin Hp) (fR.refl S w) (fun _ _=>rfl),fun k r E g I hf=>?_,fun k k' r r' E Z X g I F=>?_,J.tabs⟩
 . rcases Y k r E with h1|h1
   . exact J.free k r h1 g I hf.1
   . exact hf.2 ⟨k,r,h1,I⟩
 . rcases Y k r E with h1|h1 <;> rcases Y k' r' Z with O|O
   . exact J.disj k k' r r' h1 O X g I F
   . exact J.free k r h1 g I (h.fz k' r' O g F).1
   . exact J.free k' r' O g F (h.fz k r h1 g I).1
   . exact h.disj k k' r r' h1 O X g I F
theorem Pin.keep{Hp:aJ}{S':Sg}{w':World}(h:Pin S w Hp)(Z:St S w H)(E:Grow S w S' w'):Pin S' w' Hp:=by
 refine⟨fun k r F=>(h.rows k r F).keep E.le (E.kept Z) (fun g I=>E.same g (h.fz k r F g I).1),fun k r F g I=>?_,fun k k' r r' F J O g I=>?_⟩
 . rw[E.le.loc k (h.rows k r F).lt]at I
   have h1:=h.fz k r F g I;refine⟨E.fz g h1.1,fun Y=>?_⟩;rcases E.newro g Y with X|X
   . exact h1.2 X
   . exact X h1.1
 . rw[E.le.loc k (h.rows k r F).lt]at I
   rw[E.le.loc k' (h.rows k' r' J).lt];exact h.disj k k' r r' F J O g I
theorem Cb.pin{wb w:World}{H Hp:aJ}(F:St S wb H)(I:Pin S wb Hp)(h:Cb S wb w):St (S.unpin Hp) w Hp/\Agree (S.unpin Hp) Hp wb w:=by
 have O:Grow S wb S w:=⟨S.le_refl,fun _ h=>h,h.1,h.2.1,h.2.2.1,h.2.2.2.1,h.2.2.2.2,fun _ h=>.inl h⟩;exact⟨(I.keep F O).merge (h.st F) (fun k r E=>.inr E),⟨fun k E=>h.2.2.2.2 k (F.ro_fz k E),fun k r E g J=>h.2.2.2.2 g (I.fz k r E g J).1⟩⟩
theorem wQ{Q':Exit->Act->World->Prop}{Hp:aJ}(E:∀o∈ops,kJ n o=true)(F:Region.noSelect ops=true)
   (hQ:∀ρ H a w S,K ρ H->St S w H->Pin S w Hp->FR S w ρ a->Grow S0 w0 S w->fM S0.N H0 H->a.defers=[]->a.tmps.size=n->Q' .normal a w):
   ∀(f:List (Nat×Bool)) (listed:Array Bool) (ρ:Env) (H:aJ) (a:Act) (w:World) (S:Sg),pA ops f listed=true ->
     qY P (bA P) (dG P) mt ops K Hp f ρ H->St S w H->Pin S w Hp->FR S w ρ a->Grow S0 w0 S w->fM S0.N H0 H->a.defers=[]->a.tmps.size=n->∀I,Rw w I->jP P .any ops (Cb S w) Rw Q' f.length listed a I
 | [],listed,ρ,H,a,w,S,hB,h,hS,hP,hF,hG,hN,hd,hn,I,h2=>by
   have hg:=hS.grow h2.1 h2.2.1 h2.2.2.1 h2.2.2.2.1 h2.2.2.2.2;exact⟨by simpa[pA]using hB,hQ ρ H a I S h (hS.after h2.2.2.2.1 h2.2.2.2.2) (hP.keep hS hg) (hF.keep S.le_refl (hg.kept hS)) (hG.trans hg) hN hd hn⟩
 | (k,true)::f,listed,ρ,H,a,w,S,hB,h,hS,hP,hF,hG,hN,hd,hn,I,h2=>by
   simp only[pA,Bool.and_eq_true]at hB;obtain⟨⟨X,hf⟩,am⟩:=hB;unfold qY at h;split at h
   . rename_i o h0
     rw[if_pos rfl]at h;have Z:=E o (Array.mem_of_getElem? h0);obtain⟨z,hz,h1,h3⟩:=vH (S:=S.unpin Hp) (CC:=Cb S w) (K:=fun ab _=>qY P (bA P) (dG P) mt ops K Hp f ab H) (fun w hc=>hc.pin hS hP) E (hP.merge hS fun k r hk=>.inr hk) (hF.keep (S.le_unpin Hp) (fR.refl S w)) hn Z h;have next:∀v,rep (S.unpin Hp) w z v->∀J,Rw w J->jP P .any ops (Cb S w) Rw Q' f.length (listed.setIfInBounds k true) (a.put o.dst v) J:=fun v hv J h3=>
       wQ E F hQ f _ _ H _ w S am hz hS hP (FR.put hF (lD (S.unpin_le Hp) (fR.refl (S.unpin Hp) w) _ _ hv)) hG hN (by rw[nQ];exact hd) (by rw[vN];exact hn) J h3
     rw[List.length_cons];by_cases O:Region.wanted o (yielded ops a.tmps)=true
     . obtain⟨v,hv,hq⟩:=h1 O
       exact kB h0 (Region.noSelect_spec F) Rw.refl (fun _ _ _=>Rw.trans) (fun _ _ hc X=>hc.rw hS X) _ listed a I (h2.cb hS) (Region.free_spec h0 hf) (by simpa using X) (.inl ⟨O,hq⟩) (fun J h3=>next v hv J (h2.trans h3))
     . have af:Region.wanted o (yielded ops a.tmps)=false:=by simpa using O
       exact kB h0 (Region.noSelect_spec F) Rw.refl (fun _ _ _=>Rw.trans) (fun _ _ hc X=>hc.rw hS X) _ listed a I (h2.cb hS) (Region.free_spec h0 hf) (by simpa using X) (.inr ⟨af,rfl⟩) (fun J ai=>next _ (h3 af) J (h2.trans ai))
   . exact h.elim
 | (k,false)::f,listed,ρ,H,a,w,S,hB,h,hS,hP,hF,hG,hN,hd,hn,I,h2=>by
   simp only[pA,Bool.and_eq_true,decide_eq_true_eq]at hB;unfold qY at h;split at h
   . rename_i o h0
     rw[if_neg (by simp)]at h;have Z:=E o (Array.mem_of_getElem? h0);rw[List.length_cons];refine⟨by rw[hB.1];simp,fun i hi=>?_⟩;rw[hB.1]at hi;have ao:i=k:=by simpa using hi
     subst ao;have Y:=hS.grow h2.1 h2.2.1 h2.2.2.1 h2.2.2.2.1 h2.2.2.2.2;have ac:St S I H:=hS.after h2.2.2.2.1 h2.2.2.2.2;have al:Pin S I Hp:=hP.keep hS Y;have aj:FR S I ρ a:=hF.keep S.le_refl (Y.kept hS);have he:=vR (S0:=S) (w0:=I) (H0:=H) (K:=qY P (bA P) (dG P) mt ops K Hp f) (K':=fun a' w'=>a'.defers=[]/\Cb S w w'/\∀J,Rw w' J->jP P .any ops (Cb S w) Rw Q' f.length (listed.setIfInBounds i true) a' J) (Q':=fun _ _ _=>False) E ac aj (Grow.refl S I) (fM.refl _ _) hd hn Z
       (fun ab H' a' w' hk X=>by
         obtain⟨S',ak,ag,ad,an,ae,ah⟩:=X;have aa:Grow S w S' w':=Y.trans ad;refine⟨ae,aa.cb,fun J h3=>?_⟩;refine tJ (fun x hx=>Cb.mono hS aa hx) _ _ _ _ (wQ E F hQ f _ ab H' a' w' S' hB.2 hk ak (al.keep ac ad) ag (hG.trans aa) (hN.trans an hG.le.N) ae ah J h3)) h
     unfold gOp;simp only[h0];by_cases O:Region.wanted o (yielded ops a.tmps)=true
     . rw[if_pos O]
       exact pT (fun v w' hk=>hk.2) (Ag (fun a w hk=>hk.1) (he.1 O))
     . rw[if_neg O]
       exact(he.2 (by simpa using O)).2
   . exact h.elim
theorem sA{Q':Exit->Act->World->Prop}{Hp:aJ}(O:∀o∈ops,kJ n o=true){i m:Nat}{o:Oper}{E:Array Bool}{K1:Env->aJ->Prop}(h0:ops[i]?=some o)(h:aop P (bA P) (dG P) mt false ops o ρ H K1)
   (hS:St S w H) (hP:Pin S w Hp) (hF:FR S w ρ a) (hd:a.defers=[]) (hn:a.tmps.size=n) {X:World} (Y:Rw w X)
   (next:∀J H' F w' S',K1 J H'->St S' w' H'->Pin S' w' Hp->FR S' w' J F->Grow S w S' w'->fM S.N H H'->F.defers=[]->F.tmps.size=n->∀I,Rw w' I->jP P .any ops (Cb S' w') Rw Q' m (E.setIfInBounds i true) F I):
   gOp P ops i (fun F w'=>Cb S w w'/\∀I,Rw w' I->jP P .any ops (Cb S w) Rw Q' m (E.setIfInBounds i true) F I) a X:=by
 have af:=O o (Array.mem_of_getElem? h0);have Z:=hS.grow Y.1 Y.2.1 Y.2.2.1 Y.2.2.2.1 Y.2.2.2.2;have ab:St S X H:=hS.after Y.2.2.2.1 Y.2.2.2.2;have ai:Pin S X Hp:=hP.keep hS Z;have ak:FR S X ρ a:=hF.keep S.le_refl (Z.kept hS);have he:=vR (S0:=S) (w0:=X) (H0:=H) (K:=K1) (K':=fun F w'=>F.defers=[]/\Cb S w w'/\∀I,Rw w' I->jP P .any ops (Cb S w) Rw Q' m (E.setIfInBounds i true) F I) (Q':=fun _ _ _=>False) O ab ak (Grow.refl S X) (fM.refl _ _) hd hn af
   (fun J H' F w' hk hr=>by
     obtain⟨S',ah,ae,ac,aj,ad,ag⟩:=hr;have aa:Grow S w S' w':=Z.trans ac;refine⟨ad,aa.cb,fun I h3=>?_⟩;exact tJ (fun x hx=>Cb.mono hS aa hx) _ _ _ _ (next J H' F w' S' hk ah (ai.keep ab ac) ae aa aj ad ag I h3)) h
 unfold gOp;simp only[h0];by_cases hw:Region.wanted o (yielded ops a.tmps)=true
 . rw[if_pos hw]
   exact pT (fun v w' hk=>hk.2) (Ag (fun a w hk=>hk.1) (he.1 hw))
 . rw[if_neg hw]
   exact(he.2 (by simpa using hw)).2
theorem pI{q:Bool}{k:Nat}{E:Env->aJ->Prop}(h:AU P (bA P) (dG P) mt q ops k ρ H E):∃o,ops[k]?=some o/\aop P (bA P) (dG P) mt q ops o ρ H E:=by
 unfold AU at h;split at h
 . rename_i o h0;exact⟨o,h0,h⟩
 . exact h.elim
theorem jW{Q':Exit->Act->World->Prop}{Hp:aJ}(E:∀o∈ops,kJ n o=true)(F:Region.noSelect ops=true)
   (hQ:∀ρ H a w S,K ρ H->St S w H->Pin S w Hp->FR S w ρ a->Grow S0 w0 S w->fM S0.N H0 H->a.defers=[]->a.tmps.size=n->Q' .normal a w):
   ∀(t:Mx) (m:Nat) (listed:Array Bool) (ρ:Env) (H:aJ) (a:Act) (w:World) (S:Sg),gB ops t m listed=true ->
     nD P (bA P) (dG P) mt ops K Hp t ρ H->St S w H->Pin S w Hp->FR S w ρ a->Grow S0 w0 S w->fM S0.N H0 H->a.defers=[]->a.tmps.size=n->∀w2,Rw w w2->jP P .any ops (Cb S w) Rw Q' m listed a w2
 | .nil,m,listed,ρ,H,a,w,S,hB,h,hS,hP,hF,hG,hN,hd,hn,w2,h2=>by
   cases m with
   | succ m=>simp[gB]at hB
   | zero=>
     have hg:=hS.grow h2.1 h2.2.1 h2.2.2.1 h2.2.2.2.1 h2.2.2.2.2;exact⟨by simpa[gB]using hB,hQ ρ H a w2 S h (hS.after h2.2.2.2.1 h2.2.2.2.2) (hP.keep hS hg) (hF.keep S.le_refl (hg.kept hS)) (hG.trans hg) hN hd hn⟩
 | .q k t,m,listed,ρ,H,a,w,S,hB,h,hS,hP,hF,hG,hN,hd,hn,w2,h2=>by
   cases m with
   | zero=>simp[gB]at hB
   | succ m=>
     simp only[gB,Bool.and_eq_true]at hB;obtain⟨⟨hr,hf⟩,ah⟩:=hB;obtain⟨o,h0,h⟩:=pI h;have aj:=E o (Array.mem_of_getElem? h0);obtain⟨z,hz,h1,h3⟩:=vH (S:=S.unpin Hp) (CC:=Cb S w) (K:=fun I _=>nD P (bA P) (dG P) mt ops K Hp t I H) (fun w hc=>hc.pin hS hP) E (hP.merge hS fun k r hk=>.inr hk) (hF.keep (S.le_unpin Hp) (fR.refl S w)) hn aj h;have next:∀v,rep (S.unpin Hp) w z v->∀w3,Rw w w3->jP P .any ops (Cb S w) Rw Q' m (listed.setIfInBounds k true) (a.put o.dst v) w3:=fun v hv w3 h3=>
       jW E F hQ t m _ _ H _ w S ah hz hS hP (FR.put hF (lD (S.unpin_le Hp) (fR.refl (S.unpin Hp) w) _ _ hv)) hG hN (by rw[nQ];exact hd) (by rw[vN];exact hn) w3 h3
     by_cases hw:Region.wanted o (yielded ops a.tmps)=true
     . obtain⟨v,hv,hq⟩:=h1 hw
       exact kB h0 (Region.noSelect_spec F) Rw.refl (fun _ _ _=>Rw.trans) (fun _ _ hc hr=>hc.rw hS hr) _ listed a w2 (h2.cb hS) (Region.free_spec h0 hf) (by simpa using hr) (.inl ⟨hw,hq⟩) (fun w3 h3=>next v hv w3 (h2.trans h3))
     . have ae:Region.wanted o (yielded ops a.tmps)=false:=by simpa using hw
       exact kB h0 (Region.noSelect_spec F) Rw.refl (fun _ _ _=>Rw.trans) (fun _ _ hc hr=>hc.rw hS hr) _ listed a w2 (h2.cb hS) (Region.free_spec h0 hf) (by simpa using hr) (.inr ⟨ae,rfl⟩) (fun w3 ag=>next _ (h3 ae) w3 (h2.trans ag))
 | .a1 k t,m,listed,ρ,H,a,w,S,hB,h,hS,hP,hF,hG,hN,hd,hn,w2,h2=>by
   cases m with
   | zero=>simp[gB]at hB
   | succ m=>
     simp only[gB,Bool.and_eq_true,decide_eq_true_eq]at hB;obtain⟨o,h0,g⟩:=pI h;refine⟨by rw[hB.1];simp,fun i hi=>?_⟩;rw[hB.1]at hi;simp only[List.mem_cons,List.not_mem_nil,or_false]at hi;subst hi;exact sA E h0 g hS hP hF hd hn h2 fun I H' a' w' S' hk Z O J Y ab aa X w3 h3=>jW E F hQ t m _ I H' a' w' S' hB.2 hk Z O J (hG.trans Y) (hN.trans ab hG.le.N) aa X w3 h3
 | .a2 k t k' t',m,listed,ρ,H,a,w,S,hB,h,hS,hP,hF,hG,hN,hd,hn,w2,h2=>by
   cases m with
   | zero=>simp[gB]at hB
   | succ m=>
     simp only[gB,Bool.and_eq_true,decide_eq_true_eq]at hB;obtain⟨h,h'⟩:=h;obtain⟨o,h0,g⟩:=pI h;obtain⟨o',ac,g'⟩:=pI h';refine⟨by rw[hB.1.1];simp,fun i hi=>?_⟩;rw[hB.1.1]at hi;simp only[List.mem_cons,List.not_mem_nil,or_false]at hi;rcases hi with rfl|rfl
     . exact sA E h0 g hS hP hF hd hn h2 fun I H' a' w' S' hk Z O J Y ab aa X w3 h3=>jW E F hQ t m _ I H' a' w' S' hB.1.2 hk Z O J (hG.trans Y) (hN.trans ab hG.le.N) aa X w3 h3
     . exact sA E ac g' hS hP hF hd hn h2 fun I H' a' w' S' hk Z O J Y ab aa X w3 h3=>jW E F hQ t' m _ I H' a' w' S' hB.2 hk Z O J (hG.trans Y) (hN.trans ab hG.le.N) aa X w3 h3
 | .a3 k t k' t' k'' t'',m,listed,ρ,H,a,w,S,hB,h,hS,hP,hF,hG,hN,hd,hn,w2,h2=>by
   cases m with
   | zero=>simp[gB]at hB
   | succ m=>
     simp only[gB,Bool.and_eq_true,decide_eq_true_eq]at hB;obtain⟨h,h',af⟩:=h;obtain⟨o,h0,g⟩:=pI h;obtain⟨o',ac,g'⟩:=pI h';obtain⟨ak,ad,ai⟩:=pI af;refine⟨by rw[hB.1.1.1];simp,fun i hi=>?_⟩;rw[hB.1.1.1]at hi;simp only[List.mem_cons,List.not_mem_nil,or_false]at hi;rcases hi with rfl|rfl|rfl
     . exact sA E h0 g hS hP hF hd hn h2 fun I H' a' w' S' hk Z O J Y ab aa X w3 h3=>jW E F hQ t m _ I H' a' w' S' hB.1.1.2 hk Z O J (hG.trans Y) (hN.trans ab hG.le.N) aa X w3 h3
     . exact sA E ac g' hS hP hF hd hn h2 fun I H' a' w' S' hk Z O J Y ab aa X w3 h3=>jW E F hQ t' m _ I H' a' w' S' hB.1.2 hk Z O J (hG.trans Y) (hN.trans ab hG.le.N) aa X w3 h3
     . exact sA E ad ai hS hP hF hd hn h2 fun I H' a' w' S' hk Z O J Y ab aa X w3 h3=>jW E F hQ t'' m _ I H' a' w' S' hB.2 hk Z O J (hG.trans Y) (hN.trans ab hG.le.N) aa X w3 h3
theorem SA{Q':Exit->Act->World->Prop}{id:Nat}{l:List Nat}{f:List (Nat×Bool)}(hm:P.follows .mixedOrders=true)(ak:∀o∈ops,kJ n o=true)(hl:∀k,k∈l->(H k).isSome=true)(hB:Pl ops f=true)
   (h:∀Hp Y:aJ,(∀k,k∈l->Hp k=H k)->(∀k,k∉l->Y k=H k)->(∀k,k∉l->Hp k=none)->(∀k,k∈l->Y k=none)->qY P (bA P) (dG P) mt ops (mY l H K) Hp f ρ Y)
   (hR:Rel n S0 w0 H0 ρ H a w) (hQ:∀ρ H a w,K ρ H->Rel n S0 w0 H0 ρ H a w->Q' .normal a w):(Code.region id ops true).wp P Q' a w:=by
 obtain⟨S,hS,hF,hG,hN,hd,hn⟩:=hR;simp only[Pl,Bool.and_eq_true,decide_eq_true_eq]at hB;obtain⟨⟨hs,aw⟩,al⟩:=hB
 let Hp:aJ:=fun k=>if k∈l then H k else none
 let Y:aJ:=fun k=>if k∈l then none else H k
 have ag:∀k,k∈l->Hp k=H k:=fun k E=>if_pos E
 have am:∀k,k∉l->Hp k=none:=fun k E=>if_neg E
 have ac:∀k,k∉l->Y k=H k:=fun k E=>if_neg E
 have ah:∀k,k∈l->Y k=none:=fun k E=>if_pos E
 have J:∀k r,Hp k=some r->H k=some r/\k∈l:=fun k r E=>by
   by_cases h:k∈l
   . exact⟨by rw[<-ag k h];exact E,h⟩
   . rw[am k h]at E;cases E
 have X:∀k r,Y k=some r->H k=some r/\k∉l:=fun k r E=>by
   by_cases h:k∈l
   . rw[ah k h]at E;cases E
   . exact⟨by rw[<-ac k h];exact E,h⟩
 let w1:World:={ w with drawn:=w.drawn+1 }
 have F:St S w1 H:=hS.after (Nat.le_refl _) fun _ _=>rfl
 have an:Grow S w S w1:=hS.grow rfl rfl rfl (Nat.le_refl _) fun _ _=>rfl
 have ao:FR S w1 ρ a:=hF.keep S.le_refl (an.kept hS);have aq:St (S.pin Hp) w1 Y:=by
   refine⟨fun k E=>.inl (F.ro_fz k E),fun k E=>?_,fun k r E=>(F.rows k r (X k r E).1).keep (S.le_pin Hp) (fR.refl S w1) (fun _ _=>rfl),fun k r E g Z hf=>?_,fun k k' r r' E af aa g Z ae=>F.disj k k' r r' (X k r E).1 (X k' r' af).1 aa g Z ae,F.tabs⟩
   . rcases E with h1|⟨i,r,hi,Z⟩
     . exact F.fz_lt k h1
     . exact(F.rows i r (J i r hi).1).block_lt Z
   . rcases hf with h1|⟨i,r',hi,ae⟩
     . exact F.free k r (X k r E).1 g Z h1
     . exact F.disj k i r r' (X k r E).1 (J i r' hi).1 (fun e=>(X k r E).2 (e▸(J i r' hi).2)) g Z ae
 have a0:Pin (S.pin Hp) w1 Hp:=by
   refine⟨fun k r E=>(F.rows k r (J k r E).1).keep (S.le_pin Hp) (fR.refl S w1) (fun _ _=>rfl),fun k r E g Z=>⟨.inr ⟨k,r,E,Z⟩,fun h1=>F.free k r (J k r E).1 g Z (F.ro_fz g h1)⟩,fun k k' r r' E af aa g Z=>F.disj k k' r r' (J k r E).1 (J k' r' af).1 aa g Z⟩
 refine wp_region_any hm (sN (C:=Cb (S.pin Hp) w1) (R:=Rw) Rw.refl _ _ _ _ ?_);have:=wQ (Q':=Q') (Hp:=Hp) (K:=mY l H K) (S0:=S.pin Hp) (w0:=w1) (H0:=Y) ak hs (fun ar H' a' w' S' E au ax av I aj az ay=>by
   have ad:∀k,k∈l->H' k=none:=fun k E=>by
     obtain⟨r,hr⟩:=Option.isSome_iff_exists.1 (hl k E);exact aj k (hS.rows k r hr).lt (ah k E)
   let Hm:aJ:=fun k=>if k∈l then H k else H' k
   have ab:∀k,k∈l->Hm k=H k:=fun k E=>if_pos E
   have ai:∀k,k∉l->Hm k=H' k:=fun k E=>if_neg E
   refine hQ ar Hm a' w' (E ad Hm ab ai) ⟨S'.unpin Hp,ax.merge au (fun k r E=>?_),av.keep (S'.le_unpin Hp) (fR.refl S' w'),?_,?_,az,ay⟩
   . by_cases O:k∈l
     . right;rw[ag k O,<-ab k O];exact E
     . left;rw[<-ai k O];exact E
   . refine hG.trans (an.trans ⟨⟨I.le.ro, I.le.N, I.le.loc, I.le.sz⟩, fun k E => ⟨I.fz k (.inl E), fun ⟨i, r, hi, hb⟩ => by
       have ap:=F.rows i r (J i r hi).1;have e:S'.loc i=S.loc i:=I.le.loc i ap.lt;rw[show(S'.loc i)=S.loc i from e]at hb;exact F.free i r (J i r hi).1 k hb E⟩,I.os,I.tape,I.output,I.size,fun k E=>I.same k (.inl E),fun k E=>by
       rcases I.newro k E with h2|h2
       . exact .inl h2
       . exact .inr fun h3=>h2 (.inl h3)⟩)
   . intro k E h0
     have hH:=hN k E h0;by_cases O:k∈l
     . rw[ab k O];exact hH
     . rw[ai k O]
       exact aj k (Nat.lt_of_lt_of_le E hG.le.N) (by rw[ac k O];exact hH)) f (Array.replicate ops.size false) ρ Y a w1 (S.pin Hp) al (h Hp Y ag ac am ah) aq a0 (ao.keep (S.le_pin Hp) (fR.refl S w1)) (Grow.refl _ _) (fM.refl _ _) hd hn w1 (Rw.refl w1)
 rw[aw]at this;exact this
theorem Pw{Q':Exit->Act->World->Prop}{id:Nat}{l:List Nat}{t:Mx}(hm:P.follows .mixedOrders=true)(ak:∀o∈ops,kJ n o=true)(hl:∀k,k∈l->(H k).isSome=true)(hB:Cm ops t=true)
   (h:∀Hp Y:aJ,(∀k,k∈l->Hp k=H k)->(∀k,k∉l->Y k=H k)->(∀k,k∉l->Hp k=none)->(∀k,k∈l->Y k=none)->nD P (bA P) (dG P) mt ops (mY l H K) Hp t ρ Y)
   (hR:Rel n S0 w0 H0 ρ H a w) (hQ:∀ρ H a w,K ρ H->Rel n S0 w0 H0 ρ H a w->Q' .normal a w):(Code.region id ops true).wp P Q' a w:=by
 obtain⟨S,hS,hF,hG,hN,hd,hn⟩:=hR;simp only[Cm,Bool.and_eq_true]at hB;obtain⟨hs,al⟩:=hB
 let Hp:aJ:=fun k=>if k∈l then H k else none
 let Y:aJ:=fun k=>if k∈l then none else H k
 have ag:∀k,k∈l->Hp k=H k:=fun k E=>if_pos E
 have am:∀k,k∉l->Hp k=none:=fun k E=>if_neg E
 have ac:∀k,k∉l->Y k=H k:=fun k E=>if_neg E
 have ah:∀k,k∈l->Y k=none:=fun k E=>if_pos E
 have J:∀k r,Hp k=some r->H k=some r/\k∈l:=fun k r E=>by
   by_cases h:k∈l
   . exact⟨by rw[<-ag k h];exact E,h⟩
   . rw[am k h]at E;cases E
 have X:∀k r,Y k=some r->H k=some r/\k∉l:=fun k r E=>by
   by_cases h:k∈l
   . rw[ah k h]at E;cases E
   . exact⟨by rw[<-ac k h];exact E,h⟩
 let w1:World:={ w with drawn:=w.drawn+1 }
 have F:St S w1 H:=hS.after (Nat.le_refl _) fun _ _=>rfl
 have an:Grow S w S w1:=hS.grow rfl rfl rfl (Nat.le_refl _) fun _ _=>rfl
 have ao:FR S w1 ρ a:=hF.keep S.le_refl (an.kept hS);have aq:St (S.pin Hp) w1 Y:=by
   refine⟨fun k E=>.inl (F.ro_fz k E),fun k E=>?_,fun k r E=>(F.rows k r (X k r E).1).keep (S.le_pin Hp) (fR.refl S w1) (fun _ _=>rfl),fun k r E g Z hf=>?_,fun k k' r r' E af aa g Z ae=>F.disj k k' r r' (X k r E).1 (X k' r' af).1 aa g Z ae,F.tabs⟩
   . rcases E with h1|⟨i,r,hi,Z⟩
     . exact F.fz_lt k h1
     . exact(F.rows i r (J i r hi).1).block_lt Z
   . rcases hf with h1|⟨i,r',hi,ae⟩
     . exact F.free k r (X k r E).1 g Z h1
     . exact F.disj k i r r' (X k r E).1 (J i r' hi).1 (fun e=>(X k r E).2 (e▸(J i r' hi).2)) g Z ae
 have az:Pin (S.pin Hp) w1 Hp:=by
   refine⟨fun k r E=>(F.rows k r (J k r E).1).keep (S.le_pin Hp) (fR.refl S w1) (fun _ _=>rfl),fun k r E g Z=>⟨.inr ⟨k,r,E,Z⟩,fun h1=>F.free k r (J k r E).1 g Z (F.ro_fz g h1)⟩,fun k k' r r' E af aa g Z=>F.disj k k' r r' (J k r E).1 (J k' r' af).1 aa g Z⟩
 refine wp_region_any hm (sN (C:=Cb (S.pin Hp) w1) (R:=Rw) Rw.refl _ _ _ _ ?_);have:=jW (Q':=Q') (Hp:=Hp) (K:=mY l H K) (S0:=S.pin Hp) (w0:=w1) (H0:=Y) ak hs (fun ar H' a' w' S' E au aw av I aj ay ax=>by
   have ad:∀k,k∈l->H' k=none:=fun k E=>by
     obtain⟨r,hr⟩:=Option.isSome_iff_exists.1 (hl k E);exact aj k (hS.rows k r hr).lt (ah k E)
   let Hm:aJ:=fun k=>if k∈l then H k else H' k
   have ab:∀k,k∈l->Hm k=H k:=fun k E=>if_pos E
   have ai:∀k,k∉l->Hm k=H' k:=fun k E=>if_neg E
   refine hQ ar Hm a' w' (E ad Hm ab ai) ⟨S'.unpin Hp,aw.merge au (fun k r E=>?_),av.keep (S'.le_unpin Hp) (fR.refl S' w'),?_,?_,ay,ax⟩
   . by_cases O:k∈l
     . right;rw[ag k O,<-ab k O];exact E
     . left;rw[<-ai k O];exact E
   . refine hG.trans (an.trans ⟨⟨I.le.ro, I.le.N, I.le.loc, I.le.sz⟩, fun k E => ⟨I.fz k (.inl E), fun ⟨i, r, hi, hb⟩ => by
       have ap:=F.rows i r (J i r hi).1;have e:S'.loc i=S.loc i:=I.le.loc i ap.lt;rw[show(S'.loc i)=S.loc i from e]at hb;exact F.free i r (J i r hi).1 k hb E⟩,I.os,I.tape,I.output,I.size,fun k E=>I.same k (.inl E),fun k E=>by
       rcases I.newro k E with h2|h2
       . exact .inl h2
       . exact .inr fun h3=>h2 (.inl h3)⟩)
   . intro k E h0
     have hH:=hN k E h0;by_cases O:k∈l
     . rw[ab k O];exact hH
     . rw[ai k O]
       exact aj k (Nat.lt_of_lt_of_le E hG.le.N) (by rw[ac k O];exact hH)) t ops.size (Array.replicate ops.size false) ρ Y a w1 (S.pin Hp) al (h Hp Y ag ac am ah) aq az (ao.keep (S.le_pin Hp) (fR.refl S w1)) (Grow.refl _ _) (fM.refl _ _) hd hn w1 (Rw.refl w1)
 exact this
end
end Go.Aw
end
section
namespace Go.Aw
open Go.RowKit
section
variable{P:Program}{n:Nat}{S0:Sg}{w0:World}{H0:aJ}{mt:Nat->Bool}{ops:Array Oper}{K:Env->aJ->Prop}{ρ:Env}{H:aJ}{a:Act}{w:World}{S:Sg}
theorem FL(E:∀o∈ops,kJ n o=true){Q':Exit->Act->World->Prop}(O:∀ρ H a w,K ρ H->Rel n S0 w0 H0 ρ H a w->Q' .normal a w):
   ∀(l:List Oper) (ρ:Env) (H:aJ) (a:Act) (w:World),(∀o∈l,kJ n o=true)->xC P (bA P) (dG P) mt false ops K l ρ H->Rel n S0 w0 H0 ρ H a w->wpList P ops Q' l a w
 | [],ρ,H,a,w,_,h,hR=>O ρ H a w h hR
 | o::rest,ρ,H,a,w,hl,h,hR=>by
   obtain⟨S,Z,hF,hG,X,Y,hn⟩:=hR;have J:=vR (K':=wpList P ops Q' rest) (Q':=Q') E Z hF hG X Y hn (hl o (by simp))
     (fun I H' a' w' hk hr=>FL E O rest I H' a' w' (fun o ho=>hl o (by simp[ho])) hk hr) h
   unfold wpList;by_cases F:Region.wanted o (yielded ops a.tmps)=true
   . rw[if_pos F];exact .inl (J.1 F)
   . rw[if_neg F];exact J.2 (by simpa using F)
def Cls(S:Sg)(H:aJ)(w1 w:World):Prop:=
 w.os=w1.os/\w.tape=w1.tape/\w.output=w1.output/\w1.heap.size<=w.heap.size/\∀k,k<w1.heap.size->w.heap[k]?=w1.heap[k]?
theorem Cls.st{w1:World}(E:St S w1 H)(h:Cls S H w1 w):St S w H:=E.after h.2.2.2.1 h.2.2.2.2
theorem Cls.grow{w1:World}(E:St S w1 H)(h:Cls S H w1 w):Grow S w1 S w:=E.grow h.1 h.2.1 h.2.2.1 h.2.2.2.1 h.2.2.2.2
theorem Cls.agree{w1:World}(E:St S w1 H)(h:Cls S H w1 w):Agree S H w1 w:=
 ⟨(h.grow E).kept E,fun k r F g I=>h.2.2.2.2 g ((E.rows k r F).block_lt I)⟩
theorem Qy{P:Program}{o:Oper}{a:Act}{w w1:World}{v:Value}(E:Cls S H w1 w)(h:o.quietAt P a (Rw w) w v):o.quietAt P a (Cls S H w1) w v:=by
 unfold Oper.quietAt at *;generalize (execOp a.eval o).run P w=r at *;cases r with
 | ok m w'=>
   cases m <;> simp only[Oper.quietUpon]at h |-
   case value u=>exact h
   case skip=>exact h
   case enter f args=>exact⟨h.1,h.2.mono fun e w2 ⟨Y,O,I,J,Z,X⟩=>⟨Y,O.trans E.1,I.trans E.2.1,J.trans E.2.2.1,Nat.le_trans E.2.2.2.1 Z,fun k F=>(X k (Nat.lt_of_lt_of_le F E.2.2.2.1)).trans (E.2.2.2.2 k F)⟩⟩
 | halt x w'=>simp only[Oper.quietUpon]at h
theorem F5{w1:World}(F:∀o∈ops,kJ n o=true)(O:St S w1 H):∀(l:List Oper) (ρ:Env) (a:Act),(∀o∈l,kJ n o=true)->xC P (bA P) (dG P) mt true ops K l ρ H->FR S w1 ρ a->a.defers=[]->a.tmps.size=n ->
   wpQuiet P ops (Cls S H w1) (fun I=>∃E,K E H/\FR S w1 E I/\I.defers=[]/\I.tmps.size=n) l a
 | [],ρ,a,_,h,hF,hd,hn=>⟨ρ,h,hF,hd,hn⟩
 | o::rest,ρ,a,hl,h,hF,hd,hn=>by
   obtain⟨z,hz,h1,Z⟩:=vH (CC:=Cls S H w1) (fun w J=>⟨J.st O,J.agree O⟩) F O hF hn (hl o (by simp)) h;have next:∀v,rep S w1 z v->wpQuiet P ops (Cls S H w1) (fun I=>∃E,K E H/\FR S w1 E I/\I.defers=[]/\I.tmps.size=n) rest (a.put o.dst v):=fun v Y=>
     F5 F O rest _ _ (fun o ho=>hl o (by simp[ho])) hz (FR.put hF Y) (by rw[nQ];exact hd) (by rw[vN];exact hn)
   unfold wpQuiet;by_cases X:Region.wanted o (yielded ops a.tmps)=true
   . rw[if_pos X]
     obtain⟨v,Y,hq⟩:=h1 X;exact⟨v,fun w J=>Qy J (hq w J),next v Y⟩
   . rw[if_neg X]
     exact next _ (Z (by simpa using X))
end
theorem wI{P:Program}{ops:Array Oper}{C:World->Prop}{Q Q':Act->Prop}(E:∀a,Q a->Q' a):∀(l:List Oper) (a:Act),wpQuiet P ops C Q l a->wpQuiet P ops C Q' l a
 | [],a,h=>E a h
 | o::rest,a,h=>by
   unfold wpQuiet at h |-;split
   . rename_i F
     rw[if_pos F]at h;exact Oper.quiet_mono (fun J I=>wI E rest J I) h
   . rename_i F
     rw[if_neg F]at h;exact wI E rest _ h
def zY(n:Nat):Code->Bool
 | .region _ ops _=>ops.all (kJ n)
 | .seq a b=>zY n a&&zY n b
 | .cond c a b=>opB n c&&(zY n a&&zY n b)
 | .block _ c=>zY n c
 | .loop c=>zY n c
 | .scope c=>zY n c
 | _=>true
def V9(n:Nat)(S0:Sg)(w0:World)(H0:aJ)(Q:Ex->Env->aJ->Prop):Exit->Act->World->Prop
 | .normal,a,w=>∃ρ H,Q .normal ρ H/\Rel n S0 w0 H0 ρ H a w
 | .exit id,a,w=>∃ρ H,Q (.exit id) ρ H/\Rel n S0 w0 H0 ρ H a w
 | .ret,a,w=>∃ρ H,Q .ret ρ H/\Rel n S0 w0 H0 ρ H a w
 | _,_,_=>False
theorem oC{P:Program}{n:Nat}{S0:Sg}{w0:World}{H0:aJ}{mt:Nat->Bool}(Z:P.follows .mixedOrders=true):∀(c:Code) (Q:Ex->Env->aJ->Prop) (ρ:Env) (H:aJ) (a:Act) (w:World),zY n c=true ->
   awp P (bA P) (dG P) mt c Q ρ H->Rel n S0 w0 H0 ρ H a w->c.wp P (V9 n S0 w0 H0 Q) a w
 | .skip,Q,ρ,H,a,w,_,h,F=>wp_skip ⟨ρ,H,h,F⟩
 | .region id ops false,Q,ρ,H,a,w,hb,h,F=>by
   rw[Fb]at h;have E:∀o∈ops,kJ n o=true:=fun o ho=>Array.all_eq_true_iff_forall_mem.1 hb o ho
   exact wp_region_list (FL E (fun ρ H a w J Y=>⟨ρ,H,J,Y⟩) ops.toList ρ H a w (fun o ho=>E o (Array.mem_toList_iff.1 ho)) h F)
 | .region id ops true,Q,ρ,H,a,w,hb,h,F=>by
   rw[N2]at h;have E:∀o∈ops,kJ n o=true:=fun o ho=>Array.all_eq_true_iff_forall_mem.1 hb o ho
   rcases h with⟨_,ad,h⟩|⟨hB,h⟩|⟨f,hB,h⟩|⟨l,f,hl,hB,h⟩|⟨l,t,hl,hB,h⟩
   . obtain⟨S,hS,hF,hG,hN,hd,hn⟩:=F
     let w1:World:={ w with drawn:=w.drawn+1 }
     have aa:St S w1 H:=hS.after (Nat.le_refl _) fun _ _=>rfl
     have ac:Grow S w S w1:=hS.grow rfl rfl rfl (Nat.le_refl _) fun _ _=>rfl
     have ae:FR S w1 ρ a:=hF.keep S.le_refl (ac.kept hS);refine wp_region_quiet (C:=Cls S H w1) Z ad ⟨rfl,rfl,rfl,Nat.le_refl _,fun _ _=>rfl⟩ ?_;have:=F5 E aa ops.toList ρ a (fun o ho=>E o (Array.mem_toList_iff.1 ho)) h ae hd hn;refine wI (fun a' ⟨O,J,af,aj,ag⟩ w' hc=>?_) ops.toList a this;exact⟨O,H,J,S,hc.st aa,af.keep S.le_refl ((hc.grow aa).kept aa),hG.trans (ac.trans (hc.grow aa)),hN,aj,ag⟩
   . exact Su Z E hB h F fun ρ H a w J Y=>⟨ρ,H,J,Y⟩
   . exact Wc Z E hB h F fun ρ H a w J Y=>⟨ρ,H,J,Y⟩
   . exact SA Z E hl hB h F fun ρ H a w J Y=>⟨ρ,H,J,Y⟩
   . exact Pw Z E hl hB h F fun ρ H a w J Y=>⟨ρ,H,J,Y⟩
 | .seq c d,Q,ρ,H,a,w,hb,h,F=>by
   simp only[zY,Bool.and_eq_true]at hb;rw[T6]at h;refine wp_seq (wp_mono (oC Z c _ ρ H a w hb.1 h F) fun e a' w' X=>?_);cases e <;> simp only[V9,Exit.then]at X |-
   case normal=>obtain⟨O,H',J,Y⟩:=X;exact oC Z d Q O H' a' w' hb.2 J Y
   case exit id=>exact X
   case ret=>exact X
 | .cond c x y,Q,ρ,H,a,w,hb,h,F=>by
   simp only[zY,Bool.and_eq_true]at hb;rw[MR]at h;unfold yI at h;split at h
   . rename_i t ht
     obtain⟨S,hS,hF,hG,hN,hd,hn⟩:=F;have e:=cM hF (x:=c) (hn▸hb.1);rw[ht]at e;simp only[rep]at e;have F:Rel n S0 w0 H0 ρ H a w:=⟨S,hS,hF,hG,hN,hd,hn⟩;exact wp_cond_split e (fun ht=>oC Z x Q ρ H a w hb.2.1 (h.1 ht) F) (fun ht=>oC Z y Q ρ H a w hb.2.2 (h.2 ht) F)
   . exact h.elim
 | .block id c,Q,ρ,H,a,w,hb,h,F=>by
   rw[Hk]at h;refine wp_block (wp_mono (oC Z c _ ρ H a w hb h F) fun e a' w' X=>?_);cases e <;> simp only[V9,Exit.inBlock]at X |-
   case normal=>exact X
   case ret=>exact X
   case exit i=>
     obtain⟨O,H',J,Y⟩:=X;simp only[Ex.blk]at J;by_cases e:i=id
     . rw[if_pos e]at J |-;exact⟨O,H',J,Y⟩
     . rw[if_neg e]at J |-;exact⟨O,H',J,Y⟩
 | .loop c,Q,ρ,H,a,w,hb,h,F=>by
   rw[N3]at h;obtain⟨I,μ,h0,ab⟩:=h;refine wp_loop_ghost (fun m a w=>∃ρ H,I ρ H/\μ ρ H=m/\Rel n S0 w0 H0 ρ H a w) (μ ρ H) ⟨ρ,H,h0,rfl,F⟩ ?_;rintro m a' w' ⟨O,H',hI,rfl,ah⟩;refine wp_mono (oC Z c _ O H' a' w' hb (ab O H' hI) ah) fun e a2 w2 X=>?_
   cases e <;> simp only[V9,Exit.then]at X |-
   case normal=>obtain⟨ak,H2,⟨J,ai⟩,Y⟩:=X;exact⟨_,ai,ak,H2,J,rfl,Y⟩
   case exit id=>exact X
   case ret=>exact X
 | .exit id,Q,ρ,H,a,w,_,h,F=>wp_exit ⟨ρ,H,h,F⟩
 | .ret,Q,ρ,H,a,w,_,h,F=>wp_ret ⟨ρ,H,h,F⟩
 | .rangeFunc ..,_,_,_,_,_,_,h,_=>by simp[awp]at h
 | .scope c,Q,ρ,H,a,w,hb,h,F=>by
   rw[HL]at h;refine wp_scope_straight (wp_mono (oC Z c _ ρ H a w hb h F) fun e a' w' X=>?_);cases e <;> simp only[V9,Exit.noGoto]at X |-
   case normal=>exact X
   case exit id=>exact X
   case ret=>exact X
 | .label _,Q,ρ,H,a,w,_,h,F=>wp_label ⟨ρ,H,h,F⟩
 | .goto _,_,_,_,_,_,_,h,_=>by simp[awp]at h
 | .refuse _,_,_,_,_,_,_,h,_=>by simp[awp]at h
def Ec(P:Program)(ρ:Env)(H:aJ):List ResultVar->(List AV->Prop)->Prop
 | [],K=>K []
 | .tmp t::r,K=>Ec P ρ H r fun l=>K (ρ t::l)
 | .cell t ty::r,K=>match ldT P ty with
   | some l=>oJ none H l (ρ t) fun x=>Ec P ρ H r fun xs=>K (x::xs)
   | none=>False
def SN(R:AV->Prop):List AV->Prop
 | [x]=>R x
 | l=>R (.tup l)
def Fq(P:Program)(rs:List ResultVar)(R:AV->aJ->Prop):Ex->Env->aJ->Prop
 | .exit _,_,_=>False
 | _,ρ,H=>Ec P ρ H rs (SN fun x=>R x H)
def afM(n:Nat):ResultVar->Bool
 | .tmp t=>decide (t<n)
 | .cell t _=>decide (t<n)
def zX(fn:Func)(c:Code)(m:Nat):Bool:=zY fn.ntmps c&&fn.results.toList.all (afM fn.ntmps)&&decide (m<=fn.ntmps)
section
variable{P:Program}{S:Sg}{H:aJ}{w:World}{ρ:Env}{a:Act}
theorem WH{G:Option Bool}{l:Option Nat}{x:AV}{K:AV->Prop}(h:oJ G H l x K){u:Value}(E:rep S w x u):∃F,u=.pointer (some F):=by
 unfold oJ at h;split at h
 . simp only[rep]at E
   obtain⟨b,o,rfl,_⟩:=E;exact⟨_,rfl⟩
 . simp only[rep]at E
   obtain⟨_,g,m,c,_,rfl⟩:=E;exact⟨_,rfl⟩
 . exact h.elim
def JR(tmps:Array Value):ResultVar->Sem Value
 | .tmp t=>pure (tmps.getD t undef)
 | .cell b t=>do loadVar t (<-asAddr (tmps.getD b undef))
theorem Q1(fn:Func)(E:Array Value):results fn E=(do
   let vs <-fn.results.mapM (JR E)
   pure (if h:vs.size=1 then vs[0]else .tuple vs)):=by
 unfold results
 congr 1
theorem yW(O:xZ S w H)(F:FR S w ρ a):∀(Z:List ResultVar) (K:List AV->Prop),(∀r∈Z,afM a.tmps.size r=true)->Ec P ρ H Z K ->
   ∃l vs,K l/\(Z.mapM (JR a.tmps)).run P w=.ok vs w/\bC S w l vs
 | [],K,_,h=>⟨[],[],h,by simp,by simp[bC]⟩
 | .tmp t::r,K,hb,h=>by
   simp only[Ec]at h;obtain⟨l,vs,h1,X,h3⟩:=yW O F r _ (fun x Y=>hb x (by simp[Y])) h;have J:t<a.tmps.size:=by simpa[afM]using hb (.tmp t) (by simp)
   refine⟨_,a.tmps.getD t undef::vs,h1,?_,?_⟩
   . rw[List.mapM_cons]
     simp only[JR,Sem.run_bind,Sem.run_pure,Result.andThen_ok];rw[X];rfl
   . simp only[bC]
     exact⟨_,_,rfl,F t J,h3⟩
 | .cell t ty::r,K,hb,h=>by
   simp only[Ec]at h;split at h
   . rename_i l hl
     have J:t<a.tmps.size:=by simpa[afM]using hb (.cell t ty) (by simp)
     obtain⟨z,hz,hd⟩:=DD (S:=S) (w:=w) hl O h;obtain⟨v,hv,I⟩:=hd trivial _ (F t J);obtain⟨ad,e⟩:=WH h (F t J);have E:=I w (Agree.refl S H w);rw[e]at E;simp only[Instr.loadAt,Instr.sureAddr,pure_bind]at E;obtain⟨l',vs,h1,X,h3⟩:=yW O F r _ (fun x Y=>hb x (by simp[Y])) hz;refine⟨_,v::vs,h1,?_,?_⟩
     . have ha:(asAddr (a.tmps.getD t undef)).run P w=.ok ad w:=by rw[e];rfl
       rw[List.mapM_cons];simp only[JR,Sem.run_bind,ha,Sem.run_pure,Result.andThen_ok,E];rw[X];rfl
     . simp only[bC]
       exact⟨_,_,rfl,hv,h3⟩
   . exact h.elim
theorem bA.body{f:FuncId}{fn:Func}{c:Code}{args:List AV}{R:AV->aJ->Prop}(mt:Nat->Bool)(hm:P.follows .mixedOrders=true)(hf:P.funcs[f]?=some fn)(hb:fn.body=some c)(hc:zX fn c args.length=true)
   (h:awp P (bA P) (dG P) mt c (Fq P fn.results.toList R) (Dt args) H):bA P f args H R:=by
 intro S w vals hS ha;simp only[zX,Bool.and_eq_true,decide_eq_true_eq]at hc;obtain⟨⟨I,aa⟩,ai⟩:=hc;have ad:=iD _ _ ha;refine calls_of_wp hf hb (wp_mono (oC (n:=fn.ntmps) (S0:=S) (w0:=w) (H0:=H) hm c _ _ H _ w I h ⟨S,hS,?_,Grow.refl S w,fM.refl _ _,rfl,?_⟩) ?_)
 . intro t ht
   by_cases e:t<args.length
   . obtain⟨u,h1,F⟩:=BD args vals t ha e
     have hu:(vals.toArray++Array.replicate (fn.ntmps-vals.toArray.size) undef).getD t undef=u:=by
       have X:t<vals.length:=by omega
       have:vals[t]=u:=by rw[List.getElem?_eq_getElem X]at h1;injection h1
       simp[Array.getD_eq_getD_getElem?,Array.getElem?_append,X,this]
     simp only[Dt];rw[hu];exact F
   . simp only[Dt,List.getD,List.getElem?_eq_none (by omega:args.length<=t),Option.getD_none]
     simp only[rep]
 . simp only[Array.size_append,List.size_toArray,Array.size_replicate,ad]
   omega
 . intro e a' w' hq
   have Z:∀E H',Ec P E H' fn.results.toList (SN fun x=>R x H')->Rel fn.ntmps S w H E H' a' w'->a'.defers=[]/\∃v,(results fn a'.tmps).run P w'=.ok v w'/\anO S w H R (.returned v) w':=by
     rintro E H' h1 ⟨S',J,ac,O,Y,ah,ag⟩;refine⟨ah,?_⟩;obtain⟨l,vs,F,h3,h4⟩:=yW (P:=P) J.rows ac fn.results.toList _ (fun r hr=>by rw[ag];exact List.all_eq_true.1 aa r hr) h1;have hr:(results fn a'.tmps).run P w'=.ok (if h:vs.toArray.size=1 then vs.toArray[0]else .tuple vs.toArray) w':=by
       rw[Q1,Array.mapM_eq_mapM_toList];simp only[Sem.run_bind,Sem.run_map];rw[h3];simp only[Result.andThen_ok,Sem.run_pure]
     refine⟨_,hr,?_⟩;unfold SN at F;split at F
     . rename_i x
       simp only[bC]at h4;obtain⟨u,t,rfl,h5,rfl⟩:=h4;exact⟨_,x,H',S',rfl,F,J,by simpa using h5,O,Y⟩
     . rename_i ae
       have ab:=iD _ _ h4;have af:¬vs.toArray.size=1:=by
         intro e;have:l.length=1:=by rw[<-ab];simpa using e
         match l,this with
         | [x],_=>exact ae x rfl
       rw[dif_neg af];exact⟨_,_,H',S',rfl,F,J,by simp only[rep];exact⟨vs,rfl,h4⟩,O,Y⟩
   cases e <;> simp only[V9,bodyPost]at hq |-
   case normal=>obtain⟨E,H',h1,F⟩:=hq;exact Z E H' h1 F
   case ret=>obtain⟨E,H',h1,F⟩:=hq;exact Z E H' h1 F
   case exit id=>obtain⟨E,H',h1,F⟩:=hq;exact h1.elim
theorem RC.body{f:FuncId}{fn:Func}{c:Code}{args:List AV}{R:AV->aJ->Prop}(mt:Nat->Bool)(O:P.follows .mixedOrders=true)(E:P.funcs[f]?=some fn)(X:fn.body=some c)(J:zX fn c args.length=true)
 (h:awp P (bA P) (dG P) mt c (Fq P fn.results.toList R) (Dt args) bS):RC P f args R:=fun S w vals F _ I=>bA.body mt O E X J h S w vals F I
theorem PC.body{f:FuncId}{fn:Func}{c:Code}{args:List AV}{r:AV}(mt:Nat->Bool)(F:P.follows .mixedOrders=true)(E:P.funcs[f]?=some fn)(J:fn.body=some c)(I:zX fn c args.length=true)
 (h:awp P (bA P) (dG P) mt c (Fq P fn.results.toList fun x H'=>Conv H' x r) (Dt args) bS):PC P f args r:=RC.conv (RC.body mt F E J I h)
theorem NC.body{f:FuncId}{fn:Func}{c:Code}{args:List AV}{row:Row}{E:Nat->AV}(mt:Nat->Bool)(I:P.follows .mixedOrders=true)(F:P.funcs[f]?=some fn)(O:fn.body=some c)(J:zX fn c args.length=true)
 (h:awp P (bA P) (dG P) mt c (Fq P fn.results.toList fun x H'=>∃k,x=E k/\H' k=some row) (Dt args) bS):NC P f args row E:=RC.body mt I F O J h
theorem PC.q{f:FuncId}{args:List AV}{r:AV}(h:PC P f args r)(E:(fv r).isSome=true):dG P f args H r:=.inl ⟨args,ConvL.refl args,h,E⟩
theorem PC.qn{f:FuncId}{args:List AV}{r:AV}(h:PC P f args r):dG P f args H (.nf r):=.inr ⟨r,rfl,h⟩
theorem dG.use{f:FuncId}{args:List AV}{r:AV}{K:AV->aJ->Prop}(h:BE P f args H r)(E:K r H):bA P f args H K:=BE.use h E
end
end Go.Aw
end
