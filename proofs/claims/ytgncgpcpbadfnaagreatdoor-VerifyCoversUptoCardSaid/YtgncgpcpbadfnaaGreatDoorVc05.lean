import Derived.StillTail
import Derived.Deep.Quiet
import Derived.Scope
import Derived.Test.YtgncgpcpbadfnaaGreatDoorChecked
import Derived.KernelRfl
import Derived.Test.YtgncgpcpbadfnaaGreatDoorVc04
set_option linter.unusedSimpArgs false
set_option linter.unusedVariables false
set_option linter.defProp false
set_option maxRecDepth 100000
section
namespace Go.Aw
open Go.RowKit
section
variable{P:Program}{ops:Array Oper}{md:Region.Mode}{C:World->Prop}{R:World->World->Prop}{Q':Exit->Act->World->Prop}
def Kw(P:Program)(K:Value->World->Prop):Result Next->Prop
 | .ok (.value v) w'=>K v w'
 | .ok .skip w'=>K undef w'
 | .ok (.enter f args) w'=>Calls P f args w' fun e w''=>∃v,e=.returned v/\K v w''
 | .ok (.row row args) w'=>Rows P row args w' K
 | _=>False
def gAt(P:Program)(o:Oper)(a:Act)(w:World)(K:Value->World->Prop):Prop:=Kw P K ((execOp a.eval o).run P w)
def gOp(P:Program)(ops:Array Oper)(i:Nat)(K:Act->World->Prop)(a:Act)(w:World):Prop:=
 match ops[i]? with
 | none=>False
 | some o=>if Region.wanted o (yielded ops a.tmps)=true then gAt P o a w (fun v w'=>K (a.put o.dst v) w')else K (a.put o.dst undef) w
def rD{K K':Value->World->Prop}(h:∀v w,K v w->K' v w){r:Result Next}(A:Kw P K r):Kw P K' r:=by
 cases r with
 | ok n w'=>
  cases n <;> simp only[Kw]at A |-
  case value u=>exact h _ _ A
  case skip=>exact h _ _ A
  case enter f args=>exact A.mono fun e F ⟨v,I,E⟩=>⟨v,I,h _ _ E⟩
  case row row args=>exact A.mono h
 | halt x w'=>simp only[Kw]at A
def GR{i:Nat}{a:Act}{w:World}{K K':Act->World->Prop}(h:∀a w,K a w->K' a w)(A:gOp P ops i K a w):gOp P ops i K' a w:=by
 unfold gOp at *;split
 ·rename_i F;simp only[F]at A
 ·rename_i o F;simp only[F]at A;split
  ·rename_i E;rw[if_pos E]at A;exact rD (fun v w' I=>h _ _ I) A
  ·rename_i E;rw[if_neg E]at A;exact h _ _ A
def VN{o:Oper}{a:Act}{w:World}{K:Act->World->Prop}(h:gAt P o a w (fun v w'=>K (a.put o.dst v) w')):o.wp P a w K Q':=by
 unfold Oper.wp;unfold gAt at h;generalize (execOp a.eval o).run P w=r at *;cases r with
 | ok n w'=>
  cases n <;> simp only[Kw]at h <;> simp only[Oper.upon]
  case value u=>exact h
  case skip=>exact h
  case enter f args=>exact h.mono fun e F ⟨v,A,E⟩=>by subst A;exact E
  case row row args=>exact h
 | halt x w'=>simp only[Kw]at h
def OM{i:Nat}{a:Act}{w:World}{K:Act->World->Prop}(h:gOp P ops i K a w):wpOp P ops Q' i K a w:=by
 unfold gOp at h;unfold wpOp;split
 ·rename_i E;simp only[E]at h
 ·rename_i o E;simp only[E]at h;split
  ·rename_i A;rw[if_pos A]at h;exact .inl (VN h)
  ·rename_i A;rw[if_neg A]at h;exact h
def J8{o:Oper}{a:Act}{w:World}{v:Value}{D:World->Prop}(F:D w)(h:o.quietAt P a D w v):gAt P o a w (fun u w'=>u=v/\D w'):=by
 unfold Oper.quietAt at h;unfold gAt;generalize (execOp a.eval o).run P w=r at *;cases r with
 | ok n w'=>
  cases n <;> simp only[Oper.quietUpon]at h <;> simp only[Kw]
  case value u=>obtain⟨A,E⟩:=h;rw[A];exact⟨E,F⟩
  case skip=>obtain⟨A,E⟩:=h;rw[A];exact⟨E.symm,F⟩
  case enter f args=>obtain⟨A,M⟩:=h;rw[A];exact M.mono fun e O ⟨I,J⟩=>⟨v,I,rfl,J⟩
 | halt x w'=>simp only[Oper.quietUpon]at h
def jZ(P:Program)(md:Region.Mode)(ops:Array Oper)(C:World->Prop)(R:World->World->Prop)(Q':Exit->Act->World->Prop):Nat->Array Bool->Act->World->Prop
 | 0,listed,a,w=>Region.ready md ops listed=[]/\Q' .normal a w
 | f+1,listed,a,w=>Region.ready md ops listed≠[] /\
   ∀i∈Region.ready md ops listed,gOp P ops i (fun a' w'=>C w'/\∀w2,R w' w2->jZ P md ops C R Q' f (listed.setIfInBounds i true) a' w2) a w
def wL(A:∀w,R w w):∀(f:Nat) (listed:Array Bool) (a:Act) (w:World),jZ P md ops C R Q' f listed a w->wpAny P md ops Q' f listed a w
 | 0,_,_,_,h=>h
 | f+1,_,_,_,h=>⟨fun h0=>absurd h0 h.1,fun i E=>OM (GR (fun I w' F=>wL A f _ _ _ (F.2 w' (A w'))) (h.2 i E))⟩
def YQ(P:Program)(ops:Array Oper)(C:World->Prop)(R:World->World->Prop)(o:Oper)(v:Value)(a:Act):Prop:=
 (Region.wanted o (yielded ops a.tmps)=true/\∀w,C w->o.quietAt P a (R w) w v)\/(Region.wanted o (yielded ops a.tmps)=false/\v=undef)
def YQ.of_same{o:Oper}{v:Value}{a A:Act}(E:YQ P ops C R o v a)(I:execOp A.eval o=execOp a.eval o)
  (F:Region.wanted o (yielded ops A.tmps)=Region.wanted o (yielded ops a.tmps)):YQ P ops C R o v A:=by
 unfold YQ Oper.quietAt at *;rw[I,F];exact E
def adV{j:Nat}{A E:Oper}{v:Value}(Y:ops[j]?=some E)(F:A.apart ops E=true)
  (I:∀cs b,A.op≠.select cs b) (M:∀cs b,E.op≠.select cs b) {K:Act->World->Prop} {a:Act} {w:World}
  (X:YQ P ops C R A v a) (h:gOp P ops j K (a.put A.dst v) w):
  gOp P ops j (fun O w'=>YQ P ops C R A v O/\K (O.put A.dst v) w') a w:=by
 obtain⟨h1,U,T⟩:=Oper.apart_spec F;have keep:∀u,YQ P ops C R A v (a.put E.dst u):=fun u=>X.of_same (execOp_put A I a E.dst u T) (wanted_put A a E.dst u T)
 unfold gOp at *;simp only[Y]at *;rw[wanted_put E a A.dst v h1]at h;split
 ·rename_i J;rw[if_pos J]at h;unfold gAt at *;rw[execOp_put E M a A.dst v h1]at h;exact rD (fun u w' Z=>⟨keep u,by rw[<-Act.put_comm a v u U];exact Z⟩) h
 ·rename_i J;rw[if_neg J]at h;exact⟨keep _,by rw[<-Act.put_comm a v undef U];exact h⟩
def Ik{i:Nat}{E:Oper}{v:Value}{a:Act}{w:World}(J:ops[i]?=some E)(M:C w)(F:∀w,R w w)(O:YQ P ops C R E v a){K:Act->World->Prop}(h:∀w',R w w'->K (a.put E.dst v) w'):
  gOp P ops i K a w:=by
 unfold gOp;simp only[J];rcases O with⟨A,T⟩|⟨A,rfl⟩
 ·rw[if_pos A];exact rD (fun u w' ⟨e,I⟩=>by subst e;exact h w' I) (J8 (F w) (T w M))
 ·rw[if_neg (by simp[A])];exact h w (F w)
def lR{i:Nat}{oi:Oper}{v:Value}(hi:ops[i]?=some oi)(M:∀(j:Nat) (o:Oper) cs b,ops[j]?=some o->o.op≠.select cs b)
   (hR:∀w,R w w) (hT:∀w w' ah,R w w'->R w' ah->R w ah) (aa:∀w w',C w->R w w'->C w'):
   ∀(f:Nat) (A:Array Bool) (a:Act) (w:World),C w ->
     (∀j Z,ops[j]?=some Z->j≠i->A.getD j true=false->(∀e∈Z.after,Region.binds md e=true->e.on≠i)->oi.apart ops Z=true) ->
     i∈Region.ready md ops A->YQ P ops C R oi v a ->
     (∀O,R w O->jZ P md ops C R Q' f (A.setIfInBounds i true) (a.put oi.dst v) O)->jZ P md ops C R Q' (f+1) A a w:=by
 intro f;induction f with
 | zero=>
   intro A a w hC _ X hy H;refine⟨fun h=>(by rw[h]at X;cases X),fun j hj=>?_⟩;by_cases E:j=i
   . subst E;exact Ik hi hC hR hy fun w' F=>⟨aa _ _ hC F,fun O T=>H O (hT _ _ _ F T)⟩
   . have:=ready_mono hj E;rw[(H w (hR w)).1]at this;cases this
 | succ f ih=>
   intro A a w hC I X hy H;refine⟨fun h=>(by rw[h]at X;cases X),fun j hj=>?_⟩;by_cases E:j=i
   . subst E;exact Ik hi hC hR hy fun w' F=>⟨aa _ _ hC F,fun O T=>H O (hT _ _ _ F T)⟩
   . have h1:=(H w (hR w)).2 j (ready_mono hj E);obtain⟨U,Z,Y,ag⟩:=mem_ready.1 hj;have ae:∀e∈Z.after,Region.binds md e=true->e.on≠i:=fun e he hb al=>by
       have h1:=ag e he hb;have h0:=(mem_ready.1 X).1;rw[al]at h1;rcases Nat.lt_or_ge i A.size with h'|h'
       . simp[h']at h0 h1;rw[h0]at h1;cases h1
       . simp[Array.getElem?_eq_none h']at h1
     have T:=adV Y (I j Z Y E U ae) (fun cs b=>M i oi cs b hi) (fun cs b=>M j Z cs b Y) hy h1;have J : ∀ k ok, ops[k]? = some ok -> k ≠ i -> (A.setIfInBounds j true).getD k true = false ->
         (∀e∈ok.after,Region.binds md e=true->e.on≠i)->oi.apart ops ok=true:=fun k ok hk ak ab ai=>by
       refine I k ok hk ak ?_ ai;by_cases ac:j=k
       . subst ac;exact U
       . rw[getD_set_ne true ac]at ab;exact ab
     refine GR (fun a' w' ⟨aj,af,hk⟩=>⟨af,fun O T=>ih (A.setIfInBounds j true) a' O (aa _ _ af T) J (ready_mono X (Ne.symm E)) aj fun w3 h3=>?_⟩) T;rw[Array.setIfInBounds_comm _ _ E];exact hk w3 (hT _ _ _ T h3)
end
def Rw(w w':World):Prop:=w'.os=w.os/\w'.tape=w.tape/\w'.output=w.output/\w.heap.size<=w'.heap.size/\∀k,k<w.heap.size->w'.heap[k]?=w.heap[k]?
def Rw.refl(w:World):Rw w w:=⟨rfl,rfl,rfl,Nat.le_refl _,fun _ _=>rfl⟩
def Rw.trans{w w' A:World}(h:Rw w w')(E:Rw w' A):Rw w A:=
 ⟨E.1.trans h.1,E.2.1.trans h.2.1,E.2.2.1.trans h.2.2.1,Nat.le_trans h.2.2.2.1 E.2.2.2.1,fun k F=>(E.2.2.2.2 k (Nat.lt_of_lt_of_le F h.2.2.2.1)).trans (h.2.2.2.2 k F)⟩
def Cb(S:Sg)(wb w:World):Prop:=w.os=wb.os/\w.tape=wb.tape/\w.output=wb.output/\wb.heap.size<=w.heap.size/\∀k,S.fz k->w.heap[k]?=wb.heap[k]?
def Cb.rw{S:Sg}{wb w w':World}{H:aH}(F:St S wb H)(h:Cb S wb w)(A:Rw w w'):Cb S wb w':=
 ⟨A.1.trans h.1,A.2.1.trans h.2.1,A.2.2.1.trans h.2.2.1,Nat.le_trans h.2.2.2.1 A.2.2.2.1,fun k E=>(A.2.2.2.2 k (Nat.lt_of_lt_of_le (F.fz_lt k E) h.2.2.2.1)).trans (h.2.2.2.2 k E)⟩
def Rw.cb{S:Sg}{wb w:World}{H:aH}(A:St S wb H)(h:Rw wb w):Cb S wb w:=⟨h.1,h.2.1,h.2.2.1,h.2.2.2.1,fun k E=>h.2.2.2.2 k (A.fz_lt k E)⟩
def Cb.st{S:Sg}{wb w:World}{H:aH}(E:St S wb H)(h:Cb S wb w):St S w bS:=
 ⟨E.ro_fz,fun k A=>Nat.lt_of_lt_of_le (E.fz_lt k A) h.2.2.2.1,fun k r A=>by simp[bS]at A,fun k r A=>by simp[bS]at A,fun k k' r r' A=>by simp[bS]at A,E.tabs.keep S.le_refl (fun k A=>h.2.2.2.2 k (E.ro_fz k A))⟩
def Cb.kept{S:Sg}{wb w:World}{H:aH}(A:St S wb H)(h:Cb S wb w):fN S wb w:=fun k E=>h.2.2.2.2 k (A.ro_fz k E)
def Cb.agree{S:Sg}{wb w:World}{H:aH}(A:St S wb H)(h:Cb S wb w):Agree S bS wb w:=⟨h.kept A,fun k r E=>by simp[bS]at E⟩
def Grow.cb{S S':Sg}{wb w:World}(h:Grow S wb S' w):Cb S wb w:=⟨h.os,h.tape,h.output,h.size,h.same⟩
section
variable{P:Program}{n:Nat}{S0:Sg}{w0:World}{H0:aH}{mt:Nat->Bool}{ops:Array Oper}{K:Env->aH->Prop}{ρ:Env}{H:aH}{a:Act}{w:World}
def Rel.rw{w':World}(h:Rel n S0 w0 H0 ρ H a w)(A:Rw w w'):Rel n S0 w0 H0 ρ H a w':=by obtain⟨S,E,I,M,O,J,T⟩:=h;have F:=E.grow A.1 A.2.1 A.2.2.1 A.2.2.2.1 A.2.2.2.2;exact⟨S,E.after A.2.2.2.1 A.2.2.2.2,I.keep S.le_refl (F.kept E),M.trans F,O,J,T⟩
def CS{o:Oper}{K':Act->World->Prop}(F:∀a w,K' a w->a.defers=[])(h:o.wp P a w K' fun _ _ _=>False):gAt P o a w fun v w'=>K' (a.put o.dst v) w':=by
 unfold Oper.wp at h;unfold gAt;generalize (execOp a.eval o).run P w=r at *;cases r with
 | ok m w'=>
  cases m <;> simp only[Oper.upon]at h <;> simp only[Kw]
  case value u=>exact h
  case skip=>exact h
  case enter f args=>
   refine h.mono fun e E A=>?_
   cases e
   case returned v=>exact⟨v,rfl,A⟩
   case panicked c=>exact A.elim
   case outgrown=>obtain⟨_,_,h⟩:=A;exact h.elim
  case defer d=>have:=F _ _ h;rw[oW]at this;simp at this
  case row row args=>exact h
 | halt x w'=>cases x <;> simp only[Oper.upon]at h
variable{S:Sg}
def vT{o:Oper}{w1:World}{CC:World->Prop}(F:∀w,CC w->St S w H/\Agree S H w1 w)(M:St S w1 H)(O:FR S w1 ρ a)(Y:a.tmps.size=n)(U:∀x∈o.op.operands,opB n x=true){G:Option Bool}
  (A:Region.wanted o (yielded ops a.tmps)=true↔gt G) (h:gP P G ρ H o.op fun x=>K (upd ρ o.dst (wr G x)) H):
  ∃z,K (upd ρ o.dst z) H/\(Region.wanted o (yielded ops a.tmps)=true->∃v,rep S w1 z v/\∀w,CC w->o.quietAt P a (Rw w) w v)/\(Region.wanted o (yielded ops a.tmps)=false->rep S w1 z undef):=by
 obtain⟨z,Z,J⟩:=Ey (Y▸U) O M.rows h;refine⟨_,Z,fun E=>?_,fun E=>?_⟩
 ·obtain⟨v,X,I⟩:=J (A.1 E);refine⟨v,eY (A.1 E) X,fun w T=>?_⟩;unfold Oper.quietAt;rw[I w (F w T).2 o rfl];exact⟨rfl,rfl⟩
 ·exact dU fun h=>by rw[A.2 h]at E;simp at E
def OH{o:Oper}{c:Call}{w1:World}{CC:World->Prop}(Y:∀w,CC w->St S w H/\Agree S H w1 w)(hS:St S w1 H)(hF:FR S w1 ρ a)(hn:a.tmps.size=n)(ho:o.op=.call c)(hb:∀x∈o.op.operands,opB n x=true){G:Option Bool}
  (O:Region.wanted o (yielded ops a.tmps)=true↔gt G) {nl:Bool} (h:Cs P (bF P) (dD P) nl true G o c ρ H K):
  ∃z,K (upd ρ o.dst z) H/\(Region.wanted o (yielded ops a.tmps)=true->∃v,rep S w1 z v/\∀w,CC w->o.quietAt P a (Rw w) w v)/\(Region.wanted o (yielded ops a.tmps)=false->rep S w1 z undef):=by
 rw[ho]at hb;simp only[Op.operands,Call.operands]at hb;unfold Cs at h;split at h
 ·rename_i b hc;obtain⟨ys,Z,X⟩:=mW hF c.args.toList (fun x hx=>hn▸hb x (by simp[Array.mem_toList_iff.1 hx])) h;clear h;have h:=Z;clear Z;split at h
  ·rename_i x t I;obtain⟨z,hz,hl⟩:=F2 (G:=G) (ty:=o.type) hS.rows h;refine⟨_,hz,fun J=>?_,fun J=>dU fun h=>by rw[O.2 h]at J;simp at J⟩;have E:=O.1 J;have hr:=X E;simp only[bC]at hr;obtain⟨u,t',e1,e2,rfl⟩:=hr;obtain⟨v,hv,T⟩:=hl E u e2;have ea:c.args.map a.eval=#[u]:=Array.toList_inj.1 (by simpa using e1);have et:c.argTypes=#[t]:=Array.toList_inj.1 (by simpa using I);refine⟨v,eY E hv,fun w M=>?_⟩;unfold Oper.quietAt;have:(execOp a.eval o).run P w=.ok (.value v) w:=by simp[execOp,ho,resolve,hc,invoke,builtin,ea,et,T w (Y w M).2]
   rw[this];exact⟨rfl,rfl⟩
  ·split at h
   ·rename_i F;simp at F
   ·exact h.elim
  ·split at h
   ·rename_i F;simp at F
   ·exact h.elim
  ·split at h
   ·rename_i F;simp at F
   ·exact h.elim
  ·rename_i x y t t' I;obtain⟨z,hz,hl⟩:=FF (P:=P) (S:=S) (w:=w1) (H:=H) (G:=G) (tys:=c.argTypes) (ty:=o.type) h;refine⟨_,hz,fun J=>?_,fun J=>dU fun h=>by rw[O.2 h]at J;simp at J⟩
   ·have E:=O.1 J;have hr:=X E;simp only[bC]at hr;obtain⟨us,t1,e1,e2,ux,t2,rfl,e3,rfl⟩:=hr;obtain⟨v,hv,T⟩:=hl E us ux e2 e3;have ea:c.args.map a.eval=#[us,ux]:=Array.toList_inj.1 (by simpa using e1);refine⟨v,eY E hv,fun w M=>?_⟩;unfold Oper.quietAt;have:(execOp a.eval o).run P w=.ok (.value v) w:=by simp[execOp,ho,resolve,hc,invoke,builtin,ea,T w (Y w M).2]
    rw[this];exact⟨rfl,rfl⟩
  ·rename_i x y t t' I;obtain⟨z,hz,hl⟩:=He (P:=P) (S:=S) (w:=w1) (H:=H) (G:=G) (tys:=c.argTypes) (ty:=o.type) h;refine⟨_,hz,fun J=>?_,fun J=>dU fun h=>by rw[O.2 h]at J;simp at J⟩
   ·have E:=O.1 J;have hr:=X E;simp only[bC]at hr;obtain⟨us,t1,e1,e2,ux,t2,rfl,e3,rfl⟩:=hr;obtain⟨v,hv,T⟩:=hl E us ux e2 e3;have ea:c.args.map a.eval=#[us,ux]:=Array.toList_inj.1 (by simpa using e1);refine⟨v,eY E hv,fun w M=>?_⟩;unfold Oper.quietAt;have:(execOp a.eval o).run P w=.ok (.value v) w:=by simp[execOp,ho,resolve,hc,invoke,builtin,ea,T w (Y w M).2]
    rw[this];exact⟨rfl,rfl⟩
  ·exact h.elim
 ·rename_i f hc;obtain⟨yf,Z,hf⟩:=aU (S:=S) (w:=w1) h;clear h;have h:=Z;clear Z;split at h
  ·rename_i g af ai ak;by_cases ae:nl=true
   ·rw[if_pos ae]at h;exact absurd h.2.1 (by decide)
   rw[if_neg ae]at h;obtain⟨ys,Z,X⟩:=mW hF c.args.toList (fun x hx=>hn▸hb x (by simp[hc,Array.mem_toList_iff.1 hx])) h;clear h;obtain⟨ah,h⟩:=Z;have aj:=fun hg=>Bg ak (hf hg _ (cJ hF (hn▸hb f (by simp[hc]))))
   have I:gt G->∃first A:Array Value,a.eval f=.func (.func g) first A/\bC S w1 (af++ys++ai) (first++c.args.map a.eval++A).toList:=fun hg=>by obtain⟨first,A,h1,Z,h3⟩:=aj hg;refine⟨first,A,h1,?_⟩;simp only[Array.toList_append];refine cR _ _ _ _ (cR _ _ _ _ Z ?_) h3;simpa using X hg
   split at h
   ·rename_i F;simp at F
   ·obtain⟨r,hq,hk⟩:=h;by_cases E:gt G
    ·rcases hq E with hq|⟨x,rfl,al⟩
     ·obtain⟨v,aa⟩:=hq.val;rw[LY (by rw[aa];rfl)]at hk;refine⟨_,hk,fun J=>?_,fun J=>dU fun h=>by rw[O.2 h]at J;simp at J⟩;obtain⟨first,A,ag,ac⟩:=I E;have ab:∀w,(execOp a.eval o).run P w=.ok (.enter g (first++c.args.map a.eval++A)) w:=fun w=>by simp only[execOp,ho];rw[nP hc ag];simp[invoke,qR ah]
      have hv:=(hq.calls aa hS ac).1;refine⟨v,eY E (hv S w1),fun w M=>?_⟩;have U:=(hq.calls aa (Y w M).1 (dK S.le_refl (Y w M).2.kept _ _ ac)).2;unfold Oper.quietAt;rw[ab];refine⟨rfl,?_⟩;rw[Array.toArray_toList]at U;exact U
     ·exact hk.elim
    ·obtain⟨z,hk⟩:=Nd hk;refine⟨_,hk,fun J=>absurd (O.1 J) E,fun J=>dU E⟩
  ·exact h.elim
 ·exact h.elim
def Ar{o:Oper}{w1:World}{CC:World->Prop}(F:∀w,CC w->St S w H/\Agree S H w1 w)(T:∀o∈ops,jQ n o=true)(O:St S w1 H)(J:FR S w1 ρ a)(M:a.tmps.size=n)(hb:jQ n o=true)(h:aop P (bF P) (dD P) mt true ops o ρ H K):
   ∃z,K (upd ρ o.dst z) H/\(Region.wanted o (yielded ops a.tmps)=true->∃v,rep S w1 z v/\∀w,CC w->o.quietAt P a (Rw w) w v)/\(Region.wanted o (yielded ops a.tmps)=false->rep S w1 z undef):=by
 obtain⟨A,_⟩:=wY hb;unfold aop at h;obtain⟨G,Y,E⟩:=wB T J M h;clear h;have h:=Y;clear Y;split at h
 . rename_i x I;unfold B5 at h;split at h
   . rename_i U;simp at U
   . exact vT F O J M A E (by rw[I];exact h)
 . split at h
   . simp at h
   . exact h.elim
 . simp at h
 . simp at h
 . simp at h
 . rename_i c I;exact OH F O J M I A E h
 all_goals first
   | exact h.elim
   | (simp at h;done)
   | (rename_i I; split at h
      . simp at h;done
      . exact vT F O J M A E (by rw[I];exact h))
   | (rename_i I; split at h
      . obtain⟨rfl,h⟩:=h;rw[if_pos rfl]at h;obtain⟨z,hz,v,hv,hq⟩:=D6 (S:=S) (w1:=w1) J (fun x Z=>M▸A x Z) I h;exact⟨z,hz,fun _=>⟨v,hv,fun w _=>by unfold Oper.quietAt;rw[hq w];exact⟨rfl,rfl⟩⟩,fun X=>by rw[cY E rfl]at X;cases X⟩
      . exact vT F O J M A E (by rw[I];exact h))
   | (rename_i I;exact vT F O J M A E (by rw[I];exact h))
def Ov{o:Oper}{w1:World}{CC:World->Prop}(F:∀w,CC w->St S w bS/\Agree S bS w1 w)(U:St S w1 H)(X:FR S w1 ρ a)(hn:a.tmps.size=n){t:TypeId}{x:Operand}{lo O m:Option Operand}(J:o.op=.slice t x lo O m)(I:∀x∈o.op.operands,opB n x=true){G:Option Bool}
  (A:Region.wanted o (yielded ops a.tmps)=true↔gt G) (h:gP P G ρ H o.op fun x=>K (upd ρ o.dst (wr G x)) H):
  ∃z,K (upd ρ o.dst z) H/\(Region.wanted o (yielded ops a.tmps)=true->∃v,rep S w1 z v/\∀w,CC w->o.quietAt P a (Rw w) w v)/\(Region.wanted o (yielded ops a.tmps)=false->rep S w1 z undef):=by
 rw[J]at I h;obtain⟨z,hz,T⟩:=CA (H':=bS) (hn▸I) X U.rows h;refine⟨_,hz,fun E=>?_,fun E=>?_⟩
 ·obtain⟨v,Z,M⟩:=T (A.1 E);refine⟨v,eY (A.1 E) Z,fun w Y=>?_⟩;unfold Oper.quietAt;rw[M w (F w Y).2 o J];exact⟨rfl,rfl⟩
 ·exact dU fun h=>by rw[A.2 h]at E;simp at E
def QV{o:Oper}{w1:World}{CC:World->Prop}(I:∀w,CC w->St S w bS/\Agree S bS w1 w)(E:∀o∈ops,jQ n o=true)(Y:St S w1 H)(M:FR S w1 ρ a)(T:a.tmps.size=n)(Z:jQ n o=true){K:Env->Prop}(h:aop P (bF P) (dD P) mt true ops o ρ (qH o H) fun A _=>K A):
  ∃z,K (upd ρ o.dst z)/\(Region.wanted o (yielded ops a.tmps)=true->∃v,rep S w1 z v/\∀w,CC w->o.quietAt P a (Rw w) w v)/\(Region.wanted o (yielded ops a.tmps)=false->rep S w1 z undef):=by
 by_cases X:∃t x lo U m,o.op=.slice t x lo U m
 ·obtain⟨t,x,lo,U,m,F⟩:=X;have e:qH o H=H:=by unfold qH;rw[F]
  rw[e]at h;obtain⟨J,_⟩:=wY Z;unfold aop at h;obtain⟨G,h2,O⟩:=wB E M T h;clear h;rw[F]at h2;exact Ov (K:=fun A _=>K A) I Y M T F J O (by rw[F];exact h2)
 ·have e : qH o H = bS := by
   unfold qH;split
   ·rename_i F;exact absurd ⟨_,_,_,_,_,F⟩ X
   ·rfl
  rw[e]at h;exact Ar (K:=fun A _=>K A) I E (Y.drop fun k r hk=>by simp[bS]at hk) M T Z h
def JG{Q':Exit->Act->World->Prop}{wb:World}{Sb:Sg}{Hb:aH}(A:∀o∈ops,jQ n o=true)(hQ:∀ρ H a w,K ρ H->Rel n Sb wb Hb ρ H a w->Q' .normal a w):
  ∀(l:List Oper) (k:Nat) (listed:Array Bool) (ρ:Env) (H:aH) (a:Act) (w:World),(∀j,l[j]?=ops[k+j]?)->(∀o∈l,jQ n o=true)->Region.seqB .any ops l.length k listed=true ->
   wK P (bF P) (dD P) mt false ops K l ρ H->Rel n Sb wb Hb ρ H a w->jZ P .any ops (Cb Sb wb) Rw Q' l.length listed a w
 | [],_,_,ρ,H,a,w,_,_,hB,h,hR=>⟨by simpa[Region.seqB]using hB,hQ ρ H a w h hR⟩
 | o::rest,k,listed,ρ,H,a,w,hl,hb,hB,h,hR=>by
  have h0:ops[k]?=some o:=by simpa using(hl 0).symm
  simp only[List.length_cons,Region.seqB,Bool.and_eq_true,decide_eq_true_eq]at hB;refine⟨by rw[hB.1];simp,fun i Z=>?_⟩;rw[hB.1]at Z;have X:i=k:=by simpa using Z
  subst X;obtain⟨S,hS,hF,hG,hN,hd,hn⟩:=hR;have Y:=Ap (K':=fun I w'=>I.defers=[]/\Cb Sb wb w'/\∀F,Rw w' F->jZ P .any ops (Cb Sb wb) Rw Q' rest.length (listed.setIfInBounds i true) I F) (Q':=fun _ _ _=>False) A hS hF hG hN hd hn (hb o (by simp))
   (fun T H' I w' E M=>by
    refine⟨?_,?_,fun F h2=>JG A hQ rest (i+1) _ T H' I F (fun j=>by have:=hl (j+1);simpa[Nat.add_assoc,Nat.add_comm 1 j]using this) (fun o ho=>hb o (by simp[ho])) hB.2 E (M.rw h2)⟩
    ·obtain⟨S',_,_,_,_,O,_⟩:=M;exact O
    ·obtain⟨S',_,_,U,_⟩:=M;exact U.cb) h
  unfold gOp;simp only[h0];by_cases J:Region.wanted o (yielded ops a.tmps)=true
  ·rw[if_pos J];exact rD (fun v w' E=>E.2) (CS (fun a w E=>E.1) (Y.1 J))
  ·rw[if_neg J];exact(Y.2 (by simpa using J)).2
def FM{Q':Exit->Act->World->Prop}{wb:World}{Sb:Sg}(F:∀o∈ops,jQ n o=true)(T:Region.noSelect ops=true)(E:St Sb wb bS){g:Nat}
  (hK:∀ρ a A w,K ρ bS->Rw wb w->FR Sb wb ρ a->a.defers=[]->a.tmps.size=n->∀k,Region.seqB .any ops g k A=true->k=ops.size-g->jZ P .any ops (Cb Sb wb) Rw Q' g A a w):
  ∀(l:List Oper) (k:Nat) (A:Array Bool) (ρ:Env) (a:Act),(∀j,j<l.length->l[j]?=ops[k+j]?)->k+l.length=ops.size-g->(∀o∈l,jQ n o=true)->Region.lexHead .any ops g l.length k A=true ->
   wK P (bF P) (dD P) mt true ops K l ρ bS->FR Sb wb ρ a->a.defers=[]->a.tmps.size=n->∀w,Rw wb w->jZ P .any ops (Cb Sb wb) Rw Q' (l.length+g) A a w
 | [],k,A,ρ,a,_,hk,_,hB,h,hF,hd,hn,w,hC=>by rw[List.length_nil,Nat.zero_add];exact hK ρ a A w h hC hF hd hn k hB (by simpa using hk)
 | o::rest,k,A,ρ,a,hl,hk,hb,hB,h,hF,hd,hn,w,hC=>by
  have h0:ops[k]?=some o:=by simpa using(hl 0 (by simp)).symm
  simp only[List.length_cons,Region.lexHead,Bool.and_eq_true]at hB;obtain⟨⟨I,hf⟩,U⟩:=hB;obtain⟨z,hz,h1,Z⟩:=Ar (CC:=Cb Sb wb) (fun w J=>⟨J.st E,J.agree E⟩) F E hF hn (hb o (by simp)) h;have next:∀v,rep Sb wb z v->∀O,Rw w O->jZ P .any ops (Cb Sb wb) Rw Q' (rest.length+g) (A.setIfInBounds k true) (a.put o.dst v) O:=fun v Y O Z=>FM F T E hK rest (k+1) _ _ _ (fun j hj=>by have:=hl (j+1) (by simp;omega);simpa[Nat.add_assoc,Nat.add_comm 1 j]using this) (by simp only[List.length_cons]at hk;omega) (fun o ho=>hb o (by simp[ho])) U hz (FR.put hF Y) (by rw[oW];exact hd) (by rw[zM];exact hn) O (hC.trans Z)
  rw[List.length_cons,show rest.length+1+g=(rest.length+g)+1 by omega];by_cases X:Region.wanted o (yielded ops a.tmps)=true
  ·obtain⟨v,Y,hq⟩:=h1 X;exact lR h0 (Region.noSelect_spec T) Rw.refl (fun _ _ _=>Rw.trans) (fun _ _ J I=>J.rw E I) _ A a w (hC.cb E) (Region.free_spec h0 hf) (by simpa using I) (.inl ⟨X,hq⟩) (next v Y)
  ·have M:Region.wanted o (yielded ops a.tmps)=false:=by simpa using X
   exact lR h0 (Region.noSelect_spec T) Rw.refl (fun _ _ _=>Rw.trans) (fun _ _ J I=>J.rw E I) _ A a w (hC.cb E) (Region.free_spec h0 hf) (by simpa using I) (.inr ⟨M,rfl⟩) (next _ (Z M))
def Su{Q':Exit->Act->World->Prop}{id m:Nat}(hm:P.follows .mixedOrders=true)(A:∀o∈ops,jQ n o=true)(hB:Tz ops m=true)
  (h:wK P (bF P) (dD P) mt true ops (fun E _=>wK P (bF P) (dD P) mt false ops K (ops.toList.drop m) E H) (ops.toList.take m) ρ bS)
  (hR:Rel n S0 w0 H0 ρ H a w) (hQ:∀ρ H a w,K ρ H->Rel n S0 w0 H0 ρ H a w->Q' .normal a w):(Code.region id ops true).wp P Q' a w:=by
 obtain⟨S,hS,hF,hG,hN,hd,hn⟩:=hR;simp only[Tz,Bool.and_eq_true,decide_eq_true_eq]at hB;obtain⟨⟨hs,aj⟩,X⟩:=hB
 let w1:World:={ w with drawn:=w.drawn+1 }
 have F:St S w1 H:=hS.after (Nat.le_refl _) fun _ _=>rfl
 have Y:Grow S w S w1:=hS.grow rfl rfl rfl (Nat.le_refl _) fun _ _=>rfl
 have ae:FR S w1 ρ a:=hF.keep S.le_refl (Y.kept hS);have ah:St S w1 bS:=F.drop fun k r hk=>by simp[bS]at hk
 refine wp_region_any hm (wL (C:=Cb S w1) (R:=Rw) Rw.refl _ _ _ _ ?_);have J:(ops.toList.take m).length=m:=by simp;omega
 have:=FM (Q':=Q') (g:=ops.size-m) (wb:=w1) (Sb:=S) A hs ah (K:=fun E _=>wK P (bF P) (dD P) mt false ops K (ops.toList.drop m) E H) (fun E a' I w' hk M U O T k Z ai=>by
  have ac:k=m:=by omega
  subst ac;have hx:=JG (Q':=Q') (wb:=w1) (Sb:=S) (Hb:=H) A (K:=K) (fun ρ H a w hk hr=>by
   obtain⟨S',ab,U,ag,aa,O,T⟩:=hr;exact hQ ρ H a w hk ⟨S',ab,U,hG.trans (Y.trans ag),hN.trans aa hG.le.N,O,T⟩) (ops.toList.drop k) k I E H a' w' (fun j=>by simp[List.getElem?_drop]) (fun o ho=>A o (Array.mem_toList_iff.1 (List.mem_of_mem_drop ho)))
   (by simpa using Z) hk ?_
  ·simpa using hx
  ·have hg:=F.grow M.1 M.2.1 M.2.2.1 M.2.2.2.1 M.2.2.2.2;exact⟨S,F.after M.2.2.2.1 M.2.2.2.2,U.keep S.le_refl (hg.kept F),hg,eV.refl _ _,O,T⟩) (ops.toList.take m) 0 (Array.replicate ops.size false) ρ a (fun j hj=>by
    have af:j<m:=by rw[J]at hj;exact hj
    simp[af]) (by rw[J];omega) (fun o ho=>A o (Array.mem_toList_iff.1 (List.mem_of_mem_take ho))) (by rw[J];exact X) h ae hd hn w1 (Rw.refl w1)
 rw[J,show m+(ops.size-m)=ops.size by omega]at this;exact this
def yN{C E:World->Prop}{R:World->World->Prop}{Q':Exit->Act->World->Prop}(h:∀w,E w->C w):∀(f:Nat) (listed:Array Bool) (a:Act) (w:World),jZ P .any ops E R Q' f listed a w->jZ P .any ops C R Q' f listed a w
 | 0,_,_,_,hw=>hw
 | f+1,_,_,_,hw=>⟨hw.1,fun i F=>GR (fun M w' A=>⟨h w' A.1,fun I J=>yN h f _ _ _ (A.2 I J)⟩) (hw.2 i F)⟩
def Cb.mono{S S':Sg}{w w' F:World}{H:aH}(I:St S w H)(A:Grow S w S' w')(h:Cb S' w' F):Cb S w F:=
 ⟨h.1.trans A.os,h.2.1.trans A.tape,h.2.2.1.trans A.output,Nat.le_trans A.size h.2.2.2.1,fun k E=>(h.2.2.2.2 k (A.fz k E)).trans (A.same k E)⟩
def yF{Q':Exit->Act->World->Prop}(A:∀o∈ops,jQ n o=true)(E:Region.noSelect ops=true)(hQ:∀ρ H a w,K ρ H->Rel n S0 w0 H0 ρ H a w->Q' .normal a w):
  ∀(f:List (Nat×Bool)) (listed:Array Bool) (ρ:Env) (H:aH) (a:Act) (w:World) (S:Sg),pE ops f listed=true ->
   zX P (bF P) (dD P) mt ops K f ρ H->St S w H->FR S w ρ a->Grow S0 w0 S w->eV S0.N H0 H->a.defers=[]->a.tmps.size=n->∀I,Rw w I->jZ P .any ops (Cb S w) Rw Q' f.length listed a I
 | [],listed,ρ,H,a,w,S,hB,h,hS,hF,hG,hN,hd,hn,I,h2=>by refine⟨by simpa[pE]using hB,hQ ρ H a I h (Rel.rw ⟨S,hS,hF,hG,hN,hd,hn⟩ h2)⟩
 | (k,true)::f,listed,ρ,H,a,w,S,hB,h,hS,hF,hG,hN,hd,hn,I,h2=>by
  simp only[pE,Bool.and_eq_true]at hB;obtain⟨⟨J,hf⟩,ai⟩:=hB;unfold zX at h;split at h
  ·rename_i o h0;rw[if_pos rfl]at h;have U:=A o (Array.mem_of_getElem? h0);obtain⟨z,hz,h1,O⟩:=QV (CC:=Cb S w) (K:=fun T=>zX P (bF P) (dD P) mt ops K f T H) (fun w Y=>⟨Y.st hS,Y.agree hS⟩) A hS hF hn U h;have next:∀v,rep S w z v->∀F,Rw w F->jZ P .any ops (Cb S w) Rw Q' f.length (listed.setIfInBounds k true) (a.put o.dst v) F:=fun v hv F O=>yF A E hQ f _ _ H _ w S ai hz hS (FR.put hF hv) hG hN (by rw[oW];exact hd) (by rw[zM];exact hn) F O
   rw[List.length_cons];by_cases M:Region.wanted o (yielded ops a.tmps)=true
   ·obtain⟨v,hv,hq⟩:=h1 M;exact lR h0 (Region.noSelect_spec E) Rw.refl (fun _ _ _=>Rw.trans) (fun _ _ Y J=>Y.rw hS J) _ listed a I (h2.cb hS) (Region.free_spec h0 hf) (by simpa using J) (.inl ⟨M,hq⟩) (fun F O=>next v hv F (h2.trans O))
   ·have ab:Region.wanted o (yielded ops a.tmps)=false:=by simpa using M
    exact lR h0 (Region.noSelect_spec E) Rw.refl (fun _ _ _=>Rw.trans) (fun _ _ Y J=>Y.rw hS J) _ listed a I (h2.cb hS) (Region.free_spec h0 hf) (by simpa using J) (.inr ⟨ab,rfl⟩) (fun F ag=>next _ (O ab) F (h2.trans ag))
  ·exact h.elim
 | (k,false)::f,listed,ρ,H,a,w,S,hB,h,hS,hF,hG,hN,hd,hn,I,h2=>by
  simp only[pE,Bool.and_eq_true,decide_eq_true_eq]at hB;unfold zX at h;split at h
  ·rename_i o h0;rw[if_neg (by simp)]at h;have U:=A o (Array.mem_of_getElem? h0);rw[List.length_cons];refine⟨by rw[hB.1];simp,fun i hi=>?_⟩;rw[hB.1]at hi;have am:i=k:=by simpa using hi
   subst am;have Z:=hS.grow h2.1 h2.2.1 h2.2.2.1 h2.2.2.2.1 h2.2.2.2.2;have af:St S I H:=hS.after h2.2.2.2.1 h2.2.2.2.2;have ak:FR S I ρ a:=hF.keep S.le_refl (Z.kept hS);have he:=Ap (S0:=S) (w0:=I) (H0:=H) (K:=zX P (bF P) (dD P) mt ops K f) (K':=fun a' w'=>a'.defers=[]/\Cb S w w'/\∀F,Rw w' F->jZ P .any ops (Cb S w) Rw Q' f.length (listed.setIfInBounds i true) a' F) (Q':=fun _ _ _=>False) A af ak (Grow.refl S I) (eV.refl _ _) hd hn U
    (fun T H' a' w' hk J=>by obtain⟨S',ae,al,aj,ac,aa,ah⟩:=J;have X:Grow S w S' w':=Z.trans aj;refine⟨aa,X.cb,fun F O=>?_⟩;refine yN (fun x hx=>Cb.mono hS X hx) _ _ _ _ (yF A E hQ f _ T H' a' w' S' hB.2 hk ae al (hG.trans X) (hN.trans ac hG.le.N) aa ah F O)) h
   unfold gOp;simp only[h0];by_cases M:Region.wanted o (yielded ops a.tmps)=true
   ·rw[if_pos M];exact rD (fun v w' hk=>hk.2) (CS (fun a w hk=>hk.1) (he.1 M))
   ·rw[if_neg M];exact(he.2 (by simpa using M)).2
  ·exact h.elim
def Uz{Q':Exit->Act->World->Prop}{id:Nat}{f:List (Nat×Bool)}(hm:P.follows .mixedOrders=true)(F:∀o∈ops,jQ n o=true)(T:RX ops f=true)
  (h:zX P (bF P) (dD P) mt ops K f ρ H)
  (hR:Rel n S0 w0 H0 ρ H a w) (hQ:∀ρ H a w,K ρ H->Rel n S0 w0 H0 ρ H a w->Q' .normal a w):(Code.region id ops true).wp P Q' a w:=by
 obtain⟨S,I,Z,U,X,hd,hn⟩:=hR;simp only[RX,Bool.and_eq_true,decide_eq_true_eq]at T;obtain⟨⟨Y,O⟩,A⟩:=T
 let w1:World:={ w with drawn:=w.drawn+1 }
 have J:St S w1 H:=I.after (Nat.le_refl _) fun _ _=>rfl
 have E:Grow S w S w1:=I.grow rfl rfl rfl (Nat.le_refl _) fun _ _=>rfl
 have M:FR S w1 ρ a:=Z.keep S.le_refl (E.kept I);refine wp_region_any hm (wL (C:=Cb S w1) (R:=Rw) Rw.refl _ _ _ _ ?_);have:=yF (Q':=Q') F Y hQ f (Array.replicate ops.size false) ρ H a w1 S A h J M (U.trans E) X hd hn w1 (Rw.refl w1);rw[O]at this;exact this
structure Pin(S:Sg)(w:World)(Hp:aH):Prop where
 rows:yK S w Hp
 fz:∀k r,Hp k=some r->∀g,blk (S.loc k)=some g->S.fz g/\¬S.ro g
 disj:∀k k' r r',Hp k=some r->Hp k'=some r'->k≠k'->∀g,blk (S.loc k)=some g->blk (S.loc k')≠some g
def aeQ(S:Sg)(Hp:aH)(g:Nat):Prop:=∃k r,Hp k=some r/\blk (S.loc k)=some g
def Sg.unpin(S:Sg)(Hp:aH):Sg:={ S with fz:=fun g=>S.fz g/\¬aeQ S Hp g }
def Sg.pin(S:Sg)(Hp:aH):Sg:={ S with fz:=fun g=>S.fz g\/aeQ S Hp g }
def Sg.le_unpin(S:Sg)(Hp:aH):S.le (S.unpin Hp):=⟨fun _ h=>h,Nat.le_refl _,fun _ _=>rfl,fun _ _=>rfl⟩
def Sg.unpin_le(S:Sg)(Hp:aH):(S.unpin Hp).le S:=⟨fun _ h=>h,Nat.le_refl _,fun _ _=>rfl,fun _ _=>rfl⟩
def Sg.le_pin(S:Sg)(Hp:aH):S.le (S.pin Hp):=⟨fun _ h=>h,Nat.le_refl _,fun _ _=>rfl,fun _ _=>rfl⟩
def Pin.merge{Hp U:aH}(h:Pin S w Hp)(I:St S w H)(O:∀k r,U k=some r->H k=some r\/Hp k=some r):St (S.unpin Hp) w U:=by
 have Y:∀k r,U k=some r->RowOK S w k r:=fun k r A=>by
  rcases O k r A with h1|h1
  ·exact I.rows k r h1
  ·exact h.rows k r h1
 refine⟨fun k A=>⟨I.ro_fz k A,fun⟨i,r,Z,F⟩=>(h.fz i r Z k F).2 A⟩,fun k A=>I.fz_lt k A.1,fun k r A=>(Y k r A).keep (S.le_unpin Hp) (fN.refl S w) (fun _ _=>rfl),fun k r A g F X=>?_,fun k k' r r' A T J g F E=>?_,I.tabs⟩
 ·rcases O k r A with h1|h1
  ·exact I.free k r h1 g F X.1
  ·exact X.2 ⟨k,r,h1,F⟩
 ·rcases O k r A with h1|h1 <;> rcases O k' r' T with M|M
  ·exact I.disj k k' r r' h1 M J g F E
  ·exact I.free k r h1 g F (h.fz k' r' M g E).1
  ·exact I.free k' r' M g E (h.fz k r h1 g F).1
  ·exact h.disj k k' r r' h1 M J g F E
def Pin.keep{Hp:aH}{S':Sg}{w':World}(h:Pin S w Hp)(O:St S w H)(A:Grow S w S' w'):Pin S' w' Hp:=by
 refine⟨fun k r E=>(h.rows k r E).keep A.le (A.kept O) (fun g F=>A.same g (h.fz k r E g F).1),fun k r E g F=>?_,fun k k' r r' E I J g F=>?_⟩
 ·rw[A.le.loc k (h.rows k r E).lt]at F;have h1:=h.fz k r E g F;refine⟨A.fz g h1.1,fun T=>?_⟩;rcases A.newro g T with M|M
  ·exact h1.2 M
  ·exact M h1.1
 ·rw[A.le.loc k (h.rows k r E).lt]at F;rw[A.le.loc k' (h.rows k' r' I).lt];exact h.disj k k' r r' E I J g F
def Cb.pin{wb w:World}{H Hp:aH}(E:St S wb H)(F:Pin S wb Hp)(h:Cb S wb w):St (S.unpin Hp) w Hp/\Agree (S.unpin Hp) Hp wb w:=by have J:Grow S wb S w:=⟨S.le_refl,fun _ h=>h,h.1,h.2.1,h.2.2.1,h.2.2.2.1,h.2.2.2.2,fun _ h=>.inl h⟩;exact⟨(F.keep E J).merge (h.st E) (fun k r A=>.inr A),⟨fun k A=>h.2.2.2.2 k (E.ro_fz k A),fun k r A g I=>h.2.2.2.2 g (F.fz k r A g I).1⟩⟩
def rB{Q':Exit->Act->World->Prop}{Hp:aH}(J:∀o∈ops,jQ n o=true){i m:Nat}{o:Oper}{A:Array Bool}{K1:Env->aH->Prop}(h0:ops[i]?=some o)(h:aop P (bF P) (dD P) mt false ops o ρ H K1)
  (Y:St S w H) (hP:Pin S w Hp) (hF:FR S w ρ a) (hd:a.defers=[]) (hn:a.tmps.size=n) {O:World} (T:Rw w O)
  (next:∀I H' E w' S',K1 I H'->St S' w' H'->Pin S' w' Hp->FR S' w' I E->Grow S w S' w'->eV S.N H H'->E.defers=[]->E.tmps.size=n->∀F,Rw w' F->jZ P .any ops (Cb S' w') Rw Q' m (A.setIfInBounds i true) E F):
  gOp P ops i (fun E w'=>Cb S w w'/\∀F,Rw w' F->jZ P .any ops (Cb S w) Rw Q' m (A.setIfInBounds i true) E F) a O:=by
 have ae:=J o (Array.mem_of_getElem? h0);have M:=Y.grow T.1 T.2.1 T.2.2.1 T.2.2.2.1 T.2.2.2.2;have X:St S O H:=Y.after T.2.2.2.1 T.2.2.2.2;have ag:Pin S O Hp:=hP.keep Y M;have ah:FR S O ρ a:=hF.keep S.le_refl (M.kept Y);have he:=Ap (S0:=S) (w0:=O) (H0:=H) (K:=K1) (K':=fun E w'=>E.defers=[]/\Cb S w w'/\∀F,Rw w' F->jZ P .any ops (Cb S w) Rw Q' m (A.setIfInBounds i true) E F) (Q':=fun _ _ _=>False) J X ah (Grow.refl S O) (eV.refl _ _) hd hn ae
  (fun I H' E w' hk hr=>by obtain⟨S',ac,ai,aa,ab,Z,af⟩:=hr;have U:Grow S w S' w':=M.trans aa;refine⟨Z,U.cb,fun F h3=>?_⟩;exact yN (fun x hx=>Cb.mono Y U hx) _ _ _ _ (next I H' E w' S' hk ac (ag.keep X aa) ai U ab Z af F h3)) h
 unfold gOp;simp only[h0];by_cases hw:Region.wanted o (yielded ops a.tmps)=true
 ·rw[if_pos hw];exact rD (fun v w' hk=>hk.2) (CS (fun a w hk=>hk.1) (he.1 hw))
 ·rw[if_neg hw];exact(he.2 (by simpa using hw)).2
def oO{q:Bool}{k:Nat}{A:Env->aH->Prop}(h:AD P (bF P) (dD P) mt q ops k ρ H A):∃o,ops[k]?=some o/\aop P (bF P) (dD P) mt q ops o ρ H A:=by
 unfold AD at h;split at h
 ·rename_i o h0;exact⟨o,h0,h⟩
 ·exact h.elim
def iL{Q':Exit->Act->World->Prop}{Hp:aH}(A:∀o∈ops,jQ n o=true)(E:Region.noSelect ops=true)
  (hQ:∀ρ H a w S,K ρ H->St S w H->Pin S w Hp->FR S w ρ a->Grow S0 w0 S w->eV S0.N H0 H->a.defers=[]->a.tmps.size=n->Q' .normal a w):
  ∀(t:Mx) (m:Nat) (listed:Array Bool) (ρ:Env) (H:aH) (a:Act) (w:World) (S:Sg),dW ops t m listed=true ->
   kX P (bF P) (dD P) mt ops K Hp t ρ H->St S w H->Pin S w Hp->FR S w ρ a->Grow S0 w0 S w->eV S0.N H0 H->a.defers=[]->a.tmps.size=n->∀w2,Rw w w2->jZ P .any ops (Cb S w) Rw Q' m listed a w2
 | .nil,m,listed,ρ,H,a,w,S,hB,h,hS,hP,hF,hG,hN,hd,hn,w2,h2=>by
  cases m with
  | succ m=>simp[dW]at hB
  | zero=>have hg:=hS.grow h2.1 h2.2.1 h2.2.2.1 h2.2.2.2.1 h2.2.2.2.2;exact⟨by simpa[dW]using hB,hQ ρ H a w2 S h (hS.after h2.2.2.2.1 h2.2.2.2.2) (hP.keep hS hg) (hF.keep S.le_refl (hg.kept hS)) (hG.trans hg) hN hd hn⟩
 | .q k t,m,listed,ρ,H,a,w,S,hB,h,hS,hP,hF,hG,hN,hd,hn,w2,h2=>by
  cases m with
  | zero=>simp[dW]at hB
  | succ m=>
   simp only[dW,Bool.and_eq_true]at hB;obtain⟨⟨hr,hf⟩,ah⟩:=hB;obtain⟨o,h0,h⟩:=oO h;have ag:=A o (Array.mem_of_getElem? h0);obtain⟨z,hz,h1,Z⟩:=Ar (S:=S.unpin Hp) (CC:=Cb S w) (K:=fun F _=>kX P (bF P) (dD P) mt ops K Hp t F H) (fun w hc=>hc.pin hS hP) A (hP.merge hS fun k r hk=>.inr hk) (hF.keep (S.le_unpin Hp) (fN.refl S w)) hn ag h;have next:∀v,rep (S.unpin Hp) w z v->∀Y,Rw w Y->jZ P .any ops (Cb S w) Rw Q' m (listed.setIfInBounds k true) (a.put o.dst v) Y:=fun v hv Y Z=>iL A E hQ t m _ _ H _ w S ah hz hS hP (FR.put hF (lG (S.unpin_le Hp) (fN.refl (S.unpin Hp) w) _ _ hv)) hG hN (by rw[oW];exact hd) (by rw[zM];exact hn) Y Z
   by_cases hw:Region.wanted o (yielded ops a.tmps)=true
   ·obtain⟨v,hv,hq⟩:=h1 hw;exact lR h0 (Region.noSelect_spec E) Rw.refl (fun _ _ _=>Rw.trans) (fun _ _ hc hr=>hc.rw hS hr) _ listed a w2 (h2.cb hS) (Region.free_spec h0 hf) (by simpa using hr) (.inl ⟨hw,hq⟩) (fun Y Z=>next v hv Y (h2.trans Z))
   ·have ab:Region.wanted o (yielded ops a.tmps)=false:=by simpa using hw
    exact lR h0 (Region.noSelect_spec E) Rw.refl (fun _ _ _=>Rw.trans) (fun _ _ hc hr=>hc.rw hS hr) _ listed a w2 (h2.cb hS) (Region.free_spec h0 hf) (by simpa using hr) (.inr ⟨ab,rfl⟩) (fun Y af=>next _ (Z ab) Y (h2.trans af))
 | .a1 k t,m,listed,ρ,H,a,w,S,hB,h,hS,hP,hF,hG,hN,hd,hn,w2,h2=>by
  cases m with
  | zero=>simp[dW]at hB
  | succ m=>simp only[dW,Bool.and_eq_true,decide_eq_true_eq]at hB;obtain⟨o,h0,g⟩:=oO h;refine⟨by rw[hB.1];simp,fun i hi=>?_⟩;rw[hB.1]at hi;simp only[List.mem_cons,List.not_mem_nil,or_false]at hi;subst hi;exact rB A h0 g hS hP hF hd hn h2 fun F H' a' w' S' hk J O X U I M T Y Z=>iL A E hQ t m _ F H' a' w' S' hB.2 hk J O X (hG.trans U) (hN.trans I hG.le.N) M T Y Z
 | .a2 k t k' t',m,listed,ρ,H,a,w,S,hB,h,hS,hP,hF,hG,hN,hd,hn,w2,h2=>by
  cases m with
  | zero=>simp[dW]at hB
  | succ m=>
   simp only[dW,Bool.and_eq_true,decide_eq_true_eq]at hB;obtain⟨h,h'⟩:=h;obtain⟨o,h0,g⟩:=oO h;obtain⟨o',aa,g'⟩:=oO h';refine⟨by rw[hB.1.1];simp,fun i hi=>?_⟩;rw[hB.1.1]at hi;simp only[List.mem_cons,List.not_mem_nil,or_false]at hi;rcases hi with rfl|rfl
   ·exact rB A h0 g hS hP hF hd hn h2 fun F H' a' w' S' hk J O X U I M T Y Z=>iL A E hQ t m _ F H' a' w' S' hB.1.2 hk J O X (hG.trans U) (hN.trans I hG.le.N) M T Y Z
   ·exact rB A aa g' hS hP hF hd hn h2 fun F H' a' w' S' hk J O X U I M T Y Z=>iL A E hQ t' m _ F H' a' w' S' hB.2 hk J O X (hG.trans U) (hN.trans I hG.le.N) M T Y Z
 | .a3 k t k' t' k'' t'',m,listed,ρ,H,a,w,S,hB,h,hS,hP,hF,hG,hN,hd,hn,w2,h2=>by
  cases m with
  | zero=>simp[dW]at hB
  | succ m=>
   simp only[dW,Bool.and_eq_true,decide_eq_true_eq]at hB;obtain⟨h,h',ae⟩:=h;obtain⟨o,h0,g⟩:=oO h;obtain⟨o',aa,g'⟩:=oO h';obtain⟨aj,ac,ai⟩:=oO ae;refine⟨by rw[hB.1.1.1];simp,fun i hi=>?_⟩;rw[hB.1.1.1]at hi;simp only[List.mem_cons,List.not_mem_nil,or_false]at hi;rcases hi with rfl|rfl|rfl
   ·exact rB A h0 g hS hP hF hd hn h2 fun F H' a' w' S' hk J O X U I M T Y Z=>iL A E hQ t m _ F H' a' w' S' hB.1.1.2 hk J O X (hG.trans U) (hN.trans I hG.le.N) M T Y Z
   ·exact rB A aa g' hS hP hF hd hn h2 fun F H' a' w' S' hk J O X U I M T Y Z=>iL A E hQ t' m _ F H' a' w' S' hB.1.2 hk J O X (hG.trans U) (hN.trans I hG.le.N) M T Y Z
   ·exact rB A ac ai hS hP hF hd hn h2 fun F H' a' w' S' hk J O X U I M T Y Z=>iL A E hQ t'' m _ F H' a' w' S' hB.2 hk J O X (hG.trans U) (hN.trans I hG.le.N) M T Y Z
def PI{Q':Exit->Act->World->Prop}{id:Nat}{l:List Nat}{t:Mx}(hm:P.follows .mixedOrders=true)(ai:∀o∈ops,jQ n o=true)(hl:∀k,k∈l->(H k).isSome=true)(hB:Hg ops t=true)
  (h:∀Hp O:aH,(∀k,k∈l->Hp k=H k)->(∀k,k∉l->O k=H k)->(∀k,k∉l->Hp k=none)->(∀k,k∈l->O k=none)->kX P (bF P) (dD P) mt ops (oR l H K) Hp t ρ O)
  (hR:Rel n S0 w0 H0 ρ H a w) (hQ:∀ρ H a w,K ρ H->Rel n S0 w0 H0 ρ H a w->Q' .normal a w):(Code.region id ops true).wp P Q' a w:=by
 obtain⟨S,hS,hF,hG,hN,hd,hn⟩:=hR;simp only[Hg,Bool.and_eq_true]at hB;obtain⟨hs,ak⟩:=hB
 let Hp:aH:=fun k=>if k∈l then H k else none
 let O:aH:=fun k=>if k∈l then none else H k
 have af:∀k,k∈l->Hp k=H k:=fun k A=>if_pos A
 have ah:∀k,k∉l->Hp k=none:=fun k A=>if_neg A
 have ae:∀k,k∉l->O k=H k:=fun k A=>if_neg A
 have aa:∀k,k∈l->O k=none:=fun k A=>if_pos A
 have I:∀k r,Hp k=some r->H k=some r/\k∈l:=fun k r A=>by
  by_cases h:k∈l
  ·exact⟨by rw[<-af k h];exact A,h⟩
  ·rw[ah k h]at A;cases A
 have M:∀k r,O k=some r->H k=some r/\k∉l:=fun k r A=>by
  by_cases h:k∈l
  ·rw[aa k h]at A;cases A
  ·exact⟨by rw[<-ae k h];exact A,h⟩
 let w1:World:={ w with drawn:=w.drawn+1 }
 have E:St S w1 H:=hS.after (Nat.le_refl _) fun _ _=>rfl
 have ag:Grow S w S w1:=hS.grow rfl rfl rfl (Nat.le_refl _) fun _ _=>rfl
 have ap:FR S w1 ρ a:=hF.keep S.le_refl (ag.kept hS);have an:St (S.pin Hp) w1 O:=by
  refine⟨fun k A=>.inl (E.ro_fz k A),fun k A=>?_,fun k r A=>(E.rows k r (M k r A).1).keep (S.le_pin Hp) (fN.refl S w1) (fun _ _=>rfl),fun k r A g T hf=>?_,fun k k' r r' A ac X g T U=>E.disj k k' r r' (M k r A).1 (M k' r' ac).1 X g T U,E.tabs⟩
  ·rcases A with h1|⟨i,r,hi,T⟩
   ·exact E.fz_lt k h1
   ·exact(E.rows i r (I i r hi).1).block_lt T
  ·rcases hf with h1|⟨i,r',hi,U⟩
   ·exact E.free k r (M k r A).1 g T h1
   ·exact E.disj k i r r' (M k r A).1 (I i r' hi).1 (fun e=>(M k r A).2 (e▸(I i r' hi).2)) g T U
 have al:Pin (S.pin Hp) w1 Hp:=by refine⟨fun k r A=>(E.rows k r (I k r A).1).keep (S.le_pin Hp) (fN.refl S w1) (fun _ _=>rfl),fun k r A g T=>⟨.inr ⟨k,r,A,T⟩,fun h1=>E.free k r (I k r A).1 g T (E.ro_fz g h1)⟩,fun k k' r r' A ac X g T=>E.disj k k' r r' (I k r A).1 (I k' r' ac).1 X g T⟩
 refine wp_region_any hm (wL (C:=Cb (S.pin Hp) w1) (R:=Rw) Rw.refl _ _ _ _ ?_);have:=iL (Q':=Q') (Hp:=Hp) (K:=oR l H K) (S0:=S.pin Hp) (w0:=w1) (H0:=O) ai hs (fun aq H' a' w' S' A am av aw F aj ao ar=>by
  have Y:∀k,k∈l->H' k=none:=fun k A=>by obtain⟨r,hr⟩:=Option.isSome_iff_exists.1 (hl k A);exact aj k (hS.rows k r hr).lt (aa k A)
  let Hm:aH:=fun k=>if k∈l then H k else H' k
  have Z:∀k,k∈l->Hm k=H k:=fun k A=>if_pos A
  have ab:∀k,k∉l->Hm k=H' k:=fun k A=>if_neg A
  refine hQ aq Hm a' w' (A Y Hm Z ab) ⟨S'.unpin Hp,av.merge am (fun k r A=>?_),aw.keep (S'.le_unpin Hp) (fN.refl S' w'),?_,?_,ao,ar⟩
  ·by_cases J:k∈l
   ·right;rw[af k J,<-Z k J];exact A
   ·left;rw[<-ab k J];exact A
  ·refine hG.trans (ag.trans ⟨⟨F.le.ro, F.le.N, F.le.loc, F.le.sz⟩, fun k A => ⟨F.fz k (.inl A), fun ⟨i, r, hi, hb⟩ => by
    have au:=E.rows i r (I i r hi).1;have e:S'.loc i=S.loc i:=F.le.loc i au.lt;rw[show(S'.loc i)=S.loc i from e]at hb;exact E.free i r (I i r hi).1 k hb A⟩,F.os,F.tape,F.output,F.size,fun k A=>F.same k (.inl A),fun k A=>by
    rcases F.newro k A with h2|h2
    ·exact .inl h2
    ·exact .inr fun h3=>h2 (.inl h3)⟩)
  ·intro k A h0;have hH:=hN k A h0;by_cases J:k∈l
   ·rw[Z k J];exact hH
   ·rw[ab k J];exact aj k (Nat.lt_of_lt_of_le A hG.le.N) (by rw[ae k J];exact hH)) t ops.size (Array.replicate ops.size false) ρ O a w1 (S.pin Hp) ak (h Hp O af ae ah aa) an al (ap.keep (S.le_pin Hp) (fN.refl S w1)) (Grow.refl _ _) (eV.refl _ _) hd hn w1 (Rw.refl w1)
 exact this
end
end Go.Aw
end
section
namespace Go.Aw
open Go.RowKit
section
variable{P:Program}{n:Nat}{S0:Sg}{w0:World}{H0:aH}{mt:Nat->Bool}{ops:Array Oper}{K:Env->aH->Prop}{ρ:Env}{H:aH}{a:Act}{w:World}{S:Sg}
def GX(A:∀o∈ops,jQ n o=true){Q':Exit->Act->World->Prop}(J:∀ρ H a w,K ρ H->Rel n S0 w0 H0 ρ H a w->Q' .normal a w):
  ∀(l:List Oper) (ρ:Env) (H:aH) (a:Act) (w:World),(∀o∈l,jQ n o=true)->wK P (bF P) (dD P) mt false ops K l ρ H->Rel n S0 w0 H0 ρ H a w->wpList P ops Q' l a w
 | [],ρ,H,a,w,_,h,hR=>J ρ H a w h hR
 | o::rest,ρ,H,a,w,hl,h,hR=>by
  obtain⟨S,U,X,O,T,Y,hn⟩:=hR;have I:=Ap (K':=wpList P ops Q' rest) (Q':=Q') A U X O T Y hn (hl o (by simp))
   (fun F H' Z w' hk M=>GX A J rest F H' Z w' (fun o ho=>hl o (by simp[ho])) hk M) h
  unfold wpList;by_cases E:Region.wanted o (yielded ops a.tmps)=true
  ·rw[if_pos E];exact .inl (I.1 E)
  ·rw[if_neg E];exact I.2 (by simpa using E)
def Cls(S:Sg)(H:aH)(w1 w:World):Prop:=
 w.os=w1.os/\w.tape=w1.tape/\w.output=w1.output/\w1.heap.size<=w.heap.size/\∀k,k<w1.heap.size->w.heap[k]?=w1.heap[k]?
def Cls.st{w1:World}(A:St S w1 H)(h:Cls S H w1 w):St S w H:=A.after h.2.2.2.1 h.2.2.2.2
def Cls.grow{w1:World}(A:St S w1 H)(h:Cls S H w1 w):Grow S w1 S w:=A.grow h.1 h.2.1 h.2.2.1 h.2.2.2.1 h.2.2.2.2
def Cls.agree{w1:World}(A:St S w1 H)(h:Cls S H w1 w):Agree S H w1 w:=
 ⟨(h.grow A).kept A,fun k r E g F=>h.2.2.2.2 g ((A.rows k r E).block_lt F)⟩
def Qa{P:Program}{o:Oper}{a:Act}{w w1:World}{v:Value}(A:Cls S H w1 w)(h:o.quietAt P a (Rw w) w v):o.quietAt P a (Cls S H w1) w v:=by
 unfold Oper.quietAt at *;generalize (execOp a.eval o).run P w=r at *;cases r with
 | ok m w'=>
  cases m <;> simp only[Oper.quietUpon]at h |-
  case value u=>exact h
  case skip=>exact h
  case enter f args=>exact⟨h.1,h.2.mono fun e U ⟨I,F,M,O,T,J⟩=>⟨I,F.trans A.1,M.trans A.2.1,O.trans A.2.2.1,Nat.le_trans A.2.2.2.1 T,fun k E=>(J k (Nat.lt_of_lt_of_le E A.2.2.2.1)).trans (A.2.2.2.2 k E)⟩⟩
 | halt x w'=>simp only[Oper.quietUpon]at h
def F1{w1:World}(E:∀o∈ops,jQ n o=true)(J:St S w1 H):∀(l:List Oper) (ρ:Env) (a:Act),(∀o∈l,jQ n o=true)->wK P (bF P) (dD P) mt true ops K l ρ H->FR S w1 ρ a->a.defers=[]->a.tmps.size=n ->
  wpQuiet P ops (Cls S H w1) (fun F=>∃A,K A H/\FR S w1 A F/\F.defers=[]/\F.tmps.size=n) l a
 | [],ρ,a,_,h,hF,hd,hn=>⟨ρ,h,hF,hd,hn⟩
 | o::rest,ρ,a,hl,h,hF,hd,hn=>by
  obtain⟨z,T,h1,X⟩:=Ar (CC:=Cls S H w1) (fun w I=>⟨I.st J,I.agree J⟩) E J hF hn (hl o (by simp)) h;have next:∀v,rep S w1 z v->wpQuiet P ops (Cls S H w1) (fun F=>∃A,K A H/\FR S w1 A F/\F.defers=[]/\F.tmps.size=n) rest (a.put o.dst v):=fun v O=>F1 E J rest _ _ (fun o U=>hl o (by simp[U])) T (FR.put hF O) (by rw[oW];exact hd) (by rw[zM];exact hn)
  unfold wpQuiet;by_cases M:Region.wanted o (yielded ops a.tmps)=true
  ·rw[if_pos M];obtain⟨v,O,Y⟩:=h1 M;exact⟨v,fun w I=>Qa I (Y w I),next v O⟩
  ·rw[if_neg M];exact next _ (X (by simpa using M))
end
def vU{P:Program}{ops:Array Oper}{C:World->Prop}{Q Q':Act->Prop}(E:∀a,Q a->Q' a):∀(l:List Oper) (a:Act),wpQuiet P ops C Q l a->wpQuiet P ops C Q' l a
 | [],a,h=>E a h
 | o::rest,a,h=>by
  unfold wpQuiet at h |-;split
  ·rename_i A;rw[if_pos A]at h;exact Oper.quiet_mono (fun F I=>vU E rest F I) h
  ·rename_i A;rw[if_neg A]at h;exact vU E rest _ h
def yV(n:Nat):Code->Bool
 | .region _ ops _=>ops.all (jQ n)
 | .seq a b=>yV n a&&yV n b
 | .cond c a b=>opB n c&&(yV n a&&yV n b)
 | .block _ c=>yV n c
 | .loop c=>yV n c
 | .scope c=>yV n c
 | _=>true
def U9(n:Nat)(S0:Sg)(w0:World)(H0:aH)(Q:Ex->Env->aH->Prop):Exit->Act->World->Prop
 | .normal,a,w=>∃ρ H,Q .normal ρ H/\Rel n S0 w0 H0 ρ H a w
 | .exit id,a,w=>∃ρ H,Q (.exit id) ρ H/\Rel n S0 w0 H0 ρ H a w
 | .ret,a,w=>∃ρ H,Q .ret ρ H/\Rel n S0 w0 H0 ρ H a w
 | _,_,_=>False
def nB{P:Program}{n:Nat}{S0:Sg}{w0:World}{H0:aH}{mt:Nat->Bool}(U:P.follows .mixedOrders=true):∀(c:Code) (Q:Ex->Env->aH->Prop) (ρ:Env) (H:aH) (a:Act) (w:World),yV n c=true ->
  awp P (bF P) (dD P) mt c Q ρ H->Rel n S0 w0 H0 ρ H a w->c.wp P (U9 n S0 w0 H0 Q) a w
 | .skip,Q,ρ,H,a,w,_,h,A=>wp_skip ⟨ρ,H,h,A⟩
 | .region id ops false,Q,ρ,H,a,w,hb,h,A=>by
  rw[FZ]at h;have E:∀o∈ops,jQ n o=true:=fun o Y=>Array.all_eq_true_iff_forall_mem.1 hb o Y
  exact wp_region_list (GX E (fun ρ H a w M O=>⟨ρ,H,M,O⟩) ops.toList ρ H a w (fun o Y=>E o (Array.mem_toList_iff.1 Y)) h A)
 | .region id ops true,Q,ρ,H,a,w,hb,h,A=>by
  rw[Me]at h;have E:∀o∈ops,jQ n o=true:=fun o Y=>Array.all_eq_true_iff_forall_mem.1 hb o Y
  rcases h with⟨_,aa,h⟩|⟨hB,h⟩|⟨f,hB,h⟩|⟨l,t,hl,hB,h⟩
  ·obtain⟨S,hS,hF,hG,hN,hd,hn⟩:=A
   let w1:World:={ w with drawn:=w.drawn+1 }
   have T:St S w1 H:=hS.after (Nat.le_refl _) fun _ _=>rfl
   have ab:Grow S w S w1:=hS.grow rfl rfl rfl (Nat.le_refl _) fun _ _=>rfl
   have af:FR S w1 ρ a:=hF.keep S.le_refl (ab.kept hS);refine wp_region_quiet (C:=Cls S H w1) U aa ⟨rfl,rfl,rfl,Nat.le_refl _,fun _ _=>rfl⟩ ?_;have:=F1 E T ops.toList ρ a (fun o Y=>E o (Array.mem_toList_iff.1 Y)) h af hd hn;refine vU (fun Z ⟨F,M,aj,ae,ai⟩ w' hc=>?_) ops.toList a this;exact⟨F,H,M,S,hc.st T,aj.keep S.le_refl ((hc.grow T).kept T),hG.trans (ab.trans (hc.grow T)),hN,ae,ai⟩
  ·exact Su U E hB h A fun ρ H a w M O=>⟨ρ,H,M,O⟩
  ·exact Uz U E hB h A fun ρ H a w M O=>⟨ρ,H,M,O⟩
  ·exact PI U E hl hB h A fun ρ H a w M O=>⟨ρ,H,M,O⟩
 | .seq c d,Q,ρ,H,a,w,hb,h,A=>by
  simp only[yV,Bool.and_eq_true]at hb;rw[Tv]at h;refine wp_seq (wp_mono (nB U c _ ρ H a w hb.1 h A) fun e Z w' J=>?_);cases e <;> simp only[U9,Exit.then]at J |-
  case normal=>obtain⟨F,H',M,O⟩:=J;exact nB U d Q F H' Z w' hb.2 M O
  case exit id=>exact J
  case ret=>exact J
 | .cond c x y,Q,ρ,H,a,w,hb,h,A=>by
  simp only[yV,Bool.and_eq_true]at hb;rw[Mw]at h;unfold xK at h;split at h
  ·rename_i t ht;obtain⟨S,hS,hF,hG,hN,hd,hn⟩:=A;have e:=cJ hF (x:=c) (hn▸hb.1);rw[ht]at e;simp only[rep]at e;have A:Rel n S0 w0 H0 ρ H a w:=⟨S,hS,hF,hG,hN,hd,hn⟩;exact wp_cond_split e (fun ht=>nB U x Q ρ H a w hb.2.1 (h.1 ht) A) (fun ht=>nB U y Q ρ H a w hb.2.2 (h.2 ht) A)
  ·exact h.elim
 | .block id c,Q,ρ,H,a,w,hb,h,A=>by
  rw[I6]at h;refine wp_block (wp_mono (nB U c _ ρ H a w hb h A) fun e Z w' J=>?_);cases e <;> simp only[U9,Exit.inBlock]at J |-
  case normal=>exact J
  case ret=>exact J
  case exit i=>
   obtain⟨F,H',M,O⟩:=J;simp only[Ex.blk]at M;by_cases e:i=id
   ·rw[if_pos e]at M |-;exact⟨F,H',M,O⟩
   ·rw[if_neg e]at M |-;exact⟨F,H',M,O⟩
 | .loop c,Q,ρ,H,a,w,hb,h,A=>by
  rw[L0]at h;obtain⟨I,μ,h0,X⟩:=h;refine wp_loop_ghost (fun m a w=>∃ρ H,I ρ H/\μ ρ H=m/\Rel n S0 w0 H0 ρ H a w) (μ ρ H) ⟨ρ,H,h0,rfl,A⟩ ?_;rintro m Z w' ⟨F,H',hI,rfl,ac⟩;refine wp_mono (nB U c _ F H' Z w' hb (X F H' hI) ac) fun e a2 w2 J=>?_
  cases e <;> simp only[U9,Exit.then]at J |-
  case normal=>obtain⟨ag,H2,⟨M,ah⟩,O⟩:=J;exact⟨_,ah,ag,H2,M,rfl,O⟩
  case exit id=>exact J
  case ret=>exact J
 | .exit id,Q,ρ,H,a,w,_,h,A=>wp_exit ⟨ρ,H,h,A⟩
 | .ret,Q,ρ,H,a,w,_,h,A=>wp_ret ⟨ρ,H,h,A⟩
 | .rangeFunc ..,_,_,_,_,_,_,h,_=>by simp[awp]at h
 | .scope c,Q,ρ,H,a,w,hb,h,A=>by
  rw[IE]at h;refine wp_scope_straight (wp_mono (nB U c _ ρ H a w hb h A) fun e Z w' J=>?_);cases e <;> simp only[U9,Exit.noGoto]at J |-
  case normal=>exact J
  case exit id=>exact J
  case ret=>exact J
 | .label _,Q,ρ,H,a,w,_,h,A=>wp_label ⟨ρ,H,h,A⟩
 | .goto _,_,_,_,_,_,_,h,_=>by simp[awp]at h
 | .refuse _,_,_,_,_,_,_,h,_=>by simp[awp]at h
def Ej(P:Program)(ρ:Env)(H:aH):List ResultVar->(List AV->Prop)->Prop
 | [],K=>K []
 | .tmp t::r,K=>Ej P ρ H r fun l=>K (ρ t::l)
 | .cell t ty::r,K=>match ldT P ty with
   | some l=>nG none H l (ρ t) fun x=>Ej P ρ H r fun xs=>K (x::xs)
   | none=>False
def SQ(R:AV->Prop):List AV->Prop
 | [x]=>R x
 | l=>R (.tup l)
def HR(P:Program)(rs:List ResultVar)(R:AV->aH->Prop):Ex->Env->aH->Prop
 | .exit _,_,_=>False
 | _,ρ,H=>Ej P ρ H rs (SQ fun x=>R x H)
def acM(n:Nat):ResultVar->Bool
 | .tmp t=>decide (t<n)
 | .cell t _=>decide (t<n)
def AT(fn:Func)(c:Code)(m:Nat):Bool:=yV fn.ntmps c&&fn.results.toList.all (acM fn.ntmps)&&decide (m<=fn.ntmps)
section
variable{P:Program}{S:Sg}{H:aH}{w:World}{ρ:Env}{a:Act}
def Vs{G:Option Bool}{l:Option Nat}{x:AV}{K:AV->Prop}(h:nG G H l x K){u:Value}(A:rep S w x u):∃ad,u=.pointer (some ad):=by
 unfold nG at h;split at h
 ·simp only[rep]at A;obtain⟨b,o,rfl,_⟩:=A;exact⟨_,rfl⟩
 ·simp only[rep]at A;obtain⟨_,g,m,c,_,rfl⟩:=A;exact⟨_,rfl⟩
 ·exact h.elim
def KD(tmps:Array Value):ResultVar->Sem Value
 | .tmp t=>pure (tmps.getD t undef)
 | .cell b t=>do loadVar t (<-asAddr (tmps.getD b undef))
def P0(fn:Func)(A:Array Value):results fn A=(do
  let vs <-fn.results.mapM (KD A)
  pure (if h:vs.size=1 then vs[0]else .tuple vs)):=by
 unfold results
 congr 1
def yL(J:yK S w H)(E:FR S w ρ a):∀(M:List ResultVar) (K:List AV->Prop),(∀r∈M,acM a.tmps.size r=true)->Ej P ρ H M K ->
  ∃l vs,K l/\(M.mapM (KD a.tmps)).run P w=.ok vs w/\bC S w l vs
 | [],K,_,h=>⟨[],[],h,by simp,by simp[bC]⟩
 | .tmp t::r,K,hb,h=>by
  simp only[Ej]at h;obtain⟨l,vs,h1,U,T⟩:=yL J E r _ (fun x O=>hb x (by simp[O])) h;have I:t<a.tmps.size:=by simpa[acM]using hb (.tmp t) (by simp)
  refine⟨_,a.tmps.getD t undef::vs,h1,?_,?_⟩
  ·rw[List.mapM_cons];simp only[KD,Sem.run_bind,Sem.run_pure,Result.andThen_ok];rw[U];rfl
  ·simp only[bC];exact⟨_,_,rfl,E t I,T⟩
 | .cell t ty::r,K,hb,h=>by
  simp only[Ej]at h;split at h
  ·rename_i l X;have I:t<a.tmps.size:=by simpa[acM]using hb (.cell t ty) (by simp)
   obtain⟨z,Y,hd⟩:=DS (S:=S) (w:=w) X J h;obtain⟨v,hv,F⟩:=hd trivial _ (E t I);obtain⟨ad,e⟩:=Vs h (E t I);have A:=F w (Agree.refl S H w);rw[e]at A;simp only[Instr.loadAt,Instr.sureAddr,pure_bind]at A;obtain⟨l',vs,h1,U,T⟩:=yL J E r _ (fun x O=>hb x (by simp[O])) Y;refine⟨_,v::vs,h1,?_,?_⟩
   ·have Z:(asAddr (a.tmps.getD t undef)).run P w=.ok ad w:=by rw[e];rfl
    rw[List.mapM_cons];simp only[KD,Sem.run_bind,Z,Sem.run_pure,Result.andThen_ok,A];rw[U];rfl
   ·simp only[bC];exact⟨_,_,rfl,hv,T⟩
  ·exact h.elim
def bF.body{f:FuncId}{fn:Func}{c:Code}{args:List AV}{R:AV->aH->Prop}(mt:Nat->Bool)(hm:P.follows .mixedOrders=true)(hf:P.funcs[f]?=some fn)(hb:fn.body=some c)(hc:AT fn c args.length=true)
  (h:awp P (bF P) (dD P) mt c (HR P fn.results.toList R) (ES args) H):bF P f args H R:=by
 intro S w vals hS ha;simp only[AT,Bool.and_eq_true,decide_eq_true_eq]at hc;obtain⟨⟨I,M⟩,ai⟩:=hc;have aa:=fS _ _ ha;refine calls_of_wp hf hb (wp_mono (nB (n:=fn.ntmps) (S0:=S) (w0:=w) (H0:=H) hm c _ _ H _ w I h ⟨S,hS,?_,Grow.refl S w,eV.refl _ _,rfl,?_⟩) ?_)
 ·intro t ht;by_cases e:t<args.length
  ·obtain⟨u,h1,E⟩:=BT args vals t ha e;have hu:(vals.toArray++Array.replicate (fn.ntmps-vals.toArray.size) undef).getD t undef=u:=by
    have T:t<vals.length:=by omega
    have:vals[t]=u:=by rw[List.getElem?_eq_getElem T]at h1;injection h1
    simp[Array.getD_eq_getD_getElem?,Array.getElem?_append,T,this]
   simp only[ES];rw[hu];exact E
  ·simp only[ES,List.getD,List.getElem?_eq_none (by omega:args.length<=t),Option.getD_none];simp only[rep]
 ·simp only[Array.size_append,List.size_toArray,Array.size_replicate,aa];omega
 ·intro e Z w' Y;have O:∀A H',Ej P A H' fn.results.toList (SQ fun x=>R x H')->Rel fn.ntmps S w H A H' Z w'->Z.defers=[]/\∃v,(results fn Z.tmps).run P w'=.ok v w'/\ahX S w H R (.returned v) w':=by
   rintro A H' h1 ⟨S',F,ah,U,J,ac,af⟩;refine⟨ac,?_⟩;obtain⟨l,vs,E,h3,X⟩:=yL (P:=P) F.rows ah fn.results.toList _ (fun r hr=>by rw[af];exact List.all_eq_true.1 M r hr) h1;have hr:(results fn Z.tmps).run P w'=.ok (if h:vs.toArray.size=1 then vs.toArray[0]else .tuple vs.toArray) w':=by rw[P0,Array.mapM_eq_mapM_toList];simp only[Sem.run_bind,Sem.run_map];rw[h3];simp only[Result.andThen_ok,Sem.run_pure]
   refine⟨_,hr,?_⟩;unfold SQ at E;split at E
   ·rename_i x;simp only[bC]at X;obtain⟨u,t,rfl,h5,rfl⟩:=X;exact⟨_,x,H',S',rfl,E,F,by simpa using h5,U,J⟩
   ·rename_i ag;have ab:=fS _ _ X;have ae:¬vs.toArray.size=1:=by
     intro e;have:l.length=1:=by rw[<-ab];simpa using e
     match l,this with
     | [x],_=>exact ag x rfl
    rw[dif_neg ae];exact⟨_,_,H',S',rfl,E,F,by simp only[rep];exact⟨vs,rfl,X⟩,U,J⟩
  cases e <;> simp only[U9,bodyPost]at Y |-
  case normal=>obtain⟨A,H',h1,E⟩:=Y;exact O A H' h1 E
  case ret=>obtain⟨A,H',h1,E⟩:=Y;exact O A H' h1 E
  case exit id=>obtain⟨A,H',h1,E⟩:=Y;exact h1.elim
def RC.body{f:FuncId}{fn:Func}{c:Code}{args:List AV}{R:AV->aH->Prop}(mt:Nat->Bool)(J:P.follows .mixedOrders=true)(I:P.funcs[f]?=some fn)(F:fn.body=some c)(E:AT fn c args.length=true)
 (h:awp P (bF P) (dD P) mt c (HR P fn.results.toList R) (ES args) bS):RC P f args R:=fun S w vals A _ M=>bF.body mt J I F E h S w vals A M
def PC.body{f:FuncId}{fn:Func}{c:Code}{args:List AV}{r:AV}(mt:Nat->Bool)(I:P.follows .mixedOrders=true)(F:P.funcs[f]?=some fn)(E:fn.body=some c)(A:AT fn c args.length=true)
 (h:awp P (bF P) (dD P) mt c (HR P fn.results.toList fun x H'=>Conv H' x r) (ES args) bS):PC P f args r:=RC.conv (RC.body mt I F E A h)
def NC.body{f:FuncId}{fn:Func}{c:Code}{args:List AV}{row:Row}{A:Nat->AV}(mt:Nat->Bool)(J:P.follows .mixedOrders=true)(I:P.funcs[f]?=some fn)(F:fn.body=some c)(E:AT fn c args.length=true)
 (h:awp P (bF P) (dD P) mt c (HR P fn.results.toList fun x H'=>∃k,x=A k/\H' k=some row) (ES args) bS):NC P f args row A:=RC.body mt J I F E h
def PC.q{f:FuncId}{args:List AV}{r:AV}(h:PC P f args r)(A:(fv r).isSome=true):dD P f args H r:=.inl ⟨args,ConvL.refl args,h,A⟩
def PC.qn{f:FuncId}{args:List AV}{r:AV}(h:PC P f args r):dD P f args H (.nf r):=.inr ⟨r,rfl,h⟩
def dD.use{f:FuncId}{args:List AV}{r:AV}{K:AV->aH->Prop}(h:xP P f args H r)(A:K r H):bF P f args H K:=xP.use h A
end
end Go.Aw
end
section
namespace Go.Proofs.YtgncgpcpbadfnaaGreatDoor.Ty
open Go.Aw Go.Proofs
theorem vE{P:Program}{t:TypeId}(h:(P.info? t).map (·.size)=some 1):∃i,P.info? t=some i/\i.size=1:=by
 cases A:P.info? t with
 | none=>simp[A]at h
 | some i=>exact⟨i,rfl,by simpa[A]using h⟩
theorem mixed:Tryz.prog.follows .mixedOrders=true:=by kernel_rfl
theorem akF:bT Tryz.prog 62=some (4,1,1):=by kernel_rfl
theorem agK:bT Tryz.prog 63=some (126,2,16):=by kernel_rfl
theorem aeN:bT Tryz.prog 242=some (282,2,16):=by kernel_rfl
theorem AG:Rq Tryz.prog 189=some (3,3):=by kernel_rfl
theorem kk3:tC Tryz.prog 3=some 0:=by kernel_rfl
theorem zv3:Is Tryz.prog 3=some (.v (.int .i64 0)):=by kernel_rfl
theorem so3:∃i,Tryz.prog.info? 3=some i/\i.size=1:=vE (by kernel_rfl)
theorem so4:∃i,Tryz.prog.info? 4=some i/\i.size=1:=vE (by kernel_rfl)
theorem agF:∃i,Tryz.prog.info? 32=some i/\i.size=1:=vE (by kernel_rfl)
theorem Zs:∃i,Tryz.prog.info? 51=some i/\i.size=1:=vE (by kernel_rfl)
theorem YV:∃i,Tryz.prog.info? 127=some i/\i.size=1:=vE (by kernel_rfl)
theorem afN:∃i,Tryz.prog.info? 220=some i/\i.size=1:=vE (by kernel_rfl)
open Go.Proofs.Tryz(prog)
theorem tyJ0:Fq prog 3=some .i64/\Fq prog 5=some .u8/\dN prog 9=true/\CP prog 180=true/\Fq prog 333=some .u64/\AA prog 4=true/\AO prog 126=some [0,2]/\AO prog 282=some [0,0]/\AO prog 346=some [0,0,0]/\aK prog 25 0=some (0,none)/\aK prog 25 1=some (1,none)/\aK prog 30 0=some (0,some 2)/\aK prog 30 1=some (2,none)/\aK prog 30 2=some (3,none)/\aK prog 30 3=some (4,none)/\aK prog 30 4=some (5,none)/\aK prog 34 0=some (0,none)/\aK prog 34 1=some (1,none)/\aK prog 37 0=some (0,none)/\aK prog 37 1=some (1,some 2)/\aK prog 37 2=some (3,none)/\aK prog 58 0=some (0,none)/\aK prog 58 1=some (1,none)/\aK prog 58 2=some (2,none)/\aK prog 58 3=some (3,none)/\aK prog 60 0=some (0,none)/\aK prog 60 1=some (1,none)/\aK prog 60 2=some (2,none)/\aK prog 60 3=some (3,none)/\aK prog 60 4=some (4,some 4)/\aK prog 60 5=some (8,none)/\aK prog 60 6=some (9,none)/\aK prog 65 0=some (0,none)/\aK prog 65 1=some (1,none)/\aK prog 65 2=some (2,none)/\aK prog 65 3=some (3,none)/\aK prog 72 0=some (0,some 6)/\aK prog 72 1=some (6,none)/\aK prog 72 2=some (7,none)/\aK prog 72 3=some (8,none):=by and_intros<;>kernel_rfl
theorem akC:aK prog 79 0=some (0,none)/\aK prog 79 1=some (1,none)/\aK prog 79 2=some (2,none)/\aK prog 79 3=some (3,none)/\aK prog 81 0=some (0,none)/\aK prog 81 1=some (1,none)/\aK prog 81 2=some (2,some 4)/\aK prog 81 3=some (6,some 4)/\aK prog 81 4=some (10,none)/\aK prog 81 5=some (11,none)/\aK prog 81 6=some (12,none)/\aK prog 81 7=some (13,none)/\aK prog 81 8=some (14,none)/\aK prog 81 9=some (15,none)/\aK prog 83 0=some (0,none)/\aK prog 83 1=some (1,none)/\aK prog 83 2=some (2,none)/\aK prog 83 3=some (3,none)/\aK prog 105 0=some (0,none)/\aK prog 105 1=some (1,none)/\aK prog 105 2=some (2,none)/\aK prog 111 0=some (0,none)/\aK prog 111 1=some (1,none)/\aK prog 119 0=some (0,none)/\aK prog 119 1=some (1,none)/\aK prog 122 0=some (0,none)/\aK prog 122 1=some (1,none)/\aK prog 122 2=some (2,none)/\aK prog 122 3=some (3,none)/\aK prog 122 4=some (4,none)/\aK prog 122 5=some (5,none)/\aK prog 124 0=some (0,none)/\aK prog 124 1=some (1,none)/\aK prog 124 2=some (2,none)/\aK prog 124 3=some (3,none)/\aK prog 124 4=some (4,none)/\aK prog 124 5=some (5,none)/\aK prog 124 6=some (6,none)/\aK prog 124 7=some (7,none)/\aK prog 124 8=some (8,none):=by and_intros<;>kernel_rfl
theorem ajN:aK prog 124 9=some (9,none)/\aK prog 124 10=some (10,none)/\aK prog 124 11=some (11,none)/\aK prog 124 12=some (12,none)/\aK prog 124 13=some (13,none)/\aK prog 126 0=some (0,none)/\aK prog 126 1=some (1,none)/\aK prog 129 0=some (0,none)/\aK prog 129 1=some (1,none)/\aK prog 129 2=some (2,none)/\aK prog 129 3=some (3,none)/\aK prog 129 4=some (4,none)/\aK prog 139 0=some (0,none)/\aK prog 139 1=some (1,none)/\aK prog 157 0=some (0,none)/\aK prog 157 1=some (1,none)/\aK prog 157 2=some (2,none)/\aK prog 160 0=some (0,none)/\aK prog 160 1=some (1,none)/\aK prog 160 2=some (2,none)/\aK prog 160 3=some (3,some 4)/\aK prog 222 0=some (0,some 6)/\aK prog 222 1=some (6,some 14)/\aK prog 222 2=some (20,some 4)/\aK prog 222 3=some (24,none)/\aK prog 226 0=some (0,none)/\aK prog 226 1=some (1,none)/\aK prog 226 2=some (2,some 5)/\aK prog 239 0=some (0,some 6)/\aK prog 239 1=some (6,none)/\aK prog 239 2=some (7,none)/\aK prog 239 3=some (8,none)/\aK prog 239 4=some (9,some 7)/\aK prog 239 5=some (16,none)/\aK prog 255 0=some (0,none)/\aK prog 255 1=some (1,none)/\aK prog 282 0=some (0,none)/\aK prog 282 1=some (1,none)/\aK prog 303 2=some (2,none)/\aK prog 303 3=some (3,none):=by and_intros<;>kernel_rfl
theorem aiI:bT prog 22=some (9,1,16)/\cA prog 22=true/\bT prog 23=some (122,6,80)/\cA prog 23=true/\bT prog 26=some (124,14,136)/\cA prog 26=true/\bT prog 27=some (81,16,152)/\cA prog 27=true/\bT prog 28=some (101,2,16)/\cA prog 28=true/\bT prog 31=some (65,4,64)/\cA prog 31=true/\bT prog 32=some (3,1,8)/\cA prog 32=true/\bT prog 35=some (60,10,112)/\cA prog 35=true/\bT prog 48=some (51,1,24)/\cA prog 48=true/\bT prog 51=some (58,4,32)/\cA prog 51=true/\bT prog 53=some (139,2,24)/\cA prog 53=true/\bT prog 55=some (105,3,24)/\cA prog 55=true/\bT prog 56=some (77,1,16)/\cA prog 56=true/\cA prog 62=true/\cA prog 63=true/\bT prog 70=some (160,7,88)/\cA prog 70=true/\dN prog 77=true/\Bc prog 101=some (2,1,none)/\bT prog 109=some (157,3,40)/\cA prog 109=true/\bT prog 120=some (119,2,16)/\cA prog 120=true/\bT prog 127=some (303,4,32)/\cA prog 127=true/\Bc prog 134=some (4,1,none)/\bT prog 142=some (41,1,8):=by and_intros<;>kernel_rfl
theorem afU:cA prog 142=true/\bT prog 171=some (87,1,8)/\cA prog 171=true/\bT prog 180=some (5,1,1)/\bT prog 214=some (32,1,24)/\cA prog 214=true/\bT prog 220=some (79,4,32)/\cA prog 220=true/\bT prog 228=some (226,7,72)/\cA prog 228=true/\cA prog 242=true/\bT prog 251=some (255,2,24)/\cA prog 251=true/\bT prog 283=some (3,1,8)/\cA prog 283=true/\Bc prog 291=some (2,1,none)/\bT prog 315=some (291,2,32)/\cA prog 315=true/\ldT prog 3=some none/\ldT prog 4=some none/\ldT prog 9=some none/\ldT prog 22=some none/\ldT prog 23=some none/\ldT prog 25=some (some 2)/\ldT prog 26=some none/\ldT prog 27=some none/\ldT prog 28=some none/\ldT prog 30=some (some 6)/\ldT prog 31=some none/\ldT prog 32=some none/\ldT prog 34=some (some 2)/\ldT prog 35=some none/\ldT prog 37=some (some 4)/\ldT prog 41=some none/\ldT prog 51=some none/\ldT prog 55=some none/\ldT prog 56=some none/\ldT prog 58=some (some 4)/\ldT prog 60=some (some 10)/\ldT prog 62=some none:=by and_intros<;>kernel_rfl
theorem agM:ldT prog 63=some none/\ldT prog 65=some (some 4)/\ldT prog 70=some none/\ldT prog 77=some none/\ldT prog 79=some (some 4)/\ldT prog 81=some (some 16)/\ldT prog 83=some (some 4)/\ldT prog 87=some none/\ldT prog 101=some (some 2)/\ldT prog 105=some (some 3)/\ldT prog 109=some none/\ldT prog 111=some (some 2)/\ldT prog 119=some (some 2)/\ldT prog 120=some none/\ldT prog 122=some (some 6)/\ldT prog 124=some (some 14)/\ldT prog 126=some (some 2)/\ldT prog 127=some none/\ldT prog 129=some (some 5)/\ldT prog 134=some (some 4)/\ldT prog 157=some (some 3)/\ldT prog 160=some (some 7)/\ldT prog 220=some none/\ldT prog 222=some (some 25)/\ldT prog 226=some (some 7)/\ldT prog 232=some none/\ldT prog 255=some (some 2)/\ldT prog 282=some (some 2)/\ldT prog 291=some (some 2)/\ldT prog 346=some (some 3)/\dB prog 25=some [(0,1),(1,1)]/\dB prog 30=some [(0,2),(2,1),(3,1),(4,1),(5,1)]/\dB prog 34=some [(0,1),(1,1)]/\dB prog 37=some [(0,1),(1,2),(3,1)]/\dB prog 58=some [(0,1),(1,1),(2,1),(3,1)]/\dB prog 60=some [(0,1),(1,1),(2,1),(3,1),(4,4),(8,1),(9,1)]/\dB prog 65=some [(0,1),(1,1),(2,1),(3,1)]/\dB prog 72=some [(0,6),(6,1),(7,1),(8,1)]/\dB prog 79=some [(0,1),(1,1),(2,1),(3,1)]/\dB prog 81=some [(0,1),(1,1),(2,4),(6,4),(10,1),(11,1),(12,1),(13,1),(14,1),(15,1)]:=by and_intros<;>kernel_rfl
theorem afY:dB prog 83=some [(0,1),(1,1),(2,1),(3,1)]/\dB prog 101=some [(0,1),(1,1)]/\dB prog 111=some [(0,1),(1,1)]/\dB prog 119=some [(0,1),(1,1)]/\dB prog 122=some [(0,1),(1,1),(2,1),(3,1),(4,1),(5,1)]/\dB prog 124=some [(0,1),(1,1),(2,1),(3,1),(4,1),(5,1),(6,1),(7,1),(8,1),(9,1),(10,1),(11,1),(12,1),(13,1)]/\dB prog 126=some [(0,1),(1,1)]/\dB prog 129=some [(0,1),(1,1),(2,1),(3,1),(4,1)]/\dB prog 134=some [(0,1),(1,1),(2,1),(3,1)]/\dB prog 139=some [(0,1),(1,1)]/\dB prog 157=some [(0,1),(1,1),(2,1)]/\dB prog 160=some [(0,1),(1,1),(2,1),(3,4)]/\dB prog 222=some [(0,6),(6,14),(20,4),(24,1)]/\dB prog 226=some [(0,1),(1,1),(2,5)]/\dB prog 239=some [(0,6),(6,1),(7,1),(8,1),(9,7),(16,1)]/\dB prog 255=some [(0,1),(1,1)]/\dB prog 282=some [(0,1),(1,1)]/\dB prog 291=some [(0,1),(1,1)]/\dB prog 303=some [(0,1),(1,1),(2,1),(3,1)]/\dB prog 346=some [(0,1),(1,1),(2,1)]/\cV prog 3=some [.v (.int .i64 0)]/\cV prog 4=some [.v (.bool false)]/\cV prog 9=some [.v (.string ByteArray.empty)]/\cV prog 25=some [.sl [],.sl []]/\cV prog 30=some [.sl [],.sl [],.sl [],.sl [],.sl [],.sl []]/\cV prog 32=some [.sl []]/\cV prog 34=some [.sl [],.sl []]/\cV prog 37=some [.v (.bool false),.sl [],.sl [],.sl []]/\cV prog 51=some [.sl []]/\cV prog 58=some [.v (.int .i64 0),.v (.int .i64 0),.v (.int .i64 0),.v (.int .i64 0)]/\cV prog 60=some [.v (.bool false),.v (.int .i64 0),.sl [],.sl [],.v (.int .i64 0),.v (.int .i64 0),.v (.int .i64 0),.v (.int .i64 0),.v (.int .i64 0),.v (.int .i64 0)]/\cV prog 65=some [.v (.int .i64 0),.v (.int .i64 0),.sl [],.sl []]/\cV prog 72=some [.sl [],.sl [],.sl [],.sl [],.sl [],.sl [],.sl [],.v (.int .i64 0),.v (.bool false)]/\cV prog 79=some [.v (.int .i64 0),.v (.int .i64 0),.v (.int .i64 0),.v (.int .i64 0)]/\cV prog 81=some [.v (.string ByteArray.empty),.sl [],.v (.int .i64 0),.v (.int .i64 0),.v (.int .i64 0),.v (.int .i64 0),.v (.int .i64 0),.v (.int .i64 0),.v (.int .i64 0),.v (.int .i64 0),.v (.int .i64 0),.v (.int .i64 0),.v (.int .i64 0),.v (.int .i64 0),.v (.int .i64 0),.v (.bool false)]/\cV prog 83=some [.v (.int .i64 0),.v (.int .i64 0),.v (.int .i64 0),.v (.int .i64 0)]/\cV prog 101=some [.v (.int .i64 0),.v (.int .i64 0)]/\cV prog 105=some [.v (.int .i64 0),.v (.int .i64 0),.v (.int .i64 0)]/\qI prog 111=some [(0,3,1),(1,157,3)]/\cV prog 111=some [.sl [],.sl []]:=by and_intros<;>kernel_rfl
theorem ahV:cV prog 119=some [.v (.int .i64 0),.v (.int .i64 0)]/\cV prog 122=some [.v (.int .i64 0),.v (.int .i64 0),.v (.int .i64 0),.v (.int .i64 0),.sl [],.sl []]/\cV prog 124=some [.v (.string ByteArray.empty),.v (.int .i64 0),.v (.int .i64 0),.v (.int .i64 0),.sl [],.v (.int .i64 0),.v (.int .i64 0),.v (.int .i64 0),.v (.int .i64 0),.v (.int .i64 0),.v (.int .i64 0),.v (.int .i64 0),.v (.int .i64 0),.v (.int .i64 0)]/\cV prog 126=some [.v (.int .i64 0),.v (.bool false)]/\cV prog 129=some [.v (.bool false),.v (.int .i64 0),.sl [],.v (.int .i64 0),.v (.int .i64 0)]/\cV prog 134=some [.v (.int .i64 0),.v (.int .i64 0),.v (.int .i64 0),.v (.int .i64 0)]/\cV prog 139=some [.v (.int .i64 0),.v (.string ByteArray.empty)]/\qI prog 157=some [(0,3,1)]/\cV prog 157=some [.sl [],.v (.int .i64 0),.v (.int .i64 0)]/\cV prog 160=some [.v (.int .i64 0),.v (.int .i64 0),.v (.int .i64 0),.v (.int .i64 0),.v (.int .i64 0),.sl [],.sl []]/\qI prog 222=some [(0,9,1),(1,122,6),(2,124,14),(3,81,16),(4,101,2),(5,101,2),(10,3,1),(22,4,1),(23,126,2),(24,79,4)]/\cV prog 222=some [.sl [],.sl [],.sl [],.sl [],.sl [],.sl [],.v (.string ByteArray.empty),.v (.int .i64 0),.v (.int .i64 0),.v (.int .i64 0),.sl [],.v (.int .i64 0),.v (.int .i64 0),.v (.int .i64 0),.v (.int .i64 0),.v (.int .i64 0),.v (.int .i64 0),.v (.int .i64 0),.v (.int .i64 0),.v (.int .i64 0),.v (.int .i64 0),.v (.int .i64 0),.sl [],.sl [],.sl []]/\cV prog 226=some [.v (.int .i64 0),.v (.int .i64 0),.v (.bool false),.v (.int .i64 0),.sl [],.v (.int .i64 0),.v (.int .i64 0)]/\cV prog 239=some [.sl [],.sl [],.sl [],.sl [],.sl [],.sl [],.v (.int .i64 0),.v (.int .i64 0),.v (.int .i64 0),.v (.int .i64 0),.v (.int .i64 0),.v (.int .i64 0),.v (.int .i64 0),.v (.int .i64 0),.sl [],.sl [],.v (.bool false)]/\cV prog 255=some [.v (.bool false),.v (.string ByteArray.empty)]/\cV prog 282=some [.v (.int .i64 0),.v (.int .i64 0)]/\cV prog 291=some [.v (.string ByteArray.empty),.v (.string ByteArray.empty)]/\cV prog 303=some [.v (.int .i64 0),.v (.int .i64 0),.v (.int .i64 0),.v (.bool false)]/\cV prog 346=some [.v (.int .i64 0),.v (.int .i64 0),.v (.int .i64 0)]/\aG prog 5=true/\aG prog 6=true/\aG prog 8=true/\aG prog 9=true/\aG prog 10=true/\aG prog 11=true/\aG prog 12=true/\aG prog 13=true/\aG prog 14=true/\aG prog 15=true/\aG prog 16=true/\aG prog 17=true/\aG prog 18=true/\aG prog 19=true/\aG prog 20=true/\aG prog 21=true/\aG prog 22=true/\aG prog 23=true/\aG prog 24=true/\aG prog 25=true/\aG prog 26=true:=by and_intros<;>kernel_rfl
theorem agL:aG prog 28=true/\aG prog 31=true/\aG prog 32=true/\aG prog 33=true/\aG prog 34=true/\aG prog 35=true/\aG prog 36=true/\aG prog 37=true/\aG prog 38=true/\aG prog 39=true/\aG prog 40=true/\aG prog 41=true/\aG prog 42=true/\aG prog 43=true/\aG prog 44=true/\aG prog 45=true/\aG prog 46=true/\aG prog 47=true/\aG prog 48=true/\aG prog 49=true/\aG prog 50=true/\aG prog 51=true/\aG prog 52=true/\aG prog 53=true/\aG prog 54=true/\aG prog 55=true/\aG prog 56=true/\aG prog 57=true/\aG prog 58=true/\aG prog 59=true/\aG prog 60=true/\aG prog 61=true/\aG prog 62=true/\aG prog 63=true/\aG prog 64=true/\aG prog 65=true/\aG prog 66=true/\aG prog 67=true/\aG prog 68=true/\aG prog 69=true:=by and_intros<;>kernel_rfl
theorem afZ:aG prog 70=true/\aG prog 71=true/\aG prog 72=true/\aG prog 73=true/\aG prog 74=true/\aG prog 75=true/\aG prog 77=true/\aG prog 78=true/\aG prog 80=true/\aG prog 81=true/\aG prog 82=true/\aG prog 83=true/\aG prog 84=true/\aG prog 85=true/\aG prog 86=true/\aG prog 87=true/\aG prog 88=true/\aG prog 89=true/\aG prog 90=true/\aG prog 91=true/\aG prog 92=true/\aG prog 93=true/\aG prog 94=true/\aG prog 95=true/\aG prog 96=true/\aG prog 97=true/\aG prog 98=true/\aG prog 99=true/\aG prog 100=true/\aG prog 101=true/\aG prog 102=true/\aG prog 103=true/\aG prog 104=true/\aG prog 105=true/\aG prog 106=true/\aG prog 107=true/\aG prog 109=true/\aG prog 110=true/\aG prog 111=true/\aG prog 112=true:=by and_intros<;>kernel_rfl
theorem agS:aG prog 113=true/\aG prog 114=true/\aG prog 115=true/\aG prog 116=true/\aG prog 117=true/\aG prog 118=true/\aG prog 119=true/\aG prog 120=true/\aG prog 121=true/\aG prog 122=true/\aG prog 123=true/\aG prog 124=true/\aG prog 125=true/\aG prog 126=true/\aG prog 127=true/\aG prog 128=true/\aG prog 129=true/\aG prog 130=true/\aG prog 131=true/\aG prog 132=true/\aG prog 133=true/\aG prog 134=true/\aG prog 135=true/\aG prog 136=true/\aG prog 137=true/\aG prog 139=true/\aG prog 140=true/\aG prog 144=true/\aG prog 145=true/\aG prog 146=true/\aG prog 147=true/\aG prog 148=true/\aG prog 149=true/\aG prog 150=true/\aG prog 151=true/\aG prog 152=true/\aG prog 153=true/\aG prog 154=true/\aG prog 155=true/\aG prog 156=true:=by and_intros<;>kernel_rfl
theorem aiM:aG prog 157=true/\aG prog 158=true/\aG prog 159=true/\aG prog 160=true/\aG prog 161=true/\aG prog 162=true/\aG prog 163=true/\aG prog 164=true/\aG prog 165=true/\aG prog 166=true/\aG prog 167=true/\aG prog 168=true/\aG prog 169=true/\aG prog 171=true/\aG prog 172=true/\aG prog 173=true/\aG prog 174=true/\aG prog 175=true/\aG prog 176=true/\aG prog 177=true/\aG prog 178=true/\aG prog 179=true/\aG prog 180=true/\aG prog 181=true/\aG prog 182=true/\aG prog 183=true/\aG prog 184=true/\aG prog 185=true/\aG prog 186=true/\aG prog 188=true/\aG prog 189=true/\aG prog 190=true/\aG prog 191=true/\aG prog 193=true/\aG prog 194=true/\aG prog 195=true/\aG prog 197=true/\aG prog 198=true/\aG prog 199=true/\aG prog 200=true:=by and_intros<;>kernel_rfl
theorem ahN:aG prog 201=true/\aG prog 202=true/\aG prog 203=true/\aG prog 204=true/\aG prog 205=true/\aG prog 206=true/\aG prog 207=true/\aG prog 208=true/\aG prog 209=true/\aG prog 210=true/\aG prog 211=true/\aG prog 212=true/\aG prog 213=true/\aG prog 214=true/\aG prog 215=true/\aG prog 216=true/\aG prog 217=true/\aG prog 218=true/\aG prog 219=true/\aG prog 220=true/\aG prog 221=true/\aG prog 222=true/\aG prog 223=true/\aG prog 224=true/\aG prog 225=true/\aG prog 226=true/\aG prog 228=true/\aG prog 233=true/\aG prog 235=true/\aG prog 236=true/\aG prog 237=true/\aG prog 238=true/\aG prog 239=true/\aG prog 240=true/\aG prog 241=true/\aG prog 246=true/\aG prog 252=true/\aG prog 254=true/\aG prog 258=true/\aG prog 259=true:=by and_intros<;>kernel_rfl
theorem ahI:aG prog 260=true/\aG prog 261=true/\aG prog 273=true/\aG prog 274=true/\aG prog 275=true/\aG prog 279=true/\aG prog 280=true:=by and_intros<;>kernel_rfl
attribute [go_sem] akF agK aeN AG kk3 zv3 so3 so4 agF Zs YV afN tyJ0 akC ajN aiI afU agM afY ahV agL afZ agS aiM ahN ahI
end Go.Proofs.YtgncgpcpbadfnaaGreatDoor.Ty
end
section
namespace Go.Aw.D
open Go.Aw
def aQ(n:Int):List AV:=[.v (.int .i64 n)]
def eO(b:Bool):List AV:=[.v (.bool b)]
def dL(s:ByteArray):List AV:=[.v (.string s)]
def GZ(x:Int):(aQ x).length=1:=rfl
def Yl(x:Int):(aQ x).getD 0 .any=.v (.int .i64 x):=rfl
def LB(x:Bool):(eO x).length=1:=rfl
def U5(x:Bool):(eO x).getD 0 .any=.v (.bool x):=rfl
def Qe(x:ByteArray):(dL x).length=1:=rfl
def Zc(x:ByteArray):(dL x).getD 0 .any=.v (.string x):=rfl
structure Point where
 t:Int
 a:Int
 deriving DecidableEq
def bV(x:Point):List AV:=[.v (.int .i64 x.t),.v (.int .i64 x.a)]
def fZ(x:Point):(bV x).length=2:=rfl
def Qn(x:Point):(bV x).getD 0 .any=.v (.int .i64 x.t):=rfl
def QP(x:Point):(bV x).getD 1 .any=.v (.int .i64 x.a):=rfl
def Ck(x:Point):(bV x).take 2=bV x:=rfl
structure Arc where
 src:Int
 dst:Int
 profile:Int
 miles:Int
 travel:List Point
 slow:List Point
 deriving DecidableEq
def eA(x:Arc):List AV:=[.v (.int .i64 x.src),.v (.int .i64 x.dst),.v (.int .i64 x.profile),.v (.int .i64 x.miles),.sl (x.travel.map bV),.sl (x.slow.map bV)]
def iY(x:Arc):(eA x).length=6:=rfl
def XP(x:Arc):(eA x).getD 0 .any=.v (.int .i64 x.src):=rfl
def YI(x:Arc):(eA x).getD 1 .any=.v (.int .i64 x.dst):=rfl
def XZ(x:Arc):(eA x).getD 2 .any=.v (.int .i64 x.profile):=rfl
def X0(x:Arc):(eA x).getD 3 .any=.v (.int .i64 x.miles):=rfl
def XJ(x:Arc):(eA x).getD 4 .any=.sl (x.travel.map bV):=rfl
def W8(x:Arc):(eA x).getD 5 .any=.sl (x.slow.map bV):=rfl
def O1(x:Arc):(eA x).take 6=eA x:=rfl
structure Network where
 places:List ByteArray
 arcs:List Arc
 deriving DecidableEq
def aY(x:Network):List AV:=[.sl (x.places.map dL),.sl (x.arcs.map eA)]
def FT(x:Network):(aY x).length=2:=rfl
def Lz(x:Network):(aY x).getD 0 .any=.sl (x.places.map dL):=rfl
def KJ(x:Network):(aY x).getD 1 .any=.sl (x.arcs.map eA):=rfl
def FW(x:Network):(aY x).take 2=aY x:=rfl
structure VType where
 name:ByteArray
 count:Int
 src:Int
 dst:Int
 cap:List Int
 skills:Int
 profile:Int
 start:Int
 close:Int
 drive:Int
 rest:Int
 fixed:Int
 perMile:Int
 perTick:Int
 deriving DecidableEq
def aZ(x:VType):List AV:=[.v (.string x.name),.v (.int .i64 x.count),.v (.int .i64 x.src),.v (.int .i64 x.dst),.sl (x.cap.map aQ),.v (.int .i64 x.skills),.v (.int .i64 x.profile),.v (.int .i64 x.start),.v (.int .i64 x.close),.v (.int .i64 x.drive),.v (.int .i64 x.rest),.v (.int .i64 x.fixed),.v (.int .i64 x.perMile),.v (.int .i64 x.perTick)]
def jY(x:VType):(aZ x).length=14:=rfl
def QJ(x:VType):(aZ x).getD 0 .any=.v (.string x.name):=rfl
def Qh(x:VType):(aZ x).getD 1 .any=.v (.int .i64 x.count):=rfl
def Pe(x:VType):(aZ x).getD 2 .any=.v (.int .i64 x.src):=rfl
def Pb(x:VType):(aZ x).getD 3 .any=.v (.int .i64 x.dst):=rfl
def Qr(x:VType):(aZ x).getD 4 .any=.sl (x.cap.map aQ):=rfl
def PY(x:VType):(aZ x).getD 5 .any=.v (.int .i64 x.skills):=rfl
def Rb(x:VType):(aZ x).getD 6 .any=.v (.int .i64 x.profile):=rfl
def RF(x:VType):(aZ x).getD 7 .any=.v (.int .i64 x.start):=rfl
def P3(x:VType):(aZ x).getD 8 .any=.v (.int .i64 x.close):=rfl
def Pg(x:VType):(aZ x).getD 9 .any=.v (.int .i64 x.drive):=rfl
def MZ(x:VType):(aZ x).getD 10 .any=.v (.int .i64 x.rest):=rfl
def NV(x:VType):(aZ x).getD 11 .any=.v (.int .i64 x.fixed):=rfl
def MS(x:VType):(aZ x).getD 12 .any=.v (.int .i64 x.perMile):=rfl
def N5(x:VType):(aZ x).getD 13 .any=.v (.int .i64 x.perTick):=rfl
def Lu(x:VType):(aZ x).take 14=aZ x:=rfl
structure Stop where
 place:Int
 start:Int
 close:Int
 service:Int
 deriving DecidableEq
def dQ(x:Stop):List AV:=[.v (.int .i64 x.place),.v (.int .i64 x.start),.v (.int .i64 x.close),.v (.int .i64 x.service)]
def lM(x:Stop):(dQ x).length=4:=rfl
def Vu(x:Stop):(dQ x).getD 0 .any=.v (.int .i64 x.place):=rfl
def UI(x:Stop):(dQ x).getD 1 .any=.v (.int .i64 x.start):=rfl
def Vc(x:Stop):(dQ x).getD 2 .any=.v (.int .i64 x.close):=rfl
def Va(x:Stop):(dQ x).getD 3 .any=.v (.int .i64 x.service):=rfl
def Ok(x:Stop):(dQ x).take 4=dQ x:=rfl
structure Order where
 name:ByteArray
 load:List Int
 pick:Stop
 drop:Stop
 skills:Int
 penalty:Int
 split:Int
 last:Int
 now:Int
 off:Bool
 deriving DecidableEq
def aW(x:Order):List AV:=[.v (.string x.name),.sl (x.load.map aQ),.v (.int .i64 x.pick.place),.v (.int .i64 x.pick.start),.v (.int .i64 x.pick.close),.v (.int .i64 x.pick.service),.v (.int .i64 x.drop.place),.v (.int .i64 x.drop.start),.v (.int .i64 x.drop.close),.v (.int .i64 x.drop.service),.v (.int .i64 x.skills),.v (.int .i64 x.penalty),.v (.int .i64 x.split),.v (.int .i64 x.last),.v (.int .i64 x.now),.v (.bool x.off)]
def kF(x:Order):(aW x).length=16:=rfl
def PA(x:Order):(aW x).getD 0 .any=.v (.string x.name):=rfl
def Pw(x:Order):(aW x).getD 1 .any=.sl (x.load.map aQ):=rfl
def Pf(x:Order):(aW x).getD 2 .any=.v (.int .i64 x.pick.place):=rfl
def O0(x:Order):(aW x).getD 3 .any=.v (.int .i64 x.pick.start):=rfl
def Sd(x:Order):(aW x).getD 4 .any=.v (.int .i64 x.pick.close):=rfl
def Ss(x:Order):(aW x).getD 5 .any=.v (.int .i64 x.pick.service):=rfl
def Pn(x:Order):(aW x).getD 6 .any=.v (.int .i64 x.drop.place):=rfl
def Rl(x:Order):(aW x).getD 7 .any=.v (.int .i64 x.drop.start):=rfl
def RE(x:Order):(aW x).getD 8 .any=.v (.int .i64 x.drop.close):=rfl
def QW(x:Order):(aW x).getD 9 .any=.v (.int .i64 x.drop.service):=rfl
def Oc(x:Order):(aW x).getD 10 .any=.v (.int .i64 x.skills):=rfl
def LH(x:Order):(aW x).getD 11 .any=.v (.int .i64 x.penalty):=rfl
def Nk(x:Order):(aW x).getD 12 .any=.v (.int .i64 x.split):=rfl
def MU(x:Order):(aW x).getD 13 .any=.v (.int .i64 x.last):=rfl
def My(x:Order):(aW x).getD 14 .any=.v (.int .i64 x.now):=rfl
def N6(x:Order):(aW x).getD 15 .any=.v (.bool x.off):=rfl
def Km(x:Order):(aW x).take 16=aW x:=rfl
def HD(x:Order):((aW x).drop 2).take 4=dQ x.pick:=rfl
def Hw(x:Order):((aW x).drop 6).take 4=dQ x.drop:=rfl
structure Pair where
 a:Int
 b:Int
 deriving DecidableEq
def cN(x:Pair):List AV:=[.v (.int .i64 x.a),.v (.int .i64 x.b)]
def lI(x:Pair):(cN x).length=2:=rfl
def V9(x:Pair):(cN x).getD 0 .any=.v (.int .i64 x.a):=rfl
def Vn(x:Pair):(cN x).getD 1 .any=.v (.int .i64 x.b):=rfl
def LP(x:Pair):(cN x).take 2=cN x:=rfl
structure Instance where
 net:Network
 types:List VType
 orders:List Order
 apart:List Pair
 before:List Pair
 deriving DecidableEq
def aE(x:Instance):List AV:=[.sl (x.net.places.map dL),.sl (x.net.arcs.map eA),.sl (x.types.map aZ),.sl (x.orders.map aW),.sl (x.apart.map cN),.sl (x.before.map cN)]
def EM(x:Instance):(aE x).length=6:=rfl
def Ib(x:Instance):(aE x).getD 0 .any=.sl (x.net.places.map dL):=rfl
def H6(x:Instance):(aE x).getD 1 .any=.sl (x.net.arcs.map eA):=rfl
def HZ(x:Instance):(aE x).getD 2 .any=.sl (x.types.map aZ):=rfl
def H9(x:Instance):(aE x).getD 3 .any=.sl (x.orders.map aW):=rfl
def HY(x:Instance):(aE x).getD 4 .any=.sl (x.apart.map cN):=rfl
def H4(x:Instance):(aE x).getD 5 .any=.sl (x.before.map cN):=rfl
def ED(x:Instance):(aE x).take 6=aE x:=rfl
def EF(x:Instance):(aE x).take 2=aY x.net:=rfl
structure Visit where
 order:Int
 drop:Bool
 deriving DecidableEq
def aL(x:Visit):List AV:=[.v (.int .i64 x.order),.v (.bool x.drop)]
def cX(x:Visit):(aL x).length=2:=rfl
def PX(x:Visit):(aL x).getD 0 .any=.v (.int .i64 x.order):=rfl
def RU(x:Visit):(aL x).getD 1 .any=.v (.bool x.drop):=rfl
def Kt(x:Visit):(aL x).take 2=aL x:=rfl
structure Route where
 type:Int
 start:Int
 rests:List Bool
 visits:List Visit
 deriving DecidableEq
def bI(x:Route):List AV:=[.v (.int .i64 x.type),.v (.int .i64 x.start),.sl (x.rests.map eO),.sl (x.visits.map aL)]
def gU(x:Route):(bI x).length=4:=rfl
def Qd(x:Route):(bI x).getD 0 .any=.v (.int .i64 x.type):=rfl
def QK(x:Route):(bI x).getD 1 .any=.v (.int .i64 x.start):=rfl
def RO(x:Route):(bI x).getD 2 .any=.sl (x.rests.map eO):=rfl
def QE(x:Route):(bI x).getD 3 .any=.sl (x.visits.map aL):=rfl
def Kv(x:Route):(bI x).take 4=bI x:=rfl
structure Plan where
 routes:List Route
 unserved:List Int
 deriving DecidableEq
def gA(x:Plan):List AV:=[.sl (x.routes.map bI),.sl (x.unserved.map aQ)]
def MF(x:Plan):(gA x).length=2:=rfl
def VM(x:Plan):(gA x).getD 0 .any=.sl (x.routes.map bI):=rfl
def Uy(x:Plan):(gA x).getD 1 .any=.sl (x.unserved.map aQ):=rfl
def LD(x:Plan):(gA x).take 2=gA x:=rfl
structure Fault where
 err:Int
 at_:ByteArray
 deriving DecidableEq
def fO(x:Fault):List AV:=[.v (.int .i64 x.err),.v (.string x.at_)]
def K3(x:Fault):(fO x).length=2:=rfl
def QT(x:Fault):(fO x).getD 0 .any=.v (.int .i64 x.err):=rfl
def RT(x:Fault):(fO x).getD 1 .any=.v (.string x.at_):=rfl
def Li(x:Fault):(fO x).take 2=fO x:=rfl
structure Decision where
 kind:Int
 a:Int
 b:Int
 n:Int
 deriving DecidableEq
def aO(x:Decision):List AV:=[.v (.int .i64 x.kind),.v (.int .i64 x.a),.v (.int .i64 x.b),.v (.int .i64 x.n)]
def gK(x:Decision):(aO x).length=4:=rfl
def Ho(x:Decision):(aO x).getD 0 .any=.v (.int .i64 x.kind):=rfl
def HF(x:Decision):(aO x).getD 1 .any=.v (.int .i64 x.a):=rfl
def Hy(x:Decision):(aO x).getD 2 .any=.v (.int .i64 x.b):=rfl
def HI(x:Decision):(aO x).getD 3 .any=.v (.int .i64 x.n):=rfl
def EN(x:Decision):(aO x).take 4=aO x:=rfl
structure Column where
 type:Int
 set:Int
 price:Int
 route:Route
 deriving DecidableEq
def bH(x:Column):List AV:=[.v (.int .i64 x.type),.v (.int .i64 x.set),.v (.int .i64 x.price),.v (.int .i64 x.route.type),.v (.int .i64 x.route.start),.sl (x.route.rests.map eO),.sl (x.route.visits.map aL)]
def eH(x:Column):(bH x).length=7:=rfl
def OJ(x:Column):(bH x).getD 0 .any=.v (.int .i64 x.type):=rfl
def M7(x:Column):(bH x).getD 1 .any=.v (.int .i64 x.set):=rfl
def L5(x:Column):(bH x).getD 2 .any=.v (.int .i64 x.price):=rfl
def OE(x:Column):(bH x).getD 3 .any=.v (.int .i64 x.route.type):=rfl
def MI(x:Column):(bH x).getD 4 .any=.v (.int .i64 x.route.start):=rfl
def M9(x:Column):(bH x).getD 5 .any=.sl (x.route.rests.map eO):=rfl
def Mm(x:Column):(bH x).getD 6 .any=.sl (x.route.visits.map aL):=rfl
def HW(x:Column):(bH x).take 7=bH x:=rfl
def EG(x:Column):((bH x).drop 3).take 4=bI x.route:=rfl
structure Score where
 cost:Int
 moved:Int
 other:Int
 work:Int
 deriving DecidableEq
def bD(x:Score):List AV:=[.v (.int .i64 x.cost),.v (.int .i64 x.moved),.v (.int .i64 x.other),.v (.int .i64 x.work)]
def cC(x:Score):(bD x).length=4:=rfl
def wF(x:Score):(bD x).getD 0 .any=.v (.int .i64 x.cost):=rfl
def vV(x:Score):(bD x).getD 1 .any=.v (.int .i64 x.moved):=rfl
def vZ(x:Score):(bD x).getD 2 .any=.v (.int .i64 x.other):=rfl
def xG(x:Score):(bD x).getD 3 .any=.v (.int .i64 x.work):=rfl
def qL(x:Score):(bD x).take 4=bD x:=rfl
structure Cut where
 kind:Int
 set:Int
 n:Int
 deriving DecidableEq
def eP(x:Cut):List AV:=[.v (.int .i64 x.kind),.v (.int .i64 x.set),.v (.int .i64 x.n)]
def sK(x:Cut):(eP x).length=3:=rfl
def aaA(x:Cut):(eP x).getD 0 .any=.v (.int .i64 x.kind):=rfl
def WC(x:Cut):(eP x).getD 1 .any=.v (.int .i64 x.set):=rfl
def YD(x:Cut):(eP x).getD 2 .any=.v (.int .i64 x.n):=rfl
def QM(x:Cut):(eP x).take 3=eP x:=rfl
structure TimeT where
 arrive:Int
 start:Int
 depart:Int
 rest:Bool
 deriving DecidableEq
def Oi(x:TimeT):List AV:=[.v (.int .i64 x.arrive),.v (.int .i64 x.start),.v (.int .i64 x.depart),.v (.bool x.rest)]
structure PRow where
 coef:List Int
 kind:Int
 right:Int
 deriving DecidableEq
def jU(x:PRow):List AV:=[.sl (x.coef.map aQ),.v (.int .i64 x.kind),.v (.int .i64 x.right)]
def sV(x:PRow):(jU x).length=3:=rfl
def Um(x:PRow):(jU x).getD 0 .any=.sl (x.coef.map aQ):=rfl
def VC(x:PRow):(jU x).getD 1 .any=.v (.int .i64 x.kind):=rfl
def Vp(x:PRow):(jU x).getD 2 .any=.v (.int .i64 x.right):=rfl
def L4(x:PRow):(jU x).take 3=jU x:=rfl
structure PLin where
 cost:List Int
 rows:List PRow
 deriving DecidableEq
def iG(x:PLin):List AV:=[.sl (x.cost.map aQ),.sl (x.rows.map jU)]
def zC(x:PLin):(iG x).length=2:=rfl
def Uq(x:PLin):(iG x).getD 0 .any=.sl (x.cost.map aQ):=rfl
def Vh(x:PLin):(iG x).getD 1 .any=.sl (x.rows.map jU):=rfl
def LV(x:PLin):(iG x).take 2=iG x:=rfl
structure TNode where
 leaf:Bool
 kind:Int
 cuts:List Cut
 dual:List ByteArray
 choice:Decision
 yes:Int
 no:Int
 deriving DecidableEq
def bO(x:TNode):List AV:=[.v (.bool x.leaf),.v (.int .i64 x.kind),.sl (x.cuts.map eP),.sl (x.dual.map dL),.v (.int .i64 x.choice.kind),.v (.int .i64 x.choice.a),.v (.int .i64 x.choice.b),.v (.int .i64 x.choice.n),.v (.int .i64 x.yes),.v (.int .i64 x.no)]
def gT(x:TNode):(bO x).length=10:=rfl
def RD(x:TNode):(bO x).getD 0 .any=.v (.bool x.leaf):=rfl
def Pq(x:TNode):(bO x).getD 1 .any=.v (.int .i64 x.kind):=rfl
def PJ(x:TNode):(bO x).getD 2 .any=.sl (x.cuts.map eP):=rfl
def RJ(x:TNode):(bO x).getD 3 .any=.sl (x.dual.map dL):=rfl
def Se(x:TNode):(bO x).getD 4 .any=.v (.int .i64 x.choice.kind):=rfl
def Pa(x:TNode):(bO x).getD 5 .any=.v (.int .i64 x.choice.a):=rfl
def Pz(x:TNode):(bO x).getD 6 .any=.v (.int .i64 x.choice.b):=rfl
def Q4(x:TNode):(bO x).getD 7 .any=.v (.int .i64 x.choice.n):=rfl
def Pm(x:TNode):(bO x).getD 8 .any=.v (.int .i64 x.yes):=rfl
def RA(x:TNode):(bO x).getD 9 .any=.v (.int .i64 x.no):=rfl
def Ly(x:TNode):(bO x).take 10=bO x:=rfl
def EC(x:TNode):((bO x).drop 4).take 4=aO x.choice:=rfl
structure Proof where
 noPlan:Bool
 plan:Plan
 nodes:List TNode
 deriving DecidableEq
def dI(x:Proof):List AV:=[.v (.bool x.noPlan),.sl (x.plan.routes.map bI),.sl (x.plan.unserved.map aQ),.sl (x.nodes.map bO)]
def Ca(x:Proof):(dI x).length=4:=rfl
def Qs(x:Proof):(dI x).getD 0 .any=.v (.bool x.noPlan):=rfl
def Qc(x:Proof):(dI x).getD 1 .any=.sl (x.plan.routes.map bI):=rfl
def Sa(x:Proof):(dI x).getD 2 .any=.sl (x.plan.unserved.map aQ):=rfl
def QD(x:Proof):(dI x).getD 3 .any=.sl (x.nodes.map bO):=rfl
def Kl(x:Proof):(dI x).take 4=dI x:=rfl
def Hu(x:Proof):((dI x).drop 1).take 2=gA x.plan:=rfl
structure Ask3 where
 x:Instance
 cuts:List Cut
 d:List Decision
 dual:List ByteArray
 deriving DecidableEq
structure Sheet where
 rest:Bool
 depart:Int
 times:List TimeT
 stop:Int
 miles:Int
 deriving DecidableEq
def bY(x:Sheet):List AV:=[.v (.bool x.rest),.v (.int .i64 x.depart),.sl (x.times.map Oi),.v (.int .i64 x.stop),.v (.int .i64 x.miles)]
def eK(x:Sheet):(bY x).length=5:=rfl
def Re(x:Sheet):(bY x).getD 0 .any=.v (.bool x.rest):=rfl
def QL(x:Sheet):(bY x).getD 1 .any=.v (.int .i64 x.depart):=rfl
def QS(x:Sheet):(bY x).getD 2 .any=.sl (x.times.map Oi):=rfl
def BA(x:Sheet):(bY x).getD 3 .any=.v (.int .i64 x.stop):=rfl
def Ba(x:Sheet):(bY x).getD 4 .any=.v (.int .i64 x.miles):=rfl
def vW(x:Sheet):(bY x).take 5=bY x:=rfl
attribute [go_sem] GZ Yl LB U5 Qe Zc fZ Qn QP Ck iY XP YI XZ X0 XJ W8 O1 FT Lz KJ FW jY QJ Qh Pe Pb Qr PY Rb RF P3 Pg MZ NV MS N5 Lu lM Vu UI Vc Va Ok kF PA Pw Pf O0 Sd Ss Pn Rl RE QW Oc LH Nk MU My N6 Km HD Hw lI V9 Vn LP EM Ib H6 HZ H9 HY H4 ED EF cX PX RU Kt gU Qd QK RO QE Kv MF VM Uy LD K3 QT RT Li gK Ho HF Hy HI EN eH OJ M7 L5 OE MI M9 Mm HW EG cC wF vV vZ xG qL sK aaA WC YD QM sV Um VC Vp L4 zC Uq Vh LV gT RD Pq PJ RJ Se Pa Pz Q4 Pm RA Ly EC Ca Qs Qc Sa QD Kl Hu eK Re QL QS BA Ba vW
def aC{α:Type}{f:α->List AV}{l:List α}{k:Nat}{x:α}(h:l[k]?=some x):(l.map f).getD k []=f x:=by simp[List.getD,h]
def TR{α:Type}(f:α->List AV)(l:List α):(l.map f).length=l.length:=List.length_map f
def IQ(n:Nat):((n:Int)).toNat=n:=Int.toNat_natCast n
attribute [go_sem] TR IQ
def bG{n:Int}(h: -9223372036854775808<=n/\n<=9223372036854775807):IntKind.i64.wrap n=n:=IntWalk.i64_in n h
end Go.Aw.D
end
