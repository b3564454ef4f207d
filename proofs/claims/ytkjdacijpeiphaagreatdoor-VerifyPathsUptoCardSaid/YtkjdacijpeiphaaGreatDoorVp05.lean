import Derived.StillTail
import Derived.Deep.Quiet
import Derived.Scope
import Derived.Test.YtkjdacijpeiphaaGreatDoorChecked
import Derived.KernelRfl
import Derived.Test.YtkjdacijpeiphaaGreatDoorVp04
set_option linter.unusedSimpArgs false
set_option linter.unusedVariables false
set_option linter.defProp false
set_option maxRecDepth 100000
section
namespace Go.Aw
open Go.RowKit
section
variable{P:Program}{ops:Array Oper}{md:Region.Mode}{C:World->Prop}{R:World->World->Prop}{Q':Exit->Act->World->Prop}
def If(P:Program)(K:Value->World->Prop):Result Next->Prop
 | .ok (.value v) w'=>K v w'
 | .ok .skip w'=>K undef w'
 | .ok (.enter f args) w'=>Calls P f args w' fun e w''=>∃v,e=.returned v/\K v w''
 | .ok (.row row args) w'=>Rows P row args w' K
 | _=>False
def gAt(P:Program)(o:Oper)(a:Act)(w:World)(K:Value->World->Prop):Prop:=If P K ((execOp a.eval o).run P w)
def gOp(P:Program)(ops:Array Oper)(i:Nat)(K:Act->World->Prop)(a:Act)(w:World):Prop:=
 match ops[i]? with
 | none=>False
 | some o=>if Region.wanted o (yielded ops a.tmps)=true then gAt P o a w (fun v w'=>K (a.put o.dst v) w')else K (a.put o.dst undef) w
def oP{K K':Value->World->Prop}(h:∀v w,K v w->K' v w){r:Result Next}(A:If P K r):If P K' r:=by
 cases r with
 | ok n w'=>
  cases n <;> simp only[If]at A |-
  case value u=>exact h _ _ A
  case skip=>exact h _ _ A
  case enter f args=>exact A.mono fun e F ⟨v,I,E⟩=>⟨v,I,h _ _ E⟩
  case row row args=>exact A.mono h
 | halt x w'=>simp only[If]at A
def EJ{i:Nat}{a:Act}{w:World}{K K':Act->World->Prop}(h:∀a w,K a w->K' a w)(A:gOp P ops i K a w):gOp P ops i K' a w:=by
 unfold gOp at *;split
 ·rename_i E;simp only[E]at A
 ·rename_i o E;simp only[E]at A;split
  ·rename_i F;rw[if_pos F]at A;exact oP (fun v w' I=>h _ _ I) A
  ·rename_i F;rw[if_neg F]at A;exact h _ _ A
def RX{o:Oper}{a:Act}{w:World}{K:Act->World->Prop}(h:gAt P o a w (fun v w'=>K (a.put o.dst v) w')):o.wp P a w K Q':=by
 unfold Oper.wp;unfold gAt at h;generalize (execOp a.eval o).run P w=r at *;cases r with
 | ok n w'=>
  cases n <;> simp only[If]at h <;> simp only[Oper.upon]
  case value u=>exact h
  case skip=>exact h
  case enter f args=>exact h.mono fun e E ⟨v,F,A⟩=>by subst F;exact A
  case row row args=>exact h
 | halt x w'=>simp only[If]at h
def J5{i:Nat}{a:Act}{w:World}{K:Act->World->Prop}(h:gOp P ops i K a w):wpOp P ops Q' i K a w:=by
 unfold gOp at h;unfold wpOp;split
 ·rename_i A;simp only[A]at h
 ·rename_i o A;simp only[A]at h;split
  ·rename_i E;rw[if_pos E]at h;exact .inl (RX h)
  ·rename_i E;rw[if_neg E]at h;exact h
def Ix{o:Oper}{a:Act}{w:World}{v:Value}{D:World->Prop}(F:D w)(h:o.quietAt P a D w v):gAt P o a w (fun u w'=>u=v/\D w'):=by
 unfold Oper.quietAt at h;unfold gAt;generalize (execOp a.eval o).run P w=r at *;cases r with
 | ok n w'=>
  cases n <;> simp only[Oper.quietUpon]at h <;> simp only[If]
  case value u=>obtain⟨A,E⟩:=h;rw[A];exact⟨E,F⟩
  case skip=>obtain⟨A,E⟩:=h;rw[A];exact⟨E.symm,F⟩
  case enter f args=>obtain⟨A,I⟩:=h;rw[A];exact I.mono fun e J ⟨M,O⟩=>⟨v,M,rfl,O⟩
 | halt x w'=>simp only[Oper.quietUpon]at h
def iH(P:Program)(md:Region.Mode)(ops:Array Oper)(C:World->Prop)(R:World->World->Prop)(Q':Exit->Act->World->Prop):Nat->Array Bool->Act->World->Prop
 | 0,listed,a,w=>Region.ready md ops listed=[]/\Q' .normal a w
 | f+1,listed,a,w=>Region.ready md ops listed≠[] /\
   ∀i∈Region.ready md ops listed,gOp P ops i (fun a' w'=>C w'/\∀w2,R w' w2->iH P md ops C R Q' f (listed.setIfInBounds i true) a' w2) a w
def sY(A:∀w,R w w):∀(f:Nat) (listed:Array Bool) (a:Act) (w:World),iH P md ops C R Q' f listed a w->wpAny P md ops Q' f listed a w
 | 0,_,_,_,h=>h
 | f+1,_,_,_,h=>⟨fun h0=>absurd h0 h.1,fun i E=>J5 (EJ (fun I w' F=>sY A f _ _ _ (F.2 w' (A w'))) (h.2 i E))⟩
def YQ(P:Program)(ops:Array Oper)(C:World->Prop)(R:World->World->Prop)(o:Oper)(v:Value)(a:Act):Prop:=
 (Region.wanted o (yielded ops a.tmps)=true/\∀w,C w->o.quietAt P a (R w) w v)\/(Region.wanted o (yielded ops a.tmps)=false/\v=undef)
def YQ.of_same{o:Oper}{v:Value}{a A:Act}(E:YQ P ops C R o v a)(F:execOp A.eval o=execOp a.eval o)
  (I:Region.wanted o (yielded ops A.tmps)=Region.wanted o (yielded ops a.tmps)):YQ P ops C R o v A:=by
 unfold YQ Oper.quietAt at *;rw[F,I];exact E
def Xd{j:Nat}{A E:Oper}{v:Value}(X:ops[j]?=some E)(J:A.apart ops E=true)
  (F:∀cs b,A.op≠.select cs b) (I:∀cs b,E.op≠.select cs b) {K:Act->World->Prop} {a:Act} {w:World}
  (Y:YQ P ops C R A v a) (h:gOp P ops j K (a.put A.dst v) w):
  gOp P ops j (fun T w'=>YQ P ops C R A v T/\K (T.put A.dst v) w') a w:=by
 obtain⟨h1,O,U⟩:=Oper.apart_spec J;have keep:∀u,YQ P ops C R A v (a.put E.dst u):=fun u=>Y.of_same (execOp_put A F a E.dst u U) (wanted_put A a E.dst u U)
 unfold gOp at *;simp only[X]at *;rw[wanted_put E a A.dst v h1]at h;split
 ·rename_i M;rw[if_pos M]at h;unfold gAt at *;rw[execOp_put E I a A.dst v h1]at h;exact oP (fun u w' Z=>⟨keep u,by rw[<-Act.put_comm a v u O];exact Z⟩) h
 ·rename_i M;rw[if_neg M]at h;exact⟨keep _,by rw[<-Act.put_comm a v undef O];exact h⟩
def Hd{i:Nat}{A:Oper}{v:Value}{a:Act}{w:World}(O:ops[i]?=some A)(T:C w)(F:∀w,R w w)(J:YQ P ops C R A v a){K:Act->World->Prop}(h:∀w',R w w'->K (a.put A.dst v) w'):
  gOp P ops i K a w:=by
 unfold gOp;simp only[O];rcases J with⟨E,M⟩|⟨E,rfl⟩
 ·rw[if_pos E];exact oP (fun u w' ⟨e,I⟩=>by subst e;exact h w' I) (Ix (F w) (M w T))
 ·rw[if_neg (by simp[E])];exact h w (F w)
def jX{i:Nat}{oi:Oper}{v:Value}(hi:ops[i]?=some oi)(T:∀(j:Nat) (o:Oper) cs b,ops[j]?=some o->o.op≠.select cs b)
   (hR:∀w,R w w) (hT:∀w w' ae,R w w'->R w' ae->R w ae) (X:∀w w',C w->R w w'->C w'):
   ∀(f:Nat) (A:Array Bool) (a:Act) (w:World),C w ->
     (∀j oj,ops[j]?=some oj->j≠i->A.getD j true=false->(∀e∈oj.after,Region.binds md e=true->e.on≠i)->oi.apart ops oj=true) ->
     i∈Region.ready md ops A->YQ P ops C R oi v a ->
     (∀U,R w U->iH P md ops C R Q' f (A.setIfInBounds i true) (a.put oi.dst v) U)->iH P md ops C R Q' (f+1) A a w:=by
 intro f;induction f with
 | zero=>
   intro A a w hC _ Y hy H;refine⟨fun h=>(by rw[h]at Y;cases Y),fun j hj=>?_⟩;by_cases E:j=i
   . subst E;exact Hd hi hC hR hy fun w' I=>⟨X _ _ hC I,fun U O=>H U (hT _ _ _ I O)⟩
   . have:=ready_mono hj E;rw[(H w (hR w)).1]at this;cases this
 | succ f ih=>
   intro A a w hC F Y hy H;refine⟨fun h=>(by rw[h]at Y;cases Y),fun j hj=>?_⟩;by_cases E:j=i
   . subst E;exact Hd hi hC hR hy fun w' I=>⟨X _ _ hC I,fun U O=>H U (hT _ _ _ I O)⟩
   . have h1:=(H w (hR w)).2 j (ready_mono hj E);obtain⟨M,oj,Z,ab⟩:=mem_ready.1 hj;have ag:∀e∈oj.after,Region.binds md e=true->e.on≠i:=fun e he hb ai=>by
       have h1:=ab e he hb;have h0:=(mem_ready.1 Y).1;rw[ai]at h1;rcases Nat.lt_or_ge i A.size with h'|h'
       . simp[h']at h0 h1;rw[h0]at h1;cases h1
       . simp[Array.getElem?_eq_none h']at h1
     have O:=Xd Z (F j oj Z E M ag) (fun cs b=>T i oi cs b hi) (fun cs b=>T j oj cs b Z) hy h1;have J : ∀ k ok, ops[k]? = some ok -> k ≠ i -> (A.setIfInBounds j true).getD k true = false ->
         (∀e∈ok.after,Region.binds md e=true->e.on≠i)->oi.apart ops ok=true:=fun k ok hk aj aa ak=>by
       refine F k ok hk aj ?_ ak;by_cases ac:j=k
       . subst ac;exact M
       . rw[getD_set_ne true ac]at aa;exact aa
     refine EJ (fun a' w' ⟨ah,af,hk⟩=>⟨af,fun U O=>ih (A.setIfInBounds j true) a' U (X _ _ af O) J (ready_mono Y (Ne.symm E)) ah fun w3 h3=>?_⟩) O;rw[Array.setIfInBounds_comm _ _ E];exact hk w3 (hT _ _ _ O h3)
end
def Rw(w w':World):Prop:=w'.os=w.os/\w'.tape=w.tape/\w'.output=w.output/\w.heap.size<=w'.heap.size/\∀k,k<w.heap.size->w'.heap[k]?=w.heap[k]?
def Rw.refl(w:World):Rw w w:=⟨rfl,rfl,rfl,Nat.le_refl _,fun _ _=>rfl⟩
def Rw.trans{w w' A:World}(h:Rw w w')(E:Rw w' A):Rw w A:=
 ⟨E.1.trans h.1,E.2.1.trans h.2.1,E.2.2.1.trans h.2.2.1,Nat.le_trans h.2.2.2.1 E.2.2.2.1,fun k F=>(E.2.2.2.2 k (Nat.lt_of_lt_of_le F h.2.2.2.1)).trans (h.2.2.2.2 k F)⟩
def Cb(S:Sg)(wb w:World):Prop:=w.os=wb.os/\w.tape=wb.tape/\w.output=wb.output/\wb.heap.size<=w.heap.size/\∀k,S.fz k->w.heap[k]?=wb.heap[k]?
def Cb.rw{S:Sg}{wb w w':World}{H:aG}(F:St S wb H)(h:Cb S wb w)(A:Rw w w'):Cb S wb w':=
 ⟨A.1.trans h.1,A.2.1.trans h.2.1,A.2.2.1.trans h.2.2.1,Nat.le_trans h.2.2.2.1 A.2.2.2.1,fun k E=>(A.2.2.2.2 k (Nat.lt_of_lt_of_le (F.fz_lt k E) h.2.2.2.1)).trans (h.2.2.2.2 k E)⟩
def Rw.cb{S:Sg}{wb w:World}{H:aG}(E:St S wb H)(h:Rw wb w):Cb S wb w:=⟨h.1,h.2.1,h.2.2.1,h.2.2.2.1,fun k A=>h.2.2.2.2 k (E.fz_lt k A)⟩
def Cb.st{S:Sg}{wb w:World}{H:aG}(E:St S wb H)(h:Cb S wb w):St S w bG:=
 ⟨E.ro_fz,fun k A=>Nat.lt_of_lt_of_le (E.fz_lt k A) h.2.2.2.1,fun k r A=>by simp[bG]at A,fun k r A=>by simp[bG]at A,fun k k' r r' A=>by simp[bG]at A,E.tabs.keep S.le_refl (fun k A=>h.2.2.2.2 k (E.ro_fz k A))⟩
def Cb.kept{S:Sg}{wb w:World}{H:aG}(E:St S wb H)(h:Cb S wb w):eQ S wb w:=fun k A=>h.2.2.2.2 k (E.ro_fz k A)
def Cb.agree{S:Sg}{wb w:World}{H:aG}(E:St S wb H)(h:Cb S wb w):Agree S bG wb w:=⟨h.kept E,fun k r A=>by simp[bG]at A⟩
def Grow.cb{S S':Sg}{wb w:World}(h:Grow S wb S' w):Cb S wb w:=⟨h.os,h.tape,h.output,h.size,h.same⟩
section
variable{P:Program}{n:Nat}{S0:Sg}{w0:World}{H0:aG}{mt:Nat->Bool}{ops:Array Oper}{K:Env->aG->Prop}{ρ:Env}{H:aG}{a:Act}{w:World}
def Rel.rw{w':World}(h:Rel n S0 w0 H0 ρ H a w)(A:Rw w w'):Rel n S0 w0 H0 ρ H a w':=by obtain⟨S,E,I,O,J,M,T⟩:=h;have F:=E.grow A.1 A.2.1 A.2.2.1 A.2.2.2.1 A.2.2.2.2;exact⟨S,E.after A.2.2.2.1 A.2.2.2.2,I.keep S.le_refl (F.kept E),O.trans F,J,M,T⟩
def BV{o:Oper}{K':Act->World->Prop}(F:∀a w,K' a w->a.defers=[])(h:o.wp P a w K' fun _ _ _=>False):gAt P o a w fun v w'=>K' (a.put o.dst v) w':=by
 unfold Oper.wp at h;unfold gAt;generalize (execOp a.eval o).run P w=r at *;cases r with
 | ok m w'=>
  cases m <;> simp only[Oper.upon]at h <;> simp only[If]
  case value u=>exact h
  case skip=>exact h
  case enter f args=>
   refine h.mono fun e E A=>?_
   cases e
   case returned v=>exact⟨v,rfl,A⟩
   case panicked c=>exact A.elim
   case outgrown=>obtain⟨_,_,h⟩:=A;exact h.elim
  case defer d=>have:=F _ _ h;rw[mN]at this;simp at this
  case row row args=>exact h
 | halt x w'=>cases x <;> simp only[Oper.upon]at h
variable{S:Sg}
def tO{o:Oper}{w1:World}{CC:World->Prop}(F:∀w,CC w->St S w H/\Agree S H w1 w)(U:St S w1 H)(I:FR S w1 ρ a)(T:a.tmps.size=n)(Y:∀x∈o.op.operands,opB n x=true){G:Option Bool}
  (A:Region.wanted o (yielded ops a.tmps)=true↔gt G) (h:fR P G ρ H o.op fun x=>K (upd ρ o.dst (wr G x)) H):
  ∃z,K (upd ρ o.dst z) H/\(Region.wanted o (yielded ops a.tmps)=true->∃v,rep S w1 z v/\∀w,CC w->o.quietAt P a (Rw w) w v)/\(Region.wanted o (yielded ops a.tmps)=false->rep S w1 z undef):=by
 obtain⟨z,O,J⟩:=BY (T▸Y) I U.rows h;refine⟨_,O,fun E=>?_,fun E=>?_⟩
 ·obtain⟨v,X,M⟩:=J (A.1 E);refine⟨v,eD (A.1 E) X,fun w Z=>?_⟩;unfold Oper.quietAt;rw[M w (F w Z).2 o rfl];exact⟨rfl,rfl⟩
 ·exact dH fun h=>by rw[A.2 h]at E;simp at E
def Kg{o:Oper}{c:Call}{w1:World}{CC:World->Prop}(Y:∀w,CC w->St S w H/\Agree S H w1 w)(hS:St S w1 H)(hF:FR S w1 ρ a)(hn:a.tmps.size=n)(ho:o.op=.call c)(hb:∀x∈o.op.operands,opB n x=true){G:Option Bool}
  (M:Region.wanted o (yielded ops a.tmps)=true↔gt G) {nl:Bool} (h:Ah P (aX P) (cQ P) nl true G o c ρ H K):
  ∃z,K (upd ρ o.dst z) H/\(Region.wanted o (yielded ops a.tmps)=true->∃v,rep S w1 z v/\∀w,CC w->o.quietAt P a (Rw w) w v)/\(Region.wanted o (yielded ops a.tmps)=false->rep S w1 z undef):=by
 rw[ho]at hb;simp only[Op.operands,Call.operands]at hb;unfold Ah at h;split at h
 ·rename_i b hc;obtain⟨ys,Z,X⟩:=lE hF c.args.toList (fun x hx=>hn▸hb x (by simp[Array.mem_toList_iff.1 hx])) h;clear h;have h:=Z;clear Z;split at h
  ·rename_i x t I;obtain⟨z,hz,hl⟩:=Eb (G:=G) (ty:=o.type) hS.rows h;refine⟨_,hz,fun J=>?_,fun J=>dH fun h=>by rw[M.2 h]at J;simp at J⟩;have E:=M.1 J;have hr:=X E;simp only[aW]at hr;obtain⟨u,t',e1,e2,rfl⟩:=hr;obtain⟨v,hv,T⟩:=hl E u e2;have ea:c.args.map a.eval=#[u]:=Array.toList_inj.1 (by simpa using e1);have et:c.argTypes=#[t]:=Array.toList_inj.1 (by simpa using I);refine⟨v,eD E hv,fun w O=>?_⟩;unfold Oper.quietAt;have:(execOp a.eval o).run P w=.ok (.value v) w:=by simp[execOp,ho,resolve,hc,invoke,builtin,ea,et,T w (Y w O).2]
   rw[this];exact⟨rfl,rfl⟩
  ·split at h
   ·rename_i F;simp at F
   ·exact h.elim
  ·split at h
   ·rename_i F;simp at F
   ·exact h.elim
  ·split at h
   ·rename_i F;simp at F
   ·exact h.elim
  ·rename_i x y t t' I;obtain⟨z,hz,hl⟩:=DE (P:=P) (S:=S) (w:=w1) (H:=H) (G:=G) (tys:=c.argTypes) (ty:=o.type) h;refine⟨_,hz,fun J=>?_,fun J=>dH fun h=>by rw[M.2 h]at J;simp at J⟩
   ·have E:=M.1 J;have hr:=X E;simp only[aW]at hr;obtain⟨us,t1,e1,e2,ux,t2,rfl,e3,rfl⟩:=hr;obtain⟨v,hv,T⟩:=hl E us ux e2 e3;have ea:c.args.map a.eval=#[us,ux]:=Array.toList_inj.1 (by simpa using e1);refine⟨v,eD E hv,fun w O=>?_⟩;unfold Oper.quietAt;have:(execOp a.eval o).run P w=.ok (.value v) w:=by simp[execOp,ho,resolve,hc,invoke,builtin,ea,T w (Y w O).2]
    rw[this];exact⟨rfl,rfl⟩
  ·rename_i x y t t' I;obtain⟨z,hz,hl⟩:=Ea (P:=P) (S:=S) (w:=w1) (H:=H) (G:=G) (tys:=c.argTypes) (ty:=o.type) h;refine⟨_,hz,fun J=>?_,fun J=>dH fun h=>by rw[M.2 h]at J;simp at J⟩
   ·have E:=M.1 J;have hr:=X E;simp only[aW]at hr;obtain⟨us,t1,e1,e2,ux,t2,rfl,e3,rfl⟩:=hr;obtain⟨v,hv,T⟩:=hl E us ux e2 e3;have ea:c.args.map a.eval=#[us,ux]:=Array.toList_inj.1 (by simpa using e1);refine⟨v,eD E hv,fun w O=>?_⟩;unfold Oper.quietAt;have:(execOp a.eval o).run P w=.ok (.value v) w:=by simp[execOp,ho,resolve,hc,invoke,builtin,ea,T w (Y w O).2]
    rw[this];exact⟨rfl,rfl⟩
  ·exact h.elim
 ·rename_i f hc;obtain⟨yf,Z,hf⟩:=aS (S:=S) (w:=w1) h;clear h;have h:=Z;clear Z;split at h
  ·rename_i g ag af ak;by_cases ac:nl=true
   ·rw[if_pos ac]at h;exact absurd h.2.1 (by decide)
   rw[if_neg ac]at h;obtain⟨ys,Z,X⟩:=lE hF c.args.toList (fun x hx=>hn▸hb x (by simp[hc,Array.mem_toList_iff.1 hx])) h;clear h;obtain⟨aj,h⟩:=Z;have ah:=fun hg=>zS ak (hf hg _ (cC hF (hn▸hb f (by simp[hc]))))
   have I:gt G->∃first A:Array Value,a.eval f=.func (.func g) first A/\aW S w1 (ag++ys++af) (first++c.args.map a.eval++A).toList:=fun hg=>by obtain⟨first,A,h1,Z,h3⟩:=ah hg;refine⟨first,A,h1,?_⟩;simp only[Array.toList_append];refine cJ _ _ _ _ (cJ _ _ _ _ Z ?_) h3;simpa using X hg
   split at h
   ·rename_i F;simp at F
   ·obtain⟨r,hq,hk⟩:=h;by_cases E:gt G
    ·rcases hq E with hq|⟨x,rfl,al⟩
     ·obtain⟨v,ab⟩:=hq.val;rw[JC (by rw[ab];rfl)]at hk;refine⟨_,hk,fun J=>?_,fun J=>dH fun h=>by rw[M.2 h]at J;simp at J⟩;obtain⟨first,A,ai,ae⟩:=I E;have aa:∀w,(execOp a.eval o).run P w=.ok (.enter g (first++c.args.map a.eval++A)) w:=fun w=>by simp only[execOp,ho];rw[lN hc ai];simp[invoke,nX aj]
      have hv:=(hq.calls ab hS ae).1;refine⟨v,eD E (hv S w1),fun w O=>?_⟩;have U:=(hq.calls ab (Y w O).1 (cZ S.le_refl (Y w O).2.kept _ _ ae)).2;unfold Oper.quietAt;rw[aa];refine⟨rfl,?_⟩;rw[Array.toArray_toList]at U;exact U
     ·exact hk.elim
    ·obtain⟨z,hk⟩:=KU hk;refine⟨_,hk,fun J=>absurd (M.1 J) E,fun J=>dH E⟩
  ·exact h.elim
 ·exact h.elim
def xG{o:Oper}{w1:World}{CC:World->Prop}(F:∀w,CC w->St S w H/\Agree S H w1 w)(T:∀o∈ops,iF n o=true)(O:St S w1 H)(J:FR S w1 ρ a)(M:a.tmps.size=n)(hb:iF n o=true)(h:aop P (aX P) (cQ P) mt true ops o ρ H K):
   ∃z,K (upd ρ o.dst z) H/\(Region.wanted o (yielded ops a.tmps)=true->∃v,rep S w1 z v/\∀w,CC w->o.quietAt P a (Rw w) w v)/\(Region.wanted o (yielded ops a.tmps)=false->rep S w1 z undef):=by
 obtain⟨A,_⟩:=sZ hb;unfold aop at h;obtain⟨G,X,E⟩:=tR T J M h;clear h;have h:=X;clear X;split at h
 . rename_i x I;unfold zY at h;split at h
   . rename_i U;simp at U
   . exact tO F O J M A E (by rw[I];exact h)
 . split at h
   . simp at h
   . exact h.elim
 . simp at h
 . simp at h
 . simp at h
 . rename_i c I;exact Kg F O J M I A E h
 all_goals first
   | exact h.elim
   | (simp at h;done)
   | (rename_i I; split at h
      . simp at h;done
      . exact tO F O J M A E (by rw[I];exact h))
   | (rename_i I; split at h
      . obtain⟨rfl,h⟩:=h;rw[if_pos rfl]at h;obtain⟨z,hz,v,hv,Z⟩:=Ca (S:=S) (w1:=w1) J (fun x hx=>M▸A x hx) I h;exact⟨z,hz,fun _=>⟨v,hv,fun w _=>by unfold Oper.quietAt;rw[Z w];exact⟨rfl,rfl⟩⟩,fun Y=>by rw[cO E rfl]at Y;cases Y⟩
      . exact tO F O J M A E (by rw[I];exact h))
   | (rename_i I;exact tO F O J M A E (by rw[I];exact h))
def Lg{o:Oper}{w1:World}{CC:World->Prop}(F:∀w,CC w->St S w bG/\Agree S bG w1 w)(Y:St S w1 H)(M:FR S w1 ρ a)(X:a.tmps.size=n){t:TypeId}{x:Operand}{lo hi m:Option Operand}(I:o.op=.slice t x lo hi m)(J:∀x∈o.op.operands,opB n x=true){G:Option Bool}
  (A:Region.wanted o (yielded ops a.tmps)=true↔gt G) (h:fR P G ρ H o.op fun x=>K (upd ρ o.dst (wr G x)) H):
  ∃z,K (upd ρ o.dst z) H/\(Region.wanted o (yielded ops a.tmps)=true->∃v,rep S w1 z v/\∀w,CC w->o.quietAt P a (Rw w) w v)/\(Region.wanted o (yielded ops a.tmps)=false->rep S w1 z undef):=by
 rw[I]at J h;obtain⟨z,U,O⟩:=Al (H':=bG) (X▸J) M Y.rows h;refine⟨_,U,fun E=>?_,fun E=>?_⟩
 ·obtain⟨v,Z,T⟩:=O (A.1 E);refine⟨v,eD (A.1 E) Z,fun w hc=>?_⟩;unfold Oper.quietAt;rw[T w (F w hc).2 o I];exact⟨rfl,rfl⟩
 ·exact dH fun h=>by rw[A.2 h]at E;simp at E
def MD{o:Oper}{w1:World}{CC:World->Prop}(I:∀w,CC w->St S w bG/\Agree S bG w1 w)(E:∀o∈ops,iF n o=true)(Y:St S w1 H)(J:FR S w1 ρ a)(O:a.tmps.size=n)(Z:iF n o=true){K:Env->Prop}(h:aop P (aX P) (cQ P) mt true ops o ρ (qH o H) fun A _=>K A):
  ∃z,K (upd ρ o.dst z)/\(Region.wanted o (yielded ops a.tmps)=true->∃v,rep S w1 z v/\∀w,CC w->o.quietAt P a (Rw w) w v)/\(Region.wanted o (yielded ops a.tmps)=false->rep S w1 z undef):=by
 by_cases X:∃t x lo hi m,o.op=.slice t x lo hi m
 ·obtain⟨t,x,lo,hi,m,F⟩:=X;have e:qH o H=H:=by unfold qH;rw[F]
  rw[e]at h;obtain⟨M,_⟩:=sZ Z;unfold aop at h;obtain⟨G,U,T⟩:=tR E J O h;clear h;rw[F]at U;exact Lg (K:=fun A _=>K A) I Y J O F M T (by rw[F];exact U)
 ·have e : qH o H = bG := by
   unfold qH;split
   ·rename_i F;exact absurd ⟨_,_,_,_,_,F⟩ X
   ·rfl
  rw[e]at h;exact xG (K:=fun A _=>K A) I E (Y.drop fun k r hk=>by simp[bG]at hk) J O Z h
def FC{Q':Exit->Act->World->Prop}{wb:World}{Sb:Sg}{Hb:aG}(A:∀o∈ops,iF n o=true)(Y:∀ρ H a w,K ρ H->Rel n Sb wb Hb ρ H a w->Q' .normal a w):
  ∀(l:List Oper) (k:Nat) (listed:Array Bool) (ρ:Env) (H:aG) (a:Act) (w:World),(∀j,l[j]?=ops[k+j]?)->(∀o∈l,iF n o=true)->Region.seqB .any ops l.length k listed=true ->
   uD P (aX P) (cQ P) mt false ops K l ρ H->Rel n Sb wb Hb ρ H a w->iH P .any ops (Cb Sb wb) Rw Q' l.length listed a w
 | [],_,_,ρ,H,a,w,_,_,hB,h,hR=>⟨by simpa[Region.seqB]using hB,Y ρ H a w h hR⟩
 | o::rest,k,listed,ρ,H,a,w,hl,hb,hB,h,hR=>by
  have h0:ops[k]?=some o:=by simpa using(hl 0).symm
  simp only[List.length_cons,Region.seqB,Bool.and_eq_true,decide_eq_true_eq]at hB;refine⟨by rw[hB.1];simp,fun i Z=>?_⟩;rw[hB.1]at Z;have O:i=k:=by simpa using Z
  subst O;obtain⟨S,hS,hF,hG,hN,hd,hn⟩:=hR;have he:=xC (K':=fun F w'=>F.defers=[]/\Cb Sb wb w'/\∀J,Rw w' J->iH P .any ops (Cb Sb wb) Rw Q' rest.length (listed.setIfInBounds i true) F J) (Q':=fun _ _ _=>False) A hS hF hG hN hd hn (hb o (by simp))
   (fun X H' F w' E T=>by
    refine⟨?_,?_,fun J h2=>FC A Y rest (i+1) _ X H' F J (fun j=>by have:=hl (j+1);simpa[Nat.add_assoc,Nat.add_comm 1 j]using this) (fun o ho=>hb o (by simp[ho])) hB.2 E (T.rw h2)⟩
    ·obtain⟨S',_,_,_,_,U,_⟩:=T;exact U
    ·obtain⟨S',_,_,M,_⟩:=T;exact M.cb) h
  unfold gOp;simp only[h0];by_cases I:Region.wanted o (yielded ops a.tmps)=true
  ·rw[if_pos I];exact oP (fun v w' E=>E.2) (BV (fun a w E=>E.1) (he.1 I))
  ·rw[if_neg I];exact(he.2 (by simpa using I)).2
def DY{Q':Exit->Act->World->Prop}{wb:World}{Sb:Sg}(F:∀o∈ops,iF n o=true)(X:Region.noSelect ops=true)(E:St Sb wb bG){g:Nat}
  (hK:∀ρ a A w,K ρ bG->Rw wb w->FR Sb wb ρ a->a.defers=[]->a.tmps.size=n->∀k,Region.seqB .any ops g k A=true->k=ops.size-g->iH P .any ops (Cb Sb wb) Rw Q' g A a w):
  ∀(l:List Oper) (k:Nat) (A:Array Bool) (ρ:Env) (a:Act),(∀j,j<l.length->l[j]?=ops[k+j]?)->k+l.length=ops.size-g->(∀o∈l,iF n o=true)->Region.lexHead .any ops g l.length k A=true ->
   uD P (aX P) (cQ P) mt true ops K l ρ bG->FR Sb wb ρ a->a.defers=[]->a.tmps.size=n->∀w,Rw wb w->iH P .any ops (Cb Sb wb) Rw Q' (l.length+g) A a w
 | [],k,A,ρ,a,_,hk,_,hB,h,hF,hd,hn,w,hC=>by rw[List.length_nil,Nat.zero_add];exact hK ρ a A w h hC hF hd hn k hB (by simpa using hk)
 | o::rest,k,A,ρ,a,hl,hk,hb,hB,h,hF,hd,hn,w,hC=>by
  have h0:ops[k]?=some o:=by simpa using(hl 0 (by simp)).symm
  simp only[List.length_cons,Region.lexHead,Bool.and_eq_true]at hB;obtain⟨⟨I,hf⟩,U⟩:=hB;obtain⟨z,hz,h1,T⟩:=xG (CC:=Cb Sb wb) (fun w J=>⟨J.st E,J.agree E⟩) F E hF hn (hb o (by simp)) h;have next:∀v,rep Sb wb z v->∀O,Rw w O->iH P .any ops (Cb Sb wb) Rw Q' (rest.length+g) (A.setIfInBounds k true) (a.put o.dst v) O:=fun v Y O T=>DY F X E hK rest (k+1) _ _ _ (fun j hj=>by have:=hl (j+1) (by simp;omega);simpa[Nat.add_assoc,Nat.add_comm 1 j]using this) (by simp only[List.length_cons]at hk;omega) (fun o ho=>hb o (by simp[ho])) U hz (FR.put hF Y) (by rw[mN];exact hd) (by rw[vT];exact hn) O (hC.trans T)
  rw[List.length_cons,show rest.length+1+g=(rest.length+g)+1 by omega];by_cases Z:Region.wanted o (yielded ops a.tmps)=true
  ·obtain⟨v,Y,hq⟩:=h1 Z;exact jX h0 (Region.noSelect_spec X) Rw.refl (fun _ _ _=>Rw.trans) (fun _ _ J I=>J.rw E I) _ A a w (hC.cb E) (Region.free_spec h0 hf) (by simpa using I) (.inl ⟨Z,hq⟩) (next v Y)
  ·have M:Region.wanted o (yielded ops a.tmps)=false:=by simpa using Z
   exact jX h0 (Region.noSelect_spec X) Rw.refl (fun _ _ _=>Rw.trans) (fun _ _ J I=>J.rw E I) _ A a w (hC.cb E) (Region.free_spec h0 hf) (by simpa using I) (.inr ⟨M,rfl⟩) (next _ (T M))
def L5{Q':Exit->Act->World->Prop}{id m:Nat}(hm:P.follows .mixedOrders=true)(A:∀o∈ops,iF n o=true)(hB:QB ops m=true)
  (h:uD P (aX P) (cQ P) mt true ops (fun E _=>uD P (aX P) (cQ P) mt false ops K (ops.toList.drop m) E H) (ops.toList.take m) ρ bG)
  (hR:Rel n S0 w0 H0 ρ H a w) (hQ:∀ρ H a w,K ρ H->Rel n S0 w0 H0 ρ H a w->Q' .normal a w):(Code.region id ops true).wp P Q' a w:=by
 obtain⟨S,hS,hF,hG,hN,hd,hn⟩:=hR;simp only[QB,Bool.and_eq_true,decide_eq_true_eq]at hB;obtain⟨⟨hs,ak⟩,Y⟩:=hB
 let w1:World:={ w with drawn:=w.drawn+1 }
 have F:St S w1 H:=hS.after (Nat.le_refl _) fun _ _=>rfl
 have aa:Grow S w S w1:=hS.grow rfl rfl rfl (Nat.le_refl _) fun _ _=>rfl
 have ah:FR S w1 ρ a:=hF.keep S.le_refl (aa.kept hS);have ae:St S w1 bG:=F.drop fun k r Z=>by simp[bG]at Z
 refine wp_region_any hm (sY (C:=Cb S w1) (R:=Rw) Rw.refl _ _ _ _ ?_);have J:(ops.toList.take m).length=m:=by simp;omega
 have:=DY (Q':=Q') (g:=ops.size-m) (wb:=w1) (Sb:=S) A hs ae (K:=fun E _=>uD P (aX P) (cQ P) mt false ops K (ops.toList.drop m) E H) (fun E a' I w' Z U M O T k X aj=>by
  have ab:k=m:=by omega
  subst ab;have hx:=FC (Q':=Q') (wb:=w1) (Sb:=S) (Hb:=H) A (K:=K) (fun ρ H a w Z hr=>by
   obtain⟨S',af,M,ac,ag,O,T⟩:=hr;exact hQ ρ H a w Z ⟨S',af,M,hG.trans (aa.trans ac),hN.trans ag hG.le.N,O,T⟩) (ops.toList.drop k) k I E H a' w' (fun j=>by simp[List.getElem?_drop]) (fun o ho=>A o (Array.mem_toList_iff.1 (List.mem_of_mem_drop ho)))
   (by simpa using X) Z ?_
  ·simpa using hx
  ·have hg:=F.grow U.1 U.2.1 U.2.2.1 U.2.2.2.1 U.2.2.2.2;exact⟨S,F.after U.2.2.2.1 U.2.2.2.2,M.keep S.le_refl (hg.kept F),hg,eF.refl _ _,O,T⟩) (ops.toList.take m) 0 (Array.replicate ops.size false) ρ a (fun j hj=>by
    have ai:j<m:=by rw[J]at hj;exact hj
    simp[ai]) (by rw[J];omega) (fun o ho=>A o (Array.mem_toList_iff.1 (List.mem_of_mem_take ho))) (by rw[J];exact Y) h ah hd hn w1 (Rw.refl w1)
 rw[J,show m+(ops.size-m)=ops.size by omega]at this;exact this
def wG{C A:World->Prop}{R:World->World->Prop}{Q':Exit->Act->World->Prop}(h:∀w,A w->C w):∀(f:Nat) (listed:Array Bool) (a:Act) (w:World),iH P .any ops A R Q' f listed a w->iH P .any ops C R Q' f listed a w
 | 0,_,_,_,hw=>hw
 | f+1,_,_,_,hw=>⟨hw.1,fun i I=>EJ (fun M w' E=>⟨h w' E.1,fun J F=>wG h f _ _ _ (E.2 J F)⟩) (hw.2 i I)⟩
def Cb.mono{S S':Sg}{w w' F:World}{H:aG}(I:St S w H)(A:Grow S w S' w')(h:Cb S' w' F):Cb S w F:=
 ⟨h.1.trans A.os,h.2.1.trans A.tape,h.2.2.1.trans A.output,Nat.le_trans A.size h.2.2.2.1,fun k E=>(h.2.2.2.2 k (A.fz k E)).trans (A.same k E)⟩
def vD{Q':Exit->Act->World->Prop}(A:∀o∈ops,iF n o=true)(E:Region.noSelect ops=true)(hQ:∀ρ H a w,K ρ H->Rel n S0 w0 H0 ρ H a w->Q' .normal a w):
  ∀(f:List (Nat×Bool)) (listed:Array Bool) (ρ:Env) (H:aG) (a:Act) (w:World) (S:Sg),mW ops f listed=true ->
   vC P (aX P) (cQ P) mt ops K f ρ H->St S w H->FR S w ρ a->Grow S0 w0 S w->eF S0.N H0 H->a.defers=[]->a.tmps.size=n->∀I,Rw w I->iH P .any ops (Cb S w) Rw Q' f.length listed a I
 | [],listed,ρ,H,a,w,S,hB,h,hS,hF,hG,hN,hd,hn,I,h2=>by refine⟨by simpa[mW]using hB,hQ ρ H a I h (Rel.rw ⟨S,hS,hF,hG,hN,hd,hn⟩ h2)⟩
 | (k,true)::f,listed,ρ,H,a,w,S,hB,h,hS,hF,hG,hN,hd,hn,I,h2=>by
  simp only[mW,Bool.and_eq_true]at hB;obtain⟨⟨J,hf⟩,ai⟩:=hB;unfold vC at h;split at h
  ·rename_i o h0;rw[if_pos rfl]at h;have O:=A o (Array.mem_of_getElem? h0);obtain⟨z,hz,h1,T⟩:=MD (CC:=Cb S w) (K:=fun X=>vC P (aX P) (cQ P) mt ops K f X H) (fun w Y=>⟨Y.st hS,Y.agree hS⟩) A hS hF hn O h;have next:∀v,rep S w z v->∀F,Rw w F->iH P .any ops (Cb S w) Rw Q' f.length (listed.setIfInBounds k true) (a.put o.dst v) F:=fun v hv F T=>vD A E hQ f _ _ H _ w S ai hz hS (FR.put hF hv) hG hN (by rw[mN];exact hd) (by rw[vT];exact hn) F T
   rw[List.length_cons];by_cases M:Region.wanted o (yielded ops a.tmps)=true
   ·obtain⟨v,hv,hq⟩:=h1 M;exact jX h0 (Region.noSelect_spec E) Rw.refl (fun _ _ _=>Rw.trans) (fun _ _ Y J=>Y.rw hS J) _ listed a I (h2.cb hS) (Region.free_spec h0 hf) (by simpa using J) (.inl ⟨M,hq⟩) (fun F T=>next v hv F (h2.trans T))
   ·have ab:Region.wanted o (yielded ops a.tmps)=false:=by simpa using M
    exact jX h0 (Region.noSelect_spec E) Rw.refl (fun _ _ _=>Rw.trans) (fun _ _ Y J=>Y.rw hS J) _ listed a I (h2.cb hS) (Region.free_spec h0 hf) (by simpa using J) (.inr ⟨ab,rfl⟩) (fun F al=>next _ (T ab) F (h2.trans al))
  ·exact h.elim
 | (k,false)::f,listed,ρ,H,a,w,S,hB,h,hS,hF,hG,hN,hd,hn,I,h2=>by
  simp only[mW,Bool.and_eq_true,decide_eq_true_eq]at hB;unfold vC at h;split at h
  ·rename_i o h0;rw[if_neg (by simp)]at h;have O:=A o (Array.mem_of_getElem? h0);rw[List.length_cons];refine⟨by rw[hB.1];simp,fun i hi=>?_⟩;rw[hB.1]at hi;have af:i=k:=by simpa using hi
   subst af;have aa:=hS.grow h2.1 h2.2.1 h2.2.2.1 h2.2.2.2.1 h2.2.2.2.2;have ah:St S I H:=hS.after h2.2.2.2.1 h2.2.2.2.2;have ak:FR S I ρ a:=hF.keep S.le_refl (aa.kept hS);have he:=xC (S0:=S) (w0:=I) (H0:=H) (K:=vC P (aX P) (cQ P) mt ops K f) (K':=fun a' w'=>a'.defers=[]/\Cb S w w'/\∀F,Rw w' F->iH P .any ops (Cb S w) Rw Q' f.length (listed.setIfInBounds i true) a' F) (Q':=fun _ _ _=>False) A ah ak (Grow.refl S I) (eF.refl _ _) hd hn O
    (fun X H' a' w' hk J=>by obtain⟨S',ag,ae,ac,am,Z,aj⟩:=J;have U:Grow S w S' w':=aa.trans ac;refine⟨Z,U.cb,fun F T=>?_⟩;refine wG (fun x hx=>Cb.mono hS U hx) _ _ _ _ (vD A E hQ f _ X H' a' w' S' hB.2 hk ag ae (hG.trans U) (hN.trans am hG.le.N) Z aj F T)) h
   unfold gOp;simp only[h0];by_cases M:Region.wanted o (yielded ops a.tmps)=true
   ·rw[if_pos M];exact oP (fun v w' hk=>hk.2) (BV (fun a w hk=>hk.1) (he.1 M))
   ·rw[if_neg M];exact(he.2 (by simpa using M)).2
  ·exact h.elim
def Tj{Q':Exit->Act->World->Prop}{id:Nat}{f:List (Nat×Bool)}(Y:P.follows .mixedOrders=true)(F:∀o∈ops,iF n o=true)(T:NN ops f=true)
  (h:vC P (aX P) (cQ P) mt ops K f ρ H)
  (hR:Rel n S0 w0 H0 ρ H a w) (X:∀ρ H a w,K ρ H->Rel n S0 w0 H0 ρ H a w->Q' .normal a w):(Code.region id ops true).wp P Q' a w:=by
 obtain⟨S,J,U,hG,Z,hd,hn⟩:=hR;simp only[NN,Bool.and_eq_true,decide_eq_true_eq]at T;obtain⟨⟨hs,O⟩,A⟩:=T
 let w1:World:={ w with drawn:=w.drawn+1 }
 have I:St S w1 H:=J.after (Nat.le_refl _) fun _ _=>rfl
 have E:Grow S w S w1:=J.grow rfl rfl rfl (Nat.le_refl _) fun _ _=>rfl
 have M:FR S w1 ρ a:=U.keep S.le_refl (E.kept J);refine wp_region_any Y (sY (C:=Cb S w1) (R:=Rw) Rw.refl _ _ _ _ ?_);have:=vD (Q':=Q') F hs X f (Array.replicate ops.size false) ρ H a w1 S A h I M (hG.trans E) Z hd hn w1 (Rw.refl w1);rw[O]at this;exact this
structure Pin(S:Sg)(w:World)(Hp:aG):Prop where
 rows:vP S w Hp
 fz:∀k r,Hp k=some r->∀g,blk (S.loc k)=some g->S.fz g/\¬S.ro g
 disj:∀k k' r r',Hp k=some r->Hp k'=some r'->k≠k'->∀g,blk (S.loc k)=some g->blk (S.loc k')≠some g
def YY(S:Sg)(Hp:aG)(g:Nat):Prop:=∃k r,Hp k=some r/\blk (S.loc k)=some g
def Sg.unpin(S:Sg)(Hp:aG):Sg:={ S with fz:=fun g=>S.fz g/\¬YY S Hp g }
def Sg.pin(S:Sg)(Hp:aG):Sg:={ S with fz:=fun g=>S.fz g\/YY S Hp g }
def Sg.le_unpin(S:Sg)(Hp:aG):S.le (S.unpin Hp):=⟨fun _ h=>h,Nat.le_refl _,fun _ _=>rfl,fun _ _=>rfl⟩
def Sg.unpin_le(S:Sg)(Hp:aG):(S.unpin Hp).le S:=⟨fun _ h=>h,Nat.le_refl _,fun _ _=>rfl,fun _ _=>rfl⟩
def Sg.le_pin(S:Sg)(Hp:aG):S.le (S.pin Hp):=⟨fun _ h=>h,Nat.le_refl _,fun _ _=>rfl,fun _ _=>rfl⟩
def Pin.merge{Hp U:aG}(h:Pin S w Hp)(I:St S w H)(O:∀k r,U k=some r->H k=some r\/Hp k=some r):St (S.unpin Hp) w U:=by
 have Y:∀k r,U k=some r->RowOK S w k r:=fun k r A=>by
  rcases O k r A with h1|h1
  ·exact I.rows k r h1
  ·exact h.rows k r h1
 refine⟨fun k A=>⟨I.ro_fz k A,fun⟨i,r,Z,E⟩=>(h.fz i r Z k E).2 A⟩,fun k A=>I.fz_lt k A.1,fun k r A=>(Y k r A).keep (S.le_unpin Hp) (eQ.refl S w) (fun _ _=>rfl),fun k r A g E X=>?_,fun k k' r r' A T M g E F=>?_,I.tabs⟩
 ·rcases O k r A with h1|h1
  ·exact I.free k r h1 g E X.1
  ·exact X.2 ⟨k,r,h1,E⟩
 ·rcases O k r A with h1|h1 <;> rcases O k' r' T with J|J
  ·exact I.disj k k' r r' h1 J M g E F
  ·exact I.free k r h1 g E (h.fz k' r' J g F).1
  ·exact I.free k' r' J g F (h.fz k r h1 g E).1
  ·exact h.disj k k' r r' h1 J M g E F
def Pin.keep{Hp:aG}{S':Sg}{w':World}(h:Pin S w Hp)(T:St S w H)(A:Grow S w S' w'):Pin S' w' Hp:=by
 refine⟨fun k r E=>(h.rows k r E).keep A.le (A.kept T) (fun g F=>A.same g (h.fz k r E g F).1),fun k r E g F=>?_,fun k k' r r' E I M g F=>?_⟩
 ·rw[A.le.loc k (h.rows k r E).lt]at F;have h1:=h.fz k r E g F;refine⟨A.fz g h1.1,fun O=>?_⟩;rcases A.newro g O with J|J
  ·exact h1.2 J
  ·exact J h1.1
 ·rw[A.le.loc k (h.rows k r E).lt]at F;rw[A.le.loc k' (h.rows k' r' I).lt];exact h.disj k k' r r' E I M g F
def Cb.pin{wb w:World}{H Hp:aG}(E:St S wb H)(F:Pin S wb Hp)(h:Cb S wb w):St (S.unpin Hp) w Hp/\Agree (S.unpin Hp) Hp wb w:=by have I:Grow S wb S w:=⟨S.le_refl,fun _ h=>h,h.1,h.2.1,h.2.2.1,h.2.2.2.1,h.2.2.2.2,fun _ h=>.inl h⟩;exact⟨(F.keep E I).merge (h.st E) (fun k r A=>.inr A),⟨fun k A=>h.2.2.2.2 k (E.ro_fz k A),fun k r A g J=>h.2.2.2.2 g (F.fz k r A g J).1⟩⟩
def oJ{Q':Exit->Act->World->Prop}{Hp:aG}(J:∀o∈ops,iF n o=true){i m:Nat}{o:Oper}{A:Array Bool}{K1:Env->aG->Prop}(h0:ops[i]?=some o)(h:aop P (aX P) (cQ P) mt false ops o ρ H K1)
  (Z:St S w H) (hP:Pin S w Hp) (hF:FR S w ρ a) (hd:a.defers=[]) (hn:a.tmps.size=n) {U:World} (O:Rw w U)
  (next:∀I H' E w' S',K1 I H'->St S' w' H'->Pin S' w' Hp->FR S' w' I E->Grow S w S' w'->eF S.N H H'->E.defers=[]->E.tmps.size=n->∀F,Rw w' F->iH P .any ops (Cb S' w') Rw Q' m (A.setIfInBounds i true) E F):
  gOp P ops i (fun E w'=>Cb S w w'/\∀F,Rw w' F->iH P .any ops (Cb S w) Rw Q' m (A.setIfInBounds i true) E F) a U:=by
 have ab:=J o (Array.mem_of_getElem? h0);have M:=Z.grow O.1 O.2.1 O.2.2.1 O.2.2.2.1 O.2.2.2.2;have Y:St S U H:=Z.after O.2.2.2.1 O.2.2.2.2;have ag:Pin S U Hp:=hP.keep Z M;have ah:FR S U ρ a:=hF.keep S.le_refl (M.kept Z);have he:=xC (S0:=S) (w0:=U) (H0:=H) (K:=K1) (K':=fun E w'=>E.defers=[]/\Cb S w w'/\∀F,Rw w' F->iH P .any ops (Cb S w) Rw Q' m (A.setIfInBounds i true) E F) (Q':=fun _ _ _=>False) J Y ah (Grow.refl S U) (eF.refl _ _) hd hn ab
  (fun I H' E w' hk hr=>by obtain⟨S',ae,ac,X,ai,aa,af⟩:=hr;have T:Grow S w S' w':=M.trans X;refine⟨aa,T.cb,fun F h3=>?_⟩;exact wG (fun x hx=>Cb.mono Z T hx) _ _ _ _ (next I H' E w' S' hk ae (ag.keep Y X) ac T ai aa af F h3)) h
 unfold gOp;simp only[h0];by_cases hw:Region.wanted o (yielded ops a.tmps)=true
 ·rw[if_pos hw];exact oP (fun v w' hk=>hk.2) (BV (fun a w hk=>hk.1) (he.1 hw))
 ·rw[if_neg hw];exact(he.2 (by simpa using hw)).2
def mP{q:Bool}{k:Nat}{A:Env->aG->Prop}(h:xI P (aX P) (cQ P) mt q ops k ρ H A):∃o,ops[k]?=some o/\aop P (aX P) (cQ P) mt q ops o ρ H A:=by
 unfold xI at h;split at h
 ·rename_i o h0;exact⟨o,h0,h⟩
 ·exact h.elim
def gK{Q':Exit->Act->World->Prop}{Hp:aG}(A:∀o∈ops,iF n o=true)(E:Region.noSelect ops=true)
  (hQ:∀ρ H a w S,K ρ H->St S w H->Pin S w Hp->FR S w ρ a->Grow S0 w0 S w->eF S0.N H0 H->a.defers=[]->a.tmps.size=n->Q' .normal a w):
  ∀(t:Mx) (m:Nat) (listed:Array Bool) (ρ:Env) (H:aG) (a:Act) (w:World) (S:Sg),dM ops t m listed=true ->
   jJ P (aX P) (cQ P) mt ops K Hp t ρ H->St S w H->Pin S w Hp->FR S w ρ a->Grow S0 w0 S w->eF S0.N H0 H->a.defers=[]->a.tmps.size=n->∀w2,Rw w w2->iH P .any ops (Cb S w) Rw Q' m listed a w2
 | .nil,m,listed,ρ,H,a,w,S,hB,h,hS,hP,hF,hG,hN,hd,hn,w2,h2=>by
  cases m with
  | succ m=>simp[dM]at hB
  | zero=>have hg:=hS.grow h2.1 h2.2.1 h2.2.2.1 h2.2.2.2.1 h2.2.2.2.2;exact⟨by simpa[dM]using hB,hQ ρ H a w2 S h (hS.after h2.2.2.2.1 h2.2.2.2.2) (hP.keep hS hg) (hF.keep S.le_refl (hg.kept hS)) (hG.trans hg) hN hd hn⟩
 | .q k t,m,listed,ρ,H,a,w,S,hB,h,hS,hP,hF,hG,hN,hd,hn,w2,h2=>by
  cases m with
  | zero=>simp[dM]at hB
  | succ m=>
   simp only[dM,Bool.and_eq_true]at hB;obtain⟨⟨hr,hf⟩,af⟩:=hB;obtain⟨o,h0,h⟩:=mP h;have ae:=A o (Array.mem_of_getElem? h0);obtain⟨z,hz,h1,Z⟩:=xG (S:=S.unpin Hp) (CC:=Cb S w) (K:=fun F _=>jJ P (aX P) (cQ P) mt ops K Hp t F H) (fun w hc=>hc.pin hS hP) A (hP.merge hS fun k r hk=>.inr hk) (hF.keep (S.le_unpin Hp) (eQ.refl S w)) hn ae h;have next:∀v,rep (S.unpin Hp) w z v->∀Y,Rw w Y->iH P .any ops (Cb S w) Rw Q' m (listed.setIfInBounds k true) (a.put o.dst v) Y:=fun v hv Y Z=>gK A E hQ t m _ _ H _ w S af hz hS hP (FR.put hF (jM (S.unpin_le Hp) (eQ.refl (S.unpin Hp) w) _ _ hv)) hG hN (by rw[mN];exact hd) (by rw[vT];exact hn) Y Z
   by_cases hw:Region.wanted o (yielded ops a.tmps)=true
   ·obtain⟨v,hv,hq⟩:=h1 hw;exact jX h0 (Region.noSelect_spec E) Rw.refl (fun _ _ _=>Rw.trans) (fun _ _ hc hr=>hc.rw hS hr) _ listed a w2 (h2.cb hS) (Region.free_spec h0 hf) (by simpa using hr) (.inl ⟨hw,hq⟩) (fun Y Z=>next v hv Y (h2.trans Z))
   ·have ac:Region.wanted o (yielded ops a.tmps)=false:=by simpa using hw
    exact jX h0 (Region.noSelect_spec E) Rw.refl (fun _ _ _=>Rw.trans) (fun _ _ hc hr=>hc.rw hS hr) _ listed a w2 (h2.cb hS) (Region.free_spec h0 hf) (by simpa using hr) (.inr ⟨ac,rfl⟩) (fun Y ah=>next _ (Z ac) Y (h2.trans ah))
 | .a1 k t,m,listed,ρ,H,a,w,S,hB,h,hS,hP,hF,hG,hN,hd,hn,w2,h2=>by
  cases m with
  | zero=>simp[dM]at hB
  | succ m=>simp only[dM,Bool.and_eq_true,decide_eq_true_eq]at hB;obtain⟨o,h0,g⟩:=mP h;refine⟨by rw[hB.1];simp,fun i hi=>?_⟩;rw[hB.1]at hi;simp only[List.mem_cons,List.not_mem_nil,or_false]at hi;subst hi;exact oJ A h0 g hS hP hF hd hn h2 fun F H' a' w' S' hk M O J I X T U Y Z=>gK A E hQ t m _ F H' a' w' S' hB.2 hk M O J (hG.trans I) (hN.trans X hG.le.N) T U Y Z
 | .a2 k t k' t',m,listed,ρ,H,a,w,S,hB,h,hS,hP,hF,hG,hN,hd,hn,w2,h2=>by
  cases m with
  | zero=>simp[dM]at hB
  | succ m=>
   simp only[dM,Bool.and_eq_true,decide_eq_true_eq]at hB;obtain⟨h,h'⟩:=h;obtain⟨o,h0,g⟩:=mP h;obtain⟨o',aa,g'⟩:=mP h';refine⟨by rw[hB.1.1];simp,fun i hi=>?_⟩;rw[hB.1.1]at hi;simp only[List.mem_cons,List.not_mem_nil,or_false]at hi;rcases hi with rfl|rfl
   ·exact oJ A h0 g hS hP hF hd hn h2 fun F H' a' w' S' hk M O J I X T U Y Z=>gK A E hQ t m _ F H' a' w' S' hB.1.2 hk M O J (hG.trans I) (hN.trans X hG.le.N) T U Y Z
   ·exact oJ A aa g' hS hP hF hd hn h2 fun F H' a' w' S' hk M O J I X T U Y Z=>gK A E hQ t' m _ F H' a' w' S' hB.2 hk M O J (hG.trans I) (hN.trans X hG.le.N) T U Y Z
 | .a3 k t k' t' k'' t'',m,listed,ρ,H,a,w,S,hB,h,hS,hP,hF,hG,hN,hd,hn,w2,h2=>by
  cases m with
  | zero=>simp[dM]at hB
  | succ m=>
   simp only[dM,Bool.and_eq_true,decide_eq_true_eq]at hB;obtain⟨h,h',ai⟩:=h;obtain⟨o,h0,g⟩:=mP h;obtain⟨o',aa,g'⟩:=mP h';obtain⟨aj,ab,ag⟩:=mP ai;refine⟨by rw[hB.1.1.1];simp,fun i hi=>?_⟩;rw[hB.1.1.1]at hi;simp only[List.mem_cons,List.not_mem_nil,or_false]at hi;rcases hi with rfl|rfl|rfl
   ·exact oJ A h0 g hS hP hF hd hn h2 fun F H' a' w' S' hk M O J I X T U Y Z=>gK A E hQ t m _ F H' a' w' S' hB.1.1.2 hk M O J (hG.trans I) (hN.trans X hG.le.N) T U Y Z
   ·exact oJ A aa g' hS hP hF hd hn h2 fun F H' a' w' S' hk M O J I X T U Y Z=>gK A E hQ t' m _ F H' a' w' S' hB.1.2 hk M O J (hG.trans I) (hN.trans X hG.le.N) T U Y Z
   ·exact oJ A ab ag hS hP hF hd hn h2 fun F H' a' w' S' hk M O J I X T U Y Z=>gK A E hQ t'' m _ F H' a' w' S' hB.2 hk M O J (hG.trans I) (hN.trans X hG.le.N) T U Y Z
def Mo{Q':Exit->Act->World->Prop}{id:Nat}{l:List Nat}{t:Mx}(hm:P.follows .mixedOrders=true)(aj:∀o∈ops,iF n o=true)(hl:∀k,k∈l->(H k).isSome=true)(hB:Eh ops t=true)
  (h:∀Hp O:aG,(∀k,k∈l->Hp k=H k)->(∀k,k∉l->O k=H k)->(∀k,k∉l->Hp k=none)->(∀k,k∈l->O k=none)->jJ P (aX P) (cQ P) mt ops (mI l H K) Hp t ρ O)
  (hR:Rel n S0 w0 H0 ρ H a w) (hQ:∀ρ H a w,K ρ H->Rel n S0 w0 H0 ρ H a w->Q' .normal a w):(Code.region id ops true).wp P Q' a w:=by
 obtain⟨S,hS,hF,hG,hN,hd,hn⟩:=hR;simp only[Eh,Bool.and_eq_true]at hB;obtain⟨hs,ah⟩:=hB
 let Hp:aG:=fun k=>if k∈l then H k else none
 let O:aG:=fun k=>if k∈l then none else H k
 have Y:∀k,k∈l->Hp k=H k:=fun k A=>if_pos A
 have ak:∀k,k∉l->Hp k=none:=fun k A=>if_neg A
 have aa:∀k,k∉l->O k=H k:=fun k A=>if_neg A
 have ae:∀k,k∈l->O k=none:=fun k A=>if_pos A
 have I:∀k r,Hp k=some r->H k=some r/\k∈l:=fun k r A=>by
  by_cases h:k∈l
  ·exact⟨by rw[<-Y k h];exact A,h⟩
  ·rw[ak k h]at A;cases A
 have M:∀k r,O k=some r->H k=some r/\k∉l:=fun k r A=>by
  by_cases h:k∈l
  ·rw[ae k h]at A;cases A
  ·exact⟨by rw[<-aa k h];exact A,h⟩
 let w1:World:={ w with drawn:=w.drawn+1 }
 have E:St S w1 H:=hS.after (Nat.le_refl _) fun _ _=>rfl
 have ai:Grow S w S w1:=hS.grow rfl rfl rfl (Nat.le_refl _) fun _ _=>rfl
 have ar:FR S w1 ρ a:=hF.keep S.le_refl (ai.kept hS);have ao:St (S.pin Hp) w1 O:=by
  refine⟨fun k A=>.inl (E.ro_fz k A),fun k A=>?_,fun k r A=>(E.rows k r (M k r A).1).keep (S.le_pin Hp) (eQ.refl S w1) (fun _ _=>rfl),fun k r A g T hf=>?_,fun k k' r r' A U af g T ag=>E.disj k k' r r' (M k r A).1 (M k' r' U).1 af g T ag,E.tabs⟩
  ·rcases A with h1|⟨i,r,X,T⟩
   ·exact E.fz_lt k h1
   ·exact(E.rows i r (I i r X).1).block_lt T
  ·rcases hf with h1|⟨i,r',X,ag⟩
   ·exact E.free k r (M k r A).1 g T h1
   ·exact E.disj k i r r' (M k r A).1 (I i r' X).1 (fun e=>(M k r A).2 (e▸(I i r' X).2)) g T ag
 have ap:Pin (S.pin Hp) w1 Hp:=by refine⟨fun k r A=>(E.rows k r (I k r A).1).keep (S.le_pin Hp) (eQ.refl S w1) (fun _ _=>rfl),fun k r A g T=>⟨.inr ⟨k,r,A,T⟩,fun h1=>E.free k r (I k r A).1 g T (E.ro_fz g h1)⟩,fun k k' r r' A U af g T=>E.disj k k' r r' (I k r A).1 (I k' r' U).1 af g T⟩
 refine wp_region_any hm (sY (C:=Cb (S.pin Hp) w1) (R:=Rw) Rw.refl _ _ _ _ ?_);have:=gK (Q':=Q') (Hp:=Hp) (K:=mI l H K) (S0:=S.pin Hp) (w0:=w1) (H0:=O) aj hs (fun ax H' a' w' S' A an au am F al av aw=>by
  have Z:∀k,k∈l->H' k=none:=fun k A=>by obtain⟨r,hr⟩:=Option.isSome_iff_exists.1 (hl k A);exact al k (hS.rows k r hr).lt (ae k A)
  let Hm:aG:=fun k=>if k∈l then H k else H' k
  have ac:∀k,k∈l->Hm k=H k:=fun k A=>if_pos A
  have ab:∀k,k∉l->Hm k=H' k:=fun k A=>if_neg A
  refine hQ ax Hm a' w' (A Z Hm ac ab) ⟨S'.unpin Hp,au.merge an (fun k r A=>?_),am.keep (S'.le_unpin Hp) (eQ.refl S' w'),?_,?_,av,aw⟩
  ·by_cases J:k∈l
   ·right;rw[Y k J,<-ac k J];exact A
   ·left;rw[<-ab k J];exact A
  ·refine hG.trans (ai.trans ⟨⟨F.le.ro, F.le.N, F.le.loc, F.le.sz⟩, fun k A => ⟨F.fz k (.inl A), fun ⟨i, r, X, hb⟩ => by
    have aq:=E.rows i r (I i r X).1;have e:S'.loc i=S.loc i:=F.le.loc i aq.lt;rw[show(S'.loc i)=S.loc i from e]at hb;exact E.free i r (I i r X).1 k hb A⟩,F.os,F.tape,F.output,F.size,fun k A=>F.same k (.inl A),fun k A=>by
    rcases F.newro k A with h2|h2
    ·exact .inl h2
    ·exact .inr fun h3=>h2 (.inl h3)⟩)
  ·intro k A h0;have hH:=hN k A h0;by_cases J:k∈l
   ·rw[ac k J];exact hH
   ·rw[ab k J];exact al k (Nat.lt_of_lt_of_le A hG.le.N) (by rw[aa k J];exact hH)) t ops.size (Array.replicate ops.size false) ρ O a w1 (S.pin Hp) ah (h Hp O Y aa ak ae) ao ap (ar.keep (S.le_pin Hp) (eQ.refl S w1)) (Grow.refl _ _) (eF.refl _ _) hd hn w1 (Rw.refl w1)
 exact this
end
end Go.Aw
end
section
namespace Go.Aw
open Go.RowKit
section
variable{P:Program}{n:Nat}{S0:Sg}{w0:World}{H0:aG}{mt:Nat->Bool}{ops:Array Oper}{K:Env->aG->Prop}{ρ:Env}{H:aG}{a:Act}{w:World}{S:Sg}
def EA(A:∀o∈ops,iF n o=true){Q':Exit->Act->World->Prop}(I:∀ρ H a w,K ρ H->Rel n S0 w0 H0 ρ H a w->Q' .normal a w):
  ∀(l:List Oper) (ρ:Env) (H:aG) (a:Act) (w:World),(∀o∈l,iF n o=true)->uD P (aX P) (cQ P) mt false ops K l ρ H->Rel n S0 w0 H0 ρ H a w->wpList P ops Q' l a w
 | [],ρ,H,a,w,_,h,hR=>I ρ H a w h hR
 | o::rest,ρ,H,a,w,hl,h,hR=>by
  obtain⟨S,hS,M,Y,O,T,hn⟩:=hR;have J:=xC (K':=wpList P ops Q' rest) (Q':=Q') A hS M Y O T hn (hl o (by simp))
   (fun F H' U w' hk Z=>EA A I rest F H' U w' (fun o X=>hl o (by simp[X])) hk Z) h
  unfold wpList;by_cases E:Region.wanted o (yielded ops a.tmps)=true
  ·rw[if_pos E];exact .inl (J.1 E)
  ·rw[if_neg E];exact J.2 (by simpa using E)
def Cls(S:Sg)(H:aG)(w1 w:World):Prop:=
 w.os=w1.os/\w.tape=w1.tape/\w.output=w1.output/\w1.heap.size<=w.heap.size/\∀k,k<w1.heap.size->w.heap[k]?=w1.heap[k]?
def Cls.st{w1:World}(A:St S w1 H)(h:Cls S H w1 w):St S w H:=A.after h.2.2.2.1 h.2.2.2.2
def Cls.grow{w1:World}(A:St S w1 H)(h:Cls S H w1 w):Grow S w1 S w:=A.grow h.1 h.2.1 h.2.2.1 h.2.2.2.1 h.2.2.2.2
def Cls.agree{w1:World}(A:St S w1 H)(h:Cls S H w1 w):Agree S H w1 w:=
 ⟨(h.grow A).kept A,fun k r F g E=>h.2.2.2.2 g ((A.rows k r F).block_lt E)⟩
def Ot{P:Program}{o:Oper}{a:Act}{w w1:World}{v:Value}(A:Cls S H w1 w)(h:o.quietAt P a (Rw w) w v):o.quietAt P a (Cls S H w1) w v:=by
 unfold Oper.quietAt at *;generalize (execOp a.eval o).run P w=r at *;cases r with
 | ok m w'=>
  cases m <;> simp only[Oper.quietUpon]at h |-
  case value u=>exact h
  case skip=>exact h
  case enter f args=>exact⟨h.1,h.2.mono fun e U ⟨O,J,F,I,T,M⟩=>⟨O,J.trans A.1,F.trans A.2.1,I.trans A.2.2.1,Nat.le_trans A.2.2.2.1 T,fun k E=>(M k (Nat.lt_of_lt_of_le E A.2.2.2.1)).trans (A.2.2.2.2 k E)⟩⟩
 | halt x w'=>simp only[Oper.quietUpon]at h
def DI{w1:World}(E:∀o∈ops,iF n o=true)(J:St S w1 H):∀(l:List Oper) (ρ:Env) (a:Act),(∀o∈l,iF n o=true)->uD P (aX P) (cQ P) mt true ops K l ρ H->FR S w1 ρ a->a.defers=[]->a.tmps.size=n ->
  wpQuiet P ops (Cls S H w1) (fun F=>∃A,K A H/\FR S w1 A F/\F.defers=[]/\F.tmps.size=n) l a
 | [],ρ,a,_,h,hF,hd,hn=>⟨ρ,h,hF,hd,hn⟩
 | o::rest,ρ,a,hl,h,hF,hd,hn=>by
  obtain⟨z,Y,h1,T⟩:=xG (CC:=Cls S H w1) (fun w I=>⟨I.st J,I.agree J⟩) E J hF hn (hl o (by simp)) h;have next:∀v,rep S w1 z v->wpQuiet P ops (Cls S H w1) (fun F=>∃A,K A H/\FR S w1 A F/\F.defers=[]/\F.tmps.size=n) rest (a.put o.dst v):=fun v O=>DI E J rest _ _ (fun o X=>hl o (by simp[X])) Y (FR.put hF O) (by rw[mN];exact hd) (by rw[vT];exact hn)
  unfold wpQuiet;by_cases M:Region.wanted o (yielded ops a.tmps)=true
  ·rw[if_pos M];obtain⟨v,O,U⟩:=h1 M;exact⟨v,fun w I=>Ot I (U w I),next v O⟩
  ·rw[if_neg M];exact next _ (T (by simpa using M))
end
def tL{P:Program}{ops:Array Oper}{C:World->Prop}{Q Q':Act->Prop}(A:∀a,Q a->Q' a):∀(l:List Oper) (a:Act),wpQuiet P ops C Q l a->wpQuiet P ops C Q' l a
 | [],a,h=>A a h
 | o::rest,a,h=>by
  unfold wpQuiet at h |-;split
  ·rename_i E;rw[if_pos E]at h;exact Oper.quiet_mono (fun I F=>tL A rest I F) h
  ·rename_i E;rw[if_neg E]at h;exact tL A rest _ h
def wO(n:Nat):Code->Bool
 | .region _ ops _=>ops.all (iF n)
 | .seq a b=>wO n a&&wO n b
 | .cond c a b=>opB n c&&(wO n a&&wO n b)
 | .block _ c=>wO n c
 | .loop c=>wO n c
 | .scope c=>wO n c
 | _=>true
def Tn(n:Nat)(S0:Sg)(w0:World)(H0:aG)(Q:Ex->Env->aG->Prop):Exit->Act->World->Prop
 | .normal,a,w=>∃ρ H,Q .normal ρ H/\Rel n S0 w0 H0 ρ H a w
 | .exit id,a,w=>∃ρ H,Q (.exit id) ρ H/\Rel n S0 w0 H0 ρ H a w
 | .ret,a,w=>∃ρ H,Q .ret ρ H/\Rel n S0 w0 H0 ρ H a w
 | _,_,_=>False
def lF{P:Program}{n:Nat}{S0:Sg}{w0:World}{H0:aG}{mt:Nat->Bool}(U:P.follows .mixedOrders=true):∀(c:Code) (Q:Ex->Env->aG->Prop) (ρ:Env) (H:aG) (a:Act) (w:World),wO n c=true ->
  awp P (aX P) (cQ P) mt c Q ρ H->Rel n S0 w0 H0 ρ H a w->c.wp P (Tn n S0 w0 H0 Q) a w
 | .skip,Q,ρ,H,a,w,_,h,A=>wp_skip ⟨ρ,H,h,A⟩
 | .region id ops false,Q,ρ,H,a,w,hb,h,A=>by
  rw[Dn]at h;have E:∀o∈ops,iF n o=true:=fun o Y=>Array.all_eq_true_iff_forall_mem.1 hb o Y
  exact wp_region_list (EA E (fun ρ H a w F O=>⟨ρ,H,F,O⟩) ops.toList ρ H a w (fun o Y=>E o (Array.mem_toList_iff.1 Y)) h A)
 | .region id ops true,Q,ρ,H,a,w,hb,h,A=>by
  rw[Lz]at h;have E:∀o∈ops,iF n o=true:=fun o Y=>Array.all_eq_true_iff_forall_mem.1 hb o Y
  rcases h with⟨_,aa,h⟩|⟨hB,h⟩|⟨f,hB,h⟩|⟨l,t,hl,hB,h⟩
  ·obtain⟨S,hS,hF,hG,hN,hd,hn⟩:=A
   let w1:World:={ w with drawn:=w.drawn+1 }
   have T:St S w1 H:=hS.after (Nat.le_refl _) fun _ _=>rfl
   have ab:Grow S w S w1:=hS.grow rfl rfl rfl (Nat.le_refl _) fun _ _=>rfl
   have aj:FR S w1 ρ a:=hF.keep S.le_refl (ab.kept hS);refine wp_region_quiet (C:=Cls S H w1) U aa ⟨rfl,rfl,rfl,Nat.le_refl _,fun _ _=>rfl⟩ ?_;have:=DI E T ops.toList ρ a (fun o Y=>E o (Array.mem_toList_iff.1 Y)) h aj hd hn;refine tL (fun Z ⟨M,F,ac,ae,af⟩ w' hc=>?_) ops.toList a this;exact⟨M,H,F,S,hc.st T,ac.keep S.le_refl ((hc.grow T).kept T),hG.trans (ab.trans (hc.grow T)),hN,ae,af⟩
  ·exact L5 U E hB h A fun ρ H a w F O=>⟨ρ,H,F,O⟩
  ·exact Tj U E hB h A fun ρ H a w F O=>⟨ρ,H,F,O⟩
  ·exact Mo U E hl hB h A fun ρ H a w F O=>⟨ρ,H,F,O⟩
 | .seq c d,Q,ρ,H,a,w,hb,h,A=>by
  simp only[wO,Bool.and_eq_true]at hb;rw[Pq]at h;refine wp_seq (wp_mono (lF U c _ ρ H a w hb.1 h A) fun e Z w' J=>?_);cases e <;> simp only[Tn,Exit.then]at J |-
  case normal=>obtain⟨M,H',F,O⟩:=J;exact lF U d Q M H' Z w' hb.2 F O
  case exit id=>exact J
  case ret=>exact J
 | .cond c x y,Q,ρ,H,a,w,hb,h,A=>by
  simp only[wO,Bool.and_eq_true]at hb;rw[LH]at h;unfold xY at h;split at h
  ·rename_i t ht;obtain⟨S,hS,hF,hG,hN,hd,hn⟩:=A;have e:=cC hF (x:=c) (hn▸hb.1);rw[ht]at e;simp only[rep]at e;have A:Rel n S0 w0 H0 ρ H a w:=⟨S,hS,hF,hG,hN,hd,hn⟩;exact wp_cond_split e (fun ht=>lF U x Q ρ H a w hb.2.1 (h.1 ht) A) (fun ht=>lF U y Q ρ H a w hb.2.2 (h.2 ht) A)
  ·exact h.elim
 | .block id c,Q,ρ,H,a,w,hb,h,A=>by
  rw[FW]at h;refine wp_block (wp_mono (lF U c _ ρ H a w hb h A) fun e Z w' J=>?_);cases e <;> simp only[Tn,Exit.inBlock]at J |-
  case normal=>exact J
  case ret=>exact J
  case exit i=>
   obtain⟨M,H',F,O⟩:=J;simp only[Ex.blk]at F;by_cases e:i=id
   ·rw[if_pos e]at F |-;exact⟨M,H',F,O⟩
   ·rw[if_neg e]at F |-;exact⟨M,H',F,O⟩
 | .loop c,Q,ρ,H,a,w,hb,h,A=>by
  rw[Lm]at h;obtain⟨I,μ,h0,X⟩:=h;refine wp_loop_ghost (fun m a w=>∃ρ H,I ρ H/\μ ρ H=m/\Rel n S0 w0 H0 ρ H a w) (μ ρ H) ⟨ρ,H,h0,rfl,A⟩ ?_;rintro m Z w' ⟨M,H',hI,rfl,ai⟩;refine wp_mono (lF U c _ M H' Z w' hb (X M H' hI) ai) fun e a2 w2 J=>?_
  cases e <;> simp only[Tn,Exit.then]at J |-
  case normal=>obtain⟨ag,H2,⟨F,ah⟩,O⟩:=J;exact⟨_,ah,ag,H2,F,rfl,O⟩
  case exit id=>exact J
  case ret=>exact J
 | .exit id,Q,ρ,H,a,w,_,h,A=>wp_exit ⟨ρ,H,h,A⟩
 | .ret,Q,ρ,H,a,w,_,h,A=>wp_ret ⟨ρ,H,h,A⟩
 | .rangeFunc ..,_,_,_,_,_,_,h,_=>by simp[awp]at h
 | .scope c,Q,ρ,H,a,w,hb,h,A=>by
  rw[FZ]at h;refine wp_scope_straight (wp_mono (lF U c _ ρ H a w hb h A) fun e Z w' J=>?_);cases e <;> simp only[Tn,Exit.noGoto]at J |-
  case normal=>exact J
  case exit id=>exact J
  case ret=>exact J
 | .label _,Q,ρ,H,a,w,_,h,A=>wp_label ⟨ρ,H,h,A⟩
 | .goto _,_,_,_,_,_,_,h,_=>by simp[awp]at h
 | .refuse _,_,_,_,_,_,_,h,_=>by simp[awp]at h
def Cl(P:Program)(ρ:Env)(H:aG):List ResultVar->(List AV->Prop)->Prop
 | [],K=>K []
 | .tmp t::r,K=>Cl P ρ H r fun l=>K (ρ t::l)
 | .cell t ty::r,K=>match ldT P ty with
   | some l=>lY none H l (ρ t) fun x=>Cl P ρ H r fun xs=>K (x::xs)
   | none=>False
def Qf(R:AV->Prop):List AV->Prop
 | [x]=>R x
 | l=>R (.tup l)
def EC(P:Program)(rs:List ResultVar)(R:AV->aG->Prop):Ex->Env->aG->Prop
 | .exit _,_,_=>False
 | _,ρ,H=>Cl P ρ H rs (Qf fun x=>R x H)
def Yo(n:Nat):ResultVar->Bool
 | .tmp t=>decide (t<n)
 | .cell t _=>decide (t<n)
def vL(fn:Func)(c:Code)(m:Nat):Bool:=wO fn.ntmps c&&fn.results.toList.all (Yo fn.ntmps)&&decide (m<=fn.ntmps)
section
variable{P:Program}{S:Sg}{H:aG}{w:World}{ρ:Env}{a:Act}
def Rh{G:Option Bool}{l:Option Nat}{x:AV}{K:AV->Prop}(h:lY G H l x K){u:Value}(A:rep S w x u):∃ad,u=.pointer (some ad):=by
 unfold lY at h;split at h
 ·simp only[rep]at A;obtain⟨b,o,rfl,_⟩:=A;exact⟨_,rfl⟩
 ·simp only[rep]at A;obtain⟨_,g,m,c,_,rfl⟩:=A;exact⟨_,rfl⟩
 ·exact h.elim
def Hj(tmps:Array Value):ResultVar->Sem Value
 | .tmp t=>pure (tmps.getD t undef)
 | .cell b t=>do loadVar t (<-asAddr (tmps.getD b undef))
def MB(fn:Func)(A:Array Value):results fn A=(do
  let vs <-fn.results.mapM (Hj A)
  pure (if h:vs.size=1 then vs[0]else .tuple vs)):=by
 unfold results
 congr 1
def vJ(U:vP S w H)(E:FR S w ρ a):∀(T:List ResultVar) (K:List AV->Prop),(∀r∈T,Yo a.tmps.size r=true)->Cl P ρ H T K ->
  ∃l vs,K l/\(T.mapM (Hj a.tmps)).run P w=.ok vs w/\aW S w l vs
 | [],K,_,h=>⟨[],[],h,by simp,by simp[aW]⟩
 | .tmp t::r,K,hb,h=>by
  simp only[Cl]at h;obtain⟨l,vs,h1,J,O⟩:=vJ U E r _ (fun x M=>hb x (by simp[M])) h;have I:t<a.tmps.size:=by simpa[Yo]using hb (.tmp t) (by simp)
  refine⟨_,a.tmps.getD t undef::vs,h1,?_,?_⟩
  ·rw[List.mapM_cons];simp only[Hj,Sem.run_bind,Sem.run_pure,Result.andThen_ok];rw[J];rfl
  ·simp only[aW];exact⟨_,_,rfl,E t I,O⟩
 | .cell t ty::r,K,hb,h=>by
  simp only[Cl]at h;split at h
  ·rename_i l Y;have I:t<a.tmps.size:=by simpa[Yo]using hb (.cell t ty) (by simp)
   obtain⟨z,Z,X⟩:=Ct (S:=S) (w:=w) Y U h;obtain⟨v,hv,F⟩:=X trivial _ (E t I);obtain⟨ad,e⟩:=Rh h (E t I);have A:=F w (Agree.refl S H w);rw[e]at A;simp only[Instr.loadAt,Instr.sureAddr,pure_bind]at A;obtain⟨l',vs,h1,J,O⟩:=vJ U E r _ (fun x M=>hb x (by simp[M])) Z;refine⟨_,v::vs,h1,?_,?_⟩
   ·have ha:(asAddr (a.tmps.getD t undef)).run P w=.ok ad w:=by rw[e];rfl
    rw[List.mapM_cons];simp only[Hj,Sem.run_bind,ha,Sem.run_pure,Result.andThen_ok,A];rw[J];rfl
   ·simp only[aW];exact⟨_,_,rfl,hv,O⟩
  ·exact h.elim
def aX.body{f:FuncId}{fn:Func}{c:Code}{args:List AV}{R:AV->aG->Prop}(mt:Nat->Bool)(hm:P.follows .mixedOrders=true)(hf:P.funcs[f]?=some fn)(hb:fn.body=some c)(hc:vL fn c args.length=true)
  (h:awp P (aX P) (cQ P) mt c (EC P fn.results.toList R) (Bx args) H):aX P f args H R:=by
 intro S w vals hS ha;simp only[vL,Bool.and_eq_true,decide_eq_true_eq]at hc;obtain⟨⟨I,U⟩,ai⟩:=hc;have ae:=eZ _ _ ha;refine calls_of_wp hf hb (wp_mono (lF (n:=fn.ntmps) (S0:=S) (w0:=w) (H0:=H) hm c _ _ H _ w I h ⟨S,hS,?_,Grow.refl S w,eF.refl _ _,rfl,?_⟩) ?_)
 ·intro t ht;by_cases e:t<args.length
  ·obtain⟨u,h1,E⟩:=Aa args vals t ha e;have hu:(vals.toArray++Array.replicate (fn.ntmps-vals.toArray.size) undef).getD t undef=u:=by
    have O:t<vals.length:=by omega
    have:vals[t]=u:=by rw[List.getElem?_eq_getElem O]at h1;injection h1
    simp[Array.getD_eq_getD_getElem?,Array.getElem?_append,O,this]
   simp only[Bx];rw[hu];exact E
  ·simp only[Bx,List.getD,List.getElem?_eq_none (by omega:args.length<=t),Option.getD_none];simp only[rep]
 ·simp only[Array.size_append,List.size_toArray,Array.size_replicate,ae];omega
 ·intro e X w' Y;have M:∀A H',Cl P A H' fn.results.toList (Qf fun x=>R x H')->Rel fn.ntmps S w H A H' X w'->X.defers=[]/\∃v,(results fn X.tmps).run P w'=.ok v w'/\aaM S w H R (.returned v) w':=by
   rintro A H' h1 ⟨S',F,ab,J,T,ac,ag⟩;refine⟨ac,?_⟩;obtain⟨l,vs,E,h3,Z⟩:=vJ (P:=P) F.rows ab fn.results.toList _ (fun r hr=>by rw[ag];exact List.all_eq_true.1 U r hr) h1;have hr:(results fn X.tmps).run P w'=.ok (if h:vs.toArray.size=1 then vs.toArray[0]else .tuple vs.toArray) w':=by rw[MB,Array.mapM_eq_mapM_toList];simp only[Sem.run_bind,Sem.run_map];rw[h3];simp only[Result.andThen_ok,Sem.run_pure]
   refine⟨_,hr,?_⟩;unfold Qf at E;split at E
   ·rename_i x;simp only[aW]at Z;obtain⟨u,t,rfl,h5,rfl⟩:=Z;exact⟨_,x,H',S',rfl,E,F,by simpa using h5,J,T⟩
   ·rename_i ah;have af:=eZ _ _ Z;have aa:¬vs.toArray.size=1:=by
     intro e;have:l.length=1:=by rw[<-af];simpa using e
     match l,this with
     | [x],_=>exact ah x rfl
    rw[dif_neg aa];exact⟨_,_,H',S',rfl,E,F,by simp only[rep];exact⟨vs,rfl,Z⟩,J,T⟩
  cases e <;> simp only[Tn,bodyPost]at Y |-
  case normal=>obtain⟨A,H',h1,E⟩:=Y;exact M A H' h1 E
  case ret=>obtain⟨A,H',h1,E⟩:=Y;exact M A H' h1 E
  case exit id=>obtain⟨A,H',h1,E⟩:=Y;exact h1.elim
def RC.body{f:FuncId}{fn:Func}{c:Code}{args:List AV}{R:AV->aG->Prop}(mt:Nat->Bool)(A:P.follows .mixedOrders=true)(J:P.funcs[f]?=some fn)(F:fn.body=some c)(E:vL fn c args.length=true)
 (h:awp P (aX P) (cQ P) mt c (EC P fn.results.toList R) (Bx args) bG):RC P f args R:=fun S w vals M _ I=>aX.body mt A J F E h S w vals M I
def PC.body{f:FuncId}{fn:Func}{c:Code}{args:List AV}{r:AV}(mt:Nat->Bool)(A:P.follows .mixedOrders=true)(I:P.funcs[f]?=some fn)(F:fn.body=some c)(E:vL fn c args.length=true)
 (h:awp P (aX P) (cQ P) mt c (EC P fn.results.toList fun x H'=>Conv H' x r) (Bx args) bG):PC P f args r:=RC.conv (RC.body mt A I F E h)
def NC.body{f:FuncId}{fn:Func}{c:Code}{args:List AV}{row:Row}{A:Nat->AV}(mt:Nat->Bool)(E:P.follows .mixedOrders=true)(J:P.funcs[f]?=some fn)(I:fn.body=some c)(F:vL fn c args.length=true)
 (h:awp P (aX P) (cQ P) mt c (EC P fn.results.toList fun x H'=>∃k,x=A k/\H' k=some row) (Bx args) bG):NC P f args row A:=RC.body mt E J I F h
def PC.q{f:FuncId}{args:List AV}{r:AV}(h:PC P f args r)(A:(fv r).isSome=true):cQ P f args H r:=.inl ⟨args,ConvL.refl args,h,A⟩
def cQ.use{f:FuncId}{args:List AV}{r:AV}{K:AV->aG->Prop}(h:uN P f args H r)(A:K r H):aX P f args H K:=uN.use h A
end
end Go.Aw
end
section
namespace Go.Proofs.YtkjdacijpeiphaaGreatDoor.Ty
open Go.Aw Go.Proofs
theorem sB{P:Program}{t:TypeId}(h:(P.info? t).map (·.size)=some 1):∃i,P.info? t=some i/\i.size=1:=by
 cases A:P.info? t with
 | none=>simp[A]at h
 | some i=>exact⟨i,rfl,by simpa[A]using h⟩
theorem mixed:Tryz.prog.follows .mixedOrders=true:=by kernel_rfl
theorem Z3:bN Tryz.prog 73=some (72,2,16):=by kernel_rfl
theorem aaU:bN Tryz.prog 74=some (4,1,1):=by kernel_rfl
theorem Y3:bN Tryz.prog 216=some (259,2,16):=by kernel_rfl
theorem xZ:Ni Tryz.prog 163=some (3,3):=by kernel_rfl
theorem kk3:qZ Tryz.prog 3=some 0:=by kernel_rfl
theorem zv3:FG Tryz.prog 3=some (.v (.int .i64 0)):=by kernel_rfl
theorem so3:∃i,Tryz.prog.info? 3=some i/\i.size=1:=sB (by kernel_rfl)
theorem so4:∃i,Tryz.prog.info? 4=some i/\i.size=1:=sB (by kernel_rfl)
theorem ZI:∃i,Tryz.prog.info? 23=some i/\i.size=1:=sB (by kernel_rfl)
theorem T2:∃i,Tryz.prog.info? 59=some i/\i.size=1:=sB (by kernel_rfl)
theorem Um:∃i,Tryz.prog.info? 118=some i/\i.size=1:=sB (by kernel_rfl)
theorem Y0:∃i,Tryz.prog.info? 195=some i/\i.size=1:=sB (by kernel_rfl)
open Go.Proofs.Tryz(prog)
theorem tyJ0:DS prog 3=some .i64/\DS prog 5=some .u8/\dS prog 9=true/\DS prog 311=some .u64/\xA prog 4=true/\sN prog 33=some [0,0,0,0]/\sN prog 72=some [0,2]/\sN prog 259=some [0,0]/\sN prog 324=some [0,0,0]/\aK prog 25 0=some (0,none)/\aK prog 25 1=some (1,none)/\aK prog 28 0=some (0,none)/\aK prog 28 1=some (1,some 2)/\aK prog 28 2=some (3,none)/\aK prog 33 0=some (0,none)/\aK prog 33 1=some (1,none)/\aK prog 33 2=some (2,none)/\aK prog 33 3=some (3,none)/\aK prog 35 0=some (0,none)/\aK prog 35 1=some (1,none)/\aK prog 35 2=some (2,none)/\aK prog 35 3=some (3,none)/\aK prog 35 4=some (4,some 4)/\aK prog 35 5=some (8,none)/\aK prog 35 6=some (9,none)/\aK prog 45 0=some (0,none)/\aK prog 45 1=some (1,none)/\aK prog 50 0=some (0,some 2)/\aK prog 50 1=some (2,none)/\aK prog 50 2=some (3,none)/\aK prog 50 3=some (4,none)/\aK prog 50 4=some (5,none)/\aK prog 56 0=some (0,none)/\aK prog 56 1=some (1,none)/\aK prog 56 2=some (2,none)/\aK prog 56 3=some (3,none)/\aK prog 58 1=some (1,none)/\aK prog 58 2=some (2,some 4)/\aK prog 58 3=some (6,some 4)/\aK prog 58 4=some (10,none):=by and_intros<;>kernel_rfl
theorem abG:aK prog 58 5=some (11,none)/\aK prog 58 7=some (13,none)/\aK prog 58 8=some (14,none)/\aK prog 58 9=some (15,none)/\aK prog 65 0=some (0,none)/\aK prog 65 1=some (1,none)/\aK prog 68 0=some (0,none)/\aK prog 68 1=some (1,none)/\aK prog 68 2=some (2,none)/\aK prog 68 3=some (3,none)/\aK prog 68 4=some (4,none)/\aK prog 68 5=some (5,none)/\aK prog 70 1=some (1,none)/\aK prog 70 2=some (2,none)/\aK prog 70 3=some (3,none)/\aK prog 70 4=some (4,none)/\aK prog 70 5=some (5,none)/\aK prog 70 6=some (6,none)/\aK prog 70 7=some (7,none)/\aK prog 70 8=some (8,none)/\aK prog 70 9=some (9,none)/\aK prog 70 10=some (10,none)/\aK prog 70 11=some (11,none)/\aK prog 70 12=some (12,none)/\aK prog 70 13=some (13,none)/\aK prog 72 0=some (0,none)/\aK prog 72 1=some (1,none)/\aK prog 76 0=some (0,none)/\aK prog 76 1=some (1,none)/\aK prog 76 2=some (2,none)/\aK prog 76 3=some (3,none)/\aK prog 85 0=some (0,some 6)/\aK prog 85 1=some (6,none)/\aK prog 85 2=some (7,none)/\aK prog 85 3=some (8,none)/\aK prog 99 0=some (0,none)/\aK prog 99 1=some (1,none)/\aK prog 99 2=some (2,none)/\aK prog 99 3=some (3,none)/\aK prog 104 0=some (0,none):=by and_intros<;>kernel_rfl
theorem abR:aK prog 104 1=some (1,none)/\aK prog 104 2=some (2,none)/\aK prog 110 0=some (0,none)/\aK prog 110 1=some (1,none)/\aK prog 120 0=some (0,none)/\aK prog 120 1=some (1,none)/\aK prog 120 2=some (2,none)/\aK prog 120 3=some (3,none)/\aK prog 120 4=some (4,none)/\aK prog 137 0=some (0,none)/\aK prog 137 1=some (1,none)/\aK prog 137 2=some (2,none)/\aK prog 140 0=some (0,none)/\aK prog 140 1=some (1,none)/\aK prog 140 2=some (2,none)/\aK prog 140 3=some (3,some 4)/\aK prog 197 0=some (0,some 6)/\aK prog 197 1=some (6,some 14)/\aK prog 197 2=some (20,some 4)/\aK prog 197 3=some (24,none)/\aK prog 201 0=some (0,none)/\aK prog 201 1=some (1,none)/\aK prog 201 2=some (2,some 5)/\aK prog 213 0=some (0,some 6)/\aK prog 213 1=some (6,none)/\aK prog 213 2=some (7,none)/\aK prog 213 3=some (8,none)/\aK prog 213 4=some (9,some 7)/\aK prog 213 5=some (16,none)/\aK prog 231 0=some (0,none)/\aK prog 231 1=some (1,none)/\aK prog 259 0=some (0,none)/\aK prog 259 1=some (1,none)/\aK prog 280 2=some (2,none)/\aK prog 280 3=some (3,none)/\bN prog 22=some (76,4,64)/\bS prog 22=true/\bN prog 23=some (3,1,8)/\bS prog 23=true/\bN prog 26=some (35,10,112):=by and_intros<;>kernel_rfl
theorem ZW:bS prog 26=true/\bN prog 30=some (104,3,24)/\bS prog 30=true/\bN prog 31=some (54,1,16)/\bS prog 31=true/\bN prog 36=some (59,1,24)/\bS prog 36=true/\bN prog 42=some (9,1,16)/\bS prog 42=true/\bN prog 43=some (68,6,80)/\bS prog 43=true/\bN prog 46=some (70,14,136)/\bS prog 46=true/\bN prog 47=some (58,16,152)/\bS prog 47=true/\bN prog 48=some (87,2,16)/\bS prog 48=true/\bN prog 59=some (33,4,32)/\bS prog 59=true/\bN prog 66=some (65,2,16)/\bS prog 66=true/\bS prog 73=true/\bS prog 74=true/\bN prog 83=some (140,7,88)/\bS prog 83=true/\zC prog 87=some (2,1,none)/\bN prog 108=some (137,3,40)/\bS prog 108=true/\bN prog 118=some (280,4,32)/\bS prog 118=true/\zC prog 126=some (4,1,none)/\bN prog 151=some (92,1,8)/\bS prog 151=true/\bN prog 189=some (23,1,24)/\bS prog 189=true/\bN prog 195=some (56,4,32)/\bS prog 195=true/\bN prog 203=some (201,7,72)/\bS prog 203=true/\bS prog 216=true:=by and_intros<;>kernel_rfl
theorem ZU:bN prog 227=some (231,2,24)/\bS prog 227=true/\bN prog 260=some (3,1,8)/\bS prog 260=true/\zC prog 268=some (2,1,none)/\bN prog 292=some (268,2,32)/\bS prog 292=true/\bS prog 344=true/\ldT prog 3=some none/\ldT prog 4=some none/\ldT prog 9=some none/\ldT prog 22=some none/\ldT prog 23=some none/\ldT prog 25=some (some 2)/\ldT prog 26=some none/\ldT prog 28=some (some 4)/\ldT prog 30=some none/\ldT prog 31=some none/\ldT prog 33=some (some 4)/\ldT prog 35=some (some 10)/\ldT prog 37=some none/\ldT prog 42=some none/\ldT prog 43=some none/\ldT prog 45=some (some 2)/\ldT prog 46=some none/\ldT prog 47=some none/\ldT prog 48=some none/\ldT prog 50=some (some 6)/\ldT prog 54=some none/\ldT prog 56=some (some 4)/\ldT prog 58=some (some 16)/\ldT prog 59=some none/\ldT prog 65=some (some 2)/\ldT prog 66=some none/\ldT prog 68=some (some 6)/\ldT prog 70=some (some 14)/\ldT prog 72=some (some 2)/\ldT prog 73=some none/\ldT prog 74=some none/\ldT prog 76=some (some 4):=by and_intros<;>kernel_rfl
theorem aaQ:ldT prog 83=some none/\ldT prog 87=some (some 2)/\ldT prog 92=some none/\ldT prog 99=some (some 4)/\ldT prog 104=some (some 3)/\ldT prog 108=some none/\ldT prog 110=some (some 2)/\ldT prog 118=some none/\ldT prog 120=some (some 5)/\ldT prog 126=some (some 4)/\ldT prog 137=some (some 3)/\ldT prog 140=some (some 7)/\ldT prog 195=some none/\ldT prog 197=some (some 25)/\ldT prog 201=some (some 7)/\ldT prog 206=some none/\ldT prog 231=some (some 2)/\ldT prog 259=some (some 2)/\ldT prog 268=some (some 2)/\ldT prog 324=some (some 3)/\cR prog 25=some [(0,1),(1,1)]/\cR prog 28=some [(0,1),(1,2),(3,1)]/\cR prog 33=some [(0,1),(1,1),(2,1),(3,1)]/\cR prog 35=some [(0,1),(1,1),(2,1),(3,1),(4,4),(8,1),(9,1)]/\cR prog 45=some [(0,1),(1,1)]/\cR prog 50=some [(0,2),(2,1),(3,1),(4,1),(5,1)]/\cR prog 56=some [(0,1),(1,1),(2,1),(3,1)]/\cR prog 58=some [(0,1),(1,1),(2,4),(6,4),(10,1),(11,1),(12,1),(13,1),(14,1),(15,1)]/\cR prog 65=some [(0,1),(1,1)]/\cR prog 68=some [(0,1),(1,1),(2,1),(3,1),(4,1),(5,1)]/\cR prog 70=some [(0,1),(1,1),(2,1),(3,1),(4,1),(5,1),(6,1),(7,1),(8,1),(9,1),(10,1),(11,1),(12,1),(13,1)]/\cR prog 72=some [(0,1),(1,1)]/\cR prog 76=some [(0,1),(1,1),(2,1),(3,1)]/\cR prog 85=some [(0,6),(6,1),(7,1),(8,1)]/\cR prog 87=some [(0,1),(1,1)]/\cR prog 99=some [(0,1),(1,1),(2,1),(3,1)]/\cR prog 110=some [(0,1),(1,1)]/\cR prog 120=some [(0,1),(1,1),(2,1),(3,1),(4,1)]/\cR prog 126=some [(0,1),(1,1),(2,1),(3,1)]/\cR prog 137=some [(0,1),(1,1),(2,1)]:=by and_intros<;>kernel_rfl
theorem Zs:cR prog 140=some [(0,1),(1,1),(2,1),(3,4)]/\cR prog 197=some [(0,6),(6,14),(20,4),(24,1)]/\cR prog 201=some [(0,1),(1,1),(2,5)]/\cR prog 213=some [(0,6),(6,1),(7,1),(8,1),(9,7),(16,1)]/\cR prog 231=some [(0,1),(1,1)]/\cR prog 259=some [(0,1),(1,1)]/\cR prog 268=some [(0,1),(1,1)]/\cR prog 280=some [(0,1),(1,1),(2,1),(3,1)]/\cR prog 324=some [(0,1),(1,1),(2,1)]/\cM prog 3=some [.v (.int .i64 0)]/\cM prog 4=some [.v (.bool false)]/\cM prog 9=some [.v (.string ByteArray.empty)]/\cM prog 23=some [.sl []]/\cM prog 25=some [.sl [],.sl []]/\cM prog 28=some [.v (.bool false),.sl [],.sl [],.sl []]/\cM prog 33=some [.v (.int .i64 0),.v (.int .i64 0),.v (.int .i64 0),.v (.int .i64 0)]/\cM prog 35=some [.v (.bool false),.v (.int .i64 0),.sl [],.sl [],.v (.int .i64 0),.v (.int .i64 0),.v (.int .i64 0),.v (.int .i64 0),.v (.int .i64 0),.v (.int .i64 0)]/\cM prog 45=some [.sl [],.sl []]/\cM prog 50=some [.sl [],.sl [],.sl [],.sl [],.sl [],.sl []]/\cM prog 56=some [.v (.int .i64 0),.v (.int .i64 0),.v (.int .i64 0),.v (.int .i64 0)]/\cM prog 58=some [.v (.string ByteArray.empty),.sl [],.v (.int .i64 0),.v (.int .i64 0),.v (.int .i64 0),.v (.int .i64 0),.v (.int .i64 0),.v (.int .i64 0),.v (.int .i64 0),.v (.int .i64 0),.v (.int .i64 0),.v (.int .i64 0),.v (.int .i64 0),.v (.int .i64 0),.v (.int .i64 0),.v (.bool false)]/\cM prog 59=some [.sl []]/\cM prog 65=some [.v (.int .i64 0),.v (.int .i64 0)]/\cM prog 68=some [.v (.int .i64 0),.v (.int .i64 0),.v (.int .i64 0),.v (.int .i64 0),.sl [],.sl []]/\cM prog 70=some [.v (.string ByteArray.empty),.v (.int .i64 0),.v (.int .i64 0),.v (.int .i64 0),.sl [],.v (.int .i64 0),.v (.int .i64 0),.v (.int .i64 0),.v (.int .i64 0),.v (.int .i64 0),.v (.int .i64 0),.v (.int .i64 0),.v (.int .i64 0),.v (.int .i64 0)]/\cM prog 72=some [.v (.int .i64 0),.v (.bool false)]/\cM prog 76=some [.v (.int .i64 0),.v (.int .i64 0),.sl [],.sl []]/\cM prog 85=some [.sl [],.sl [],.sl [],.sl [],.sl [],.sl [],.sl [],.v (.int .i64 0),.v (.bool false)]/\cM prog 87=some [.v (.int .i64 0),.v (.int .i64 0)]/\cM prog 99=some [.v (.int .i64 0),.v (.int .i64 0),.v (.int .i64 0),.v (.int .i64 0)]/\cM prog 104=some [.v (.int .i64 0),.v (.int .i64 0),.v (.int .i64 0)]/\nU prog 110=some [(0,3,1),(1,137,3)]/\cM prog 110=some [.sl [],.sl []]/\cM prog 120=some [.v (.bool false),.v (.int .i64 0),.sl [],.v (.int .i64 0),.v (.int .i64 0)]/\cM prog 126=some [.v (.int .i64 0),.v (.int .i64 0),.v (.int .i64 0),.v (.int .i64 0)]/\nU prog 137=some [(0,3,1)]/\cM prog 137=some [.sl [],.v (.int .i64 0),.v (.int .i64 0)]/\cM prog 140=some [.v (.int .i64 0),.v (.int .i64 0),.v (.int .i64 0),.v (.int .i64 0),.v (.int .i64 0),.sl [],.sl []]/\nU prog 197=some [(0,9,1),(1,68,6),(2,70,14),(3,58,16),(4,87,2),(5,87,2),(10,3,1),(22,4,1),(23,72,2),(24,56,4)]/\cM prog 197=some [.sl [],.sl [],.sl [],.sl [],.sl [],.sl [],.v (.string ByteArray.empty),.v (.int .i64 0),.v (.int .i64 0),.v (.int .i64 0),.sl [],.v (.int .i64 0),.v (.int .i64 0),.v (.int .i64 0),.v (.int .i64 0),.v (.int .i64 0),.v (.int .i64 0),.v (.int .i64 0),.v (.int .i64 0),.v (.int .i64 0),.v (.int .i64 0),.v (.int .i64 0),.sl [],.sl [],.sl []]:=by and_intros<;>kernel_rfl
theorem ZZ:cM prog 201=some [.v (.int .i64 0),.v (.int .i64 0),.v (.bool false),.v (.int .i64 0),.sl [],.v (.int .i64 0),.v (.int .i64 0)]/\cM prog 213=some [.sl [],.sl [],.sl [],.sl [],.sl [],.sl [],.v (.int .i64 0),.v (.int .i64 0),.v (.int .i64 0),.v (.int .i64 0),.v (.int .i64 0),.v (.int .i64 0),.v (.int .i64 0),.v (.int .i64 0),.sl [],.sl [],.v (.bool false)]/\cM prog 231=some [.v (.bool false),.v (.string ByteArray.empty)]/\cM prog 259=some [.v (.int .i64 0),.v (.int .i64 0)]/\cM prog 268=some [.v (.string ByteArray.empty),.v (.string ByteArray.empty)]/\cM prog 280=some [.v (.int .i64 0),.v (.int .i64 0),.v (.int .i64 0),.v (.bool false)]/\cM prog 324=some [.v (.int .i64 0),.v (.int .i64 0),.v (.int .i64 0)]/\aH prog 4=true/\aH prog 5=true/\aH prog 6=true/\aH prog 7=true/\aH prog 8=true/\aH prog 9=true/\aH prog 10=true/\aH prog 11=true/\aH prog 12=true/\aH prog 13=true/\aH prog 14=true/\aH prog 15=true/\aH prog 16=true/\aH prog 17=true/\aH prog 18=true/\aH prog 19=true/\aH prog 20=true/\aH prog 21=true/\aH prog 22=true/\aH prog 23=true/\aH prog 24=true/\aH prog 25=true/\aH prog 27=true/\aH prog 30=true/\aH prog 31=true/\aH prog 32=true/\aH prog 33=true/\aH prog 34=true/\aH prog 35=true/\aH prog 36=true/\aH prog 37=true/\aH prog 38=true/\aH prog 39=true:=by and_intros<;>kernel_rfl
theorem ZT:aH prog 40=true/\aH prog 41=true/\aH prog 42=true/\aH prog 43=true/\aH prog 44=true/\aH prog 45=true/\aH prog 46=true/\aH prog 47=true/\aH prog 48=true/\aH prog 49=true/\aH prog 50=true/\aH prog 51=true/\aH prog 52=true/\aH prog 53=true/\aH prog 54=true/\aH prog 55=true/\aH prog 56=true/\aH prog 57=true/\aH prog 58=true/\aH prog 60=true/\aH prog 61=true/\aH prog 63=true/\aH prog 64=true/\aH prog 65=true/\aH prog 66=true/\aH prog 67=true/\aH prog 68=true/\aH prog 69=true/\aH prog 70=true/\aH prog 71=true/\aH prog 72=true/\aH prog 73=true/\aH prog 74=true/\aH prog 75=true/\aH prog 76=true/\aH prog 77=true/\aH prog 78=true/\aH prog 79=true/\aH prog 80=true/\aH prog 81=true:=by and_intros<;>kernel_rfl
theorem ZO:aH prog 82=true/\aH prog 84=true/\aH prog 85=true/\aH prog 86=true/\aH prog 87=true/\aH prog 88=true/\aH prog 89=true/\aH prog 90=true/\aH prog 91=true/\aH prog 92=true/\aH prog 93=true/\aH prog 94=true/\aH prog 95=true/\aH prog 96=true/\aH prog 97=true/\aH prog 98=true/\aH prog 99=true/\aH prog 100=true/\aH prog 101=true/\aH prog 102=true/\aH prog 103=true/\aH prog 104=true/\aH prog 105=true/\aH prog 106=true/\aH prog 107=true/\aH prog 108=true/\aH prog 109=true/\aH prog 110=true/\aH prog 112=true/\aH prog 113=true/\aH prog 117=true/\aH prog 118=true/\aH prog 119=true/\aH prog 120=true/\aH prog 121=true/\aH prog 122=true/\aH prog 123=true/\aH prog 124=true/\aH prog 125=true/\aH prog 126=true:=by and_intros<;>kernel_rfl
theorem aaB:aH prog 127=true/\aH prog 128=true/\aH prog 129=true/\aH prog 130=true/\aH prog 131=true/\aH prog 132=true/\aH prog 133=true/\aH prog 134=true/\aH prog 135=true/\aH prog 136=true/\aH prog 137=true/\aH prog 138=true/\aH prog 139=true/\aH prog 140=true/\aH prog 141=true/\aH prog 142=true/\aH prog 143=true/\aH prog 145=true/\aH prog 146=true/\aH prog 147=true/\aH prog 148=true/\aH prog 149=true/\aH prog 150=true/\aH prog 151=true/\aH prog 152=true/\aH prog 153=true/\aH prog 154=true/\aH prog 155=true/\aH prog 156=true/\aH prog 157=true/\aH prog 158=true/\aH prog 159=true/\aH prog 160=true/\aH prog 162=true/\aH prog 163=true/\aH prog 164=true/\aH prog 165=true/\aH prog 167=true/\aH prog 168=true/\aH prog 169=true:=by and_intros<;>kernel_rfl
theorem aaN:aH prog 171=true/\aH prog 172=true/\aH prog 173=true/\aH prog 174=true/\aH prog 175=true/\aH prog 176=true/\aH prog 177=true/\aH prog 178=true/\aH prog 179=true/\aH prog 180=true/\aH prog 181=true/\aH prog 182=true/\aH prog 183=true/\aH prog 184=true/\aH prog 185=true/\aH prog 186=true/\aH prog 187=true/\aH prog 188=true/\aH prog 189=true/\aH prog 190=true/\aH prog 191=true/\aH prog 192=true/\aH prog 193=true/\aH prog 194=true/\aH prog 195=true/\aH prog 196=true/\aH prog 197=true/\aH prog 198=true/\aH prog 199=true/\aH prog 200=true/\aH prog 202=true/\aH prog 207=true/\aH prog 209=true/\aH prog 210=true/\aH prog 211=true/\aH prog 212=true/\aH prog 213=true/\aH prog 214=true/\aH prog 215=true/\aH prog 220=true:=by and_intros<;>kernel_rfl
theorem aaS:aH prog 226=true/\aH prog 228=true/\aH prog 232=true/\aH prog 233=true/\aH prog 234=true/\aH prog 235=true/\aH prog 247=true/\aH prog 248=true/\aH prog 249=true/\aH prog 253=true/\aH prog 254=true:=by and_intros<;>kernel_rfl
attribute [go_sem] Z3 aaU Y3 xZ kk3 zv3 so3 so4 ZI T2 Um Y0 tyJ0 abG abR ZW ZU aaQ Zs ZZ ZT ZO aaB aaN aaS
end Go.Proofs.YtkjdacijpeiphaaGreatDoor.Ty
end
section
namespace Go.Aw.D
open Go.Aw
def aQ(n:Int):List AV:=[.v (.int .i64 n)]
def dX(b:Bool):List AV:=[.v (.bool b)]
def dB(s:ByteArray):List AV:=[.v (.string s)]
def Dw(x:Int):(aQ x).length=1:=rfl
def UE(x:Int):(aQ x).getD 0 .any=.v (.int .i64 x):=rfl
def KW(x:Bool):(dX x).length=1:=rfl
def QU(x:Bool):(dX x).getD 0 .any=.v (.bool x):=rfl
def NG(x:ByteArray):(dB x).length=1:=rfl
def VF(x:ByteArray):(dB x).getD 0 .any=.v (.string x):=rfl
structure Point where
 t:Int
 a:Int
 deriving DecidableEq
def cT(x:Point):List AV:=[.v (.int .i64 x.t),.v (.int .i64 x.a)]
def gI(x:Point):(cT x).length=2:=rfl
def OK(x:Point):(cT x).getD 0 .any=.v (.int .i64 x.t):=rfl
def N1(x:Point):(cT x).getD 1 .any=.v (.int .i64 x.a):=rfl
def AY(x:Point):(cT x).take 2=cT x:=rfl
structure Arc where
 src:Int
 dst:Int
 profile:Int
 miles:Int
 travel:List Point
 slow:List Point
 deriving DecidableEq
def eH(x:Arc):List AV:=[.v (.int .i64 x.src),.v (.int .i64 x.dst),.v (.int .i64 x.profile),.v (.int .i64 x.miles),.sl (x.travel.map cT),.sl (x.slow.map cT)]
def jR(x:Arc):(eH x).length=6:=rfl
def Vf(x:Arc):(eH x).getD 0 .any=.v (.int .i64 x.src):=rfl
def U8(x:Arc):(eH x).getD 1 .any=.v (.int .i64 x.dst):=rfl
def Va(x:Arc):(eH x).getD 2 .any=.v (.int .i64 x.profile):=rfl
def Wd(x:Arc):(eH x).getD 3 .any=.v (.int .i64 x.miles):=rfl
def UV(x:Arc):(eH x).getD 4 .any=.sl (x.travel.map cT):=rfl
def TW(x:Arc):(eH x).getD 5 .any=.sl (x.slow.map cT):=rfl
def Ou(x:Arc):(eH x).take 6=eH x:=rfl
structure Network where
 places:List ByteArray
 arcs:List Arc
 deriving DecidableEq
def gA(x:Network):List AV:=[.sl (x.places.map dB),.sl (x.arcs.map eH)]
def DK(x:Network):(gA x).length=2:=rfl
def Ig(x:Network):(gA x).getD 0 .any=.sl (x.places.map dB):=rfl
def H7(x:Network):(gA x).getD 1 .any=.sl (x.arcs.map eH):=rfl
def Es(x:Network):(gA x).take 2=gA x:=rfl
structure VType where
 name:ByteArray
 count:Int
 src:Int
 dst:Int
 cap:List Int
 skills:Int
 profile:Int
 start:Int
 close:Int
 drive:Int
 rest:Int
 fixed:Int
 perMile:Int
 perTick:Int
 deriving DecidableEq
def bM(x:VType):List AV:=[.v (.string x.name),.v (.int .i64 x.count),.v (.int .i64 x.src),.v (.int .i64 x.dst),.sl (x.cap.map aQ),.v (.int .i64 x.skills),.v (.int .i64 x.profile),.v (.int .i64 x.start),.v (.int .i64 x.close),.v (.int .i64 x.drive),.v (.int .i64 x.rest),.v (.int .i64 x.fixed),.v (.int .i64 x.perMile),.v (.int .i64 x.perTick)]
def jZ(x:VType):(bM x).length=14:=rfl
def MM(x:VType):(bM x).getD 0 .any=.v (.string x.name):=rfl
def Mz(x:VType):(bM x).getD 1 .any=.v (.int .i64 x.count):=rfl
def Nx(x:VType):(bM x).getD 2 .any=.v (.int .i64 x.src):=rfl
def Ny(x:VType):(bM x).getD 3 .any=.v (.int .i64 x.dst):=rfl
def Nd(x:VType):(bM x).getD 4 .any=.sl (x.cap.map aQ):=rfl
def M9(x:VType):(bM x).getD 5 .any=.v (.int .i64 x.skills):=rfl
def Of(x:VType):(bM x).getD 6 .any=.v (.int .i64 x.profile):=rfl
def OO(x:VType):(bM x).getD 7 .any=.v (.int .i64 x.start):=rfl
def ND(x:VType):(bM x).getD 8 .any=.v (.int .i64 x.close):=rfl
def NU(x:VType):(bM x).getD 9 .any=.v (.int .i64 x.drive):=rfl
def LJ(x:VType):(bM x).getD 10 .any=.v (.int .i64 x.rest):=rfl
def LA(x:VType):(bM x).getD 11 .any=.v (.int .i64 x.fixed):=rfl
def Lx(x:VType):(bM x).getD 12 .any=.v (.int .i64 x.perMile):=rfl
def Ks(x:VType):(bM x).getD 13 .any=.v (.int .i64 x.perTick):=rfl
def IP(x:VType):(bM x).take 14=bM x:=rfl
structure Stop where
 place:Int
 start:Int
 close:Int
 service:Int
 deriving DecidableEq
def dQ(x:Stop):List AV:=[.v (.int .i64 x.place),.v (.int .i64 x.start),.v (.int .i64 x.close),.v (.int .i64 x.service)]
def jW(x:Stop):(dQ x).length=4:=rfl
def RU(x:Stop):(dQ x).getD 0 .any=.v (.int .i64 x.place):=rfl
def Rb(x:Stop):(dQ x).getD 1 .any=.v (.int .i64 x.start):=rfl
def SB(x:Stop):(dQ x).getD 2 .any=.v (.int .i64 x.close):=rfl
def Tp(x:Stop):(dQ x).getD 3 .any=.v (.int .i64 x.service):=rfl
def LT(x:Stop):(dQ x).take 4=dQ x:=rfl
structure Order where
 name:ByteArray
 load:List Int
 pick:Stop
 drop:Stop
 skills:Int
 penalty:Int
 split:Int
 last:Int
 now:Int
 off:Bool
 deriving DecidableEq
def bF(x:Order):List AV:=[.v (.string x.name),.sl (x.load.map aQ),.v (.int .i64 x.pick.place),.v (.int .i64 x.pick.start),.v (.int .i64 x.pick.close),.v (.int .i64 x.pick.service),.v (.int .i64 x.drop.place),.v (.int .i64 x.drop.start),.v (.int .i64 x.drop.close),.v (.int .i64 x.drop.service),.v (.int .i64 x.skills),.v (.int .i64 x.penalty),.v (.int .i64 x.split),.v (.int .i64 x.last),.v (.int .i64 x.now),.v (.bool x.off)]
def kB(x:Order):(bF x).length=16:=rfl
def MK(x:Order):(bF x).getD 0 .any=.v (.string x.name):=rfl
def NZ(x:Order):(bF x).getD 1 .any=.sl (x.load.map aQ):=rfl
def Ox(x:Order):(bF x).getD 2 .any=.v (.int .i64 x.pick.place):=rfl
def MA(x:Order):(bF x).getD 3 .any=.v (.int .i64 x.pick.start):=rfl
def Mc(x:Order):(bF x).getD 4 .any=.v (.int .i64 x.pick.close):=rfl
def Mt(x:Order):(bF x).getD 5 .any=.v (.int .i64 x.pick.service):=rfl
def NF(x:Order):(bF x).getD 6 .any=.v (.int .i64 x.drop.place):=rfl
def MN(x:Order):(bF x).getD 7 .any=.v (.int .i64 x.drop.start):=rfl
def MG(x:Order):(bF x).getD 8 .any=.v (.int .i64 x.drop.close):=rfl
def OA(x:Order):(bF x).getD 9 .any=.v (.int .i64 x.drop.service):=rfl
def LF(x:Order):(bF x).getD 10 .any=.v (.int .i64 x.skills):=rfl
def Je(x:Order):(bF x).getD 11 .any=.v (.int .i64 x.penalty):=rfl
def Kk(x:Order):(bF x).getD 12 .any=.v (.int .i64 x.split):=rfl
def Ko(x:Order):(bF x).getD 13 .any=.v (.int .i64 x.last):=rfl
def K0(x:Order):(bF x).getD 14 .any=.v (.int .i64 x.now):=rfl
def Kh(x:Order):(bF x).getD 15 .any=.v (.bool x.off):=rfl
def HJ(x:Order):(bF x).take 16=bF x:=rfl
def Fc(x:Order):((bF x).drop 2).take 4=dQ x.pick:=rfl
def Fs(x:Order):((bF x).drop 6).take 4=dQ x.drop:=rfl
structure Pair where
 a:Int
 b:Int
 deriving DecidableEq
def dL(x:Pair):List AV:=[.v (.int .i64 x.a),.v (.int .i64 x.b)]
def jV(x:Pair):(dL x).length=2:=rfl
def SC(x:Pair):(dL x).getD 0 .any=.v (.int .i64 x.a):=rfl
def QI(x:Pair):(dL x).getD 1 .any=.v (.int .i64 x.b):=rfl
def I9(x:Pair):(dL x).take 2=dL x:=rfl
structure Instance where
 net:Network
 types:List VType
 orders:List Order
 apart:List Pair
 before:List Pair
 deriving DecidableEq
def aE(x:Instance):List AV:=[.sl (x.net.places.map dB),.sl (x.net.arcs.map eH),.sl (x.types.map bM),.sl (x.orders.map bF),.sl (x.apart.map dL),.sl (x.before.map dL)]
def CN(x:Instance):(aE x).length=6:=rfl
def E7(x:Instance):(aE x).getD 0 .any=.sl (x.net.places.map dB):=rfl
def Fu(x:Instance):(aE x).getD 1 .any=.sl (x.net.arcs.map eH):=rfl
def Fq(x:Instance):(aE x).getD 2 .any=.sl (x.types.map bM):=rfl
def Fv(x:Instance):(aE x).getD 3 .any=.sl (x.orders.map bF):=rfl
def Fx(x:Instance):(aE x).getD 4 .any=.sl (x.apart.map dL):=rfl
def E4(x:Instance):(aE x).getD 5 .any=.sl (x.before.map dL):=rfl
def CQ(x:Instance):(aE x).take 6=aE x:=rfl
def CX(x:Instance):(aE x).take 2=gA x.net:=rfl
structure Visit where
 order:Int
 drop:Bool
 deriving DecidableEq
def aL(x:Visit):List AV:=[.v (.int .i64 x.order),.v (.bool x.drop)]
def cN(x:Visit):(aL x).length=2:=rfl
def Nl(x:Visit):(aL x).getD 0 .any=.v (.int .i64 x.order):=rfl
def N7(x:Visit):(aL x).getD 1 .any=.v (.bool x.drop):=rfl
def IQ(x:Visit):(aL x).take 2=aL x:=rfl
structure Route where
 type:Int
 start:Int
 rests:List Bool
 visits:List Visit
 deriving DecidableEq
def bI(x:Route):List AV:=[.v (.int .i64 x.type),.v (.int .i64 x.start),.sl (x.rests.map dX),.sl (x.visits.map aL)]
def iI(x:Route):(bI x).length=4:=rfl
def Mq(x:Route):(bI x).getD 0 .any=.v (.int .i64 x.type):=rfl
def OI(x:Route):(bI x).getD 1 .any=.v (.int .i64 x.start):=rfl
def N6(x:Route):(bI x).getD 2 .any=.sl (x.rests.map dX):=rfl
def Np(x:Route):(bI x).getD 3 .any=.sl (x.visits.map aL):=rfl
def Iz(x:Route):(bI x).take 4=bI x:=rfl
structure Plan where
 routes:List Route
 unserved:List Int
 deriving DecidableEq
def gL(x:Plan):List AV:=[.sl (x.routes.map bI),.sl (x.unserved.map aQ)]
def LS(x:Plan):(gL x).length=2:=rfl
def Q2(x:Plan):(gL x).getD 0 .any=.sl (x.routes.map bI):=rfl
def Tc(x:Plan):(gL x).getD 1 .any=.sl (x.unserved.map aQ):=rfl
def LY(x:Plan):(gL x).take 2=gL x:=rfl
structure Fault where
 err:Int
 at_:ByteArray
 deriving DecidableEq
structure Decision where
 kind:Int
 a:Int
 b:Int
 n:Int
 deriving DecidableEq
def aM(x:Decision):List AV:=[.v (.int .i64 x.kind),.v (.int .i64 x.a),.v (.int .i64 x.b),.v (.int .i64 x.n)]
def eA(x:Decision):(aM x).length=4:=rfl
def E5(x:Decision):(aM x).getD 0 .any=.v (.int .i64 x.kind):=rfl
def Fo(x:Decision):(aM x).getD 1 .any=.v (.int .i64 x.a):=rfl
def Fh(x:Decision):(aM x).getD 2 .any=.v (.int .i64 x.b):=rfl
def Fj(x:Decision):(aM x).getD 3 .any=.v (.int .i64 x.n):=rfl
def CW(x:Decision):(aM x).take 4=aM x:=rfl
structure Column where
 type:Int
 set:Int
 price:Int
 route:Route
 deriving DecidableEq
def bA(x:Column):List AV:=[.v (.int .i64 x.type),.v (.int .i64 x.set),.v (.int .i64 x.price),.v (.int .i64 x.route.type),.v (.int .i64 x.route.start),.sl (x.route.rests.map dX),.sl (x.route.visits.map aL)]
def dW(x:Column):(bA x).length=7:=rfl
def Lw(x:Column):(bA x).getD 0 .any=.v (.int .i64 x.type):=rfl
def JL(x:Column):(bA x).getD 1 .any=.v (.int .i64 x.set):=rfl
def J7(x:Column):(bA x).getD 2 .any=.v (.int .i64 x.price):=rfl
def Lo(x:Column):(bA x).getD 3 .any=.v (.int .i64 x.route.type):=rfl
def LP(x:Column):(bA x).getD 4 .any=.v (.int .i64 x.route.start):=rfl
def Kq(x:Column):(bA x).getD 5 .any=.sl (x.route.rests.map dX):=rfl
def Ld(x:Column):(bA x).getD 6 .any=.sl (x.route.visits.map aL):=rfl
def Fg(x:Column):(bA x).take 7=bA x:=rfl
def CP(x:Column):((bA x).drop 3).take 4=bI x.route:=rfl
structure Score where
 cost:Int
 moved:Int
 other:Int
 work:Int
 deriving DecidableEq
def aV(x:Score):List AV:=[.v (.int .i64 x.cost),.v (.int .i64 x.moved),.v (.int .i64 x.other),.v (.int .i64 x.work)]
def bR(x:Score):(aV x).length=4:=rfl
def tT(x:Score):(aV x).getD 0 .any=.v (.int .i64 x.cost):=rfl
def tG(x:Score):(aV x).getD 1 .any=.v (.int .i64 x.moved):=rfl
def tU(x:Score):(aV x).getD 2 .any=.v (.int .i64 x.other):=rfl
def uA(x:Score):(aV x).getD 3 .any=.v (.int .i64 x.work):=rfl
def nY(x:Score):(aV x).take 4=aV x:=rfl
structure Cut where
 kind:Int
 set:Int
 n:Int
 deriving DecidableEq
def eC(x:Cut):List AV:=[.v (.int .i64 x.kind),.v (.int .i64 x.set),.v (.int .i64 x.n)]
def pB(x:Cut):(eC x).length=3:=rfl
def Uf(x:Cut):(eC x).getD 0 .any=.v (.int .i64 x.kind):=rfl
def UC(x:Cut):(eC x).getD 1 .any=.v (.int .i64 x.set):=rfl
def Wj(x:Cut):(eC x).getD 2 .any=.v (.int .i64 x.n):=rfl
def NA(x:Cut):(eC x).take 3=eC x:=rfl
structure TimeT where
 arrive:Int
 start:Int
 depart:Int
 rest:Bool
 deriving DecidableEq
def JW(x:TimeT):List AV:=[.v (.int .i64 x.arrive),.v (.int .i64 x.start),.v (.int .i64 x.depart),.v (.bool x.rest)]
structure PRow where
 coef:List Int
 kind:Int
 right:Int
 deriving DecidableEq
def iN(x:PRow):List AV:=[.sl (x.coef.map aQ),.v (.int .i64 x.kind),.v (.int .i64 x.right)]
def qO(x:PRow):(iN x).length=3:=rfl
def SG(x:PRow):(iN x).getD 0 .any=.sl (x.coef.map aQ):=rfl
def Rv(x:PRow):(iN x).getD 1 .any=.v (.int .i64 x.kind):=rfl
def SE(x:PRow):(iN x).getD 2 .any=.v (.int .i64 x.right):=rfl
def Jf(x:PRow):(iN x).take 3=iN x:=rfl
structure PLin where
 cost:List Int
 rows:List PRow
 deriving DecidableEq
def gC(x:PLin):List AV:=[.sl (x.cost.map aQ),.sl (x.rows.map iN)]
def uV(x:PLin):(gC x).length=2:=rfl
def SU(x:PLin):(gC x).getD 0 .any=.sl (x.cost.map aQ):=rfl
def Ti(x:PLin):(gC x).getD 1 .any=.sl (x.rows.map iN):=rfl
def JH(x:PLin):(gC x).take 2=gC x:=rfl
structure TNode where
 leaf:Bool
 kind:Int
 cuts:List Cut
 dual:List ByteArray
 choice:Decision
 yes:Int
 no:Int
 deriving DecidableEq
def aY(x:TNode):List AV:=[.v (.bool x.leaf),.v (.int .i64 x.kind),.sl (x.cuts.map eC),.sl (x.dual.map dB),.v (.int .i64 x.choice.kind),.v (.int .i64 x.choice.a),.v (.int .i64 x.choice.b),.v (.int .i64 x.choice.n),.v (.int .i64 x.yes),.v (.int .i64 x.no)]
def fV(x:TNode):(aY x).length=10:=rfl
def OB(x:TNode):(aY x).getD 0 .any=.v (.bool x.leaf):=rfl
def Mn(x:TNode):(aY x).getD 1 .any=.v (.int .i64 x.kind):=rfl
def OS(x:TNode):(aY x).getD 2 .any=.sl (x.cuts.map eC):=rfl
def Md(x:TNode):(aY x).getD 3 .any=.sl (x.dual.map dB):=rfl
def MO(x:TNode):(aY x).getD 4 .any=.v (.int .i64 x.choice.kind):=rfl
def Oc(x:TNode):(aY x).getD 5 .any=.v (.int .i64 x.choice.a):=rfl
def Ob(x:TNode):(aY x).getD 6 .any=.v (.int .i64 x.choice.b):=rfl
def MR(x:TNode):(aY x).getD 7 .any=.v (.int .i64 x.choice.n):=rfl
def Nc(x:TNode):(aY x).getD 8 .any=.v (.int .i64 x.yes):=rfl
def OF(x:TNode):(aY x).getD 9 .any=.v (.int .i64 x.no):=rfl
def Im(x:TNode):(aY x).take 10=aY x:=rfl
def CM(x:TNode):((aY x).drop 4).take 4=aM x.choice:=rfl
structure Proof where
 noPlan:Bool
 plan:Plan
 nodes:List TNode
 deriving DecidableEq
def cY(x:Proof):List AV:=[.v (.bool x.noPlan),.sl (x.plan.routes.map bI),.sl (x.plan.unserved.map aQ),.sl (x.nodes.map aY)]
def AO(x:Proof):(cY x).length=4:=rfl
def Nb(x:Proof):(cY x).getD 0 .any=.v (.bool x.noPlan):=rfl
def Nh(x:Proof):(cY x).getD 1 .any=.sl (x.plan.routes.map bI):=rfl
def NJ(x:Proof):(cY x).getD 2 .any=.sl (x.plan.unserved.map aQ):=rfl
def ME(x:Proof):(cY x).getD 3 .any=.sl (x.nodes.map aY):=rfl
def HI(x:Proof):(cY x).take 4=cY x:=rfl
def Fa(x:Proof):((cY x).drop 1).take 2=gL x.plan:=rfl
structure Sheet where
 rest:Bool
 depart:Int
 times:List TimeT
 stop:Int
 miles:Int
 deriving DecidableEq
def bQ(x:Sheet):List AV:=[.v (.bool x.rest),.v (.int .i64 x.depart),.sl (x.times.map JW),.v (.int .i64 x.stop),.v (.int .i64 x.miles)]
def dZ(x:Sheet):(bQ x).length=5:=rfl
def Oa(x:Sheet):(bQ x).getD 0 .any=.v (.bool x.rest):=rfl
def On(x:Sheet):(bQ x).getD 1 .any=.v (.int .i64 x.depart):=rfl
def Mb(x:Sheet):(bQ x).getD 2 .any=.sl (x.times.map JW):=rfl
def yP(x:Sheet):(bQ x).getD 3 .any=.v (.int .i64 x.stop):=rfl
def yR(x:Sheet):(bQ x).getD 4 .any=.v (.int .i64 x.miles):=rfl
def tE(x:Sheet):(bQ x).take 5=bQ x:=rfl
attribute [go_sem] Dw UE KW QU NG VF gI OK N1 AY jR Vf U8 Va Wd UV TW Ou DK Ig H7 Es jZ MM Mz Nx Ny Nd M9 Of OO ND NU LJ LA Lx Ks IP jW RU Rb SB Tp LT kB MK NZ Ox MA Mc Mt NF MN MG OA LF Je Kk Ko K0 Kh HJ Fc Fs jV SC QI I9 CN E7 Fu Fq Fv Fx E4 CQ CX cN Nl N7 IQ iI Mq OI N6 Np Iz LS Q2 Tc LY eA E5 Fo Fh Fj CW dW Lw JL J7 Lo LP Kq Ld Fg CP bR tT tG tU uA nY pB Uf UC Wj NA qO SG Rv SE Jf uV SU Ti JH fV OB Mn OS Md MO Oc Ob MR Nc OF Im CM AO Nb Nh NJ ME HI Fa dZ Oa On Mb yP yR tE
def aC{α:Type}{f:α->List AV}{l:List α}{k:Nat}{x:α}(h:l[k]?=some x):(l.map f).getD k []=f x:=by simp[List.getD,h]
def Xv{α:Type}(f:α->List AV)(l:List α):(l.map f).length=l.length:=List.length_map f
def FJ(n:Nat):((n:Int)).toNat=n:=Int.toNat_natCast n
attribute [go_sem] Xv FJ
def bE{n:Int}(h: -9223372036854775808<=n/\n<=9223372036854775807):IntKind.i64.wrap n=n:=IntWalk.i64_in n h
end Go.Aw.D
end
