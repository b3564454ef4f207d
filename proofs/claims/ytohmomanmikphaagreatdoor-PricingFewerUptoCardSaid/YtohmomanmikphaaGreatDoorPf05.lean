import Derived.StillTail
import Derived.Deep.Quiet
import Derived.Scope
import Derived.Test.YtohmomanmikphaaGreatDoorPf04
set_option linter.unusedSimpArgs false
set_option linter.unusedVariables false
set_option maxRecDepth 100000
section
namespace Go.Aw
open Go.RowKit
section
variable{P:Program}{ops:Array Oper}{md:Region.Mode}{C:World->Prop}{R:World->World->Prop}{Q':Exit->Act->World->Prop}
def HL(P:Program)(K:Value->World->Prop):Result Next->Prop
 | .ok (.value v) w'=>K v w'
 | .ok .skip w'=>K undef w'
 | .ok (.enter f args) w'=>Calls P f args w' fun e w''=>∃v,e=.returned v/\K v w''
 | .ok (.row row args) w'=>Rows P row args w' K
 | _=>False
def gAt(P:Program)(o:Oper)(a:Act)(w:World)(K:Value->World->Prop):Prop:=HL P K ((execOp a.eval o).run P w)
def gOp(P:Program)(ops:Array Oper)(i:Nat)(K:Act->World->Prop)(a:Act)(w:World):Prop:=
 match ops[i]? with
 | none=>False
 | some o=>if Region.wanted o (yielded ops a.tmps)=true then gAt P o a w (fun v w'=>K (a.put o.dst v) w')else K (a.put o.dst undef) w
theorem nE{K K':Value->World->Prop}(h:∀v w,K v w->K' v w){r:Result Next}(E:HL P K r):HL P K' r:=by
 cases r with
 | ok n w'=>
   cases n <;> simp only[HL]at E |-
   case value u=>exact h _ _ E
   case skip=>exact h _ _ E
   case enter f args=>exact E.mono fun e F ⟨v,I,J⟩=>⟨v,I,h _ _ J⟩
   case row row args=>exact E.mono h
 | halt x w'=>simp only[HL]at E
theorem DF{i:Nat}{a:Act}{w:World}{K K':Act->World->Prop}(h:∀a w,K a w->K' a w)(u:gOp P ops i K a w):gOp P ops i K' a w:=by
 unfold gOp at *;split
 . rename_i F;simp only[F]at u
 . rename_i o F
   simp only[F]at u;split
   . rename_i E;rw[if_pos E]at u;exact nE (fun v w' I=>h _ _ I) u
   . rename_i E;rw[if_neg E]at u;exact h _ _ u
theorem RO{o:Oper}{a:Act}{w:World}{K:Act->World->Prop}(h:gAt P o a w (fun v w'=>K (a.put o.dst v) w')):o.wp P a w K Q':=by
 unfold Oper.wp;unfold gAt at h;generalize (execOp a.eval o).run P w=r at *;cases r with
 | ok n w'=>
   cases n <;> simp only[HL]at h <;> simp only[Oper.upon]
   case value u=>exact h
   case skip=>exact h
   case enter f args=>exact h.mono fun e E ⟨v,F,I⟩=>by subst F;exact I
   case row row args=>exact h
 | halt x w'=>simp only[HL]at h
theorem LF{i:Nat}{a:Act}{w:World}{K:Act->World->Prop}(h:gOp P ops i K a w):wpOp P ops Q' i K a w:=by
 unfold gOp at h;unfold wpOp;split
 . rename_i E;simp only[E]at h
 . rename_i o E
   simp only[E]at h;split
   . rename_i u;rw[if_pos u]at h;exact .inl (RO h)
   . rename_i u;rw[if_neg u]at h;exact h
theorem I4{o:Oper}{a:Act}{w:World}{v:Value}{D:World->Prop}(I:D w)(h:o.quietAt P a D w v):gAt P o a w (fun u w'=>u=v/\D w'):=by
 unfold Oper.quietAt at h;unfold gAt;generalize (execOp a.eval o).run P w=r at *;cases r with
 | ok n w'=>
   cases n <;> simp only[Oper.quietUpon]at h <;> simp only[HL]
   case value u=>obtain⟨E,F⟩:=h;rw[E];exact⟨F,I⟩
   case skip=>obtain⟨E,F⟩:=h;rw[E];exact⟨F.symm,I⟩
   case enter f args=>obtain⟨E,T⟩:=h;rw[E];exact T.mono fun e M ⟨O,J⟩=>⟨v,O,rfl,J⟩
 | halt x w'=>simp only[Oper.quietUpon]at h
def gU(P:Program)(md:Region.Mode)(ops:Array Oper)(C:World->Prop)(R:World->World->Prop)(Q':Exit->Act->World->Prop):Nat->Array Bool->Act->World->Prop
 | 0,listed,a,w=>Region.ready md ops listed=[]/\Q' .normal a w
 | f+1,listed,a,w=>Region.ready md ops listed≠[] /\
   ∀i∈Region.ready md ops listed,gOp P ops i (fun a' w'=>C w'/\∀w2,R w' w2->gU P md ops C R Q' f (listed.setIfInBounds i true) a' w2) a w
theorem qE(u:∀w,R w w):∀(f:Nat) (listed:Array Bool) (a:Act) (w:World),gU P md ops C R Q' f listed a w->wpAny P md ops Q' f listed a w
 | 0,_,_,_,h=>h
 | f+1,_,_,_,h=>⟨fun h0=>absurd h0 h.1,fun i E=>LF (DF (fun I w' F=>qE u f _ _ _ (F.2 w' (u w'))) (h.2 i E))⟩
def YQ(P:Program)(ops:Array Oper)(C:World->Prop)(R:World->World->Prop)(o:Oper)(v:Value)(a:Act):Prop:=
 (Region.wanted o (yielded ops a.tmps)=true/\∀w,C w->o.quietAt P a (R w) w v)\/(Region.wanted o (yielded ops a.tmps)=false/\v=undef)
theorem YQ.of_same{o:Oper}{v:Value}{a u:Act}(E:YQ P ops C R o v a)(I:execOp u.eval o=execOp a.eval o)
   (F:Region.wanted o (yielded ops u.tmps)=Region.wanted o (yielded ops a.tmps)):YQ P ops C R o v u:=by
 unfold YQ Oper.quietAt at *;rw[I,F];exact E
theorem Yz{j:Nat}{E F:Oper}{v:Value}(hj:ops[j]?=some F)(I:E.apart ops F=true)
   (O:∀cs b,E.op≠.select cs b) (M:∀cs b,F.op≠.select cs b) {K:Act->World->Prop} {a:Act} {w:World}
   (hy:YQ P ops C R E v a) (h:gOp P ops j K (a.put E.dst v) w):
   gOp P ops j (fun Z w'=>YQ P ops C R E v Z/\K (Z.put E.dst v) w') a w:=by
 obtain⟨h1,h2,T⟩:=Oper.apart_spec I;have keep:∀u,YQ P ops C R E v (a.put F.dst u):=fun u=>
   hy.of_same (execOp_put E O a F.dst u T) (wanted_put E a F.dst u T)
 unfold gOp at *;simp only[hj]at *;rw[wanted_put F a E.dst v h1]at h;split
 . rename_i J
   rw[if_pos J]at h;unfold gAt at *;rw[execOp_put F M a E.dst v h1]at h;exact nE (fun u w' hk=>⟨keep u,by rw[<-Act.put_comm a v u h2];exact hk⟩) h
 . rename_i J
   rw[if_neg J]at h;exact⟨keep _,by rw[<-Act.put_comm a v undef h2];exact h⟩
theorem Gu{i:Nat}{F:Oper}{v:Value}{a:Act}{w:World}(Z:ops[i]?=some F)(M:C w)(I:∀w,R w w)(J:YQ P ops C R F v a){K:Act->World->Prop}(h:∀w',R w w'->K (a.put F.dst v) w'):
   gOp P ops i K a w:=by
 unfold gOp;simp only[Z];rcases J with⟨E,T⟩|⟨E,rfl⟩
 . rw[if_pos E]
   exact nE (fun u w' ⟨e,O⟩=>by subst e;exact h w' O) (I4 (I w) (T w M))
 . rw[if_neg (by simp[E])]
   exact h w (I w)
theorem gY{i:Nat}{oi:Oper}{v:Value}(hi:ops[i]?=some oi)(T:∀(j:Nat) (o:Oper) cs b,ops[j]?=some o->o.op≠.select cs b)
   (hR:∀w,R w w) (hT:∀w w' ag,R w w'->R w' ag->R w ag) (aa:∀w w',C w->R w w'->C w'):
   ∀(f:Nat) (u:Array Bool) (a:Act) (w:World),C w ->
     (∀j oj,ops[j]?=some oj->j≠i->u.getD j true=false->(∀e∈oj.after,Region.binds md e=true->e.on≠i)->oi.apart ops oj=true) ->
     i∈Region.ready md ops u->YQ P ops C R oi v a ->
     (∀Z,R w Z->gU P md ops C R Q' f (u.setIfInBounds i true) (a.put oi.dst v) Z)->gU P md ops C R Q' (f+1) u a w:=by
 intro f;induction f with
 | zero=>
   intro u a w hC _ hr hy H;refine⟨fun h=>(by rw[h]at hr;cases hr),fun j hj=>?_⟩;by_cases E:j=i
   . subst E;exact Gu hi hC hR hy fun w' F=>⟨aa _ _ hC F,fun Z O=>H Z (hT _ _ _ F O)⟩
   . have:=ready_mono hj E
     rw[(H w (hR w)).1]at this;cases this
 | succ f ih=>
   intro u a w hC I hr hy H;refine⟨fun h=>(by rw[h]at hr;cases hr),fun j hj=>?_⟩;by_cases E:j=i
   . subst E;exact Gu hi hC hR hy fun w' F=>⟨aa _ _ hC F,fun Z O=>H Z (hT _ _ _ F O)⟩
   . have h1:=(H w (hR w)).2 j (ready_mono hj E)
     obtain⟨M,oj,ab,ae⟩:=mem_ready.1 hj;have ad:∀e∈oj.after,Region.binds md e=true->e.on≠i:=fun e he hb ai=>by
       have h1:=ae e he hb;have h0:=(mem_ready.1 hr).1;rw[ai]at h1;rcases Nat.lt_or_ge i u.size with h'|h'
       . simp[h']at h0 h1;rw[h0]at h1;cases h1
       . simp[Array.getElem?_eq_none h']at h1
     have O:=Yz ab (I j oj ab E M ad) (fun cs b=>T i oi cs b hi) (fun cs b=>T j oj cs b ab) hy h1;have J : ∀ k ok, ops[k]? = some ok -> k ≠ i -> (u.setIfInBounds j true).getD k true = false ->
         (∀e∈ok.after,Region.binds md e=true->e.on≠i)->oi.apart ops ok=true:=fun k ok hk aj ac ak=>by
       refine I k ok hk aj ?_ ak;by_cases af:j=k
       . subst af;exact M
       . rw[getD_set_ne true af]at ac;exact ac
     refine DF (fun a' w' ⟨al,ah,hk⟩=>⟨ah,fun Z O=>ih (u.setIfInBounds j true) a' Z (aa _ _ ah O) J (ready_mono hr (Ne.symm E)) al fun w3 h3=>?_⟩) O;rw[Array.setIfInBounds_comm _ _ E];exact hk w3 (hT _ _ _ O h3)
end
def Rw(w w':World):Prop:=w'.os=w.os/\w'.tape=w.tape/\w'.output=w.output/\w.heap.size<=w'.heap.size/\∀k,k<w.heap.size->w'.heap[k]?=w.heap[k]?
theorem Rw.refl(w:World):Rw w w:=⟨rfl,rfl,rfl,Nat.le_refl _,fun _ _=>rfl⟩
theorem Rw.trans{w w' E:World}(h:Rw w w')(u:Rw w' E):Rw w E:=
 ⟨u.1.trans h.1,u.2.1.trans h.2.1,u.2.2.1.trans h.2.2.1,Nat.le_trans h.2.2.2.1 u.2.2.2.1,fun k F=>(u.2.2.2.2 k (Nat.lt_of_lt_of_le F h.2.2.2.1)).trans (h.2.2.2.2 k F)⟩
def Cb(S:Sg)(wb w:World):Prop:=w.os=wb.os/\w.tape=wb.tape/\w.output=wb.output/\wb.heap.size<=w.heap.size/\∀k,S.fz k->w.heap[k]?=wb.heap[k]?
theorem Cb.rw{S:Sg}{wb w w':World}{H:aG}(F:St S wb H)(h:Cb S wb w)(u:Rw w w'):Cb S wb w':=
 ⟨u.1.trans h.1,u.2.1.trans h.2.1,u.2.2.1.trans h.2.2.1,Nat.le_trans h.2.2.2.1 u.2.2.2.1,fun k E=>(u.2.2.2.2 k (Nat.lt_of_lt_of_le (F.fz_lt k E) h.2.2.2.1)).trans (h.2.2.2.2 k E)⟩
theorem Rw.cb{S:Sg}{wb w:World}{H:aG}(u:St S wb H)(h:Rw wb w):Cb S wb w:=⟨h.1,h.2.1,h.2.2.1,h.2.2.2.1,fun k E=>h.2.2.2.2 k (u.fz_lt k E)⟩
theorem Cb.st{S:Sg}{wb w:World}{H:aG}(E:St S wb H)(h:Cb S wb w):St S w bT:=
 ⟨E.ro_fz,fun k u=>Nat.lt_of_lt_of_le (E.fz_lt k u) h.2.2.2.1,fun k r u=>by simp[bT]at u,fun k r u=>by simp[bT]at u,fun k k' r r' u=>by simp[bT]at u,E.tabs.keep S.le_refl (fun k u=>h.2.2.2.2 k (E.ro_fz k u))⟩
theorem Cb.kept{S:Sg}{wb w:World}{H:aG}(u:St S wb H)(h:Cb S wb w):eL S wb w:=fun k E=>h.2.2.2.2 k (u.ro_fz k E)
theorem Cb.agree{S:Sg}{wb w:World}{H:aG}(u:St S wb H)(h:Cb S wb w):Agree S bT wb w:=⟨h.kept u,fun k r E=>by simp[bT]at E⟩
theorem Grow.cb{S S':Sg}{wb w:World}(h:Grow S wb S' w):Cb S wb w:=⟨h.os,h.tape,h.output,h.size,h.same⟩
section
variable{P:Program}{n:Nat}{S0:Sg}{w0:World}{H0:aG}{mt:Nat->Bool}{ops:Array Oper}{K:Env->aG->Prop}{ρ:Env}{H:aG}{a:Act}{w:World}
theorem Rel.rw{w':World}(h:Rel n S0 w0 H0 ρ H a w)(u:Rw w w'):Rel n S0 w0 H0 ρ H a w':=by
 obtain⟨S,E,M,O,I,T,J⟩:=h;have F:=E.grow u.1 u.2.1 u.2.2.1 u.2.2.2.1 u.2.2.2.2;exact⟨S,E.after u.2.2.2.1 u.2.2.2.2,M.keep S.le_refl (F.kept E),O.trans F,I,T,J⟩
theorem xT{o:Oper}{K':Act->World->Prop}(I:∀a w,K' a w->a.defers=[])(h:o.wp P a w K' fun _ _ _=>False):gAt P o a w fun v w'=>K' (a.put o.dst v) w':=by
 unfold Oper.wp at h;unfold gAt;generalize (execOp a.eval o).run P w=r at *;cases r with
 | ok m w'=>
   cases m <;> simp only[Oper.upon]at h <;> simp only[HL]
   case value u=>exact h
   case skip=>exact h
   case enter f args=>
     refine h.mono fun e F E=>?_
     cases e
     case returned v=>exact⟨v,rfl,E⟩
     case panicked c=>exact E.elim
     case outgrown=>obtain⟨_,_,h⟩:=E;exact h.elim
   case defer d=>have:=I _ _ h;rw[lJ]at this;simp at this
   case row row args=>exact h
 | halt x w'=>cases x <;> simp only[Oper.upon]at h
variable{S:Sg}
theorem uJ{o:Oper}{w1:World}{CC:World->Prop}(F:∀w,CC w->St S w H/\Agree S H w1 w)(O:St S w1 H)(hF:FR S w1 ρ a)(Z:a.tmps.size=n)(hb:∀x∈o.op.operands,opB n x=true){G:Option Bool}
   (u:Region.wanted o (yielded ops a.tmps)=true↔gt G) (h:fT P G ρ H o.op fun x=>K (upd ρ o.dst (wr G x)) H):
   ∃z,K (upd ρ o.dst z) H/\(Region.wanted o (yielded ops a.tmps)=true->∃v,rep S w1 z v/\∀w,CC w->o.quietAt P a (Rw w) w v)/\(Region.wanted o (yielded ops a.tmps)=false->rep S w1 z undef):=by
 obtain⟨z,J,I⟩:=CN (Z▸hb) hF O.rows h;refine⟨_,J,fun E=>?_,fun E=>?_⟩
 . obtain⟨v,hv,T⟩:=I (u.1 E)
   refine⟨v,eI (u.1 E) hv,fun w M=>?_⟩;unfold Oper.quietAt;rw[T w (F w M).2 o rfl];exact⟨rfl,rfl⟩
 . exact dV fun h=>by rw[u.2 h]at E;simp at E
theorem L3{o:Oper}{c:Call}{w1:World}{CC:World->Prop}(ac:∀w,CC w->St S w H/\Agree S H w1 w)(hS:St S w1 H)(hF:FR S w1 ρ a)(hn:a.tmps.size=n)(ho:o.op=.call c)(hb:∀x∈o.op.operands,opB n x=true){G:Option Bool}
   (T:Region.wanted o (yielded ops a.tmps)=true↔gt G) {nl:Bool} (h:Ah P (aX P) (cZ P) nl true G o c ρ H K):
   ∃z,K (upd ρ o.dst z) H/\(Region.wanted o (yielded ops a.tmps)=true->∃v,rep S w1 z v/\∀w,CC w->o.quietAt P a (Rw w) w v)/\(Region.wanted o (yielded ops a.tmps)=false->rep S w1 z undef):=by
 rw[ho]at hb;simp only[Op.operands,Call.operands]at hb;unfold Ah at h;split at h
 . rename_i b hc
   obtain⟨ys,h2,ab⟩:=lS hF c.args.toList (fun x hx=>hn▸hb x (by simp[Array.mem_toList_iff.1 hx])) h;clear h;have h:=h2;clear h2;split at h
   . rename_i x t J
     obtain⟨z,hz,hl⟩:=Er (G:=G) (ty:=o.type) hS.rows h;refine⟨_,hz,fun M=>?_,fun M=>dV fun h=>by rw[T.2 h]at M;simp at M⟩;have F:=T.1 M;have hr:=ab F;simp only[bF]at hr;obtain⟨u,t',e1,e2,rfl⟩:=hr;obtain⟨v,hv,O⟩:=hl F u e2;have ea:c.args.map a.eval=#[u]:=Array.toList_inj.1 (by simpa using e1);have et:c.argTypes=#[t]:=Array.toList_inj.1 (by simpa using J);refine⟨v,eI F hv,fun w Z=>?_⟩;unfold Oper.quietAt;have:(execOp a.eval o).run P w=.ok (.value v) w:=by simp[execOp,ho,resolve,hc,invoke,builtin,ea,et,O w (ac w Z).2]
     rw[this];exact⟨rfl,rfl⟩
   . split at h
     . rename_i I;simp at I
     . exact h.elim
   . split at h
     . rename_i I;simp at I
     . exact h.elim
   . split at h
     . rename_i I;simp at I
     . exact h.elim
   . rename_i x y t t' J
     obtain⟨z,hz,hl⟩:=D0 (P:=P) (S:=S) (w:=w1) (H:=H) (G:=G) (tys:=c.argTypes) (ty:=o.type) h;refine⟨_,hz,fun M=>?_,fun M=>dV fun h=>by rw[T.2 h]at M;simp at M⟩
     . have F:=T.1 M
       have hr:=ab F;simp only[bF]at hr;obtain⟨us,t1,e1,e2,ux,t2,rfl,e3,rfl⟩:=hr;obtain⟨v,hv,O⟩:=hl F us ux e2 e3;have ea:c.args.map a.eval=#[us,ux]:=Array.toList_inj.1 (by simpa using e1);refine⟨v,eI F hv,fun w Z=>?_⟩;unfold Oper.quietAt;have:(execOp a.eval o).run P w=.ok (.value v) w:=by simp[execOp,ho,resolve,hc,invoke,builtin,ea,O w (ac w Z).2]
       rw[this];exact⟨rfl,rfl⟩
   . rename_i x y t t' J
     obtain⟨z,hz,hl⟩:=E8 (P:=P) (S:=S) (w:=w1) (H:=H) (G:=G) (tys:=c.argTypes) (ty:=o.type) h;refine⟨_,hz,fun M=>?_,fun M=>dV fun h=>by rw[T.2 h]at M;simp at M⟩
     . have F:=T.1 M
       have hr:=ab F;simp only[bF]at hr;obtain⟨us,t1,e1,e2,ux,t2,rfl,e3,rfl⟩:=hr;obtain⟨v,hv,O⟩:=hl F us ux e2 e3;have ea:c.args.map a.eval=#[us,ux]:=Array.toList_inj.1 (by simpa using e1);refine⟨v,eI F hv,fun w Z=>?_⟩;unfold Oper.quietAt;have:(execOp a.eval o).run P w=.ok (.value v) w:=by simp[execOp,ho,resolve,hc,invoke,builtin,ea,O w (ac w Z).2]
       rw[this];exact⟨rfl,rfl⟩
   . exact h.elim
 . rename_i f hc
   obtain⟨yf,h2,hf⟩:=aR (S:=S) (w:=w1) h;clear h;have h:=h2;clear h2;split at h
   . rename_i g am aj al
     by_cases af:nl=true
     . rw[if_pos af]at h
       exact absurd h.2.1 (by decide)
     rw[if_neg af]at h;obtain⟨ys,h2,ab⟩:=lS hF c.args.toList (fun x hx=>hn▸hb x (by simp[hc,Array.mem_toList_iff.1 hx])) h;clear h;obtain⟨ah,h⟩:=h2;have ai:=fun hg=>zV al (hf hg _ (cC hF (hn▸hb f (by simp[hc]))))
     have J:gt G->∃first E:Array Value,a.eval f=.func (.func g) first E/\bF S w1 (am++ys++aj) (first++c.args.map a.eval++E).toList:=fun hg=>by
       obtain⟨first,E,h1,h2,h3⟩:=ai hg;refine⟨first,E,h1,?_⟩;simp only[Array.toList_append];refine cT _ _ _ _ (cT _ _ _ _ h2 ?_) h3;simpa using ab hg
     split at h
     . rename_i I;simp at I
     . obtain⟨r,hq,hk⟩:=h
       by_cases F:gt G
       . rcases hq F with hq|⟨x,rfl,an⟩
         . obtain⟨v,ad⟩:=hq.val
           rw[MB (by rw[ad];rfl)]at hk;refine⟨_,hk,fun M=>?_,fun M=>dV fun h=>by rw[T.2 h]at M;simp at M⟩;obtain⟨first,E,ak,ag⟩:=J F;have ae:∀w,(execOp a.eval o).run P w=.ok (.enter g (first++c.args.map a.eval++E)) w:=fun w=>by
             simp only[execOp,ho];rw[lY hc ak];simp[invoke,oW ah]
           have hv:=(hq.calls ad hS ag).1;refine⟨v,eI F (hv S w1),fun w Z=>?_⟩;have aa:=(hq.calls ad (ac w Z).1 (dD S.le_refl (ac w Z).2.kept _ _ ag)).2;unfold Oper.quietAt;rw[ae];refine⟨rfl,?_⟩;rw[Array.toArray_toList]at aa;exact aa
         . exact hk.elim
       . obtain⟨z,hk⟩:=Lk hk
         refine⟨_,hk,fun M=>absurd (T.1 M) F,fun M=>dV F⟩
   . exact h.elim
 . exact h.elim
theorem sP{o:Oper}{w1:World}{CC:World->Prop}(F:∀w,CC w->St S w H/\Agree S H w1 w)(O:∀o∈ops,iJ n o=true)(T:St S w1 H)(M:FR S w1 ρ a)(J:a.tmps.size=n)(hb:iJ n o=true)(h:aop P (aX P) (cZ P) mt true ops o ρ H K):
   ∃z,K (upd ρ o.dst z) H/\(Region.wanted o (yielded ops a.tmps)=true->∃v,rep S w1 z v/\∀w,CC w->o.quietAt P a (Rw w) w v)/\(Region.wanted o (yielded ops a.tmps)=false->rep S w1 z undef):=by
 obtain⟨E,_⟩:=uS hb;unfold aop at h;obtain⟨G,h2,u⟩:=uK O M J h;clear h;have h:=h2;clear h2;split at h
 . rename_i x I
   unfold A0 at h;split at h
   . rename_i Z;simp at Z
   . exact uJ F T M J E u (by rw[I];exact h)
 . split at h
   . simp at h
   . exact h.elim
 . simp at h
 . simp at h
 . simp at h
 . rename_i c I;exact L3 F T M J I E u h
 all_goals first
   | exact h.elim
   | (simp at h;done)
   | (rename_i I; split at h
      . simp at h;done
      . exact uJ F T M J E u (by rw[I];exact h))
   | (rename_i I; split at h
      . obtain⟨rfl,h⟩:=h
        rw[if_pos rfl]at h;obtain⟨z,hz,v,hv,hq⟩:=CF (S:=S) (w1:=w1) M (fun x hx=>J▸E x hx) I h;exact⟨z,hz,fun _=>⟨v,hv,fun w _=>by unfold Oper.quietAt;rw[hq w];exact⟨rfl,rfl⟩⟩,fun hw=>by rw[cO u rfl]at hw;cases hw⟩
      . exact uJ F T M J E u (by rw[I];exact h))
   | (rename_i I;exact uJ F T M J E u (by rw[I];exact h))
theorem LK{o:Oper}{w1:World}{CC:World->Prop}(F:∀w,CC w->St S w bT/\Agree S bT w1 w)(Z:St S w1 H)(hF:FR S w1 ρ a)(hn:a.tmps.size=n){t:TypeId}{x:Operand}{lo hi m:Option Operand}(I:o.op=.slice t x lo hi m)(J:∀x∈o.op.operands,opB n x=true){G:Option Bool}
   (u:Region.wanted o (yielded ops a.tmps)=true↔gt G) (h:fT P G ρ H o.op fun x=>K (upd ρ o.dst (wr G x)) H):
   ∃z,K (upd ρ o.dst z) H/\(Region.wanted o (yielded ops a.tmps)=true->∃v,rep S w1 z v/\∀w,CC w->o.quietAt P a (Rw w) w v)/\(Region.wanted o (yielded ops a.tmps)=false->rep S w1 z undef):=by
 rw[I]at J h;obtain⟨z,O,M⟩:=Ao (H':=bT) (hn▸J) hF Z.rows h;refine⟨_,O,fun E=>?_,fun E=>?_⟩
 . obtain⟨v,hv,hr⟩:=M (u.1 E)
   refine⟨v,eI (u.1 E) hv,fun w T=>?_⟩;unfold Oper.quietAt;rw[hr w (F w T).2 o I];exact⟨rfl,rfl⟩
 . exact dV fun h=>by rw[u.2 h]at E;simp at E
theorem Pf{o:Oper}{w1:World}{CC:World->Prop}(I:∀w,CC w->St S w bT/\Agree S bT w1 w)(E:∀o∈ops,iJ n o=true)(hS:St S w1 H)(T:FR S w1 ρ a)(M:a.tmps.size=n)(hb:iJ n o=true){K:Env->Prop}(h:aop P (aX P) (cZ P) mt true ops o ρ (qH o H) fun u _=>K u):
   ∃z,K (upd ρ o.dst z)/\(Region.wanted o (yielded ops a.tmps)=true->∃v,rep S w1 z v/\∀w,CC w->o.quietAt P a (Rw w) w v)/\(Region.wanted o (yielded ops a.tmps)=false->rep S w1 z undef):=by
 by_cases Z:∃t x lo hi m,o.op=.slice t x lo hi m
 . obtain⟨t,x,lo,hi,m,F⟩:=Z
   have e:qH o H=H:=by unfold qH;rw[F]
   rw[e]at h;obtain⟨O,_⟩:=uS hb;unfold aop at h;obtain⟨G,h2,J⟩:=uK E T M h;clear h;rw[F]at h2;exact LK (K:=fun u _=>K u) I hS T M F O J (by rw[F];exact h2)
 . have e : qH o H = bT := by
     unfold qH;split
     . rename_i F;exact absurd ⟨_,_,_,_,_,F⟩ Z
     . rfl
   rw[e]at h;exact sP (K:=fun u _=>K u) I E (hS.drop fun k r hk=>by simp[bT]at hk) T M hb h
theorem Hl{Q':Exit->Act->World->Prop}{wb:World}{Sb:Sg}{Hb:aG}(u:∀o∈ops,iJ n o=true)(hQ:∀ρ H a w,K ρ H->Rel n Sb wb Hb ρ H a w->Q' .normal a w):
   ∀(l:List Oper) (k:Nat) (listed:Array Bool) (ρ:Env) (H:aG) (a:Act) (w:World),(∀j,l[j]?=ops[k+j]?)->(∀o∈l,iJ n o=true)->Region.seqB .any ops l.length k listed=true ->
     uQ P (aX P) (cZ P) mt false ops K l ρ H->Rel n Sb wb Hb ρ H a w->gU P .any ops (Cb Sb wb) Rw Q' l.length listed a w
 | [],_,_,ρ,H,a,w,_,_,hB,h,hR=>⟨by simpa[Region.seqB]using hB,hQ ρ H a w h hR⟩
 | o::rest,k,listed,ρ,H,a,w,hl,hb,hB,h,hR=>by
   have h0:ops[k]?=some o:=by simpa using(hl 0).symm
   simp only[List.length_cons,Region.seqB,Bool.and_eq_true,decide_eq_true_eq]at hB;refine⟨by rw[hB.1];simp,fun i hi=>?_⟩;rw[hB.1]at hi;have Z:i=k:=by simpa using hi
   subst Z;obtain⟨S,hS,hF,hG,hN,hd,hn⟩:=hR;have he:=tE (K':=fun I w'=>I.defers=[]/\Cb Sb wb w'/\∀J,Rw w' J->gU P .any ops (Cb Sb wb) Rw Q' rest.length (listed.setIfInBounds i true) I J) (Q':=fun _ _ _=>False) u hS hF hG hN hd hn (hb o (by simp))
     (fun O H' I w' E T=>by
       refine⟨?_,?_,fun J h2=>Hl u hQ rest (i+1) _ O H' I J (fun j=>by have:=hl (j+1);simpa[Nat.add_assoc,Nat.add_comm 1 j]using this) (fun o ho=>hb o (by simp[ho])) hB.2 E (T.rw h2)⟩
       . obtain⟨S',_,_,_,_,aa,_⟩:=T;exact aa
       . obtain⟨S',_,_,M,_⟩:=T;exact M.cb) h
   unfold gOp;simp only[h0];by_cases F:Region.wanted o (yielded ops a.tmps)=true
   . rw[if_pos F]
     exact nE (fun v w' E=>E.2) (xT (fun a w E=>E.1) (he.1 F))
   . rw[if_neg F]
     exact(he.2 (by simpa using F)).2
theorem Es{Q':Exit->Act->World->Prop}{wb:World}{Sb:Sg}(E:∀o∈ops,iJ n o=true)(Z:Region.noSelect ops=true)(F:St Sb wb bT){g:Nat}
   (hK:∀ρ a u w,K ρ bT->Rw wb w->FR Sb wb ρ a->a.defers=[]->a.tmps.size=n->∀k,Region.seqB .any ops g k u=true->k=ops.size-g->gU P .any ops (Cb Sb wb) Rw Q' g u a w):
   ∀(l:List Oper) (k:Nat) (u:Array Bool) (ρ:Env) (a:Act),(∀j,j<l.length->l[j]?=ops[k+j]?)->k+l.length=ops.size-g->(∀o∈l,iJ n o=true)->Region.lexHead .any ops g l.length k u=true ->
     uQ P (aX P) (cZ P) mt true ops K l ρ bT->FR Sb wb ρ a->a.defers=[]->a.tmps.size=n->∀w,Rw wb w->gU P .any ops (Cb Sb wb) Rw Q' (l.length+g) u a w
 | [],k,u,ρ,a,_,hk,_,hB,h,hF,hd,hn,w,hC=>by
   rw[List.length_nil,Nat.zero_add];exact hK ρ a u w h hC hF hd hn k hB (by simpa using hk)
 | o::rest,k,u,ρ,a,hl,hk,hb,hB,h,hF,hd,hn,w,hC=>by
   have h0:ops[k]?=some o:=by simpa using(hl 0 (by simp)).symm
   simp only[List.length_cons,Region.lexHead,Bool.and_eq_true]at hB;obtain⟨⟨J,hf⟩,aa⟩:=hB;obtain⟨z,hz,h1,h2⟩:=sP (CC:=Cb Sb wb) (fun w I=>⟨I.st F,I.agree F⟩) E F hF hn (hb o (by simp)) h;have next:∀v,rep Sb wb z v->∀O,Rw w O->gU P .any ops (Cb Sb wb) Rw Q' (rest.length+g) (u.setIfInBounds k true) (a.put o.dst v) O:=fun v hv O h2=>
     Es E Z F hK rest (k+1) _ _ _ (fun j hj=>by have:=hl (j+1) (by simp;omega);simpa[Nat.add_assoc,Nat.add_comm 1 j]using this) (by simp only[List.length_cons]at hk;omega) (fun o ho=>hb o (by simp[ho])) aa hz (FR.put hF hv) (by rw[lJ];exact hd) (by rw[sL];exact hn) O (hC.trans h2)
   rw[List.length_cons,show rest.length+1+g=(rest.length+g)+1 by omega];by_cases T:Region.wanted o (yielded ops a.tmps)=true
   . obtain⟨v,hv,hq⟩:=h1 T
     exact gY h0 (Region.noSelect_spec Z) Rw.refl (fun _ _ _=>Rw.trans) (fun _ _ I J=>I.rw F J) _ u a w (hC.cb F) (Region.free_spec h0 hf) (by simpa using J) (.inl ⟨T,hq⟩) (next v hv)
   . have M:Region.wanted o (yielded ops a.tmps)=false:=by simpa using T
     exact gY h0 (Region.noSelect_spec Z) Rw.refl (fun _ _ _=>Rw.trans) (fun _ _ I J=>I.rw F J) _ u a w (hC.cb F) (Region.free_spec h0 hf) (by simpa using J) (.inr ⟨M,rfl⟩) (next _ (h2 M))
theorem NW{Q':Exit->Act->World->Prop}{id m:Nat}(hm:P.follows .mixedOrders=true)(u:∀o∈ops,iJ n o=true)(hB:P1 ops m=true)
   (h:uQ P (aX P) (cZ P) mt true ops (fun E _=>uQ P (aX P) (cZ P) mt false ops K (ops.toList.drop m) E H) (ops.toList.take m) ρ bT)
   (hR:Rel n S0 w0 H0 ρ H a w) (hQ:∀ρ H a w,K ρ H->Rel n S0 w0 H0 ρ H a w->Q' .normal a w):(Code.region id ops true).wp P Q' a w:=by
 obtain⟨S,hS,hF,hG,hN,hd,hn⟩:=hR;simp only[P1,Bool.and_eq_true,decide_eq_true_eq]at hB;obtain⟨⟨hs,ak⟩,ab⟩:=hB
 let w1:World:={ w with drawn:=w.drawn+1 }
 have I:St S w1 H:=hS.after (Nat.le_refl _) fun _ _=>rfl
 have ac:Grow S w S w1:=hS.grow rfl rfl rfl (Nat.le_refl _) fun _ _=>rfl
 have ai:FR S w1 ρ a:=hF.keep S.le_refl (ac.kept hS);have aj:St S w1 bT:=I.drop fun k r hk=>by simp[bT]at hk
 refine wp_region_any hm (qE (C:=Cb S w1) (R:=Rw) Rw.refl _ _ _ _ ?_);have F:(ops.toList.take m).length=m:=by simp;omega
 have:=Es (Q':=Q') (g:=ops.size-m) (wb:=w1) (Sb:=S) u hs aj (K:=fun E _=>uQ P (aX P) (cZ P) mt false ops K (ops.toList.drop m) E H) (fun E a' J w' hk T M O Z k aa al=>by
   have ah:k=m:=by omega
   subst ah;have hx:=Hl (Q':=Q') (wb:=w1) (Sb:=S) (Hb:=H) u (K:=K) (fun ρ H a w hk hr=>by
     obtain⟨S',af,M,ad,ag,O,Z⟩:=hr;exact hQ ρ H a w hk ⟨S',af,M,hG.trans (ac.trans ad),hN.trans ag hG.le.N,O,Z⟩) (ops.toList.drop k) k J E H a' w' (fun j=>by simp[List.getElem?_drop]) (fun o ho=>u o (Array.mem_toList_iff.1 (List.mem_of_mem_drop ho)))
     (by simpa using aa) hk ?_
   . simpa using hx
   . have hg:=I.grow T.1 T.2.1 T.2.2.1 T.2.2.2.1 T.2.2.2.2
     exact⟨S,I.after T.2.2.2.1 T.2.2.2.2,M.keep S.le_refl (hg.kept I),hg,eH.refl _ _,O,Z⟩) (ops.toList.take m) 0 (Array.replicate ops.size false) ρ a (fun j hj=>by
       have ae:j<m:=by rw[F]at hj;exact hj
       simp[ae]) (by rw[F];omega) (fun o ho=>u o (Array.mem_toList_iff.1 (List.mem_of_mem_take ho))) (by rw[F];exact ab) h ai hd hn w1 (Rw.refl w1)
 rw[F,show m+(ops.size-m)=ops.size by omega]at this;exact this
theorem rB{C u:World->Prop}{R:World->World->Prop}{Q':Exit->Act->World->Prop}(h:∀w,u w->C w):∀(f:Nat) (listed:Array Bool) (a:Act) (w:World),gU P .any ops u R Q' f listed a w->gU P .any ops C R Q' f listed a w
 | 0,_,_,_,hw=>hw
 | f+1,_,_,_,hw=>⟨hw.1,fun i I=>DF (fun M w' E=>⟨h w' E.1,fun F J=>rB h f _ _ _ (E.2 F J)⟩) (hw.2 i I)⟩
theorem Cb.mono{S S':Sg}{w w' E:World}{H:aG}(I:St S w H)(u:Grow S w S' w')(h:Cb S' w' E):Cb S w E:=
 ⟨h.1.trans u.os,h.2.1.trans u.tape,h.2.2.1.trans u.output,Nat.le_trans u.size h.2.2.2.1,fun k F=>(h.2.2.2.2 k (u.fz k F)).trans (u.same k F)⟩
theorem xE{Q':Exit->Act->World->Prop}(u:∀o∈ops,iJ n o=true)(E:Region.noSelect ops=true)(hQ:∀ρ H a w,K ρ H->Rel n S0 w0 H0 ρ H a w->Q' .normal a w):
   ∀(f:List (Nat×Bool)) (listed:Array Bool) (ρ:Env) (H:aG) (a:Act) (w:World) (S:Sg),lX ops f listed=true ->
     vS P (aX P) (cZ P) mt ops K f ρ H->St S w H->FR S w ρ a->Grow S0 w0 S w->eH S0.N H0 H->a.defers=[]->a.tmps.size=n->∀I,Rw w I->gU P .any ops (Cb S w) Rw Q' f.length listed a I
 | [],listed,ρ,H,a,w,S,hB,h,hS,hF,hG,hN,hd,hn,I,h2=>by
   refine⟨by simpa[lX]using hB,hQ ρ H a I h (Rel.rw ⟨S,hS,hF,hG,hN,hd,hn⟩ h2)⟩
 | (k,true)::f,listed,ρ,H,a,w,S,hB,h,hS,hF,hG,hN,hd,hn,I,h2=>by
   simp only[lX,Bool.and_eq_true]at hB;obtain⟨⟨J,hf⟩,an⟩:=hB;unfold vS at h;split at h
   . rename_i o h0
     rw[if_pos rfl]at h;have Z:=u o (Array.mem_of_getElem? h0);obtain⟨z,hz,h1,O⟩:=Pf (CC:=Cb S w) (K:=fun T=>vS P (aX P) (cZ P) mt ops K f T H) (fun w hc=>⟨hc.st hS,hc.agree hS⟩) u hS hF hn Z h;have next:∀v,rep S w z v->∀F,Rw w F->gU P .any ops (Cb S w) Rw Q' f.length (listed.setIfInBounds k true) (a.put o.dst v) F:=fun v hv F O=>
       xE u E hQ f _ _ H _ w S an hz hS (FR.put hF hv) hG hN (by rw[lJ];exact hd) (by rw[sL];exact hn) F O
     rw[List.length_cons];by_cases M:Region.wanted o (yielded ops a.tmps)=true
     . obtain⟨v,hv,hq⟩:=h1 M
       exact gY h0 (Region.noSelect_spec E) Rw.refl (fun _ _ _=>Rw.trans) (fun _ _ hc J=>hc.rw hS J) _ listed a I (h2.cb hS) (Region.free_spec h0 hf) (by simpa using J) (.inl ⟨M,hq⟩) (fun F O=>next v hv F (h2.trans O))
     . have ac:Region.wanted o (yielded ops a.tmps)=false:=by simpa using M
       exact gY h0 (Region.noSelect_spec E) Rw.refl (fun _ _ _=>Rw.trans) (fun _ _ hc J=>hc.rw hS J) _ listed a I (h2.cb hS) (Region.free_spec h0 hf) (by simpa using J) (.inr ⟨ac,rfl⟩) (fun F am=>next _ (O ac) F (h2.trans am))
   . exact h.elim
 | (k,false)::f,listed,ρ,H,a,w,S,hB,h,hS,hF,hG,hN,hd,hn,I,h2=>by
   simp only[lX,Bool.and_eq_true,decide_eq_true_eq]at hB;unfold vS at h;split at h
   . rename_i o h0
     rw[if_neg (by simp)]at h;have Z:=u o (Array.mem_of_getElem? h0);rw[List.length_cons];refine⟨by rw[hB.1];simp,fun i hi=>?_⟩;rw[hB.1]at hi;have ak:i=k:=by simpa using hi
     subst ak;have ab:=hS.grow h2.1 h2.2.1 h2.2.2.1 h2.2.2.2.1 h2.2.2.2.2;have ai:St S I H:=hS.after h2.2.2.2.1 h2.2.2.2.2;have aj:FR S I ρ a:=hF.keep S.le_refl (ab.kept hS);have he:=tE (S0:=S) (w0:=I) (H0:=H) (K:=vS P (aX P) (cZ P) mt ops K f) (K':=fun a' w'=>a'.defers=[]/\Cb S w w'/\∀F,Rw w' F->gU P .any ops (Cb S w) Rw Q' f.length (listed.setIfInBounds i true) a' F) (Q':=fun _ _ _=>False) u ai aj (Grow.refl S I) (eH.refl _ _) hd hn Z
       (fun T H' a' w' hk J=>by
         obtain⟨S',af,ah,ae,ag,ad,al⟩:=J;have aa:Grow S w S' w':=ab.trans ae;refine⟨ad,aa.cb,fun F O=>?_⟩;refine rB (fun x hx=>Cb.mono hS aa hx) _ _ _ _ (xE u E hQ f _ T H' a' w' S' hB.2 hk af ah (hG.trans aa) (hN.trans ag hG.le.N) ad al F O)) h
     unfold gOp;simp only[h0];by_cases M:Region.wanted o (yielded ops a.tmps)=true
     . rw[if_pos M]
       exact nE (fun v w' hk=>hk.2) (xT (fun a w hk=>hk.1) (he.1 M))
     . rw[if_neg M]
       exact(he.2 (by simpa using M)).2
   . exact h.elim
theorem RX{Q':Exit->Act->World->Prop}{id:Nat}{f:List (Nat×Bool)}(hm:P.follows .mixedOrders=true)(E:∀o∈ops,iJ n o=true)(T:Li ops f=true)
   (h:vS P (aX P) (cZ P) mt ops K f ρ H)
   (hR:Rel n S0 w0 H0 ρ H a w) (hQ:∀ρ H a w,K ρ H->Rel n S0 w0 H0 ρ H a w->Q' .normal a w):(Code.region id ops true).wp P Q' a w:=by
 obtain⟨S,M,hF,Z,hN,hd,hn⟩:=hR;simp only[Li,Bool.and_eq_true,decide_eq_true_eq]at T;obtain⟨⟨hs,I⟩,F⟩:=T
 let w1:World:={ w with drawn:=w.drawn+1 }
 have J:St S w1 H:=M.after (Nat.le_refl _) fun _ _=>rfl
 have u:Grow S w S w1:=M.grow rfl rfl rfl (Nat.le_refl _) fun _ _=>rfl
 have O:FR S w1 ρ a:=hF.keep S.le_refl (u.kept M);refine wp_region_any hm (qE (C:=Cb S w1) (R:=Rw) Rw.refl _ _ _ _ ?_);have:=xE (Q':=Q') E hs hQ f (Array.replicate ops.size false) ρ H a w1 S F h J O (Z.trans u) hN hd hn w1 (Rw.refl w1);rw[I]at this;exact this
structure Pin(S:Sg)(w:World)(Hp:aG):Prop where
 rows:xF S w Hp
 fz:∀k r,Hp k=some r->∀g,blk (S.loc k)=some g->S.fz g/\¬S.ro g
 disj:∀k k' r r',Hp k=some r->Hp k'=some r'->k≠k'->∀g,blk (S.loc k)=some g->blk (S.loc k')≠some g
def abR(S:Sg)(Hp:aG)(g:Nat):Prop:=∃k r,Hp k=some r/\blk (S.loc k)=some g
def Sg.unpin(S:Sg)(Hp:aG):Sg:={ S with fz:=fun g=>S.fz g/\¬abR S Hp g }
def Sg.pin(S:Sg)(Hp:aG):Sg:={ S with fz:=fun g=>S.fz g\/abR S Hp g }
theorem Sg.le_unpin(S:Sg)(Hp:aG):S.le (S.unpin Hp):=⟨fun _ h=>h,Nat.le_refl _,fun _ _=>rfl,fun _ _=>rfl⟩
theorem Sg.unpin_le(S:Sg)(Hp:aG):(S.unpin Hp).le S:=⟨fun _ h=>h,Nat.le_refl _,fun _ _=>rfl,fun _ _=>rfl⟩
theorem Sg.le_pin(S:Sg)(Hp:aG):S.le (S.pin Hp):=⟨fun _ h=>h,Nat.le_refl _,fun _ _=>rfl,fun _ _=>rfl⟩
theorem Pin.merge{Hp Z:aG}(h:Pin S w Hp)(I:St S w H)(O:∀k r,Z k=some r->H k=some r\/Hp k=some r):St (S.unpin Hp) w Z:=by
 have hr:∀k r,Z k=some r->RowOK S w k r:=fun k r u=>by
   rcases O k r u with h1|h1
   . exact I.rows k r h1
   . exact h.rows k r h1
 refine⟨fun k u=>⟨I.ro_fz k u,fun⟨i,r,hi,E⟩=>(h.fz i r hi k E).2 u⟩,fun k u=>I.fz_lt k u.1,fun k r u=>(hr k r u).keep (S.le_unpin Hp) (eL.refl S w) (fun _ _=>rfl),fun k r u g E hf=>?_,fun k k' r r' u T J g E F=>?_,I.tabs⟩
 . rcases O k r u with h1|h1
   . exact I.free k r h1 g E hf.1
   . exact hf.2 ⟨k,r,h1,E⟩
 . rcases O k r u with h1|h1 <;> rcases O k' r' T with M|M
   . exact I.disj k k' r r' h1 M J g E F
   . exact I.free k r h1 g E (h.fz k' r' M g F).1
   . exact I.free k' r' M g F (h.fz k r h1 g E).1
   . exact h.disj k k' r r' h1 M J g E F
theorem Pin.keep{Hp:aG}{S':Sg}{w':World}(h:Pin S w Hp)(O:St S w H)(u:Grow S w S' w'):Pin S' w' Hp:=by
 refine⟨fun k r E=>(h.rows k r E).keep u.le (u.kept O) (fun g F=>u.same g (h.fz k r E g F).1),fun k r E g F=>?_,fun k k' r r' E I J g F=>?_⟩
 . rw[u.le.loc k (h.rows k r E).lt]at F
   have h1:=h.fz k r E g F;refine⟨u.fz g h1.1,fun T=>?_⟩;rcases u.newro g T with M|M
   . exact h1.2 M
   . exact M h1.1
 . rw[u.le.loc k (h.rows k r E).lt]at F
   rw[u.le.loc k' (h.rows k' r' I).lt];exact h.disj k k' r r' E I J g F
theorem Cb.pin{wb w:World}{H Hp:aG}(E:St S wb H)(F:Pin S wb Hp)(h:Cb S wb w):St (S.unpin Hp) w Hp/\Agree (S.unpin Hp) Hp wb w:=by
 have J:Grow S wb S w:=⟨S.le_refl,fun _ h=>h,h.1,h.2.1,h.2.2.1,h.2.2.2.1,h.2.2.2.2,fun _ h=>.inl h⟩;exact⟨(F.keep E J).merge (h.st E) (fun k r u=>.inr u),⟨fun k u=>h.2.2.2.2 k (E.ro_fz k u),fun k r u g I=>h.2.2.2.2 g (F.fz k r u g I).1⟩⟩
theorem uX{Q':Exit->Act->World->Prop}{Hp:aG}(u:∀o∈ops,iJ n o=true)(E:Region.noSelect ops=true)
   (hQ:∀ρ H a w S,K ρ H->St S w H->Pin S w Hp->FR S w ρ a->Grow S0 w0 S w->eH S0.N H0 H->a.defers=[]->a.tmps.size=n->Q' .normal a w):
   ∀(f:List (Nat×Bool)) (listed:Array Bool) (ρ:Env) (H:aG) (a:Act) (w:World) (S:Sg),lX ops f listed=true ->
     nV P (aX P) (cZ P) mt ops K Hp f ρ H->St S w H->Pin S w Hp->FR S w ρ a->Grow S0 w0 S w->eH S0.N H0 H->a.defers=[]->a.tmps.size=n->∀F,Rw w F->gU P .any ops (Cb S w) Rw Q' f.length listed a F
 | [],listed,ρ,H,a,w,S,hB,h,hS,hP,hF,hG,hN,hd,hn,F,h2=>by
   have hg:=hS.grow h2.1 h2.2.1 h2.2.2.1 h2.2.2.2.1 h2.2.2.2.2;exact⟨by simpa[lX]using hB,hQ ρ H a F S h (hS.after h2.2.2.2.1 h2.2.2.2.2) (hP.keep hS hg) (hF.keep S.le_refl (hg.kept hS)) (hG.trans hg) hN hd hn⟩
 | (k,true)::f,listed,ρ,H,a,w,S,hB,h,hS,hP,hF,hG,hN,hd,hn,F,h2=>by
   simp only[lX,Bool.and_eq_true]at hB;obtain⟨⟨J,hf⟩,ao⟩:=hB;unfold nV at h;split at h
   . rename_i o h0
     rw[if_pos rfl]at h;have aa:=u o (Array.mem_of_getElem? h0);obtain⟨z,hz,h1,T⟩:=sP (S:=S.unpin Hp) (CC:=Cb S w) (K:=fun Z _=>nV P (aX P) (cZ P) mt ops K Hp f Z H) (fun w hc=>hc.pin hS hP) u (hP.merge hS fun k r hk=>.inr hk) (hF.keep (S.le_unpin Hp) (eL.refl S w)) hn aa h;have next:∀v,rep (S.unpin Hp) w z v->∀I,Rw w I->gU P .any ops (Cb S w) Rw Q' f.length (listed.setIfInBounds k true) (a.put o.dst v) I:=fun v hv I T=>
       uX u E hQ f _ _ H _ w S ao hz hS hP (FR.put hF (jI (S.unpin_le Hp) (eL.refl (S.unpin Hp) w) _ _ hv)) hG hN (by rw[lJ];exact hd) (by rw[sL];exact hn) I T
     rw[List.length_cons];by_cases M:Region.wanted o (yielded ops a.tmps)=true
     . obtain⟨v,hv,hq⟩:=h1 M
       exact gY h0 (Region.noSelect_spec E) Rw.refl (fun _ _ _=>Rw.trans) (fun _ _ hc J=>hc.rw hS J) _ listed a F (h2.cb hS) (Region.free_spec h0 hf) (by simpa using J) (.inl ⟨M,hq⟩) (fun I T=>next v hv I (h2.trans T))
     . have ad:Region.wanted o (yielded ops a.tmps)=false:=by simpa using M
       exact gY h0 (Region.noSelect_spec E) Rw.refl (fun _ _ _=>Rw.trans) (fun _ _ hc J=>hc.rw hS J) _ listed a F (h2.cb hS) (Region.free_spec h0 hf) (by simpa using J) (.inr ⟨ad,rfl⟩) (fun I an=>next _ (T ad) I (h2.trans an))
   . exact h.elim
 | (k,false)::f,listed,ρ,H,a,w,S,hB,h,hS,hP,hF,hG,hN,hd,hn,F,h2=>by
   simp only[lX,Bool.and_eq_true,decide_eq_true_eq]at hB;unfold nV at h;split at h
   . rename_i o h0
     rw[if_neg (by simp)]at h;have aa:=u o (Array.mem_of_getElem? h0);rw[List.length_cons];refine⟨by rw[hB.1];simp,fun i hi=>?_⟩;rw[hB.1]at hi;have ak:i=k:=by simpa using hi
     subst ak;have O:=hS.grow h2.1 h2.2.1 h2.2.2.1 h2.2.2.2.1 h2.2.2.2.2;have ae:St S F H:=hS.after h2.2.2.2.1 h2.2.2.2.2;have al:Pin S F Hp:=hP.keep hS O;have aj:FR S F ρ a:=hF.keep S.le_refl (O.kept hS);have he:=tE (S0:=S) (w0:=F) (H0:=H) (K:=nV P (aX P) (cZ P) mt ops K Hp f) (K':=fun a' w'=>a'.defers=[]/\Cb S w w'/\∀I,Rw w' I->gU P .any ops (Cb S w) Rw Q' f.length (listed.setIfInBounds i true) a' I) (Q':=fun _ _ _=>False) u ae aj (Grow.refl S F) (eH.refl _ _) hd hn aa
       (fun Z H' a' w' hk J=>by
         obtain⟨S',ag,ai,ac,ah,af,am⟩:=J;have ab:Grow S w S' w':=O.trans ac;refine⟨af,ab.cb,fun I T=>?_⟩;refine rB (fun x hx=>Cb.mono hS ab hx) _ _ _ _ (uX u E hQ f _ Z H' a' w' S' hB.2 hk ag (al.keep ae ac) ai (hG.trans ab) (hN.trans ah hG.le.N) af am I T)) h
     unfold gOp;simp only[h0];by_cases M:Region.wanted o (yielded ops a.tmps)=true
     . rw[if_pos M]
       exact nE (fun v w' hk=>hk.2) (xT (fun a w hk=>hk.1) (he.1 M))
     . rw[if_neg M]
       exact(he.2 (by simpa using M)).2
   . exact h.elim
theorem pE{Q':Exit->Act->World->Prop}{Hp:aG}(J:∀o∈ops,iJ n o=true){i m:Nat}{o:Oper}{u:Array Bool}{K1:Env->aG->Prop}(h0:ops[i]?=some o)(h:aop P (aX P) (cZ P) mt false ops o ρ H K1)
   (hS:St S w H) (hP:Pin S w Hp) (hF:FR S w ρ a) (hd:a.defers=[]) (hn:a.tmps.size=n) {T:World} (O:Rw w T)
   (next:∀I H' E w' S',K1 I H'->St S' w' H'->Pin S' w' Hp->FR S' w' I E->Grow S w S' w'->eH S.N H H'->E.defers=[]->E.tmps.size=n->∀F,Rw w' F->gU P .any ops (Cb S' w') Rw Q' m (u.setIfInBounds i true) E F):
   gOp P ops i (fun E w'=>Cb S w w'/\∀F,Rw w' F->gU P .any ops (Cb S w) Rw Q' m (u.setIfInBounds i true) E F) a T:=by
 have af:=J o (Array.mem_of_getElem? h0);have M:=hS.grow O.1 O.2.1 O.2.2.1 O.2.2.2.1 O.2.2.2.2;have ab:St S T H:=hS.after O.2.2.2.1 O.2.2.2.2;have ai:Pin S T Hp:=hP.keep hS M;have ah:FR S T ρ a:=hF.keep S.le_refl (M.kept hS);have he:=tE (S0:=S) (w0:=T) (H0:=H) (K:=K1) (K':=fun E w'=>E.defers=[]/\Cb S w w'/\∀F,Rw w' F->gU P .any ops (Cb S w) Rw Q' m (u.setIfInBounds i true) E F) (Q':=fun _ _ _=>False) J ab ah (Grow.refl S T) (eH.refl _ _) hd hn af
   (fun I H' E w' hk hr=>by
     obtain⟨S',ad,ag,aa,ae,ac,aj⟩:=hr;have Z:Grow S w S' w':=M.trans aa;refine⟨ac,Z.cb,fun F h3=>?_⟩;exact rB (fun x hx=>Cb.mono hS Z hx) _ _ _ _ (next I H' E w' S' hk ad (ai.keep ab aa) ag Z ae ac aj F h3)) h
 unfold gOp;simp only[h0];by_cases hw:Region.wanted o (yielded ops a.tmps)=true
 . rw[if_pos hw]
   exact nE (fun v w' hk=>hk.2) (xT (fun a w hk=>hk.1) (he.1 hw))
 . rw[if_neg hw]
   exact(he.2 (by simpa using hw)).2
theorem nK{q:Bool}{k:Nat}{u:Env->aG->Prop}(h:zP P (aX P) (cZ P) mt q ops k ρ H u):∃o,ops[k]?=some o/\aop P (aX P) (cZ P) mt q ops o ρ H u:=by
 unfold zP at h;split at h
 . rename_i o h0;exact⟨o,h0,h⟩
 . exact h.elim
theorem gX{Q':Exit->Act->World->Prop}{Hp:aG}(u:∀o∈ops,iJ n o=true)(E:Region.noSelect ops=true)
   (hQ:∀ρ H a w S,K ρ H->St S w H->Pin S w Hp->FR S w ρ a->Grow S0 w0 S w->eH S0.N H0 H->a.defers=[]->a.tmps.size=n->Q' .normal a w):
   ∀(t:Mx) (m:Nat) (listed:Array Bool) (ρ:Env) (H:aG) (a:Act) (w:World) (S:Sg),eT ops t m listed=true ->
     lC P (aX P) (cZ P) mt ops K Hp t ρ H->St S w H->Pin S w Hp->FR S w ρ a->Grow S0 w0 S w->eH S0.N H0 H->a.defers=[]->a.tmps.size=n->∀w2,Rw w w2->gU P .any ops (Cb S w) Rw Q' m listed a w2
 | .nil,m,listed,ρ,H,a,w,S,hB,h,hS,hP,hF,hG,hN,hd,hn,w2,h2=>by
   cases m with
   | succ m=>simp[eT]at hB
   | zero=>
     have hg:=hS.grow h2.1 h2.2.1 h2.2.2.1 h2.2.2.2.1 h2.2.2.2.2;exact⟨by simpa[eT]using hB,hQ ρ H a w2 S h (hS.after h2.2.2.2.1 h2.2.2.2.2) (hP.keep hS hg) (hF.keep S.le_refl (hg.kept hS)) (hG.trans hg) hN hd hn⟩
 | .q k t,m,listed,ρ,H,a,w,S,hB,h,hS,hP,hF,hG,hN,hd,hn,w2,h2=>by
   cases m with
   | zero=>simp[eT]at hB
   | succ m=>
     simp only[eT,Bool.and_eq_true]at hB;obtain⟨⟨hr,hf⟩,ag⟩:=hB;obtain⟨o,h0,h⟩:=nK h;have ae:=u o (Array.mem_of_getElem? h0);obtain⟨z,hz,h1,h3⟩:=sP (S:=S.unpin Hp) (CC:=Cb S w) (K:=fun F _=>lC P (aX P) (cZ P) mt ops K Hp t F H) (fun w hc=>hc.pin hS hP) u (hP.merge hS fun k r hk=>.inr hk) (hF.keep (S.le_unpin Hp) (eL.refl S w)) hn ae h;have next:∀v,rep (S.unpin Hp) w z v->∀w3,Rw w w3->gU P .any ops (Cb S w) Rw Q' m (listed.setIfInBounds k true) (a.put o.dst v) w3:=fun v hv w3 h3=>
       gX u E hQ t m _ _ H _ w S ag hz hS hP (FR.put hF (jI (S.unpin_le Hp) (eL.refl (S.unpin Hp) w) _ _ hv)) hG hN (by rw[lJ];exact hd) (by rw[sL];exact hn) w3 h3
     by_cases hw:Region.wanted o (yielded ops a.tmps)=true
     . obtain⟨v,hv,hq⟩:=h1 hw
       exact gY h0 (Region.noSelect_spec E) Rw.refl (fun _ _ _=>Rw.trans) (fun _ _ hc hr=>hc.rw hS hr) _ listed a w2 (h2.cb hS) (Region.free_spec h0 hf) (by simpa using hr) (.inl ⟨hw,hq⟩) (fun w3 h3=>next v hv w3 (h2.trans h3))
     . have ad:Region.wanted o (yielded ops a.tmps)=false:=by simpa using hw
       exact gY h0 (Region.noSelect_spec E) Rw.refl (fun _ _ _=>Rw.trans) (fun _ _ hc hr=>hc.rw hS hr) _ listed a w2 (h2.cb hS) (Region.free_spec h0 hf) (by simpa using hr) (.inr ⟨ad,rfl⟩) (fun w3 ah=>next _ (h3 ad) w3 (h2.trans ah))
 | .a1 k t,m,listed,ρ,H,a,w,S,hB,h,hS,hP,hF,hG,hN,hd,hn,w2,h2=>by
   cases m with
   | zero=>simp[eT]at hB
   | succ m=>
     simp only[eT,Bool.and_eq_true,decide_eq_true_eq]at hB;obtain⟨o,h0,g⟩:=nK h;refine⟨by rw[hB.1];simp,fun i hi=>?_⟩;rw[hB.1]at hi;simp only[List.mem_cons,List.not_mem_nil,or_false]at hi;subst hi;exact pE u h0 g hS hP hF hd hn h2 fun F H' a' w' S' hk J O T I M Z aa w3 h3=>gX u E hQ t m _ F H' a' w' S' hB.2 hk J O T (hG.trans I) (hN.trans M hG.le.N) Z aa w3 h3
 | .a2 k t k' t',m,listed,ρ,H,a,w,S,hB,h,hS,hP,hF,hG,hN,hd,hn,w2,h2=>by
   cases m with
   | zero=>simp[eT]at hB
   | succ m=>
     simp only[eT,Bool.and_eq_true,decide_eq_true_eq]at hB;obtain⟨h,h'⟩:=h;obtain⟨o,h0,g⟩:=nK h;obtain⟨o',ab,g'⟩:=nK h';refine⟨by rw[hB.1.1];simp,fun i hi=>?_⟩;rw[hB.1.1]at hi;simp only[List.mem_cons,List.not_mem_nil,or_false]at hi;rcases hi with rfl|rfl
     . exact pE u h0 g hS hP hF hd hn h2 fun F H' a' w' S' hk J O T I M Z aa w3 h3=>gX u E hQ t m _ F H' a' w' S' hB.1.2 hk J O T (hG.trans I) (hN.trans M hG.le.N) Z aa w3 h3
     . exact pE u ab g' hS hP hF hd hn h2 fun F H' a' w' S' hk J O T I M Z aa w3 h3=>gX u E hQ t' m _ F H' a' w' S' hB.2 hk J O T (hG.trans I) (hN.trans M hG.le.N) Z aa w3 h3
 | .a3 k t k' t' k'' t'',m,listed,ρ,H,a,w,S,hB,h,hS,hP,hF,hG,hN,hd,hn,w2,h2=>by
   cases m with
   | zero=>simp[eT]at hB
   | succ m=>
     simp only[eT,Bool.and_eq_true,decide_eq_true_eq]at hB;obtain⟨h,h',af⟩:=h;obtain⟨o,h0,g⟩:=nK h;obtain⟨o',ab,g'⟩:=nK h';obtain⟨aj,ac,ai⟩:=nK af;refine⟨by rw[hB.1.1.1];simp,fun i hi=>?_⟩;rw[hB.1.1.1]at hi;simp only[List.mem_cons,List.not_mem_nil,or_false]at hi;rcases hi with rfl|rfl|rfl
     . exact pE u h0 g hS hP hF hd hn h2 fun F H' a' w' S' hk J O T I M Z aa w3 h3=>gX u E hQ t m _ F H' a' w' S' hB.1.1.2 hk J O T (hG.trans I) (hN.trans M hG.le.N) Z aa w3 h3
     . exact pE u ab g' hS hP hF hd hn h2 fun F H' a' w' S' hk J O T I M Z aa w3 h3=>gX u E hQ t' m _ F H' a' w' S' hB.1.2 hk J O T (hG.trans I) (hN.trans M hG.le.N) Z aa w3 h3
     . exact pE u ac ai hS hP hF hd hn h2 fun F H' a' w' S' hk J O T I M Z aa w3 h3=>gX u E hQ t'' m _ F H' a' w' S' hB.2 hk J O T (hG.trans I) (hN.trans M hG.le.N) Z aa w3 h3
theorem Nf{Q':Exit->Act->World->Prop}{id:Nat}{l:List Nat}{f:List (Nat×Bool)}(hm:P.follows .mixedOrders=true)(ak:∀o∈ops,iJ n o=true)(hl:∀k,k∈l->(H k).isSome=true)(hB:Li ops f=true)
   (h:∀Hp T:aG,(∀k,k∈l->Hp k=H k)->(∀k,k∉l->T k=H k)->(∀k,k∉l->Hp k=none)->(∀k,k∈l->T k=none)->nV P (aX P) (cZ P) mt ops (kU l H K) Hp f ρ T)
   (hR:Rel n S0 w0 H0 ρ H a w) (hQ:∀ρ H a w,K ρ H->Rel n S0 w0 H0 ρ H a w->Q' .normal a w):(Code.region id ops true).wp P Q' a w:=by
 obtain⟨S,hS,hF,hG,hN,hd,hn⟩:=hR;simp only[Li,Bool.and_eq_true,decide_eq_true_eq]at hB;obtain⟨⟨hs,aw⟩,aj⟩:=hB
 let Hp:aG:=fun k=>if k∈l then H k else none
 let T:aG:=fun k=>if k∈l then none else H k
 have aa:∀k,k∈l->Hp k=H k:=fun k u=>if_pos u
 have al:∀k,k∉l->Hp k=none:=fun k u=>if_neg u
 have ae:∀k,k∉l->T k=H k:=fun k u=>if_neg u
 have Z:∀k,k∈l->T k=none:=fun k u=>if_pos u
 have I:∀k r,Hp k=some r->H k=some r/\k∈l:=fun k r u=>by
   by_cases h:k∈l
   . exact⟨by rw[<-aa k h];exact u,h⟩
   . rw[al k h]at u;cases u
 have M:∀k r,T k=some r->H k=some r/\k∉l:=fun k r u=>by
   by_cases h:k∈l
   . rw[Z k h]at u;cases u
   . exact⟨by rw[<-ae k h];exact u,h⟩
 let w1:World:={ w with drawn:=w.drawn+1 }
 have E:St S w1 H:=hS.after (Nat.le_refl _) fun _ _=>rfl
 have am:Grow S w S w1:=hS.grow rfl rfl rfl (Nat.le_refl _) fun _ _=>rfl
 have ar:FR S w1 ρ a:=hF.keep S.le_refl (am.kept hS);have ap:St (S.pin Hp) w1 T:=by
   refine⟨fun k u=>.inl (E.ro_fz k u),fun k u=>?_,fun k r u=>(E.rows k r (M k r u).1).keep (S.le_pin Hp) (eL.refl S w1) (fun _ _=>rfl),fun k r u g O hf=>?_,fun k k' r r' u ad ah g O af=>E.disj k k' r r' (M k r u).1 (M k' r' ad).1 ah g O af,E.tabs⟩
   . rcases u with h1|⟨i,r,hi,O⟩
     . exact E.fz_lt k h1
     . exact(E.rows i r (I i r hi).1).block_lt O
   . rcases hf with h1|⟨i,r',hi,af⟩
     . exact E.free k r (M k r u).1 g O h1
     . exact E.disj k i r r' (M k r u).1 (I i r' hi).1 (fun e=>(M k r u).2 (e▸(I i r' hi).2)) g O af
 have ax:Pin (S.pin Hp) w1 Hp:=by
   refine⟨fun k r u=>(E.rows k r (I k r u).1).keep (S.le_pin Hp) (eL.refl S w1) (fun _ _=>rfl),fun k r u g O=>⟨.inr ⟨k,r,u,O⟩,fun h1=>E.free k r (I k r u).1 g O (E.ro_fz g h1)⟩,fun k k' r r' u ad ah g O=>E.disj k k' r r' (I k r u).1 (I k' r' ad).1 ah g O⟩
 refine wp_region_any hm (qE (C:=Cb (S.pin Hp) w1) (R:=Rw) Rw.refl _ _ _ _ ?_);have:=uX (Q':=Q') (Hp:=Hp) (K:=kU l H K) (S0:=S.pin Hp) (w0:=w1) (H0:=T) ak hs (fun ao H' a' w' S' u an aq ay F ai au az=>by
   have ag:∀k,k∈l->H' k=none:=fun k u=>by
     obtain⟨r,hr⟩:=Option.isSome_iff_exists.1 (hl k u);exact ai k (hS.rows k r hr).lt (Z k u)
   let Hm:aG:=fun k=>if k∈l then H k else H' k
   have ab:∀k,k∈l->Hm k=H k:=fun k u=>if_pos u
   have ac:∀k,k∉l->Hm k=H' k:=fun k u=>if_neg u
   refine hQ ao Hm a' w' (u ag Hm ab ac) ⟨S'.unpin Hp,aq.merge an (fun k r u=>?_),ay.keep (S'.le_unpin Hp) (eL.refl S' w'),?_,?_,au,az⟩
   . by_cases J:k∈l
     . right;rw[aa k J,<-ab k J];exact u
     . left;rw[<-ac k J];exact u
   . refine hG.trans (am.trans ⟨⟨F.le.ro, F.le.N, F.le.loc, F.le.sz⟩, fun k u => ⟨F.fz k (.inl u), fun ⟨i, r, hi, hb⟩ => by
       have av:=E.rows i r (I i r hi).1;have e:S'.loc i=S.loc i:=F.le.loc i av.lt;rw[show(S'.loc i)=S.loc i from e]at hb;exact E.free i r (I i r hi).1 k hb u⟩,F.os,F.tape,F.output,F.size,fun k u=>F.same k (.inl u),fun k u=>by
       rcases F.newro k u with h2|h2
       . exact .inl h2
       . exact .inr fun h3=>h2 (.inl h3)⟩)
   . intro k u h0
     have hH:=hN k u h0;by_cases J:k∈l
     . rw[ab k J];exact hH
     . rw[ac k J]
       exact ai k (Nat.lt_of_lt_of_le u hG.le.N) (by rw[ae k J];exact hH)) f (Array.replicate ops.size false) ρ T a w1 (S.pin Hp) aj (h Hp T aa ae al Z) ap ax (ar.keep (S.le_pin Hp) (eL.refl S w1)) (Grow.refl _ _) (eH.refl _ _) hd hn w1 (Rw.refl w1)
 rw[aw]at this;exact this
theorem OZ{Q':Exit->Act->World->Prop}{id:Nat}{l:List Nat}{t:Mx}(hm:P.follows .mixedOrders=true)(ak:∀o∈ops,iJ n o=true)(hl:∀k,k∈l->(H k).isSome=true)(hB:Kz ops t=true)
   (h:∀Hp T:aG,(∀k,k∈l->Hp k=H k)->(∀k,k∉l->T k=H k)->(∀k,k∉l->Hp k=none)->(∀k,k∈l->T k=none)->lC P (aX P) (cZ P) mt ops (kU l H K) Hp t ρ T)
   (hR:Rel n S0 w0 H0 ρ H a w) (hQ:∀ρ H a w,K ρ H->Rel n S0 w0 H0 ρ H a w->Q' .normal a w):(Code.region id ops true).wp P Q' a w:=by
 obtain⟨S,hS,hF,hG,hN,hd,hn⟩:=hR;simp only[Kz,Bool.and_eq_true]at hB;obtain⟨hs,aj⟩:=hB
 let Hp:aG:=fun k=>if k∈l then H k else none
 let T:aG:=fun k=>if k∈l then none else H k
 have aa:∀k,k∈l->Hp k=H k:=fun k u=>if_pos u
 have al:∀k,k∉l->Hp k=none:=fun k u=>if_neg u
 have ae:∀k,k∉l->T k=H k:=fun k u=>if_neg u
 have Z:∀k,k∈l->T k=none:=fun k u=>if_pos u
 have I:∀k r,Hp k=some r->H k=some r/\k∈l:=fun k r u=>by
   by_cases h:k∈l
   . exact⟨by rw[<-aa k h];exact u,h⟩
   . rw[al k h]at u;cases u
 have M:∀k r,T k=some r->H k=some r/\k∉l:=fun k r u=>by
   by_cases h:k∈l
   . rw[Z k h]at u;cases u
   . exact⟨by rw[<-ae k h];exact u,h⟩
 let w1:World:={ w with drawn:=w.drawn+1 }
 have E:St S w1 H:=hS.after (Nat.le_refl _) fun _ _=>rfl
 have am:Grow S w S w1:=hS.grow rfl rfl rfl (Nat.le_refl _) fun _ _=>rfl
 have ar:FR S w1 ρ a:=hF.keep S.le_refl (am.kept hS);have ap:St (S.pin Hp) w1 T:=by
   refine⟨fun k u=>.inl (E.ro_fz k u),fun k u=>?_,fun k r u=>(E.rows k r (M k r u).1).keep (S.le_pin Hp) (eL.refl S w1) (fun _ _=>rfl),fun k r u g O hf=>?_,fun k k' r r' u ad ah g O af=>E.disj k k' r r' (M k r u).1 (M k' r' ad).1 ah g O af,E.tabs⟩
   . rcases u with h1|⟨i,r,hi,O⟩
     . exact E.fz_lt k h1
     . exact(E.rows i r (I i r hi).1).block_lt O
   . rcases hf with h1|⟨i,r',hi,af⟩
     . exact E.free k r (M k r u).1 g O h1
     . exact E.disj k i r r' (M k r u).1 (I i r' hi).1 (fun e=>(M k r u).2 (e▸(I i r' hi).2)) g O af
 have aw:Pin (S.pin Hp) w1 Hp:=by
   refine⟨fun k r u=>(E.rows k r (I k r u).1).keep (S.le_pin Hp) (eL.refl S w1) (fun _ _=>rfl),fun k r u g O=>⟨.inr ⟨k,r,u,O⟩,fun h1=>E.free k r (I k r u).1 g O (E.ro_fz g h1)⟩,fun k k' r r' u ad ah g O=>E.disj k k' r r' (I k r u).1 (I k' r' ad).1 ah g O⟩
 refine wp_region_any hm (qE (C:=Cb (S.pin Hp) w1) (R:=Rw) Rw.refl _ _ _ _ ?_);have:=gX (Q':=Q') (Hp:=Hp) (K:=kU l H K) (S0:=S.pin Hp) (w0:=w1) (H0:=T) ak hs (fun ao H' a' w' S' u an aq ax F ai au ay=>by
   have ag:∀k,k∈l->H' k=none:=fun k u=>by
     obtain⟨r,hr⟩:=Option.isSome_iff_exists.1 (hl k u);exact ai k (hS.rows k r hr).lt (Z k u)
   let Hm:aG:=fun k=>if k∈l then H k else H' k
   have ab:∀k,k∈l->Hm k=H k:=fun k u=>if_pos u
   have ac:∀k,k∉l->Hm k=H' k:=fun k u=>if_neg u
   refine hQ ao Hm a' w' (u ag Hm ab ac) ⟨S'.unpin Hp,aq.merge an (fun k r u=>?_),ax.keep (S'.le_unpin Hp) (eL.refl S' w'),?_,?_,au,ay⟩
   . by_cases J:k∈l
     . right;rw[aa k J,<-ab k J];exact u
     . left;rw[<-ac k J];exact u
   . refine hG.trans (am.trans ⟨⟨F.le.ro, F.le.N, F.le.loc, F.le.sz⟩, fun k u => ⟨F.fz k (.inl u), fun ⟨i, r, hi, hb⟩ => by
       have av:=E.rows i r (I i r hi).1;have e:S'.loc i=S.loc i:=F.le.loc i av.lt;rw[show(S'.loc i)=S.loc i from e]at hb;exact E.free i r (I i r hi).1 k hb u⟩,F.os,F.tape,F.output,F.size,fun k u=>F.same k (.inl u),fun k u=>by
       rcases F.newro k u with h2|h2
       . exact .inl h2
       . exact .inr fun h3=>h2 (.inl h3)⟩)
   . intro k u h0
     have hH:=hN k u h0;by_cases J:k∈l
     . rw[ab k J];exact hH
     . rw[ac k J]
       exact ai k (Nat.lt_of_lt_of_le u hG.le.N) (by rw[ae k J];exact hH)) t ops.size (Array.replicate ops.size false) ρ T a w1 (S.pin Hp) aj (h Hp T aa ae al Z) ap aw (ar.keep (S.le_pin Hp) (eL.refl S w1)) (Grow.refl _ _) (eH.refl _ _) hd hn w1 (Rw.refl w1)
 exact this
end
end Go.Aw
end
section
namespace Go.Aw
open Go.RowKit
section
variable{P:Program}{n:Nat}{S0:Sg}{w0:World}{H0:aG}{mt:Nat->Bool}{ops:Array Oper}{K:Env->aG->Prop}{ρ:Env}{H:aG}{a:Act}{w:World}{S:Sg}
theorem Ez(u:∀o∈ops,iJ n o=true){Q':Exit->Act->World->Prop}(J:∀ρ H a w,K ρ H->Rel n S0 w0 H0 ρ H a w->Q' .normal a w):
   ∀(l:List Oper) (ρ:Env) (H:aG) (a:Act) (w:World),(∀o∈l,iJ n o=true)->uQ P (aX P) (cZ P) mt false ops K l ρ H->Rel n S0 w0 H0 ρ H a w->wpList P ops Q' l a w
 | [],ρ,H,a,w,_,h,hR=>J ρ H a w h hR
 | o::rest,ρ,H,a,w,hl,h,hR=>by
   obtain⟨S,O,hF,M,T,hd,Z⟩:=hR;have I:=tE (K':=wpList P ops Q' rest) (Q':=Q') u O hF M T hd Z (hl o (by simp))
     (fun F H' a' w' hk hr=>Ez u J rest F H' a' w' (fun o ho=>hl o (by simp[ho])) hk hr) h
   unfold wpList;by_cases E:Region.wanted o (yielded ops a.tmps)=true
   . rw[if_pos E];exact .inl (I.1 E)
   . rw[if_neg E];exact I.2 (by simpa using E)
def Cls(S:Sg)(H:aG)(w1 w:World):Prop:=
 w.os=w1.os/\w.tape=w1.tape/\w.output=w1.output/\w1.heap.size<=w.heap.size/\∀k,k<w1.heap.size->w.heap[k]?=w1.heap[k]?
theorem Cls.st{w1:World}(u:St S w1 H)(h:Cls S H w1 w):St S w H:=u.after h.2.2.2.1 h.2.2.2.2
theorem Cls.grow{w1:World}(u:St S w1 H)(h:Cls S H w1 w):Grow S w1 S w:=u.grow h.1 h.2.1 h.2.2.1 h.2.2.2.1 h.2.2.2.2
theorem Cls.agree{w1:World}(u:St S w1 H)(h:Cls S H w1 w):Agree S H w1 w:=
 ⟨(h.grow u).kept u,fun k r F g E=>h.2.2.2.2 g ((u.rows k r F).block_lt E)⟩
theorem MH{P:Program}{o:Oper}{a:Act}{w w1:World}{v:Value}(E:Cls S H w1 w)(h:o.quietAt P a (Rw w) w v):o.quietAt P a (Cls S H w1) w v:=by
 unfold Oper.quietAt at *;generalize (execOp a.eval o).run P w=r at *;cases r with
 | ok m w'=>
   cases m <;> simp only[Oper.quietUpon]at h |-
   case value u=>exact h
   case skip=>exact h
   case enter f args=>exact⟨h.1,h.2.mono fun e w2 ⟨M,Z,O,I,T,J⟩=>⟨M,Z.trans E.1,O.trans E.2.1,I.trans E.2.2.1,Nat.le_trans E.2.2.2.1 T,fun k F=>(J k (Nat.lt_of_lt_of_le F E.2.2.2.1)).trans (E.2.2.2.2 k F)⟩⟩
 | halt x w'=>simp only[Oper.quietUpon]at h
theorem DM{w1:World}(E:∀o∈ops,iJ n o=true)(M:St S w1 H):∀(l:List Oper) (ρ:Env) (a:Act),(∀o∈l,iJ n o=true)->uQ P (aX P) (cZ P) mt true ops K l ρ H->FR S w1 ρ a->a.defers=[]->a.tmps.size=n ->
   wpQuiet P ops (Cls S H w1) (fun F=>∃u,K u H/\FR S w1 u F/\F.defers=[]/\F.tmps.size=n) l a
 | [],ρ,a,_,h,hF,hd,hn=>⟨ρ,h,hF,hd,hn⟩
 | o::rest,ρ,a,hl,h,hF,hd,hn=>by
   obtain⟨z,Z,h1,h2⟩:=sP (CC:=Cls S H w1) (fun w I=>⟨I.st M,I.agree M⟩) E M hF hn (hl o (by simp)) h;have next:∀v,rep S w1 z v->wpQuiet P ops (Cls S H w1) (fun F=>∃u,K u H/\FR S w1 u F/\F.defers=[]/\F.tmps.size=n) rest (a.put o.dst v):=fun v O=>
     DM E M rest _ _ (fun o ho=>hl o (by simp[ho])) Z (FR.put hF O) (by rw[lJ];exact hd) (by rw[sL];exact hn)
   unfold wpQuiet;by_cases J:Region.wanted o (yielded ops a.tmps)=true
   . rw[if_pos J]
     obtain⟨v,O,T⟩:=h1 J;exact⟨v,fun w I=>MH I (T w I),next v O⟩
   . rw[if_neg J]
     exact next _ (h2 (by simpa using J))
end
theorem uH{P:Program}{ops:Array Oper}{C:World->Prop}{Q Q':Act->Prop}(E:∀a,Q a->Q' a):∀(l:List Oper) (a:Act),wpQuiet P ops C Q l a->wpQuiet P ops C Q' l a
 | [],a,h=>E a h
 | o::rest,a,h=>by
   unfold wpQuiet at h |-;split
   . rename_i u
     rw[if_pos u]at h;exact Oper.quiet_mono (fun F I=>uH E rest F I) h
   . rename_i u
     rw[if_neg u]at h;exact uH E rest _ h
def vT(n:Nat):Code->Bool
 | .region _ ops _=>ops.all (iJ n)
 | .seq a b=>vT n a&&vT n b
 | .cond c a b=>opB n c&&(vT n a&&vT n b)
 | .block _ c=>vT n c
 | .loop c=>vT n c
 | .scope c=>vT n c
 | _=>true
def QZ(n:Nat)(S0:Sg)(w0:World)(H0:aG)(Q:Ex->Env->aG->Prop):Exit->Act->World->Prop
 | .normal,a,w=>∃ρ H,Q .normal ρ H/\Rel n S0 w0 H0 ρ H a w
 | .exit id,a,w=>∃ρ H,Q (.exit id) ρ H/\Rel n S0 w0 H0 ρ H a w
 | .ret,a,w=>∃ρ H,Q .ret ρ H/\Rel n S0 w0 H0 ρ H a w
 | _,_,_=>False
theorem lO{P:Program}{n:Nat}{S0:Sg}{w0:World}{H0:aG}{mt:Nat->Bool}(T:P.follows .mixedOrders=true):∀(c:Code) (Q:Ex->Env->aG->Prop) (ρ:Env) (H:aG) (a:Act) (w:World),vT n c=true ->
   awp P (aX P) (cZ P) mt c Q ρ H->Rel n S0 w0 H0 ρ H a w->c.wp P (QZ n S0 w0 H0 Q) a w
 | .skip,Q,ρ,H,a,w,_,h,E=>wp_skip ⟨ρ,H,h,E⟩
 | .region id ops false,Q,ρ,H,a,w,hb,h,E=>by
   rw[Et]at h;have u:∀o∈ops,iJ n o=true:=fun o ho=>Array.all_eq_true_iff_forall_mem.1 hb o ho
   exact wp_region_list (Ez u (fun ρ H a w F O=>⟨ρ,H,F,O⟩) ops.toList ρ H a w (fun o ho=>u o (Array.mem_toList_iff.1 ho)) h E)
 | .region id ops true,Q,ρ,H,a,w,hb,h,E=>by
   rw[KT]at h;have u:∀o∈ops,iJ n o=true:=fun o ho=>Array.all_eq_true_iff_forall_mem.1 hb o ho
   rcases h with⟨_,ab,h⟩|⟨hB,h⟩|⟨f,hB,h⟩|⟨l,f,hl,hB,h⟩|⟨l,t,hl,hB,h⟩
   . obtain⟨S,hS,hF,hG,hN,hd,hn⟩:=E
     let w1:World:={ w with drawn:=w.drawn+1 }
     have Z:St S w1 H:=hS.after (Nat.le_refl _) fun _ _=>rfl
     have ac:Grow S w S w1:=hS.grow rfl rfl rfl (Nat.le_refl _) fun _ _=>rfl
     have ad:FR S w1 ρ a:=hF.keep S.le_refl (ac.kept hS);refine wp_region_quiet (C:=Cls S H w1) T ab ⟨rfl,rfl,rfl,Nat.le_refl _,fun _ _=>rfl⟩ ?_;have:=DM u Z ops.toList ρ a (fun o ho=>u o (Array.mem_toList_iff.1 ho)) h ad hd hn;refine uH (fun a' ⟨M,F,ae,ag,ai⟩ w' hc=>?_) ops.toList a this;exact⟨M,H,F,S,hc.st Z,ae.keep S.le_refl ((hc.grow Z).kept Z),hG.trans (ac.trans (hc.grow Z)),hN,ag,ai⟩
   . exact NW T u hB h E fun ρ H a w F O=>⟨ρ,H,F,O⟩
   . exact RX T u hB h E fun ρ H a w F O=>⟨ρ,H,F,O⟩
   . exact Nf T u hl hB h E fun ρ H a w F O=>⟨ρ,H,F,O⟩
   . exact OZ T u hl hB h E fun ρ H a w F O=>⟨ρ,H,F,O⟩
 | .seq c d,Q,ρ,H,a,w,hb,h,E=>by
   simp only[vT,Bool.and_eq_true]at hb;rw[Qj]at h;refine wp_seq (wp_mono (lO T c _ ρ H a w hb.1 h E) fun e a' w' J=>?_);cases e <;> simp only[QZ,Exit.then]at J |-
   case normal=>obtain⟨M,H',F,O⟩:=J;exact lO T d Q M H' a' w' hb.2 F O
   case exit id=>exact J
   case ret=>exact J
 | .cond c x y,Q,ρ,H,a,w,hb,h,E=>by
   simp only[vT,Bool.and_eq_true]at hb;rw[KU]at h;unfold vP at h;split at h
   . rename_i t ht
     obtain⟨S,hS,hF,hG,hN,hd,hn⟩:=E;have e:=cC hF (x:=c) (hn▸hb.1);rw[ht]at e;simp only[rep]at e;have E:Rel n S0 w0 H0 ρ H a w:=⟨S,hS,hF,hG,hN,hd,hn⟩;exact wp_cond_split e (fun ht=>lO T x Q ρ H a w hb.2.1 (h.1 ht) E) (fun ht=>lO T y Q ρ H a w hb.2.2 (h.2 ht) E)
   . exact h.elim
 | .block id c,Q,ρ,H,a,w,hb,h,E=>by
   rw[FS]at h;refine wp_block (wp_mono (lO T c _ ρ H a w hb h E) fun e a' w' J=>?_);cases e <;> simp only[QZ,Exit.inBlock]at J |-
   case normal=>exact J
   case ret=>exact J
   case exit i=>
     obtain⟨M,H',F,O⟩:=J;simp only[Ex.blk]at F;by_cases e:i=id
     . rw[if_pos e]at F |-;exact⟨M,H',F,O⟩
     . rw[if_neg e]at F |-;exact⟨M,H',F,O⟩
 | .loop c,Q,ρ,H,a,w,hb,h,E=>by
   rw[J0]at h;obtain⟨I,μ,h0,aa⟩:=h;refine wp_loop_ghost (fun m a w=>∃ρ H,I ρ H/\μ ρ H=m/\Rel n S0 w0 H0 ρ H a w) (μ ρ H) ⟨ρ,H,h0,rfl,E⟩ ?_;rintro m a' w' ⟨M,H',hI,rfl,aj⟩;refine wp_mono (lO T c _ M H' a' w' hb (aa M H' hI) aj) fun e a2 w2 J=>?_
   cases e <;> simp only[QZ,Exit.then]at J |-
   case normal=>obtain⟨af,H2,⟨F,ah⟩,O⟩:=J;exact⟨_,ah,af,H2,F,rfl,O⟩
   case exit id=>exact J
   case ret=>exact J
 | .exit id,Q,ρ,H,a,w,_,h,E=>wp_exit ⟨ρ,H,h,E⟩
 | .ret,Q,ρ,H,a,w,_,h,E=>wp_ret ⟨ρ,H,h,E⟩
 | .rangeFunc ..,_,_,_,_,_,_,h,_=>by simp[awp]at h
 | .scope c,Q,ρ,H,a,w,hb,h,E=>by
   rw[GJ]at h;refine wp_scope_straight (wp_mono (lO T c _ ρ H a w hb h E) fun e a' w' J=>?_);cases e <;> simp only[QZ,Exit.noGoto]at J |-
   case normal=>exact J
   case exit id=>exact J
   case ret=>exact J
 | .label _,Q,ρ,H,a,w,_,h,E=>wp_label ⟨ρ,H,h,E⟩
 | .goto _,_,_,_,_,_,_,h,_=>by simp[awp]at h
 | .refuse _,_,_,_,_,_,_,h,_=>by simp[awp]at h
def B5(P:Program)(ρ:Env)(H:aG):List ResultVar->(List AV->Prop)->Prop
 | [],K=>K []
 | .tmp t::r,K=>B5 P ρ H r fun l=>K (ρ t::l)
 | .cell t ty::r,K=>match ldT P ty with
   | some l=>mU none H l (ρ t) fun x=>B5 P ρ H r fun xs=>K (x::xs)
   | none=>False
def PM(R:AV->Prop):List AV->Prop
 | [x]=>R x
 | l=>R (.tup l)
def Fg(P:Program)(rs:List ResultVar)(R:AV->aG->Prop):Ex->Env->aG->Prop
 | .exit _,_,_=>False
 | _,ρ,H=>B5 P ρ H rs (PM fun x=>R x H)
def aaS(n:Nat):ResultVar->Bool
 | .tmp t=>decide (t<n)
 | .cell t _=>decide (t<n)
def yG(fn:Func)(c:Code)(m:Nat):Bool:=vT fn.ntmps c&&fn.results.toList.all (aaS fn.ntmps)&&decide (m<=fn.ntmps)
section
variable{P:Program}{S:Sg}{H:aG}{w:World}{ρ:Env}{a:Act}
theorem SW{G:Option Bool}{l:Option Nat}{x:AV}{K:AV->Prop}(h:mU G H l x K){u:Value}(E:rep S w x u):∃F,u=.pointer (some F):=by
 unfold mU at h;split at h
 . simp only[rep]at E
   obtain⟨b,o,rfl,_⟩:=E;exact⟨_,rfl⟩
 . simp only[rep]at E
   obtain⟨_,g,m,c,_,rfl⟩:=E;exact⟨_,rfl⟩
 . exact h.elim
def Iy(tmps:Array Value):ResultVar->Sem Value
 | .tmp t=>pure (tmps.getD t undef)
 | .cell b t=>do loadVar t (<-asAddr (tmps.getD b undef))
theorem N7(fn:Func)(u:Array Value):results fn u=(do
   let vs <-fn.results.mapM (Iy u)
   pure (if h:vs.size=1 then vs[0]else .tuple vs)):=by
 unfold results
 congr 1
theorem wZ(J:xF S w H)(F:FR S w ρ a):∀(rs:List ResultVar) (K:List AV->Prop),(∀r∈rs,aaS a.tmps.size r=true)->B5 P ρ H rs K ->
   ∃l vs,K l/\(rs.mapM (Iy a.tmps)).run P w=.ok vs w/\bF S w l vs
 | [],K,_,h=>⟨[],[],h,by simp,by simp[bF]⟩
 | .tmp t::r,K,hb,h=>by
   simp only[B5]at h;obtain⟨l,vs,h1,T,O⟩:=wZ J F r _ (fun x M=>hb x (by simp[M])) h;have I:t<a.tmps.size:=by simpa[aaS]using hb (.tmp t) (by simp)
   refine⟨_,a.tmps.getD t undef::vs,h1,?_,?_⟩
   . rw[List.mapM_cons]
     simp only[Iy,Sem.run_bind,Sem.run_pure,Result.andThen_ok];rw[T];rfl
   . simp only[bF]
     exact⟨_,_,rfl,F t I,O⟩
 | .cell t ty::r,K,hb,h=>by
   simp only[B5]at h;split at h
   . rename_i l hl
     have I:t<a.tmps.size:=by simpa[aaS]using hb (.cell t ty) (by simp)
     obtain⟨z,hz,hd⟩:=Cw (S:=S) (w:=w) hl J h;obtain⟨v,hv,E⟩:=hd trivial _ (F t I);obtain⟨Z,e⟩:=SW h (F t I);have u:=E w (Agree.refl S H w);rw[e]at u;simp only[Instr.loadAt,Instr.sureAddr,pure_bind]at u;obtain⟨l',vs,h1,T,O⟩:=wZ J F r _ (fun x M=>hb x (by simp[M])) hz;refine⟨_,v::vs,h1,?_,?_⟩
     . have ha:(asAddr (a.tmps.getD t undef)).run P w=.ok Z w:=by rw[e];rfl
       rw[List.mapM_cons];simp only[Iy,Sem.run_bind,ha,Sem.run_pure,Result.andThen_ok,u];rw[T];rfl
     . simp only[bF]
       exact⟨_,_,rfl,hv,O⟩
   . exact h.elim
theorem aX.body{f:FuncId}{fn:Func}{c:Code}{args:List AV}{R:AV->aG->Prop}(mt:Nat->Bool)(hm:P.follows .mixedOrders=true)(hf:P.funcs[f]?=some fn)(hb:fn.body=some c)(hc:yG fn c args.length=true)
   (h:awp P (aX P) (cZ P) mt c (Fg P fn.results.toList R) (Bg args) H):aX P f args H R:=by
 intro S w vals hS ha;simp only[yG,Bool.and_eq_true,decide_eq_true_eq]at hc;obtain⟨⟨I,Z⟩,ai⟩:=hc;have af:=fV _ _ ha;refine calls_of_wp hf hb (wp_mono (lO (n:=fn.ntmps) (S0:=S) (w0:=w) (H0:=H) hm c _ _ H _ w I h ⟨S,hS,?_,Grow.refl S w,eH.refl _ _,rfl,?_⟩) ?_)
 . intro t ht
   by_cases e:t<args.length
   . obtain⟨u,h1,F⟩:=AK args vals t ha e
     have hu:(vals.toArray++Array.replicate (fn.ntmps-vals.toArray.size) undef).getD t undef=u:=by
       have aa:t<vals.length:=by omega
       have:vals[t]=u:=by rw[List.getElem?_eq_getElem aa]at h1;injection h1
       simp[Array.getD_eq_getD_getElem?,Array.getElem?_append,aa,this]
     simp only[Bg];rw[hu];exact F
   . simp only[Bg,List.getD,List.getElem?_eq_none (by omega:args.length<=t),Option.getD_none]
     simp only[rep]
 . simp only[Array.size_append,List.size_toArray,Array.size_replicate,af]
   omega
 . intro e a' w' hq
   have O:∀E H',B5 P E H' fn.results.toList (PM fun x=>R x H')->Rel fn.ntmps S w H E H' a' w'->a'.defers=[]/\∃v,(results fn a'.tmps).run P w'=.ok v w'/\acV S w H R (.returned v) w':=by
     rintro E H' h1 ⟨S',J,ac,M,T,ad,ae⟩;refine⟨ad,?_⟩;obtain⟨l,vs,F,h3,h4⟩:=wZ (P:=P) J.rows ac fn.results.toList _ (fun r hr=>by rw[ae];exact List.all_eq_true.1 Z r hr) h1;have hr:(results fn a'.tmps).run P w'=.ok (if h:vs.toArray.size=1 then vs.toArray[0]else .tuple vs.toArray) w':=by
       rw[N7,Array.mapM_eq_mapM_toList];simp only[Sem.run_bind,Sem.run_map];rw[h3];simp only[Result.andThen_ok,Sem.run_pure]
     refine⟨_,hr,?_⟩;unfold PM at F;split at F
     . rename_i x
       simp only[bF]at h4;obtain⟨u,t,rfl,h5,rfl⟩:=h4;exact⟨_,x,H',S',rfl,F,J,by simpa using h5,M,T⟩
     . rename_i ag
       have ah:=fV _ _ h4;have ab:¬vs.toArray.size=1:=by
         intro e;have:l.length=1:=by rw[<-ah];simpa using e
         match l,this with
         | [x],_=>exact ag x rfl
       rw[dif_neg ab];exact⟨_,_,H',S',rfl,F,J,by simp only[rep];exact⟨vs,rfl,h4⟩,M,T⟩
   cases e <;> simp only[QZ,bodyPost]at hq |-
   case normal=>obtain⟨E,H',h1,F⟩:=hq;exact O E H' h1 F
   case ret=>obtain⟨E,H',h1,F⟩:=hq;exact O E H' h1 F
   case exit id=>obtain⟨E,H',h1,F⟩:=hq;exact h1.elim
theorem RC.body{f:FuncId}{fn:Func}{c:Code}{args:List AV}{R:AV->aG->Prop}(mt:Nat->Bool)(J:P.follows .mixedOrders=true)(E:P.funcs[f]?=some fn)(F:fn.body=some c)(M:yG fn c args.length=true)
 (h:awp P (aX P) (cZ P) mt c (Fg P fn.results.toList R) (Bg args) bT):RC P f args R:=fun S w vals u _ I=>aX.body mt J E F M h S w vals u I
theorem PC.body{f:FuncId}{fn:Func}{c:Code}{args:List AV}{r:AV}(mt:Nat->Bool)(F:P.follows .mixedOrders=true)(u:P.funcs[f]?=some fn)(E:fn.body=some c)(I:yG fn c args.length=true)
 (h:awp P (aX P) (cZ P) mt c (Fg P fn.results.toList fun x H'=>Conv H' x r) (Bg args) bT):PC P f args r:=RC.conv (RC.body mt F u E I h)
theorem NC.body{f:FuncId}{fn:Func}{c:Code}{args:List AV}{row:Row}{u:Nat->AV}(mt:Nat->Bool)(I:P.follows .mixedOrders=true)(E:P.funcs[f]?=some fn)(F:fn.body=some c)(J:yG fn c args.length=true)
 (h:awp P (aX P) (cZ P) mt c (Fg P fn.results.toList fun x H'=>∃k,x=u k/\H' k=some row) (Bg args) bT):NC P f args row u:=RC.body mt I E F J h
theorem PC.q{f:FuncId}{args:List AV}{r:AV}(h:PC P f args r)(u:(fv r).isSome=true):cZ P f args H r:=.inl ⟨args,ConvL.refl args,h,u⟩
theorem PC.qn{f:FuncId}{args:List AV}{r:AV}(h:PC P f args r):cZ P f args H (.nf r):=.inr ⟨r,rfl,h⟩
theorem cZ.use{f:FuncId}{args:List AV}{r:AV}{K:AV->aG->Prop}(h:AS P f args H r)(u:K r H):aX P f args H K:=AS.use h u
end
end Go.Aw
end
